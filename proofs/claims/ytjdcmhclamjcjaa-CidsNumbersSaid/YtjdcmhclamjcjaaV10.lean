/- texts of the proof, laid together: Cid5, Cid6, Cid7. -/
import Derived.Test.YtjdcmhclamjcjaaV9
import Derived.Test.YtjdcmhclamjcjaaV2
namespace Go.Proofs.Ytjdcmhclamjcjaa
open Go.RowKit
set_option linter.unusedVariables false
set_option linter.unusedSimpArgs false

set_option maxRecDepth 100000 in
set_option maxHeartbeats 8000000 in
theorem rissue_any (w : World) (p : Nat) (B : List Nat) (L : List Nm) (nx sd : Int) (h : OwnAt 78 75 w p B L nx sd) (hnm : nx ≤ 1000000) :
    Calls Try.prog 26 #[.pointer (some ⟨p, 0, none⟩)] w (IssR 78 75 w p B L nx sd) := by
  have H := Lib.hid h
  have HNX := Lib.hid h.nx; have HPM := Lib.hid h.pm
  have HO := Lib.hid (Off.refl B w); have HB := Lib.hid (Below.refl w.heap.size w)
  obtain ⟨a, cp, hrow, hown, hblk⟩ := h.ex
  have HROW := Lib.hid hrow; have HOWN := Lib.hid hown; have HBK := Lib.hid hblk
  have hL := h.len
  clear hrow hown hblk h
  obtain ⟨n, hn⟩ : ∃ n, L.length = n := ⟨_, rfl⟩
  have HN := Lib.hid hn
  rw [hn] at HROW HOWN hL
  clear hn
  go_enter Try.func26, Try.ntmps26
  go_upto_region 1 with fail
  change Code.wp _ _ _ _ (w.alloc (.cells ([.int .i64 0, .int .u64 0, .int .u64 0, .slice none 0 0, .bool false, .int .u64 0, .int .u64 0, .int .u64 0, .int .u64 0, .int .u64 0, .slice none 0 0, .int .u8 0, .int .u8 0, .int .u8 0, .int .u8 0, .int .u8 0, .int .u8 0, .int .u8 0, .int .u8 0] : List Value).toArray 53))
  have hb := (Below.refl w.heap.size w).alloc (Nat.le_refl _) (.cells ([.int .i64 0, .int .u64 0, .int .u64 0, .slice none 0 0, .bool false, .int .u64 0, .int .u64 0, .int .u64 0, .int .u64 0, .int .u64 0, .slice none 0 0, .int .u8 0, .int .u8 0, .int .u8 0, .int .u8 0, .int .u8 0, .int .u8 0, .int .u8 0, .int .u8 0] : List Value).toArray 53)
  replace HO := Lib.hid (HO.out.next hb)
  replace HB := Lib.hid (bl_next HB.out HB.out.size hb)
  replace HROW := Lib.hid (bl_row hb (lt_of_block HROW.out) HROW.out)
  replace HOWN := Lib.hid (own_below HOWN.out hb)
  have HZ := Lib.hid (heap_alloc_new w (.cells ([.int .i64 0, .int .u64 0, .int .u64 0, .slice none 0 0, .bool false, .int .u64 0, .int .u64 0, .int .u64 0, .int .u64 0, .int .u64 0, .slice none 0 0, .int .u8 0, .int .u8 0, .int .u8 0, .int .u8 0, .int .u8 0, .int .u8 0, .int .u8 0, .int .u8 0] : List Value).toArray 53))
  clear hb
  generalize w.alloc (.cells ([.int .i64 0, .int .u64 0, .int .u64 0, .slice none 0 0, .bool false, .int .u64 0, .int .u64 0, .int .u64 0, .int .u64 0, .int .u64 0, .slice none 0 0, .int .u8 0, .int .u8 0, .int .u8 0, .int .u8 0, .int .u8 0, .int .u8 0, .int .u8 0, .int .u8 0] : List Value).toArray 53) = w1 at HB HROW HOWN HO HZ ⊢
  obtain ⟨gz, hg⟩ : ∃ g, w.heap.size = g := ⟨_, rfl⟩
  rw [hg] at HZ ⊢
  have HGZ := Lib.hid hg
  clear hg
  have c0 := row_cell HROW.out 0 _ rfl
  by_cases h4 : 4 ≤ n
  · skip
    go_wp2_with (first | (refine wpList_store_row rfl 53 _ _ rfl gz rfl [.int .i64 0, .int .u64 0, .int .u64 0, .slice none 0 0, .bool false, .int .u64 0, .int .u64 0, .int .u64 0, .int .u64 0, .int .u64 0, .slice none 0 0, .int .u8 0, .int .u8 0, .int .u8 0, .int .u8 0, .int .u8 0, .int .u8 0, .int .u8 0, .int .u8 0] [.int .i64 0, .int .u64 0, .int .u64 0, .slice none 0 0, .bool false, .int .u64 0, .int .u64 0, .int .u64 0, .int .u64 0, .int .u64 0, .slice none 0 0, .int .u8 0, .int .u8 0, .int .u8 0, .int .u8 0, .int .u8 0, .int .u8 0, .int .u8 0, .int .u8 0] rfl 53 HZ.out rfl rfl (one19 rfl rfl) ?_; intro w9 hz hg9) | fail)
    clear c0
    refine bodyPost_ret (results_cell2 rfl _ _ gz rfl [.int .i64 0, .int .u64 0, .int .u64 0, .slice none 0 0, .bool false, .int .u64 0, .int .u64 0, .int .u64 0, .int .u64 0, .int .u64 0, .slice none 0 0, .int .u8 0, .int .u8 0, .int .u8 0, .int .u8 0, .int .u8 0, .int .u8 0, .int .u8 0, .int .u8 0] _ _ hz Try.underlying53 rfl rfl) rfl ?_
    have hbz : Below w.heap.size w w9 := HB.out.grown hg9 HB.out.size (by intro k hk; injection hk with hk; have := HGZ.out; omega)
    exact ⟨B, UpdO.of_below hbz, .inl ⟨by rw [HN.out]; omega, rfl, H.out.below hbz⟩⟩
  · skip
    have hgzw := HGZ.out
    obtain ⟨b0, b1, b2, b3, b4, b5, b6, b7, hby⟩ := bytes8 (nextM sd)
    have HBY := Lib.hid (fun W => rbytes_any W (nextM sd))
    rw [hby] at HBY
    have HBE := Lib.hid hby
    have HBOK : Hid (cidOk [b0, b1, b2, b3, b4, b5, b6, b7]) := Lib.hid (by rw [← hby]; exact bytes_ok _)
    simp only [List.map_cons, List.map_nil] at HBY
    clear hby HB
    have c2 := row_cell HROW.out 2 _ rfl
    have f2 := row_free HROW.out 2
    go_wp2_with fail
    refine Calls.mono (rnext_any _ sd) ?_
    rintro e wq ⟨rfl, m, rfl⟩
    clear c0 c2 f2
    have hb := bl_drewN (Below.refl w1.heap.size w1) m
    replace HO := Lib.hid (HO.out.next hb)
    replace HROW := Lib.hid (bl_row hb (lt_of_block HROW.out) HROW.out)
    replace HOWN := Lib.hid (own_below HOWN.out hb)
    replace HZ := Lib.hid (bl_row hb (lt_of_block HZ.out) HZ.out)
    clear hb
    generalize w1.drewN m = w2 at HROW HOWN HZ HO ⊢
    have c2 := row_cell HROW.out 2 _ rfl
    have f2 := row_free HROW.out 2
    go_upto_region 4 with fail
    clear c2 f2
    have hgs := grown_setCell w2 p 2 (.int .u64 (nextM sd))
    have hrs := row_setL HROW.out 2 (.int .u64 (nextM sd))
    replace HOWN := Lib.hid (own_grown HOWN.out hgs (fun g hg e => own_ne HOWN.out HROW.out (by decide) (hg.trans e)))
    replace HZ := Lib.hid (grown_row hgs (row_ne HZ.out HROW.out (by decide)) HZ.out)
    replace HO := Lib.hid (HO.out.setCell (k := 2) HPM.out (.int .u64 (nextM sd)))
    replace HROW : Hid ((w2.setCell ⟨p, 2, none⟩ (.int .u64 (nextM sd))).heap[p]? = some (.cells ([.slice a n cp, .int .u64 nx, .int .u64 (nextM sd)] : List Value).toArray 78 (0, 0))) := Lib.hid hrs
    clear hgs hrs
    generalize w2.setCell ⟨p, 2, none⟩ (.int .u64 (nextM sd)) = w3 at HROW HOWN HZ HO ⊢
    go_upto_region 5 with fail
    (try change Code.wp _ _ _ _ (w3.alloc (.cells ([.int .u8 0, .int .u8 0, .int .u8 0, .int .u8 0, .int .u8 0, .int .u8 0, .int .u8 0, .int .u8 0] : List Value).toArray 38)))
    have HSZ : Hid (w.heap.size ≤ w3.heap.size) := Lib.hid HO.out.size
    have hb := (Below.refl w3.heap.size w3).alloc (Nat.le_refl _) (.cells ([.int .u8 0, .int .u8 0, .int .u8 0, .int .u8 0, .int .u8 0, .int .u8 0, .int .u8 0, .int .u8 0] : List Value).toArray 38)
    replace HO := Lib.hid (HO.out.next hb)
    replace HROW := Lib.hid (bl_row hb (lt_of_block HROW.out) HROW.out)
    replace HOWN := Lib.hid (own_below HOWN.out hb)
    replace HZ := Lib.hid (bl_row hb (lt_of_block HZ.out) HZ.out)
    have HC := Lib.hid (heap_alloc_new w3 (.cells ([.int .u8 0, .int .u8 0, .int .u8 0, .int .u8 0, .int .u8 0, .int .u8 0, .int .u8 0, .int .u8 0] : List Value).toArray 38))
    clear hb
    generalize w3.alloc (.cells ([.int .u8 0, .int .u8 0, .int .u8 0, .int .u8 0, .int .u8 0, .int .u8 0, .int .u8 0, .int .u8 0] : List Value).toArray 38) = w4 at HROW HOWN HZ HO HC ⊢
    obtain ⟨gc, hg⟩ : ∃ g, w3.heap.size = g := ⟨_, rfl⟩
    rw [hg] at HC ⊢
    have HGC := Lib.hid hg
    clear hg
    have HGCW : Hid (w.heap.size ≤ gc) := Lib.hid (by rw [← HGC.out]; exact HSZ.out)
    clear HSZ HGC
    have g2 : ∀ z : In (fun y => y.heap[p]? = some (.cells ([.slice a n cp, .int .u64 nx, .int .u64 (nextM sd)] : List Value).toArray 78 (0, 0))), z.w.cell? ⟨p, 2, none⟩ = some (.int .u64 (nextM sd)) := fun z => row_cell z.h 2 _ rfl
    refine wp_plan (.t 0 (.t 1 (.t 2 (.t 3 (.t 4 (.u 5 (.u 6 .done))))))) (fun y => y.heap[p]? = some (.cells ([.slice a n cp, .int .u64 nx, .int .u64 (nextM sd)] : List Value).toArray 78 (0, 0))) (by kernel_rfl) (by kernel_rfl) (by kernel_rfl) (fun c a d v w h => by cases d <;> exact h) HROW.out ?_
    have hb := (Below.refl w4.heap.size w4).drew
    replace HO := Lib.hid (HO.out.next hb)
    replace HROW := Lib.hid (bl_row hb (lt_of_block HROW.out) HROW.out)
    replace HOWN := Lib.hid (own_below HOWN.out hb)
    replace HZ := Lib.hid (bl_row hb (lt_of_block HZ.out) HZ.out)
    replace HC := Lib.hid (bl_row hb (lt_of_block HC.out) HC.out)
    clear hb
    generalize w4.drew = w5 at HROW HOWN HZ HC HO ⊢
    haveI hne : Nonempty (In (fun y => y.heap[p]? = some (.cells ([.slice a n cp, .int .u64 nx, .int .u64 (nextM sd)] : List Value).toArray 78 (0, 0)))) := ⟨⟨w5, HROW.out⟩⟩
    repeat (first | (refine plan_t (by rfl) ?_; (first | go_big_quiet_skip | (go_big_quiet_want; go_big_quiet_op; go_big_quiet_on)); refine wpQuiet_nil ?_))
    clear g2
    have HCLT : Hid (gc < w5.heap.size) := Lib.hid (lt_of_block HC.out)
    refine plan_us (by rfl) (by kernel_rfl) ?_
    intro K hK
    go_wp2_with fail
    refine Calls.mono (HBY.out _) ?_
    rintro e w6 ⟨rfl, ⟨hrb, hsb, hb⟩⟩
    replace HO := Lib.hid (HO.out.next hb)
    replace HROW := Lib.hid (bl_row hb (lt_of_block HROW.out) HROW.out)
    replace HOWN := Lib.hid (own_below HOWN.out hb)
    replace HZ := Lib.hid (bl_row hb (lt_of_block HZ.out) HZ.out)
    replace HC := Lib.hid (bl_row hb (lt_of_block HC.out) HC.out)
    clear hb hsb
    obtain ⟨gb, hgb⟩ : ∃ g, w5.heap.size = g := ⟨_, rfl⟩
    rw [hgb] at hrb ⊢
    have HRB := Lib.hid hrb
    have HGB : Hid (gc < gb) := Lib.hid (by rw [← hgb]; exact HCLT.out)
    clear hrb hgb HCLT
    go_wp2_with fail
    refine ⟨HROW.out, ?_⟩
    refine plan_us (by rfl) (by kernel_rfl) ?_
    intro K hK
    refine wp_copy_grown _ _ _ _ rfl 5 Try.underlying25 infoU8t _ _ 8 8 8 8 rfl rfl gc 0 [.int .u8 0, .int .u8 0, .int .u8 0, .int .u8 0, .int .u8 0, .int .u8 0, .int .u8 0, .int .u8 0] 38 HC.out [.int .u8 b0, .int .u8 b1, .int .u8 b2, .int .u8 b3, .int .u8 b4, .int .u8 b5, .int .u8 b6, .int .u8 b7] rfl (fun _ => ⟨rfl, _, rfl, fun j v hv => by rw [add_none, Nat.zero_add]; exact cell_row (cs := [.int .u8 b0, .int .u8 b1, .int .u8 b2, .int .u8 b3, .int .u8 b4, .int .u8 b5, .int .u8 b6, .int .u8 b7]) HRB.out j v hv⟩) (by simp) (by intro v hv; simp only [List.mem_cons, List.not_mem_nil, or_false] at hv; rcases hv with rfl | rfl | rfl | rfl | rfl | rfl | rfl | rfl <;> rfl) ?_
    intro w7 hr hg
    replace HROW := Lib.hid (grown_row hg (row_ne HROW.out HC.out (by decide)) HROW.out)
    replace HOWN := Lib.hid (own_grown HOWN.out hg (fun g hg e => own_ne HOWN.out HC.out (by decide) (hg.trans e)))
    replace HZ := Lib.hid (grown_row hg (row_ne HZ.out HC.out (by decide)) HZ.out)
    replace HO := Lib.hid (HO.out.fresh hg HGCW.out)
    replace HC : Hid (w7.heap[gc]? = some (.cells ([.int .u8 b0, .int .u8 b1, .int .u8 b2, .int .u8 b3, .int .u8 b4, .int .u8 b5, .int .u8 b6, .int .u8 b7] : List Value).toArray 38 (0, 0))) := Lib.hid hr
    clear hr hg HRB HGB
    refine hK _ _ ⟨HROW.out, ?_⟩
    clear hK K
    clear hne
    show Exit.then _ _ _ _ _
    simp only [Act.put, List.setIfInBounds_toArray, List.set_cons_succ, List.set_cons_zero]
    obtain ⟨hnx0, hnx1⟩ := HNX.out
    have HXO : Hid (nmK.ok ((nx, [b0, b1, b2, b3, b4, b5, b6, b7]) : Nm)) := Lib.hid ⟨⟨by simp only; omega, by simp only; omega⟩, HBOK.out⟩
    have g0 : ∀ z : In (fun y => y.heap[p]? = some (.cells ([.slice a n cp, .int .u64 nx, .int .u64 (nextM sd)] : List Value).toArray 78 (0, 0)) ∧ y.heap[gc]? = some (.cells ([.int .u8 b0, .int .u8 b1, .int .u8 b2, .int .u8 b3, .int .u8 b4, .int .u8 b5, .int .u8 b6, .int .u8 b7] : List Value).toArray 38 (0, 0))), z.w.cell? ⟨p, 0, none⟩ = some (.slice a n cp) := fun z => row_cell z.h.1 0 _ rfl
    have g1 : ∀ z : In (fun y => y.heap[p]? = some (.cells ([.slice a n cp, .int .u64 nx, .int .u64 (nextM sd)] : List Value).toArray 78 (0, 0)) ∧ y.heap[gc]? = some (.cells ([.int .u8 b0, .int .u8 b1, .int .u8 b2, .int .u8 b3, .int .u8 b4, .int .u8 b5, .int .u8 b6, .int .u8 b7] : List Value).toArray 38 (0, 0))), z.w.cell? ⟨p, 1, none⟩ = some (.int .u64 nx) := fun z => row_cell z.h.1 1 _ rfl
    go_upto_region 6 with fail
    refine wp_plan2 15 (.t 0 (.t 2 (.t 3 (.t 4 (.t 5 (.t 7 (.t 8 (.t 9 (.t 10 (.t 11 (.t 12 (.b 1 (.b 6 (.u 13 (.u 14 .done)) 13 (.u 6 (.u 14 .done))) 13 (.u 1 (.u 6 (.u 14 .done))))))))))))))) (.t 15 (.t 16 (.u 17 .done))) (fun y => y.heap[p]? = some (.cells ([.slice a n cp, .int .u64 nx, .int .u64 (nextM sd)] : List Value).toArray 78 (0, 0)) ∧ y.heap[gc]? = some (.cells ([.int .u8 b0, .int .u8 b1, .int .u8 b2, .int .u8 b3, .int .u8 b4, .int .u8 b5, .int .u8 b6, .int .u8 b7] : List Value).toArray 38 (0, 0))) (by kernel_rfl) (by kernel_rfl) (by kernel_rfl) (fun c a d v w h => by cases d <;> exact h) ⟨HROW.out, HC.out⟩ ?_
    have hb := (Below.refl w7.heap.size w7).drew
    replace HO := Lib.hid (HO.out.next hb)
    replace HROW := Lib.hid (bl_row hb (lt_of_block HROW.out) HROW.out)
    replace HOWN := Lib.hid (own_below HOWN.out hb)
    replace HZ := Lib.hid (bl_row hb (lt_of_block HZ.out) HZ.out)
    replace HC := Lib.hid (bl_row hb (lt_of_block HC.out) HC.out)
    clear hb
    generalize w7.drew = w8 at HROW HOWN HZ HC HO ⊢
    haveI hne : Nonempty (In (fun y => y.heap[p]? = some (.cells ([.slice a n cp, .int .u64 nx, .int .u64 (nextM sd)] : List Value).toArray 78 (0, 0)) ∧ y.heap[gc]? = some (.cells ([.int .u8 b0, .int .u8 b1, .int .u8 b2, .int .u8 b3, .int .u8 b4, .int .u8 b5, .int .u8 b6, .int .u8 b7] : List Value).toArray 38 (0, 0)))) := ⟨⟨w8, ⟨HROW.out, HC.out⟩⟩⟩
    repeat (first | (refine plan_t_load (by rfl) (by kernel_rfl) 38 _ rfl gc 0 rfl [.int .u8 b0, .int .u8 b1, .int .u8 b2, .int .u8 b3, .int .u8 b4, .int .u8 b5, .int .u8 b6, .int .u8 b7] _ (fun y hy => rngL hy.2) Try.underlying38 rfl rfl ?_; simp only [Act.put, List.setIfInBounds_toArray, List.set_cons_succ, List.set_cons_zero]) | (refine plan_t (by rfl) ?_; (first | go_big_quiet_skip | (go_big_quiet_want; go_big_quiet_op; go_big_quiet_on)); refine wpQuiet_nil ?_))
    clear g0 g1
    refine plan_b ?_ ?_
    · refine plan_half (by rfl) (by kernel_rfl) ?_
      intro K hK
      go_wp2_with fail
      have hal := (Below.refl w8.heap.size w8).alloc (Nat.le_refl _) (.cells #[] 75)
      have hee : (w8.alloc (.cells #[] 75)).ownsRow 0 75 nmK.N (.slice (some ⟨w8.heap.size, 0, none⟩) 0 0) 0 (nmK.flat []) := ⟨rfl, .inr ⟨_, 0, #[], rfl, Nat.zero_le _, heap_alloc_new w8 (.cells #[] 75), Nat.le_refl _, by unfold maxLen; omega, rfl, rfl⟩⟩
      have HGE : Hid (w.heap.size ≤ w8.heap.size) := Lib.hid HO.out.size
      replace HO := Lib.hid (HO.out.next hal)
      replace HROW := Lib.hid (bl_row hal (lt_of_block HROW.out) HROW.out)
      replace HOWN := Lib.hid (own_below HOWN.out hal)
      replace HZ := Lib.hid (bl_row hal (lt_of_block HZ.out) HZ.out)
      replace HC := Lib.hid (bl_row hal (lt_of_block HC.out) HC.out)
      have HE := Lib.hid hee
      refine ⟨⟨HROW.out, HC.out⟩, ?_⟩
      clear hal hee
      (try change Plan.wp _ _ _ _ _ _ (w8.alloc (.cells #[] 75)))
      generalize w8.alloc (.cells #[] 75) = w9 at HROW HOWN HZ HC HO HE ⊢
      obtain ⟨ge, hge⟩ : ∃ g, w8.heap.size = g := ⟨_, rfl⟩
      rw [hge] at HE HGE ⊢
      clear hge
      refine plan_b ?_ ?_
      · refine plan_half (by rfl) (by kernel_rfl) ?_
        intro K hK
        refine wp_append_rk rnmT _ _ rfl 0 0 (.slice (some ⟨ge, 0, none⟩) 0 0) [] rfl HE.out _ n _ L rfl (RK.At.of_own HOWN.out H.out.ok) (by omega) (Nat.zero_le _) ?_
        intro v' w10 ho2 hg2 hor
        replace HROW := Lib.hid (grown_row hg2 (fun e => own_ne HE.out HROW.out (by decide) e.symm) HROW.out)
        replace HZ := Lib.hid (grown_row hg2 (fun e => own_ne HE.out HZ.out (by decide) e.symm) HZ.out)
        replace HC := Lib.hid (grown_row hg2 (fun e => own_ne HE.out HC.out (by decide) e.symm) HC.out)
        have hgz : w.heap.size ≤ w9.heap.size := HO.out.size
        replace HO := Lib.hid (HO.out.fresh hg2 HGE.out)
        have HEL : Hid (ge < w9.heap.size) := Lib.hid (own_lt HE.out rfl)
        obtain ⟨ab2, ac2, rfl, _⟩ := sl_own ho2
        simp only [Nat.zero_add] at ho2 hor hK ⊢
        rw [List.nil_append] at ho2
        replace HE := Lib.hid ho2
        have HAB : Hid (∀ x, ab2 = some x → w.heap.size ≤ x.block ∧ (x.block = ge ∨ x.block = w9.heap.size)) := Lib.hid (fun x hx => by subst hx; rcases hor with e | e <;> (have e2 : some x.block = some _ := e; injection e2 with e2; rw [e2]); exact ⟨HGE.out, .inl rfl⟩; exact ⟨hgz, .inr rfl⟩)
        clear ho2 hor hg2 hgz HOWN
        refine hK _ _ ⟨⟨HROW.out, HC.out⟩, ?_⟩
        clear hK K
        simp only [Act.put, List.setIfInBounds_toArray, List.set_cons_succ, List.set_cons_zero]
        refine plan_us (by rfl) (by kernel_rfl) ?_
        intro K hK
        refine wp_build_rk rnmT _ rfl ((nx, [b0, b1, b2, b3, b4, b5, b6, b7]) : Nm) HXO.out rfl ?_
        have hal := (Below.refl w10.heap.size w10).alloc (Nat.le_refl _) (.cells (nmK.flat [((nx, [b0, b1, b2, b3, b4, b5, b6, b7]) : Nm)]).toArray 75)
        replace HO := Lib.hid (HO.out.next hal)
        replace HROW := Lib.hid (bl_row hal (lt_of_block HROW.out) HROW.out)
        replace HZ := Lib.hid (bl_row hal (lt_of_block HZ.out) HZ.out)
        replace HC := Lib.hid (bl_row hal (lt_of_block HC.out) HC.out)
        replace HE := Lib.hid (own_below HE.out hal)
        have HLT := Lib.hid (RK.At.of_row (K := nmK) (t := 75) (l := [((nx, [b0, b1, b2, b3, b4, b5, b6, b7]) : Nm)]) (heap_alloc_new w10 _) (fun y hy => by rw [List.mem_singleton.1 hy]; exact HXO.out))
        refine hK _ _ ⟨⟨HROW.out, HC.out⟩, ?_⟩
        clear hal hK K
        simp only [Act.put, List.setIfInBounds_toArray, List.set_cons_succ, List.set_cons_zero]
        generalize w10.alloc (.cells (nmK.flat [((nx, [b0, b1, b2, b3, b4, b5, b6, b7]) : Nm)]).toArray 75) = w11 at HROW HZ HC HE HO HLT ⊢
        obtain ⟨gs, hgs⟩ : ∃ g, w10.heap.size = g := ⟨_, rfl⟩
        rw [hgs] at HLT ⊢
        clear hgs
        refine plan_us (by rfl) (by kernel_rfl) ?_
        intro K hK
        refine wp_append_rk rnmT _ _ rfl 0 n (.slice ab2 n ac2) L rfl HE.out _ 1 1 [((nx, [b0, b1, b2, b3, b4, b5, b6, b7]) : Nm)] rfl HLT.out (by omega) (Nat.zero_le _) ?_
        intro v' w12 ho2 hg2 hor
        have hgz : w.heap.size ≤ w11.heap.size := HO.out.size
        replace HROW := Lib.hid (grown_row hg2 (fun e => own_ne HE.out HROW.out (by decide) e.symm) HROW.out)
        replace HZ := Lib.hid (grown_row hg2 (fun e => own_ne HE.out HZ.out (by decide) e.symm) HZ.out)
        replace HC := Lib.hid (grown_row hg2 (fun e => own_ne HE.out HC.out (by decide) e.symm) HC.out)
        replace HO := Lib.hid (HO.out.freshS hg2 (fun x hx => (HAB.out x hx).1))
        obtain ⟨ab3, ac3, rfl, _⟩ := sl_own ho2
        replace HE := Lib.hid ho2
        have HAC : Hid (∀ x, ab3 = some x → w.heap.size ≤ x.block) := Lib.hid (fun x hx => by subst hx; rcases hor with e | e; (cases ab2 with | none => cases e | some y => have e2 : some x.block = some y.block := e; injection e2 with e2; rw [e2]; exact (HAB.out y rfl).1); (have e2 : some x.block = some _ := e; injection e2 with e2; rw [e2]; exact hgz))
        clear ho2 hor hg2 hgz HLT HAB
        refine hK _ _ ⟨⟨HROW.out, HC.out⟩, ?_⟩
        clear hK K
        simp only [Act.put, List.setIfInBounds_toArray, List.set_cons_succ, List.set_cons_zero]
        clear hne
        refine ⟨fun _ => True, trivial, ?_⟩
        haveI hne : Nonempty (In (fun _ => True)) := ⟨⟨w12, trivial⟩⟩
        repeat (first | (refine plan_t (by rfl) ?_; (first | go_big_quiet_skip | (go_big_quiet_want; go_big_quiet_op; go_big_quiet_on)); refine wpQuiet_nil ?_))
        refine plan_us (by rfl) (by kernel_rfl) ?_
        intro K hK
        have c0 := row_cell HROW.out 0 _ rfl
        have f0 := row_free HROW.out 0
        go_wp2_with fail
        clear c0 f0
        have hgs := grown_setCell w12 p 0 (.slice ab3 (n + 1) ac3)
        have hrs := row_setL HROW.out 0 (.slice ab3 (n + 1) ac3)
        replace HZ := Lib.hid (grown_row hgs (row_ne HZ.out HROW.out (by decide)) HZ.out)
        replace HC := Lib.hid (grown_row hgs (row_ne HC.out HROW.out (by decide)) HC.out)
        replace HE := Lib.hid (own_grown HE.out hgs (fun g hg e => own_ne HE.out HROW.out (by decide) (hg.trans e)))
        replace HO := Lib.hid (HO.out.setCell (k := 0) HPM.out (.slice ab3 (n + 1) ac3))
        replace HROW : Hid ((w12.setCell ⟨p, 0, none⟩ (.slice ab3 (n + 1) ac3)).heap[p]? = some (.cells ([.slice ab3 (n + 1) ac3, .int .u64 nx, .int .u64 (nextM sd)] : List Value).toArray 78 (0, 0))) := Lib.hid hrs
        clear hgs hrs
        generalize w12.setCell ⟨p, 0, none⟩ (.slice ab3 (n + 1) ac3) = w13 at HROW HZ HC HE HO ⊢
        refine ⟨trivial, ?_⟩
        clear hne
        show Exit.then _ _ _ _ _
        try simp only [Act.put, List.setIfInBounds_toArray, List.set_cons_succ, List.set_cons_zero]
        have c1 := row_cell HROW.out 1 _ rfl
        have f1 := row_free HROW.out 1
        go_upto_region 8 with fail
        clear c1 f1
        have hgs := grown_setCell w13 p 1 (.int .u64 (nx + 1))
        have hrs := row_setL HROW.out 1 (.int .u64 (nx + 1))
        replace HZ := Lib.hid (grown_row hgs (row_ne HZ.out HROW.out (by decide)) HZ.out)
        replace HC := Lib.hid (grown_row hgs (row_ne HC.out HROW.out (by decide)) HC.out)
        replace HE := Lib.hid (own_grown HE.out hgs (fun g hg e => own_ne HE.out HROW.out (by decide) (hg.trans e)))
        replace HO := Lib.hid (HO.out.setCell (k := 1) HPM.out (.int .u64 (nx + 1)))
        replace HROW : Hid ((w13.setCell ⟨p, 1, none⟩ (.int .u64 (nx + 1))).heap[p]? = some (.cells ([.slice ab3 (n + 1) ac3, .int .u64 (nx + 1), .int .u64 (nextM sd)] : List Value).toArray 78 (0, 0))) := Lib.hid hrs
        clear hgs hrs
        generalize w13.setCell ⟨p, 1, none⟩ (.int .u64 (nx + 1)) = w14 at HROW HZ HC HE HO ⊢
        have g1 : ∀ z : In (fun y => y.heap[p]? = some (.cells ([.slice ab3 (n + 1) ac3, .int .u64 (nx + 1), .int .u64 (nextM sd)] : List Value).toArray 78 (0, 0)) ∧ y.heap[gc]? = some (.cells ([.int .u8 b0, .int .u8 b1, .int .u8 b2, .int .u8 b3, .int .u8 b4, .int .u8 b5, .int .u8 b6, .int .u8 b7] : List Value).toArray 38 (0, 0))), z.w.cell? ⟨p, 1, none⟩ = some (.int .u64 (nx + 1)) := fun z => row_cell z.h.1 1 _ rfl
        refine wp_plan (.t 0 (.t 1 (.t 2 (.t 3 (.t 4 (.t 5 (.t 6 (.u 7 (.t 8 .done))))))))) (fun y => y.heap[p]? = some (.cells ([.slice ab3 (n + 1) ac3, .int .u64 (nx + 1), .int .u64 (nextM sd)] : List Value).toArray 78 (0, 0)) ∧ y.heap[gc]? = some (.cells ([.int .u8 b0, .int .u8 b1, .int .u8 b2, .int .u8 b3, .int .u8 b4, .int .u8 b5, .int .u8 b6, .int .u8 b7] : List Value).toArray 38 (0, 0))) (by kernel_rfl) (by kernel_rfl) (by kernel_rfl) (fun c a d v w h => by cases d <;> exact h) ⟨HROW.out, HC.out⟩ ?_
        have hb := (Below.refl w14.heap.size w14).drew
        replace HO := Lib.hid (HO.out.next hb)
        replace HROW := Lib.hid (bl_row hb (lt_of_block HROW.out) HROW.out)
        replace HZ := Lib.hid (bl_row hb (lt_of_block HZ.out) HZ.out)
        replace HC := Lib.hid (bl_row hb (lt_of_block HC.out) HC.out)
        replace HE := Lib.hid (own_below HE.out hb)
        clear hb
        generalize w14.drew = w15 at HROW HZ HC HE HO ⊢
        haveI hne : Nonempty (In (fun y => y.heap[p]? = some (.cells ([.slice ab3 (n + 1) ac3, .int .u64 (nx + 1), .int .u64 (nextM sd)] : List Value).toArray 78 (0, 0)) ∧ y.heap[gc]? = some (.cells ([.int .u8 b0, .int .u8 b1, .int .u8 b2, .int .u8 b3, .int .u8 b4, .int .u8 b5, .int .u8 b6, .int .u8 b7] : List Value).toArray 38 (0, 0)))) := ⟨⟨w15, ⟨HROW.out, HC.out⟩⟩⟩
        repeat (first | (refine plan_t_load (by rfl) (by kernel_rfl) 38 _ rfl gc 0 rfl [.int .u8 b0, .int .u8 b1, .int .u8 b2, .int .u8 b3, .int .u8 b4, .int .u8 b5, .int .u8 b6, .int .u8 b7] _ (fun y hy => rngL hy.2) Try.underlying38 rfl rfl ?_; simp only [Act.put, List.setIfInBounds_toArray, List.set_cons_succ, List.set_cons_zero]) | (refine plan_t (by rfl) ?_; (first | go_big_quiet_skip | (go_big_quiet_want; go_big_quiet_op; go_big_quiet_on)); refine wpQuiet_nil ?_))
        clear g1
        refine plan_us (by rfl) (by kernel_rfl) ?_
        intro K hK
        refine wp_store_row 53 _ _ rfl gz rfl [.int .i64 24, .int .u64 0, .int .u64 0, .slice none 0 0, .bool false, .int .u64 0, .int .u64 0, .int .u64 0, .int .u64 nx, .int .u64 0, .slice none 0 0, .int .u8 b0, .int .u8 b1, .int .u8 b2, .int .u8 b3, .int .u8 b4, .int .u8 b5, .int .u8 b6, .int .u8 b7] [.int .i64 0, .int .u64 0, .int .u64 0, .slice none 0 0, .bool false, .int .u64 0, .int .u64 0, .int .u64 0, .int .u64 0, .int .u64 0, .slice none 0 0, .int .u8 0, .int .u8 0, .int .u8 0, .int .u8 0, .int .u8 0, .int .u8 0, .int .u8 0, .int .u8 0] rfl 53 HZ.out rfl rfl (one19 rfl rfl) ?_
        intro w99 hr hg
        replace HROW := Lib.hid (grown_row hg (row_ne HROW.out HZ.out (by decide)) HROW.out)
        replace HC := Lib.hid (grown_row hg (row_ne HC.out HZ.out (by decide)) HC.out)
        replace HE := Lib.hid (own_grown HE.out hg (fun g hg e => own_ne HE.out HZ.out (by decide) (hg.trans e)))
        replace HO := Lib.hid (HO.out.fresh hg (by rw [HGZ.out]; exact Nat.le_refl _))
        have HZ9 := Lib.hid hr
        clear hr hg HZ
        refine hK _ _ ⟨⟨HROW.out, HC.out⟩, ?_⟩
        clear hK K
        try simp only [Act.put, List.setIfInBounds_toArray, List.set_cons_succ, List.set_cons_zero]
        repeat (first | (refine plan_t_load (by rfl) (by kernel_rfl) 38 _ rfl gc 0 rfl [.int .u8 b0, .int .u8 b1, .int .u8 b2, .int .u8 b3, .int .u8 b4, .int .u8 b5, .int .u8 b6, .int .u8 b7] _ (fun y hy => rngL hy.2) Try.underlying38 rfl rfl ?_; simp only [Act.put, List.setIfInBounds_toArray, List.set_cons_succ, List.set_cons_zero]) | (refine plan_t (by rfl) ?_; (first | go_big_quiet_skip | (go_big_quiet_want; go_big_quiet_op; go_big_quiet_on)); refine wpQuiet_nil ?_))
        clear hne
        show Exit.then _ _ _ _ _
        try simp only [Act.put, List.setIfInBounds_toArray, List.set_cons_succ, List.set_cons_zero]
        go_wp2_with fail
        refine bodyPost_ret (results_cell2 rfl _ _ gz rfl [.int .i64 24, .int .u64 0, .int .u64 0, .slice none 0 0, .bool false, .int .u64 0, .int .u64 0, .int .u64 0, .int .u64 nx, .int .u64 0, .slice none 0 0, .int .u8 b0, .int .u8 b1, .int .u8 b2, .int .u8 b3, .int .u8 b4, .int .u8 b5, .int .u8 b6, .int .u8 b7] _ _ HZ9.out Try.underlying53 rfl rfl) rfl ?_
        have hln : (L ++ [((nx, [b0, b1, b2, b3, b4, b5, b6, b7]) : Nm)]).length = n + 1 := by simp [HN.out]
        refine ⟨B ++ blkS ab3, ⟨HO.out, fun g hg => ?_⟩, .inr ⟨by rw [HN.out]; omega, by rw [HBE.out]; rfl, ?_⟩⟩
        · rcases List.mem_append.1 hg with hg | hg
          · exact .inl hg
          · obtain ⟨x, rfl, rfl⟩ := blkS_mem.1 hg; exact .inr (HAC.out x rfl)
        · rw [HBE.out]
          refine ⟨⟨ab3, ac3, by rw [hln]; exact HROW.out, by rw [hln]; exact HE.out, fun x hx => List.mem_append_right _ (blkS_mem.2 ⟨x, hx, rfl⟩)⟩, List.mem_append_left _ HPM.out, fun g hg => ?_, fun y hy => ?_, by omega, wf_next_u sd, by rw [hln]; omega⟩
          · rcases List.mem_append.1 hg with hg | hg
            · exact Nat.lt_of_lt_of_le (H.out.lt g hg) HO.out.size
            · obtain ⟨x, rfl, rfl⟩ := blkS_mem.1 hg
              rcases HE.out.2 with ⟨e, _⟩ | ⟨g2, cap, cur, e, _, hrow, _⟩
              · cases e
              · injection e with e; injection e with e; rw [e]; exact lt_of_block hrow
          · rcases List.mem_append.1 hy with hy | hy
            · exact H.out.ok y hy
            · rw [List.mem_singleton.1 hy]; exact HXO.out
      · refine plan_half (by rfl) (by kernel_rfl) ?_
        intro K hK
        have HNS : Hid (w9.heap.size ≠ ge) := Lib.hid (Nat.ne_of_gt (own_lt HE.out rfl))
        refine wp_build_rk rnmT _ rfl ((nx, [b0, b1, b2, b3, b4, b5, b6, b7]) : Nm) HXO.out rfl ?_
        have hal := (Below.refl w9.heap.size w9).alloc (Nat.le_refl _) (.cells (nmK.flat [((nx, [b0, b1, b2, b3, b4, b5, b6, b7]) : Nm)]).toArray 75)
        replace HO := Lib.hid (HO.out.next hal)
        replace HROW := Lib.hid (bl_row hal (lt_of_block HROW.out) HROW.out)
        replace HOWN := Lib.hid (own_below HOWN.out hal)
        replace HZ := Lib.hid (bl_row hal (lt_of_block HZ.out) HZ.out)
        replace HC := Lib.hid (bl_row hal (lt_of_block HC.out) HC.out)
        replace HE := Lib.hid (own_below HE.out hal)
        have HLT := Lib.hid (RK.At.of_row (K := nmK) (t := 75) (l := [((nx, [b0, b1, b2, b3, b4, b5, b6, b7]) : Nm)]) (heap_alloc_new w9 _) (fun y hy => by rw [List.mem_singleton.1 hy]; exact HXO.out))
        refine hK _ _ ⟨⟨HROW.out, HC.out⟩, ?_⟩
        clear hal hK K
        simp only [Act.put, List.setIfInBounds_toArray, List.set_cons_succ, List.set_cons_zero]
        generalize w9.alloc (.cells (nmK.flat [((nx, [b0, b1, b2, b3, b4, b5, b6, b7]) : Nm)]).toArray 75) = w16 at HROW HOWN HZ HC HE HO HLT ⊢
        obtain ⟨gs, hgs⟩ : ∃ g, w9.heap.size = g := ⟨_, rfl⟩
        rw [hgs] at HLT HNS ⊢
        clear hgs
        refine plan_us (by rfl) (by kernel_rfl) ?_
        intro K hK
        refine wp_append_rk rnmT _ _ rfl 0 0 (.slice (some ⟨ge, 0, none⟩) 0 0) [] rfl HE.out _ n _ L rfl (RK.At.of_own HOWN.out H.out.ok) (by omega) (Nat.zero_le _) ?_
        intro v' w17 ho2 hg2 hor
        replace HROW := Lib.hid (grown_row hg2 (fun e => own_ne HE.out HROW.out (by decide) e.symm) HROW.out)
        replace HZ := Lib.hid (grown_row hg2 (fun e => own_ne HE.out HZ.out (by decide) e.symm) HZ.out)
        replace HC := Lib.hid (grown_row hg2 (fun e => own_ne HE.out HC.out (by decide) e.symm) HC.out)
        have hgz : w.heap.size ≤ w16.heap.size := HO.out.size
        replace HO := Lib.hid (HO.out.fresh hg2 HGE.out)
        replace HLT := Lib.hid (HLT.out.grown hg2 (fun x hx e => by injection hx with hx; subst hx; injection e with e; exact HNS.out e))
        obtain ⟨ab2, ac2, rfl, _⟩ := sl_own ho2
        simp only [Nat.zero_add] at ho2 hor hK ⊢
        rw [List.nil_append] at ho2
        replace HE := Lib.hid ho2
        have HAB : Hid (∀ x, ab2 = some x → w.heap.size ≤ x.block ∧ (x.block = ge ∨ x.block = w16.heap.size)) := Lib.hid (fun x hx => by subst hx; rcases hor with e | e <;> (have e2 : some x.block = some _ := e; injection e2 with e2; rw [e2]); exact ⟨HGE.out, .inl rfl⟩; exact ⟨hgz, .inr rfl⟩)
        clear ho2 hor hg2 hgz HOWN
        refine hK _ _ ⟨⟨HROW.out, HC.out⟩, ?_⟩
        clear hK K
        simp only [Act.put, List.setIfInBounds_toArray, List.set_cons_succ, List.set_cons_zero]
        refine plan_us (by rfl) (by kernel_rfl) ?_
        intro K hK
        refine wp_append_rk rnmT _ _ rfl 0 n (.slice ab2 n ac2) L rfl HE.out _ 1 1 [((nx, [b0, b1, b2, b3, b4, b5, b6, b7]) : Nm)] rfl HLT.out (by omega) (Nat.zero_le _) ?_
        intro v' w18 ho2 hg2 hor
        have hgz : w.heap.size ≤ w17.heap.size := HO.out.size
        replace HROW := Lib.hid (grown_row hg2 (fun e => own_ne HE.out HROW.out (by decide) e.symm) HROW.out)
        replace HZ := Lib.hid (grown_row hg2 (fun e => own_ne HE.out HZ.out (by decide) e.symm) HZ.out)
        replace HC := Lib.hid (grown_row hg2 (fun e => own_ne HE.out HC.out (by decide) e.symm) HC.out)
        replace HO := Lib.hid (HO.out.freshS hg2 (fun x hx => (HAB.out x hx).1))
        obtain ⟨ab3, ac3, rfl, _⟩ := sl_own ho2
        replace HE := Lib.hid ho2
        have HAC : Hid (∀ x, ab3 = some x → w.heap.size ≤ x.block) := Lib.hid (fun x hx => by subst hx; rcases hor with e | e; (cases ab2 with | none => cases e | some y => have e2 : some x.block = some y.block := e; injection e2 with e2; rw [e2]; exact (HAB.out y rfl).1); (have e2 : some x.block = some _ := e; injection e2 with e2; rw [e2]; exact hgz))
        clear ho2 hor hg2 hgz HLT HAB
        refine hK _ _ ⟨⟨HROW.out, HC.out⟩, ?_⟩
        clear hK K
        simp only [Act.put, List.setIfInBounds_toArray, List.set_cons_succ, List.set_cons_zero]
        clear hne
        refine ⟨fun _ => True, trivial, ?_⟩
        haveI hne : Nonempty (In (fun _ => True)) := ⟨⟨w18, trivial⟩⟩
        repeat (first | (refine plan_t (by rfl) ?_; (first | go_big_quiet_skip | (go_big_quiet_want; go_big_quiet_op; go_big_quiet_on)); refine wpQuiet_nil ?_))
        refine plan_us (by rfl) (by kernel_rfl) ?_
        intro K hK
        have c0 := row_cell HROW.out 0 _ rfl
        have f0 := row_free HROW.out 0
        go_wp2_with fail
        clear c0 f0
        have hgs := grown_setCell w18 p 0 (.slice ab3 (n + 1) ac3)
        have hrs := row_setL HROW.out 0 (.slice ab3 (n + 1) ac3)
        replace HZ := Lib.hid (grown_row hgs (row_ne HZ.out HROW.out (by decide)) HZ.out)
        replace HC := Lib.hid (grown_row hgs (row_ne HC.out HROW.out (by decide)) HC.out)
        replace HE := Lib.hid (own_grown HE.out hgs (fun g hg e => own_ne HE.out HROW.out (by decide) (hg.trans e)))
        replace HO := Lib.hid (HO.out.setCell (k := 0) HPM.out (.slice ab3 (n + 1) ac3))
        replace HROW : Hid ((w18.setCell ⟨p, 0, none⟩ (.slice ab3 (n + 1) ac3)).heap[p]? = some (.cells ([.slice ab3 (n + 1) ac3, .int .u64 nx, .int .u64 (nextM sd)] : List Value).toArray 78 (0, 0))) := Lib.hid hrs
        clear hgs hrs
        generalize w18.setCell ⟨p, 0, none⟩ (.slice ab3 (n + 1) ac3) = w19 at HROW HZ HC HE HO ⊢
        refine ⟨trivial, ?_⟩
        clear hne
        show Exit.then _ _ _ _ _
        try simp only [Act.put, List.setIfInBounds_toArray, List.set_cons_succ, List.set_cons_zero]
        have c1 := row_cell HROW.out 1 _ rfl
        have f1 := row_free HROW.out 1
        go_upto_region 8 with fail
        clear c1 f1
        have hgs := grown_setCell w19 p 1 (.int .u64 (nx + 1))
        have hrs := row_setL HROW.out 1 (.int .u64 (nx + 1))
        replace HZ := Lib.hid (grown_row hgs (row_ne HZ.out HROW.out (by decide)) HZ.out)
        replace HC := Lib.hid (grown_row hgs (row_ne HC.out HROW.out (by decide)) HC.out)
        replace HE := Lib.hid (own_grown HE.out hgs (fun g hg e => own_ne HE.out HROW.out (by decide) (hg.trans e)))
        replace HO := Lib.hid (HO.out.setCell (k := 1) HPM.out (.int .u64 (nx + 1)))
        replace HROW : Hid ((w19.setCell ⟨p, 1, none⟩ (.int .u64 (nx + 1))).heap[p]? = some (.cells ([.slice ab3 (n + 1) ac3, .int .u64 (nx + 1), .int .u64 (nextM sd)] : List Value).toArray 78 (0, 0))) := Lib.hid hrs
        clear hgs hrs
        generalize w19.setCell ⟨p, 1, none⟩ (.int .u64 (nx + 1)) = w20 at HROW HZ HC HE HO ⊢
        have g1 : ∀ z : In (fun y => y.heap[p]? = some (.cells ([.slice ab3 (n + 1) ac3, .int .u64 (nx + 1), .int .u64 (nextM sd)] : List Value).toArray 78 (0, 0)) ∧ y.heap[gc]? = some (.cells ([.int .u8 b0, .int .u8 b1, .int .u8 b2, .int .u8 b3, .int .u8 b4, .int .u8 b5, .int .u8 b6, .int .u8 b7] : List Value).toArray 38 (0, 0))), z.w.cell? ⟨p, 1, none⟩ = some (.int .u64 (nx + 1)) := fun z => row_cell z.h.1 1 _ rfl
        refine wp_plan (.t 0 (.t 1 (.t 2 (.t 3 (.t 4 (.t 5 (.t 6 (.u 7 (.t 8 .done))))))))) (fun y => y.heap[p]? = some (.cells ([.slice ab3 (n + 1) ac3, .int .u64 (nx + 1), .int .u64 (nextM sd)] : List Value).toArray 78 (0, 0)) ∧ y.heap[gc]? = some (.cells ([.int .u8 b0, .int .u8 b1, .int .u8 b2, .int .u8 b3, .int .u8 b4, .int .u8 b5, .int .u8 b6, .int .u8 b7] : List Value).toArray 38 (0, 0))) (by kernel_rfl) (by kernel_rfl) (by kernel_rfl) (fun c a d v w h => by cases d <;> exact h) ⟨HROW.out, HC.out⟩ ?_
        have hb := (Below.refl w20.heap.size w20).drew
        replace HO := Lib.hid (HO.out.next hb)
        replace HROW := Lib.hid (bl_row hb (lt_of_block HROW.out) HROW.out)
        replace HZ := Lib.hid (bl_row hb (lt_of_block HZ.out) HZ.out)
        replace HC := Lib.hid (bl_row hb (lt_of_block HC.out) HC.out)
        replace HE := Lib.hid (own_below HE.out hb)
        clear hb
        generalize w20.drew = w21 at HROW HZ HC HE HO ⊢
        haveI hne : Nonempty (In (fun y => y.heap[p]? = some (.cells ([.slice ab3 (n + 1) ac3, .int .u64 (nx + 1), .int .u64 (nextM sd)] : List Value).toArray 78 (0, 0)) ∧ y.heap[gc]? = some (.cells ([.int .u8 b0, .int .u8 b1, .int .u8 b2, .int .u8 b3, .int .u8 b4, .int .u8 b5, .int .u8 b6, .int .u8 b7] : List Value).toArray 38 (0, 0)))) := ⟨⟨w21, ⟨HROW.out, HC.out⟩⟩⟩
        repeat (first | (refine plan_t_load (by rfl) (by kernel_rfl) 38 _ rfl gc 0 rfl [.int .u8 b0, .int .u8 b1, .int .u8 b2, .int .u8 b3, .int .u8 b4, .int .u8 b5, .int .u8 b6, .int .u8 b7] _ (fun y hy => rngL hy.2) Try.underlying38 rfl rfl ?_; simp only [Act.put, List.setIfInBounds_toArray, List.set_cons_succ, List.set_cons_zero]) | (refine plan_t (by rfl) ?_; (first | go_big_quiet_skip | (go_big_quiet_want; go_big_quiet_op; go_big_quiet_on)); refine wpQuiet_nil ?_))
        clear g1
        refine plan_us (by rfl) (by kernel_rfl) ?_
        intro K hK
        refine wp_store_row 53 _ _ rfl gz rfl [.int .i64 24, .int .u64 0, .int .u64 0, .slice none 0 0, .bool false, .int .u64 0, .int .u64 0, .int .u64 0, .int .u64 nx, .int .u64 0, .slice none 0 0, .int .u8 b0, .int .u8 b1, .int .u8 b2, .int .u8 b3, .int .u8 b4, .int .u8 b5, .int .u8 b6, .int .u8 b7] [.int .i64 0, .int .u64 0, .int .u64 0, .slice none 0 0, .bool false, .int .u64 0, .int .u64 0, .int .u64 0, .int .u64 0, .int .u64 0, .slice none 0 0, .int .u8 0, .int .u8 0, .int .u8 0, .int .u8 0, .int .u8 0, .int .u8 0, .int .u8 0, .int .u8 0] rfl 53 HZ.out rfl rfl (one19 rfl rfl) ?_
        intro w99 hr hg
        replace HROW := Lib.hid (grown_row hg (row_ne HROW.out HZ.out (by decide)) HROW.out)
        replace HC := Lib.hid (grown_row hg (row_ne HC.out HZ.out (by decide)) HC.out)
        replace HE := Lib.hid (own_grown HE.out hg (fun g hg e => own_ne HE.out HZ.out (by decide) (hg.trans e)))
        replace HO := Lib.hid (HO.out.fresh hg (by rw [HGZ.out]; exact Nat.le_refl _))
        have HZ9 := Lib.hid hr
        clear hr hg HZ
        refine hK _ _ ⟨⟨HROW.out, HC.out⟩, ?_⟩
        clear hK K
        try simp only [Act.put, List.setIfInBounds_toArray, List.set_cons_succ, List.set_cons_zero]
        repeat (first | (refine plan_t_load (by rfl) (by kernel_rfl) 38 _ rfl gc 0 rfl [.int .u8 b0, .int .u8 b1, .int .u8 b2, .int .u8 b3, .int .u8 b4, .int .u8 b5, .int .u8 b6, .int .u8 b7] _ (fun y hy => rngL hy.2) Try.underlying38 rfl rfl ?_; simp only [Act.put, List.setIfInBounds_toArray, List.set_cons_succ, List.set_cons_zero]) | (refine plan_t (by rfl) ?_; (first | go_big_quiet_skip | (go_big_quiet_want; go_big_quiet_op; go_big_quiet_on)); refine wpQuiet_nil ?_))
        clear hne
        show Exit.then _ _ _ _ _
        try simp only [Act.put, List.setIfInBounds_toArray, List.set_cons_succ, List.set_cons_zero]
        go_wp2_with fail
        refine bodyPost_ret (results_cell2 rfl _ _ gz rfl [.int .i64 24, .int .u64 0, .int .u64 0, .slice none 0 0, .bool false, .int .u64 0, .int .u64 0, .int .u64 0, .int .u64 nx, .int .u64 0, .slice none 0 0, .int .u8 b0, .int .u8 b1, .int .u8 b2, .int .u8 b3, .int .u8 b4, .int .u8 b5, .int .u8 b6, .int .u8 b7] _ _ HZ9.out Try.underlying53 rfl rfl) rfl ?_
        have hln : (L ++ [((nx, [b0, b1, b2, b3, b4, b5, b6, b7]) : Nm)]).length = n + 1 := by simp [HN.out]
        refine ⟨B ++ blkS ab3, ⟨HO.out, fun g hg => ?_⟩, .inr ⟨by rw [HN.out]; omega, by rw [HBE.out]; rfl, ?_⟩⟩
        · rcases List.mem_append.1 hg with hg | hg
          · exact .inl hg
          · obtain ⟨x, rfl, rfl⟩ := blkS_mem.1 hg; exact .inr (HAC.out x rfl)
        · rw [HBE.out]
          refine ⟨⟨ab3, ac3, by rw [hln]; exact HROW.out, by rw [hln]; exact HE.out, fun x hx => List.mem_append_right _ (blkS_mem.2 ⟨x, hx, rfl⟩)⟩, List.mem_append_left _ HPM.out, fun g hg => ?_, fun y hy => ?_, by omega, wf_next_u sd, by rw [hln]; omega⟩
          · rcases List.mem_append.1 hg with hg | hg
            · exact Nat.lt_of_lt_of_le (H.out.lt g hg) HO.out.size
            · obtain ⟨x, rfl, rfl⟩ := blkS_mem.1 hg
              rcases HE.out.2 with ⟨e, _⟩ | ⟨g2, cap, cur, e, _, hrow, _⟩
              · cases e
              · injection e with e; injection e with e; rw [e]; exact lt_of_block hrow
          · rcases List.mem_append.1 hy with hy | hy
            · exact H.out.ok y hy
            · rw [List.mem_singleton.1 hy]; exact HXO.out
    · refine plan_half (by rfl) (by kernel_rfl) ?_
      intro K hK
      refine wp_build_rk rnmT _ rfl ((nx, [b0, b1, b2, b3, b4, b5, b6, b7]) : Nm) HXO.out rfl ?_
      have hal := (Below.refl w8.heap.size w8).alloc (Nat.le_refl _) (.cells (nmK.flat [((nx, [b0, b1, b2, b3, b4, b5, b6, b7]) : Nm)]).toArray 75)
      replace HO := Lib.hid (HO.out.next hal)
      replace HROW := Lib.hid (bl_row hal (lt_of_block HROW.out) HROW.out)
      replace HOWN := Lib.hid (own_below HOWN.out hal)
      replace HZ := Lib.hid (bl_row hal (lt_of_block HZ.out) HZ.out)
      replace HC := Lib.hid (bl_row hal (lt_of_block HC.out) HC.out)
      have HLT := Lib.hid (RK.At.of_row (K := nmK) (t := 75) (l := [((nx, [b0, b1, b2, b3, b4, b5, b6, b7]) : Nm)]) (heap_alloc_new w8 _) (fun y hy => by rw [List.mem_singleton.1 hy]; exact HXO.out))
      refine hK _ _ ⟨⟨HROW.out, HC.out⟩, ?_⟩
      clear hal hK K
      simp only [Act.put, List.setIfInBounds_toArray, List.set_cons_succ, List.set_cons_zero]
      generalize w8.alloc (.cells (nmK.flat [((nx, [b0, b1, b2, b3, b4, b5, b6, b7]) : Nm)]).toArray 75) = w22 at HROW HOWN HZ HC HO HLT ⊢
      obtain ⟨gs, hgs⟩ : ∃ g, w8.heap.size = g := ⟨_, rfl⟩
      rw [hgs] at HLT ⊢
      clear hgs
      have HSL := HLT
      refine plan_us (by rfl) (by kernel_rfl) ?_
      intro K hK
      go_wp2_with fail
      have hal := (Below.refl w22.heap.size w22).alloc (Nat.le_refl _) (.cells #[] 75)
      have hee : (w22.alloc (.cells #[] 75)).ownsRow 0 75 nmK.N (.slice (some ⟨w22.heap.size, 0, none⟩) 0 0) 0 (nmK.flat []) := ⟨rfl, .inr ⟨_, 0, #[], rfl, Nat.zero_le _, heap_alloc_new w22 (.cells #[] 75), Nat.le_refl _, by unfold maxLen; omega, rfl, rfl⟩⟩
      have HGE : Hid (w.heap.size ≤ w22.heap.size) := Lib.hid HO.out.size
      replace HO := Lib.hid (HO.out.next hal)
      replace HROW := Lib.hid (bl_row hal (lt_of_block HROW.out) HROW.out)
      replace HOWN := Lib.hid (own_below HOWN.out hal)
      replace HZ := Lib.hid (bl_row hal (lt_of_block HZ.out) HZ.out)
      replace HC := Lib.hid (bl_row hal (lt_of_block HC.out) HC.out)
      replace HLT := Lib.hid (HLT.out.below hal)
      have HE := Lib.hid hee
      refine ⟨⟨HROW.out, HC.out⟩, ?_⟩
      clear hal hee
      (try change Plan.wp _ _ _ _ _ _ (w22.alloc (.cells #[] 75)))
      generalize w22.alloc (.cells #[] 75) = w23 at HROW HOWN HZ HC HLT HO HE ⊢
      have HNS : Hid (gs ≠ w22.heap.size) := Lib.hid (Nat.ne_of_lt (HSL.out.lt _ rfl Nat.one_ne_zero))
      clear HSL
      obtain ⟨ge, hge⟩ : ∃ g, w22.heap.size = g := ⟨_, rfl⟩
      rw [hge] at HE HGE HNS ⊢
      clear hge
      refine plan_us (by rfl) (by kernel_rfl) ?_
      intro K hK
      refine wp_append_rk rnmT _ _ rfl 0 0 (.slice (some ⟨ge, 0, none⟩) 0 0) [] rfl HE.out _ n _ L rfl (RK.At.of_own HOWN.out H.out.ok) (by omega) (Nat.zero_le _) ?_
      intro v' w24 ho2 hg2 hor
      replace HROW := Lib.hid (grown_row hg2 (fun e => own_ne HE.out HROW.out (by decide) e.symm) HROW.out)
      replace HZ := Lib.hid (grown_row hg2 (fun e => own_ne HE.out HZ.out (by decide) e.symm) HZ.out)
      replace HC := Lib.hid (grown_row hg2 (fun e => own_ne HE.out HC.out (by decide) e.symm) HC.out)
      have hgz : w.heap.size ≤ w23.heap.size := HO.out.size
      replace HO := Lib.hid (HO.out.fresh hg2 HGE.out)
      replace HLT := Lib.hid (HLT.out.grown hg2 (fun x hx e => by injection hx with hx; subst hx; injection e with e; exact HNS.out e))
      obtain ⟨ab2, ac2, rfl, _⟩ := sl_own ho2
      simp only [Nat.zero_add] at ho2 hor hK ⊢
      rw [List.nil_append] at ho2
      replace HE := Lib.hid ho2
      have HAB : Hid (∀ x, ab2 = some x → w.heap.size ≤ x.block ∧ (x.block = ge ∨ x.block = w23.heap.size)) := Lib.hid (fun x hx => by subst hx; rcases hor with e | e <;> (have e2 : some x.block = some _ := e; injection e2 with e2; rw [e2]); exact ⟨HGE.out, .inl rfl⟩; exact ⟨hgz, .inr rfl⟩)
      clear ho2 hor hg2 hgz HOWN
      refine hK _ _ ⟨⟨HROW.out, HC.out⟩, ?_⟩
      clear hK K
      simp only [Act.put, List.setIfInBounds_toArray, List.set_cons_succ, List.set_cons_zero]
      refine plan_us (by rfl) (by kernel_rfl) ?_
      intro K hK
      refine wp_append_rk rnmT _ _ rfl 0 n (.slice ab2 n ac2) L rfl HE.out _ 1 1 [((nx, [b0, b1, b2, b3, b4, b5, b6, b7]) : Nm)] rfl HLT.out (by omega) (Nat.zero_le _) ?_
      intro v' w25 ho2 hg2 hor
      have hgz : w.heap.size ≤ w24.heap.size := HO.out.size
      replace HROW := Lib.hid (grown_row hg2 (fun e => own_ne HE.out HROW.out (by decide) e.symm) HROW.out)
      replace HZ := Lib.hid (grown_row hg2 (fun e => own_ne HE.out HZ.out (by decide) e.symm) HZ.out)
      replace HC := Lib.hid (grown_row hg2 (fun e => own_ne HE.out HC.out (by decide) e.symm) HC.out)
      replace HO := Lib.hid (HO.out.freshS hg2 (fun x hx => (HAB.out x hx).1))
      obtain ⟨ab3, ac3, rfl, _⟩ := sl_own ho2
      replace HE := Lib.hid ho2
      have HAC : Hid (∀ x, ab3 = some x → w.heap.size ≤ x.block) := Lib.hid (fun x hx => by subst hx; rcases hor with e | e; (cases ab2 with | none => cases e | some y => have e2 : some x.block = some y.block := e; injection e2 with e2; rw [e2]; exact (HAB.out y rfl).1); (have e2 : some x.block = some _ := e; injection e2 with e2; rw [e2]; exact hgz))
      clear ho2 hor hg2 hgz HLT HAB
      refine hK _ _ ⟨⟨HROW.out, HC.out⟩, ?_⟩
      clear hK K
      simp only [Act.put, List.setIfInBounds_toArray, List.set_cons_succ, List.set_cons_zero]
      clear hne
      refine ⟨fun _ => True, trivial, ?_⟩
      haveI hne : Nonempty (In (fun _ => True)) := ⟨⟨w25, trivial⟩⟩
      repeat (first | (refine plan_t (by rfl) ?_; (first | go_big_quiet_skip | (go_big_quiet_want; go_big_quiet_op; go_big_quiet_on)); refine wpQuiet_nil ?_))
      refine plan_us (by rfl) (by kernel_rfl) ?_
      intro K hK
      have c0 := row_cell HROW.out 0 _ rfl
      have f0 := row_free HROW.out 0
      go_wp2_with fail
      clear c0 f0
      have hgs := grown_setCell w25 p 0 (.slice ab3 (n + 1) ac3)
      have hrs := row_setL HROW.out 0 (.slice ab3 (n + 1) ac3)
      replace HZ := Lib.hid (grown_row hgs (row_ne HZ.out HROW.out (by decide)) HZ.out)
      replace HC := Lib.hid (grown_row hgs (row_ne HC.out HROW.out (by decide)) HC.out)
      replace HO := Lib.hid (HO.out.setCell (k := 0) HPM.out (.slice ab3 (n + 1) ac3))
      replace HE := Lib.hid (own_grown HE.out hgs (fun g hg e => own_ne HE.out HROW.out (by decide) (hg.trans e)))
      replace HROW : Hid ((w25.setCell ⟨p, 0, none⟩ (.slice ab3 (n + 1) ac3)).heap[p]? = some (.cells ([.slice ab3 (n + 1) ac3, .int .u64 nx, .int .u64 (nextM sd)] : List Value).toArray 78 (0, 0))) := Lib.hid hrs
      clear hgs hrs
      generalize w25.setCell ⟨p, 0, none⟩ (.slice ab3 (n + 1) ac3) = w26 at HROW HZ HC HO HE ⊢
      refine ⟨trivial, ?_⟩
      clear hne
      show Exit.then _ _ _ _ _
      try simp only [Act.put, List.setIfInBounds_toArray, List.set_cons_succ, List.set_cons_zero]
      have c1 := row_cell HROW.out 1 _ rfl
      have f1 := row_free HROW.out 1
      go_upto_region 8 with fail
      clear c1 f1
      have hgs := grown_setCell w26 p 1 (.int .u64 (nx + 1))
      have hrs := row_setL HROW.out 1 (.int .u64 (nx + 1))
      replace HZ := Lib.hid (grown_row hgs (row_ne HZ.out HROW.out (by decide)) HZ.out)
      replace HC := Lib.hid (grown_row hgs (row_ne HC.out HROW.out (by decide)) HC.out)
      replace HO := Lib.hid (HO.out.setCell (k := 1) HPM.out (.int .u64 (nx + 1)))
      replace HE := Lib.hid (own_grown HE.out hgs (fun g hg e => own_ne HE.out HROW.out (by decide) (hg.trans e)))
      replace HROW : Hid ((w26.setCell ⟨p, 1, none⟩ (.int .u64 (nx + 1))).heap[p]? = some (.cells ([.slice ab3 (n + 1) ac3, .int .u64 (nx + 1), .int .u64 (nextM sd)] : List Value).toArray 78 (0, 0))) := Lib.hid hrs
      clear hgs hrs
      generalize w26.setCell ⟨p, 1, none⟩ (.int .u64 (nx + 1)) = w27 at HROW HZ HC HO HE ⊢
      have g1 : ∀ z : In (fun y => y.heap[p]? = some (.cells ([.slice ab3 (n + 1) ac3, .int .u64 (nx + 1), .int .u64 (nextM sd)] : List Value).toArray 78 (0, 0)) ∧ y.heap[gc]? = some (.cells ([.int .u8 b0, .int .u8 b1, .int .u8 b2, .int .u8 b3, .int .u8 b4, .int .u8 b5, .int .u8 b6, .int .u8 b7] : List Value).toArray 38 (0, 0))), z.w.cell? ⟨p, 1, none⟩ = some (.int .u64 (nx + 1)) := fun z => row_cell z.h.1 1 _ rfl
      refine wp_plan (.t 0 (.t 1 (.t 2 (.t 3 (.t 4 (.t 5 (.t 6 (.u 7 (.t 8 .done))))))))) (fun y => y.heap[p]? = some (.cells ([.slice ab3 (n + 1) ac3, .int .u64 (nx + 1), .int .u64 (nextM sd)] : List Value).toArray 78 (0, 0)) ∧ y.heap[gc]? = some (.cells ([.int .u8 b0, .int .u8 b1, .int .u8 b2, .int .u8 b3, .int .u8 b4, .int .u8 b5, .int .u8 b6, .int .u8 b7] : List Value).toArray 38 (0, 0))) (by kernel_rfl) (by kernel_rfl) (by kernel_rfl) (fun c a d v w h => by cases d <;> exact h) ⟨HROW.out, HC.out⟩ ?_
      have hb := (Below.refl w27.heap.size w27).drew
      replace HO := Lib.hid (HO.out.next hb)
      replace HROW := Lib.hid (bl_row hb (lt_of_block HROW.out) HROW.out)
      replace HZ := Lib.hid (bl_row hb (lt_of_block HZ.out) HZ.out)
      replace HC := Lib.hid (bl_row hb (lt_of_block HC.out) HC.out)
      replace HE := Lib.hid (own_below HE.out hb)
      clear hb
      generalize w27.drew = w28 at HROW HZ HC HE HO ⊢
      haveI hne : Nonempty (In (fun y => y.heap[p]? = some (.cells ([.slice ab3 (n + 1) ac3, .int .u64 (nx + 1), .int .u64 (nextM sd)] : List Value).toArray 78 (0, 0)) ∧ y.heap[gc]? = some (.cells ([.int .u8 b0, .int .u8 b1, .int .u8 b2, .int .u8 b3, .int .u8 b4, .int .u8 b5, .int .u8 b6, .int .u8 b7] : List Value).toArray 38 (0, 0)))) := ⟨⟨w28, ⟨HROW.out, HC.out⟩⟩⟩
      repeat (first | (refine plan_t_load (by rfl) (by kernel_rfl) 38 _ rfl gc 0 rfl [.int .u8 b0, .int .u8 b1, .int .u8 b2, .int .u8 b3, .int .u8 b4, .int .u8 b5, .int .u8 b6, .int .u8 b7] _ (fun y hy => rngL hy.2) Try.underlying38 rfl rfl ?_; simp only [Act.put, List.setIfInBounds_toArray, List.set_cons_succ, List.set_cons_zero]) | (refine plan_t (by rfl) ?_; (first | go_big_quiet_skip | (go_big_quiet_want; go_big_quiet_op; go_big_quiet_on)); refine wpQuiet_nil ?_))
      clear g1
      refine plan_us (by rfl) (by kernel_rfl) ?_
      intro K hK
      refine wp_store_row 53 _ _ rfl gz rfl [.int .i64 24, .int .u64 0, .int .u64 0, .slice none 0 0, .bool false, .int .u64 0, .int .u64 0, .int .u64 0, .int .u64 nx, .int .u64 0, .slice none 0 0, .int .u8 b0, .int .u8 b1, .int .u8 b2, .int .u8 b3, .int .u8 b4, .int .u8 b5, .int .u8 b6, .int .u8 b7] [.int .i64 0, .int .u64 0, .int .u64 0, .slice none 0 0, .bool false, .int .u64 0, .int .u64 0, .int .u64 0, .int .u64 0, .int .u64 0, .slice none 0 0, .int .u8 0, .int .u8 0, .int .u8 0, .int .u8 0, .int .u8 0, .int .u8 0, .int .u8 0, .int .u8 0] rfl 53 HZ.out rfl rfl (one19 rfl rfl) ?_
      intro w99 hr hg
      replace HROW := Lib.hid (grown_row hg (row_ne HROW.out HZ.out (by decide)) HROW.out)
      replace HC := Lib.hid (grown_row hg (row_ne HC.out HZ.out (by decide)) HC.out)
      replace HE := Lib.hid (own_grown HE.out hg (fun g hg e => own_ne HE.out HZ.out (by decide) (hg.trans e)))
      replace HO := Lib.hid (HO.out.fresh hg (by rw [HGZ.out]; exact Nat.le_refl _))
      have HZ9 := Lib.hid hr
      clear hr hg HZ
      refine hK _ _ ⟨⟨HROW.out, HC.out⟩, ?_⟩
      clear hK K
      try simp only [Act.put, List.setIfInBounds_toArray, List.set_cons_succ, List.set_cons_zero]
      repeat (first | (refine plan_t_load (by rfl) (by kernel_rfl) 38 _ rfl gc 0 rfl [.int .u8 b0, .int .u8 b1, .int .u8 b2, .int .u8 b3, .int .u8 b4, .int .u8 b5, .int .u8 b6, .int .u8 b7] _ (fun y hy => rngL hy.2) Try.underlying38 rfl rfl ?_; simp only [Act.put, List.setIfInBounds_toArray, List.set_cons_succ, List.set_cons_zero]) | (refine plan_t (by rfl) ?_; (first | go_big_quiet_skip | (go_big_quiet_want; go_big_quiet_op; go_big_quiet_on)); refine wpQuiet_nil ?_))
      clear hne
      show Exit.then _ _ _ _ _
      try simp only [Act.put, List.setIfInBounds_toArray, List.set_cons_succ, List.set_cons_zero]
      go_wp2_with fail
      refine bodyPost_ret (results_cell2 rfl _ _ gz rfl [.int .i64 24, .int .u64 0, .int .u64 0, .slice none 0 0, .bool false, .int .u64 0, .int .u64 0, .int .u64 0, .int .u64 nx, .int .u64 0, .slice none 0 0, .int .u8 b0, .int .u8 b1, .int .u8 b2, .int .u8 b3, .int .u8 b4, .int .u8 b5, .int .u8 b6, .int .u8 b7] _ _ HZ9.out Try.underlying53 rfl rfl) rfl ?_
      have hln : (L ++ [((nx, [b0, b1, b2, b3, b4, b5, b6, b7]) : Nm)]).length = n + 1 := by simp [HN.out]
      refine ⟨B ++ blkS ab3, ⟨HO.out, fun g hg => ?_⟩, .inr ⟨by rw [HN.out]; omega, by rw [HBE.out]; rfl, ?_⟩⟩
      · rcases List.mem_append.1 hg with hg | hg
        · exact .inl hg
        · obtain ⟨x, rfl, rfl⟩ := blkS_mem.1 hg; exact .inr (HAC.out x rfl)
      · rw [HBE.out]
        refine ⟨⟨ab3, ac3, by rw [hln]; exact HROW.out, by rw [hln]; exact HE.out, fun x hx => List.mem_append_right _ (blkS_mem.2 ⟨x, hx, rfl⟩)⟩, List.mem_append_left _ HPM.out, fun g hg => ?_, fun y hy => ?_, by omega, wf_next_u sd, by rw [hln]; omega⟩
        · rcases List.mem_append.1 hg with hg | hg
          · exact Nat.lt_of_lt_of_le (H.out.lt g hg) HO.out.size
          · obtain ⟨x, rfl, rfl⟩ := blkS_mem.1 hg
            rcases HE.out.2 with ⟨e, _⟩ | ⟨g2, cap, cur, e, _, hrow, _⟩
            · cases e
            · injection e with e; injection e with e; rw [e]; exact lt_of_block hrow
        · rcases List.mem_append.1 hy with hy | hy
          · exact H.out.ok y hy
          · rw [List.mem_singleton.1 hy]; exact HXO.out
end Go.Proofs.Ytjdcmhclamjcjaa
namespace Go.Proofs.Ytjdcmhclamjcjaa
open Go.RowKit
set_option linter.unusedVariables false
set_option linter.unusedSimpArgs false

set_option maxRecDepth 100000 in
set_option maxHeartbeats 8000000 in
theorem retire_any (w : World) (p : Nat) (B : List Nat) (L : List Nm) (nx sd s : Int) (h : OwnAt 68 65 w p B L nx sd) (hs : U64 s) :
    Calls Try.prog 12 #[.pointer (some ⟨p, 0, none⟩), .int .u64 s] w (RetR 68 65 w p B L nx sd s) := by
  have H := Lib.hid h
  have HPM := Lib.hid h.pm
  have HO := Lib.hid (Off.refl B w); have HB := Lib.hid (Below.refl w.heap.size w)
  obtain ⟨a, cp, hrow, hown, hblk⟩ := h.ex
  have HROW := Lib.hid hrow; have HOWN := Lib.hid hown; have HBK := Lib.hid hblk
  have hL := h.len
  clear hrow hown hblk h
  obtain ⟨n, hn⟩ : ∃ n, L.length = n := ⟨_, rfl⟩
  have HN := Lib.hid hn
  rw [hn] at HROW HOWN hL
  clear hn
  have HNC : Hid (n ≤ cp ∧ cp ≤ 9223372036854775807) := Lib.hid (by obtain ⟨_, _, e, h1, h2⟩ := sl_own HOWN.out; injection e with e1 e2 e3; subst e3; exact ⟨h1, h2⟩)
  go_enter Try.func12, Try.ntmps12
  go_upto_region 1 with fail
  change Code.wp _ _ _ _ (w.alloc (.cells ([.int .u8 0, .int .u8 0, .int .u8 0, .int .u8 0, .int .u8 0, .int .u8 0, .int .u8 0, .int .u8 0] : List Value).toArray 38))
  have hb := (Below.refl w.heap.size w).alloc (Nat.le_refl _) (.cells ([.int .u8 0, .int .u8 0, .int .u8 0, .int .u8 0, .int .u8 0, .int .u8 0, .int .u8 0, .int .u8 0] : List Value).toArray 38)
  replace HB := Lib.hid (bl_next HB.out HB.out.size hb)
  replace HROW := Lib.hid (bl_row hb (lt_of_block HROW.out) HROW.out)
  replace HOWN := Lib.hid (own_below HOWN.out hb)
  have HZ := Lib.hid (heap_alloc_new w (.cells ([.int .u8 0, .int .u8 0, .int .u8 0, .int .u8 0, .int .u8 0, .int .u8 0, .int .u8 0, .int .u8 0] : List Value).toArray 38))
  clear hb
  generalize w.alloc (.cells ([.int .u8 0, .int .u8 0, .int .u8 0, .int .u8 0, .int .u8 0, .int .u8 0, .int .u8 0, .int .u8 0] : List Value).toArray 38) = w1 at HB HROW HOWN HZ ⊢
  obtain ⟨gz, hg⟩ : ∃ g, w.heap.size = g := ⟨_, rfl⟩
  rw [hg] at HZ ⊢
  have HGZ := Lib.hid hg
  clear hg
  have c0 := row_cell HROW.out 0 _ rfl
  go_wp2_with fail
  clear c0
  go_loopw [13] (fun s1 wr => ∃ (i : Nat), s1 = .int .i64 i ∧ i ≤ n ∧ Hid (Below w1.heap.size w1 wr) ∧ Hid (∀ y ∈ L.take i, y.1 ≠ s)) (fun s1 _ => n - (intOf s1).toNat)
  case atStart => exact ⟨0, rfl, by omega, Lib.hid (Below.refl _ _), Lib.hid (by simp)⟩
  case round =>
    obtain ⟨i, rfl, hi, HBW, HA⟩ := hrel
    have HBW0 := HBW.out
    replace HB := Lib.hid (bl_next HB.out HB.out.size HBW0)
    replace HROW := Lib.hid (bl_row HBW0 (lt_of_block HROW.out) HROW.out)
    replace HOWN := Lib.hid (own_below HOWN.out HBW0)
    replace HZ := Lib.hid (bl_row HBW0 (lt_of_block HZ.out) HZ.out)
    have HQB := HBW
    clear HBW HBW0
    have HWR : Hid (gz < wr.heap.size) := Lib.hid (lt_of_block HZ.out)
    have HPR := Lib.hid (fun W (h : Below wr.heap.size wr W) => bl_row h (lt_of_block HROW.out) HROW.out)
    by_cases hlt : i < n
    · skip
      obtain ⟨ab, ao, x, rfl, habl, hx, hok, hrg⟩ := (RK.At.of_own HOWN.out H.out.ok).at hlt
      have HX := Lib.hid hx; have HOK := Lib.hid hok; have HRG := Lib.hid hrg; have HABL := Lib.hid habl
      clear hx hok hrg habl
      have hu := HOK.out.1
      have hx0 : wr.cell? ⟨ab, ao + i * 9, none⟩ = some (.int .u64 x.1) := HRG.out 0 _ rfl
      clear hx0
      have hl9 := nmK.len x HOK.out; have ho9 := nmK.one x HOK.out
      obtain ⟨RX, hRX⟩ : ∃ R, nmK.enc x = R := ⟨_, rfl⟩
      have HRX := Lib.hid hRX
      rw [hRX] at hl9 ho9
      rw [hRX] at HRG
      have HL9 : Hid (RX.length = 9) := Lib.hid hl9; have HO9 := Lib.hid ho9
      clear hl9 ho9 hRX
      go_upto_region 4 with (first | (refine wpList_load_mid rfl 65 _ rfl ab (ao + i * 9) rfl RX _ (HRG.out) Try.underlying65 rfl (by rw [HL9.out]; rfl) ?_) | (refine wpList_store_row rfl 65 _ _ rfl wr.heap.size rfl RX [.int .u64 0, .int .u8 0, .int .u8 0, .int .u8 0, .int .u8 0, .int .u8 0, .int .u8 0, .int .u8 0, .int .u8 0] rfl 65 (heap_alloc_new _ _) (by rw [HL9.out]; rfl) (by rw [HL9.out]; rfl) HO9.out ?_; intro w5 hr5 hg5) | fail)
      have hb5 := below_boxed hg5
      have hxs := cell_row hr5 0 _ (nm_head HRX.out)
      have hrg5 := rng_row hr5 1 _ (nm_tail HRX.out)
      have HX5 := Lib.hid hr5
      clear hg5 hr5
      replace HB := Lib.hid (bl_next HB.out HB.out.size hb5)
      replace HROW := Lib.hid (bl_row hb5 (lt_of_block HROW.out) HROW.out)
      replace HOWN := Lib.hid (own_below HOWN.out hb5)
      replace HZ := Lib.hid (bl_row hb5 (lt_of_block HZ.out) HZ.out)
      replace HQB := Lib.hid (bl_next HQB.out HQB.out.size hb5)
      have HABL5 : Hid (wr.heap.size ≤ w5.heap.size) := Lib.hid hb5.size
      have HGXA : Hid (ab ≠ wr.heap.size) := Lib.hid (Nat.ne_of_lt HABL.out)
      clear hb5
      obtain ⟨gx, hgx⟩ : ∃ g, wr.heap.size = g := ⟨_, rfl⟩
      rw [hgx] at hxs hrg5 HX5 HGXA ⊢
      have HGXE := Lib.hid hgx
      clear hgx
      try simp only [Act.put]
      have HCX := Lib.hid hrg5
      clear hrg5
      by_cases heq : x.1 = s
      · skip
        have hret : retM L s = some (x, L.take i ++ L.drop (i + 1)) := by
          have e : L = L.take i ++ x :: L.drop (i + 1) := by
            have hl := lt_of_get HX.out
            have hxe : L[i] = x := by have := List.getElem?_eq_getElem hl; rw [HX.out] at this; injection this with this; exact this.symm
            rw [← hxe, ← List.drop_eq_getElem_cons hl, List.take_append_drop]
          have h2 := retM_some (l2 := L.drop (i + 1)) HA.out heq
          rw [← e] at h2; exact h2
        have HRET := Lib.hid hret
        clear hret
        by_cases h1 : n = 1
        · skip
          have hl1 : L.length = 1 := by rw [HN.out]; exact h1
          have HL1 := Lib.hid hl1
          clear hl1
          have c0 := row_cell HROW.out 0 _ rfl
          skip
          go_wp2_with (first | (refine wpList_store_row rfl 38 _ _ rfl gz rfl [.int .u8 0, .int .u8 0, .int .u8 0, .int .u8 0, .int .u8 0, .int .u8 0, .int .u8 0, .int .u8 0] [.int .u8 0, .int .u8 0, .int .u8 0, .int .u8 0, .int .u8 0, .int .u8 0, .int .u8 0, .int .u8 0] rfl 38 HZ.out rfl rfl (by intro v hv; simp only [List.mem_cons, List.not_mem_nil, or_false] at hv; rcases hv with rfl | rfl | rfl | rfl | rfl | rfl | rfl | rfl <;> rfl) ?_; intro w9 hz hg9; have HZ9 := Lib.hid hz; have HG9 := Lib.hid hg9; clear hz hg9) | fail)
          refine bodyPost_ret (results_cell2 rfl _ _ gz rfl [.int .u8 0, .int .u8 0, .int .u8 0, .int .u8 0, .int .u8 0, .int .u8 0, .int .u8 0, .int .u8 0] _ _ HZ9.out Try.underlying38 rfl rfl) rfl ?_
          have hbz : Below w.heap.size w w9 := HB.out.grown HG9.out HB.out.size (by intro k hk; injection hk with hk; have := HGZ.out; omega)
          exact ⟨B, UpdO.of_below hbz, .inr ⟨x, _, HRET.out, .inl ⟨HL1.out, rfl, H.out.below hbz⟩⟩⟩
        · skip
          clear HQB
          have HOO := Lib.hid (Off.of_below (M := B) HB.out)
          clear HB HO
          have HO := HOO
          clear HOO
          have c0 := row_cell HROW.out 0 _ rfl
          have hcl : (x.2.map (Value.int .u8)).length = 8 := by simp [HOK.out.2.1]
          have hc1 : ∀ v ∈ x.2.map (Value.int .u8), v.oneCell' = true := cdK.one x.2 HOK.out.2
          obtain ⟨CX, hCX⟩ : ∃ C, x.2.map (Value.int .u8) = C := ⟨_, rfl⟩
          have HCXE := Lib.hid hCX
          rw [hCX] at hcl hc1
          have HCXL := Lib.hid hcl; have HC1 := Lib.hid hc1
          rw [hCX] at HCX
          clear hcl hc1 hCX
          go_upto_region 7 with fail
          clear c0 hxs
          have HGX0 : Hid (w.heap.size ≤ gx) := Lib.hid (by rw [← HGXE.out]; have := HGZ.out; have := HWR.out; omega)
          have g0 : ∀ z : In (fun y => y.heap[p]? = some (.cells ([.slice (some ⟨ab, ao, none⟩) n cp, .int .u64 nx, .int .u64 sd] : List Value).toArray 68 (0, 0))), z.w.cell? ⟨p, 0, none⟩ = some (.slice (some ⟨ab, ao, none⟩) n cp) := fun z => row_cell z.h 0 _ rfl
          obtain ⟨hnc, hncm⟩ := HNC.out
          refine wp_plan2 16 (.t 0 (.t 1 (.t 2 (.t 3 (.t 4 (.t 5 (.t 6 (.t 8 (.t 9 (.t 10 (.t 11 (.t 12 (.t 13 (.t 14 (.u 7 (.u 15 .done)))))))))))))))) (.t 16 (.t 17 (.u 18 .done))) (fun y => y.heap[p]? = some (.cells ([.slice (some ⟨ab, ao, none⟩) n cp, .int .u64 nx, .int .u64 sd] : List Value).toArray 68 (0, 0))) (by kernel_rfl) (by kernel_rfl) (by kernel_rfl) (fun c a d v w h => by cases d <;> exact h) HROW.out ?_
          have hb := (Below.refl w5.heap.size w5).drew
          replace HO := Lib.hid (HO.out.next hb)
          replace HROW := Lib.hid (bl_row hb (lt_of_block HROW.out) HROW.out)
          replace HOWN := Lib.hid (own_below HOWN.out hb)
          replace HZ := Lib.hid (bl_row hb (lt_of_block HZ.out) HZ.out)
          replace HX5 := Lib.hid (bl_row hb (lt_of_block HX5.out) HX5.out)
          clear hb
          generalize w5.drew = w6 at HROW HOWN HZ HX5 HO ⊢
          haveI hne : Nonempty (In (fun y => y.heap[p]? = some (.cells ([.slice (some ⟨ab, ao, none⟩) n cp, .int .u64 nx, .int .u64 sd] : List Value).toArray 68 (0, 0)))) := ⟨⟨w6, HROW.out⟩⟩
          repeat (first | (refine plan_t (by rfl) ?_; (first | go_big_quiet_skip | (go_big_quiet_want; go_big_quiet_op; go_big_quiet_on)); refine wpQuiet_nil ?_))
          clear g0
          have HSRC := Lib.hid (RK.At.of_own HOWN.out H.out.ok)
          have HSUF := Lib.hid (HSRC.out.sufC (i + 1) cp (by omega) hnc)
          replace HSUF : Hid (nmK.At _ (if cp = i + 1 then (some ⟨ab, ao, none⟩ : Option Addr) else some ⟨ab, ao + (i + 1) * 9, none⟩) _ _) := HSUF
          have HDA : Hid (∀ y, (if cp = i + 1 then (some ⟨ab, ao, none⟩ : Option Addr) else some ⟨ab, ao + (i + 1) * 9, none⟩) = some y → y.block = ab) := Lib.hid (fun y hy => by split at hy <;> (injection hy with hy; subst hy; rfl))
          generalize (if cp = i + 1 then (some ⟨ab, ao, none⟩ : Option Addr) else some ⟨ab, ao + (i + 1) * 9, none⟩) = dsx at HSUF HDA ⊢
          have HXW := HX5
          refine plan_us (by rfl) (by kernel_rfl) ?_
          intro K hK
          have hgz : w.heap.size ≤ w6.heap.size := HO.out.size
          have hab : ab < w6.heap.size := HSRC.out.lt _ rfl (by omega)
          refine wp_append_rk nmT _ _ rfl 0 0 (.slice none 0 0) [] rfl (⟨rfl, .inl ⟨rfl, rfl⟩⟩ : World.ownsRow w6 0 65 nmK.N (.slice none 0 0) 0 (nmK.flat [])) _ i cp (L.take i) rfl (HSRC.out.pre i (by omega)) (by omega) (Nat.zero_le _) ?_
          intro v' w7 ho2 hg2 hor
          have hbn : Below w6.heap.size w6 w7 := below_of_none hg2
          replace HO := Lib.hid (HO.out.next hbn)
          replace HROW := Lib.hid (bl_row hbn (lt_of_block HROW.out) HROW.out)
          replace HZ := Lib.hid (bl_row hbn (lt_of_block HZ.out) HZ.out)
          replace HX5 := Lib.hid (bl_row hbn (lt_of_block HX5.out) HX5.out)
          replace HSRC := Lib.hid (HSRC.out.below hbn)
          replace HSUF := Lib.hid (HSUF.out.below hbn)
          clear hbn
          obtain ⟨ab2, ac2, rfl, _⟩ := sl_own ho2
          simp only [Nat.zero_add] at ho2 hor hK ⊢
          rw [List.nil_append] at ho2
          have HE2 := Lib.hid ho2
          have HAB : Hid (∀ x, ab2 = some x → w.heap.size ≤ x.block ∧ x.block ≠ ab ∧ x.block ≠ gx) := Lib.hid (fun x hx => by subst hx; rcases hor with e | e; cases e; (have e2 : some x.block = some _ := e; injection e2 with e2; rw [e2]); exact ⟨hgz, Nat.ne_of_gt hab, fun e => by have h9 := lt_of_block HXW.out; omega⟩)
          clear ho2 hor hg2 hgz hab
          refine hK _ _ ⟨HROW.out, ?_⟩
          clear hK K
          simp only [Act.put, List.setIfInBounds_toArray, List.set_cons_succ, List.set_cons_zero]
          refine plan_us (by rfl) (by kernel_rfl) ?_
          intro K hK
          have hgz : w.heap.size ≤ w7.heap.size := HO.out.size
          refine wp_append_rk nmT _ _ rfl 0 i (.slice ab2 i ac2) (L.take i) rfl HE2.out dsx (n - (i + 1)) (cp - (i + 1)) (L.drop (i + 1)) rfl HSUF.out (by omega) (Nat.zero_le _) ?_
          intro v' w8 ho2 hg2 hor
          replace HROW := Lib.hid (grown_row hg2 (fun e => own_ne HE2.out HROW.out (by decide) e.symm) HROW.out)
          replace HZ := Lib.hid (grown_row hg2 (fun e => own_ne HE2.out HZ.out (by decide) e.symm) HZ.out)
          replace HX5 := Lib.hid (grown_row hg2 (fun e => by cases ab2 with | none => cases e | some y => have e2 : some gx = some y.block := e; injection e2 with e2; exact (HAB.out y rfl).2.2 e2.symm) HX5.out)
          replace HO := Lib.hid (HO.out.freshS hg2 (fun x hx => (HAB.out x hx).1))
          have hie : i + (n - (i + 1)) = n - 1 := by omega
          rw [hie] at ho2
          obtain ⟨ab3, ac3, rfl, _⟩ := sl_own ho2
          replace HE2 := Lib.hid ho2
          have HAC : Hid (∀ x, ab3 = some x → w.heap.size ≤ x.block) := Lib.hid (fun x hx => by subst hx; rcases hor with e | e; (cases ab2 with | none => cases e | some y => have e2 : some x.block = some y.block := e; injection e2 with e2; rw [e2]; exact (HAB.out y rfl).1); (have e2 : some x.block = some _ := e; injection e2 with e2; rw [e2]; exact hgz))
          clear ho2 hor hg2 hgz HSRC HSUF HAB hie
          refine hK _ _ ⟨HROW.out, ?_⟩
          clear hK K
          simp only [Act.put, List.setIfInBounds_toArray, List.set_cons_succ, List.set_cons_zero]
          clear HXW
          clear hne
          refine ⟨fun _ => True, trivial, ?_⟩
          haveI hne : Nonempty (In (fun _ => True)) := ⟨⟨w8, trivial⟩⟩
          repeat (first | (refine plan_t (by rfl) ?_; (first | go_big_quiet_skip | (go_big_quiet_want; go_big_quiet_op; go_big_quiet_on)); refine wpQuiet_nil ?_))
          refine plan_us (by rfl) (by kernel_rfl) ?_
          intro K hK
          have c0 := row_cell HROW.out 0 _ rfl
          have f0 := row_free HROW.out 0
          go_wp2_with fail
          clear c0 f0
          have hgs := grown_setCell w8 p 0 (.slice ab3 (n - 1) ac3)
          have hrs := row_setL HROW.out 0 (.slice ab3 (n - 1) ac3)
          replace HZ := Lib.hid (grown_row hgs (row_ne HZ.out HROW.out (by decide)) HZ.out)
          replace HX5 := Lib.hid (grown_row hgs (row_ne HX5.out HROW.out (by decide)) HX5.out)
          replace HO := Lib.hid (HO.out.setCell (k := 0) HPM.out (.slice ab3 (n - 1) ac3))
          replace HE2 := Lib.hid (own_grown HE2.out hgs (fun g hg e => own_ne HE2.out HROW.out (by decide) (hg.trans e)))
          replace HROW : Hid ((w8.setCell ⟨p, 0, none⟩ (.slice ab3 (n - 1) ac3)).heap[p]? = some (.cells ([.slice ab3 (n - 1) ac3, .int .u64 nx, .int .u64 sd] : List Value).toArray 68 (0, 0))) := Lib.hid hrs
          clear hgs hrs
          generalize w8.setCell ⟨p, 0, none⟩ (.slice ab3 (n - 1) ac3) = w9 at HROW HZ HX5 HO HE2 ⊢
          refine ⟨trivial, ?_⟩
          clear hne
          show Exit.then _ _ _ _ _
          try simp only [Act.put, List.setIfInBounds_toArray, List.set_cons_succ, List.set_cons_zero]
          go_wp2_with (first | (refine wpList_load_mid rfl 38 _ rfl gx (1) rfl CX _ ((rng_row HX5.out 1 _ (by rw [← HCXE.out]; exact nm_tail HRX.out))) Try.underlying38 rfl (by rw [HCXL.out]; rfl) ?_) | (refine wpList_store_row rfl 38 _ _ rfl gz rfl CX [.int .u8 0, .int .u8 0, .int .u8 0, .int .u8 0, .int .u8 0, .int .u8 0, .int .u8 0, .int .u8 0] rfl 38 HZ.out (by rw [HCXL.out]; rfl) (by rw [HCXL.out]; rfl) HC1.out ?_; intro w99 hz hg9; have HZ9 := Lib.hid hz; have HG9 := Lib.hid hg9; clear hz hg9) | fail)
          refine bodyPost_ret (results_cell2 rfl _ _ gz rfl CX _ _ HZ9.out Try.underlying38 rfl (by rw [HCXL.out]; rfl)) rfl ?_
          have hOff := HO.out.fresh HG9.out (by rw [HGZ.out]; exact Nat.le_refl _)
          have hr9 := grown_row HG9.out (row_ne HROW.out HZ.out (by decide)) HROW.out
          have ho9 := own_grown HE2.out HG9.out (fun g hg e => own_ne HE2.out HZ.out (by decide) (hg.trans e))
          have hln : (L.take i ++ L.drop (i + 1)).length = n - 1 := by rw [List.length_append, List.length_take, List.length_drop, HN.out]; omega
          refine ⟨B ++ blkS ab3, ⟨hOff, fun g hg => ?_⟩, .inr ⟨x, _, HRET.out, .inr ⟨by rw [HN.out]; exact h1, by unfold cidV; rw [HCXE.out]; rfl, ?_⟩⟩⟩
          · rcases List.mem_append.1 hg with hg | hg
            · exact .inl hg
            · obtain ⟨y, rfl, rfl⟩ := blkS_mem.1 hg; exact .inr (HAC.out y rfl)
          · refine ⟨⟨ab3, ac3, by rw [hln]; exact hr9, by rw [hln]; exact ho9, fun y hy => List.mem_append_right _ (blkS_mem.2 ⟨y, hy, rfl⟩)⟩, List.mem_append_left _ HPM.out, fun g hg => ?_, fun y hy => ?_, H.out.nx, H.out.sd, by rw [hln]; omega⟩
            · rcases List.mem_append.1 hg with hg | hg
              · exact Nat.lt_of_lt_of_le (H.out.lt g hg) hOff.size
              · obtain ⟨y, rfl, rfl⟩ := blkS_mem.1 hg
                rcases ho9.2 with ⟨e, _⟩ | ⟨g2, cap, cur, e, _, hrow, _⟩
                · cases e
                · injection e with e; injection e with e; rw [e]; exact lt_of_block hrow
            · rcases List.mem_append.1 hy with hy | hy
              · exact H.out.ok y (List.mem_of_mem_take hy)
              · exact H.out.ok y (List.mem_of_mem_drop hy)
      · skip
        go_wp2_with fail
        clear hxs
        go_roundw
        case rel => exact ⟨i + 1, by go_num, by omega, Lib.hid (HQB.out), Lib.hid (fun y hy => by rw [take_snd' HX.out] at hy; rcases List.mem_append.1 hy with hy | hy; exact HA.out y hy; rw [List.mem_singleton.1 hy]; exact heq)⟩
        case measure => simp [intOf]; omega
    · obtain rfl : i = n := by omega
      have hret : retM L s = none := retM_none (fun y hy => HA.out y (by rw [List.take_of_length_le (by rw [HN.out]; exact Nat.le_refl _)]; exact hy))
      have HRET := Lib.hid hret
      clear hret
      go_wp2_with (first | (refine wpList_store_row rfl 38 _ _ rfl gz rfl [.int .u8 0, .int .u8 0, .int .u8 0, .int .u8 0, .int .u8 0, .int .u8 0, .int .u8 0, .int .u8 0] [.int .u8 0, .int .u8 0, .int .u8 0, .int .u8 0, .int .u8 0, .int .u8 0, .int .u8 0, .int .u8 0] rfl 38 HZ.out rfl rfl (by intro v hv; simp only [List.mem_cons, List.not_mem_nil, or_false] at hv; rcases hv with rfl | rfl | rfl | rfl | rfl | rfl | rfl | rfl <;> rfl) ?_; intro w9 hz hg9; have HZ9 := Lib.hid hz; have HG9 := Lib.hid hg9; clear hz hg9) | fail)
      refine bodyPost_ret (results_cell2 rfl _ _ gz rfl [.int .u8 0, .int .u8 0, .int .u8 0, .int .u8 0, .int .u8 0, .int .u8 0, .int .u8 0, .int .u8 0] _ _ HZ9.out Try.underlying38 rfl rfl) rfl ?_
      have hbz : Below w.heap.size w w9 := HB.out.grown HG9.out HB.out.size (by intro k hk; injection hk with hk; have := HGZ.out; omega)
      exact ⟨B, UpdO.of_below hbz, .inl ⟨HRET.out, rfl, H.out.below hbz⟩⟩
end Go.Proofs.Ytjdcmhclamjcjaa
namespace Go.Proofs.Ytjdcmhclamjcjaa
open Go.RowKit
set_option linter.unusedVariables false
set_option linter.unusedSimpArgs false

set_option maxRecDepth 100000 in
set_option maxHeartbeats 8000000 in
theorem rretire_any (w : World) (p : Nat) (B : List Nat) (L : List Nm) (nx sd s : Int) (h : OwnAt 78 75 w p B L nx sd) (hs : U64 s) :
    Calls Try.prog 13 #[.pointer (some ⟨p, 0, none⟩), .int .u64 s] w (RetR 78 75 w p B L nx sd s) := by
  have H := Lib.hid h
  have HPM := Lib.hid h.pm
  have HO := Lib.hid (Off.refl B w); have HB := Lib.hid (Below.refl w.heap.size w)
  obtain ⟨a, cp, hrow, hown, hblk⟩ := h.ex
  have HROW := Lib.hid hrow; have HOWN := Lib.hid hown; have HBK := Lib.hid hblk
  have hL := h.len
  clear hrow hown hblk h
  obtain ⟨n, hn⟩ : ∃ n, L.length = n := ⟨_, rfl⟩
  have HN := Lib.hid hn
  rw [hn] at HROW HOWN hL
  clear hn
  have HNC : Hid (n ≤ cp ∧ cp ≤ 9223372036854775807) := Lib.hid (by obtain ⟨_, _, e, h1, h2⟩ := sl_own HOWN.out; injection e with e1 e2 e3; subst e3; exact ⟨h1, h2⟩)
  go_enter Try.func13, Try.ntmps13
  go_upto_region 1 with fail
  change Code.wp _ _ _ _ (w.alloc (.cells ([.int .u8 0, .int .u8 0, .int .u8 0, .int .u8 0, .int .u8 0, .int .u8 0, .int .u8 0, .int .u8 0] : List Value).toArray 38))
  have hb := (Below.refl w.heap.size w).alloc (Nat.le_refl _) (.cells ([.int .u8 0, .int .u8 0, .int .u8 0, .int .u8 0, .int .u8 0, .int .u8 0, .int .u8 0, .int .u8 0] : List Value).toArray 38)
  replace HB := Lib.hid (bl_next HB.out HB.out.size hb)
  replace HROW := Lib.hid (bl_row hb (lt_of_block HROW.out) HROW.out)
  replace HOWN := Lib.hid (own_below HOWN.out hb)
  have HZ := Lib.hid (heap_alloc_new w (.cells ([.int .u8 0, .int .u8 0, .int .u8 0, .int .u8 0, .int .u8 0, .int .u8 0, .int .u8 0, .int .u8 0] : List Value).toArray 38))
  clear hb
  generalize w.alloc (.cells ([.int .u8 0, .int .u8 0, .int .u8 0, .int .u8 0, .int .u8 0, .int .u8 0, .int .u8 0, .int .u8 0] : List Value).toArray 38) = w1 at HB HROW HOWN HZ ⊢
  obtain ⟨gz, hg⟩ : ∃ g, w.heap.size = g := ⟨_, rfl⟩
  rw [hg] at HZ ⊢
  have HGZ := Lib.hid hg
  clear hg
  go_wp2_with fail
  go_loopw [6] (fun s1 wr => ∃ (i : Nat), s1 = .int .i64 i ∧ i ≤ n ∧ Hid (Below w1.heap.size w1 wr) ∧ Hid (∀ y ∈ L.take i, y.1 ≠ s)) (fun s1 _ => n - (intOf s1).toNat)
  case atStart => exact ⟨0, rfl, by omega, Lib.hid (Below.refl _ _), Lib.hid (by simp)⟩
  case round =>
    obtain ⟨i, rfl, hi, HBW, HA⟩ := hrel
    have HBW0 := HBW.out
    replace HB := Lib.hid (bl_next HB.out HB.out.size HBW0)
    replace HROW := Lib.hid (bl_row HBW0 (lt_of_block HROW.out) HROW.out)
    replace HOWN := Lib.hid (own_below HOWN.out HBW0)
    replace HZ := Lib.hid (bl_row HBW0 (lt_of_block HZ.out) HZ.out)
    have HQB := HBW
    clear HBW HBW0
    have HWR : Hid (gz < wr.heap.size) := Lib.hid (lt_of_block HZ.out)
    have HPR := Lib.hid (fun W (h : Below wr.heap.size wr W) => bl_row h (lt_of_block HROW.out) HROW.out)
    by_cases hlt : i < n
    · skip
      obtain ⟨ab, ao, x, rfl, habl, hx, hok, hrg⟩ := (RK.At.of_own HOWN.out H.out.ok).at hlt
      have HX := Lib.hid hx; have HOK := Lib.hid hok; have HRG := Lib.hid hrg; have HABL := Lib.hid habl
      clear hx hok hrg habl
      have hu := HOK.out.1
      have hx0 : wr.cell? ⟨ab, ao + i * 9, none⟩ = some (.int .u64 x.1) := HRG.out 0 _ rfl
      by_cases heq : x.1 = s
      · skip
        have hret : retM L s = some (x, L.take i ++ L.drop (i + 1)) := by
          have e : L = L.take i ++ x :: L.drop (i + 1) := by
            have hl := lt_of_get HX.out
            have hxe : L[i] = x := by have := List.getElem?_eq_getElem hl; rw [HX.out] at this; injection this with this; exact this.symm
            rw [← hxe, ← List.drop_eq_getElem_cons hl, List.take_append_drop]
          have h2 := retM_some (l2 := L.drop (i + 1)) HA.out heq
          rw [← e] at h2; exact h2
        have HRET := Lib.hid hret
        clear hret
        by_cases h1 : n = 1
        · skip
          have hl1 : L.length = 1 := by rw [HN.out]; exact h1
          have HL1 := Lib.hid hl1
          clear hl1
          have c0 := row_cell HROW.out 0 _ rfl
          skip
          go_wp2_with (first | (refine wpList_store_row rfl 38 _ _ rfl gz rfl [.int .u8 0, .int .u8 0, .int .u8 0, .int .u8 0, .int .u8 0, .int .u8 0, .int .u8 0, .int .u8 0] [.int .u8 0, .int .u8 0, .int .u8 0, .int .u8 0, .int .u8 0, .int .u8 0, .int .u8 0, .int .u8 0] rfl 38 HZ.out rfl rfl (by intro v hv; simp only [List.mem_cons, List.not_mem_nil, or_false] at hv; rcases hv with rfl | rfl | rfl | rfl | rfl | rfl | rfl | rfl <;> rfl) ?_; intro w9 hz hg9; have HZ9 := Lib.hid hz; have HG9 := Lib.hid hg9; clear hz hg9) | fail)
          refine bodyPost_ret (results_cell2 rfl _ _ gz rfl [.int .u8 0, .int .u8 0, .int .u8 0, .int .u8 0, .int .u8 0, .int .u8 0, .int .u8 0, .int .u8 0] _ _ HZ9.out Try.underlying38 rfl rfl) rfl ?_
          have hbz : Below w.heap.size w w9 := HB.out.grown HG9.out HB.out.size (by intro k hk; injection hk with hk; have := HGZ.out; omega)
          exact ⟨B, UpdO.of_below hbz, .inr ⟨x, _, HRET.out, .inl ⟨HL1.out, rfl, H.out.below hbz⟩⟩⟩
        · skip
          clear HQB
          have HOO := Lib.hid (Off.of_below (M := B) HB.out)
          clear HB HO
          have HO := HOO
          clear HOO
          have c0 := row_cell HROW.out 0 _ rfl
          have hrgx : wr.rangeAt ab (ao + i * 9 + 1) (x.2.map (Value.int .u8)) := fun j v hv => by rw [Nat.add_assoc]; exact HRG.out (1 + j) v (nm_tail rfl j v hv)
          have hcl : (x.2.map (Value.int .u8)).length = 8 := by simp [HOK.out.2.1]
          have hc1 : ∀ v ∈ x.2.map (Value.int .u8), v.oneCell' = true := cdK.one x.2 HOK.out.2
          obtain ⟨CX, hCX⟩ : ∃ C, x.2.map (Value.int .u8) = C := ⟨_, rfl⟩
          have HCXE := Lib.hid hCX
          rw [hCX] at hrgx hcl hc1
          have HCXL := Lib.hid hcl; have HC1 := Lib.hid hc1; have HRGX := Lib.hid hrgx
          clear hcl hc1 hrgx hCX
          go_upto_region 8 with (first | (refine wpList_load_mid rfl 38 _ rfl ab (ao + i * 9 + 1) rfl CX _ (HRGX.out) Try.underlying38 rfl (by rw [HCXL.out]; rfl) ?_) | (refine wpList_store_row rfl 38 _ _ rfl wr.heap.size rfl CX [.int .u8 0, .int .u8 0, .int .u8 0, .int .u8 0, .int .u8 0, .int .u8 0, .int .u8 0, .int .u8 0] rfl 38 (heap_alloc_new _ _) (by rw [HCXL.out]; rfl) (by rw [HCXL.out]; rfl) HC1.out ?_; intro w5 hr5 hg5) | fail)
          clear c0 hx0
          have hb5 := below_boxed hg5
          have HX5 := Lib.hid hr5
          clear hg5 hr5 HRGX
          replace HO := Lib.hid (HO.out.next hb5)
          replace HROW := Lib.hid (bl_row hb5 (lt_of_block HROW.out) HROW.out)
          replace HOWN := Lib.hid (own_below HOWN.out hb5)
          replace HZ := Lib.hid (bl_row hb5 (lt_of_block HZ.out) HZ.out)
          have HABL5 : Hid (wr.heap.size ≤ w5.heap.size) := Lib.hid hb5.size
          clear hb5
          obtain ⟨gx, hgx⟩ : ∃ g, wr.heap.size = g := ⟨_, rfl⟩
          rw [hgx] at HX5 ⊢
          have HGXE := Lib.hid hgx
          clear hgx
          try simp only [Act.put]
          have HGX0 : Hid (w.heap.size ≤ gx) := Lib.hid (by rw [← HGXE.out]; have := HGZ.out; have := HWR.out; omega)
          have g0 : ∀ z : In (fun y => y.heap[p]? = some (.cells ([.slice (some ⟨ab, ao, none⟩) n cp, .int .u64 nx, .int .u64 sd] : List Value).toArray 78 (0, 0))), z.w.cell? ⟨p, 0, none⟩ = some (.slice (some ⟨ab, ao, none⟩) n cp) := fun z => row_cell z.h 0 _ rfl
          obtain ⟨hnc, hncm⟩ := HNC.out
          refine wp_plan2 17 (.t 0 (.t 2 (.t 3 (.t 4 (.t 5 (.t 6 (.t 7 (.t 9 (.t 10 (.t 11 (.t 12 (.t 13 (.t 14 (.t 15 (.u 1 (.u 8 (.u 16 .done))))))))))))))))) (.t 17 (.t 18 (.u 19 .done))) (fun y => y.heap[p]? = some (.cells ([.slice (some ⟨ab, ao, none⟩) n cp, .int .u64 nx, .int .u64 sd] : List Value).toArray 78 (0, 0))) (by kernel_rfl) (by kernel_rfl) (by kernel_rfl) (fun c a d v w h => by cases d <;> exact h) HROW.out ?_
          have hb := (Below.refl w5.heap.size w5).drew
          replace HO := Lib.hid (HO.out.next hb)
          replace HROW := Lib.hid (bl_row hb (lt_of_block HROW.out) HROW.out)
          replace HOWN := Lib.hid (own_below HOWN.out hb)
          replace HZ := Lib.hid (bl_row hb (lt_of_block HZ.out) HZ.out)
          replace HX5 := Lib.hid (bl_row hb (lt_of_block HX5.out) HX5.out)
          clear hb
          generalize w5.drew = w6 at HROW HOWN HZ HX5 HO ⊢
          haveI hne : Nonempty (In (fun y => y.heap[p]? = some (.cells ([.slice (some ⟨ab, ao, none⟩) n cp, .int .u64 nx, .int .u64 sd] : List Value).toArray 78 (0, 0)))) := ⟨⟨w6, HROW.out⟩⟩
          repeat (first | (refine plan_t (by rfl) ?_; (first | go_big_quiet_skip | (go_big_quiet_want; go_big_quiet_op; go_big_quiet_on)); refine wpQuiet_nil ?_))
          clear g0
          have HSRC := Lib.hid (RK.At.of_own HOWN.out H.out.ok)
          have HSUF := Lib.hid (HSRC.out.sufC (i + 1) cp (by omega) hnc)
          replace HSUF : Hid (nmK.At _ (if cp = i + 1 then (some ⟨ab, ao, none⟩ : Option Addr) else some ⟨ab, ao + (i + 1) * 9, none⟩) _ _) := HSUF
          have HDA : Hid (∀ y, (if cp = i + 1 then (some ⟨ab, ao, none⟩ : Option Addr) else some ⟨ab, ao + (i + 1) * 9, none⟩) = some y → y.block = ab) := Lib.hid (fun y hy => by split at hy <;> (injection hy with hy; subst hy; rfl))
          generalize (if cp = i + 1 then (some ⟨ab, ao, none⟩ : Option Addr) else some ⟨ab, ao + (i + 1) * 9, none⟩) = dsx at HSUF HDA ⊢
          refine plan_us (by rfl) (by kernel_rfl) ?_
          intro K hK
          go_wp2_with fail
          have hal := (Below.refl w6.heap.size w6).alloc (Nat.le_refl _) (.cells #[] 75)
          have hee : (w6.alloc (.cells #[] 75)).ownsRow 0 75 nmK.N (.slice (some ⟨w6.heap.size, 0, none⟩) 0 0) 0 (nmK.flat []) := ⟨rfl, .inr ⟨_, 0, #[], rfl, Nat.zero_le _, heap_alloc_new w6 (.cells #[] 75), Nat.le_refl _, by unfold maxLen; omega, rfl, rfl⟩⟩
          have HGE : Hid (w.heap.size ≤ w6.heap.size) := Lib.hid HO.out.size
          have HGA : Hid (ab ≠ w6.heap.size) := Lib.hid (Nat.ne_of_lt (HSRC.out.lt _ rfl (by omega)))
          replace HO := Lib.hid (HO.out.next hal)
          replace HROW := Lib.hid (bl_row hal (lt_of_block HROW.out) HROW.out)
          replace HOWN := Lib.hid (own_below HOWN.out hal)
          replace HZ := Lib.hid (bl_row hal (lt_of_block HZ.out) HZ.out)
          replace HX5 := Lib.hid (bl_row hal (lt_of_block HX5.out) HX5.out)
          replace HSRC := Lib.hid (HSRC.out.below hal)
          replace HSUF := Lib.hid (HSUF.out.below hal)
          have HE := Lib.hid hee
          refine ⟨HROW.out, ?_⟩
          clear hal hee
          (try change Plan.wp _ _ _ _ _ _ (w6.alloc (.cells #[] 75)))
          generalize w6.alloc (.cells #[] 75) = w7 at HROW HOWN HZ HX5 HSRC HSUF HO HE ⊢
          obtain ⟨ge, hge⟩ : ∃ g, w6.heap.size = g := ⟨_, rfl⟩
          rw [hge] at HE HGE HGA ⊢
          clear hge
          refine plan_us (by rfl) (by kernel_rfl) ?_
          intro K hK
          have hgz : w.heap.size ≤ w7.heap.size := HO.out.size
          have hab : ab < w7.heap.size := HSRC.out.lt _ rfl (by omega)
          refine wp_append_rk rnmT _ _ rfl 0 0 (.slice (some ⟨ge, 0, none⟩) 0 0) [] rfl HE.out _ i cp (L.take i) rfl (HSRC.out.pre i (by omega)) (by omega) (Nat.zero_le _) ?_
          intro v' w8 ho2 hg2 hor
          replace HROW := Lib.hid (grown_row hg2 (fun e => own_ne HE.out HROW.out (by decide) e.symm) HROW.out)
          replace HZ := Lib.hid (grown_row hg2 (fun e => own_ne HE.out HZ.out (by decide) e.symm) HZ.out)
          replace HX5 := Lib.hid (grown_row hg2 (fun e => own_ne HE.out HX5.out (by decide) e.symm) HX5.out)
          replace HSRC := Lib.hid (HSRC.out.grown hg2 (fun x hx e => by injection hx with hx; subst hx; injection e with e; exact HGA.out e))
          replace HSUF := Lib.hid (HSUF.out.grown hg2 (fun x hx e => by injection e with e; rw [HDA.out x hx] at e; exact HGA.out e))
          replace HO := Lib.hid (HO.out.fresh hg2 HGE.out)
          obtain ⟨ab2, ac2, rfl, _⟩ := sl_own ho2
          simp only [Nat.zero_add] at ho2 hor hK ⊢
          rw [List.nil_append] at ho2
          have HE2 := Lib.hid ho2
          have HAB : Hid (∀ x, ab2 = some x → w.heap.size ≤ x.block ∧ x.block ≠ ab) := Lib.hid (fun x hx => by subst hx; rcases hor with e | e <;> (have e2 : some x.block = some _ := e; injection e2 with e2; rw [e2]); exact ⟨HGE.out, fun e => HGA.out e.symm⟩; exact ⟨hgz, Nat.ne_of_gt hab⟩)
          clear ho2 hor hg2 hgz hab
          refine hK _ _ ⟨HROW.out, ?_⟩
          clear hK K
          simp only [Act.put, List.setIfInBounds_toArray, List.set_cons_succ, List.set_cons_zero]
          refine plan_us (by rfl) (by kernel_rfl) ?_
          intro K hK
          have hgz : w.heap.size ≤ w8.heap.size := HO.out.size
          refine wp_append_rk rnmT _ _ rfl 0 i (.slice ab2 i ac2) (L.take i) rfl HE2.out dsx (n - (i + 1)) (cp - (i + 1)) (L.drop (i + 1)) rfl HSUF.out (by omega) (Nat.zero_le _) ?_
          intro v' w9 ho2 hg2 hor
          replace HROW := Lib.hid (grown_row hg2 (fun e => own_ne HE2.out HROW.out (by decide) e.symm) HROW.out)
          replace HZ := Lib.hid (grown_row hg2 (fun e => own_ne HE2.out HZ.out (by decide) e.symm) HZ.out)
          replace HX5 := Lib.hid (grown_row hg2 (fun e => own_ne HE2.out HX5.out (by decide) e.symm) HX5.out)
          replace HO := Lib.hid (HO.out.freshS hg2 (fun x hx => (HAB.out x hx).1))
          have hie : i + (n - (i + 1)) = n - 1 := by omega
          rw [hie] at ho2
          obtain ⟨ab3, ac3, rfl, _⟩ := sl_own ho2
          replace HE2 := Lib.hid ho2
          have HAC : Hid (∀ x, ab3 = some x → w.heap.size ≤ x.block) := Lib.hid (fun x hx => by subst hx; rcases hor with e | e; (cases ab2 with | none => cases e | some y => have e2 : some x.block = some y.block := e; injection e2 with e2; rw [e2]; exact (HAB.out y rfl).1); (have e2 : some x.block = some _ := e; injection e2 with e2; rw [e2]; exact hgz))
          clear ho2 hor hg2 hgz HSRC HSUF HAB hie
          refine hK _ _ ⟨HROW.out, ?_⟩
          clear hK K
          simp only [Act.put, List.setIfInBounds_toArray, List.set_cons_succ, List.set_cons_zero]
          clear hne
          refine ⟨fun _ => True, trivial, ?_⟩
          haveI hne : Nonempty (In (fun _ => True)) := ⟨⟨w9, trivial⟩⟩
          repeat (first | (refine plan_t (by rfl) ?_; (first | go_big_quiet_skip | (go_big_quiet_want; go_big_quiet_op; go_big_quiet_on)); refine wpQuiet_nil ?_))
          refine plan_us (by rfl) (by kernel_rfl) ?_
          intro K hK
          have c0 := row_cell HROW.out 0 _ rfl
          have f0 := row_free HROW.out 0
          go_wp2_with fail
          clear c0 f0
          have hgs := grown_setCell w9 p 0 (.slice ab3 (n - 1) ac3)
          have hrs := row_setL HROW.out 0 (.slice ab3 (n - 1) ac3)
          replace HZ := Lib.hid (grown_row hgs (row_ne HZ.out HROW.out (by decide)) HZ.out)
          replace HX5 := Lib.hid (grown_row hgs (row_ne HX5.out HROW.out (by decide)) HX5.out)
          replace HO := Lib.hid (HO.out.setCell (k := 0) HPM.out (.slice ab3 (n - 1) ac3))
          replace HE2 := Lib.hid (own_grown HE2.out hgs (fun g hg e => own_ne HE2.out HROW.out (by decide) (hg.trans e)))
          replace HROW : Hid ((w9.setCell ⟨p, 0, none⟩ (.slice ab3 (n - 1) ac3)).heap[p]? = some (.cells ([.slice ab3 (n - 1) ac3, .int .u64 nx, .int .u64 sd] : List Value).toArray 78 (0, 0))) := Lib.hid hrs
          clear hgs hrs
          generalize w9.setCell ⟨p, 0, none⟩ (.slice ab3 (n - 1) ac3) = w10 at HROW HZ HX5 HO HE2 ⊢
          refine ⟨trivial, ?_⟩
          clear hne
          show Exit.then _ _ _ _ _
          try simp only [Act.put, List.setIfInBounds_toArray, List.set_cons_succ, List.set_cons_zero]
          go_wp2_with (first | (refine wpList_load_mid rfl 38 _ rfl gx (0) rfl CX _ (rngL HX5.out) Try.underlying38 rfl (by rw [HCXL.out]; rfl) ?_) | (refine wpList_store_row rfl 38 _ _ rfl gz rfl CX [.int .u8 0, .int .u8 0, .int .u8 0, .int .u8 0, .int .u8 0, .int .u8 0, .int .u8 0, .int .u8 0] rfl 38 HZ.out (by rw [HCXL.out]; rfl) (by rw [HCXL.out]; rfl) HC1.out ?_; intro w99 hz hg9; have HZ9 := Lib.hid hz; have HG9 := Lib.hid hg9; clear hz hg9) | fail)
          refine bodyPost_ret (results_cell2 rfl _ _ gz rfl CX _ _ HZ9.out Try.underlying38 rfl (by rw [HCXL.out]; rfl)) rfl ?_
          have hOff := HO.out.fresh HG9.out (by rw [HGZ.out]; exact Nat.le_refl _)
          have hr9 := grown_row HG9.out (row_ne HROW.out HZ.out (by decide)) HROW.out
          have ho9 := own_grown HE2.out HG9.out (fun g hg e => own_ne HE2.out HZ.out (by decide) (hg.trans e))
          have hln : (L.take i ++ L.drop (i + 1)).length = n - 1 := by rw [List.length_append, List.length_take, List.length_drop, HN.out]; omega
          refine ⟨B ++ blkS ab3, ⟨hOff, fun g hg => ?_⟩, .inr ⟨x, _, HRET.out, .inr ⟨by rw [HN.out]; exact h1, by unfold cidV; rw [HCXE.out]; rfl, ?_⟩⟩⟩
          · rcases List.mem_append.1 hg with hg | hg
            · exact .inl hg
            · obtain ⟨y, rfl, rfl⟩ := blkS_mem.1 hg; exact .inr (HAC.out y rfl)
          · refine ⟨⟨ab3, ac3, by rw [hln]; exact hr9, by rw [hln]; exact ho9, fun y hy => List.mem_append_right _ (blkS_mem.2 ⟨y, hy, rfl⟩)⟩, List.mem_append_left _ HPM.out, fun g hg => ?_, fun y hy => ?_, H.out.nx, H.out.sd, by rw [hln]; omega⟩
            · rcases List.mem_append.1 hg with hg | hg
              · exact Nat.lt_of_lt_of_le (H.out.lt g hg) hOff.size
              · obtain ⟨y, rfl, rfl⟩ := blkS_mem.1 hg
                rcases ho9.2 with ⟨e, _⟩ | ⟨g2, cap, cur, e, _, hrow, _⟩
                · cases e
                · injection e with e; injection e with e; rw [e]; exact lt_of_block hrow
            · rcases List.mem_append.1 hy with hy | hy
              · exact H.out.ok y (List.mem_of_mem_take hy)
              · exact H.out.ok y (List.mem_of_mem_drop hy)
      · skip
        have c0 := row_cell HROW.out 0 _ rfl
        go_wp2_with fail
        clear c0 hx0
        go_roundw
        case rel => exact ⟨i + 1, by go_num, by omega, Lib.hid (HQB.out), Lib.hid (fun y hy => by rw [take_snd' HX.out] at hy; rcases List.mem_append.1 hy with hy | hy; exact HA.out y hy; rw [List.mem_singleton.1 hy]; exact heq)⟩
        case measure => simp [intOf]; omega
    · obtain rfl : i = n := by omega
      have hret : retM L s = none := retM_none (fun y hy => HA.out y (by rw [List.take_of_length_le (by rw [HN.out]; exact Nat.le_refl _)]; exact hy))
      have HRET := Lib.hid hret
      clear hret
      have c0 := row_cell HROW.out 0 _ rfl
      go_wp2_with (first | (refine wpList_store_row rfl 38 _ _ rfl gz rfl [.int .u8 0, .int .u8 0, .int .u8 0, .int .u8 0, .int .u8 0, .int .u8 0, .int .u8 0, .int .u8 0] [.int .u8 0, .int .u8 0, .int .u8 0, .int .u8 0, .int .u8 0, .int .u8 0, .int .u8 0, .int .u8 0] rfl 38 HZ.out rfl rfl (by intro v hv; simp only [List.mem_cons, List.not_mem_nil, or_false] at hv; rcases hv with rfl | rfl | rfl | rfl | rfl | rfl | rfl | rfl <;> rfl) ?_; intro w9 hz hg9; have HZ9 := Lib.hid hz; have HG9 := Lib.hid hg9; clear hz hg9) | fail)
      refine bodyPost_ret (results_cell2 rfl _ _ gz rfl [.int .u8 0, .int .u8 0, .int .u8 0, .int .u8 0, .int .u8 0, .int .u8 0, .int .u8 0, .int .u8 0] _ _ HZ9.out Try.underlying38 rfl rfl) rfl ?_
      have hbz : Below w.heap.size w w9 := HB.out.grown HG9.out HB.out.size (by intro k hk; injection hk with hk; have := HGZ.out; omega)
      exact ⟨B, UpdO.of_below hbz, .inl ⟨HRET.out, rfl, H.out.below hbz⟩⟩
end Go.Proofs.Ytjdcmhclamjcjaa
