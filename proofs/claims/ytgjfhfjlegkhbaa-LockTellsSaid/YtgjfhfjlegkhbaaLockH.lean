/- chapter 8's walks: LockTells. -/
import Derived.Test.YtgjfhfjlegkhbaaLockG
import Derived.Test.YtgjfhfjlegkhbaaOpen
namespace Go.Proofs.Ytgjfhfjlegkhbaa
open Go.RowKit
set_option linter.unusedVariables false

set_option maxRecDepth 100000 in
set_option maxHeartbeats 4000000 in
theorem tells8_core (w : World) (key other n m : Int) (ha : Option Addr) (hl hc : Nat) (hs : List Int) (sa : Option Addr) (sl sc : Nat) (ss : List Int) (ba : Option Addr) (bl bc : Nat) (bs : List Int) (att turn : Int) (x0 x1 x2 x3 x4 x5 x6 x7 : Int)
    (hn : (Lit.int .u64 n).wf = true) (hm : (Lit.int .u64 m).wf = true) (hlc : hl ≤ hc) (hcm : hc ≤ 9223372036854775807) (hH : IntsK .u8 w ha hl hs) (hsc : sl ≤ sc) (hsm : sc ≤ 9223372036854775807) (hS : IntsK .u8 w sa sl ss)
    (hbc : bl ≤ bc) (hbm : bc ≤ 9223372036854775807) (hB : IntsK .u8 w ba bl bs) (hat : -9223372036854775808 ≤ att ∧ att ≤ 9223372036854775807) (ht : (Lit.int .u8 turn).wf = true) (hwx : ∀ x ∈ [x0, x1, x2, x3, x4, x5, x6, x7], (Lit.int .u8 x).wf = true) :
    Makes Try.prog 6 #[.int .u64 key, .int .u64 other, .int .u64 n, .int .u64 m, .slice ha hl hc, .slice sa sl sc, .slice ba bl bc, .int .i64 att, .int .u8 turn, .agg #[.int .u8 x0, .int .u8 x1, .int .u8 x2, .int .u8 x3, .int .u8 x4, .int .u8 x5, .int .u8 x6, .int .u8 x7]] w (.bool true) := by
  have HH := Lib.hid (hH.pre (min hl 30) (by omega)); have HS := Lib.hid (hS.pre (min sl 100) (by omega)); have HN := Lib.hid hn; have HM := Lib.hid hm; have HBB := Lib.hid (hB.pre (min bl 60) (by omega))
  have HCB := Lib.hid (fun w => cut_any w ba bl bc 60 hbc hbm)
  generalize hs.take (min hl 30) = hs' at HH
  generalize ss.take (min sl 100) = ss' at HS
  generalize bs.take (min bl 60) = bs' at HBB
  have HX := Lib.hid hwx
  have HIA := Lib.hid (ints_made8 w [x0, x1, x2, x3, x4, x5, x6, x7] 36 rfl hwx)
  have HMK := Lib.hid (fun w => mask_any w key [x0, x1, x2, x3, x4, x5, x6, x7] rfl hwx)
  clear hH hS hn hm hB hwx
  go_enter Try.func6, Try.ntmps6
  go_wp2_with fail
  refine Calls.mono (cut_any _ ha hl hc 30 hlc hcm) ?_
  have hrow := heap_alloc_new w (.cells #[.int .u8 x0, .int .u8 x1, .int .u8 x2, .int .u8 x3, .int .u8 x4, .int .u8 x5, .int .u8 x6, .int .u8 x7] 36)
  have hbW := (Below.refl w.heap.size w).alloc (Nat.le_refl _) (.cells #[.int .u8 x0, .int .u8 x1, .int .u8 x2, .int .u8 x3, .int .u8 x4, .int .u8 x5, .int .u8 x6, .int .u8 x7] 36)
  have hIA := HIA.out
  simp only [List.map_cons, List.map_nil] at hIA
  generalize w.alloc (.cells #[.int .u8 x0, .int .u8 x1, .int .u8 x2, .int .u8 x3, .int .u8 x4, .int .u8 x5, .int .u8 x6, .int .u8 x7] 36) = W0 at hrow hbW hIA ⊢
  obtain ⟨gs, hgs⟩ : ∃ gs, w.heap.size = gs := ⟨_, rfl⟩
  rw [hgs] at hrow hIA ⊢
  have HROW := Lib.hid hrow; have HB0 := Lib.hid hbW; have HI0 := Lib.hid hIA; have HGS := Lib.hid hgs
  clear hrow hbW hIA HIA hgs
  rintro e w1 ⟨rfl, rfl⟩
  go_wp2_with fail
  refine Calls.mono (cut_any _ sa sl sc 100 hsc hsm) ?_
  rintro e w1 ⟨rfl, rfl⟩
  have hpb : min hl 30 ≤ 30 := by omega
  have hpc : min hl 30 ≤ hc := by omega
  have hqb : min sl 100 ≤ 100 := by omega
  have hqc : min sl 100 ≤ sc := by omega
  have hrb : min bl 60 ≤ 60 := by omega
  have hrc : min bl 60 ≤ bc := by omega
  generalize min hl 30 = p at *
  generalize min sl 100 = q at *
  generalize min bl 60 = r at *
  go_wp2_with fail
  refine Calls.mono (rseal_any _ key n ha p hc hs' sa q sc ss' HN.out (by omega) (by omega) (HH.out.below HB0.out) (HS.out.below HB0.out)) ?_
  rintro e w1 ⟨v1, rfl, hb1, ho1⟩
  have HWF := Lib.hid (sealM_wf key n hs' ss' HS.out.2.1)
  obtain ⟨b1, cp1, rfl, hc1, hi1, _⟩ := ints_of_own ho1 HWF.out
  have hcm1 := own_cap8 ho1 _ _ _ rfl
  have HB1 := Lib.hid (bl_next HB0.out HB0.out.size hb1); have HI1 := Lib.hid hi1
  have HL1 := Lib.hid hb1
  obtain ⟨xs, exs, hxl⟩ : ∃ xs, sealM key n hs' ss' = xs ∧ xs.length = q + 8 := ⟨_, rfl, by rw [sealM_len, HS.out.1]⟩
  rw [exs] at HI1 HWF
  clear hb1 ho1 hi1 exs
  go_upto_region 4 with (first | (at_builtin; refine wpList_append_bytes rfl _ _ rfl w1.heap.size 0 (.slice (some ⟨w1.heap.size, 0, none⟩) 0 0) [] rfl (World.ownsRow_made _ _ _ (Nat.le_refl _) (by unfold maxLen; omega) (by rfl)) _ _ _ _ rfl (HI1.out.below ((Below.refl _ _).alloc (Nat.le_refl _) _)) (by omega) (by simp) ?_; intro v3 w3 hown hgrow; rw [Nat.zero_add, List.nil_append] at hown; obtain ⟨b3, cp3, rfl, _⟩ := own_slice hown; have HO3 := Lib.hid hown; have HL3 := Lib.hid (((Below.refl w1.heap.size w1).alloc (Nat.le_refl _) _).grown hgrow (by simp) (by intro k hk; simp [Value.ownBlock] at hk; omega)); clear hown hgrow) | fail)
  go_wp2_with fail
  refine Calls.mono (within_any _ att 0 (q + 8 - 1) (by omega) (by omega) (by omega) hat) ?_
  rintro e w4 ⟨rfl, rfl⟩
  have hj := within_in att 0 (q + 8 - 1) (by omega)
  obtain ⟨j, ej⟩ : ∃ j : Nat, within att 0 (q + 8 - 1) = j := ⟨(within att 0 (q + 8 - 1)).toNat, by omega⟩
  rw [ej] at hj ⊢
  clear ej
  obtain ⟨x, hx⟩ : ∃ x, xs[j]? = some x := ⟨_, List.getElem?_eq_getElem (by omega)⟩
  obtain ⟨g, rfl, hg, hgl, hfz, hcells, _⟩ := own_set HO3.out (Below.refl _ _) (i := j) (by omega) (.int .u8 0) rfl
  have hc : w3.cell? ⟨g, j, none⟩ = some (.int .u8 x) := hcells _ _ (by rw [List.getElem?_map, hx]; rfl)
  have hput := own_put HO3.out (i := j) (by omega) (.int .u8 (bits .xor .u8 x turn)) rfl
  rw [← List.map_set] at hput
  have hwy : ∀ y ∈ xs.set j (bits .xor .u8 x turn), (Lit.int .u8 y).wf = true := by
    intro y hy
    rcases List.mem_or_eq_of_mem_set hy with h | h
    · exact HWF.out y h
    · rw [h]; exact wf_bits _ _ _ _
  obtain ⟨_, _, e5, hc5, hi5, _⟩ := ints_of_own hput hwy
  injection e5 with e51 e52 e53
  subst e51 e53
  have hcm5 := own_cap8 hput _ _ _ rfl
  have hL4 := HL3.out.setCell (p := ⟨g, j, none⟩) hg (.int .u8 (bits .xor .u8 x turn))
  have HI5 := Lib.hid hi5; have HL4 := Lib.hid hL4
  clear hcells hx hput hwy hi5 hL4 e52
  -- the mask is asked for behind the store
  have hc0w : ∀ y, Below w1.heap.size w1 y → ∀ i v, #[Value.int .u8 x0, .int .u8 x1, .int .u8 x2, .int .u8 x3, .int .u8 x4, .int .u8 x5, .int .u8 x6, .int .u8 x7][i]? = some v → y.cell? ⟨gs, i, none⟩ = some v := fun y hy i v hv => by
    have h1 := bl_row HL1.out (lt_of_block HROW.out) HROW.out
    exact row_cell (bl_row hy (lt_of_block h1) h1) i v hv
  have HCW := Lib.hid hc0w
  clear hc0w
  go_upto_region 5 with fail
  generalize w3.setCell ⟨g, j, none⟩ (.int .u8 (bits .xor .u8 x turn)) = w4 at HI5 HL4 ⊢
  have c0 := HCW.out w4 HL4.out 0 _ rfl
  have c1 := HCW.out w4 HL4.out 1 _ rfl
  have c2 := HCW.out w4 HL4.out 2 _ rfl
  have c3 := HCW.out w4 HL4.out 3 _ rfl
  have c4 := HCW.out w4 HL4.out 4 _ rfl
  have c5 := HCW.out w4 HL4.out 5 _ rfl
  have c6 := HCW.out w4 HL4.out 6 _ rfl
  have c7 := HCW.out w4 HL4.out 7 _ rfl
  clear hc hfz hgl hj
  go_wp2_with fail
  refine Calls.mono (HMK.out _) ?_
  rintro e w5 ⟨rfl, hb5⟩
  obtain ⟨y0, y1, y2, y3, y4, y5, y6, y7, ey⟩ : ∃ y0 y1 y2 y3 y4 y5 y6 y7, bytesM (keyedM key [x0, x1, x2, x3, x4, x5, x6, x7]) = [y0, y1, y2, y3, y4, y5, y6, y7] := ⟨_, _, _, _, _, _, _, _, rfl⟩
  have hwy := wf_bytes (keyedM key [x0, x1, x2, x3, x4, x5, x6, x7])
  rw [ey] at hwy
  have HY5 : Hid (∀ x ∈ [y0, y1, y2, y3, y4], (Lit.int .u8 x).wf = true) := Lib.hid (fun x hx => hwy x (by simp at hx ⊢; omega))
  rw [ey]
  have EY := Lib.hid ey
  clear ey hwy
  simp only [List.map_cons, List.map_nil, List.take_succ_cons, List.take_zero]
  have HB5 := Lib.hid hb5
  clear hb5 c0 c1 c2 c3 c4 c5 c6 c7
  go_upto_region 6 with fail
  have hr6 := heap_alloc_new w5 (.cells #[.int .u8 y0, .int .u8 y1, .int .u8 y2, .int .u8 y3, .int .u8 y4] 37)
  have hb6 := (Below.refl w5.heap.size w5).alloc (Nat.le_refl _) (.cells #[.int .u8 y0, .int .u8 y1, .int .u8 y2, .int .u8 y3, .int .u8 y4] 37)
  generalize w5.alloc (.cells #[.int .u8 y0, .int .u8 y1, .int .u8 y2, .int .u8 y3, .int .u8 y4] 37) = W at hr6 hb6 ⊢
  generalize w5.heap.size = gy at hr6 ⊢
  have hWw : Below w.heap.size w W := bl_next HB1.out HB1.out.size (bl_next HL4.out HL4.out.size (bl_next HB5.out HB5.out.size hb6))
  have hW4 : Below w4.heap.size w4 W := bl_next HB5.out HB5.out.size hb6
  have hW1 : Below w1.heap.size w1 W := bl_next HL4.out HL4.out.size hW4
  have hW0 : Below W0.heap.size W0 W := bl_next HL1.out HL1.out.size hW1
  have KH := Lib.hid (HH.out.below hWw); have KS := Lib.hid (HS.out.below hWw); have KB := Lib.hid (HBB.out.below hWw)
  have K1 := Lib.hid (HI1.out.below hW1); have K5 := Lib.hid (HI5.out.below hW4); have K0 := Lib.hid (HI0.out.below hW0)
  have hIY : IntsK .u8 W (some ⟨gy, 0, none⟩) 5 [y0, y1, y2, y3, y4] := IntsK.of_row (zs := [y0, y1, y2, y3, y4]) hr6 HY5.out
  have HWW := Lib.hid hWw
  have hcvy : ∀ s : In (fun y => Below W.heap.size W y), (convert 23 9 (.slice (some ⟨gy, 0, none⟩) 5 5)).run Try.prog s.w = .ok (.string (strOfNums [y0, y1, y2, y3, y4])) s.w := fun s => conv_ints _ 5 _ _ Try.underlying23 Try.underlying5 Try.underlying9 (hIY.below s.h)
  clear hr6 hb6 hWw hW4 hW1 hW0 hIY HI1 HI5 HI0 HH HS HBB HROW HCW HB0 HB1 HL4 HB5 HL1 HO3 HL3
  refine wp_plan (.t 0 (.t 1 (.t 2 (.t 3 (.u 4 (.t 5 (.t 6 (.t 7 (.t 8 (.t 9 (.u 10 (.t 11 (.t 12 (.t 13 (.t 14 (.t 15 (.t 16 (.u 17 (.t 18 (.t 19 (.t 20 (.t 21 (.t 22 (.t 23 (.u 24 (.t 25 (.t 26 (.t 27 (.t 28 (.t 29 (.t 30 (.u 31 (.t 32 (.t 33 (.t 34 (.t 35 (.t 36 (.t 37 (.u 38 (.t 39 (.t 40 (.t 41 (.t 42 (.t 43 (.t 44 (.u 45 (.u 46 (.t 47 (.t 48 (.t 49 (.t 50 (.t 51 (.t 52 (.u 53 (.t 54 (.t 55 (.t 56 (.t 57 (.u 58 (.t 59 (.t 60 .done))))))))))))))))))))))))))))))))))))))))))))))))))))))))))))) (fun y => Below W.heap.size W y) (by kernel_rfl) (by kernel_rfl) (by kernel_rfl) (fun c a d v w h => by cases d <;> exact h) (Below.refl _ _).drew ?_
  have hS : Below W.heap.size W W.drew := (Below.refl _ _).drew
  generalize W.drew = W1 at hS ⊢
  haveI hne : Nonempty (In fun y => Below W.heap.size W y) := ⟨⟨W, Below.refl _ _⟩⟩
  repeat (refine plan_t (by rfl) ?_; (first | go_big_quiet_skip | (go_big_quiet_want; go_big_quiet_op; go_big_quiet_on)); refine wpQuiet_nil ?_)
  refine plan_us (by rfl) (by kernel_rfl) ?_
  intro K hK
  go_wp2_with fail
  refine Calls.mono (same8_any _ key n ha p hc hs' sa q sc ss' HN.out (by omega) (by omega) (KH.out.below hS) (KS.out.below hS)) ?_
  rintro e W2 ⟨rfl, hb⟩
  replace hS := bl_next hS hS.size hb; clear hb
  go_wp2_with fail
  refine ⟨hS, ?_⟩
  repeat (refine plan_t (by rfl) ?_; (first | go_big_quiet_skip | (go_big_quiet_want; go_big_quiet_op; go_big_quiet_on)); refine wpQuiet_nil ?_)
  refine plan_us (by rfl) (by kernel_rfl) ?_
  intro K hK
  go_wp2_with fail
  refine Calls.mono (opens8_any _ key n ha p hc _ b1 (q + 8) cp1 _ HN.out (by omega) (by omega) hc1 hcm1 (KH.out.below hS) (K1.out.below hS)) ?_
  rintro e W2 ⟨rfl, hb⟩
  replace hS := bl_next hS hS.size hb; clear hb
  go_wp2_with fail
  refine ⟨hS, ?_⟩
  repeat (refine plan_t (by rfl) ?_; (first | go_big_quiet_skip | (go_big_quiet_want; go_big_quiet_op; go_big_quiet_on)); refine wpQuiet_nil ?_)
  refine plan_us (by rfl) (by kernel_rfl) ?_
  intro K hK
  go_wp2_with fail
  refine Calls.mono (opens8_any _ key n ha p hc _ _ (q + 8) cp3 _ HN.out (by omega) (by omega) hc5 hcm5 (KH.out.below hS) (K5.out.below hS)) ?_
  rintro e W2 ⟨rfl, hb⟩
  replace hS := bl_next hS hS.size hb; clear hb
  go_wp2_with fail
  refine ⟨hS, ?_⟩
  repeat (refine plan_t (by rfl) ?_; (first | go_big_quiet_skip | (go_big_quiet_want; go_big_quiet_op; go_big_quiet_on)); refine wpQuiet_nil ?_)
  refine plan_us (by rfl) (by kernel_rfl) ?_
  intro K hK
  go_wp2_with fail
  refine Calls.mono (opens8_any _ other n ha p hc _ b1 (q + 8) cp1 _ HN.out (by omega) (by omega) hc1 hcm1 (KH.out.below hS) (K1.out.below hS)) ?_
  rintro e W2 ⟨rfl, hb⟩
  replace hS := bl_next hS hS.size hb; clear hb
  go_wp2_with fail
  refine ⟨hS, ?_⟩
  repeat (refine plan_t (by rfl) ?_; (first | go_big_quiet_skip | (go_big_quiet_want; go_big_quiet_op; go_big_quiet_on)); refine wpQuiet_nil ?_)
  refine plan_us (by rfl) (by kernel_rfl) ?_
  intro K hK
  go_wp2_with fail
  refine Calls.mono (opens8_any _ key m ha p hc _ b1 (q + 8) cp1 _ HM.out (by omega) (by omega) hc1 hcm1 (KH.out.below hS) (K1.out.below hS)) ?_
  rintro e W2 ⟨rfl, hb⟩
  replace hS := bl_next hS hS.size hb; clear hb
  go_wp2_with fail
  refine ⟨hS, ?_⟩
  repeat (refine plan_t (by rfl) ?_; (first | go_big_quiet_skip | (go_big_quiet_want; go_big_quiet_op; go_big_quiet_on)); refine wpQuiet_nil ?_)
  refine plan_us (by rfl) (by kernel_rfl) ?_
  intro K hK
  go_wp2_with fail
  refine Calls.mono (opens8_any _ key n sa q sc _ b1 (q + 8) cp1 _ HN.out (by omega) (by omega) hc1 hcm1 (KS.out.below hS) (K1.out.below hS)) ?_
  rintro e W2 ⟨rfl, hb⟩
  replace hS := bl_next hS hS.size hb; clear hb
  go_wp2_with fail
  refine ⟨hS, ?_⟩
  repeat (refine plan_t (by rfl) ?_; (first | go_big_quiet_skip | (go_big_quiet_want; go_big_quiet_op; go_big_quiet_on)); refine wpQuiet_nil ?_)
  refine plan_us (by rfl) (by kernel_rfl) ?_
  intro K hK
  go_wp2_with fail
  refine Calls.mono (HCB.out _) ?_
  rintro e W2 ⟨rfl, rfl⟩
  go_wp2_with fail
  refine ⟨hS, ?_⟩
  repeat (refine plan_t (by rfl) ?_; (first | go_big_quiet_skip | (go_big_quiet_want; go_big_quiet_op; go_big_quiet_on)); refine wpQuiet_nil ?_)
  refine plan_us (by rfl) (by kernel_rfl) ?_
  intro K hK
  go_wp2_with fail
  refine Calls.mono (opens8_any _ key n ha p hc _ ba r bc _ HN.out (by omega) (by omega) hrc hbm (KH.out.below hS) (KB.out.below hS)) ?_
  rintro e W2 ⟨rfl, hb⟩
  replace hS := bl_next hS hS.size hb; clear hb
  go_wp2_with fail
  refine ⟨hS, ?_⟩
  repeat (refine plan_t (by rfl) ?_; (first | go_big_quiet_skip | (go_big_quiet_want; go_big_quiet_op; go_big_quiet_on)); refine wpQuiet_nil ?_)
  refine plan_un (by rfl) (by kernel_rfl) ?_
  intro K hK
  go_wp2_with fail
  refine Calls.mono (rmask_any _ key _ 8 8 _ (by omega) (K0.out.below hS)) ?_
  rintro e W3 ⟨bm, rfl, hb, hi⟩
  rw [EY.out] at hi
  simp only [List.take_succ_cons, List.take_zero] at hi
  have hSn := bl_next hS hS.size hb
  have HI3 := Lib.hid hi
  have hcv3 : ∀ s : In (fun y => Below W3.heap.size W3 y), (convert 23 9 (.slice bm 5 8)).run Try.prog s.w = .ok (.string (strOfNums [y0, y1, y2, y3, y4])) s.w := fun s => conv_ints _ 5 _ _ Try.underlying23 Try.underlying5 Try.underlying9 (HI3.out.below s.h)
  clear hb hi hne hcvy
  go_wp2_with fail
  refine ⟨fun y => Below W3.heap.size W3 y, fun x hx => bl_next hSn hSn.size hx, Below.refl _ _, ?_⟩
  have HL := Lib.hid (bl_next HWW.out HWW.out.size hSn)
  haveI hne : Nonempty (In fun y => Below W3.heap.size W3 y) := ⟨⟨W3, Below.refl _ _⟩⟩
  clear hS hSn
  have hS : Below W3.heap.size W3 W3 := Below.refl _ _
  repeat (refine plan_t (by rfl) ?_; (first | go_big_quiet_skip | (go_big_quiet_want; go_big_quiet_op; go_big_quiet_on)); refine wpQuiet_nil ?_)
  refine plan_us (by rfl) (by kernel_rfl) ?_
  intro K hK
  go_wp2_with fail
  refine Calls.mono (known8_any _) ?_
  rintro e W2 ⟨rfl, hb⟩
  replace hS := bl_next hS hS.size hb; clear hb
  go_wp2_with fail
  refine ⟨hS, ?_⟩
  repeat (refine plan_t (by rfl) ?_; (first | go_big_quiet_skip | (go_big_quiet_want; go_big_quiet_op; go_big_quiet_on)); refine wpQuiet_nil ?_)
  show Exit.then _ _ _ _ _
  go_wp2_with fail
  go_ret
  exact ⟨rfl, bl_next HL.out HL.out.size hS⟩

theorem tells8_any (w : World) (key other n m : Int) (ha : Option Addr) (hl hc : Nat) (hs : List Int) (sa : Option Addr) (sl sc : Nat) (ss : List Int) (ba : Option Addr) (bl bc : Nat) (bs : List Int) (att turn : Int) (xs : List Int)
    (hn : (Lit.int .u64 n).wf = true) (hm : (Lit.int .u64 m).wf = true) (hlc : hl ≤ hc) (hcm : hc ≤ 9223372036854775807) (hH : IntsK .u8 w ha hl hs) (hsc : sl ≤ sc) (hsm : sc ≤ 9223372036854775807) (hS : IntsK .u8 w sa sl ss)
    (hbc : bl ≤ bc) (hbm : bc ≤ 9223372036854775807) (hB : IntsK .u8 w ba bl bs) (hat : -9223372036854775808 ≤ att ∧ att ≤ 9223372036854775807) (ht : (Lit.int .u8 turn).wf = true) (hl8 : xs.length = 8) (hwx : ∀ x ∈ xs, (Lit.int .u8 x).wf = true) :
    Makes Try.prog 6 #[.int .u64 key, .int .u64 other, .int .u64 n, .int .u64 m, .slice ha hl hc, .slice sa sl sc, .slice ba bl bc, .int .i64 att, .int .u8 turn, .agg (xs.map (Value.int .u8)).toArray] w (.bool true) := by
  match xs, hl8 with
  | [x0, x1, x2, x3, x4, x5, x6, x7], _ => exact tells8_core w key other n m ha hl hc hs sa sl sc ss ba bl bc bs att turn x0 x1 x2 x3 x4 x5 x6 x7 hn hm hlc hcm hH hsc hsm hS hbc hbm hB hat ht hwx
end Go.Proofs.Ytgjfhfjlegkhbaa
