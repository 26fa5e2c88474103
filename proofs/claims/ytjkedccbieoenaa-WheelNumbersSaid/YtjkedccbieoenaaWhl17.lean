/- wheel: Go. -/
import Derived.Test.YtjkedccbieoenaaWhl16
namespace Go.Proofs.Ytjkedccbieoenaa
open Go.RowKit
set_option linter.unusedVariables false
set_option linter.unusedSimpArgs false

/-- what Go leaves and tells. -/
def GoR (w : World) (p : Nat) (M : List Nat) (now : Int) (T : List Tm) (e : Ending) (w' : World) : Prop :=
  ∃ a cap S, e = .returned (.slice a (duL now S).length cap) ∧ IntsK .i64 w' a (duL now S).length (duL now S) ∧ (duL now S).length ≤ cap ∧ cap ≤ 9223372036854775807 ∧ S.Perm T ∧ S.Pairwise (fun x y => leT x y = true) ∧
    ∃ M' vs b n, WhAt w' p M' now (S.filter (ndM now)) vs b n ∧ n ≤ T.length ∧ Off M w w' ∧ (∀ g ∈ M', g ∈ M ∨ w.heap.size ≤ g) ∧ ∀ x, a = some x → w.heap.size ≤ x.block ∧ x.block ∉ M'
theorem sortT_sorted (l : List Tm) : (sortT l).Pairwise (fun x y => leT x y = true) := by
  have hle : ∀ x y, leT x y = decide (x.2 < y.2 ∨ (x.2 = y.2 ∧ x.1 ≤ y.1)) := fun x y => by
    unfold leT; rw [cfT_lt]; rw [← decide_not]; congr 1; simp only [eq_iff_iff]; omega
  refine List.pairwise_mergeSort (fun a b c h1 h2 => ?_) (fun a b => ?_) l
  · rw [hle] at *; simp only [decide_eq_true_eq] at *; omega
  · rw [hle, hle]; simp only [Bool.or_eq_true, decide_eq_true_eq]; omega
theorem ids_take {S : List Tm} {k : Nat} {x : Tm} (hnd : (S.map Prod.fst).Nodup) (hx : S[k]? = some x) (f : Tm → Bool) : x.1 ∉ ((S.take k).filter f).map Prod.fst := by
  intro hm
  obtain ⟨y, hy, e⟩ := List.mem_map.1 hm
  have hy2 := (List.mem_filter.1 hy).1
  have hk := List.getElem?_eq_some_iff.1 hx
  have hs : S = S.take k ++ x :: S.drop (k + 1) := by rw [← hk.2, ← List.drop_eq_getElem_cons hk.1, List.take_append_drop]
  rw [hs, List.map_append, List.nodup_append] at hnd
  exact hnd.2.2 _ (List.mem_map_of_mem hy2) x.1 (by simp) e
set_option maxRecDepth 100000 in
set_option maxHeartbeats 16000000 in
theorem go_any (w : World) (p : Nat) (M : List Nat) (now : Int) (T : List Tm) (vs : List Value) (b n : Nat) (h : WhAt w p M now T vs b n) (t : Int) (hT : T.length ≤ 1000) :
    Calls Try.prog 11 #[.pointer (some ⟨p, 0, none⟩), .int .i64 t] w (GoR w p M (goN now t) T) := by
  have H := Lib.hid h
  have HAL := Lib.hid (all_any w p M now T vs b n h hT)
  obtain ⟨now2, hn2⟩ : ∃ m, goN now t = m := ⟨_, rfl⟩
  have HNW : Hid (0 ≤ now2 ∧ now2 ≤ 1099511627776) := Lib.hid (by have := h.rs.now0; rw [← hn2]; unfold goN; omega)
  have HN2 := Lib.hid hn2
  have HQ : Hid (GoR w p M (goN now t) T = GoR w p M now2 T) := Lib.hid (by rw [hn2])
  rw [HQ.out]
  have HOK : Hid (∀ x ∈ T, tmwf x ∧ 0 ≤ x.2 ∧ x.2 ≤ 1125899906842624) := Lib.hid h.rs.ok
  have HND := Lib.hid h.nd
  obtain ⟨QQ, hQQ⟩ : ∃ Q, GoR w p M now2 T = Q := ⟨_, rfl⟩
  have HQQ := Lib.hid hQQ
  rw [hQQ]
  clear h hn2 hQQ HQ
  go_enter Try.func11, Try.ntmps11
  go_wp2_with fail
  refine Calls.mono HAL.out ?_
  rintro e w1 ⟨v, L, rfl, hb, ho, hp⟩
  obtain ⟨a0, cap0, rfl, _⟩ := own_slice ho
  have HB := Lib.hid hb; have HO := Lib.hid ho; have HP := Lib.hid hp
  clear hb ho hp HAL
  have hr1 := (H.out.rs.off (N := []) (Off.of_below HB.out) (fun g hg => by cases hg)).row
  have HR1 := Lib.hid hr1
  clear hr1
  go_upto_region 2 with fail
  refine go_r2 _ (cell_row HR1.out 0 _ rfl) (row_free HR1.out 0) (fun c a d v w h => by first | (cases d <;> exact h) | exact HKP.out c a d v w h) ?_
  rintro _ _ _ _ _ _ _ _ _ _ w2 hw2
  rw [HN2.out] at hw2
  have hr2 := row_set HR1.out 0 (.int .i64 now2)
  rw [← hw2] at hr2
  have hO2 : Off [p] w1 w2 := by rw [hw2]; exact (Off.refl [p] w1).setCell (List.mem_singleton.2 rfl) _
  have hs2 : w2.heap.size = w1.heap.size := by rw [hw2]; simp
  have HR2 : Hid (w2.heap[p]? = some (.cells (whCells now2 vs b).toArray 50 (0, 0))) := Lib.hid hr2
  have HO2 := Lib.hid hO2; have HS2 := Lib.hid hs2
  clear hw2 hr2 hO2 hs2 HR1 HN2
  go_upto_region 3 with fail
  refine go_r3 _ HR2.out H.out.rs.len (fun c a d v w h => by first | (cases d <;> exact h) | exact HKP.out c a d v w h) ?_
  rintro _ _ _ _ _ _ _ _ _ _ _ w3 h3
  obtain ⟨hr3, hm3, hO3⟩ := h3
  obtain ⟨b3, hb3⟩ : ∃ b, w2.heap.size = b := ⟨_, rfl⟩
  rw [hb3] at hr3 hm3
  have HR3 := Lib.hid hr3; have HM3 := Lib.hid hm3; have HO3 := Lib.hid (HO2.out.trans hO3 (fun x hx => .inl hx)); have HB3 := Lib.hid hb3
  clear hr3 hm3 hO3 hb3 HR2
  have hvp : ∀ g, (Value.slice a0 L.length cap0).ownBlock = some g → g ∉ [p] := fun g hg hm => by have h1 := (HO.out.lt g hg).1; rw [List.mem_singleton.1 hm] at h1; have := H.out.rs.lt p H.out.rs.pm; omega
  have ho3 := own_off HO.out HO3.out hvp
  have HVP := Lib.hid hvp
  have hLT : L.length ≤ 1000 := by rw [HP.out.length_eq]; exact hT
  have HST := Lib.hid (sort_any w3 _ _ _ L ho3 (by omega))
  clear ho3 hvp
  go_wp2_with fail
  refine Calls.mono HST.out ?_
  rintro e w4 ⟨rfl, ho4, hO4⟩
  clear HST
  obtain ⟨S, hS⟩ : ∃ S, sortT L = S := ⟨_, rfl⟩
  have hsp := sortT_perm L
  have hss := sortT_sorted L
  rw [hS] at ho4 hsp hss
  have HSP := Lib.hid (hsp.trans HP.out); have HSS := Lib.hid hss
  have hSL : L.length = S.length := hsp.length_eq.symm
  rw [hSL] at ho4 hLT
  have hwf : ∀ x ∈ S, tmwf x := fun x hx => (HOK.out x (HSP.out.mem_iff.1 hx)).1
  have hwf : ∀ x ∈ S, tmwf x := fun x hx => (HOK.out x (HSP.out.mem_iff.1 hx)).1
  have hbv : ∀ x, a0 = some x → w.heap.size ≤ x.block ∧ x.block < w1.heap.size := fun x hx => HO.out.lt x.block (by rw [hx]; rfl)
  have hpv : p ∉ blkV (.slice a0 L.length cap0) := fun hm => HVP.out p (blkV_mem.1 hm) (List.mem_singleton.2 rfl)
  have hb3v : b3 ∉ blkV (.slice a0 L.length cap0) := fun hm => by have h1 := (HO.out.lt b3 (blkV_mem.1 hm)).2; have := HS2.out; have := HB3.out; omega
  have hr4 := (hO4.block p (lt_of_block HR3.out) hpv).trans HR3.out
  have hm4 := map_off HM3.out hO4 hb3v
  have hOF : Off M w w4 := ((Off.of_below (M := M) HB.out).trans HO3.out (fun x hx => .inl (by rw [List.mem_singleton.1 hx]; exact H.out.rs.pm))).trans hO4 (fun x hx => .inr (HO.out.lt x (blkV_mem.1 hx)).1)
  skip
  have HG : Hid (GoS w p M now2 S a0 0 (.slice none 0 0) w4) := Lib.hid ⟨⟨[p, b3], nilRows, b3, 0, wh_empty hr4 hm4 HNW.out, Nat.le_refl _, fun g hg => by rcases List.mem_cons.1 hg with h1 | h1; (exact .inl (by rw [h1]; exact H.out.rs.pm)); (rw [List.mem_singleton.1 h1]; exact .inr (by rw [← HB3.out, HS2.out]; exact HB.out.size)), fun x hx hm => by have h1 := hbv x hx; rcases List.mem_cons.1 hm with h2 | h2; (have := H.out.rs.lt p H.out.rs.pm; omega); (have h3 := List.mem_singleton.1 h2; have := HS2.out; have := HB3.out; omega), fun g hg => by cases hg⟩, World.ownsRow_nil _ _ _ _, Tms.of_own (show w4.ownsRow w.heap.size 53 2 (.slice a0 S.length cap0) S.length (rowV S) by rw [← hSL]; rw [← hSL] at ho4; exact ho4) hwf, hOF, fun g hg => by cases hg⟩
  obtain ⟨N, hN⟩ : ∃ N, S.length = N := ⟨_, rfl⟩
  rw [hSL, hN]
  rw [hN] at hLT
  have HN := Lib.hid hN
  have HSN : Hid ((S.map Prod.fst).Nodup) := Lib.hid (((HSP.out.map Prod.fst).nodup_iff).2 HND.out)
  clear ho4 hsp hss hwf hbv hpv hb3v hr4 hm4 hOF hO4 hN hS hSL HVP HR3 HM3 HO3 HO2 HS2 HO HB HP
  go_wp2_with fail
  go_loopw [6, 36] (fun u i wr => ∃ k : Nat, i = .int .i64 k ∧ k ≤ N ∧ Hid (GoS w p M now2 S a0 k u wr)) (fun _ i _ => N - (intOf i).toNat)
  case atStart => exact ⟨0, rfl, by omega, HG⟩
  case round =>
    clear HG
    obtain ⟨k, rfl, hk, HG⟩ := hrel
    by_cases hlt : k < N
    · skip
      obtain ⟨x, hx⟩ : ∃ x, S[k]? = some x := ⟨_, List.getElem?_eq_getElem (by have := HN.out; omega)⟩
      obtain ⟨bb, off, ea, hbb, hxw, hr⟩ := HG.out.tm.rng hx
      have HR := Lib.hid hr; have HX := Lib.hid hx; have HXW := Lib.hid hxw; have HEA := Lib.hid ea
      have HXL : Hid ((tmV x).length = 2) := Lib.hid rfl
      have HXO := Lib.hid (tmV_one x)
      have HX0 : Hid ((tmV x)[0]? = some (.int .i64 x.1)) := Lib.hid rfl
      have HX1 : Hid ((tmV x)[1]? = some (.int .i64 x.2)) := Lib.hid rfl
      have HPU := Lib.hid (fun W Mk vs1 b1 n1 (h1 : WhAt W p Mk now2 ((S.take k).filter (ndM now2)) vs1 b1 n1) (hn : n1 ≤ k) => put_any W p Mk now2 _ vs1 b1 n1 h1 x hxw (ids_take HSN.out hx _) (HOK.out x (HSP.out.mem_iff.1 (List.mem_of_getElem? hx))).2 (by omega) (Nat.le_trans (List.length_filter_le _ _) (by rw [List.length_take]; omega)))
      clear hr hbb hxw hx
      have ea2 := HEA.out
      subst ea2
      generalize hX : tmV x = X at HR HXL HXO HX0 HX1 HPU
      clear hX
      have HB := Lib.hid (Below.refl wr.heap.size wr)
      go_upto_region 9 with (first | (refine wpList_load_mid rfl 53 _ rfl bb (off + k * 2) rfl X _ HR.out Try.underlying53 rfl (by rw [HXL.out]; rfl) ?_) | (refine wpList_store_row rfl 53 _ _ rfl _ rfl X (.int .i64 0 :: .int .i64 0 :: []) rfl 53 (heap_alloc_new _ _) (by rw [HXL.out]; rfl) (by rw [HXL.out]; rfl) HXO.out ?_; intro w21 hr hg) | fail)
      have hal := (Below.refl wr.heap.size wr).alloc (Nat.le_refl _) (.cells ((.int .i64 0 :: .int .i64 0 :: [])).toArray 53)
      have hb : Below wr.heap.size wr w21 := hal.grown hg hal.size (by intro k hk; injection hk with hk; omega)
      replace HB := Lib.hid (bl_next HB.out HB.out.size hb)
      have HGT := Lib.hid (hr)
      clear hr hg hal hb
      obtain ⟨gt, hg⟩ : ∃ g, wr.heap.size = g := ⟨_, rfl⟩
      rw [hg] at HGT ⊢
      clear hg
      replace HG := Lib.hid (HG.out.below HB.out)
      have x0 := cell_row HGT.out 0 _ HX0.out; have x1 := cell_row HGT.out 1 _ HX1.out
      obtain ⟨Mk, vs2, b2, n3, hw2, hn3, h1, h2, h3⟩ := HG.out.wh
      have c0 := cell_row hw2.rs.row 0 _ rfl
      have HWH := Lib.hid hw2; have HN3 := Lib.hid hn3; have HH1 := Lib.hid h1; have HH2 := Lib.hid h2; have HH3 := Lib.hid h3
      clear hw2 hn3 h1 h2 h3
      go_quiet (fail)
      by_cases hd : x.2 ≤ now2
      · skip
        have ho9 := HG.out.out
        have HD := Lib.hid hd
        have hw9 : (w21.drewN nq).ownsRow 0 3 1 _ _ _ := ho9
        have HO9 := Lib.hid (hw9.alloc (.cells #[.int .i64 x.1] 3))
        have HI9 := Lib.hid (ints_madeI (w21.drewN nq) x.1 HXW.out.1)
        have HL9 := Lib.hid (duL_len now2 (S.take k))
        clear ho9 hw9
        go_wp2_with (first | (at_builtin; refine wpList_append_int rfl _ _ rfl 0 _ _ (duL now2 (S.take k)) rfl HO9.out _ 1 1 [x.1] rfl HI9.out (by have h1 := HL9.out; rw [List.length_take] at h1; omega) (Nat.zero_le _) ?_; intro v5 w5 ho5 hg5 hor5; have HO5 := Lib.hid ho5; have HG5 := Lib.hid hg5; have HR5 := Lib.hid hor5; clear ho5 hg5 hor5) | fail)
        have HG2 := Lib.hid ((HG.out.below (bl_drewN (Below.refl w21.heap.size w21) nq)).below ((Below.refl (w21.drewN nq).heap.size (w21.drewN nq)).alloc (Nat.le_refl _) (.cells #[.int .i64 x.1] 3)))
        have HG3 := Lib.hid (HG2.out.push HX.out HD.out HO5.out HG5.out HR5.out)
        clear HG2 HO5 HG5 HR5
        go_roundw
        case rel => exact ⟨k + 1, by go_num, by omega, HG3⟩
        case measure => simp [intOf]; omega
      · skip
        have HD := Lib.hid hd
        go_wp2_with (first | (refine wpList_load_mid rfl 53 _ rfl gt 0 rfl X _ (rngL HGT.out) Try.underlying53 rfl (by rw [HXL.out]; rfl) ?_) | fail)
        refine Calls.mono (HPU.out _ Mk vs2 b2 n3 (HWH.out.below (bl_drewN (Below.refl w21.heap.size w21) nq)) HN3.out) ?_
        rintro e w6 ⟨rfl, hR6⟩
        have HG3 := Lib.hid ((HG.out.below (bl_drewN (Below.refl w21.heap.size w21) nq)).put HX.out (by have := HD.out; omega) hR6 HN3.out HH1.out HH2.out HH3.out)
        clear hR6
        go_wp2_with fail
        go_roundw
        case rel => exact ⟨k + 1, by go_num, by omega, HG3⟩
        case measure => simp [intOf]; omega
    · obtain rfl : k = N := by omega
      have hg := HG.out
      rw [← HN.out] at hg
      have ht : S.take S.length = S := List.take_length
      obtain ⟨Mk, vs2, b2, n3, hw2, hn3, h1, h2, h3⟩ := hg.wh
      have ho := hg.out
      rw [ht] at hw2 ho
      have hwi : ∀ n ∈ duL now2 S, (Lit.int .i64 n).wf = true := fun n hn => by unfold duL at hn; obtain ⟨x, hx, rfl⟩ := List.mem_map.1 hn; exact (HOK.out x (HSP.out.mem_iff.1 (List.mem_filter.1 hx).1)).1.1
      obtain ⟨a, cap, eu, hac, hai, _⟩ := ints_of_own ho hwi
      have hcm := own_capm ho _ _ _ eu
      have HFIN : Hid (GoR w p M now2 T (.returned (.slice a (duL now2 S).length cap)) wr) := Lib.hid ⟨a, cap, S, rfl, hai, hac, hcm, HSP.out, HSS.out, Mk, vs2, b2, n3, hw2, by rw [← HSP.out.length_eq]; exact hn3, hg.off, h1, fun x hx => ⟨(hg.ub x.block (by rw [eu, hx]; rfl)).1, h3 x.block (by rw [eu, hx]; rfl)⟩⟩
      subst eu
      clear hg ht hw2 ho hwi hac hai hcm h1 h2 h3 hn3
      rw [HQQ.out] at HFIN
      go_wp2_with fail
      exact HFIN.out
end Go.Proofs.Ytjkedccbieoenaa
