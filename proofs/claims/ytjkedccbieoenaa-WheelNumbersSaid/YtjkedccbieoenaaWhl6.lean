/- wheel: DeleteFunc, where one goes. -/
import Derived.Test.YtjkedccbieoenaaWhl5
import Derived.Lib.SliceRun
namespace Go.Proofs.Ytjkedccbieoenaa
open Go.RowKit
set_option linter.unusedVariables false
set_option linter.unusedSimpArgs false

theorem mid_rows (l1 l2 : List Tm) (x : Tm) (k : Nat) (hk : k < l2.length) : ∃ y, l2[k]? = some y ∧ y ∈ l2 ∧ ∃ z, l1 ++ (l2.take k ++ (x :: l2).drop k) = (l1 ++ l2.take k) ++ (z :: (x :: l2).drop (k + 1)) ∧ (l1 ++ l2.take k) ++ (y :: (x :: l2).drop (k + 1)) = l1 ++ (l2.take (k + 1) ++ (x :: l2).drop (k + 1)) ∧
    (l1 ++ (l2.take k ++ (x :: l2).drop k))[l1.length + k + 1]? = some y := by
  refine ⟨l2[k], List.getElem?_eq_getElem hk, List.getElem_mem _, (x :: l2)[k]'(by simp; omega), ?_, ?_, ?_⟩
  · rw [List.append_assoc, List.drop_eq_getElem_cons (by simp; omega : k < (x :: l2).length)]
  · rw [List.take_succ_eq_append_getElem hk, List.append_assoc, List.append_assoc, List.drop_succ_cons]; rfl
  · rw [List.getElem?_append_right (by omega), List.getElem?_append_right (by rw [List.length_take]; omega), List.length_take, List.getElem?_drop]
    rw [show k + (l1.length + k + 1 - l1.length - min k l2.length) = k + 1 by omega, List.getElem?_cons_succ]
    exact List.getElem?_eq_getElem hk
theorem rng_of_rowV {w : World} {g : Nat} {l : List Tm} {sp : List Value} {E : TypeId} (h : w.heap[g]? = some (.cells (rowV l ++ sp).toArray E (0, 0))) {j : Nat} {y : Tm} (hy : l[j]? = some y) : w.rangeAt g (j * 2) (tmV y) := by
  have hv := rowV_at l j y hy
  have hlt : 2 * j + 1 < (rowV l).length := by rw [rowV_len]; have := (List.getElem?_eq_some_iff.1 hy).1; omega
  refine rng_row h (j * 2) (tmV y) (fun k v hk => ?_)
  match k, hk with
  | 0, hk => simp [tmV] at hk; subst hk; rw [List.getElem?_append_left (by omega), show j * 2 + 0 = 2 * j by omega]; exact hv.1
  | 1, hk => simp [tmV] at hk; subst hk; rw [List.getElem?_append_left (by omega), show j * 2 + 1 = 2 * j + 1 by omega]; exact hv.2
  | k + 2, hk => simp [tmV] at hk
theorem run_clear_one {E T : TypeId} (hT : TmTy E T) (hz : ∀ w, (zeroValue E).run Try.prog w = .ok (.agg #[.int .i64 0, .int .i64 0]) w) (w : World) (g o c : Nat) (pre sp : List Value) (z : Tm) (hr : w.heap[g]? = some (.cells (pre ++ (tmV z ++ sp)).toArray E (0, 0))) (ho : pre.length = o) :
    ∃ w', (∀ ty, (Builtin.clear_ #[T] ty #[.slice (some ⟨g, o, none⟩) 1 c]).run Try.prog w = .ok (.tuple #[]) w') ∧ w'.heap[g]? = some (.cells (pre ++ (tmV (0, 0) ++ sp)).toArray E (0, 0)) ∧ w.grownBy w' (some g) := by
  have hc : ∀ (j : Nat) (v : Value), (tmV z)[j]? = some v → w.cell? ⟨g, o + j, none⟩ = some v := fun j v hv => cell_row hr _ _ (by
    have hj := (List.getElem?_eq_some_iff.1 hv).1
    rw [List.getElem?_append_right (by omega), show o + j - pre.length = j by omega, List.getElem?_append_left hj]; exact hv)
  have hst := run_storeCells_cells (P := Try.prog) g o (tmV (0, 0)) 0 w (fun j hj => by
    have hj2 : j < (tmV z).length := hj
    rw [Nat.add_zero, hc j _ (List.getElem?_eq_getElem hj2)]; rfl) (fun j _ => row_free hr _) (by intro v hv; exact tmV_one (0, 0) v hv)
  simp only [Nat.add_zero] at hst
  have hs := setCells_part (g := g) (t := E) sp (tmV (0, 0)) pre (tmV z) w hr rfl
  rw [ho] at hs
  refine ⟨_, fun ty => ?_, hs.1, hs.2⟩
  have hzc : (Builtin.zeroCells (Value.agg #[.int .i64 0, .int .i64 0]).cells 1).toList = tmV (0, 0) := by
    first | rfl | (simp only [Value.cells]; rfl) | (simp [Builtin.zeroCells, Value.cells, tmV]; done) | (simp [Builtin.zeroCells, Value.cells, tmV]; rfl) | (simp [Builtin.zeroCells, Value.cells, tmV]; decide)
  simp [Builtin.clear_, run_underlying hT.u, hz, hzc, hst]
set_option maxRecDepth 100000 in
set_option maxHeartbeats 8000000 in
theorem delete_any (w : World) (g n cap : Nat) (l1 l2 : List Tm) (x : Tm) (hown : w.ownsRow 0 53 2 (.slice (some ⟨g, 0, none⟩) n cap) n (rowV (l1 ++ x :: l2))) (hw : ∀ y ∈ l1 ++ x :: l2, tmwf y) (hn : n ≤ 1000000) (gi : Nat) (id : Int) (hx : x.1 = id) (h1 : ∀ y ∈ l1, y.1 ≠ id) (h2 : ∀ y ∈ l2, y.1 ≠ id)
    (hgi : gi < w.heap.size) (hne : gi ≠ g) (hc : w.cell? ⟨gi, 0, none⟩ = some (.int .i64 id)) :
    Calls Try.prog 26 #[.slice (some ⟨g, 0, none⟩) n cap, .func (.func 27) #[] #[.pointer (some ⟨gi, 0, none⟩)]] w fun e w' => e = .returned (.slice (some ⟨g, 0, none⟩) (n - 1) cap) ∧ w'.ownsRow 0 53 2 (.slice (some ⟨g, 0, none⟩) (n - 1) cap) (n - 1) (rowV (l1 ++ l2)) ∧ Off [g] w w' := by
  have hln := hown.1
  rw [rowV_len, List.length_append, List.length_cons] at hln
  have hnn : n = l1.length + 1 + l2.length := by omega
  obtain ⟨sp, hrow, hcap, hcm, hcs⟩ : ∃ sp, w.heap[g]? = some (.cells (rowV (l1 ++ x :: l2) ++ sp).toArray 53 (0, 0)) ∧ n ≤ cap ∧ cap ≤ maxLen ∧ (rowV (l1 ++ x :: l2) ++ sp).length = cap * 2 := by
    rcases hown.2 with ⟨h, _⟩ | ⟨g2, cap2, cur, e, _, hg, hnc, hcm, hcs, htk⟩
    · cases h
    · injection e with e1 e2 e3; injection e1 with e1; injection e1 with e1; subst e1; subst e3
      refine ⟨cur.toList.drop (n * 2), ?_, hnc, hcm, ?_⟩
      · rw [← htk, List.take_append_drop]; simpa using hg
      · rw [← htk, List.take_append_drop]; simpa using hcs
  have HIX := Lib.hid (fun W q1 q2 q3 => index_any W (some ⟨g, 0, none⟩) n cap (l1 ++ x :: l2) q1 hn gi id q2 q3 l1.length (by omega) (fun y hy => by rw [List.getElem?_append_right (Nat.le_refl _), Nat.sub_self] at hy; simp at hy; rw [← hy]; exact hx) (fun j y hj hy => by rw [List.getElem?_append_left hj] at hy; exact h1 y (List.mem_of_getElem? hy)))
  have HT := Lib.hid (Tms.of_own hown hw); have HR := Lib.hid hrow; have HCS := Lib.hid hcs; have HCM := Lib.hid hcm
  have HGI := Lib.hid hgi; have HNE := Lib.hid hne; have HC := Lib.hid hc; have HX := Lib.hid hx; have H2 := Lib.hid h2; have HN := Lib.hid hnn
  have HO : Hid (Off [g] w w) := Lib.hid (Off.refl _ _)
  have hmx : cap ≤ 9223372036854775807 := by unfold maxLen at hcm; exact hcm
  obtain ⟨a, ha⟩ : ∃ a, l1.length = a := ⟨_, rfl⟩
  obtain ⟨m2, hm2⟩ : ∃ m, l2.length = m := ⟨_, rfl⟩
  rw [ha] at HIX HN
  rw [hm2] at HN
  have hN1 : a + 1 + m2 ≤ n := by have := HN.out; omega
  have hN2 : n ≤ a + 1 + m2 := by have := HN.out; omega
  have HA := Lib.hid ha; have HM2 := Lib.hid hm2
  clear hown hln hnn hrow hcs hcm hgi hne hc hx h1 h2 ha hm2 hw
  go_enter Try.func26, Try.ntmps26
  go_wp2_with fail
  refine Calls.mono (HIX.out _ HT.out HGI.out HC.out) ?_
  rintro e w1 ⟨rfl, hb⟩
  replace HR := Lib.hid (bl_row hb (lt_of_block HR.out) HR.out)
  replace HO := Lib.hid (HO.out.next hb)
  clear hb HIX HT
  have hne1 : ((a : Int) == -1) = false := by simp
  go_wp2_with fail
  go_loopw [5, 6] (fun s u wr => ∃ m : Nat, s = .int .i64 m ∧ u = .int .i64 ((m : Int) + 1) ∧ a ≤ m ∧ m ≤ a + m2 ∧ Hid (Off [g] w wr) ∧ Hid (wr.heap[g]? = some (.cells (rowV (l1 ++ (l2.take (m - a) ++ (x :: l2).drop (m - a))) ++ sp).toArray 53 (0, 0)))) (fun s _ _ => n - (intOf s).toNat)
  case atStart => exact ⟨a, rfl, by go_num, Nat.le_refl _, by omega, HO, Lib.hid (by rw [Nat.sub_self, List.take_zero, List.nil_append, List.drop_zero]; exact HR.out)⟩
  case round =>
    clear HO HR
    obtain ⟨m, rfl, rfl, ham, hmm, HO, HR⟩ := hrel
    by_cases hlt : m < a + m2
    · skip
      obtain ⟨k, hk⟩ : ∃ k, m - a = k := ⟨_, rfl⟩
      obtain ⟨y, hy, hym, z, e1, e2, e3⟩ := mid_rows l1 l2 x k (by have := HM2.out; omega)
      have hla := HA.out
      have hmk : m = a + k := by omega
      rw [hk] at HR
      rw [hla, show a + k + 1 = m + 1 by omega] at e3
      have HRG := Lib.hid (rng_of_rowV HR.out e3)
      have hr1 := HR.out
      have er : rowV (l1 ++ (l2.take k ++ (x :: l2).drop k)) ++ sp = rowV (l1 ++ l2.take k) ++ (tmV z ++ (rowV ((x :: l2).drop (k + 1)) ++ sp)) := by rw [e1, rowV_app, List.append_assoc]; rfl
      have er2 : rowV (l1 ++ l2.take k) ++ (tmV y ++ (rowV ((x :: l2).drop (k + 1)) ++ sp)) = rowV (l1 ++ (l2.take (k + 1) ++ (x :: l2).drop (k + 1))) ++ sp := by rw [← e2, rowV_app (l1 ++ l2.take k), List.append_assoc]; rfl
      rw [er] at hr1
      have HR1 := Lib.hid hr1
      have HE2 := Lib.hid er2
      have HPL : Hid ((rowV (l1 ++ l2.take k)).length = m * 2) := Lib.hid (by rw [rowV_len, List.length_append, List.length_take]; have := HM2.out; omega)
      have HYN : Hid (decide (y.1 = id) = false) := Lib.hid (decide_eq_false (H2.out y hym))
      have HD := Lib.hid (fun W h1 h2 => dropc_any W gi id y h1 h2)
      rw [HYN.out] at HD
      have HGW : Hid (gi < wr.heap.size ∧ wr.cell? ⟨gi, 0, none⟩ = some (.int .i64 id)) := Lib.hid ⟨Nat.lt_of_lt_of_le HGI.out HO.out.size, by rw [← HC.out]; simp only [World.cell?, HO.out.block gi HGI.out (by simpa using HNE.out)]⟩
      have HYL : Hid ((tmV y).length = 2) := Lib.hid rfl
      have HYO := Lib.hid (tmV_one y)
      have HZL : Hid ((tmV z).length = 2) := Lib.hid rfl
      have HMK := Lib.hid hmk
      have HKK := Lib.hid hk
      generalize rowV (l1 ++ l2.take k) = PRE at HR1 HE2 HPL
      generalize rowV ((x :: l2).drop (k + 1)) ++ sp = SUF at HR1 HE2
      generalize tmV z = Z at HR1 HZL
      generalize tmV y = Y at HRG HE2 HD HYL HYO
      clear HR hr1 er er2 e1 e2 e3 hy hym HYN hmk hk hla
      have HB := Lib.hid (Below.refl wr.heap.size wr)
      have hlt2 : (m : Int) + 1 < (n : Int) := by omega
      go_upto_region 8 with (first | (refine wpList_load_mid rfl 53 _ rfl g ((m + 1) * 2) rfl Y _ HRG.out Try.underlying53 rfl (by rw [HYL.out]; rfl) ?_) | (refine wpList_store_row rfl 53 _ _ rfl _ rfl Y (.int .i64 0 :: .int .i64 0 :: []) rfl 53 (heap_alloc_new _ _) (by rw [HYL.out]; rfl) (by rw [HYL.out]; rfl) HYO.out ?_; intro w11 hr hg) | fail)
      have hal := (Below.refl wr.heap.size wr).alloc (Nat.le_refl _) (.cells ((.int .i64 0 :: .int .i64 0 :: [])).toArray 53)
      have hb : Below wr.heap.size wr w11 := hal.grown hg hal.size (by intro k hk; injection hk with hk; omega)
      replace HB := Lib.hid (bl_next HB.out HB.out.size hb)
      replace HR1 := Lib.hid (bl_row hb (lt_of_block HR1.out) HR1.out)
      have HGT := Lib.hid (hr)
      clear hr hg hal hb
      obtain ⟨gt, hg⟩ : ∃ g, wr.heap.size = g := ⟨_, rfl⟩
      have HGG := Lib.hid hg
      rw [hg] at HGT ⊢
      clear hg
      go_wp2_with (first | (refine wpList_load_mid rfl 53 _ rfl gt 0 rfl Y _ (rngL HGT.out) Try.underlying53 rfl (by rw [HYL.out]; rfl) ?_) | fail)
      refine Calls.mono (HD.out _ (Nat.lt_of_lt_of_le HGW.out.1 HB.out.size) (bl_cell HB.out (p := ⟨gi, 0, none⟩) HGW.out.1 HGW.out.2)) ?_
      rintro e w12 ⟨rfl, hb⟩
      replace HB := Lib.hid (bl_next HB.out HB.out.size hb)
      replace HR1 := Lib.hid (bl_row hb (lt_of_block HR1.out) HR1.out)
      replace HGT := Lib.hid (bl_row hb (lt_of_block HGT.out) HGT.out)
      clear hb
      skip
      go_upto_region 6 with (first | (refine wpList_load_mid rfl 53 _ rfl gt 0 rfl Y _ (rngL HGT.out) Try.underlying53 rfl (by rw [HYL.out]; rfl) ?_) | (refine wpList_store_part rfl 53 _ _ rfl g (m * 2) rfl Y 53 PRE Z SUF rfl HR1.out HPL.out (by rw [HZL.out, HYL.out]) (by rw [HYL.out]; rfl) HYO.out ?_; intro w20 hr20 hg20) | fail)
      have HR20 := Lib.hid hr20
      have HO20 := Lib.hid ((HO.out.next HB.out).trans (N := [g]) (Off.of_grown hg20 (fun q hq => by injection hq with hq; rw [hq]; exact List.mem_singleton.2 rfl)) (fun x hx => .inl hx))
      clear hr20 hg20
      go_wp2_with fail
      go_roundw
      case rel => exact ⟨m + 1, by go_num, by go_num, by omega, by omega, HO20, Lib.hid (by rw [show m + 1 - a = k + 1 by have := HMK.out; omega, ← HE2.out]; exact HR20.out)⟩
      case measure => simp [intOf]; omega
    · skip
      have hm : m = a + m2 := by omega
      have h0 := HR.out
      rw [show m - a = l2.length by have := HM2.out; omega, List.take_length] at h0
      obtain ⟨z, hz⟩ : ∃ z, (x :: l2).drop l2.length = [z] := by
        have hl : ((x :: l2).drop l2.length).length = 1 := by simp
        exact List.length_eq_one_iff.1 hl
      rw [hz] at h0
      have e0 : rowV (l1 ++ (l2 ++ [z])) ++ sp = rowV (l1 ++ l2) ++ (tmV z ++ sp) := by rw [← List.append_assoc, rowV_app, List.append_assoc]; rfl
      rw [e0] at h0
      have hpl : (rowV (l1 ++ l2)).length = m * 2 := by rw [rowV_len, List.length_append]; have := HM2.out; have := HA.out; omega
      obtain ⟨w2, hcl, hr2, hg2⟩ := run_clear_one tmW (fun w => by kernel_rfl) wr g (m * 2) (cap - m) _ sp z h0 hpl
      have hr3 := hr2
      have HO2 := Lib.hid (HO.out.trans (N := [g]) (Off.of_grown hg2 (fun q hq => by injection hq with hq; rw [hq]; exact List.mem_singleton.2 rfl)) (fun x hx => .inl hx))
      have hlen2 : (rowV (l1 ++ l2) ++ (tmV (0, 0) ++ sp)).length = cap * 2 := by have := HCS.out; simp only [List.length_append, rowV_len, List.length_cons] at this ⊢; show _ + (2 + sp.length) = _; omega
      have HOW : Hid (w2.ownsRow 0 53 2 (.slice (some ⟨g, 0, none⟩) (n - 1) cap) (n - 1) (rowV (l1 ++ l2))) := Lib.hid ⟨by rw [hpl]; omega, .inr ⟨g, cap, _, rfl, Nat.zero_le _, hr2, by omega, HCM.out, by rw [List.size_toArray]; exact hlen2, by rw [show (n - 1) * 2 = (rowV (l1 ++ l2)).length by rw [hpl]; omega]; simp⟩⟩
      have hge : ¬ ((m : Int) + 1 < (n : Int)) := by omega
      have E1 : (m : Int) ≤ (n : Int) := by omega
      have E2 : (m : Int) ≤ (cap : Int) := by omega
      have hz2 : ¬ (cap - m = 0) := by omega
      have hnm : n - m = 1 := by omega
      have hmn : m = n - 1 := by omega
      have HMN := Lib.hid hmn
      clear hmn hm hr3 hr2 hg2 hpl h0 e0 hz HR HO hlen2 hlt HN
      go_upto_region 11 with fail
      go_wp2_with fail
      go_ret
      exact ⟨by rw [← HMN.out]; rfl, HOW.out, HO2.out⟩
end Go.Proofs.Ytjkedccbieoenaa
