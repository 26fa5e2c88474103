/- heads: the law's parses. -/
import Derived.Test.YtichnlbilnbhoaaHead13
namespace Go.Proofs.Ytichnlbilnbhoaa
open Go.RowKit
set_option linter.unusedVariables false

theorem rd_wf {bs : List Int} {bad : Bool} {n : Int} (h : ∀ x ∈ bs, (Lit.int .u8 x).wf = true) : (∀ x ∈ (rdM bs bad n).1, (Lit.int .u8 x).wf = true) ∧ (∀ x ∈ (rdM bs bad n).2.1, (Lit.int .u8 x).wf = true) := by
  unfold rdM
  split
  · simp
  · exact ⟨fun x hx => h x (List.mem_of_mem_take hx), fun x hx => h x (List.mem_of_mem_drop hx)⟩
theorem name_wf {bs : List Int} {bad : Bool} (h : ∀ x ∈ bs, (Lit.int .u8 x).wf = true) : (∀ x ∈ (nameM bs bad).2.1, (Lit.int .u8 x).wf = true) ∧ (∀ x ∈ (nameM bs bad).2.2.1, (Lit.int .u8 x).wf = true) := by
  have h1 : ∀ x ∈ (byteM bs bad).2.1, (Lit.int .u8 x).wf = true := (rd_wf h).2
  exact rd_wf h1
theorem parM_wf {bs : List Int} {r : Hd × Nat × Nat} (hw : ∀ x ∈ bs, (Lit.int .u8 x).wf = true) (h : parM bs = some r) : (∀ x ∈ r.1.t, (Lit.int .u8 x).wf = true) ∧ (∀ x ∈ r.1.f, (Lit.int .u8 x).wf = true) := by
  have hw2 : ∀ x ∈ (byteM bs false).2.1, (Lit.int .u8 x).wf = true := (rd_wf hw).2
  unfold parM at h
  simp only at h
  split at h
  · cases h
  · split at h
    · split at h
      · cases h
      · injection h with h
        subst h
        exact ⟨(rd_wf hw2).1, (by decide : ∀ x ∈ z8, (Lit.int .u8 x).wf = true)⟩
    · split at h
      · cases h
      · rename_i g hg
        split at h
        · cases h
        · injection h with h
          subst h
          unfold lgM at hg
          simp only at hg
          split at hg
          · injection hg with hg
            subst hg
            have h1 := (rd_wf (bad := (byteM bs false).2.2) (n := 4) hw2).2
            have h2 := name_wf (bad := (rdM (byteM bs false).2.1 (byteM bs false).2.2 4).2.2) h1
            exact ⟨h2.1, (name_wf h2.2).1⟩
          · cases hg
theorem same_any (w : World) (h : Hd) (a b : Option Addr) (tc uc : Nat) (ht : h.t.length = 8) (hf : h.f.length = 8) (hIa : IntsK .u8 w a h.k.length h.k) (hIb : IntsK .u8 w b h.k.length h.k) (hwt : ∀ x ∈ h.t, (Lit.int .u8 x).wf = true) (hwf : ∀ x ∈ h.f, (Lit.int .u8 x).wf = true) :
    Makes Try.prog 23 #[.agg (h.row a tc).toArray, .agg (h.row b uc).toArray] w (.bool true) := by
  obtain ⟨s, t, f, k, wd, p⟩ := h
  obtain ⟨t0, t1, t2, t3, t4, t5, t6, t7, rfl⟩ := len8 ht
  obtain ⟨f0, f1, f2, f3, f4, f5, f6, f7, rfl⟩ := len8 hf
  exact same_core w s t0 t1 t2 t3 t4 t5 t6 t7 f0 f1 f2 f3 f4 f5 f6 f7 wd a b k.length tc uc p k hIa hIb hwt hwf

set_option maxRecDepth 100000 in
set_option maxHeartbeats 8000000 in
theorem parses_core (w : World) (a : Option Addr) (len cap : Nat) (bs : List Int) (S : Bool) (E : Int) (HE : Hid ((S = true ∧ E = 0) ∨ (S = false ∧ E = 12))) (C : List Value) (hI : IntsK .u8 w a len bs)
    (HCL : Hid (C.length = 8)) (HC1 : Hid (∀ v ∈ C, v.oneCell' = true)) (HCQ : Hid (∀ w, (Op.equalIn 10000 26 (.agg C.toArray) (.agg C.toArray)).run Try.prog w = .ok true w))
    (hd : Hd) (at' en : Nat) (HDR : Hid (∀ a tc, (hd.row a tc).length = 20 ∧ (∀ v ∈ hd.row a tc, v.oneCell' = true) ∧ (∀ (j : Nat) (v : Value), C[j]? = some v → (hd.row a tc)[1 + j]? = some v)))
    (HSM : Hid (∀ w a b tc uc, IntsK .u8 w a hd.k.length hd.k → IntsK .u8 w b hd.k.length hd.k → Makes Try.prog 23 #[.agg (hd.row a tc).toArray, .agg (hd.row b uc).toArray] w (.bool true)))
    (HPA : Hid (∀ w, IntsK .u8 w a len bs → Calls Try.prog 14 #[.slice a len cap] w fun e w' => Below w.heap.size w w' ∧ ∃ a tc, e = .returned (.tuple #[.agg (hd.row a tc).toArray, .int .i64 at', .int .i64 en, .int .i64 E]) ∧ IntsK .u8 w' a hd.k.length hd.k))
    (HRP : Hid (∀ w, IntsK .u8 w a len bs → Calls Try.prog 22 #[.slice a len cap] w fun e w' => Below w.heap.size w w' ∧ ∃ a tc, e = .returned (.tuple #[.agg (hd.row a tc).toArray, .int .i64 at', .int .i64 en, .bool S]) ∧ IntsK .u8 w' a hd.k.length hd.k))
    (HFI : Hid (∀ w, IntsK .u8 w a len bs → Makes Try.prog 15 #[.slice a len cap] w (.tuple #[.agg C.toArray, .bool S]))) :
    Makes Try.prog 11 #[.slice a len cap] w (.bool true) := by
  have HI := Lib.hid hI
  clear hI
  go_enter Try.func11, Try.ntmps11
  go_wp2_with fail
  refine Calls.mono (HPA.out _ HI.out) ?_
  rintro e w1 ⟨hb1, a1, tc1, rfl, hI1⟩
  have HB := Lib.hid hb1; have HT1 := Lib.hid hI1
  clear hb1 hI1
  have HA1 := Lib.hid (HDR.out a1 tc1)
  have HSM1 : Hid (∀ w b uc, IntsK .u8 w a1 hd.k.length hd.k → IntsK .u8 w b hd.k.length hd.k → Makes Try.prog 23 #[.agg (hd.row a1 tc1).toArray, .agg (hd.row b uc).toArray] w (.bool true)) := Lib.hid fun w b uc => HSM.out w a1 b tc1 uc
  obtain ⟨R1, hR1⟩ : ∃ R, hd.row a1 tc1 = R := ⟨_, rfl⟩
  rw [hR1] at HA1 HSM1 ⊢
  have HL1 : Hid (R1.length = 20) := Lib.hid HA1.out.1; have HO1 : Hid (∀ v ∈ R1, v.oneCell' = true) := Lib.hid HA1.out.2.1
  clear hR1 HSM
  go_upto_region 2 with (first | (refine wpList_store_row rfl 28 _ _ rfl _ rfl R1 rowZ rfl 28 (heap_alloc_new _ _) (by rw [HL1.out]; rfl) (by rw [HL1.out]; rfl) HO1.out ?_; intro w2 hr2 hg2) | fail)
  have hal := (Below.refl w1.heap.size w1).alloc (Nat.le_refl _) (.cells rowZ.toArray 28)
  have hb2 : Below w1.heap.size w1 w2 := hal.grown hg2 hal.size (by intro k hk; injection hk with hk; omega)
  have HG1 := Lib.hid hr2
  replace HB := Lib.hid (bl_next HB.out HB.out.size hb2); replace HT1 := Lib.hid (HT1.out.below hb2)
  clear hr2 hg2 hal hb2
  obtain ⟨g1, hg1⟩ : ∃ g, w1.heap.size = g := ⟨_, rfl⟩
  rw [hg1] at HG1 ⊢
  clear hg1
  -- the reference
  go_wp2_with fail
  refine Calls.mono (HRP.out _ (HI.out.below HB.out)) ?_
  rintro e w3 ⟨hb3, a2, tc2, rfl, hI2⟩
  have HT2 := Lib.hid hI2
  replace HG1 := Lib.hid (bl_row hb3 (lt_of_block HG1.out) HG1.out)
  replace HB := Lib.hid (bl_next HB.out HB.out.size hb3); replace HT1 := Lib.hid (HT1.out.below hb3)
  clear hb3 hI2
  have HA2 := Lib.hid (HDR.out a2 tc2)
  have HSM2 : Hid (∀ w, IntsK .u8 w a1 hd.k.length hd.k → IntsK .u8 w a2 hd.k.length hd.k → Makes Try.prog 23 #[.agg R1.toArray, .agg (hd.row a2 tc2).toArray] w (.bool true)) := Lib.hid fun w => HSM1.out w a2 tc2
  obtain ⟨R2, hR2⟩ : ∃ R, hd.row a2 tc2 = R := ⟨_, rfl⟩
  rw [hR2] at HA2 HSM2 ⊢
  have HL2 : Hid (R2.length = 20) := Lib.hid HA2.out.1; have HO2 : Hid (∀ v ∈ R2, v.oneCell' = true) := Lib.hid HA2.out.2.1
  clear hR2 HSM1
  go_upto_region 3 with (first | (refine wpList_store_row rfl 28 _ _ rfl _ rfl R2 rowZ rfl 28 (heap_alloc_new _ _) (by rw [HL2.out]; rfl) (by rw [HL2.out]; rfl) HO2.out ?_; intro w4 hr4 hg4) | fail)
  have hal := (Below.refl w3.heap.size w3).alloc (Nat.le_refl _) (.cells rowZ.toArray 28)
  have hb4 : Below w3.heap.size w3 w4 := hal.grown hg4 hal.size (by intro k hk; injection hk with hk; omega)
  have HG2 := Lib.hid hr4
  replace HG1 := Lib.hid (bl_row hb4 (lt_of_block HG1.out) HG1.out)
  replace HB := Lib.hid (bl_next HB.out HB.out.size hb4); replace HT1 := Lib.hid (HT1.out.below hb4); replace HT2 := Lib.hid (HT2.out.below hb4)
  clear hr4 hg4 hal hb4
  obtain ⟨g2, hg2⟩ : ∃ g, w3.heap.size = g := ⟨_, rfl⟩
  rw [hg2] at HG2 ⊢
  clear hg2
  -- First
  go_wp2_with fail
  refine Calls.mono (HFI.out _ (HI.out.below HB.out)) ?_
  rintro e w5 ⟨rfl, hb5⟩
  replace HG1 := Lib.hid (bl_row hb5 (lt_of_block HG1.out) HG1.out); replace HG2 := Lib.hid (bl_row hb5 (lt_of_block HG2.out) HG2.out)
  replace HB := Lib.hid (bl_next HB.out HB.out.size hb5); replace HT1 := Lib.hid (HT1.out.below hb5); replace HT2 := Lib.hid (HT2.out.below hb5)
  clear hb5
  go_upto_region 4 with (first | (refine wpList_store_row rfl 26 _ _ rfl _ rfl C (z8.map (Value.int .u8)) rfl 26 (heap_alloc_new _ _) (by rw [HCL.out]; rfl) (by rw [HCL.out]; rfl) HC1.out ?_; intro w6 hr6 hg6) | fail)
  have hal := (Below.refl w5.heap.size w5).alloc (Nat.le_refl _) (.cells (z8.map (Value.int .u8)).toArray 26)
  have hb6 : Below w5.heap.size w5 w6 := hal.grown hg6 hal.size (by intro k hk; injection hk with hk; omega)
  have HG3 := Lib.hid hr6
  replace HG1 := Lib.hid (bl_row hb6 (lt_of_block HG1.out) HG1.out); replace HG2 := Lib.hid (bl_row hb6 (lt_of_block HG2.out) HG2.out)
  replace HB := Lib.hid (bl_next HB.out HB.out.size hb6); replace HT1 := Lib.hid (HT1.out.below hb6); replace HT2 := Lib.hid (HT2.out.below hb6)
  clear hr6 hg6 hal hb6
  obtain ⟨g3, hg3⟩ : ∃ g, w5.heap.size = g := ⟨_, rfl⟩
  rw [hg3] at HG3 ⊢
  clear hg3
  rcases HE.out with ⟨rfl, rfl⟩ | ⟨rfl, rfl⟩
  all_goals (
    go_wp2_with (first | (refine wpList_load_g 28 _ rfl (by kernel_rfl) g1 0 rfl R1 _ (rngL HG1.out) Try.underlying28 rfl (by rw [HL1.out]; rfl) ?_) | (refine wpList_load_g 28 _ rfl (by kernel_rfl) g2 0 rfl R2 _ (rngL HG2.out) Try.underlying28 rfl (by rw [HL2.out]; rfl) ?_) | fail)
    refine Calls.mono (HSM2.out _ HT1.out HT2.out) ?_
    rintro e w7 ⟨rfl, hb7⟩
    replace HG2 := Lib.hid (bl_row hb7 (lt_of_block HG2.out) HG2.out); replace HG3 := Lib.hid (bl_row hb7 (lt_of_block HG3.out) HG3.out)
    replace HB := Lib.hid (bl_next HB.out HB.out.size hb7)
    clear hb7
    have HRG : Hid (w7.rangeAt g2 1 C) := Lib.hid (fun j v hv => row_cell HG2.out (1 + j) v (by rw [List.getElem?_toArray]; exact HA2.out.2.2 j v hv))
    have hcq := HCQ.out w7
    go_wp2_with (first | (refine wpList_load_g 26 _ rfl (by kernel_rfl) g3 0 rfl C _ (rngL HG3.out) Try.underlying26 rfl (by rw [HCL.out]; rfl) ?_) | (refine wpList_load_g 26 _ rfl (by kernel_rfl) g2 1 rfl C _ HRG.out Try.underlying26 rfl (by rw [HCL.out]; rfl) ?_) | fail)
    (try go_ret)
    exact ⟨rfl, HB.out⟩)
theorem parses5_any (w : World) (a : Option Addr) (len cap : Nat) (bs : List Int) (hlc : len ≤ cap) (hcap : cap ≤ 9223372036854775807) (hlen : len ≤ 1000000000000) (hI : IntsK .u8 w a len bs) :
    Makes Try.prog 11 #[.slice a len cap] w (.bool true) := by
  obtain ⟨hd, at', en, hget⟩ : ∃ (hd : Hd) (at' en : Nat), (hd, at', en) = (parM bs).getD (⟨0, z8, z8, [], 0, false⟩, 0, 0) := ⟨_, _, _, rfl⟩
  have hC := firstCid_of hget
  have hl : hd.t.length = 8 ∧ hd.f.length = 8 := by
    cases hp : parM bs with
    | none => rw [hp] at hget; injection hget with h1; rw [h1]; exact ⟨rfl, rfl⟩
    | some r => rw [hp] at hget; have := parM_lens hp; simp only [Option.getD_some] at hget; rw [← hget] at this; exact this
  have hw : (∀ x ∈ hd.t, (Lit.int .u8 x).wf = true) ∧ (∀ x ∈ hd.f, (Lit.int .u8 x).wf = true) := by
    cases hp : parM bs with
    | none => rw [hp] at hget; injection hget with h1; rw [h1]; exact ⟨(by decide : ∀ x ∈ z8, (Lit.int .u8 x).wf = true), (by decide : ∀ x ∈ z8, (Lit.int .u8 x).wf = true)⟩
    | some r => rw [hp] at hget; have := parM_wf hI.2.1 hp; simp only [Option.getD_some] at hget; rw [← hget] at this; exact this
  refine parses_core w a len cap bs (parM bs).isSome (if (parM bs).isSome = true then 0 else 12) (Lib.hid (by cases (parM bs).isSome <;> simp)) (hd.t.map (Value.int .u8)) hI (Lib.hid (by rw [List.length_map]; exact hl.1)) (Lib.hid ints_one) (Lib.hid fun w => ?_) hd at' en
    (Lib.hid fun a tc => ⟨row_len hd a tc hl.1 hl.2, row_one hd a tc, row_cid hd a tc hl.1⟩) (Lib.hid fun w a b tc uc h1 h2 => same_any w hd a b tc uc hl.1 hl.2 h1 h2 hw.1 hw.2)
    (Lib.hid fun w h => (parse_any w a len cap bs hlen h).mono ?_) (Lib.hid fun w h => (rparse_any w a len cap bs hlc hcap hlen h).mono ?_) (Lib.hid fun w h => ?_)
  · have h := eqin_two w 9998 26 8 Try.underlying26 hd.t hd.t hl.1 hl.1 hw.1 hw.1
    rw [beq_self_eq_true] at h; exact h
  · rintro e w' hP
    obtain ⟨hd2, at2, en2, a2, tc2, he, _, _, hg2, hI2, _⟩ := parR_one hP
    rw [← hget] at hg2
    injection hg2 with h1 h2; injection h2 with h2 h3
    subst h1; subst h2; subst h3
    exact ⟨hP.1, a2, tc2, he, hI2⟩
  · rintro e w' hP
    obtain ⟨hd2, at2, en2, a2, tc2, he, _, _, hg2, hI2, _⟩ := rparR_one hP
    rw [← hget] at hg2
    injection hg2 with h1 h2; injection h2 with h2 h3
    subst h1; subst h2; subst h3
    exact ⟨hP.1, a2, tc2, he, hI2⟩
  · have h2 := first_any w a len cap bs hlen h
    rw [hC] at h2; exact h2
end Go.Proofs.Ytichnlbilnbhoaa
