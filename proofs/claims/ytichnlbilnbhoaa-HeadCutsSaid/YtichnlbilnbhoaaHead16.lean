/- heads: the walk of HeadBack. -/
import Derived.Test.YtichnlbilnbhoaaHead15
namespace Go.Proofs.Ytichnlbilnbhoaa
open Go.RowKit
set_option linter.unusedVariables false

/-- what is known of a row that is a head. -/
structure RowIs (R : List Value) (s : Int) (T F : List Value) (a : Option Addr) (kl tc : Nat) : Prop where
  c0 : R[0]? = some (.int .i64 s)
  rt : ∀ (j : Nat) (v : Value), T[j]? = some v → R[1 + j]? = some v
  rf : ∀ (j : Nat) (v : Value), F[j]? = some v → R[9 + j]? = some v
  c17 : R[17]? = some (.slice a kl tc)
theorem Hd.rowIs (h : Hd) (a : Option Addr) (tc : Nat) (ht : h.t.length = 8) (hf : h.f.length = 8) : RowIs (h.row a tc) h.s (h.t.map (Value.int .u8)) (h.f.map (Value.int .u8)) a h.k.length tc :=
  ⟨row_0 h a tc, row_cid h a tc ht, row_cidf h a tc ht hf, (row_17 h a tc ht hf).1⟩

set_option maxRecDepth 100000 in
set_option maxHeartbeats 8000000 in
theorem back5_core (w : World) (X : List Value) (n : Int) (ma : Option Addr) (ml mc : Nat) (ms : List Int) (h h2 : Hd) (T F : List Value) (s : Int) (k L kl q : Nat) (en : Int) (es ks : List Int)
    (HHk : Hid (∀ a tc, (h.row a tc).length = 20 ∧ (∀ v ∈ h.row a tc, v.oneCell' = true) ∧ RowIs (h.row a tc) s T F a kl tc))
    (HH2 : Hid (∀ a tc, (h2.row a tc).length = 20 ∧ (∀ v ∈ h2.row a tc, v.oneCell' = true) ∧ RowIs (h2.row a tc) s T F a kl tc))
    (HXL : Hid (X.length = 6)) (HTL : Hid (T.length = 8)) (HTO : Hid (∀ v ∈ T, v.oneCell' = true)) (HFL : Hid (F.length = 8))
    (hL : L ≤ 1000) (hk : k ≤ 300) (hq : q ≤ 20) (hen : (s = 2 ∧ en = L + k + q) ∨ (s ≠ 2 ∧ en = L + k))
    (HEW : Hid (∀ x ∈ es ++ List.replicate k 0 ++ ms.take q, (Lit.int .u8 x).wf = true)) 
    (HTQ : Hid (∀ w, (Op.equalIn 10000 26 (.agg T.toArray) (.agg T.toArray)).run Try.prog w = .ok true w)) (HFQ : Hid (∀ w, (Op.equalIn 10000 26 (.agg F.toArray) (.agg F.toArray)).run Try.prog w = .ok true w))
    (HM : Hid (IntsK .u8 w ma q (ms.take q)))
    (HKH : Hid (∀ w1, Below w.heap.size w w1 → Calls Try.prog 6 #[.agg X.toArray] w1 fun e w' => Below w1.heap.size w1 w' ∧ ∃ b tc, e = .returned (.agg (h.row b tc).toArray) ∧ IntsK .u8 w' b kl ks))
    (HWI : Hid (∀ w1, Calls Try.prog 8 #[.int .i64 n, .int .i64 12, .int .i64 300] w1 fun e w' => e = .returned (.int .i64 k) ∧ w1 = w'))
    (HEN : Hid (∀ w1 b tc, IntsK .u8 w1 b kl ks → Calls Try.prog 13 #[.agg (h.row b tc).toArray, .int .i64 k] w1 fun e w' => Below w1.heap.size w1 w' ∧ ∃ a cap, e = .returned (.tuple #[.slice a L cap, .int .i64 0]) ∧ IntsK .u8 w' a L es))
    (HCU : Hid (∀ w1, Calls Try.prog 7 #[.slice ma ml mc, .int .i64 20] w1 fun e w' => e = .returned (.slice ma q mc) ∧ w1 = w'))
    (HPA : Hid (∀ w1 a cap, IntsK .u8 w1 a (L + k + q) (es ++ List.replicate k 0 ++ ms.take q) → Calls Try.prog 14 #[.slice a (L + k + q) cap] w1 fun e w' => Below w1.heap.size w1 w' ∧ ∃ b tc, e = .returned (.tuple #[.agg (h2.row b tc).toArray, .int .i64 L, .int .i64 en, .int .i64 0]) ∧ IntsK .u8 w' b kl ks))
    (HFI : Hid (∀ w1 a cap, IntsK .u8 w1 a (L + k + q) (es ++ List.replicate k 0 ++ ms.take q) → Makes Try.prog 15 #[.slice a (L + k + q) cap] w1 (.tuple #[.agg T.toArray, .bool true])))
    (HKN : Hid (∀ w1, Makes Try.prog 12 #[] w1 (.bool true))) :
    Makes Try.prog 4 #[.agg X.toArray, .int .i64 n, .slice ma ml mc] w (.bool true) := by
  have HB := Lib.hid (Below.refl w.heap.size w)
  go_enter Try.func4, Try.ntmps4
  go_upto_region 1 with fail
  have hb := (Below.refl w.heap.size w).alloc (Nat.le_refl _) (.cells X.toArray 24)
  replace HB := Lib.hid (bl_next HB.out HB.out.size hb)
  replace HM := Lib.hid (HM.out.below hb)
  have HG0 := Lib.hid (heap_alloc_new w (.cells X.toArray 24))
  clear hb
  generalize w.alloc (.cells X.toArray 24) = w1 at HB HM HG0 ⊢
  obtain ⟨g0, hg⟩ : ∃ g, w.heap.size = g := ⟨_, rfl⟩
  rw [hg] at HG0 ⊢
  clear hg
  go_wp2_with (first | (refine wpList_load_mid rfl 24 _ rfl g0 0 rfl X _ (rngL HG0.out) Try.underlying24 rfl (by rw [HXL.out]; rfl) ?_) | fail)
  refine Calls.mono (HKH.out _ HB.out) ?_
  rintro e w2 ⟨hb, b1, tc1, rfl, hi1⟩
  replace HB := Lib.hid (bl_next HB.out HB.out.size hb)
  replace HM := Lib.hid (HM.out.below hb)
  replace HG0 := Lib.hid (bl_row hb (lt_of_block HG0.out) HG0.out)
  clear hb
  have HI1 := Lib.hid (hi1)
  clear hi1
  have HEN1 := Lib.hid (fun w1 => HEN.out w1 b1 tc1)
  have HR1 := Lib.hid (HHk.out b1 tc1).2.2
  have HL1 := Lib.hid ((HHk.out b1 tc1).1); have HO1 := Lib.hid ((HHk.out b1 tc1).2.1)
  obtain ⟨R1, hR1⟩ : ∃ R, h.row b1 tc1 = R := ⟨_, rfl⟩
  rw [hR1] at HL1 HO1 HEN1 HR1 ⊢
  clear hR1
  clear HHk HEN HKH HG0
  go_upto_region 2 with (first | (refine wpList_store_row rfl 28 _ _ rfl _ rfl R1 rowZ rfl 28 (heap_alloc_new _ _) (by rw [HL1.out]; rfl) (by rw [HL1.out]; rfl) HO1.out ?_; intro w3 hr hg) | fail)
  have hal := (Below.refl w2.heap.size w2).alloc (Nat.le_refl _) (.cells (rowZ).toArray 28)
  have hb : Below w2.heap.size w2 w3 := hal.grown hg hal.size (by intro k hk; injection hk with hk; omega)
  replace HB := Lib.hid (bl_next HB.out HB.out.size hb)
  replace HM := Lib.hid (HM.out.below hb)
  replace HI1 := Lib.hid (HI1.out.below hb)
  have HG1 := Lib.hid (hr)
  clear hr hg hal hb
  obtain ⟨g1, hg⟩ : ∃ g, w2.heap.size = g := ⟨_, rfl⟩
  rw [hg] at HG1 ⊢
  clear hg
  go_wp2_with fail
  refine Calls.mono (HWI.out _) ?_
  rintro e wq ⟨rfl, rfl⟩
  go_wp2_with (first | (refine wpList_load_mid rfl 28 _ rfl g1 0 rfl R1 _ (rngL HG1.out) Try.underlying28 rfl (by rw [HL1.out]; rfl) ?_) | fail)
  refine Calls.mono (HEN1.out _ HI1.out) ?_
  rintro e w4 ⟨hb, b2, cp2, rfl, hi2⟩
  replace HB := Lib.hid (bl_next HB.out HB.out.size hb)
  replace HM := Lib.hid (HM.out.below hb)
  replace HI1 := Lib.hid (HI1.out.below hb)
  replace HG1 := Lib.hid (bl_row hb (lt_of_block HG1.out) HG1.out)
  clear hb HEN1 HWI
  have HI2 := Lib.hid (hi2)
  clear hi2
  go_wp2_with (first | (at_builtin; refine wpList_append_bytes rfl _ _ rfl w4.heap.size 0 (.slice (some ⟨w4.heap.size, 0, none⟩) 0 0) [] rfl (World.ownsRow_made _ _ _ (Nat.le_refl _) (by unfold maxLen; omega) (by rfl)) _ _ _ _ rfl (HI2.out.below ((Below.refl _ _).alloc (Nat.le_refl _) _)) (by omega) (by simp) ?_; intro va wa hown hgrow; rw [Nat.zero_add, List.nil_append] at hown; obtain ⟨bva, cva, rfl, _⟩ := own_slice hown; have HOa := Lib.hid hown; have HLa := Lib.hid (((Below.refl w4.heap.size w4).alloc (Nat.le_refl _) _).grown hgrow (by simp) (by intro k hk; simp [Value.ownBlock] at hk; omega)); clear hown hgrow) | (at_builtin; refine wpList_append_zeros rfl _ _ rfl w4.heap.size _ _ _ rfl HOa.out k rfl (by omega) HLa.out.size ?_; intro vb wb hown hgrow _; obtain ⟨bvb, cvb, rfl, _⟩ := own_slice hown; have HOb := Lib.hid hown; have HLb := Lib.hid (HLa.out.grown hgrow HLa.out.size (fun k hk => own_base HOa.out k hk)); clear hown hgrow) | fail)
  refine Calls.mono (HCU.out _) ?_
  rintro e wq ⟨rfl, rfl⟩
  go_upto_region 7 with (first | (at_builtin; refine wpList_append_bytes rfl _ _ rfl w4.heap.size _ _ _ rfl HOb.out _ _ _ _ rfl (HM.out.below HLb.out) (by omega) HLb.out.size ?_; intro vc wc hown hgrow; obtain ⟨bvc, cvc, rfl, _⟩ := own_slice hown; have HOc := Lib.hid hown; have HLc := Lib.hid (HLb.out.grown hgrow HLb.out.size (fun k hk => own_base HOb.out k hk)); clear hown hgrow) | fail)
  obtain ⟨bf, cf, e, hcf, hif, _⟩ := ints_of_own HOc.out HEW.out
  injection e with e1 e2 e3
  subst e1; subst e3
  clear e2
  have hb := HLc.out
  replace HB := Lib.hid (bl_next HB.out HB.out.size hb)
  replace HM := Lib.hid (HM.out.below hb)
  replace HI1 := Lib.hid (HI1.out.below hb)
  replace HG1 := Lib.hid (bl_row hb (lt_of_block HG1.out) HG1.out)
  replace HI2 := Lib.hid (HI2.out.below hb)
  clear hb HOa HOb HOc HLa HLb HLc hcf
  have HIF := Lib.hid (hif)
  clear hif
  go_wp2_with fail
  refine Calls.mono (HPA.out _ _ _ HIF.out) ?_
  rintro e w5 ⟨hb, b3, tc3, rfl, hi3⟩
  replace HB := Lib.hid (bl_next HB.out HB.out.size hb)
  replace HM := Lib.hid (HM.out.below hb)
  replace HI1 := Lib.hid (HI1.out.below hb)
  replace HG1 := Lib.hid (bl_row hb (lt_of_block HG1.out) HG1.out)
  replace HI2 := Lib.hid (HI2.out.below hb)
  replace HIF := Lib.hid (HIF.out.below hb)
  clear hb
  have HI3 := Lib.hid (hi3)
  clear hi3
  have HR2 := Lib.hid (HH2.out b3 tc3).2.2
  have HL2 := Lib.hid ((HH2.out b3 tc3).1); have HO2 := Lib.hid ((HH2.out b3 tc3).2.1)
  obtain ⟨R2, hR2⟩ : ∃ R, h2.row b3 tc3 = R := ⟨_, rfl⟩
  rw [hR2] at HL2 HO2 HR2 ⊢
  clear hR2
  go_upto_region 8 with (first | (refine wpList_store_row rfl 28 _ _ rfl _ rfl R2 rowZ rfl 28 (heap_alloc_new _ _) (by rw [HL2.out]; rfl) (by rw [HL2.out]; rfl) HO2.out ?_; intro w6 hr hg) | fail)
  have hal := (Below.refl w5.heap.size w5).alloc (Nat.le_refl _) (.cells (rowZ).toArray 28)
  have hb : Below w5.heap.size w5 w6 := hal.grown hg hal.size (by intro k hk; injection hk with hk; omega)
  replace HB := Lib.hid (bl_next HB.out HB.out.size hb)
  replace HM := Lib.hid (HM.out.below hb)
  replace HI1 := Lib.hid (HI1.out.below hb)
  replace HG1 := Lib.hid (bl_row hb (lt_of_block HG1.out) HG1.out)
  replace HI2 := Lib.hid (HI2.out.below hb)
  replace HIF := Lib.hid (HIF.out.below hb)
  replace HI3 := Lib.hid (HI3.out.below hb)
  have HG2 := Lib.hid (hr)
  clear hr hg hal hb
  obtain ⟨g2, hg⟩ : ∃ g, w5.heap.size = g := ⟨_, rfl⟩
  rw [hg] at HG2 ⊢
  clear hg
  go_wp2_with fail
  refine Calls.mono (HFI.out _ _ _ HIF.out) ?_
  rintro e w7 ⟨rfl, hb⟩
  replace HB := Lib.hid (bl_next HB.out HB.out.size hb)
  replace HM := Lib.hid (HM.out.below hb)
  replace HI1 := Lib.hid (HI1.out.below hb)
  replace HG1 := Lib.hid (bl_row hb (lt_of_block HG1.out) HG1.out)
  replace HI2 := Lib.hid (HI2.out.below hb)
  replace HIF := Lib.hid (HIF.out.below hb)
  replace HI3 := Lib.hid (HI3.out.below hb)
  replace HG2 := Lib.hid (bl_row hb (lt_of_block HG2.out) HG2.out)
  clear hb
  go_upto_region 9 with (first | (refine wpList_store_row rfl 26 _ _ rfl _ rfl T [.int .u8 0, .int .u8 0, .int .u8 0, .int .u8 0, .int .u8 0, .int .u8 0, .int .u8 0, .int .u8 0] rfl 26 (heap_alloc_new _ _) (by rw [HTL.out]; rfl) (by rw [HTL.out]; rfl) HTO.out ?_; intro w8 hr hg) | fail)
  have hal := (Below.refl w7.heap.size w7).alloc (Nat.le_refl _) (.cells ([.int .u8 0, .int .u8 0, .int .u8 0, .int .u8 0, .int .u8 0, .int .u8 0, .int .u8 0, .int .u8 0]).toArray 26)
  have hb : Below w7.heap.size w7 w8 := hal.grown hg hal.size (by intro k hk; injection hk with hk; omega)
  replace HB := Lib.hid (bl_next HB.out HB.out.size hb)
  replace HM := Lib.hid (HM.out.below hb)
  replace HI1 := Lib.hid (HI1.out.below hb)
  replace HG1 := Lib.hid (bl_row hb (lt_of_block HG1.out) HG1.out)
  replace HI2 := Lib.hid (HI2.out.below hb)
  replace HIF := Lib.hid (HIF.out.below hb)
  replace HI3 := Lib.hid (HI3.out.below hb)
  replace HG2 := Lib.hid (bl_row hb (lt_of_block HG2.out) HG2.out)
  have HG3 := Lib.hid (hr)
  clear hr hg hal hb
  obtain ⟨g3, hg⟩ : ∃ g, w7.heap.size = g := ⟨_, rfl⟩
  rw [hg] at HG3 ⊢
  clear hg
  have c10 := cell_row HG1.out 0 _ HR1.out.c0
  have c117 := cell_row HG1.out 17 _ HR1.out.c17
  have c20 := cell_row HG2.out 0 _ HR2.out.c0
  have c217 := cell_row HG2.out 17 _ HR2.out.c17
  have HA1 := Lib.hid (rng_row HG1.out 1 T HR1.out.rt)
  have HF1 := Lib.hid (rng_row HG1.out 9 F HR1.out.rf)
  have HA2 := Lib.hid (rng_row HG2.out 1 T HR2.out.rt)
  have HF2 := Lib.hid (rng_row HG2.out 9 F HR2.out.rf)
  have hcv1 : (convert 22 9 (.slice b1 kl tc1)).run Try.prog w8 = .ok (.string (strOfNums ks)) w8 := conv_ints _ 5 _ _ Try.underlying22 Try.underlying5 Try.underlying9 HI1.out
  have hcv2 : (convert 22 9 (.slice b3 kl tc3)).run Try.prog w8 = .ok (.string (strOfNums ks)) w8 := conv_ints _ 5 _ _ Try.underlying22 Try.underlying5 Try.underlying9 HI3.out
  obtain ⟨STR, hSTR⟩ : ∃ x, strOfNums ks = x := ⟨_, rfl⟩
  rw [hSTR] at hcv1 hcv2
  clear hSTR
  have htq := HTQ.out w8; have hfq := HFQ.out w8
  rcases hen with ⟨rfl, rfl⟩ | ⟨hs, rfl⟩
  · go_wp2_with (first | (refine wpList_load_g 26 _ rfl (by kernel_rfl) g2 1 rfl T _ HA2.out Try.underlying26 rfl (by rw [HTL.out]; rfl) ?_) | (refine wpList_load_g 26 _ rfl (by kernel_rfl) g1 1 rfl T _ HA1.out Try.underlying26 rfl (by rw [HTL.out]; rfl) ?_) | (refine wpList_load_g 26 _ rfl (by kernel_rfl) g2 9 rfl F _ HF2.out Try.underlying26 rfl (by rw [HFL.out]; rfl) ?_) | (refine wpList_load_g 26 _ rfl (by kernel_rfl) g1 9 rfl F _ HF1.out Try.underlying26 rfl (by rw [HFL.out]; rfl) ?_) | (refine wpList_load_g 26 _ rfl (by kernel_rfl) g3 0 rfl T _ (rngL HG3.out) Try.underlying26 rfl (by rw [HTL.out]; rfl) ?_) | fail)
    refine Calls.mono (HKN.out _) ?_
    rintro e w9 ⟨rfl, hb⟩
    have HB2 := Lib.hid (bl_next HB.out HB.out.size hb)
    clear hb
    go_wp2_with fail
    go_ret
    exact ⟨rfl, HB2.out⟩
  · go_wp2_with (first | (refine wpList_load_g 26 _ rfl (by kernel_rfl) g2 1 rfl T _ HA2.out Try.underlying26 rfl (by rw [HTL.out]; rfl) ?_) | (refine wpList_load_g 26 _ rfl (by kernel_rfl) g1 1 rfl T _ HA1.out Try.underlying26 rfl (by rw [HTL.out]; rfl) ?_) | (refine wpList_load_g 26 _ rfl (by kernel_rfl) g2 9 rfl F _ HF2.out Try.underlying26 rfl (by rw [HFL.out]; rfl) ?_) | (refine wpList_load_g 26 _ rfl (by kernel_rfl) g1 9 rfl F _ HF1.out Try.underlying26 rfl (by rw [HFL.out]; rfl) ?_) | (refine wpList_load_g 26 _ rfl (by kernel_rfl) g3 0 rfl T _ (rngL HG3.out) Try.underlying26 rfl (by rw [HTL.out]; rfl) ?_) | fail)
    refine Calls.mono (HKN.out _) ?_
    rintro e w10 ⟨rfl, hb⟩
    have HB2 := Lib.hid (bl_next HB.out HB.out.size hb)
    clear hb
    go_wp2_with fail
    go_ret
    exact ⟨rfl, HB2.out⟩
end Go.Proofs.Ytichnlbilnbhoaa
