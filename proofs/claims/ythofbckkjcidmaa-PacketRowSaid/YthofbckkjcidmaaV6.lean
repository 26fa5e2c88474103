/- texts of the proof, laid together: Pkt15, Pkt16, Lit, Pkt17, Full. -/
import Derived.Test.YthofbckkjcidmaaV5
import Derived.Test.YthofbckkjcidmaaOwn
import Derived.Test.YthofbckkjcidmaaGrow
namespace Go.Proofs.Ythofbckkjcidmaa
open Go.RowKit
set_option linter.unusedVariables false
set_option linter.unusedSimpArgs false

set_option maxRecDepth 100000 in
set_option maxHeartbeats 16000000 in
theorem opens_none (w : World) (ks km : Int) (a : Option Addr) (len cap : Nat) (b : List Int) (largest : Int) (has : Bool) (hp : parM b = none) (hlc : len ≤ cap) (hcap : cap ≤ 9223372036854775807) (hlen : len ≤ 1000000) (hl : 0 ≤ largest ∧ largest < 18446744073709551616) (hI : IntsK .u8 w a len b) :
    Makes Try.prog 19 #[.agg #[.int .u64 ks, .int .u64 km], .slice a len cap, .int .u64 largest, .bool has] w (.bool true) := by
  have HI := Lib.hid hI; have HW := Lib.hid hI.2.1
  have HU1 := Lib.hid (fun W hI => punprot_any W ks km a len cap b largest has hlc hcap hlen hl hI)
  have HU2 := Lib.hid (fun W hI => runprot_any W ks km a len cap b largest has hlc hcap hlen hl hI)
  have HV1 := Lib.hid (fun W hI => preveal_any W ks km a len cap b hlc hcap hlen hI)
  have HV2 := Lib.hid (fun W hI => rreveal_any W ks km a len cap b hlc hcap hlen hI)
  have HC1 := Lib.hid (fun W hI => pcutb_any W a len cap b hlen hI)
  have HC2 := Lib.hid (fun W hI => rparse_any W a len cap b hlc hcap (by omega) hI)
  have HPE := Lib.hid hp
  have HRN : Hid (revM km b = none) := Lib.hid (by unfold revM; rw [hp])
  clear hI hp
  go_enter Try.func19, Try.ntmps19
  go_upto_region 1 with fail
  change Code.wp _ _ _ _ (w.alloc (.cells ([.int .u64 ks, .int .u64 km] : List Value).toArray 49))
  have HB := Lib.hid (Below.refl w.heap.size w)
  obtain ⟨gk, hg0⟩ : ∃ g, w.heap.size = g := ⟨_, rfl⟩
  try rw [hg0]
  have hb := (Below.refl w.heap.size w).alloc (Nat.le_refl _) (.cells ([.int .u64 ks, .int .u64 km] : List Value).toArray 49)
  have hrw := heap_alloc_new w (.cells ([.int .u64 ks, .int .u64 km] : List Value).toArray 49)
  have hsz : (w.alloc (.cells ([.int .u64 ks, .int .u64 km] : List Value).toArray 49)).heap.size = gk + 1 := by simp [hg0]
  rw [hg0] at hrw
  replace HB := Lib.hid (bl_next HB.out HB.out.size hb)
  have HGK := Lib.hid hrw
  clear hb hrw
  generalize w.alloc (.cells ([.int .u64 ks, .int .u64 km] : List Value).toArray 49) = w1 at HB HGK hsz ⊢
  have hg1 := hsz
  clear hsz
  have HG0 := Lib.hid hg0
  clear hg0
  clear hg1
  have HKL : Hid (([.int .u64 ks, .int .u64 km] : List Value).length = 2) := Lib.hid rfl
  have HKO : Hid (∀ v ∈ ([.int .u64 ks, .int .u64 km] : List Value), v.oneCell' = true) := Lib.hid (by intro v hv; simp only [List.mem_cons, List.not_mem_nil, or_false] at hv; rcases hv with rfl | rfl <;> rfl)
  have c0 := cell_row HGK.out 0 _ rfl
  have c1 := cell_row HGK.out 1 _ rfl
  go_upto_region 2 with (first | (refine wpList_store_row rfl 27 _ _ rfl _ rfl [.int .u64 ks, .int .u64 km] (.int .u64 0 :: .int .u64 0 :: []) rfl 27 (heap_alloc_new _ _) (by rw [HKL.out]; rfl) (by rw [HKL.out]; rfl) HKO.out ?_; intro w2 hr hg) | fail)
  have hal := (Below.refl w1.heap.size w1).alloc (Nat.le_refl _) (.cells ((.int .u64 0 :: .int .u64 0 :: [])).toArray 27)
  have hb : Below w1.heap.size w1 w2 := hal.grown hg hal.size (by intro k hk; injection hk with hk; omega)
  replace HB := Lib.hid (bl_next HB.out HB.out.size hb)
  replace HGK := Lib.hid (bl_row hb (lt_of_block HGK.out) HGK.out)
  have HGL := Lib.hid (hr)
  clear hr hg hal hb
  obtain ⟨gl, hg⟩ : ∃ g, w1.heap.size = g := ⟨_, rfl⟩
  rw [hg] at HGL ⊢
  clear hg
  clear c0 c1
  go_wp2_with (first | (refine wpList_load_mid rfl 27 _ rfl gl 0 rfl [.int .u64 ks, .int .u64 km] _ (rngL HGL.out) Try.underlying27 rfl (by rw [HKL.out]; rfl) ?_) | fail)
  refine Calls.mono (HU1.out _ (HI.out.below HB.out)) ?_
  rintro e w3 ⟨hb, hd1, n1, pl1, er1, a1, t1, pa1, pc1, hu1, rfl, hi1, hk1, hpi1, hpc1, ht1, hf1⟩
  replace HB := Lib.hid (bl_next HB.out HB.out.size hb)
  replace HGK := Lib.hid (bl_row hb (lt_of_block HGK.out) HGK.out)
  replace HGL := Lib.hid (bl_row hb (lt_of_block HGL.out) HGL.out)
  clear hb
  have HIH1 := Lib.hid hi1; have HIP1 := Lib.hid hpi1
  clear hi1 hpi1
  have HRL1 := Lib.hid (row_len hd1 a1 t1 ht1 hf1)
  have HRO1 : Hid (∀ v ∈ hd1.row a1 t1, v.oneCell' = true) := Lib.hid (row_one hd1 a1 t1)
  have HVAL1 : Hid (hd1.val a1 t1 = .agg (hd1.row a1 t1).toArray) := Lib.hid rfl
  rw [HVAL1.out]
  obtain ⟨RW1, hRW1⟩ : ∃ R, hd1.row a1 t1 = R := ⟨_, rfl⟩
  rw [hRW1] at HRL1 HRO1 ⊢
  have HRE1 := Lib.hid hRW1
  clear hRW1 HVAL1
  go_upto_region 3 with (first | (refine wpList_store_row rfl 32 _ _ rfl _ rfl RW1 (.int .i64 0 :: .int .u8 0 :: .int .u8 0 :: .int .u8 0 :: .int .u8 0 :: .int .u8 0 :: .int .u8 0 :: .int .u8 0 :: .int .u8 0 :: .int .u8 0 :: .int .u8 0 :: .int .u8 0 :: .int .u8 0 :: .int .u8 0 :: .int .u8 0 :: .int .u8 0 :: .int .u8 0 :: .slice none 0 0 :: .int .i64 0 :: .bool false :: []) rfl 32 (heap_alloc_new _ _) (by rw [HRL1.out]; rfl) (by rw [HRL1.out]; rfl) HRO1.out ?_; intro w4 hr hg) | fail)
  have hal := (Below.refl w3.heap.size w3).alloc (Nat.le_refl _) (.cells ((.int .i64 0 :: .int .u8 0 :: .int .u8 0 :: .int .u8 0 :: .int .u8 0 :: .int .u8 0 :: .int .u8 0 :: .int .u8 0 :: .int .u8 0 :: .int .u8 0 :: .int .u8 0 :: .int .u8 0 :: .int .u8 0 :: .int .u8 0 :: .int .u8 0 :: .int .u8 0 :: .int .u8 0 :: .slice none 0 0 :: .int .i64 0 :: .bool false :: [])).toArray 32)
  have hb : Below w3.heap.size w3 w4 := hal.grown hg hal.size (by intro k hk; injection hk with hk; omega)
  replace HB := Lib.hid (bl_next HB.out HB.out.size hb)
  replace HGK := Lib.hid (bl_row hb (lt_of_block HGK.out) HGK.out)
  replace HGL := Lib.hid (bl_row hb (lt_of_block HGL.out) HGL.out)
  replace HIH1 := Lib.hid (HIH1.out.below hb)
  replace HIP1 := Lib.hid (HIP1.out.below hb)
  have HG1 := Lib.hid (hr)
  clear hr hg hal hb
  obtain ⟨g1, hg⟩ : ∃ g, w3.heap.size = g := ⟨_, rfl⟩
  rw [hg] at HG1 ⊢
  clear hg
  go_wp2_with (first | (refine wpList_load_mid rfl 49 _ rfl gk 0 rfl [.int .u64 ks, .int .u64 km] _ (rngL HGK.out) Try.underlying49 rfl (by rw [HKL.out]; rfl) ?_) | fail)
  refine Calls.mono (HU2.out _ (HI.out.below HB.out)) ?_
  rintro e w5 ⟨hb, hd2, n2, pl2, er2, a2, t2, pa2, pc2, hu2, rfl, hi2, hk2, hpi2, hpc2, ht2, hf2⟩
  replace HB := Lib.hid (bl_next HB.out HB.out.size hb)
  replace HGK := Lib.hid (bl_row hb (lt_of_block HGK.out) HGK.out)
  replace HGL := Lib.hid (bl_row hb (lt_of_block HGL.out) HGL.out)
  replace HIH1 := Lib.hid (HIH1.out.below hb)
  replace HIP1 := Lib.hid (HIP1.out.below hb)
  replace HG1 := Lib.hid (bl_row hb (lt_of_block HG1.out) HG1.out)
  clear hb
  have hue := hu1.symm.trans hu2
  injection hue with he1 hue
  injection hue with he2 hue
  injection hue with he3 he4
  subst he1; subst he2; subst he3; subst he4
  have HUW := Lib.hid (unpM_wf HW.out hu1)
  clear hu1 hu2
  have HIH2 := Lib.hid hi2; have HIP2 := Lib.hid hpi2
  clear hi2 hpi2
  have HRL2 := Lib.hid (row_len hd1 a2 t2 ht1 hf1)
  have HRO2 : Hid (∀ v ∈ hd1.row a2 t2, v.oneCell' = true) := Lib.hid (row_one hd1 a2 t2)
  have HVAL2 : Hid (hd1.val a2 t2 = .agg (hd1.row a2 t2).toArray) := Lib.hid rfl
  rw [HVAL2.out]
  obtain ⟨RW2, hRW2⟩ : ∃ R, hd1.row a2 t2 = R := ⟨_, rfl⟩
  rw [hRW2] at HRL2 HRO2 ⊢
  have HRE2 := Lib.hid hRW2
  clear hRW2 HVAL2
  go_upto_region 4 with (first | (refine wpList_store_row rfl 32 _ _ rfl _ rfl RW2 (.int .i64 0 :: .int .u8 0 :: .int .u8 0 :: .int .u8 0 :: .int .u8 0 :: .int .u8 0 :: .int .u8 0 :: .int .u8 0 :: .int .u8 0 :: .int .u8 0 :: .int .u8 0 :: .int .u8 0 :: .int .u8 0 :: .int .u8 0 :: .int .u8 0 :: .int .u8 0 :: .int .u8 0 :: .slice none 0 0 :: .int .i64 0 :: .bool false :: []) rfl 32 (heap_alloc_new _ _) (by rw [HRL2.out]; rfl) (by rw [HRL2.out]; rfl) HRO2.out ?_; intro w6 hr hg) | fail)
  have hal := (Below.refl w5.heap.size w5).alloc (Nat.le_refl _) (.cells ((.int .i64 0 :: .int .u8 0 :: .int .u8 0 :: .int .u8 0 :: .int .u8 0 :: .int .u8 0 :: .int .u8 0 :: .int .u8 0 :: .int .u8 0 :: .int .u8 0 :: .int .u8 0 :: .int .u8 0 :: .int .u8 0 :: .int .u8 0 :: .int .u8 0 :: .int .u8 0 :: .int .u8 0 :: .slice none 0 0 :: .int .i64 0 :: .bool false :: [])).toArray 32)
  have hb : Below w5.heap.size w5 w6 := hal.grown hg hal.size (by intro k hk; injection hk with hk; omega)
  replace HB := Lib.hid (bl_next HB.out HB.out.size hb)
  replace HGK := Lib.hid (bl_row hb (lt_of_block HGK.out) HGK.out)
  replace HGL := Lib.hid (bl_row hb (lt_of_block HGL.out) HGL.out)
  replace HIH1 := Lib.hid (HIH1.out.below hb)
  replace HIP1 := Lib.hid (HIP1.out.below hb)
  replace HG1 := Lib.hid (bl_row hb (lt_of_block HG1.out) HG1.out)
  replace HIH2 := Lib.hid (HIH2.out.below hb)
  replace HIP2 := Lib.hid (HIP2.out.below hb)
  have HG2 := Lib.hid (hr)
  clear hr hg hal hb
  obtain ⟨g2, hg⟩ : ∃ g, w5.heap.size = g := ⟨_, rfl⟩
  rw [hg] at HG2 ⊢
  clear hg
  go_wp2_with (first | (refine wpList_load_mid rfl 27 _ rfl gl 0 rfl [.int .u64 ks, .int .u64 km] _ (rngL HGL.out) Try.underlying27 rfl (by rw [HKL.out]; rfl) ?_) | fail)
  refine Calls.mono (HV1.out _ (HI.out.below HB.out)) ?_
  rintro e w7 ⟨hb, hcase⟩
  replace HB := Lib.hid (bl_next HB.out HB.out.size hb)
  replace HGK := Lib.hid (bl_row hb (lt_of_block HGK.out) HGK.out)
  replace HGL := Lib.hid (bl_row hb (lt_of_block HGL.out) HGL.out)
  replace HIH1 := Lib.hid (HIH1.out.below hb)
  replace HIP1 := Lib.hid (HIP1.out.below hb)
  replace HG1 := Lib.hid (bl_row hb (lt_of_block HG1.out) HG1.out)
  replace HIH2 := Lib.hid (HIH2.out.below hb)
  replace HIP2 := Lib.hid (HIP2.out.below hb)
  replace HG2 := Lib.hid (bl_row hb (lt_of_block HG2.out) HG2.out)
  clear hb
  rcases hcase with ⟨_, rfl⟩ | ⟨r, _, _, hr, _⟩
  rotate_left
  · rw [HRN.out] at hr; cases hr
  have HRL3 : Hid (rowZ.length = 20) := Lib.hid rfl
  have HRO3 : Hid (∀ v ∈ rowZ, v.oneCell' = true) := Lib.hid rowZ_one
  obtain ⟨RW3, hRW3⟩ : ∃ R, rowZ = R := ⟨_, rfl⟩
  rw [hRW3] at HRL3 HRO3 ⊢
  have HRE3 := Lib.hid hRW3
  clear hRW3
  go_upto_region 5 with (first | (refine wpList_store_row rfl 32 _ _ rfl _ rfl RW3 (.int .i64 0 :: .int .u8 0 :: .int .u8 0 :: .int .u8 0 :: .int .u8 0 :: .int .u8 0 :: .int .u8 0 :: .int .u8 0 :: .int .u8 0 :: .int .u8 0 :: .int .u8 0 :: .int .u8 0 :: .int .u8 0 :: .int .u8 0 :: .int .u8 0 :: .int .u8 0 :: .int .u8 0 :: .slice none 0 0 :: .int .i64 0 :: .bool false :: []) rfl 32 (heap_alloc_new _ _) (by rw [HRL3.out]; rfl) (by rw [HRL3.out]; rfl) HRO3.out ?_; intro w8 hr hg) | fail)
  have hal := (Below.refl w7.heap.size w7).alloc (Nat.le_refl _) (.cells ((.int .i64 0 :: .int .u8 0 :: .int .u8 0 :: .int .u8 0 :: .int .u8 0 :: .int .u8 0 :: .int .u8 0 :: .int .u8 0 :: .int .u8 0 :: .int .u8 0 :: .int .u8 0 :: .int .u8 0 :: .int .u8 0 :: .int .u8 0 :: .int .u8 0 :: .int .u8 0 :: .int .u8 0 :: .slice none 0 0 :: .int .i64 0 :: .bool false :: [])).toArray 32)
  have hb : Below w7.heap.size w7 w8 := hal.grown hg hal.size (by intro k hk; injection hk with hk; omega)
  replace HB := Lib.hid (bl_next HB.out HB.out.size hb)
  replace HGK := Lib.hid (bl_row hb (lt_of_block HGK.out) HGK.out)
  replace HGL := Lib.hid (bl_row hb (lt_of_block HGL.out) HGL.out)
  replace HIH1 := Lib.hid (HIH1.out.below hb)
  replace HIP1 := Lib.hid (HIP1.out.below hb)
  replace HG1 := Lib.hid (bl_row hb (lt_of_block HG1.out) HG1.out)
  replace HIH2 := Lib.hid (HIH2.out.below hb)
  replace HIP2 := Lib.hid (HIP2.out.below hb)
  replace HG2 := Lib.hid (bl_row hb (lt_of_block HG2.out) HG2.out)
  have HG3 := Lib.hid (hr)
  clear hr hg hal hb
  obtain ⟨g3, hg⟩ : ∃ g, w7.heap.size = g := ⟨_, rfl⟩
  rw [hg] at HG3 ⊢
  clear hg
  go_wp2_with (first | (refine wpList_load_mid rfl 49 _ rfl gk 0 rfl [.int .u64 ks, .int .u64 km] _ (rngL HGK.out) Try.underlying49 rfl (by rw [HKL.out]; rfl) ?_) | fail)
  refine Calls.mono (HV2.out _ (HI.out.below HB.out)) ?_
  rintro e w9 ⟨hb, hcase⟩
  replace HB := Lib.hid (bl_next HB.out HB.out.size hb)
  replace HGK := Lib.hid (bl_row hb (lt_of_block HGK.out) HGK.out)
  replace HGL := Lib.hid (bl_row hb (lt_of_block HGL.out) HGL.out)
  replace HIH1 := Lib.hid (HIH1.out.below hb)
  replace HIP1 := Lib.hid (HIP1.out.below hb)
  replace HG1 := Lib.hid (bl_row hb (lt_of_block HG1.out) HG1.out)
  replace HIH2 := Lib.hid (HIH2.out.below hb)
  replace HIP2 := Lib.hid (HIP2.out.below hb)
  replace HG2 := Lib.hid (bl_row hb (lt_of_block HG2.out) HG2.out)
  replace HG3 := Lib.hid (bl_row hb (lt_of_block HG3.out) HG3.out)
  clear hb
  rcases hcase with ⟨_, rfl⟩ | ⟨r, _, _, _, _, hr, _⟩
  rotate_left
  · rw [HRN.out] at hr; cases hr
  have HRL4 : Hid (rowZ.length = 20) := Lib.hid rfl
  have HRO4 : Hid (∀ v ∈ rowZ, v.oneCell' = true) := Lib.hid rowZ_one
  obtain ⟨RW4, hRW4⟩ : ∃ R, rowZ = R := ⟨_, rfl⟩
  rw [hRW4] at HRL4 HRO4 ⊢
  have HRE4 := Lib.hid hRW4
  clear hRW4
  go_upto_region 6 with (first | (refine wpList_store_row rfl 32 _ _ rfl _ rfl RW4 (.int .i64 0 :: .int .u8 0 :: .int .u8 0 :: .int .u8 0 :: .int .u8 0 :: .int .u8 0 :: .int .u8 0 :: .int .u8 0 :: .int .u8 0 :: .int .u8 0 :: .int .u8 0 :: .int .u8 0 :: .int .u8 0 :: .int .u8 0 :: .int .u8 0 :: .int .u8 0 :: .int .u8 0 :: .slice none 0 0 :: .int .i64 0 :: .bool false :: []) rfl 32 (heap_alloc_new _ _) (by rw [HRL4.out]; rfl) (by rw [HRL4.out]; rfl) HRO4.out ?_; intro w10 hr hg) | fail)
  have hal := (Below.refl w9.heap.size w9).alloc (Nat.le_refl _) (.cells ((.int .i64 0 :: .int .u8 0 :: .int .u8 0 :: .int .u8 0 :: .int .u8 0 :: .int .u8 0 :: .int .u8 0 :: .int .u8 0 :: .int .u8 0 :: .int .u8 0 :: .int .u8 0 :: .int .u8 0 :: .int .u8 0 :: .int .u8 0 :: .int .u8 0 :: .int .u8 0 :: .int .u8 0 :: .slice none 0 0 :: .int .i64 0 :: .bool false :: [])).toArray 32)
  have hb : Below w9.heap.size w9 w10 := hal.grown hg hal.size (by intro k hk; injection hk with hk; omega)
  replace HB := Lib.hid (bl_next HB.out HB.out.size hb)
  replace HGK := Lib.hid (bl_row hb (lt_of_block HGK.out) HGK.out)
  replace HGL := Lib.hid (bl_row hb (lt_of_block HGL.out) HGL.out)
  replace HIH1 := Lib.hid (HIH1.out.below hb)
  replace HIP1 := Lib.hid (HIP1.out.below hb)
  replace HG1 := Lib.hid (bl_row hb (lt_of_block HG1.out) HG1.out)
  replace HIH2 := Lib.hid (HIH2.out.below hb)
  replace HIP2 := Lib.hid (HIP2.out.below hb)
  replace HG2 := Lib.hid (bl_row hb (lt_of_block HG2.out) HG2.out)
  replace HG3 := Lib.hid (bl_row hb (lt_of_block HG3.out) HG3.out)
  have HG4 := Lib.hid (hr)
  clear hr hg hal hb
  obtain ⟨g4, hg⟩ : ∃ g, w9.heap.size = g := ⟨_, rfl⟩
  rw [hg] at HG4 ⊢
  clear hg
  go_wp2_with fail
  refine Calls.mono (HC1.out _ (HI.out.below HB.out)) ?_
  rintro e w11 ⟨rfl, hb⟩
  replace HB := Lib.hid (bl_next HB.out HB.out.size hb)
  replace HGK := Lib.hid (bl_row hb (lt_of_block HGK.out) HGK.out)
  replace HGL := Lib.hid (bl_row hb (lt_of_block HGL.out) HGL.out)
  replace HIH1 := Lib.hid (HIH1.out.below hb)
  replace HIP1 := Lib.hid (HIP1.out.below hb)
  replace HG1 := Lib.hid (bl_row hb (lt_of_block HG1.out) HG1.out)
  replace HIH2 := Lib.hid (HIH2.out.below hb)
  replace HIP2 := Lib.hid (HIP2.out.below hb)
  replace HG2 := Lib.hid (bl_row hb (lt_of_block HG2.out) HG2.out)
  replace HG3 := Lib.hid (bl_row hb (lt_of_block HG3.out) HG3.out)
  replace HG4 := Lib.hid (bl_row hb (lt_of_block HG4.out) HG4.out)
  clear hb
  rw [HPE.out]
  go_wp2_with fail
  refine Calls.mono (HC2.out _ (HI.out.below HB.out)) ?_
  rintro e w12 ⟨hb, hcase⟩
  replace HB := Lib.hid (bl_next HB.out HB.out.size hb)
  replace HGK := Lib.hid (bl_row hb (lt_of_block HGK.out) HGK.out)
  replace HGL := Lib.hid (bl_row hb (lt_of_block HGL.out) HGL.out)
  replace HIH1 := Lib.hid (HIH1.out.below hb)
  replace HIP1 := Lib.hid (HIP1.out.below hb)
  replace HG1 := Lib.hid (bl_row hb (lt_of_block HG1.out) HG1.out)
  replace HIH2 := Lib.hid (HIH2.out.below hb)
  replace HIP2 := Lib.hid (HIP2.out.below hb)
  replace HG2 := Lib.hid (bl_row hb (lt_of_block HG2.out) HG2.out)
  replace HG3 := Lib.hid (bl_row hb (lt_of_block HG3.out) HG3.out)
  replace HG4 := Lib.hid (bl_row hb (lt_of_block HG4.out) HG4.out)
  clear hb
  rcases hcase with ⟨_, rfl⟩ | ⟨h, _, _, _, _, hr, _⟩
  rotate_left
  · rw [HPE.out] at hr; cases hr
  have HRL5 : Hid (rowZ.length = 20) := Lib.hid rfl
  have HRO5 : Hid (∀ v ∈ rowZ, v.oneCell' = true) := Lib.hid rowZ_one
  obtain ⟨RW5, hRW5⟩ : ∃ R, rowZ = R := ⟨_, rfl⟩
  rw [hRW5] at HRL5 HRO5 ⊢
  clear hRW5
  go_upto_region 8 with (first | (refine wpList_store_row rfl 32 _ _ rfl _ rfl RW5 (.int .i64 0 :: .int .u8 0 :: .int .u8 0 :: .int .u8 0 :: .int .u8 0 :: .int .u8 0 :: .int .u8 0 :: .int .u8 0 :: .int .u8 0 :: .int .u8 0 :: .int .u8 0 :: .int .u8 0 :: .int .u8 0 :: .int .u8 0 :: .int .u8 0 :: .int .u8 0 :: .int .u8 0 :: .slice none 0 0 :: .int .i64 0 :: .bool false :: []) rfl 32 (heap_alloc_new _ _) (by rw [HRL5.out]; rfl) (by rw [HRL5.out]; rfl) HRO5.out ?_; intro w13 hr hg) | fail)
  have hal := (Below.refl w12.heap.size w12).alloc (Nat.le_refl _) (.cells ((.int .i64 0 :: .int .u8 0 :: .int .u8 0 :: .int .u8 0 :: .int .u8 0 :: .int .u8 0 :: .int .u8 0 :: .int .u8 0 :: .int .u8 0 :: .int .u8 0 :: .int .u8 0 :: .int .u8 0 :: .int .u8 0 :: .int .u8 0 :: .int .u8 0 :: .int .u8 0 :: .int .u8 0 :: .slice none 0 0 :: .int .i64 0 :: .bool false :: [])).toArray 32)
  have hb : Below w12.heap.size w12 w13 := hal.grown hg hal.size (by intro k hk; injection hk with hk; omega)
  replace HB := Lib.hid (bl_next HB.out HB.out.size hb)
  replace HGK := Lib.hid (bl_row hb (lt_of_block HGK.out) HGK.out)
  replace HGL := Lib.hid (bl_row hb (lt_of_block HGL.out) HGL.out)
  replace HIH1 := Lib.hid (HIH1.out.below hb)
  replace HIP1 := Lib.hid (HIP1.out.below hb)
  replace HG1 := Lib.hid (bl_row hb (lt_of_block HG1.out) HG1.out)
  replace HIH2 := Lib.hid (HIH2.out.below hb)
  replace HIP2 := Lib.hid (HIP2.out.below hb)
  replace HG2 := Lib.hid (bl_row hb (lt_of_block HG2.out) HG2.out)
  replace HG3 := Lib.hid (bl_row hb (lt_of_block HG3.out) HG3.out)
  replace HG4 := Lib.hid (bl_row hb (lt_of_block HG4.out) HG4.out)
  have HG5 := Lib.hid (hr)
  clear hr hg hal hb
  obtain ⟨g5, hg⟩ : ∃ g, w12.heap.size = g := ⟨_, rfl⟩
  rw [hg] at HG5 ⊢
  clear hg
  have HS1 := Lib.hid (fun W h1 h2 => same_any W hd1 a1 a2 t1 t2 ht1 hf1 h1 h2 HUW.out.1 HUW.out.2)
  rw [HRE1.out, HRE2.out] at HS1
  have HZR : Hid (zH.row none 0 = rowZ) := Lib.hid rfl
  have HS2 : Hid (∀ W, Makes Try.prog 13 #[.agg RW3.toArray, .agg RW4.toArray] W (.bool true)) := Lib.hid (fun W => by have h := same_any W zH none none 0 0 rfl rfl (IntsK.nil _ _ _) (IntsK.nil _ _ _) (by decide) (by decide); rw [HZR.out] at h; rw [← HRE3.out, ← HRE4.out]; exact h)
  refine opens_r8 _ (Or.inr ⟨rfl, rfl⟩) HG1 HRL1 HG2 HRL2 HG3 HRL3 HG4 HRL4 HIP1 HIP2 (Lib.hid (fun W' h => HS1.out W' (HIH1.out.below h) (HIH2.out.below h))) (Lib.hid (fun W' h => HS2.out W')) (fun c a d v w h => by first | (cases d <;> exact h) | exact HKP.out c a d v w h) ?_
  rintro _ _ _ _ _ _ _ _ _ _ _ _ _ _ _ _ _ _ _ _ _ _ _ _ _ _ _ _ _ _ _ _ _ _ _ _ _ _ _ _ _ _ _ _ _ _ _ _ _ _ _ _ _ wz hb
  go_wp2_with fail
  go_ret
  exact ⟨rfl, bl_next HB.out HB.out.size hb⟩
end Go.Proofs.Ythofbckkjcidmaa
namespace Go.Proofs.Ythofbckkjcidmaa
open Go.RowKit
set_option linter.unusedVariables false
set_option linter.unusedSimpArgs false

set_option maxRecDepth 100000 in
set_option maxHeartbeats 16000000 in
theorem opens_some (w : World) (ks km : Int) (a : Option Addr) (len cap : Nat) (b : List Int) (largest : Int) (has : Bool) {h : Hd} {at' en : Nat} (hp : parM b = some (h, at', en)) (hlc : len ≤ cap) (hcap : cap ≤ 9223372036854775807) (hlen : len ≤ 1000000) (hl : 0 ≤ largest ∧ largest < 18446744073709551616) (hI : IntsK .u8 w a len b) :
    Makes Try.prog 19 #[.agg #[.int .u64 ks, .int .u64 km], .slice a len cap, .int .u64 largest, .bool has] w (.bool true) := by
  have HI := Lib.hid hI; have HW := Lib.hid hI.2.1
  have HU1 := Lib.hid (fun W hI => punprot_any W ks km a len cap b largest has hlc hcap hlen hl hI)
  have HU2 := Lib.hid (fun W hI => runprot_any W ks km a len cap b largest has hlc hcap hlen hl hI)
  have HV1 := Lib.hid (fun W hI => preveal_any W ks km a len cap b hlc hcap hlen hI)
  have HV2 := Lib.hid (fun W hI => rreveal_any W ks km a len cap b hlc hcap hlen hI)
  have HC1 := Lib.hid (fun W hI => pcutb_any W a len cap b hlen hI)
  have HC2 := Lib.hid (fun W hI => rparse_any W a len cap b hlc hcap (by omega) hI)
  have HPE := Lib.hid hp
  obtain ⟨r, hr⟩ : ∃ r, revM km b = some r := by unfold revM; rw [hp]; exact ⟨_, rfl⟩
  have HRS := Lib.hid hr
  have HRW := Lib.hid (revM_wf hI.2.1 hr)
  clear hr
  clear hI hp
  go_enter Try.func19, Try.ntmps19
  go_upto_region 1 with fail
  change Code.wp _ _ _ _ (w.alloc (.cells ([.int .u64 ks, .int .u64 km] : List Value).toArray 49))
  have HB := Lib.hid (Below.refl w.heap.size w)
  obtain ⟨gk, hg0⟩ : ∃ g, w.heap.size = g := ⟨_, rfl⟩
  try rw [hg0]
  have hb := (Below.refl w.heap.size w).alloc (Nat.le_refl _) (.cells ([.int .u64 ks, .int .u64 km] : List Value).toArray 49)
  have hrw := heap_alloc_new w (.cells ([.int .u64 ks, .int .u64 km] : List Value).toArray 49)
  have hsz : (w.alloc (.cells ([.int .u64 ks, .int .u64 km] : List Value).toArray 49)).heap.size = gk + 1 := by simp [hg0]
  rw [hg0] at hrw
  replace HB := Lib.hid (bl_next HB.out HB.out.size hb)
  have HGK := Lib.hid hrw
  clear hb hrw
  generalize w.alloc (.cells ([.int .u64 ks, .int .u64 km] : List Value).toArray 49) = w1 at HB HGK hsz ⊢
  have hg1 := hsz
  clear hsz
  have HG0 := Lib.hid hg0
  clear hg0
  clear hg1
  have HKL : Hid (([.int .u64 ks, .int .u64 km] : List Value).length = 2) := Lib.hid rfl
  have HKO : Hid (∀ v ∈ ([.int .u64 ks, .int .u64 km] : List Value), v.oneCell' = true) := Lib.hid (by intro v hv; simp only [List.mem_cons, List.not_mem_nil, or_false] at hv; rcases hv with rfl | rfl <;> rfl)
  have c0 := cell_row HGK.out 0 _ rfl
  have c1 := cell_row HGK.out 1 _ rfl
  go_upto_region 2 with (first | (refine wpList_store_row rfl 27 _ _ rfl _ rfl [.int .u64 ks, .int .u64 km] (.int .u64 0 :: .int .u64 0 :: []) rfl 27 (heap_alloc_new _ _) (by rw [HKL.out]; rfl) (by rw [HKL.out]; rfl) HKO.out ?_; intro w2 hr hg) | fail)
  have hal := (Below.refl w1.heap.size w1).alloc (Nat.le_refl _) (.cells ((.int .u64 0 :: .int .u64 0 :: [])).toArray 27)
  have hb : Below w1.heap.size w1 w2 := hal.grown hg hal.size (by intro k hk; injection hk with hk; omega)
  replace HB := Lib.hid (bl_next HB.out HB.out.size hb)
  replace HGK := Lib.hid (bl_row hb (lt_of_block HGK.out) HGK.out)
  have HGL := Lib.hid (hr)
  clear hr hg hal hb
  obtain ⟨gl, hg⟩ : ∃ g, w1.heap.size = g := ⟨_, rfl⟩
  rw [hg] at HGL ⊢
  clear hg
  clear c0 c1
  go_wp2_with (first | (refine wpList_load_mid rfl 27 _ rfl gl 0 rfl [.int .u64 ks, .int .u64 km] _ (rngL HGL.out) Try.underlying27 rfl (by rw [HKL.out]; rfl) ?_) | fail)
  refine Calls.mono (HU1.out _ (HI.out.below HB.out)) ?_
  rintro e w3 ⟨hb, hd1, n1, pl1, er1, a1, t1, pa1, pc1, hu1, rfl, hi1, hk1, hpi1, hpc1, ht1, hf1⟩
  replace HB := Lib.hid (bl_next HB.out HB.out.size hb)
  replace HGK := Lib.hid (bl_row hb (lt_of_block HGK.out) HGK.out)
  replace HGL := Lib.hid (bl_row hb (lt_of_block HGL.out) HGL.out)
  clear hb
  have HIH1 := Lib.hid hi1; have HIP1 := Lib.hid hpi1
  clear hi1 hpi1
  have HRL1 := Lib.hid (row_len hd1 a1 t1 ht1 hf1)
  have HRO1 : Hid (∀ v ∈ hd1.row a1 t1, v.oneCell' = true) := Lib.hid (row_one hd1 a1 t1)
  have HVAL1 : Hid (hd1.val a1 t1 = .agg (hd1.row a1 t1).toArray) := Lib.hid rfl
  rw [HVAL1.out]
  obtain ⟨RW1, hRW1⟩ : ∃ R, hd1.row a1 t1 = R := ⟨_, rfl⟩
  rw [hRW1] at HRL1 HRO1 ⊢
  have HRE1 := Lib.hid hRW1
  clear hRW1 HVAL1
  go_upto_region 3 with (first | (refine wpList_store_row rfl 32 _ _ rfl _ rfl RW1 (.int .i64 0 :: .int .u8 0 :: .int .u8 0 :: .int .u8 0 :: .int .u8 0 :: .int .u8 0 :: .int .u8 0 :: .int .u8 0 :: .int .u8 0 :: .int .u8 0 :: .int .u8 0 :: .int .u8 0 :: .int .u8 0 :: .int .u8 0 :: .int .u8 0 :: .int .u8 0 :: .int .u8 0 :: .slice none 0 0 :: .int .i64 0 :: .bool false :: []) rfl 32 (heap_alloc_new _ _) (by rw [HRL1.out]; rfl) (by rw [HRL1.out]; rfl) HRO1.out ?_; intro w4 hr hg) | fail)
  have hal := (Below.refl w3.heap.size w3).alloc (Nat.le_refl _) (.cells ((.int .i64 0 :: .int .u8 0 :: .int .u8 0 :: .int .u8 0 :: .int .u8 0 :: .int .u8 0 :: .int .u8 0 :: .int .u8 0 :: .int .u8 0 :: .int .u8 0 :: .int .u8 0 :: .int .u8 0 :: .int .u8 0 :: .int .u8 0 :: .int .u8 0 :: .int .u8 0 :: .int .u8 0 :: .slice none 0 0 :: .int .i64 0 :: .bool false :: [])).toArray 32)
  have hb : Below w3.heap.size w3 w4 := hal.grown hg hal.size (by intro k hk; injection hk with hk; omega)
  replace HB := Lib.hid (bl_next HB.out HB.out.size hb)
  replace HGK := Lib.hid (bl_row hb (lt_of_block HGK.out) HGK.out)
  replace HGL := Lib.hid (bl_row hb (lt_of_block HGL.out) HGL.out)
  replace HIH1 := Lib.hid (HIH1.out.below hb)
  replace HIP1 := Lib.hid (HIP1.out.below hb)
  have HG1 := Lib.hid (hr)
  clear hr hg hal hb
  obtain ⟨g1, hg⟩ : ∃ g, w3.heap.size = g := ⟨_, rfl⟩
  rw [hg] at HG1 ⊢
  clear hg
  go_wp2_with (first | (refine wpList_load_mid rfl 49 _ rfl gk 0 rfl [.int .u64 ks, .int .u64 km] _ (rngL HGK.out) Try.underlying49 rfl (by rw [HKL.out]; rfl) ?_) | fail)
  refine Calls.mono (HU2.out _ (HI.out.below HB.out)) ?_
  rintro e w5 ⟨hb, hd2, n2, pl2, er2, a2, t2, pa2, pc2, hu2, rfl, hi2, hk2, hpi2, hpc2, ht2, hf2⟩
  replace HB := Lib.hid (bl_next HB.out HB.out.size hb)
  replace HGK := Lib.hid (bl_row hb (lt_of_block HGK.out) HGK.out)
  replace HGL := Lib.hid (bl_row hb (lt_of_block HGL.out) HGL.out)
  replace HIH1 := Lib.hid (HIH1.out.below hb)
  replace HIP1 := Lib.hid (HIP1.out.below hb)
  replace HG1 := Lib.hid (bl_row hb (lt_of_block HG1.out) HG1.out)
  clear hb
  have hue := hu1.symm.trans hu2
  injection hue with he1 hue
  injection hue with he2 hue
  injection hue with he3 he4
  subst he1; subst he2; subst he3; subst he4
  have HUW := Lib.hid (unpM_wf HW.out hu1)
  clear hu1 hu2
  have HIH2 := Lib.hid hi2; have HIP2 := Lib.hid hpi2
  clear hi2 hpi2
  have HRL2 := Lib.hid (row_len hd1 a2 t2 ht1 hf1)
  have HRO2 : Hid (∀ v ∈ hd1.row a2 t2, v.oneCell' = true) := Lib.hid (row_one hd1 a2 t2)
  have HVAL2 : Hid (hd1.val a2 t2 = .agg (hd1.row a2 t2).toArray) := Lib.hid rfl
  rw [HVAL2.out]
  obtain ⟨RW2, hRW2⟩ : ∃ R, hd1.row a2 t2 = R := ⟨_, rfl⟩
  rw [hRW2] at HRL2 HRO2 ⊢
  have HRE2 := Lib.hid hRW2
  clear hRW2 HVAL2
  go_upto_region 4 with (first | (refine wpList_store_row rfl 32 _ _ rfl _ rfl RW2 (.int .i64 0 :: .int .u8 0 :: .int .u8 0 :: .int .u8 0 :: .int .u8 0 :: .int .u8 0 :: .int .u8 0 :: .int .u8 0 :: .int .u8 0 :: .int .u8 0 :: .int .u8 0 :: .int .u8 0 :: .int .u8 0 :: .int .u8 0 :: .int .u8 0 :: .int .u8 0 :: .int .u8 0 :: .slice none 0 0 :: .int .i64 0 :: .bool false :: []) rfl 32 (heap_alloc_new _ _) (by rw [HRL2.out]; rfl) (by rw [HRL2.out]; rfl) HRO2.out ?_; intro w6 hr hg) | fail)
  have hal := (Below.refl w5.heap.size w5).alloc (Nat.le_refl _) (.cells ((.int .i64 0 :: .int .u8 0 :: .int .u8 0 :: .int .u8 0 :: .int .u8 0 :: .int .u8 0 :: .int .u8 0 :: .int .u8 0 :: .int .u8 0 :: .int .u8 0 :: .int .u8 0 :: .int .u8 0 :: .int .u8 0 :: .int .u8 0 :: .int .u8 0 :: .int .u8 0 :: .int .u8 0 :: .slice none 0 0 :: .int .i64 0 :: .bool false :: [])).toArray 32)
  have hb : Below w5.heap.size w5 w6 := hal.grown hg hal.size (by intro k hk; injection hk with hk; omega)
  replace HB := Lib.hid (bl_next HB.out HB.out.size hb)
  replace HGK := Lib.hid (bl_row hb (lt_of_block HGK.out) HGK.out)
  replace HGL := Lib.hid (bl_row hb (lt_of_block HGL.out) HGL.out)
  replace HIH1 := Lib.hid (HIH1.out.below hb)
  replace HIP1 := Lib.hid (HIP1.out.below hb)
  replace HG1 := Lib.hid (bl_row hb (lt_of_block HG1.out) HG1.out)
  replace HIH2 := Lib.hid (HIH2.out.below hb)
  replace HIP2 := Lib.hid (HIP2.out.below hb)
  have HG2 := Lib.hid (hr)
  clear hr hg hal hb
  obtain ⟨g2, hg⟩ : ∃ g, w5.heap.size = g := ⟨_, rfl⟩
  rw [hg] at HG2 ⊢
  clear hg
  go_wp2_with (first | (refine wpList_load_mid rfl 27 _ rfl gl 0 rfl [.int .u64 ks, .int .u64 km] _ (rngL HGL.out) Try.underlying27 rfl (by rw [HKL.out]; rfl) ?_) | fail)
  refine Calls.mono (HV1.out _ (HI.out.below HB.out)) ?_
  rintro e w7 ⟨hb, hcase⟩
  replace HB := Lib.hid (bl_next HB.out HB.out.size hb)
  replace HGK := Lib.hid (bl_row hb (lt_of_block HGK.out) HGK.out)
  replace HGL := Lib.hid (bl_row hb (lt_of_block HGL.out) HGL.out)
  replace HIH1 := Lib.hid (HIH1.out.below hb)
  replace HIP1 := Lib.hid (HIP1.out.below hb)
  replace HG1 := Lib.hid (bl_row hb (lt_of_block HG1.out) HG1.out)
  replace HIH2 := Lib.hid (HIH2.out.below hb)
  replace HIP2 := Lib.hid (HIP2.out.below hb)
  replace HG2 := Lib.hid (bl_row hb (lt_of_block HG2.out) HG2.out)
  clear hb
  rcases hcase with ⟨hr, _⟩ | ⟨r3, a3, t3, hr, rfl, hi3, _, _, _, ht3, hf3, _⟩
  · rw [HRS.out] at hr; cases hr
  obtain rfl : r = r3 := by have := HRS.out.symm.trans hr; injection this
  clear hr
  have HIH3 := Lib.hid hi3
  have HRL3 := Lib.hid (row_len r.h a3 t3 ht3 hf3)
  have HRO3 : Hid (∀ v ∈ r.h.row a3 t3, v.oneCell' = true) := Lib.hid (row_one r.h a3 t3)
  have HVAL3 : Hid (r.h.val a3 t3 = .agg (r.h.row a3 t3).toArray) := Lib.hid rfl
  rw [HVAL3.out]
  obtain ⟨RW3, hRW3⟩ : ∃ R, r.h.row a3 t3 = R := ⟨_, rfl⟩
  rw [hRW3] at HRL3 HRO3 ⊢
  have HRE3 := Lib.hid hRW3
  clear hRW3 HVAL3 hi3
  go_upto_region 5 with (first | (refine wpList_store_row rfl 32 _ _ rfl _ rfl RW3 (.int .i64 0 :: .int .u8 0 :: .int .u8 0 :: .int .u8 0 :: .int .u8 0 :: .int .u8 0 :: .int .u8 0 :: .int .u8 0 :: .int .u8 0 :: .int .u8 0 :: .int .u8 0 :: .int .u8 0 :: .int .u8 0 :: .int .u8 0 :: .int .u8 0 :: .int .u8 0 :: .int .u8 0 :: .slice none 0 0 :: .int .i64 0 :: .bool false :: []) rfl 32 (heap_alloc_new _ _) (by rw [HRL3.out]; rfl) (by rw [HRL3.out]; rfl) HRO3.out ?_; intro w8 hr hg) | fail)
  have hal := (Below.refl w7.heap.size w7).alloc (Nat.le_refl _) (.cells ((.int .i64 0 :: .int .u8 0 :: .int .u8 0 :: .int .u8 0 :: .int .u8 0 :: .int .u8 0 :: .int .u8 0 :: .int .u8 0 :: .int .u8 0 :: .int .u8 0 :: .int .u8 0 :: .int .u8 0 :: .int .u8 0 :: .int .u8 0 :: .int .u8 0 :: .int .u8 0 :: .int .u8 0 :: .slice none 0 0 :: .int .i64 0 :: .bool false :: [])).toArray 32)
  have hb : Below w7.heap.size w7 w8 := hal.grown hg hal.size (by intro k hk; injection hk with hk; omega)
  replace HB := Lib.hid (bl_next HB.out HB.out.size hb)
  replace HGK := Lib.hid (bl_row hb (lt_of_block HGK.out) HGK.out)
  replace HGL := Lib.hid (bl_row hb (lt_of_block HGL.out) HGL.out)
  replace HIH1 := Lib.hid (HIH1.out.below hb)
  replace HIP1 := Lib.hid (HIP1.out.below hb)
  replace HG1 := Lib.hid (bl_row hb (lt_of_block HG1.out) HG1.out)
  replace HIH2 := Lib.hid (HIH2.out.below hb)
  replace HIP2 := Lib.hid (HIP2.out.below hb)
  replace HG2 := Lib.hid (bl_row hb (lt_of_block HG2.out) HG2.out)
  replace HIH3 := Lib.hid (HIH3.out.below hb)
  have HG3 := Lib.hid (hr)
  clear hr hg hal hb
  obtain ⟨g3, hg⟩ : ∃ g, w7.heap.size = g := ⟨_, rfl⟩
  rw [hg] at HG3 ⊢
  clear hg
  go_wp2_with (first | (refine wpList_load_mid rfl 49 _ rfl gk 0 rfl [.int .u64 ks, .int .u64 km] _ (rngL HGK.out) Try.underlying49 rfl (by rw [HKL.out]; rfl) ?_) | fail)
  refine Calls.mono (HV2.out _ (HI.out.below HB.out)) ?_
  rintro e w9 ⟨hb, hcase⟩
  replace HB := Lib.hid (bl_next HB.out HB.out.size hb)
  replace HGK := Lib.hid (bl_row hb (lt_of_block HGK.out) HGK.out)
  replace HGL := Lib.hid (bl_row hb (lt_of_block HGL.out) HGL.out)
  replace HIH1 := Lib.hid (HIH1.out.below hb)
  replace HIP1 := Lib.hid (HIP1.out.below hb)
  replace HG1 := Lib.hid (bl_row hb (lt_of_block HG1.out) HG1.out)
  replace HIH2 := Lib.hid (HIH2.out.below hb)
  replace HIP2 := Lib.hid (HIP2.out.below hb)
  replace HG2 := Lib.hid (bl_row hb (lt_of_block HG2.out) HG2.out)
  replace HIH3 := Lib.hid (HIH3.out.below hb)
  replace HG3 := Lib.hid (bl_row hb (lt_of_block HG3.out) HG3.out)
  clear hb
  rcases hcase with ⟨hr, _⟩ | ⟨r4, a4, t4, g4x, c4x, hr, rfl, hi4, _, _, _, _, _, _, _, _, _, ht4, hf4, _⟩
  · rw [HRS.out] at hr; cases hr
  obtain rfl : r = r4 := by have := HRS.out.symm.trans hr; injection this
  clear hr
  have HIH4 := Lib.hid hi4
  have HRL4 := Lib.hid (row_len r.h a4 t4 ht4 hf4)
  have HRO4 : Hid (∀ v ∈ r.h.row a4 t4, v.oneCell' = true) := Lib.hid (row_one r.h a4 t4)
  have HVAL4 : Hid (r.h.val a4 t4 = .agg (r.h.row a4 t4).toArray) := Lib.hid rfl
  rw [HVAL4.out]
  obtain ⟨RW4, hRW4⟩ : ∃ R, r.h.row a4 t4 = R := ⟨_, rfl⟩
  rw [hRW4] at HRL4 HRO4 ⊢
  have HRE4 := Lib.hid hRW4
  clear hRW4 HVAL4 hi4
  go_upto_region 6 with (first | (refine wpList_store_row rfl 32 _ _ rfl _ rfl RW4 (.int .i64 0 :: .int .u8 0 :: .int .u8 0 :: .int .u8 0 :: .int .u8 0 :: .int .u8 0 :: .int .u8 0 :: .int .u8 0 :: .int .u8 0 :: .int .u8 0 :: .int .u8 0 :: .int .u8 0 :: .int .u8 0 :: .int .u8 0 :: .int .u8 0 :: .int .u8 0 :: .int .u8 0 :: .slice none 0 0 :: .int .i64 0 :: .bool false :: []) rfl 32 (heap_alloc_new _ _) (by rw [HRL4.out]; rfl) (by rw [HRL4.out]; rfl) HRO4.out ?_; intro w10 hr hg) | fail)
  have hal := (Below.refl w9.heap.size w9).alloc (Nat.le_refl _) (.cells ((.int .i64 0 :: .int .u8 0 :: .int .u8 0 :: .int .u8 0 :: .int .u8 0 :: .int .u8 0 :: .int .u8 0 :: .int .u8 0 :: .int .u8 0 :: .int .u8 0 :: .int .u8 0 :: .int .u8 0 :: .int .u8 0 :: .int .u8 0 :: .int .u8 0 :: .int .u8 0 :: .int .u8 0 :: .slice none 0 0 :: .int .i64 0 :: .bool false :: [])).toArray 32)
  have hb : Below w9.heap.size w9 w10 := hal.grown hg hal.size (by intro k hk; injection hk with hk; omega)
  replace HB := Lib.hid (bl_next HB.out HB.out.size hb)
  replace HGK := Lib.hid (bl_row hb (lt_of_block HGK.out) HGK.out)
  replace HGL := Lib.hid (bl_row hb (lt_of_block HGL.out) HGL.out)
  replace HIH1 := Lib.hid (HIH1.out.below hb)
  replace HIP1 := Lib.hid (HIP1.out.below hb)
  replace HG1 := Lib.hid (bl_row hb (lt_of_block HG1.out) HG1.out)
  replace HIH2 := Lib.hid (HIH2.out.below hb)
  replace HIP2 := Lib.hid (HIP2.out.below hb)
  replace HG2 := Lib.hid (bl_row hb (lt_of_block HG2.out) HG2.out)
  replace HIH3 := Lib.hid (HIH3.out.below hb)
  replace HG3 := Lib.hid (bl_row hb (lt_of_block HG3.out) HG3.out)
  replace HIH4 := Lib.hid (HIH4.out.below hb)
  have HG4 := Lib.hid (hr)
  clear hr hg hal hb
  obtain ⟨g4, hg⟩ : ∃ g, w9.heap.size = g := ⟨_, rfl⟩
  rw [hg] at HG4 ⊢
  clear hg
  go_wp2_with fail
  refine Calls.mono (HC1.out _ (HI.out.below HB.out)) ?_
  rintro e w11 ⟨rfl, hb⟩
  replace HB := Lib.hid (bl_next HB.out HB.out.size hb)
  replace HGK := Lib.hid (bl_row hb (lt_of_block HGK.out) HGK.out)
  replace HGL := Lib.hid (bl_row hb (lt_of_block HGL.out) HGL.out)
  replace HIH1 := Lib.hid (HIH1.out.below hb)
  replace HIP1 := Lib.hid (HIP1.out.below hb)
  replace HG1 := Lib.hid (bl_row hb (lt_of_block HG1.out) HG1.out)
  replace HIH2 := Lib.hid (HIH2.out.below hb)
  replace HIP2 := Lib.hid (HIP2.out.below hb)
  replace HG2 := Lib.hid (bl_row hb (lt_of_block HG2.out) HG2.out)
  replace HIH3 := Lib.hid (HIH3.out.below hb)
  replace HG3 := Lib.hid (bl_row hb (lt_of_block HG3.out) HG3.out)
  replace HIH4 := Lib.hid (HIH4.out.below hb)
  replace HG4 := Lib.hid (bl_row hb (lt_of_block HG4.out) HG4.out)
  clear hb
  rw [HPE.out]
  go_wp2_with fail
  refine Calls.mono (HC2.out _ (HI.out.below HB.out)) ?_
  rintro e w12 ⟨hb, hcase⟩
  replace HB := Lib.hid (bl_next HB.out HB.out.size hb)
  replace HGK := Lib.hid (bl_row hb (lt_of_block HGK.out) HGK.out)
  replace HGL := Lib.hid (bl_row hb (lt_of_block HGL.out) HGL.out)
  replace HIH1 := Lib.hid (HIH1.out.below hb)
  replace HIP1 := Lib.hid (HIP1.out.below hb)
  replace HG1 := Lib.hid (bl_row hb (lt_of_block HG1.out) HG1.out)
  replace HIH2 := Lib.hid (HIH2.out.below hb)
  replace HIP2 := Lib.hid (HIP2.out.below hb)
  replace HG2 := Lib.hid (bl_row hb (lt_of_block HG2.out) HG2.out)
  replace HIH3 := Lib.hid (HIH3.out.below hb)
  replace HG3 := Lib.hid (bl_row hb (lt_of_block HG3.out) HG3.out)
  replace HIH4 := Lib.hid (HIH4.out.below hb)
  replace HG4 := Lib.hid (bl_row hb (lt_of_block HG4.out) HG4.out)
  clear hb
  rcases hcase with ⟨hr, _⟩ | ⟨h5, at5, en5, a5, t5, hr, rfl, hi5, _, _⟩
  · rw [HPE.out] at hr; cases hr
  have hle := parM_lens hr
  obtain ⟨rfl, rfl, rfl⟩ : h = h5 ∧ at' = at5 ∧ en = en5 := by have := HPE.out.symm.trans hr; injection this with this; injection this with e1 this; injection this with e2 e3; exact ⟨e1, e2, e3⟩
  clear hr hi5
  have HRL5 := Lib.hid (row_len h a5 t5 hle.1 hle.2)
  have HRO5 : Hid (∀ v ∈ h.row a5 t5, v.oneCell' = true) := Lib.hid (row_one h a5 t5)
  have HVAL5 : Hid (h.val a5 t5 = .agg (h.row a5 t5).toArray) := Lib.hid rfl
  rw [HVAL5.out]
  obtain ⟨RW5, hRW5⟩ : ∃ R, h.row a5 t5 = R := ⟨_, rfl⟩
  rw [hRW5] at HRL5 HRO5 ⊢
  clear hRW5 HVAL5 hle
  go_upto_region 8 with (first | (refine wpList_store_row rfl 32 _ _ rfl _ rfl RW5 (.int .i64 0 :: .int .u8 0 :: .int .u8 0 :: .int .u8 0 :: .int .u8 0 :: .int .u8 0 :: .int .u8 0 :: .int .u8 0 :: .int .u8 0 :: .int .u8 0 :: .int .u8 0 :: .int .u8 0 :: .int .u8 0 :: .int .u8 0 :: .int .u8 0 :: .int .u8 0 :: .int .u8 0 :: .slice none 0 0 :: .int .i64 0 :: .bool false :: []) rfl 32 (heap_alloc_new _ _) (by rw [HRL5.out]; rfl) (by rw [HRL5.out]; rfl) HRO5.out ?_; intro w13 hr hg) | fail)
  have hal := (Below.refl w12.heap.size w12).alloc (Nat.le_refl _) (.cells ((.int .i64 0 :: .int .u8 0 :: .int .u8 0 :: .int .u8 0 :: .int .u8 0 :: .int .u8 0 :: .int .u8 0 :: .int .u8 0 :: .int .u8 0 :: .int .u8 0 :: .int .u8 0 :: .int .u8 0 :: .int .u8 0 :: .int .u8 0 :: .int .u8 0 :: .int .u8 0 :: .int .u8 0 :: .slice none 0 0 :: .int .i64 0 :: .bool false :: [])).toArray 32)
  have hb : Below w12.heap.size w12 w13 := hal.grown hg hal.size (by intro k hk; injection hk with hk; omega)
  replace HB := Lib.hid (bl_next HB.out HB.out.size hb)
  replace HGK := Lib.hid (bl_row hb (lt_of_block HGK.out) HGK.out)
  replace HGL := Lib.hid (bl_row hb (lt_of_block HGL.out) HGL.out)
  replace HIH1 := Lib.hid (HIH1.out.below hb)
  replace HIP1 := Lib.hid (HIP1.out.below hb)
  replace HG1 := Lib.hid (bl_row hb (lt_of_block HG1.out) HG1.out)
  replace HIH2 := Lib.hid (HIH2.out.below hb)
  replace HIP2 := Lib.hid (HIP2.out.below hb)
  replace HG2 := Lib.hid (bl_row hb (lt_of_block HG2.out) HG2.out)
  replace HIH3 := Lib.hid (HIH3.out.below hb)
  replace HG3 := Lib.hid (bl_row hb (lt_of_block HG3.out) HG3.out)
  replace HIH4 := Lib.hid (HIH4.out.below hb)
  replace HG4 := Lib.hid (bl_row hb (lt_of_block HG4.out) HG4.out)
  have HG5 := Lib.hid (hr)
  clear hr hg hal hb
  obtain ⟨g5, hg⟩ : ∃ g, w12.heap.size = g := ⟨_, rfl⟩
  rw [hg] at HG5 ⊢
  clear hg
  have HS1 := Lib.hid (fun W h1 h2 => same_any W hd1 a1 a2 t1 t2 ht1 hf1 h1 h2 HUW.out.1 HUW.out.2)
  rw [HRE1.out, HRE2.out] at HS1
  have HS2 := Lib.hid (fun W h1 h2 => same_any W r.h a3 a4 t3 t4 ht3 hf3 h1 h2 HRW.out.1 HRW.out.2)
  rw [HRE3.out, HRE4.out] at HS2
  refine opens_r8 _ (Or.inl ⟨rfl, rfl⟩) HG1 HRL1 HG2 HRL2 HG3 HRL3 HG4 HRL4 HIP1 HIP2 (Lib.hid (fun W' h => HS1.out W' (HIH1.out.below h) (HIH2.out.below h))) (Lib.hid (fun W' h => HS2.out W' (HIH3.out.below h) (HIH4.out.below h))) (fun c a d v w h => by first | (cases d <;> exact h) | exact HKP.out c a d v w h) ?_
  rintro _ _ _ _ _ _ _ _ _ _ _ _ _ _ _ _ _ _ _ _ _ _ _ _ _ _ _ _ _ _ _ _ _ _ _ _ _ _ _ _ _ _ _ _ _ _ _ _ _ _ _ _ _ wz hb
  go_wp2_with fail
  go_ret
  exact ⟨rfl, bl_next HB.out HB.out.size hb⟩
end Go.Proofs.Ythofbckkjcidmaa
namespace Go.Proofs.Ythofbckkjcidmaa
open Go.RowKit
set_option linter.unusedVariables false

/-- a row that was converted: []byte of a text: marked behind its end -/
theorem mark_row {W : World} {g n : Nat} {cs : Array Value} {t : TypeId} (h : W.heap[g]? = some (.cells cs t (0, 0))) : (W.freeze ⟨g, n, none⟩ 1).heap[g]? = some (.cells cs t (n, n + 1)) := by
  simp [World.freeze, Array.getElem?_modify, h]
theorem mark_below (W : World) (g n B : Nat) (hg : B ≤ g) : Below B W (W.freeze ⟨g, n, none⟩ 1) :=
  ⟨rfl, rfl, rfl, by simp [World.freeze], fun k hk => by
    have : ¬ g = k := by omega
    simp [World.freeze, Array.getElem?_modify, this]⟩
theorem mark_size (W : World) (g n : Nat) : (W.freeze ⟨g, n, none⟩ 1).heap.size = W.heap.size := by simp [World.freeze]
theorem conv_mark (W : World) (g : Nat) (cs : Array Value) (l c : Nat) (h : W.heap[g]? = some (.cells cs 5 (0, 0))) :
    (convert 23 23 (.slice (some ⟨g, 0, none⟩) l c)).run Try.prog W = .ok (.slice (some ⟨g, 0, none⟩) l c) (W.freeze ⟨g, cs.size, none⟩ 1) := by
  have hg := lt_of_block h
  simp [convert, run_underlying Try.underlying23, run_underlying Try.underlying5, markStringish, World.shape?, h]
theorem IntsK.of_rowF {k : IntKind} {w : World} {b : Nat} {zs : List Int} {t : TypeId} {fr : Nat × Nat} (h : w.heap[b]? = some (.cells (zs.map (Value.int k)).toArray t fr)) (hw : ∀ n ∈ zs, (Lit.int k n).wf = true) :
    IntsK k w (some ⟨b, 0, none⟩) zs.length zs := by
  refine ⟨rfl, hw, .inr ⟨b, 0, rfl, lt_of_block h, fun i hi => ?_⟩⟩
  rw [cell_of_row _ _ _ _ _ _ h]
  simp [hi, List.getD_eq_getElem?_getD]

/-- []byte(".."): the row's build, then its marking: a world that keeps all below. -/
theorem lit_bytes (W : World) (xs : List Int) (cs : Array Value) (n : Nat) (hcs : cs = (xs.map (Value.int .u8)).toArray) (hn : xs.length = n) (hw : ∀ x ∈ xs, (Lit.int .u8 x).wf = true) :
    ∃ W' : World, (convert 23 23 (.slice (some ⟨W.heap.size, 0, none⟩) n n)).run Try.prog (W.alloc (.cells cs 5)) = .ok (.slice (some ⟨W.heap.size, 0, none⟩) n n) W' ∧
      Below W.heap.size W W' ∧ IntsK .u8 W' (some ⟨W.heap.size, 0, none⟩) n xs ∧ W'.heap.size = W.heap.size + 1 := by
  have hA := Fresh.of_alloc W (.cells cs 5)
  refine ⟨_, conv_mark _ _ cs n n hA.row, hA.below.trans (mark_below _ _ _ _ (Nat.le_refl _)), ?_, (mark_size _ _ _).trans hA.size⟩
  have hr := mark_row (n := cs.size) hA.row
  rw [hcs] at hr
  have h := IntsK.of_rowF hr hw
  rw [hn] at h
  rw [hcs]
  exact h
end Go.Proofs.Ythofbckkjcidmaa
namespace Go.Proofs.Ythofbckkjcidmaa
open Go.RowKit
set_option linter.unusedVariables false
set_option linter.unusedSimpArgs false

theorem opens_any (w : World) (ks km : Int) (a : Option Addr) (len cap : Nat) (b : List Int) (largest : Int) (has : Bool) (hlc : len ≤ cap) (hcap : cap ≤ 9223372036854775807) (hlen : len ≤ 1000000) (hl : 0 ≤ largest ∧ largest < 18446744073709551616) (hI : IntsK .u8 w a len b) :
    Makes Try.prog 19 #[.agg #[.int .u64 ks, .int .u64 km], .slice a len cap, .int .u64 largest, .bool has] w (.bool true) := by
  cases hp : parM b with
  | none => exact opens_none w ks km a len cap b largest has hp hlc hcap hlen hl hI
  | some r => exact opens_some w ks km a len cap b largest has (h := r.1) (at' := r.2.1) (en := r.2.2) hp hlc hcap hlen hl hI
theorem prot_cond {ks km n : Int} {h : Hd} {pl b : List Int} (hp : protM ks km h n pl = some b) :
    (hrightM h = true ∧ n ≤ 4611686018427387903 ∧ 4 ≤ h.w + pl.length ∧ ((encH h (h.w + pl.length + 8)).length : Int) + h.w + pl.length + 8 ≤ 512) ∧
    b = maskedM km ((encH h (h.w + pl.length + 8) ++ numM (cutM n (wM h.w)) h.w.toNat) ++ sealM ks n (encH h (h.w + pl.length + 8) ++ numM (cutM n (wM h.w)) h.w.toNat) pl) (encH h (h.w + pl.length + 8)).length h.w.toNat := by
  unfold protM at hp
  split at hp
  · rename_i hc; injection hp with hp; exact ⟨hc, hp.symm⟩
  · cases hp
theorem prot_some {ks km n : Int} {h : Hd} {pl : List Int} (hr : hrightP h) (hn : n ≤ 4611686018427387903) (h4 : 4 ≤ h.w + pl.length) (hm : ((encH h (h.w + pl.length + 8)).length : Int) + h.w + pl.length + 8 ≤ 512) : ∃ b, protM ks km h n pl = some b := by
  unfold protM; rw [if_pos ⟨(hrightM_eq h).2 hr, hn, h4, hm⟩]; exact ⟨_, rfl⟩
theorem wM_in {h : Hd} (hr : hrightP h) : wM h.w = 1 ∨ wM h.w = 2 ∨ wM h.w = 3 ∨ wM h.w = 4 := by
  have h1 := hr.1; have h2 := hr.2.1
  unfold wM; split <;> (try split) <;> omega
/-- what was protected is unprotected, whatever stands behind it. -/
theorem unp_of {ks km n : Int} {h : Hd} {pl b : List Int} (Z : List Int) (hp : protM ks km h n pl = some b) (hok : h.ok) (hpl : ∀ x ∈ pl, (Lit.int .u8 x).wf = true) (hz : h.s ≠ 2 ∨ Z = []) (hn0 : 0 ≤ n) {largest : Int} {has : Bool} (hn : nxM largest has = n) :
    unpM ks km (b ++ Z) largest has = (h, n, pl, 0) := by
  obtain ⟨⟨c1, c2, c3, c4⟩, hb⟩ := prot_cond hp
  have hr := (hrightM_eq h).1 c1
  obtain ⟨k, hk⟩ : ∃ k : Nat, (k : Int) = h.w + pl.length + 8 := ⟨(h.w + pl.length + 8).toNat, by have := hr.1; omega⟩
  rw [hb, ← hk]
  exact unp_prot ks km h n pl Z hok hr k hk (by omega) (by omega) hpl hz largest has (by rw [hn]; exact whole_next hn0 (wM_in hr))
theorem masked_len (km : Int) (b : List Int) (a w : Nat) : (maskedM km b a w).length = b.length := by
  unfold maskedM xorAt; rw [List.length_mapIdx, List.length_set]
theorem seal_len (ks n : Int) (d pl : List Int) : (sealM ks n d pl).length = pl.length + 8 := sealM_len _ _ _ _
theorem prot_len {ks km n : Int} {h : Hd} {pl b : List Int} (hp : protM ks km h n pl = some b) : b.length = (encH h (h.w + pl.length + 8)).length + h.w.toNat + (pl.length + 8) := by
  obtain ⟨_, hb⟩ := prot_cond hp
  rw [hb, masked_len, List.length_append, List.length_append, seal_len, numM_len]
theorem par_of_rev {km : Int} {b : List Int} {r : Rv} (h : revM km b = some r) : ∃ hd at', parM b = some (hd, at', r.en) := by
  unfold revM at h
  cases hp : parM b with
  | none => rw [hp] at h; cases h
  | some q =>
    obtain ⟨hd, at', en⟩ := q
    rw [hp] at h; simp only [Option.some.injEq] at h
    exact ⟨hd, at', by rw [← h]⟩
/-- what was protected is cut where it ends. -/
theorem par_of {ks km n : Int} {h : Hd} {pl b : List Int} (Z : List Int) (hp : protM ks km h n pl = some b) (hok : h.ok) (hpl : ∀ x ∈ pl, (Lit.int .u8 x).wf = true) (hz : h.s ≠ 2 ∨ Z = []) :
    ∃ hd at', parM (b ++ Z) = some (hd, at', b.length) := by
  have hl := prot_len hp
  obtain ⟨⟨c1, c2, c3, c4⟩, hb⟩ := prot_cond hp
  have hr := (hrightM_eq h).1 c1
  obtain ⟨k, hk⟩ : ∃ k : Nat, (k : Int) = h.w + pl.length + 8 := ⟨(h.w + pl.length + 8).toNat, by have := hr.1; omega⟩
  rw [← hk] at hb hl
  have hrev := rev_prot ks km h n pl Z hok hr k hk (by omega) (by omega) hpl hz
  obtain ⟨hd, at', hq⟩ := par_of_rev hrev
  refine ⟨hd, at', ?_⟩
  rw [hb, hq]
  have := hr.1
  have e : (encH h k).length + k = b.length := by omega
  rw [← hb, ← e]

theorem encH_le2 (h : Hd) (hk : h.ok) (hl : h.k.length ≤ 32) (n : Int) : 1 ≤ (encH h n).length ∧ (encH h n).length ≤ 100 := by
  have h1 := hk.lt; have h2 := hk.lf; have h3 := putM_le h.k.length
  unfold encH
  split
  · simp [h1]
  · split
    · simp only [List.length_append, List.length_cons, List.length_nil, h1, h2]; omega
    · simp [h1, h2]
theorem masked_wf (km : Int) {b : List Int} (a w : Nat) (h : ∀ x ∈ b, (Lit.int .u8 x).wf = true) : ∀ x ∈ maskedM km b a w, (Lit.int .u8 x).wf = true := by
  unfold maskedM
  exact xorAt_wf (set_wf h 0 _ (wf_bits _ _ _ _))
theorem protM_wf {ks km n : Int} {h : Hd} {pl b : List Int} (hp : protM ks km h n pl = some b) (hok : h.ok) (hpl : ∀ x ∈ pl, (Lit.int .u8 x).wf = true) : ∀ x ∈ b, (Lit.int .u8 x).wf = true := by
  obtain ⟨⟨c1, c2, c3, c4⟩, hb⟩ := prot_cond hp
  have hr := (hrightM_eq h).1 c1
  have hw1 := hr.1; have hw4 := hr.2.1
  have he := encH_wf h hok hr (h.w + pl.length + 8) ⟨by omega, by omega⟩
  rw [hb]
  refine masked_wf _ _ _ fun x hx => ?_
  rcases List.mem_append.1 hx with hx | hx
  · exact (List.mem_append.1 hx).elim (he x) (numM_wf _ _ x)
  · exact sealM_wf _ _ _ _ hpl x hx
theorem four_wf {ps : List Int} (h : ∀ x ∈ ps, (Lit.int .u8 x).wf = true) : ∀ x ∈ [102, 111, 117, 114] ++ ps, (Lit.int .u8 x).wf = true := fun x hx => (List.mem_append.1 hx).elim ((by decide : ∀ x ∈ [102, 111, 117, 114], (Lit.int .u8 x).wf = true) x) (h x)

def k9h : Hd := ⟨2, z8, z8, [], 2, false⟩
def k9g : Hd := ⟨0, z8, z8, [], 1, false⟩
theorem k9_some : ∃ b, protM 5 6 k9h 7 [97, 98, 99] = some b := prot_some (by decide) (by decide) (by decide) (by decide)
theorem k9_none : protM 5 6 k9g 7 [97] = none := protM_none (by decide)
theorem k9_ok : k9h.ok ∧ k9g.ok := ⟨⟨by decide, by decide, by decide, by decide, by decide, by decide, by decide⟩, ⟨by decide, by decide, by decide, by decide, by decide, by decide, by decide⟩⟩
set_option maxRecDepth 100000 in
set_option maxHeartbeats 16000000 in
theorem known9_any (w : World) : Makes Try.prog 15 #[] w (.bool true) := by
  obtain ⟨b, hb9⟩ := k9_some
  have HP1 := Lib.hid (fun W a pc hI => protect_any W 5 6 7 k9h none 0 a 3 pc [97, 98, 99] k9_ok.1 (by decide) (IntsK.nil _ _ _) (by decide) (by decide) (by decide) hI)
  have HP2 := Lib.hid (fun W a pc hI => protect_any W 5 6 7 k9g none 0 a 1 pc [97] k9_ok.2 (by decide) (IntsK.nil _ _ _) (by decide) (by decide) (by decide) hI)
  have HS9 := Lib.hid hb9
  have HU := Lib.hid (fun W a len cap h1 h2 h3 hI => punprot_any W 5 6 a len cap b 6 true h1 h2 h3 (by decide) hI)
  have HUN : Hid (unpM 5 6 b 6 true = (k9h, 7, [97, 98, 99], 0)) := Lib.hid (by have h := unp_of (largest := 6) (has := true) [] hb9 k9_ok.1 (by decide) (.inr rfl) (by decide) (by decide); rwa [List.append_nil] at h)
  have HL9 : Hid (b.length ≤ 1000000) := Lib.hid (by have h1 := prot_len hb9; have h2 : (encH k9h (k9h.w + ([97, 98, 99] : List Int).length + 8)).length = 9 := by decide
                                                     rw [h2] at h1; have h3 : k9h.w.toNat = 2 := by decide
                                                     rw [h3] at h1; simp only [List.length_cons, List.length_nil] at h1; omega)
  clear hb9
  go_enter Try.func15, Try.ntmps15
  go_upto_region 2 with fail
  change Code.wp _ _ _ _ (w.alloc (.cells ([.int .u64 5, .int .u64 6] : List Value).toArray 27))
  have HB := Lib.hid (Below.refl w.heap.size w)
  obtain ⟨gk, hg0⟩ : ∃ g, w.heap.size = g := ⟨_, rfl⟩
  try rw [hg0]
  have hb := (Below.refl w.heap.size w).alloc (Nat.le_refl _) (.cells ([.int .u64 5, .int .u64 6] : List Value).toArray 27)
  have hrw := heap_alloc_new w (.cells ([.int .u64 5, .int .u64 6] : List Value).toArray 27)
  have hsz : (w.alloc (.cells ([.int .u64 5, .int .u64 6] : List Value).toArray 27)).heap.size = gk + 1 := by simp [hg0]
  rw [hg0] at hrw
  replace HB := Lib.hid (bl_next HB.out HB.out.size hb)
  have HGK := Lib.hid hrw
  clear hb hrw
  generalize w.alloc (.cells ([.int .u64 5, .int .u64 6] : List Value).toArray 27) = w1 at HB HGK hsz ⊢
  have hg1 := hsz
  clear hsz
  clear hg0
  clear hg1
  have HKL : Hid (([.int .u64 5, .int .u64 6] : List Value).length = 2) := Lib.hid rfl
  obtain ⟨wl, hcv, hbl, hil, hsz⟩ := lit_bytes w1 [97, 98, 99] #[.int .u8 97, .int .u8 98, .int .u8 99] 3 rfl rfl (by decide)
  go_wp2_with (first | (refine wpList_load_mid rfl 27 _ rfl gk 0 rfl [.int .u64 5, .int .u64 6] _ (rngL HGK.out) Try.underlying27 rfl (by rw [HKL.out]; rfl) ?_) | fail)
  replace HB := Lib.hid (bl_next HB.out HB.out.size hbl)
  replace HGK := Lib.hid (bl_row hbl (lt_of_block HGK.out) HGK.out)
  clear hcv hbl hsz
  refine Calls.mono (HP1.out _ _ _ hil) ?_
  rintro e w2 ⟨hb, hcase⟩
  replace HB := Lib.hid (bl_next HB.out HB.out.size hb)
  replace HGK := Lib.hid (bl_row hb (lt_of_block HGK.out) HGK.out)
  clear hb hil
  rcases hcase with ⟨hq, _⟩ | ⟨b1, pa, pc, hq, rfl, hle, hcp, hib⟩
  · rw [HS9.out] at hq; cases hq
  obtain rfl : b1 = b := by have := HS9.out.symm.trans hq; injection this with this; exact this.symm
  clear hq
  have HIB := Lib.hid (hib)
  clear hib
  go_wp2_with (first | (refine wpList_load_mid rfl 27 _ rfl gk 0 rfl [.int .u64 5, .int .u64 6] _ (rngL HGK.out) Try.underlying27 rfl (by rw [HKL.out]; rfl) ?_) | fail)
  refine Calls.mono (HU.out _ _ _ _ hle hcp HL9.out HIB.out) ?_
  rintro e w3 ⟨hb, hd, n, pl, er, a', tc, pl0, pc0, hu, rfl, hik, hkc, hip, hpc, ht, hf⟩
  replace HB := Lib.hid (bl_next HB.out HB.out.size hb)
  replace HGK := Lib.hid (bl_row hb (lt_of_block HGK.out) HGK.out)
  replace HIB := Lib.hid (HIB.out.below hb)
  clear hb
  have hue := HUN.out.symm.trans hu
  injection hue with he1 hue
  injection hue with he2 hue
  injection hue with he3 he4
  subst he1; subst he2; subst he3; subst he4
  clear hu
  rw [show ([97, 98, 99] : List Int).length = 3 from rfl] at hip ⊢
  have HIP := Lib.hid (hip)
  have HRL := Lib.hid (row_len k9h a' tc ht hf)
  have HRO : Hid (∀ v ∈ k9h.row a' tc, v.oneCell' = true) := Lib.hid (row_one k9h a' tc)
  have HVAL : Hid (k9h.val a' tc = .agg (k9h.row a' tc).toArray) := Lib.hid rfl
  rw [HVAL.out]
  obtain ⟨RW, hRW⟩ : ∃ R, k9h.row a' tc = R := ⟨_, rfl⟩
  rw [hRW] at HRL HRO ⊢
  clear hRW HVAL hip hik hkc ht hf
  go_upto_region 4 with (first | (refine wpList_store_row rfl 32 _ _ rfl _ rfl RW (.int .i64 0 :: .int .u8 0 :: .int .u8 0 :: .int .u8 0 :: .int .u8 0 :: .int .u8 0 :: .int .u8 0 :: .int .u8 0 :: .int .u8 0 :: .int .u8 0 :: .int .u8 0 :: .int .u8 0 :: .int .u8 0 :: .int .u8 0 :: .int .u8 0 :: .int .u8 0 :: .int .u8 0 :: .slice none 0 0 :: .int .i64 0 :: .bool false :: []) rfl 32 (heap_alloc_new _ _) (by rw [HRL.out]; rfl) (by rw [HRL.out]; rfl) HRO.out ?_; intro w4 hr hg) | fail)
  have hal := (Below.refl w3.heap.size w3).alloc (Nat.le_refl _) (.cells ((.int .i64 0 :: .int .u8 0 :: .int .u8 0 :: .int .u8 0 :: .int .u8 0 :: .int .u8 0 :: .int .u8 0 :: .int .u8 0 :: .int .u8 0 :: .int .u8 0 :: .int .u8 0 :: .int .u8 0 :: .int .u8 0 :: .int .u8 0 :: .int .u8 0 :: .int .u8 0 :: .int .u8 0 :: .slice none 0 0 :: .int .i64 0 :: .bool false :: [])).toArray 32)
  have hb : Below w3.heap.size w3 w4 := hal.grown hg hal.size (by intro k hk; injection hk with hk; omega)
  replace HB := Lib.hid (bl_next HB.out HB.out.size hb)
  replace HGK := Lib.hid (bl_row hb (lt_of_block HGK.out) HGK.out)
  replace HIB := Lib.hid (HIB.out.below hb)
  replace HIP := Lib.hid (HIP.out.below hb)
  have HGH := Lib.hid (hr)
  clear hr hg hal hb
  obtain ⟨gh, hg⟩ : ∃ g, w3.heap.size = g := ⟨_, rfl⟩
  rw [hg] at HGH ⊢
  clear hg
  obtain ⟨wl2, hcv, hbl, hil, hsz⟩ := lit_bytes w4 [97] #[.int .u8 97] 1 rfl rfl (by decide)
  go_wp2_with (first | (refine wpList_load_mid rfl 27 _ rfl gk 0 rfl [.int .u64 5, .int .u64 6] _ (rngL HGK.out) Try.underlying27 rfl (by rw [HKL.out]; rfl) ?_) | fail)
  replace HB := Lib.hid (bl_next HB.out HB.out.size hbl)
  replace HGK := Lib.hid (bl_row hbl (lt_of_block HGK.out) HGK.out)
  replace HIB := Lib.hid (HIB.out.below hbl)
  replace HIP := Lib.hid (HIP.out.below hbl)
  replace HGH := Lib.hid (bl_row hbl (lt_of_block HGH.out) HGH.out)
  clear hcv hbl hsz
  refine Calls.mono (HP2.out _ _ _ hil) ?_
  rintro e w5 ⟨hb, hcase⟩
  replace HB := Lib.hid (bl_next HB.out HB.out.size hb)
  replace HGK := Lib.hid (bl_row hb (lt_of_block HGK.out) HGK.out)
  replace HIB := Lib.hid (HIB.out.below hb)
  replace HIP := Lib.hid (HIP.out.below hb)
  replace HGH := Lib.hid (bl_row hb (lt_of_block HGH.out) HGH.out)
  clear hb hil
  rcases hcase with ⟨_, rfl⟩ | ⟨b1, pa, pc, hq, _⟩
  rotate_left
  · rw [k9_none] at hq; cases hq
  have q1 : (convert 23 9 (.slice pl0 3 pc0)).run Try.prog w5 = .ok (.string ⟨#[97, 98, 99]⟩) w5 := (conv_ints _ 5 _ _ Try.underlying23 Try.underlying5 Try.underlying9 HIP.out).trans rfl
  go_wp2_with fail
  go_ret
  exact ⟨rfl, HB.out⟩
end Go.Proofs.Ythofbckkjcidmaa
namespace Go.Proofs.Ythofbckkjcidmaa
open Go.RowKit
set_option linter.unusedVariables false

/-- what is laid behind a row that is full. -/
theorem append_full (w : World) (ty : TypeId) (g n : Nat) (xs : List Int) (hI : IntsK .u8 w (some ⟨g, 0, none⟩) n xs) (xa : Option Addr) (m c : Nat) (bs : List Int) (hJ : IntsK .u8 w xa m bs) (hb : n + m ≤ 140737488355328) :
    ∃ a' c' w', (Builtin.append_ #[23, 23] ty #[.slice (some ⟨g, 0, none⟩) n n, .slice xa m c]).run Try.prog w = .ok (.slice a' (n + m) c') w' ∧ n + m ≤ c' ∧ c' ≤ 9223372036854775807 ∧ IntsK .u8 w' a' (n + m) (xs ++ bs) ∧ Below w.heap.size w w' := by
  obtain ⟨i0, hi, hz0, hz1, hz2⟩ := info_parts infoU8
  have hwf : ∀ x ∈ xs ++ bs, (Lit.int .u8 x).wf = true := fun x hx => (List.mem_append.1 hx).elim (hI.2.1 x) (hJ.2.1 x)
  have hxl := hI.1
  have hbl := hJ.1
  by_cases hm : m = 0
  · subst hm
    obtain rfl : bs = [] := List.eq_nil_of_length_eq_zero hbl
    have hsrc : Src Try.prog i0.size 23 (.slice xa 0 c) 0 [] w := by
      cases xa with
      | none => exact Src.ofNil w Try.underlying23 c
      | some ad => exact Src.ofSlice w Try.underlying23 ad 0 c [] (by simp) (by simp) (by simp)
    have hr := run_append_nothing w 23 23 ty 5 i0 Try.underlying23 hi (some ⟨g, 0, none⟩) n n (Nat.le_refl _) _ hsrc
    have hn9 : n ≤ 9223372036854775807 := by omega
    exact ⟨_, n, w, hr, Nat.le_refl n, hn9, (by rw [List.append_nil]; exact hI), Below.refl _ _⟩
  · obtain ⟨ad, rfl, _, hnews⟩ := hJ.src (by omega)
    have holds : ∀ j v, (xs.map (Value.int .u8))[j]? = some v → w.cell? ((⟨g, 0, none⟩ : Addr).add j) = some v := by
      intro j v hj
      by_cases hn : 0 < n
      · obtain ⟨ad', e, _, h⟩ := hI.src hn
        rw [Option.some.inj e]; exact h j v hj
      · have := lt_of_get hj; simp at this; omega
    have hr := run_append_grow w 23 ty 5 i0 (.int .u8 0) Try.underlying23 hi hz0 ⟨g, 0, none⟩ n n (xs.map (Value.int .u8)) (by rw [hz1]; simp [hxl]) holds ad m c (bs.map (Value.int .u8)) (by rw [hz1]; simp [hbl]) hnews (by omega) (by omega)
      (by rw [hz2]; exact growslice_fits (by omega) (by omega))
    have hge := grownCap_ge w (n + m) n 5
    have hcm := grownCap_le_maxLen w (n + m) n 5 (by unfold maxLen; omega)
    unfold maxLen at hcm
    refine ⟨_, _, _, hr, hge, hcm, ⟨by simp [hxl, hbl], hwf, .inr ⟨w.heap.size, 0, rfl, by simp, fun i hi => ?_⟩⟩, ((Below.refl _ _).drew).alloc (Nat.le_refl _) _⟩
    refine (cell_of_row _ _ _ _ _ _ (heap_alloc_new w.drew _)).trans ?_
    have h1 : i < (xs ++ bs).length := by rw [List.length_append]; omega
    rw [Nat.zero_add, ← Array.getElem?_toList]
    simp only [Array.toList_append]
    rw [← List.map_append, List.getElem?_append_left (by simpa using h1), List.getElem?_map, List.getElem?_eq_getElem h1, List.getD_eq_getElem?_getD, List.getElem?_eq_getElem h1]
    rfl

theorem wp_append_full {o : Oper} {a : Act} {w : World} {K : Act → World → Prop} {Q : Exit → Act → World → Prop} (s x : Operand)
    (ho : o.op = .call { callee := .builtin .append, args := #[s, x], argTypes := #[23, 23] })
    (g n : Nat) (xs : List Int) (hs : a.eval s = .slice (some ⟨g, 0, none⟩) n n) (hI : IntsK .u8 w (some ⟨g, 0, none⟩) n xs) (xa : Option Addr) (m c : Nat) (bs : List Int) (hx : a.eval x = .slice xa m c) (hJ : IntsK .u8 w xa m bs)
    (hb : n + m ≤ 140737488355328)
    (h : ∀ a' c' w', n + m ≤ c' → c' ≤ 9223372036854775807 → IntsK .u8 w' a' (n + m) (xs ++ bs) → Below w.heap.size w w' → K (a.put o.dst (.slice a' (n + m) c')) w') : Oper.wp Try.prog o a w K Q := by
  obtain ⟨a', c', w', hr, h1, h2, h3, h4⟩ := append_full w o.type g n xs hI xa m c bs hJ hb
  unfold Oper.wp execOp
  simp only [ho, resolve, invoke, builtin, Sem.run_bind, Sem.run_pure, Result.andThen_ok, List.map_toArray, List.map_cons, List.map_nil, hs, hx, hr]
  exact h a' c' w' h1 h2 h3 h4
theorem wpList_append_full {ops : Array Oper} {rest : List Oper} {o : Oper} {a : Act} {w : World} {Q : Exit → Act → World → Prop} (hgd : o.guard = none) (s x : Operand)
    (ho : o.op = .call { callee := .builtin .append, args := #[s, x], argTypes := #[23, 23] })
    (g n : Nat) (xs : List Int) (hs : a.eval s = .slice (some ⟨g, 0, none⟩) n n) (hI : IntsK .u8 w (some ⟨g, 0, none⟩) n xs) (xa : Option Addr) (m c : Nat) (bs : List Int) (hx : a.eval x = .slice xa m c) (hJ : IntsK .u8 w xa m bs)
    (hb : n + m ≤ 140737488355328)
    (h : ∀ a' c' w', n + m ≤ c' → c' ≤ 9223372036854775807 → IntsK .u8 w' a' (n + m) (xs ++ bs) → Below w.heap.size w w' → wpList Try.prog ops Q rest (a.put o.dst (.slice a' (n + m) c')) w') : wpList Try.prog ops Q (o :: rest) a w := by
  refine wpList_plain hgd fun K hK => ?_
  exact wp_append_full s x ho g n xs hs hI xa m c bs hx hJ hb fun a' c' w' h1 h2 h3 h4 => hK _ _ (h a' c' w' h1 h2 h3 h4)
end Go.Proofs.Ythofbckkjcidmaa
