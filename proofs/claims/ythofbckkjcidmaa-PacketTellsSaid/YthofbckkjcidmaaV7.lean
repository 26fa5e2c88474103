/- texts of the proof, laid together: Pkt18, Pkt19. -/
import Derived.Test.YthofbckkjcidmaaV6
namespace Go.Proofs.Ythofbckkjcidmaa
open Go.RowKit
set_option linter.unusedVariables false
set_option linter.unusedSimpArgs false

set_option maxRecDepth 100000 in
set_option maxHeartbeats 16000000 in
theorem tells9_core (w : World) (X K1 K2 : List Value) (secret other n0 n largest att turn : Int) (has : Bool) (pa ba : Option Addr) (pl pc pq bl bc bq : Nat) (ps bs : List Int) (h : Hd) (kl L j : Nat) (ks P : List Int) (xj : Int)
    (HHk : Hid (∀ a tc, (h.row a tc).length = 20 ∧ (∀ v ∈ h.row a tc, v.oneCell' = true)))
    (HXL : Hid (X.length = 6)) (HKL : Hid (K1.length = 2)) (HKO : Hid (∀ v ∈ K1, v.oneCell' = true))
    (hpq : pq ≤ 100) (hbq : bq ≤ 80) (hbc : bq ≤ bc) (hbm : bc ≤ 9223372036854775807) (hlg : 0 ≤ largest ∧ largest < 18446744073709551616) (hn : 0 ≤ n ∧ n < 18446744073709551616)
    (HPI : Hid (IntsK .u8 w pa pq ps)) (HBI : Hid (IntsK .u8 w ba bq bs))
    (HKH : Hid (∀ w1, Below w.heap.size w w1 → Calls Try.prog 8 #[.agg X.toArray] w1 fun e w' => Below w1.heap.size w1 w' ∧ ∃ b tc, e = .returned (.agg (h.row b tc).toArray) ∧ IntsK .u8 w' b kl ks))
    (HO1 : Hid (∀ w1, Makes Try.prog 16 #[.int .u64 secret] w1 (.agg K1.toArray)))
    (HO2 : Hid (∀ w1, Makes Try.prog 16 #[.int .u64 other] w1 (.agg K2.toArray)))
    (HC1 : Hid (∀ w1, Calls Try.prog 9 #[.slice pa pl pc, .int .i64 100] w1 fun e w' => e = .returned (.slice pa pq pc) ∧ w1 = w'))
    (HC2 : Hid (∀ w1, Calls Try.prog 9 #[.slice ba bl bc, .int .i64 80] w1 fun e w' => e = .returned (.slice ba bq bc) ∧ w1 = w'))
    (HSM : Hid (∀ w1, Makes Try.prog 10 #[.int .u64 n0] w1 (.int .u64 n)))
    (HPT : Hid (∀ w1 b tc, IntsK .u8 w1 b kl ks → IntsK .u8 w1 pa pq ps → Makes Try.prog 17 #[.agg K1.toArray, .agg (h.row b tc).toArray, .int .u64 n, .slice pa pq pc] w1 (.bool true)))
    (HOP : Hid (∀ w1 a len cap xs lg hs, len ≤ cap → cap ≤ 9223372036854775807 → len ≤ 1000000 → (0 ≤ lg ∧ lg < 18446744073709551616) → IntsK .u8 w1 a len xs → Makes Try.prog 19 #[.agg K1.toArray, .slice a len cap, .int .u64 lg, .bool hs] w1 (.bool true)))
    (HOP2 : Hid (∀ w1 a len cap xs lg hs, len ≤ cap → cap ≤ 9223372036854775807 → len ≤ 1000000 → (0 ≤ lg ∧ lg < 18446744073709551616) → IntsK .u8 w1 a len xs → Makes Try.prog 19 #[.agg K2.toArray, .slice a len cap, .int .u64 lg, .bool hs] w1 (.bool true)))
    (HRP : Hid (∀ w1 b tc a' cp, IntsK .u8 w1 b kl ks → IntsK .u8 w1 a' (4 + pq) ([102, 111, 117, 114] ++ ps) → Calls Try.prog 18 #[.agg K1.toArray, .agg (h.row b tc).toArray, .int .u64 n, .slice a' (4 + pq) cp] w1 fun e w' =>
      Below w1.heap.size w1 w' ∧ ∃ g cap', e = .returned (.tuple #[.slice (some ⟨g, 0, none⟩) L cap', .bool true]) ∧ w'.ownsRow w1.heap.size 5 1 (.slice (some ⟨g, 0, none⟩) L cap') L (P.map (Value.int .u8))))
    (hL : 1 ≤ L ∧ L ≤ 600) (HPL : Hid (P.length = L)) (HPW : Hid (∀ x ∈ P, (Lit.int .u8 x).wf = true)) (hj : j < L) (HXJ : Hid (P[j]? = some xj)) (HYW : Hid (∀ x ∈ P.set j (bits .xor .u8 xj turn), (Lit.int .u8 x).wf = true))
    (HWJ : Hid (∀ w1, Calls Try.prog 22 #[.int .i64 att, .int .i64 0, .int .i64 ((L : Int) - 1)] w1 fun e w' => e = .returned (.int .i64 j) ∧ w1 = w'))
    (HKN : Hid (∀ w1, Makes Try.prog 15 #[] w1 (.bool true))) :
    Makes Try.prog 6 #[.int .u64 secret, .int .u64 other, .agg X.toArray, .int .u64 n0, .int .u64 largest, .bool has, .slice pa pl pc, .slice ba bl bc, .int .i64 att, .int .u8 turn] w (.bool true) := by
  have HB := Lib.hid (Below.refl w.heap.size w)
  go_enter Try.func6, Try.ntmps6
  go_upto_region 1 with fail
  have hb := (Below.refl w.heap.size w).alloc (Nat.le_refl _) (.cells X.toArray 25)
  replace HB := Lib.hid (bl_next HB.out HB.out.size hb)
  replace HPI := Lib.hid (HPI.out.below hb)
  replace HBI := Lib.hid (HBI.out.below hb)
  have HGX := Lib.hid (heap_alloc_new w (.cells X.toArray 25))
  clear hb
  generalize w.alloc (.cells X.toArray 25) = w1 at HB HPI HBI HGX ⊢
  obtain ⟨gx, hg⟩ : ∃ g, w.heap.size = g := ⟨_, rfl⟩
  rw [hg] at HGX ⊢
  clear hg
  go_wp2_with fail
  refine Calls.mono (HO1.out _) ?_
  rintro e w2 ⟨rfl, hb⟩
  replace HB := Lib.hid (bl_next HB.out HB.out.size hb)
  replace HPI := Lib.hid (HPI.out.below hb)
  replace HBI := Lib.hid (HBI.out.below hb)
  replace HGX := Lib.hid (bl_row hb (lt_of_block HGX.out) HGX.out)
  clear hb
  go_upto_region 2 with (first | (refine wpList_store_row rfl 49 _ _ rfl _ rfl K1 (.int .u64 0 :: .int .u64 0 :: []) rfl 49 (heap_alloc_new _ _) (by rw [HKL.out]; rfl) (by rw [HKL.out]; rfl) HKO.out ?_; intro w3 hr hg) | fail)
  have hal := (Below.refl w2.heap.size w2).alloc (Nat.le_refl _) (.cells ((.int .u64 0 :: .int .u64 0 :: [])).toArray 49)
  have hb : Below w2.heap.size w2 w3 := hal.grown hg hal.size (by intro k hk; injection hk with hk; omega)
  replace HB := Lib.hid (bl_next HB.out HB.out.size hb)
  replace HPI := Lib.hid (HPI.out.below hb)
  replace HBI := Lib.hid (HBI.out.below hb)
  replace HGX := Lib.hid (bl_row hb (lt_of_block HGX.out) HGX.out)
  have HGK := Lib.hid (hr)
  clear hr hg hal hb
  obtain ⟨gk, hg⟩ : ∃ g, w2.heap.size = g := ⟨_, rfl⟩
  rw [hg] at HGK ⊢
  clear hg
  go_wp2_with (first | (refine wpList_load_mid rfl 25 _ rfl gx 0 rfl X _ (rngL HGX.out) Try.underlying25 rfl (by rw [HXL.out]; rfl) ?_) | fail)
  refine Calls.mono (HKH.out _ HB.out) ?_
  rintro e w4 ⟨hb, b1, tc1, rfl, hi1⟩
  replace HB := Lib.hid (bl_next HB.out HB.out.size hb)
  replace HPI := Lib.hid (HPI.out.below hb)
  replace HBI := Lib.hid (HBI.out.below hb)
  replace HGX := Lib.hid (bl_row hb (lt_of_block HGX.out) HGX.out)
  replace HGK := Lib.hid (bl_row hb (lt_of_block HGK.out) HGK.out)
  clear hb
  have HI1 := Lib.hid (hi1)
  clear hi1 HGX
  have HPT1 := Lib.hid (fun w1 => HPT.out w1 b1 tc1)
  have HRP1 := Lib.hid (fun w1 => HRP.out w1 b1 tc1)
  have HRL := Lib.hid ((HHk.out b1 tc1).1); have HRO := Lib.hid ((HHk.out b1 tc1).2)
  obtain ⟨R, hR⟩ : ∃ R, h.row b1 tc1 = R := ⟨_, rfl⟩
  rw [hR] at HRL HRO HPT1 HRP1 ⊢
  clear hR
  clear HHk HKH HPT HRP HO1 HXL
  go_upto_region 3 with (first | (refine wpList_store_row rfl 32 _ _ rfl _ rfl R (.int .i64 0 :: .int .u8 0 :: .int .u8 0 :: .int .u8 0 :: .int .u8 0 :: .int .u8 0 :: .int .u8 0 :: .int .u8 0 :: .int .u8 0 :: .int .u8 0 :: .int .u8 0 :: .int .u8 0 :: .int .u8 0 :: .int .u8 0 :: .int .u8 0 :: .int .u8 0 :: .int .u8 0 :: .slice none 0 0 :: .int .i64 0 :: .bool false :: []) rfl 32 (heap_alloc_new _ _) (by rw [HRL.out]; rfl) (by rw [HRL.out]; rfl) HRO.out ?_; intro w5 hr hg) | fail)
  have hal := (Below.refl w4.heap.size w4).alloc (Nat.le_refl _) (.cells ((.int .i64 0 :: .int .u8 0 :: .int .u8 0 :: .int .u8 0 :: .int .u8 0 :: .int .u8 0 :: .int .u8 0 :: .int .u8 0 :: .int .u8 0 :: .int .u8 0 :: .int .u8 0 :: .int .u8 0 :: .int .u8 0 :: .int .u8 0 :: .int .u8 0 :: .int .u8 0 :: .int .u8 0 :: .slice none 0 0 :: .int .i64 0 :: .bool false :: [])).toArray 32)
  have hb : Below w4.heap.size w4 w5 := hal.grown hg hal.size (by intro k hk; injection hk with hk; omega)
  replace HB := Lib.hid (bl_next HB.out HB.out.size hb)
  replace HPI := Lib.hid (HPI.out.below hb)
  replace HBI := Lib.hid (HBI.out.below hb)
  replace HGK := Lib.hid (bl_row hb (lt_of_block HGK.out) HGK.out)
  replace HI1 := Lib.hid (HI1.out.below hb)
  have HGH := Lib.hid (hr)
  clear hr hg hal hb
  obtain ⟨gh, hg⟩ : ∃ g, w4.heap.size = g := ⟨_, rfl⟩
  rw [hg] at HGH ⊢
  clear hg
  go_wp2_with fail
  refine Calls.mono (HC1.out _) ?_
  rintro e wq ⟨rfl, rfl⟩
  go_wp2_with fail
  refine Calls.mono (HSM.out _) ?_
  rintro e w6 ⟨rfl, hb⟩
  replace HB := Lib.hid (bl_next HB.out HB.out.size hb)
  replace HPI := Lib.hid (HPI.out.below hb)
  replace HBI := Lib.hid (HBI.out.below hb)
  replace HGK := Lib.hid (bl_row hb (lt_of_block HGK.out) HGK.out)
  replace HI1 := Lib.hid (HI1.out.below hb)
  replace HGH := Lib.hid (bl_row hb (lt_of_block HGH.out) HGH.out)
  clear hb
  go_upto_region 5 with fail
  refine wp_plan (.t 0 (.t 1 (.t 2 (.t 3 (.u 4 (.t 5 (.t 6 (.t 7 (.t 8 (.t 10 (.t 11 (.u 9 (.u 12 (.t 13 (.t 14 .done))))))))))))))) (fun y => Below w6.heap.size w6 y) (by kernel_rfl) (by kernel_rfl) (by kernel_rfl) (fun c a d v w h => by first | (cases d <;> exact h) | exact HKP.out c a d v w h) (Below.refl _ _).drew ?_
  have hS : Below w6.heap.size w6 w6.drew := (Below.refl _ _).drew
  generalize w6.drew = W0 at hS ⊢
  haveI hne2 : Nonempty (In (fun y => Below w6.heap.size w6 y)) := ⟨⟨w6, Below.refl _ _⟩⟩
  repeat (first | (refine plan_t_load (by rfl) (by kernel_rfl) 49 _ rfl gk 0 rfl K1 _ (fun y hy => rngL (bl_row hy (lt_of_block HGK.out) HGK.out)) Try.underlying49 rfl (by rw [HKL.out]; rfl) ?_; simp only [Act.put, List.setIfInBounds_toArray, List.set_cons_succ, List.set_cons_zero]) | (refine plan_t_load (by rfl) (by kernel_rfl) 32 _ rfl gh 0 rfl R _ (fun y hy => rngL (bl_row hy (lt_of_block HGH.out) HGH.out)) Try.underlying32 rfl (by rw [HRL.out]; rfl) ?_; simp only [Act.put, List.setIfInBounds_toArray, List.set_cons_succ, List.set_cons_zero]) | (refine plan_t (by rfl) ?_; (first | go_big_quiet_skip | (go_big_quiet_want; go_big_quiet_op; go_big_quiet_on)); refine wpQuiet_nil ?_))
  refine plan_us (by rfl) (by kernel_rfl) ?_
  intro K hK
  go_wp2_with fail
  refine Calls.mono (HPT1.out _ (HI1.out.below hS) (HPI.out.below hS)) ?_
  rintro e w7 ⟨rfl, hb⟩
  replace hS := bl_next hS hS.size hb
  clear hb
  go_wp2_with fail
  refine ⟨hS, ?_⟩
  repeat (first | (refine plan_t_load (by rfl) (by kernel_rfl) 49 _ rfl gk 0 rfl K1 _ (fun y hy => rngL (bl_row hy (lt_of_block HGK.out) HGK.out)) Try.underlying49 rfl (by rw [HKL.out]; rfl) ?_; simp only [Act.put, List.setIfInBounds_toArray, List.set_cons_succ, List.set_cons_zero]) | (refine plan_t_load (by rfl) (by kernel_rfl) 32 _ rfl gh 0 rfl R _ (fun y hy => rngL (bl_row hy (lt_of_block HGH.out) HGH.out)) Try.underlying32 rfl (by rw [HRL.out]; rfl) ?_; simp only [Act.put, List.setIfInBounds_toArray, List.set_cons_succ, List.set_cons_zero]) | (refine plan_t (by rfl) ?_; (first | go_big_quiet_skip | (go_big_quiet_want; go_big_quiet_op; go_big_quiet_on)); refine wpQuiet_nil ?_))
  refine plan_us (by rfl) (by kernel_rfl) ?_
  intro K hK
  go_wp2_with fail
  refine Calls.mono (HC2.out _) ?_
  rintro e wq ⟨rfl, rfl⟩
  go_wp2_with fail
  refine ⟨hS, ?_⟩
  refine plan_us (by rfl) (by kernel_rfl) ?_
  intro K hK
  go_wp2_with fail
  refine Calls.mono (HOP.out _ _ _ _ _ _ _ hbc hbm (by omega) hlg (HBI.out.below hS)) ?_
  rintro e w9 ⟨rfl, hb⟩
  replace hS := bl_next hS hS.size hb
  clear hb
  go_wp2_with fail
  refine ⟨hS, ?_⟩
  repeat (first | (refine plan_t_load (by rfl) (by kernel_rfl) 49 _ rfl gk 0 rfl K1 _ (fun y hy => rngL (bl_row hy (lt_of_block HGK.out) HGK.out)) Try.underlying49 rfl (by rw [HKL.out]; rfl) ?_; simp only [Act.put, List.setIfInBounds_toArray, List.set_cons_succ, List.set_cons_zero]) | (refine plan_t_load (by rfl) (by kernel_rfl) 32 _ rfl gh 0 rfl R _ (fun y hy => rngL (bl_row hy (lt_of_block HGH.out) HGH.out)) Try.underlying32 rfl (by rw [HRL.out]; rfl) ?_; simp only [Act.put, List.setIfInBounds_toArray, List.set_cons_succ, List.set_cons_zero]) | (refine plan_t (by rfl) ?_; (first | go_big_quiet_skip | (go_big_quiet_want; go_big_quiet_op; go_big_quiet_on)); refine wpQuiet_nil ?_))
  clear hne2
  show Exit.then _ _ _ _ _
  replace HB := Lib.hid (bl_next HB.out HB.out.size hS)
  replace HPI := Lib.hid (HPI.out.below hS)
  replace HBI := Lib.hid (HBI.out.below hS)
  replace HGK := Lib.hid (bl_row hS (lt_of_block HGK.out) HGK.out)
  replace HI1 := Lib.hid (HI1.out.below hS)
  replace HGH := Lib.hid (bl_row hS (lt_of_block HGH.out) HGH.out)
  clear hS
  clear HPT1 HC1 HC2 HBI
  go_upto_region 7 with fail
  have HGK7 := HGK
  have HBW := HB
  have HB7 := Lib.hid (Below.refl w9.heap.size w9)
  refine wp_plan (.t 0 (.t 1 (.t 2 (.t 5 (.u 3 (.u 4 (.u 6 (.u 7 (.t 8 (.t 9 (.t 10 (.t 11 (.t 12 .done))))))))))))) (fun y => Below w9.heap.size w9 y) (by kernel_rfl) (by kernel_rfl) (by kernel_rfl) (fun c a d v w h => by first | (cases d <;> exact h) | exact HKP.out c a d v w h) (Below.refl _ _).drew ?_
  have hS : Below w9.heap.size w9 w9.drew := (Below.refl _ _).drew
  generalize w9.drew = W0 at hS ⊢
  haveI hne2 : Nonempty (In (fun y => Below w9.heap.size w9 y)) := ⟨⟨w9, Below.refl _ _⟩⟩
  repeat (first | (refine plan_t_load (by rfl) (by kernel_rfl) 49 _ rfl gk 0 rfl K1 _ (fun y hy => rngL (bl_row hy (lt_of_block HGK.out) HGK.out)) Try.underlying49 rfl (by rw [HKL.out]; rfl) ?_; simp only [Act.put, List.setIfInBounds_toArray, List.set_cons_succ, List.set_cons_zero]) | (refine plan_t_load (by rfl) (by kernel_rfl) 32 _ rfl gh 0 rfl R _ (fun y hy => rngL (bl_row hy (lt_of_block HGH.out) HGH.out)) Try.underlying32 rfl (by rw [HRL.out]; rfl) ?_; simp only [Act.put, List.setIfInBounds_toArray, List.set_cons_succ, List.set_cons_zero]) | (refine plan_t (by rfl) ?_; (first | go_big_quiet_skip | (go_big_quiet_want; go_big_quiet_op; go_big_quiet_on)); refine wpQuiet_nil ?_))
  refine plan_us (by rfl) (by kernel_rfl) ?_
  intro K hK
  obtain ⟨wl, hcv, hbl, hil, hsz⟩ := lit_bytes W0 [102, 111, 117, 114] #[.int .u8 102, .int .u8 111, .int .u8 117, .int .u8 114] 4 rfl rfl (by decide)
  go_wp2_with fail
  refine ⟨hS.alloc hS.size _, ?_⟩
  refine plan_us (by rfl) (by kernel_rfl) ?_
  intro K hK
  go_wp2_with fail
  replace hS := bl_next hS hS.size hbl
  clear hcv hbl hsz
  refine ⟨hS, ?_⟩
  refine plan_us (by rfl) (by kernel_rfl) ?_
  intro K hK
  refine wp_append_full _ _ rfl _ 4 [102, 111, 117, 114] rfl hil _ _ _ ps rfl (HPI.out.below hS) (by omega) ?_
  intro a2 c2 w12 hle hcm hi2 hb
  replace hS := bl_next hS hS.size hb
  clear hb hle hcm hil
  refine hK _ _ ⟨hS, ?_⟩
  refine plan_us (by rfl) (by kernel_rfl) ?_
  intro K hK
  have HS7 := hS.size
  go_wp2_with fail
  refine Calls.mono (HRP1.out _ _ _ (HI1.out.below hS) hi2) ?_
  rintro e w13 ⟨hb, gp, cp, rfl, ho⟩
  replace hS := bl_next hS hS.size hb
  clear hb
  have HO := Lib.hid ho
  have HBS : Hid (w9.heap.size ≤ w12.heap.size) := Lib.hid HS7
  clear ho HS7
  go_wp2_with fail
  refine ⟨hS, ?_⟩
  repeat (first | (refine plan_t_load (by rfl) (by kernel_rfl) 49 _ rfl gk 0 rfl K1 _ (fun y hy => rngL (bl_row hy (lt_of_block HGK.out) HGK.out)) Try.underlying49 rfl (by rw [HKL.out]; rfl) ?_; simp only [Act.put, List.setIfInBounds_toArray, List.set_cons_succ, List.set_cons_zero]) | (refine plan_t_load (by rfl) (by kernel_rfl) 32 _ rfl gh 0 rfl R _ (fun y hy => rngL (bl_row hy (lt_of_block HGH.out) HGH.out)) Try.underlying32 rfl (by rw [HRL.out]; rfl) ?_; simp only [Act.put, List.setIfInBounds_toArray, List.set_cons_succ, List.set_cons_zero]) | (refine plan_t (by rfl) ?_; (first | go_big_quiet_skip | (go_big_quiet_want; go_big_quiet_op; go_big_quiet_on)); refine wpQuiet_nil ?_))
  skip
  clear hne2
  show Exit.then _ _ _ _ _
  replace HB := Lib.hid (bl_next HB.out HB.out.size hS)
  replace HPI := Lib.hid (HPI.out.below hS)
  replace HGK := Lib.hid (bl_row hS (lt_of_block HGK.out) HGK.out)
  replace HI1 := Lib.hid (HI1.out.below hS)
  replace HGH := Lib.hid (bl_row hS (lt_of_block HGH.out) HGH.out)
  replace HB7 := Lib.hid (bl_next HB7.out HB7.out.size hS)
  clear hS
  clear HRP1 HI1 HGH HPI
  obtain ⟨_, _, ey, hcp, hip, _⟩ := ints_of_own HO.out HPW.out
  have hcm := own_capm HO.out _ _ _ rfl
  injection ey with e1 e2 e3
  subst e1; subst e3
  clear e2
  have HIP := Lib.hid (hip)
  clear hip
  go_wp2_with fail
  refine Calls.mono (roomy_any _ _ _ _ _ 165 (by omega) HIP.out) ?_
  rintro e w14 ⟨rfl, hrw, hb⟩
  replace HB := Lib.hid (bl_next HB.out HB.out.size hb)
  replace HGK := Lib.hid (bl_row hb (lt_of_block HGK.out) HGK.out)
  replace HB7 := Lib.hid (bl_next HB7.out HB7.out.size hb)
  replace HO := Lib.hid (own_below HO.out hb)
  replace HIP := Lib.hid (HIP.out.below hb)
  clear hb
  have hif := IntsK.of_row hrw (fun x hx => (List.mem_append.1 hx).elim (HPW.out x) (fun h => by rw [List.eq_of_mem_replicate h]; decide))
  rw [List.length_append, List.length_replicate, HPL.out] at hif
  obtain ⟨gf, hgf⟩ : ∃ g, w13.heap.size = g := ⟨_, rfl⟩
  rw [hgf] at hif ⊢
  clear hgf hrw
  have HIF := Lib.hid (hif)
  clear hif
  go_upto_region 11 with fail
  refine wp_plan (.t 0 (.t 1 (.t 2 (.t 3 (.t 4 (.t 5 (.t 6 (.u 7 (.t 8 (.t 9 (.t 10 (.t 11 (.t 12 (.u 13 (.t 14 (.t 15 (.t 16 (.t 17 (.t 19 (.t 20 (.t 21 (.u 18 (.u 22 (.t 23 (.t 24 (.t 25 (.t 26 (.t 27 (.u 28 (.t 29 (.t 30 .done))))))))))))))))))))))))))))))) (fun y => Below w14.heap.size w14 y) (by kernel_rfl) (by kernel_rfl) (by kernel_rfl) (fun c a d v w h => by first | (cases d <;> exact h) | exact HKP.out c a d v w h) (Below.refl _ _).drew ?_
  have hS : Below w14.heap.size w14 w14.drew := (Below.refl _ _).drew
  generalize w14.drew = W0 at hS ⊢
  haveI hne2 : Nonempty (In (fun y => Below w14.heap.size w14 y)) := ⟨⟨w14, Below.refl _ _⟩⟩
  repeat (first | (refine plan_t_load (by rfl) (by kernel_rfl) 49 _ rfl gk 0 rfl K1 _ (fun y hy => rngL (bl_row hy (lt_of_block HGK.out) HGK.out)) Try.underlying49 rfl (by rw [HKL.out]; rfl) ?_; simp only [Act.put, List.setIfInBounds_toArray, List.set_cons_succ, List.set_cons_zero]) | (refine plan_t (by rfl) ?_; (first | go_big_quiet_skip | (go_big_quiet_want; go_big_quiet_op; go_big_quiet_on)); refine wpQuiet_nil ?_))
  refine plan_us (by rfl) (by kernel_rfl) ?_
  intro K hK
  go_wp2_with fail
  refine Calls.mono (HOP.out _ _ _ _ _ _ _ (by omega) (by omega) (by omega) hlg ((HIF.out.below hS).pre L (by omega))) ?_
  rintro e w15 ⟨rfl, hb⟩
  replace hS := bl_next hS hS.size hb
  clear hb
  go_wp2_with fail
  refine ⟨hS, ?_⟩
  repeat (first | (refine plan_t_load (by rfl) (by kernel_rfl) 49 _ rfl gk 0 rfl K1 _ (fun y hy => rngL (bl_row hy (lt_of_block HGK.out) HGK.out)) Try.underlying49 rfl (by rw [HKL.out]; rfl) ?_; simp only [Act.put, List.setIfInBounds_toArray, List.set_cons_succ, List.set_cons_zero]) | (refine plan_t (by rfl) ?_; (first | go_big_quiet_skip | (go_big_quiet_want; go_big_quiet_op; go_big_quiet_on)); refine wpQuiet_nil ?_))
  refine plan_us (by rfl) (by kernel_rfl) ?_
  intro K hK
  go_wp2_with fail
  refine Calls.mono (HOP.out _ _ _ _ _ _ _ hcp hcm (by omega) hn (HIP.out.below hS)) ?_
  rintro e w16 ⟨rfl, hb⟩
  replace hS := bl_next hS hS.size hb
  clear hb
  go_wp2_with fail
  refine ⟨hS, ?_⟩
  repeat (first | (refine plan_t_load (by rfl) (by kernel_rfl) 49 _ rfl gk 0 rfl K1 _ (fun y hy => rngL (bl_row hy (lt_of_block HGK.out) HGK.out)) Try.underlying49 rfl (by rw [HKL.out]; rfl) ?_; simp only [Act.put, List.setIfInBounds_toArray, List.set_cons_succ, List.set_cons_zero]) | (refine plan_t (by rfl) ?_; (first | go_big_quiet_skip | (go_big_quiet_want; go_big_quiet_op; go_big_quiet_on)); refine wpQuiet_nil ?_))
  refine plan_us (by rfl) (by kernel_rfl) ?_
  intro K hK
  go_wp2_with fail
  refine Calls.mono (HO2.out _) ?_
  rintro e w17 ⟨rfl, hb⟩
  replace hS := bl_next hS hS.size hb
  clear hb
  go_wp2_with fail
  refine ⟨hS, ?_⟩
  refine plan_us (by rfl) (by kernel_rfl) ?_
  intro K hK
  go_wp2_with fail
  refine Calls.mono (HOP2.out _ _ _ _ _ _ _ hcp hcm (by omega) hlg (HIP.out.below hS)) ?_
  rintro e w18 ⟨rfl, hb⟩
  replace hS := bl_next hS hS.size hb
  clear hb
  go_wp2_with fail
  refine ⟨hS, ?_⟩
  repeat (first | (refine plan_t_load (by rfl) (by kernel_rfl) 49 _ rfl gk 0 rfl K1 _ (fun y hy => rngL (bl_row hy (lt_of_block HGK.out) HGK.out)) Try.underlying49 rfl (by rw [HKL.out]; rfl) ?_; simp only [Act.put, List.setIfInBounds_toArray, List.set_cons_succ, List.set_cons_zero]) | (refine plan_t (by rfl) ?_; (first | go_big_quiet_skip | (go_big_quiet_want; go_big_quiet_op; go_big_quiet_on)); refine wpQuiet_nil ?_))
  refine plan_us (by rfl) (by kernel_rfl) ?_
  intro K hK
  go_wp2_with fail
  refine Calls.mono ((intact_byte _ _ _ L (L + 80) _ P 165 (by omega) (by omega) (by omega) (HIF.out.below hS) (HIP.out.below hS)).makes) ?_
  rintro e w19 ⟨rfl, hb⟩
  replace hS := bl_next hS hS.size hb
  clear hb
  go_wp2_with fail
  refine ⟨hS, ?_⟩
  repeat (first | (refine plan_t_load (by rfl) (by kernel_rfl) 49 _ rfl gk 0 rfl K1 _ (fun y hy => rngL (bl_row hy (lt_of_block HGK.out) HGK.out)) Try.underlying49 rfl (by rw [HKL.out]; rfl) ?_; simp only [Act.put, List.setIfInBounds_toArray, List.set_cons_succ, List.set_cons_zero]) | (refine plan_t (by rfl) ?_; (first | go_big_quiet_skip | (go_big_quiet_want; go_big_quiet_op; go_big_quiet_on)); refine wpQuiet_nil ?_))
  clear hne2
  show Exit.then _ _ _ _ _
  replace HB := Lib.hid (bl_next HB.out HB.out.size hS)
  replace HGK := Lib.hid (bl_row hS (lt_of_block HGK.out) HGK.out)
  replace HB7 := Lib.hid (bl_next HB7.out HB7.out.size hS)
  replace HO := Lib.hid (own_below HO.out hS)
  replace HIP := Lib.hid (HIP.out.below hS)
  replace HIF := Lib.hid (HIF.out.below hS)
  clear hS
  clear HIF HOP2 HO2 HIP
  go_wp2_with fail
  refine Calls.mono (HWJ.out _) ?_
  rintro e wq ⟨rfl, rfl⟩
  obtain ⟨gy, ey, hgy, hyl, hfy, hcy, _⟩ := own_set HO.out (Below.refl _ _) (i := j) hj (.int .u8 0) rfl
  injection ey with ey
  injection ey with ey
  subst ey
  have hcj := hcy j _ (by rw [List.getElem?_map, HXJ.out]; rfl)
  have hput := own_put HO.out (i := j) hj (.int .u8 (bits .xor .u8 xj turn)) rfl
  rw [← List.map_set] at hput
  have hb := HB7.out.setCell (p := ⟨gp, 0 + j, none⟩) (Nat.le_trans HBS.out hgy) (.int .u8 (bits .xor .u8 xj turn))
  rw [Nat.zero_add] at hb
  clear hcy hyl hgy
  go_upto_region 14 with fail
  generalize w19.setCell ⟨gp, j, none⟩ (.int .u8 (bits .xor .u8 xj turn)) = wf at hput hb ⊢
  replace HGK := Lib.hid (bl_row hb (lt_of_block HGK7.out) HGK7.out)
  replace HB := Lib.hid (bl_next HBW.out HBW.out.size hb)
  clear hb HGK7 HBW HB7 hcp hcm
  obtain ⟨_, _, ey, hcp, hiy, _⟩ := ints_of_own hput HYW.out
  have hcm := own_capm hput _ _ _ rfl
  injection ey with e1 e2 e3
  subst e1; subst e3
  clear e2 hput hfy hcj HO
  have HIY := Lib.hid (hiy)
  clear hiy
  go_wp2_with (first | (refine wpList_load_mid rfl 49 _ rfl gk 0 rfl K1 _ (rngL HGK.out) Try.underlying49 rfl (by rw [HKL.out]; rfl) ?_) | fail)
  refine Calls.mono (HOP.out _ _ _ _ _ _ _ hcp hcm (by omega) hn HIY.out) ?_
  rintro e w20 ⟨rfl, hb⟩
  replace HB := Lib.hid (bl_next HB.out HB.out.size hb)
  replace HGK := Lib.hid (bl_row hb (lt_of_block HGK.out) HGK.out)
  replace HIY := Lib.hid (HIY.out.below hb)
  clear hb
  go_wp2_with fail
  refine Calls.mono (HKN.out _) ?_
  rintro e w21 ⟨rfl, hb⟩
  replace HB := Lib.hid (bl_next HB.out HB.out.size hb)
  replace HGK := Lib.hid (bl_row hb (lt_of_block HGK.out) HGK.out)
  replace HIY := Lib.hid (HIY.out.below hb)
  clear hb
  go_wp2_with fail
  go_ret
  exact ⟨rfl, HB.out⟩
end Go.Proofs.Ythofbckkjcidmaa
namespace Go.Proofs.Ythofbckkjcidmaa
open Go.RowKit
set_option linter.unusedVariables false

set_option maxHeartbeats 2000000 in
theorem tells9_any (w : World) (secret other : Int) (q : HX) (n0 largest : Int) (has : Bool) (pa : Option Addr) (pl pc : Nat) (pz : List Int) (ba : Option Addr) (bl bc : Nat) (bz : List Int) (att turn : Int)
    (hq : q.ok w) (hn0 : 0 ≤ n0 ∧ n0 < 18446744073709551616) (hlg : 0 ≤ largest ∧ largest < 18446744073709551616) (hat : -9223372036854775808 ≤ att ∧ att ≤ 9223372036854775807)
    (hpl : pl ≤ pc) (hpc : pc ≤ 9223372036854775807) (hP : IntsK .u8 w pa pl pz) (hbl : bl ≤ bc) (hbc : bc ≤ 9223372036854775807) (hB : IntsK .u8 w ba bl bz) :
    Makes Try.prog 6 #[.int .u64 secret, .int .u64 other, q.val, .int .u64 n0, .int .u64 largest, .bool has, .slice pa pl pc, .slice ba bl bc, .int .i64 att, .int .u8 turn] w (.bool true) := by
  have hok := keepH_ok q.s q.t q.f q.w q.k q.p hq.ints.2.1
  have hri := keepH_right q.s q.t q.f q.w q.k q.p
  have hkl := keepH_k q.s q.t q.f q.w q.k q.p
  have hkh := fun w1 (hb : Below w.heap.size w w1) => khead_any w1 q.s q.t q.f q.w q.a q.tl q.tc q.k q.p hq.le hq.max (hq.ints.below hb) hq.bs hq.bt hq.bf hq.bw
  generalize keepH q.s q.t q.f q.w q.k q.p = h at hok hri hkl hkh
  have hrp := (hrightM_eq h).1 hri
  have hw1 := hrp.1; have hw4 := hrp.2.1
  have hKH : ∀ w1, Below w.heap.size w w1 → Calls Try.prog 8 #[.agg q.row.toArray] w1 fun e w' => Below w1.heap.size w1 w' ∧ ∃ b tc, e = .returned (.agg (h.row b tc).toArray) ∧ IntsK .u8 w' b h.k.length h.k := fun w1 hb => (hkh w1 hb).mono fun e w' ⟨b, he, hb, hi⟩ => ⟨hb, b, _, he, hi⟩
  have hs := smallM_in n0
  have hsm := fun w => small_any w n0 hn0
  generalize smallM n0 = n at hs hsm
  have hPq := hP.pre (min pl 100) (by omega)
  have hBq := hB.pre (min bl 80) (by omega)
  obtain ⟨pq, hpq⟩ : ∃ pq, min pl 100 = pq := ⟨_, rfl⟩
  obtain ⟨bq, hbq⟩ : ∃ bq, min bl 80 = bq := ⟨_, rfl⟩
  have hc1 := fun w1 => cut_any w1 pa pl pc 100 hpl hpc
  have hc2 := fun w1 => cut_any w1 ba bl bc 80 hbl hbc
  rw [hpq] at hPq hc1
  rw [hbq] at hBq hc2
  generalize pz.take pq = ps at hPq
  generalize bz.take bq = bs at hBq
  have hpsl := hPq.1
  have hfl : ([102, 111, 117, 114] ++ ps).length = 4 + pq := by rw [List.length_append, hpsl]; rfl
  have hfw := four_wf hPq.2.1
  obtain ⟨k1, hk1⟩ : ∃ k, keyedM secret [115, 101, 97, 108] = k := ⟨_, rfl⟩
  obtain ⟨k2, hk2⟩ : ∃ k, keyedM secret [109, 97, 115, 107] = k := ⟨_, rfl⟩
  have hof := fun w1 => rkeysof_any w1 secret
  rw [hk1, hk2] at hof
  have hof2 := fun w1 => rkeysof_any w1 other
  obtain ⟨o1, ho1⟩ : ∃ k, keyedM other [115, 101, 97, 108] = k := ⟨_, rfl⟩
  obtain ⟨o2, ho2⟩ : ∃ k, keyedM other [109, 97, 115, 107] = k := ⟨_, rfl⟩
  rw [ho1, ho2] at hof2
  have hel := fun m => encH_le2 h hok hkl m
  obtain ⟨P, hPr⟩ := prot_some (ks := k1) (km := k2) (n := n) (h := h) (pl := [102, 111, 117, 114] ++ ps) hrp hs.2 (by rw [hfl]; omega) (by have := (hel (h.w + ([102, 111, 117, 114] ++ ps).length + 8)).2; rw [hfl] at this ⊢; omega)
  have hPL := prot_len hPr
  have hPW := protM_wf hPr hok hfw
  have hL : 1 ≤ P.length ∧ P.length ≤ 600 := by
    have := hel (h.w + ([102, 111, 117, 114] ++ ps).length + 8)
    rw [hPL, hfl]; rw [hfl] at this; omega
  have hwj := within_in att 0 ((P.length : Int) - 1) (by omega)
  have hwb := fun w => within_any w att 0 ((P.length : Int) - 1) (by omega) (by omega) (by omega) hat
  obtain ⟨j, ej⟩ : ∃ j : Nat, within att 0 ((P.length : Int) - 1) = j := ⟨(within att 0 ((P.length : Int) - 1)).toNat, by omega⟩
  rw [ej] at hwj hwb
  have hj : j < P.length := by omega
  exact tells9_core w q.row [.int .u64 k1, .int .u64 k2] [.int .u64 o1, .int .u64 o2] secret other n0 n largest att turn has pa ba pl pc pq bl bc bq ps bs h h.k.length P.length j h.k P P[j]
    (Lib.hid fun a tc => ⟨row_len h a tc hok.lt hok.lf, row_one h a tc⟩) (Lib.hid rfl) (Lib.hid rfl) (Lib.hid (by intro v hv; simp only [List.mem_cons, List.not_mem_nil, or_false] at hv; rcases hv with rfl | rfl <;> rfl))
    (by omega) (by omega) (by omega) hbc hlg ⟨hs.1, by omega⟩ (Lib.hid hPq) (Lib.hid hBq) (Lib.hid hKH) (Lib.hid hof) (Lib.hid hof2) (Lib.hid hc1) (Lib.hid hc2) (Lib.hid hsm)
    (Lib.hid fun w1 b tc h1 h2 => protects_any w1 k1 k2 n h b tc pa pq pc ps hok (by omega) h1 ⟨by omega, by omega⟩ ⟨hs.1, by omega⟩ (by omega) h2)
    (Lib.hid fun w1 a len cap xs lg hs h1 h2 h3 h4 h5 => opens_any w1 k1 k2 a len cap xs lg hs h1 h2 h3 h4 h5)
    (Lib.hid fun w1 a len cap xs lg hs h1 h2 h3 h4 h5 => opens_any w1 o1 o2 a len cap xs lg hs h1 h2 h3 h4 h5)
    (Lib.hid fun w1 b tc a' cp h1 h2 => (rprotect_any w1 k1 k2 n h b tc a' (4 + pq) cp ([102, 111, 117, 114] ++ ps) hok (by omega) h1 ⟨by omega, by omega⟩ ⟨hs.1, by omega⟩ (by omega) h2).mono fun e w' hr => by
      obtain ⟨hb, ⟨hnone, _⟩ | ⟨b', g, cap', hsome, he, _, ho⟩⟩ := hr
      · rw [hPr] at hnone; cases hnone
      · obtain rfl : b' = P := by have := hPr.symm.trans hsome; injection this with this; exact this.symm
        exact ⟨hb, g, cap', he, ho⟩)
    hL (Lib.hid rfl) (Lib.hid hPW) hj (Lib.hid (List.getElem?_eq_getElem hj)) (Lib.hid (set_wf hPW j _ (wf_bits _ _ _ _))) (Lib.hid hwb) (Lib.hid known9_any)
end Go.Proofs.Ythofbckkjcidmaa
