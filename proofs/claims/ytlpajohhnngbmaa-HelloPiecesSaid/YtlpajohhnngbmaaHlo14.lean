/- hello: HelloPieces. -/
import Derived.Test.YtlpajohhnngbmaaHlo13
namespace Go.Proofs.Ytlpajohhnngbmaa
open Go.RowKit
set_option linter.unusedVariables false
set_option linter.unusedSimpArgs false

theorem encP_ge (p : Pm) (h : p.f.length = 8) : 8 ≤ (encP p).length := by
  unfold encP
  simp only [List.length_append]
  omega
theorem wrapH (x : Int) : 0 ≤ IntKind.wrap .u64 x ∧ IntKind.wrap .u64 x < 18446744073709551616 := by
  simp only [IntKind.wrap, IntKind.signed, IntKind.bits]; simp; omega
theorem ints_ltH {k : IntKind} {w : World} {g o n : Nat} {xs : List Int} (h : IntsK k w (some ⟨g, o, none⟩) n xs) (hn : 0 < n) : g < w.heap.size := by
  rcases h.2.2 with h0 | ⟨b, off, e, hb, _⟩
  · omega
  · injection e with e; injection e with e1 e2; rw [e1]; exact hb
set_option maxRecDepth 100000 in
set_option maxHeartbeats 16000000 in
theorem pieces19_any (w : World) (psk r a b c d cut turn bit : Int) (hr : 0 ≤ r ∧ r < 18446744073709551616) (ha : 0 ≤ a ∧ a < 18446744073709551616) (hb : 0 ≤ b ∧ b < 18446744073709551616) (hc : 0 ≤ c ∧ c < 18446744073709551616) (hd : 0 ≤ d ∧ d < 18446744073709551616)
    (hcut : -9223372036854775808 ≤ cut ∧ cut ≤ 9223372036854775807) (hturn : -9223372036854775808 ≤ turn ∧ turn ≤ 9223372036854775807) :
    Makes Try.prog 3 #[.int .u64 psk, .int .u64 r, .int .u64 a, .int .u64 b, .int .u64 c, .int .u64 d, .int .i64 cut, .int .i64 turn, .int .u8 bit] w (.bool true) := by
  have HKP := Lib.hid (fun W => kparams_any W a b c d 1 ha hb hc hd (by omega))
  have HKQ := Lib.hid (fun W => kparams_any W d a c b 2 hd ha hc hb (by omega))
  have hpo := keepM_ok a b c d 1; have hpr := keepM_right a b c d 1
  have hqo := keepM_ok d a c b 2; have hqr := keepM_right d a c b 2
  generalize keepM a b c d 1 = P at HKP hpo hpr
  generalize keepM d a c b 2 = Q at HKQ hqo hqr
  have HRX := Lib.hid (fun W => random_any W r hr)
  have HRY := Lib.hid (fun W => random_any W (IntKind.wrap .u64 (r + 1)) (wrapH _))
  have HAX := Lib.hid (fun W => Ask_any W psk (rndM r) P rfl (rndM_wf r) hpo hpr)
  have HAY := Lib.hid (fun W => Answer_any W psk (rndM (IntKind.wrap .u64 (r + 1))) Q rfl (rndM_wf _) hqo hqr)
  have hml : (msgM 1 (rndM r ++ encP P)).length = 11 + (encP P).length := by rw [msgM_len, List.length_append]; show 3 + (8 + (encP P).length) = _; omega
  have hle := encP_le P hpo.len; have hge := encP_ge P hpo.len
  have HML : Hid (19 ≤ (msgM 1 (rndM r ++ encP P)).length ∧ (msgM 1 (rndM r ++ encP P)).length ≤ 200) := Lib.hid (by omega)
  have HOX : Hid (outM (askM psk (rndM r) P) false = msgM 1 (rndM r ++ encP P)) := Lib.hid rfl
  have HSY : Hid ((answerM psk (rndM (IntKind.wrap .u64 (r + 1))) Q).i0 = [] ∧ (answerM psk (rndM (IntKind.wrap .u64 (r + 1))) Q).h0 = false ∧ (answerM psk (rndM (IntKind.wrap .u64 (r + 1))) Q).code = 0 ∧ (answerM psk (rndM (IntKind.wrap .u64 (r + 1))) Q).i1 = []) := Lib.hid ⟨rfl, rfl, rfl, rfl⟩
  generalize answerM psk (rndM (IntKind.wrap .u64 (r + 1))) Q = s at HAY HSY
  generalize askM psk (rndM r) P = sx at HAX HOX
  obtain ⟨m0, hm0⟩ : ∃ m, msgM 1 (rndM r ++ encP P) = m := ⟨_, rfl⟩
  rw [hm0] at HML HOX
  obtain ⟨X, hX⟩ : ∃ X, (rndM r).map (Value.int .u8) = X := ⟨_, rfl⟩
  obtain ⟨Y, hY⟩ : ∃ Y, (rndM (IntKind.wrap .u64 (r + 1))).map (Value.int .u8) = Y := ⟨_, rfl⟩
  rw [hX] at HRX HAX
  rw [hY] at HRY HAY
  have HPV : Hid (P.val = .agg P.row.toArray) := Lib.hid rfl
  have HQV : Hid (Q.val = .agg Q.row.toArray) := Lib.hid rfl
  have HD1L := Lib.hid (pm_len hpo.len); have HD1O := Lib.hid (pm_one P)
  have HD2L := Lib.hid (pm_len hqo.len); have HD2O := Lib.hid (pm_one Q)
  rw [HPV.out] at HKP HAX
  rw [HQV.out] at HKQ HAY
  generalize P.row = D1 at HKP HAX HD1L HD1O
  generalize Q.row = D2 at HKQ HAY HD2L HD2O
  have HB := Lib.hid (Below.refl w.heap.size w)
  clear hm0 hX hY HPV HQV hml hle hge hpo hpr hqo hqr
  go_enter Try.func3, Try.ntmps3
  go_wp2_with fail
  refine Calls.mono (HKP.out _) ?_
  rintro e w1 ⟨rfl, hb⟩
  replace HB := Lib.hid (bl_next HB.out HB.out.size hb)
  clear hb
  go_wp2_with fail
  refine Calls.mono (HKQ.out _) ?_
  rintro e w2 ⟨rfl, hb⟩
  replace HB := Lib.hid (bl_next HB.out HB.out.size hb)
  clear hb
  have hA1 := (Below.refl w2.heap.size w2).alloc (Nat.le_refl _) (.cells ((.int .u64 0 :: .int .u64 0 :: .int .u64 0 :: .int .u64 0 :: .int .u8 0 :: .int .u8 0 :: .int .u8 0 :: .int .u8 0 :: .int .u8 0 :: .int .u8 0 :: .int .u8 0 :: .int .u8 0 :: [])).toArray 26)
  have hs1 : (w2.alloc (.cells ((.int .u64 0 :: .int .u64 0 :: .int .u64 0 :: .int .u64 0 :: .int .u8 0 :: .int .u8 0 :: .int .u8 0 :: .int .u8 0 :: .int .u8 0 :: .int .u8 0 :: .int .u8 0 :: .int .u8 0 :: [])).toArray 26)).heap.size = w2.heap.size + 1 := by simp
  have hA2 := (Below.refl (w2.alloc (.cells ((.int .u64 0 :: .int .u64 0 :: .int .u64 0 :: .int .u64 0 :: .int .u8 0 :: .int .u8 0 :: .int .u8 0 :: .int .u8 0 :: .int .u8 0 :: .int .u8 0 :: .int .u8 0 :: .int .u8 0 :: [])).toArray 26)).heap.size (w2.alloc (.cells ((.int .u64 0 :: .int .u64 0 :: .int .u64 0 :: .int .u64 0 :: .int .u8 0 :: .int .u8 0 :: .int .u8 0 :: .int .u8 0 :: .int .u8 0 :: .int .u8 0 :: .int .u8 0 :: .int .u8 0 :: [])).toArray 26))).alloc (Nat.le_refl _) (.cells ((.int .u64 0 :: .int .u64 0 :: .int .u64 0 :: .int .u64 0 :: .int .u8 0 :: .int .u8 0 :: .int .u8 0 :: .int .u8 0 :: .int .u8 0 :: .int .u8 0 :: .int .u8 0 :: .int .u8 0 :: [])).toArray 26)
  have hrA := bl_row hA2 (lt_of_block (heap_alloc_new w2 (.cells ((.int .u64 0 :: .int .u64 0 :: .int .u64 0 :: .int .u64 0 :: .int .u8 0 :: .int .u8 0 :: .int .u8 0 :: .int .u8 0 :: .int .u8 0 :: .int .u8 0 :: .int .u8 0 :: .int .u8 0 :: [])).toArray 26))) (heap_alloc_new w2 (.cells ((.int .u64 0 :: .int .u64 0 :: .int .u64 0 :: .int .u64 0 :: .int .u8 0 :: .int .u8 0 :: .int .u8 0 :: .int .u8 0 :: .int .u8 0 :: .int .u8 0 :: .int .u8 0 :: .int .u8 0 :: [])).toArray 26))
  have hrB := heap_alloc_new (w2.alloc (.cells ((.int .u64 0 :: .int .u64 0 :: .int .u64 0 :: .int .u64 0 :: .int .u8 0 :: .int .u8 0 :: .int .u8 0 :: .int .u8 0 :: .int .u8 0 :: .int .u8 0 :: .int .u8 0 :: .int .u8 0 :: [])).toArray 26)) (.cells ((.int .u64 0 :: .int .u64 0 :: .int .u64 0 :: .int .u64 0 :: .int .u8 0 :: .int .u8 0 :: .int .u8 0 :: .int .u8 0 :: .int .u8 0 :: .int .u8 0 :: .int .u8 0 :: .int .u8 0 :: [])).toArray 26)
  rw [hs1] at hrB
  have hAA := bl_next hA1 hA1.size hA2
  clear hs1
  go_upto_region 2 with (first | (refine wpList_store_row rfl 26 _ _ rfl w2.heap.size rfl D1 (.int .u64 0 :: .int .u64 0 :: .int .u64 0 :: .int .u64 0 :: .int .u8 0 :: .int .u8 0 :: .int .u8 0 :: .int .u8 0 :: .int .u8 0 :: .int .u8 0 :: .int .u8 0 :: .int .u8 0 :: []) rfl 26 hrA (by rw [HD1L.out]; rfl) (by rw [HD1L.out]; rfl) HD1O.out ?_; intro wa ha1 hga; have hrB2 := grown_row hga (by intro e; injection e with e; omega) hrB) | (refine wpList_store_row rfl 26 _ _ rfl (w2.heap.size + 1) rfl D2 (.int .u64 0 :: .int .u64 0 :: .int .u64 0 :: .int .u64 0 :: .int .u8 0 :: .int .u8 0 :: .int .u8 0 :: .int .u8 0 :: .int .u8 0 :: .int .u8 0 :: .int .u8 0 :: .int .u8 0 :: []) rfl 26 hrB2 (by rw [HD2L.out]; rfl) (by rw [HD2L.out]; rfl) HD2O.out ?_; intro wb hb2 hgb) | fail)
  have hbz : Below w2.heap.size w2 wb := (hAA.grown hga hAA.size (by intro k hk; injection hk with hk; omega)).grown hgb (hAA.grown hga hAA.size (by intro k hk; injection hk with hk; omega)).size (by intro k hk; injection hk with hk; omega)
  have HG1 := Lib.hid (grown_row hgb (by intro e; injection e with e; omega) ha1); have HG2 := Lib.hid hb2
  replace HB := Lib.hid (bl_next HB.out HB.out.size hbz)
  obtain ⟨g1, hg1⟩ : ∃ g, w2.heap.size = g := ⟨_, rfl⟩
  rw [hg1] at HG1 HG2 ⊢
  clear hg1 hbz ha1 hb2 hga hgb hrA hrB hrB2 hAA hA1 hA2 HKP HKQ
  obtain ⟨g2, hg2⟩ : ∃ g, g1 + 1 = g := ⟨_, rfl⟩
  rw [hg2] at HG2 ⊢
  clear hg2
  simp only [Act.put]
  refine wp_plan (.t 0 (.t 1 (.t 3 (.t 5 (.t 6 (.t 7 (.t 9 (.t 11 (.t 12 (.t 13 (.t 15 (.u 2 (.u 4 (.u 8 (.u 10 (.u 14 (.u 16 (.t 17 (.t 18 (.t 19 .done)))))))))))))))))))) (fun y => Below wb.heap.size wb y) (by kernel_rfl) (by kernel_rfl) (by kernel_rfl) (fun c a d v w h => by cases d <;> exact h) (Below.refl _ _).drew ?_
  have hS : Below wb.heap.size wb wb.drew := (Below.refl _ _).drew
  generalize wb.drew = W0 at hS ⊢
  haveI hne2 : Nonempty (In (fun y => Below wb.heap.size wb y)) := ⟨⟨wb, Below.refl _ _⟩⟩
  repeat (first | (refine plan_t_load (by rfl) (by kernel_rfl) 26 _ rfl g1 0 rfl D1 _ (fun y hy => rngL (bl_row hy (lt_of_block HG1.out) HG1.out)) Try.underlying26 rfl (by rw [HD1L.out]; rfl) ?_; simp only [Act.put, List.setIfInBounds_toArray, List.set_cons_succ, List.set_cons_zero]) | (refine plan_t_load (by rfl) (by kernel_rfl) 26 _ rfl g2 0 rfl D2 _ (fun y hy => rngL (bl_row hy (lt_of_block HG2.out) HG2.out)) Try.underlying26 rfl (by rw [HD2L.out]; rfl) ?_; simp only [Act.put, List.setIfInBounds_toArray, List.set_cons_succ, List.set_cons_zero]) | (refine plan_t (by rfl) ?_; (first | go_big_quiet_skip | (go_big_quiet_want; go_big_quiet_op; go_big_quiet_on)); refine wpQuiet_nil ?_))
  refine plan_us (by rfl) (by kernel_rfl) ?_
  intro K hK
  go_wp2_with fail
  refine Calls.mono (HRX.out _) ?_
  rintro e w11 ⟨rfl, hb⟩
  replace hS := bl_next hS hS.size hb
  clear hb
  go_wp2_with fail
  refine ⟨hS, ?_⟩
  refine plan_us (by rfl) (by kernel_rfl) ?_
  intro K hK
  go_wp2_with fail
  have hszx : wb.heap.size ≤ w11.heap.size := hS.size
  refine Calls.mono (HAX.out _) ?_
  rintro e w12 ⟨px, Jx, ax0, ax1, kx0, kx1, rfl, hb, hpx, hJx, hsx⟩
  replace hS := bl_next hS hS.size hb
  clear hb
  go_wp2_with fail
  refine ⟨hS, ?_⟩
  refine plan_us (by rfl) (by kernel_rfl) ?_
  intro K hK
  go_wp2_with fail
  refine Calls.mono (HRY.out _) ?_
  rintro e w13 ⟨rfl, hb⟩
  replace hS := bl_next hS hS.size hb
  replace hsx := hsx.below hb
  clear hb
  go_wp2_with fail
  refine ⟨hS, ?_⟩
  refine plan_us (by rfl) (by kernel_rfl) ?_
  intro K hK
  go_wp2_with fail
  have hszy : wb.heap.size ≤ w13.heap.size := hS.size
  refine Calls.mono (HAY.out _) ?_
  rintro e w14 ⟨py, Jy, ay0, ay1, ky0, ky1, rfl, hb, hpy, hJy, hsy⟩
  have hdxy : ∀ u, (u ∈ [px] ∨ u ∈ Jx) → u < w13.heap.size := hsx.lt
  replace hS := bl_next hS hS.size hb
  replace hsx := hsx.below hb
  clear hb
  go_wp2_with fail
  refine ⟨hS, ?_⟩
  refine plan_us (by rfl) (by kernel_rfl) ?_
  intro K hK
  go_wp2_with fail
  refine Calls.mono (HRY.out _) ?_
  rintro e w15 ⟨rfl, hb⟩
  replace hS := bl_next hS hS.size hb
  replace hsx := hsx.below hb
  replace hsy := hsy.below hb
  clear hb
  go_wp2_with fail
  refine ⟨hS, ?_⟩
  refine plan_us (by rfl) (by kernel_rfl) ?_
  intro K hK
  go_wp2_with fail
  have hszz : wb.heap.size ≤ w15.heap.size := hS.size
  refine Calls.mono (HAY.out _) ?_
  rintro e w16 ⟨pz, Jz, az0, az1, kz0, kz1, rfl, hb, hpz, hJz, hsz⟩
  have hdxz : ∀ u, (u ∈ [px] ∨ u ∈ Jx) → u < w15.heap.size := hsx.lt
  have hdyz : ∀ u, (u ∈ [py] ∨ u ∈ Jy) → u < w15.heap.size := hsy.lt
  replace hS := bl_next hS hS.size hb
  replace hsx := hsx.below hb
  replace hsy := hsy.below hb
  clear hb
  go_wp2_with fail
  refine ⟨hS, ?_⟩
  repeat (first | (refine plan_t_load (by rfl) (by kernel_rfl) 26 _ rfl g1 0 rfl D1 _ (fun y hy => rngL (bl_row hy (lt_of_block HG1.out) HG1.out)) Try.underlying26 rfl (by rw [HD1L.out]; rfl) ?_; simp only [Act.put, List.setIfInBounds_toArray, List.set_cons_succ, List.set_cons_zero]) | (refine plan_t_load (by rfl) (by kernel_rfl) 26 _ rfl g2 0 rfl D2 _ (fun y hy => rngL (bl_row hy (lt_of_block HG2.out) HG2.out)) Try.underlying26 rfl (by rw [HD2L.out]; rfl) ?_; simp only [Act.put, List.setIfInBounds_toArray, List.set_cons_succ, List.set_cons_zero]) | (refine plan_t (by rfl) ?_; (first | go_big_quiet_skip | (go_big_quiet_want; go_big_quiet_op; go_big_quiet_on)); refine wpQuiet_nil ?_))
  clear hne2
  show Exit.then _ _ _ _ _
  have HX := Lib.hid hsx; have HY := Lib.hid hsy; have HZ := Lib.hid hsz
  have HYZ : Hid (∀ u, (u ∈ [py] ∨ u ∈ Jy) → (u ≠ pz ∧ u ∉ Jz)) := Lib.hid (fun u hu => by have h1 := hdyz u hu; refine ⟨by omega, fun hj => ?_⟩; have := hJz u hj; omega)
  have HPP : Hid (w.heap.size ≤ py ∧ w.heap.size ≤ pz) := Lib.hid ⟨Nat.le_trans HB.out.size (Nat.le_trans hszy hpy), Nat.le_trans HB.out.size (Nat.le_trans hszz hpz)⟩
  replace HB := Lib.hid (bl_next HB.out HB.out.size hS)
  replace HG1 := Lib.hid (bl_row hS (lt_of_block HG1.out) HG1.out)
  replace HG2 := Lib.hid (bl_row hS (lt_of_block HG2.out) HG2.out)
  clear hS hsx hsy hsz hdxy hdxz hdyz hJx hJy hJz hpx hpy hpz hszx hszy hszz
  clear HG1 HG2 HD1L HD1O HD2L HD2O HRX HRY HAX HAY
  go_upto_region 5 with fail
  have HPS := Lib.hid HB.out.size
  go_wp2_with fail
  change Calls _ _ _ (w16.alloc (.cells #[] 5)) _
  have hal := (Below.refl w16.heap.size w16).alloc (Nat.le_refl _) (.cells #[] 5)
  have hown := World.ownsRow_made (base := w16.heap.size) (e := 5) (size := 1) w16 #[] 0 (Nat.le_refl _) (by unfold maxLen; omega) rfl
  have HB7 := Lib.hid hal; have HO := Lib.hid hown; have HX7 := Lib.hid (HX.out.below hal)
  clear hal hown HX
  generalize w16.alloc (.cells #[] 5) = w17 at HB7 HO HX7 ⊢
  refine Calls.mono (Out_any w17 _ _ _ _ _ _ _ _ _ _ _ _ HX7.out false) ?_
  rintro e w18 ⟨v, rfl, hb, ho, hwf, _⟩
  rw [HOX.out] at ho hwf
  obtain ⟨oa, oc, rfl, _, hoi, _⟩ := ints_of_own ho hwf
  replace HB7 := Lib.hid (bl_next HB7.out HB7.out.size hb); replace HO := Lib.hid (own_below HO.out hb)
  have HMW := Lib.hid hwf
  clear hb ho hwf HX7 HOX
  have hml := HML.out
  go_upto_region 6 with (first | (at_builtin; refine wpList_append_bytes rfl _ _ rfl w16.heap.size 0 _ [] rfl HO.out _ _ _ _ rfl hoi (by omega) HB7.out.size ?_; intro m w19 hown hgrow; obtain ⟨bm, cm, rfl, _⟩ := own_slice hown; have HM := Lib.hid hown; have HB8 := Lib.hid (HB7.out.grown hgrow HB7.out.size (fun k hk => own_base HO.out k hk)); clear hown hgrow) | fail)
  clear hoi HO HB7
  have hm8 := HM.out
  rw [Nat.zero_add, List.nil_append] at hm8
  replace HM := Lib.hid hm8
  clear hm8
  obtain ⟨L, hL⟩ : ∃ L, m0.length = L := ⟨_, rfl⟩
  rw [hL] at HM hml ⊢
  have hjw := within_in turn 0 ((L : Int) - 1) (by omega)
  have HWJ := Lib.hid (fun W => within_any W turn 0 ((L : Int) - 1) (by omega) (by omega) (by omega) hturn)
  obtain ⟨j, ej⟩ : ∃ j : Nat, within turn 0 ((L : Int) - 1) = j := ⟨(within turn 0 ((L : Int) - 1)).toNat, by omega⟩
  rw [ej] at hjw HWJ
  have hjl : j < L := by omega
  clear hjw ej
  have hkw := within_in cut 0 (L : Int) (by omega)
  have HWK := Lib.hid (fun W => within_any W cut 0 (L : Int) (by omega) (by omega) (by omega) hcut)
  obtain ⟨k, ek⟩ : ∃ k : Nat, within cut 0 (L : Int) = k := ⟨(within cut 0 (L : Int)).toNat, by omega⟩
  rw [ek] at hkw HWK
  have hkl : k ≤ L := by omega
  clear hkw ek
  obtain ⟨mj, hmj⟩ : ∃ x, m0[j]? = some x := ⟨_, List.getElem?_eq_getElem (by omega)⟩
  have HMJ := Lib.hid hmj
  have HPYZ : Hid (∀ u, (u ∈ [py] ∨ u ∈ Jy) → u < w16.heap.size) := Lib.hid HY.out.lt
  have HPZ : Hid (pz < w16.heap.size) := Lib.hid (HZ.out.lt _ (.inl (by simp)))
  clear hmj HML
  go_wp2_with fail
  refine Calls.mono (HWJ.out _) ?_
  rintro e wq ⟨rfl, rfl⟩
  obtain ⟨gm, rfl, hgy, hyl, hfy, hcy, _⟩ := own_set HM.out (Below.refl _ _) (i := j) hjl (.int .u8 0) rfl
  have hcj := hcy j _ (by rw [List.getElem?_map, HMJ.out]; rfl)
  have hput := own_put HM.out (i := j) hjl (.int .u8 (bits .xor .u8 mj bit)) rfl
  rw [← List.map_set] at hput
  have hb := HB8.out.setCell (p := ⟨gm, 0 + j, none⟩) hgy (.int .u8 (bits .xor .u8 mj bit))
  rw [Nat.zero_add] at hb
  have HGM := Lib.hid hgy
  clear hcy hyl hgy
  go_upto_region 9 with fail
  generalize w19.setCell ⟨gm, j, none⟩ (.int .u8 (bits .xor .u8 mj bit)) = wf at hput hb ⊢
  replace HY := Lib.hid (HY.out.below hb); replace HZ := Lib.hid (HZ.out.below hb); replace HB := Lib.hid (bl_next HB.out HB.out.size hb)
  have HSZ := Lib.hid hb.size
  clear hb HB8
  have hwf := set_wf HMW.out j (bits .xor .u8 mj bit) (wf_bits _ _ _ _)
  have hln : (m0.set j (bits .xor .u8 mj bit)).length = L := by rw [List.length_set, hL]
  generalize m0.set j (bits .xor .u8 mj bit) = m at hput hwf hln
  obtain ⟨_, _, ey, hcp, hix, _⟩ := ints_of_own hput hwf
  injection ey with e1 e2 e3
  subst e1; subst e3
  clear e2 hput hfy hcj HM HWJ HMW HMJ hL
  have HIM := Lib.hid hix
  clear hix
  have hpl := pieces_law s m k HSY.out.1 HSY.out.2.1 HSY.out.2.2.1 (by omega) (by omega)
  have hin := Feed_in s (m.take k)
  rw [HSY.out.1, HSY.out.2.2.2] at hin
  obtain ⟨⟨sy, cw⟩, hfw⟩ : ∃ r, FeedM s 0 m = r := ⟨_, rfl⟩
  obtain ⟨⟨sz1, c1⟩, hf1⟩ : ∃ r, FeedM s 0 (m.take k) = r := ⟨_, rfl⟩
  rw [hfw, hf1] at hpl
  rw [hf1] at hin
  obtain ⟨⟨sz, c2⟩, hf2⟩ : ∃ r, FeedM sz1 0 (m.drop k) = r := ⟨_, rfl⟩
  simp only [hf2] at hpl
  simp only at hin
  obtain ⟨hal, rfl, hc1⟩ := hpl
  have HFW := Lib.hid hfw; have HF1 := Lib.hid hf1; have HF2 := Lib.hid hf2; have HAL := Lib.hid hal; have HC1 := Lib.hid hc1
  have HIN : Hid (sz1.i0.length + sz1.i1.length ≤ L) := Lib.hid (by rw [hin.2]; have := hin.1; simp only [List.length_nil, List.length_take] at this ⊢; omega)
  clear hfw hf1 hf2 hal hc1 hin
  go_wp2_with fail
  refine Calls.mono (HWK.out _) ?_
  rintro e wq ⟨rfl, rfl⟩
  go_wp2_with fail
  refine Calls.mono (Feed_any wf py [py] Jy s ay0 ay1 none none ky0 ky1 0 0 HY.out 0 _ L _ m (by rw [HSY.out.1, HSY.out.2.2.2]; simp; omega) HIM.out) ?_
  rintro e wg hF
  rw [HFW.out] at hF
  change FedR _ _ _ _ sy c2 e wg at hF
  obtain ⟨rfl, My, Ny, y0, y1, v0, v1, l0, l1, n0, n1, hs, ho, hm, hk⟩ := hF
  have hpy1 := HPYZ.out py (.inl (by simp))
  have hpn := HYZ.out py (.inl (by simp))
  have hg1 := HGM.out; have hg2 := HPZ.out; have hsz := HSZ.out
  replace HB := Lib.hid (HB.out.trans (ho.below HB.out.size (fun x hx => by rw [List.mem_singleton.1 hx]; exact HPP.out.1)))
  replace HZ := Lib.hid (HZ.out.off ho (fun x hx => by rw [List.mem_singleton.1 hx]; simpa using hpn.1) (fun x hx => by rw [List.mem_singleton.1 hx]; exact hpn.2))
  replace HIM := Lib.hid (HIM.out.off ho (fun _ x hx => by injection hx with hx; subst hx; simp; omega))
  have HYD : Hid (∀ u, (u ∈ My ∨ u ∈ Ny) → u ≠ pz ∧ u < wg.heap.size) := Lib.hid (fun u hu => ⟨by rcases hu with hu | hu; (rcases hm u hu with h1 | h1; (exact (HYZ.out u (.inl h1)).1); omega); (rcases hk u hu with h1 | h1; (exact (HYZ.out u (.inr h1)).1); omega), hs.lt u hu⟩)
  replace HY := Lib.hid hs
  have hgz : gm < wg.heap.size := by have := ints_ltH HIM.out (by omega); exact this
  clear hs ho hm hk hpn HYZ HFW
  have HPZL := Lib.hid HPP.out.2; have HWG := Lib.hid HB.out.size
  clear hpy1 hg1 hg2 hsz HSZ
  have hkc : k ≤ cm := by omega
  go_wp2_with fail
  refine Calls.mono (Feed_any wg pz [pz] Jz s az0 az1 none none kz0 kz1 0 0 HZ.out 0 _ k _ (m.take k) (by rw [HSY.out.1, HSY.out.2.2.2]; simp; omega) (HIM.out.pre k hkl)) ?_
  rintro e wh hF
  rw [HF1.out] at hF
  change FedR _ _ _ _ sz1 c1 e wh at hF
  obtain ⟨rfl, Mz, Nz, z0, z1, u0, u1, q0, q1, r0, r1, hs, ho, hm, hk⟩ := hF
  have hg1 := HGM.out; have hg2 := HPZ.out
  replace HB := Lib.hid (HB.out.trans (ho.below HB.out.size (fun x hx => by rw [List.mem_singleton.1 hx]; exact HPP.out.2)))
  replace HY := Lib.hid (HY.out.off ho (fun x hx hy => by rw [List.mem_singleton.1 hx] at hy; exact (HYD.out _ (.inl hy)).1 rfl) (fun x hx hy => by rw [List.mem_singleton.1 hx] at hy; exact (HYD.out _ (.inr hy)).1 rfl))
  replace HIM := Lib.hid (HIM.out.off ho (fun _ x hx => by injection hx with hx; subst hx; simp; omega))
  have HZM : Hid (∀ u ∈ Mz, u = pz ∨ wg.heap.size ≤ u) := Lib.hid (fun u hu => by simpa using hm u hu)
  replace HZ := Lib.hid hs
  clear hs ho hm hk HF1 HPP HPYZ
  go_upto_region 12 with fail
  refine pieces_r12 _ hkl hcp (by have := HIN.out; omega) HIM HZ (fun c a d v w h => by first | (cases d <;> exact h) | exact HKP.out c a d v w h) ?_
  rintro _ _ _ _ _ wi hF
  rw [HF2.out] at hF
  change FedR _ _ _ _ sz c2 (.returned (.int .i64 c2)) wi at hF
  obtain ⟨_, Mz2, Nz2, z2, z3, u2, u3, q2, q3, r2, r3, hs, ho, hm, hk⟩ := hF
  rw [HF2.out]
  replace HB := Lib.hid (HB.out.trans (ho.below HB.out.size (fun x hx => by rcases HZM.out x hx with h1 | h1; (rw [h1]; exact HPZL.out); exact Nat.le_trans HWG.out h1)))
  replace HY := Lib.hid (HY.out.off ho (fun x hx hy => by have h2 := HYD.out x (.inl hy); rcases HZM.out x hx with h1 | h1; (exact h2.1 h1); omega) (fun x hx hy => by have h2 := HYD.out x (.inr hy); rcases HZM.out x hx with h1 | h1; (exact h2.1 h1); omega))
  replace HZ := Lib.hid hs
  clear hs ho hm hk HZM HYD HIM HF2 HIN
  go_upto_region 13 with fail
  refine pieces_r13 _ HC1.out (fun c a d v w h => by first | (cases d <;> exact h) | exact HKP.out c a d v w h) ?_
  rintro _ _ _ _ _ _ _ _ _ _ _ wj hj
  subst hj
  clear HGM HPZ HC1 hg1 hg2 HWG HPZL HSY hgz hkc
  have hal := HAL.out
  have hok := HY.out.ok
  have HOO : Hid (∀ b, outM sy b = outM sz b) := Lib.hid (fun b => out_alike hal b)
  have HS1 : Hid (∀ W p M J a0 a1 b0 b1 k0 k1 d0 d1, SdAt W p M J sy a0 a1 b0 b1 k0 k1 d0 d1 → Makes Try.prog 13 #[.pointer (some ⟨p, 0, none⟩), .int .i64 1] W (.tuple #[.int .u64 (secM sy false).1, .bool (secM sy false).2])) := Lib.hid (fun W p M J a0 a1 b0 b1 k0 k1 d0 d1 h => Secret_any W p M J sy a0 a1 b0 b1 k0 k1 d0 d1 h)
  have HS2 : Hid (∀ W p M J a0 a1 b0 b1 k0 k1 d0 d1, SdAt W p M J sz a0 a1 b0 b1 k0 k1 d0 d1 → Makes Try.prog 13 #[.pointer (some ⟨p, 0, none⟩), .int .i64 1] W (.tuple #[.int .u64 (secM sy false).1, .bool (secM sy false).2])) := Lib.hid (fun W p M J a0 a1 b0 b1 k0 k1 d0 d1 h => by rw [sec_alike hal]; exact Secret_any W p M J sz a0 a1 b0 b1 k0 k1 d0 d1 h)
  have HT1 : Hid (∀ W p M J a0 a1 b0 b1 k0 k1 d0 d1, SdAt W p M J sy a0 a1 b0 b1 k0 k1 d0 d1 → Makes Try.prog 14 #[.pointer (some ⟨p, 0, none⟩)] W (.tuple #[.agg sy.th.row.toArray, .bool sy.knows])) := Lib.hid (fun W p M J a0 a1 b0 b1 k0 k1 d0 d1 h => Theirs_any W p M J sy a0 a1 b0 b1 k0 k1 d0 d1 h)
  have HT2 : Hid (∀ W p M J a0 a1 b0 b1 k0 k1 d0 d1, SdAt W p M J sz a0 a1 b0 b1 k0 k1 d0 d1 → Makes Try.prog 14 #[.pointer (some ⟨p, 0, none⟩)] W (.tuple #[.agg sy.th.row.toArray, .bool sy.knows])) := Lib.hid (fun W p M J a0 a1 b0 b1 k0 k1 d0 d1 h => by rw [hal.th, hal.knows]; exact Theirs_any W p M J sz a0 a1 b0 b1 k0 k1 d0 d1 h)
  generalize secM sy false = sk at HS1 HS2
  obtain ⟨sk, sok⟩ := sk
  change Hid (∀ W p M J a0 a1 b0 b1 k0 k1 d0 d1, SdAt W p M J sy a0 a1 b0 b1 k0 k1 d0 d1 → Makes Try.prog 13 #[.pointer (some ⟨p, 0, none⟩), .int .i64 1] W (.tuple #[.int .u64 sk, .bool sok])) at HS1
  change Hid (∀ W p M J a0 a1 b0 b1 k0 k1 d0 d1, SdAt W p M J sz a0 a1 b0 b1 k0 k1 d0 d1 → Makes Try.prog 13 #[.pointer (some ⟨p, 0, none⟩), .int .i64 1] W (.tuple #[.int .u64 sk, .bool sok])) at HS2
  generalize sy.knows = kn at HT1 HT2
  obtain ⟨⟨ti, td, ts, tm, tf⟩, hth⟩ : ∃ t, sy.th = t := ⟨_, rfl⟩
  rw [hth] at hok
  obtain ⟨_, _, _, _, hl8, hwf8⟩ := hok
  obtain ⟨t0, t1, t2, t3, t4, t5, t6, t7, rfl⟩ := len8 hl8
  have hD : sy.th.row = [.int .u64 ti, .int .u64 td, .int .u64 ts, .int .u64 tm, .int .u8 t0, .int .u8 t1, .int .u8 t2, .int .u8 t3, .int .u8 t4, .int .u8 t5, .int .u8 t6, .int .u8 t7] := by rw [hth]; rfl
  have HDL : Hid (sy.th.row.length = 12) := Lib.hid (by rw [hD]; rfl)
  have HDO := Lib.hid (pm_one sy.th)
  generalize sy.th.row = D at HT1 HT2 hD HDL HDO
  have HDE := Lib.hid hD
  have HW8 : Hid (∀ x ∈ [t0, t1, t2, t3, t4, t5, t6, t7], (Lit.int .u8 x).wf = true) := Lib.hid hwf8
  clear hD hth hl8 hwf8 hal HAL
  go_wp2_with fail
  refine Calls.mono (HS1.out _ _ _ _ _ _ _ _ _ _ _ _ HY.out) ?_
  rintro e w41 ⟨rfl, hb⟩
  replace HB := Lib.hid (bl_next HB.out HB.out.size hb)
  replace HY := Lib.hid (HY.out.below hb)
  replace HZ := Lib.hid (HZ.out.below hb)
  clear hb
  go_wp2_with fail
  refine Calls.mono (HS2.out _ _ _ _ _ _ _ _ _ _ _ _ HZ.out) ?_
  rintro e w42 ⟨rfl, hb⟩
  replace HB := Lib.hid (bl_next HB.out HB.out.size hb)
  replace HY := Lib.hid (HY.out.below hb)
  replace HZ := Lib.hid (HZ.out.below hb)
  clear hb
  go_wp2_with fail
  refine Calls.mono (HT1.out _ _ _ _ _ _ _ _ _ _ _ _ HY.out) ?_
  rintro e w43 ⟨rfl, hb⟩
  replace HB := Lib.hid (bl_next HB.out HB.out.size hb)
  replace HY := Lib.hid (HY.out.below hb)
  replace HZ := Lib.hid (HZ.out.below hb)
  clear hb
  go_upto_region 18 with (first | (refine wpList_store_row rfl 26 _ _ rfl _ rfl D (.int .u64 0 :: .int .u64 0 :: .int .u64 0 :: .int .u64 0 :: .int .u8 0 :: .int .u8 0 :: .int .u8 0 :: .int .u8 0 :: .int .u8 0 :: .int .u8 0 :: .int .u8 0 :: .int .u8 0 :: []) rfl 26 (heap_alloc_new _ _) (by rw [HDL.out]; rfl) (by rw [HDL.out]; rfl) HDO.out ?_; intro w44 hr hg) | fail)
  have hal := (Below.refl w43.heap.size w43).alloc (Nat.le_refl _) (.cells ((.int .u64 0 :: .int .u64 0 :: .int .u64 0 :: .int .u64 0 :: .int .u8 0 :: .int .u8 0 :: .int .u8 0 :: .int .u8 0 :: .int .u8 0 :: .int .u8 0 :: .int .u8 0 :: .int .u8 0 :: [])).toArray 26)
  have hb : Below w43.heap.size w43 w44 := hal.grown hg hal.size (by intro k hk; injection hk with hk; omega)
  replace HB := Lib.hid (bl_next HB.out HB.out.size hb)
  replace HY := Lib.hid (HY.out.below hb)
  replace HZ := Lib.hid (HZ.out.below hb)
  have HGF := Lib.hid (hr)
  clear hr hg hal hb
  obtain ⟨gf, hg⟩ : ∃ g, w43.heap.size = g := ⟨_, rfl⟩
  rw [hg] at HGF ⊢
  clear hg
  go_wp2_with fail
  refine Calls.mono (HT2.out _ _ _ _ _ _ _ _ _ _ _ _ HZ.out) ?_
  rintro e w45 ⟨rfl, hb⟩
  replace HB := Lib.hid (bl_next HB.out HB.out.size hb)
  replace HGF := Lib.hid (bl_row hb (lt_of_block HGF.out) HGF.out)
  replace HY := Lib.hid (HY.out.below hb)
  replace HZ := Lib.hid (HZ.out.below hb)
  clear hb
  go_upto_region 19 with (first | (refine wpList_store_row rfl 26 _ _ rfl _ rfl D (.int .u64 0 :: .int .u64 0 :: .int .u64 0 :: .int .u64 0 :: .int .u8 0 :: .int .u8 0 :: .int .u8 0 :: .int .u8 0 :: .int .u8 0 :: .int .u8 0 :: .int .u8 0 :: .int .u8 0 :: []) rfl 26 (heap_alloc_new _ _) (by rw [HDL.out]; rfl) (by rw [HDL.out]; rfl) HDO.out ?_; intro w46 hr hg) | fail)
  have hal := (Below.refl w45.heap.size w45).alloc (Nat.le_refl _) (.cells ((.int .u64 0 :: .int .u64 0 :: .int .u64 0 :: .int .u64 0 :: .int .u8 0 :: .int .u8 0 :: .int .u8 0 :: .int .u8 0 :: .int .u8 0 :: .int .u8 0 :: .int .u8 0 :: .int .u8 0 :: [])).toArray 26)
  have hb : Below w45.heap.size w45 w46 := hal.grown hg hal.size (by intro k hk; injection hk with hk; omega)
  replace HB := Lib.hid (bl_next HB.out HB.out.size hb)
  replace HGF := Lib.hid (bl_row hb (lt_of_block HGF.out) HGF.out)
  replace HY := Lib.hid (HY.out.below hb)
  replace HZ := Lib.hid (HZ.out.below hb)
  have HGH := Lib.hid (hr)
  clear hr hg hal hb
  obtain ⟨gh, hg⟩ : ∃ g, w45.heap.size = g := ⟨_, rfl⟩
  rw [hg] at HGH ⊢
  clear hg
  have hD := HDE.out
  subst hD
  refine pieces_r19 _ HW8.out HGF HGH HY HZ HOO (fun c a d v w h => by first | (cases d <;> exact h) | exact HKP.out c a d v w h) ?_
  rintro _ _ _ _ _ _ _ _ _ _ _ _ _ _ _ _ _ _ _ _ _ _ _ _ _ _ _ _ _ _ _ _ _ _ _ _ _ _ _ wn hb
  replace HB := Lib.hid (bl_next HB.out HB.out.size hb)
  clear hb
  go_wp2_with fail
  go_ret
  exact ⟨rfl, HB.out⟩
end Go.Proofs.Ytlpajohhnngbmaa
