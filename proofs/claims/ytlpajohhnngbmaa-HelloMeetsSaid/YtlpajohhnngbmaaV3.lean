/- texts of the proof, laid together: Hlo24. -/
import Derived.Test.YtlpajohhnngbmaaV2
namespace Go.Proofs.Ytlpajohhnngbmaa
open Go.RowKit
set_option linter.unusedVariables false
set_option linter.unusedSimpArgs false

theorem wrapH (x : Int) : 0 ≤ IntKind.wrap .u64 x ∧ IntKind.wrap .u64 x < 18446744073709551616 := by
  simp only [IntKind.wrap, IntKind.signed, IntKind.bits]; simp; omega
theorem pm_open {p : Pm} (h : p.ok) : ∃ i0 i1 i2 i3 z0 z1 z2 z3 z4 z5 z6 z7 : Int, p.row = [.int .u64 i0, .int .u64 i1, .int .u64 i2, .int .u64 i3, .int .u8 z0, .int .u8 z1, .int .u8 z2, .int .u8 z3, .int .u8 z4, .int .u8 z5, .int .u8 z6, .int .u8 z7] ∧ ∀ x ∈ [z0, z1, z2, z3, z4, z5, z6, z7], (Lit.int .u8 x).wf = true := by
  obtain ⟨ti, td, ts, tm, tf⟩ := p
  obtain ⟨_, _, _, _, hl8, hwf8⟩ := h
  obtain ⟨t0, t1, t2, t3, t4, t5, t6, t7, rfl⟩ := len8 hl8
  exact ⟨ti, td, ts, tm, t0, t1, t2, t3, t4, t5, t6, t7, rfl, hwf8⟩
theorem say_of (psk : Int) (r1 r2 : List Int) (P Q : Pm) (h1 : r1.length = 8) (h2 : r2.length = 8) (hp : P.ok) (hpr : rightM P = true) (hq : Q.ok) (hqr : rightM Q = true) :
    ∃ S FA FB, Say psk (r1 ++ encP P) (r2 ++ encP Q) (msgM 1 (r1 ++ encP P)) (msgM 1 (r2 ++ encP Q)) FA FB S P Q := by
  have e1 := encP_le P hp.len
  have e2 := encP_le Q hq.len
  have d : ∀ (r : List Int) (p : Pm), r.length = 8 → (msgM 1 (r ++ encP p)).drop 11 = encP p := by
    intro r p hr
    obtain ⟨t0, t1, t2, t3, t4, t5, t6, t7, rfl⟩ := len8 hr
    rfl
  exact ⟨_, _, _, ⟨rfl, rfl, by rw [List.length_append]; omega, by rw [List.length_append]; omega, rfl, rfl, rfl, by rw [d r1 P h1]; exact dec_enc P hp hpr, by rw [d r2 Q h2]; exact dec_enc Q hq hqr⟩⟩
set_option maxRecDepth 100000 in
set_option maxHeartbeats 16000000 in
theorem meets19_any (w : World) (psk r a b c d : Int) (pa : Option Addr) (pl pc : Nat) (ps : List Int) (hr : 0 ≤ r ∧ r < 18446744073709551616) (ha : 0 ≤ a ∧ a < 18446744073709551616) (hb : 0 ≤ b ∧ b < 18446744073709551616) (hc : 0 ≤ c ∧ c < 18446744073709551616) (hd : 0 ≤ d ∧ d < 18446744073709551616)
    (hI : IntsK .i64 w pa pl ps) :
    Makes Try.prog 5 #[.int .u64 psk, .int .u64 r, .int .u64 a, .int .u64 b, .int .u64 c, .int .u64 d, .slice pa pl pc] w (.bool true) := by
  have HKP := Lib.hid (fun W => kparams_any W a b c d 1 ha hb hc hd (by omega))
  have HKQ := Lib.hid (fun W => kparams_any W d a c b 2 hd ha hc hb (by omega))
  have hpo := keepM_ok a b c d 1; have hpr := keepM_right a b c d 1
  have hqo := keepM_ok d a c b 2; have hqr := keepM_right d a c b 2
  generalize keepM a b c d 1 = P at HKP hpo hpr
  generalize keepM d a c b 2 = Q at HKQ hqo hqr
  have HRX := Lib.hid (fun W => random_any W r hr)
  have HRY := Lib.hid (fun W => random_any W (IntKind.wrap .u64 (r + 1)) (wrapH _))
  have HAX := Lib.hid (fun W => Ask_any W psk (rndM r) P rfl (rndM_wf r) hpo hpr)
  have HAY := Lib.hid (fun W => Answer_any W psk (rndM (IntKind.wrap .u64 (r + 1))) Q rfl (rndM_wf _) hqo hqr)
  have HRI := Lib.hid (fun W => rright_any W Q hqo.len)
  rw [hqr] at HRI
  obtain ⟨S, FA, FB, hsay⟩ := say_of psk (rndM r) (rndM (IntKind.wrap .u64 (r + 1))) P Q rfl rfl hpo hpr hqo hqr
  have hph : Ph psk (msgM 1 (rndM r ++ encP P)) (msgM 1 (rndM (IntKind.wrap .u64 (r + 1)) ++ encP Q)) FA FB S P Q (askM psk (rndM r) P) (answerM psk (rndM (IntKind.wrap .u64 (r + 1))) Q) 0 0 0 0 := Ph.start rfl rfl ⟨rfl, rfl, rfl, rfl, rfl, rfl, rfl, rfl, rfl⟩ rfl rfl ⟨rfl, rfl, rfl, rfl, rfl, rfl, rfl, rfl⟩ hsay
  have HSA := Lib.hid hsay; have HPH := Lib.hid hph
  clear hsay hph
  obtain ⟨i0, i1, i2, i3, z0, z1, z2, z3, z4, z5, z6, z7, hpe, hz⟩ := pm_open hpo
  obtain ⟨j0, j1, j2, j3, v0, v1, v2, v3, v4, v5, v6, v7, hqe, hv⟩ := pm_open hqo
  have HPE := Lib.hid hpe; have HQE := Lib.hid hqe; have HZ := Lib.hid hz; have HV := Lib.hid hv
  clear hpe hqe hz hv
  generalize answerM psk (rndM (IntKind.wrap .u64 (r + 1))) Q = Y0 at HAY HPH
  generalize askM psk (rndM r) P = X0 at HAX HPH
  generalize msgM 1 (rndM r ++ encP P) = A at HSA HPH
  generalize msgM 1 (rndM (IntKind.wrap .u64 (r + 1)) ++ encP Q) = B at HSA HPH
  generalize rndM r ++ encP P = ba at HSA
  generalize rndM (IntKind.wrap .u64 (r + 1)) ++ encP Q = bb at HSA
  obtain ⟨XV, hX⟩ : ∃ X, (rndM r).map (Value.int .u8) = X := ⟨_, rfl⟩
  obtain ⟨YV, hY⟩ : ∃ Y, (rndM (IntKind.wrap .u64 (r + 1))).map (Value.int .u8) = Y := ⟨_, rfl⟩
  rw [hX] at HRX HAX
  rw [hY] at HRY HAY
  have HPV : Hid (P.val = .agg P.row.toArray) := Lib.hid rfl
  have HQV : Hid (Q.val = .agg Q.row.toArray) := Lib.hid rfl
  have HD1L := Lib.hid (pm_len hpo.len); have HD1O := Lib.hid (pm_one P)
  have HD2L := Lib.hid (pm_len hqo.len); have HD2O := Lib.hid (pm_one Q)
  rw [HPV.out] at HKP HAX
  rw [HQV.out] at HKQ HAY HRI
  obtain ⟨D1, hD1⟩ : ∃ D, P.row = D := ⟨_, rfl⟩
  obtain ⟨D2, hD2⟩ : ∃ D, Q.row = D := ⟨_, rfl⟩
  rw [hD1] at HKP HAX HD1L HD1O HPE
  rw [hD2] at HKQ HAY HD2L HD2O HQE HRI
  have HX1 := Lib.hid hD1; have HX2 := Lib.hid hD2
  have HB := Lib.hid (Below.refl w.heap.size w)
  have HI := Lib.hid hI
  clear hX hY HPV HQV hpo hpr hqo hqr hD1 hD2 hI
  go_enter Try.func5, Try.ntmps5
  go_wp2_with fail
  refine Calls.mono (HKP.out _) ?_
  rintro e w1 ⟨rfl, hb⟩
  replace HB := Lib.hid (bl_next HB.out HB.out.size hb)
  replace HI := Lib.hid (HI.out.below hb)
  clear hb
  go_wp2_with fail
  refine Calls.mono (HKQ.out _) ?_
  rintro e w2 ⟨rfl, hb⟩
  replace HB := Lib.hid (bl_next HB.out HB.out.size hb)
  replace HI := Lib.hid (HI.out.below hb)
  clear hb
  have hA1 := (Below.refl w2.heap.size w2).alloc (Nat.le_refl _) (.cells ((.int .u64 0 :: .int .u64 0 :: .int .u64 0 :: .int .u64 0 :: .int .u8 0 :: .int .u8 0 :: .int .u8 0 :: .int .u8 0 :: .int .u8 0 :: .int .u8 0 :: .int .u8 0 :: .int .u8 0 :: [])).toArray 26)
  have hs1 : (w2.alloc (.cells ((.int .u64 0 :: .int .u64 0 :: .int .u64 0 :: .int .u64 0 :: .int .u8 0 :: .int .u8 0 :: .int .u8 0 :: .int .u8 0 :: .int .u8 0 :: .int .u8 0 :: .int .u8 0 :: .int .u8 0 :: [])).toArray 26)).heap.size = w2.heap.size + 1 := by simp
  have hA2 := (Below.refl (w2.alloc (.cells ((.int .u64 0 :: .int .u64 0 :: .int .u64 0 :: .int .u64 0 :: .int .u8 0 :: .int .u8 0 :: .int .u8 0 :: .int .u8 0 :: .int .u8 0 :: .int .u8 0 :: .int .u8 0 :: .int .u8 0 :: [])).toArray 26)).heap.size (w2.alloc (.cells ((.int .u64 0 :: .int .u64 0 :: .int .u64 0 :: .int .u64 0 :: .int .u8 0 :: .int .u8 0 :: .int .u8 0 :: .int .u8 0 :: .int .u8 0 :: .int .u8 0 :: .int .u8 0 :: .int .u8 0 :: [])).toArray 26))).alloc (Nat.le_refl _) (.cells ((.int .u64 0 :: .int .u64 0 :: .int .u64 0 :: .int .u64 0 :: .int .u8 0 :: .int .u8 0 :: .int .u8 0 :: .int .u8 0 :: .int .u8 0 :: .int .u8 0 :: .int .u8 0 :: .int .u8 0 :: [])).toArray 26)
  have hrA := bl_row hA2 (lt_of_block (heap_alloc_new w2 (.cells ((.int .u64 0 :: .int .u64 0 :: .int .u64 0 :: .int .u64 0 :: .int .u8 0 :: .int .u8 0 :: .int .u8 0 :: .int .u8 0 :: .int .u8 0 :: .int .u8 0 :: .int .u8 0 :: .int .u8 0 :: [])).toArray 26))) (heap_alloc_new w2 (.cells ((.int .u64 0 :: .int .u64 0 :: .int .u64 0 :: .int .u64 0 :: .int .u8 0 :: .int .u8 0 :: .int .u8 0 :: .int .u8 0 :: .int .u8 0 :: .int .u8 0 :: .int .u8 0 :: .int .u8 0 :: [])).toArray 26))
  have hrB := heap_alloc_new (w2.alloc (.cells ((.int .u64 0 :: .int .u64 0 :: .int .u64 0 :: .int .u64 0 :: .int .u8 0 :: .int .u8 0 :: .int .u8 0 :: .int .u8 0 :: .int .u8 0 :: .int .u8 0 :: .int .u8 0 :: .int .u8 0 :: [])).toArray 26)) (.cells ((.int .u64 0 :: .int .u64 0 :: .int .u64 0 :: .int .u64 0 :: .int .u8 0 :: .int .u8 0 :: .int .u8 0 :: .int .u8 0 :: .int .u8 0 :: .int .u8 0 :: .int .u8 0 :: .int .u8 0 :: [])).toArray 26)
  rw [hs1] at hrB
  have hAA := bl_next hA1 hA1.size hA2
  clear hs1
  go_upto_region 2 with (first | (refine wpList_store_row rfl 26 _ _ rfl w2.heap.size rfl D1 (.int .u64 0 :: .int .u64 0 :: .int .u64 0 :: .int .u64 0 :: .int .u8 0 :: .int .u8 0 :: .int .u8 0 :: .int .u8 0 :: .int .u8 0 :: .int .u8 0 :: .int .u8 0 :: .int .u8 0 :: []) rfl 26 hrA (by rw [HD1L.out]; rfl) (by rw [HD1L.out]; rfl) HD1O.out ?_; intro wa ha1 hga; have hrB2 := grown_row hga (by intro e; injection e with e; omega) hrB) | (refine wpList_store_row rfl 26 _ _ rfl (w2.heap.size + 1) rfl D2 (.int .u64 0 :: .int .u64 0 :: .int .u64 0 :: .int .u64 0 :: .int .u8 0 :: .int .u8 0 :: .int .u8 0 :: .int .u8 0 :: .int .u8 0 :: .int .u8 0 :: .int .u8 0 :: .int .u8 0 :: []) rfl 26 hrB2 (by rw [HD2L.out]; rfl) (by rw [HD2L.out]; rfl) HD2O.out ?_; intro wb hb2 hgb) | fail)
  have hbz : Below w2.heap.size w2 wb := (hAA.grown hga hAA.size (by intro k hk; injection hk with hk; omega)).grown hgb (hAA.grown hga hAA.size (by intro k hk; injection hk with hk; omega)).size (by intro k hk; injection hk with hk; omega)
  have HG1 := Lib.hid (grown_row hgb (by intro e; injection e with e; omega) ha1); have HG2 := Lib.hid hb2
  replace HB := Lib.hid (bl_next HB.out HB.out.size hbz)
  replace HI := Lib.hid (HI.out.below hbz)
  obtain ⟨g1, hg1⟩ : ∃ g, w2.heap.size = g := ⟨_, rfl⟩
  rw [hg1] at HG1 HG2 ⊢
  clear hg1 hbz ha1 hb2 hga hgb hrA hrB hrB2 hAA hA1 hA2 HKP HKQ
  obtain ⟨g2, hg2⟩ : ∃ g, g1 + 1 = g := ⟨_, rfl⟩
  rw [hg2] at HG2 ⊢
  clear hg2
  simp only [Act.put]
  refine wp_plan (.t 0 (.t 1 (.t 3 (.t 5 (.t 6 (.t 7 (.t 9 (.u 2 (.u 4 (.u 8 (.u 10 (.t 11 (.t 12 .done))))))))))))) (fun y => Below wb.heap.size wb y) (by kernel_rfl) (by kernel_rfl) (by kernel_rfl) (fun c a d v w h => by cases d <;> exact h) (Below.refl _ _).drew ?_
  have hS : Below wb.heap.size wb wb.drew := (Below.refl _ _).drew
  generalize wb.drew = W0 at hS ⊢
  haveI hne2 : Nonempty (In (fun y => Below wb.heap.size wb y)) := ⟨⟨wb, Below.refl _ _⟩⟩
  repeat (first | (refine plan_t_load (by rfl) (by kernel_rfl) 26 _ rfl g1 0 rfl D1 _ (fun y hy => rngL (bl_row hy (lt_of_block HG1.out) HG1.out)) Try.underlying26 rfl (by rw [HD1L.out]; rfl) ?_; simp only [Act.put, List.setIfInBounds_toArray, List.set_cons_succ, List.set_cons_zero]) | (refine plan_t_load (by rfl) (by kernel_rfl) 26 _ rfl g2 0 rfl D2 _ (fun y hy => rngL (bl_row hy (lt_of_block HG2.out) HG2.out)) Try.underlying26 rfl (by rw [HD2L.out]; rfl) ?_; simp only [Act.put, List.setIfInBounds_toArray, List.set_cons_succ, List.set_cons_zero]) | (refine plan_t (by rfl) ?_; (first | go_big_quiet_skip | (go_big_quiet_want; go_big_quiet_op; go_big_quiet_on)); refine wpQuiet_nil ?_))
  refine plan_us (by rfl) (by kernel_rfl) ?_
  intro K hK
  go_wp2_with fail
  refine Calls.mono (HRX.out _) ?_
  rintro e w11 ⟨rfl, hb⟩
  replace hS := bl_next hS hS.size hb
  clear hb
  go_wp2_with fail
  refine ⟨hS, ?_⟩
  refine plan_us (by rfl) (by kernel_rfl) ?_
  intro K hK
  go_wp2_with fail
  have hszx : wb.heap.size ≤ w11.heap.size := hS.size
  refine Calls.mono (HAX.out _) ?_
  rintro e w12 ⟨px, Jx, ax0, ax1, kx0, kx1, rfl, hb, hpx, hJx, hsx⟩
  replace hS := bl_next hS hS.size hb
  clear hb
  go_wp2_with fail
  refine ⟨hS, ?_⟩
  refine plan_us (by rfl) (by kernel_rfl) ?_
  intro K hK
  go_wp2_with fail
  refine Calls.mono (HRY.out _) ?_
  rintro e w13 ⟨rfl, hb⟩
  replace hS := bl_next hS hS.size hb
  replace hsx := hsx.below hb
  clear hb
  go_wp2_with fail
  refine ⟨hS, ?_⟩
  refine plan_us (by rfl) (by kernel_rfl) ?_
  intro K hK
  go_wp2_with fail
  have hszy : wb.heap.size ≤ w13.heap.size := hS.size
  refine Calls.mono (HAY.out _) ?_
  rintro e w14 ⟨py, Jy, ay0, ay1, ky0, ky1, rfl, hb, hpy, hJy, hsy⟩
  have hdxy : ∀ u, (u ∈ [px] ∨ u ∈ Jx) → u < w13.heap.size := hsx.lt
  replace hS := bl_next hS hS.size hb
  replace hsx := hsx.below hb
  clear hb
  go_wp2_with fail
  refine ⟨hS, ?_⟩
  repeat (first | (refine plan_t_load (by rfl) (by kernel_rfl) 26 _ rfl g1 0 rfl D1 _ (fun y hy => rngL (bl_row hy (lt_of_block HG1.out) HG1.out)) Try.underlying26 rfl (by rw [HD1L.out]; rfl) ?_; simp only [Act.put, List.setIfInBounds_toArray, List.set_cons_succ, List.set_cons_zero]) | (refine plan_t_load (by rfl) (by kernel_rfl) 26 _ rfl g2 0 rfl D2 _ (fun y hy => rngL (bl_row hy (lt_of_block HG2.out) HG2.out)) Try.underlying26 rfl (by rw [HD2L.out]; rfl) ?_; simp only [Act.put, List.setIfInBounds_toArray, List.set_cons_succ, List.set_cons_zero]) | (refine plan_t (by rfl) ?_; (first | go_big_quiet_skip | (go_big_quiet_want; go_big_quiet_op; go_big_quiet_on)); refine wpQuiet_nil ?_))
  clear hne2
  show Exit.then _ _ _ _ _
  have HX := Lib.hid hsx; have HY := Lib.hid hsy
  have HBB := Lib.hid hS
  have HXY : Hid (∀ u, (u ∈ [px] ∨ u ∈ Jx) → (u ≠ py ∧ u ∉ Jy)) := Lib.hid (fun u hu => by have h1 := hdxy u hu; refine ⟨by omega, fun hj => ?_⟩; have := hJy u hj; omega)
  have HPP : Hid (wb.heap.size ≤ px ∧ wb.heap.size ≤ py) := Lib.hid ⟨Nat.le_trans hszx hpx, Nat.le_trans hszy hpy⟩
  clear hS hsx hsy hdxy hJx hJy hpx hpy hszx hszy
  clear HRX HRY HAX HAY
  obtain ⟨bse, hbse⟩ : ∃ n, wb.heap.size = n := ⟨_, rfl⟩
  have HBS := Lib.hid hbse
  rw [hbse] at HBB HPP
  clear hbse
  have hA1 := (Below.refl w14.heap.size w14).alloc (Nat.le_refl _) (.cells #[.int .i64 0, .int .i64 0] 59)
  have hs1 : (w14.alloc (.cells #[.int .i64 0, .int .i64 0] 59)).heap.size = w14.heap.size + 1 := by simp
  have hA2 := (Below.refl (w14.alloc (.cells #[.int .i64 0, .int .i64 0] 59)).heap.size (w14.alloc (.cells #[.int .i64 0, .int .i64 0] 59))).alloc (Nat.le_refl _) (.cells #[.int .i64 0, .int .i64 0] 59)
  have hrA := bl_row hA2 (lt_of_block (heap_alloc_new w14 (.cells #[.int .i64 0, .int .i64 0] 59))) (heap_alloc_new w14 (.cells #[.int .i64 0, .int .i64 0] 59))
  have hrB := heap_alloc_new (w14.alloc (.cells #[.int .i64 0, .int .i64 0] 59)) (.cells #[.int .i64 0, .int .i64 0] 59)
  rw [hs1] at hrB
  have hAA := bl_next hA1 hA1.size hA2
  have hbc : bse ≤ w14.heap.size := by have := HBB.out.size; have := HBS.out; omega
  have hT : Two bse ((w14.alloc (.cells #[.int .i64 0, .int .i64 0] 59)).alloc (.cells #[.int .i64 0, .int .i64 0] 59)) px py w14.heap.size (w14.heap.size + 1) X0 Y0 0 0 0 0 := ⟨⟨[px], Jx, [py], Jy, _, _, _, _, _, _, _, _, _, _, _, _, _, _, _, _, HX.out.below hAA, HY.out.below hAA, fun u hu => by rw [List.mem_singleton.1 hu]; exact HPP.out.1, fun u hu => by rw [List.mem_singleton.1 hu]; exact HPP.out.2,
    fun u hu => by have h1 := HXY.out u hu; have h2 := HX.out.lt u hu; exact ⟨by rw [List.mem_singleton]; exact h1.1, h1.2, by omega, by omega⟩, fun u hu => by have h2 := HY.out.lt u hu; exact ⟨by omega, by omega⟩⟩, hrA, hrB, by omega, hbc, by omega, Nat.le_trans hbc hAA.size⟩
  have hB2 : Below bse wb ((w14.alloc (.cells #[.int .i64 0, .int .i64 0] 59)).alloc (.cells #[.int .i64 0, .int .i64 0] 59)) := by have h := HBS.out; rw [← h] at hbc; have := bl_next (show Below wb.heap.size wb w14 by rw [h]; exact HBB.out) hbc hAA; rw [h] at this; exact this
  clear hA1 hs1 hA2 hrA hrB hAA hbc HBB HX HY HXY HPP
  go_upto_block 0 with fail
  have HT := Lib.hid hT; have HBB := Lib.hid hB2
  clear hT hB2
  generalize (w14.alloc (.cells #[.int .i64 0, .int .i64 0] 59)).alloc (.cells #[.int .i64 0, .int .i64 0] 59) = wc at HT HBB ⊢
  obtain ⟨gw, hgw⟩ : ∃ g, w14.heap.size = g := ⟨_, rfl⟩
  rw [hgw] at HT ⊢
  clear hgw
  obtain ⟨gc, hgc⟩ : ∃ g, gw + 1 = g := ⟨_, rfl⟩
  rw [hgc] at HT ⊢
  clear hgc
  have HIW : Hid (∀ wr, Below bse wc wr → IntsK .i64 wr pa pl ps) := Lib.hid (fun wr h => HI.out.below (by rw [HBS.out]; exact HBB.out.trans h))
  refine meets_b0 _ HT HPH HSA HIW (fun c a d v w h => by first | (cases d <;> exact h) | exact HKP.out c a d v w h) ?_
  rintro _ _ _ _ _ _ _ _ _ _ _ _ _ _ _ _ _ _ _ _ _ _ _ _ _ _ _ _ _ _ _ _ _ _ _ _ _ _ _ _ _ _ _ _ _ _ _ _ _ _ _ _ _ _ _ _ _ _ _ _ _ _ _ _ _ _ _ _ _ _ _ _ _ _ _ _ _ _ _ _ _ _ _ _ _ _ _ _ _ _ _ _ _ _ _ _ _ _ _ _ _ _ _ _ _ _ _ _ _ _ _ _ _ _ _ _ _ _ _ _ _ _ _ _ _ wd X' Y' hT hP hb
  replace HBB := Lib.hid (HBB.out.trans hb)
  replace HT := Lib.hid hT
  replace HPH := Lib.hid hP
  clear hT hP hb HIW HI
  have HXT : Hid (X'.th.row = D2 ∧ X'.knows = true) := Lib.hid ⟨by rw [(HPH.out.xs rfl).2]; exact HX2.out, by rw [HPH.out.xk]; simp⟩
  have HYT : Hid (Y'.th.row = D1 ∧ Y'.knows = true) := Lib.hid ⟨by rw [(HPH.out.ys rfl).2.2.2]; exact HX1.out, by rw [HPH.out.yk]; simp⟩
  have HDO : Hid (X'.done = true ∧ Y'.done = true) := Lib.hid ⟨by rw [HPH.out.xd]; rfl, by rw [HPH.out.yd]; rfl⟩
  have HSS : Hid (X'.sh = S ∧ Y'.sh = S) := Lib.hid ⟨(HPH.out.xs rfl).1, (HPH.out.ys rfl).2.2.1⟩
  clear HPH HSA HX1 HX2
  go_upto_block 4 with fail
  refine meets_b4 _ HT ⟨HXT.out.2, HDO.out.1, HSS.out.1, HYT.out.2, HDO.out.2, HSS.out.2⟩ (fun c a d v w h => by first | (cases d <;> exact h) | exact HKP.out c a d v w h) ?_
  rintro _ _ _ _ _ _ _ _ _ _ _ _ _ _ _ _ _ _ _ _ _ _ _ _ _ _ _ _ _ _ _ _ _ we hb
  replace HBB := Lib.hid (bl_next HBB.out HT.out.bs hb)
  replace HT := Lib.hid (HT.out.below hb)
  clear hb HSS
  have HTX : Hid (∀ W, Two bse W px py gw gc X' Y' A.length 11 B.length 11 → Makes Try.prog 14 #[.pointer (some ⟨px, 0, none⟩)] W (.tuple #[.agg D2.toArray, .bool true])) := Lib.hid (fun W h => by have := h.theirsX; rw [HXT.out.1, HXT.out.2] at this; exact this)
  have HTY : Hid (∀ W, Two bse W px py gw gc X' Y' A.length 11 B.length 11 → Makes Try.prog 14 #[.pointer (some ⟨py, 0, none⟩)] W (.tuple #[.agg D1.toArray, .bool true])) := Lib.hid (fun W h => by have := h.swap.theirsX; rw [HYT.out.1, HYT.out.2] at this; exact this)
  clear HXT HYT
  go_wp2_with fail
  refine Calls.mono (HTX.out _ HT.out) ?_
  rintro e w41 ⟨rfl, hb⟩
  replace HBB := Lib.hid (bl_next HBB.out HT.out.bs hb)
  replace HT := Lib.hid (HT.out.below hb)
  clear hb
  go_upto_region 39 with (first | (refine wpList_store_row rfl 26 _ _ rfl _ rfl D2 (.int .u64 0 :: .int .u64 0 :: .int .u64 0 :: .int .u64 0 :: .int .u8 0 :: .int .u8 0 :: .int .u8 0 :: .int .u8 0 :: .int .u8 0 :: .int .u8 0 :: .int .u8 0 :: .int .u8 0 :: []) rfl 26 (heap_alloc_new _ _) (by rw [HD2L.out]; rfl) (by rw [HD2L.out]; rfl) HD2O.out ?_; intro w42 hr hg) | fail)
  have hal := (Below.refl w41.heap.size w41).alloc (Nat.le_refl _) (.cells ((.int .u64 0 :: .int .u64 0 :: .int .u64 0 :: .int .u64 0 :: .int .u8 0 :: .int .u8 0 :: .int .u8 0 :: .int .u8 0 :: .int .u8 0 :: .int .u8 0 :: .int .u8 0 :: .int .u8 0 :: [])).toArray 26)
  have hb : Below w41.heap.size w41 w42 := hal.grown hg hal.size (by intro k hk; injection hk with hk; omega)
  replace HBB := Lib.hid (bl_next HBB.out HT.out.bs hb)
  replace HT := Lib.hid (HT.out.below hb)
  have HGS := Lib.hid (hr)
  clear hr hg hal hb
  obtain ⟨gs, hg⟩ : ∃ g, w41.heap.size = g := ⟨_, rfl⟩
  rw [hg] at HGS ⊢
  clear hg
  go_wp2_with fail
  refine Calls.mono (HTY.out _ HT.out) ?_
  rintro e w43 ⟨rfl, hb⟩
  replace HGS := Lib.hid (bl_row hb (lt_of_block HGS.out) HGS.out)
  replace HBB := Lib.hid (bl_next HBB.out HT.out.bs hb)
  replace HT := Lib.hid (HT.out.below hb)
  clear hb
  go_upto_region 40 with (first | (refine wpList_store_row rfl 26 _ _ rfl _ rfl D1 (.int .u64 0 :: .int .u64 0 :: .int .u64 0 :: .int .u64 0 :: .int .u8 0 :: .int .u8 0 :: .int .u8 0 :: .int .u8 0 :: .int .u8 0 :: .int .u8 0 :: .int .u8 0 :: .int .u8 0 :: []) rfl 26 (heap_alloc_new _ _) (by rw [HD1L.out]; rfl) (by rw [HD1L.out]; rfl) HD1O.out ?_; intro w44 hr hg) | fail)
  have hal := (Below.refl w43.heap.size w43).alloc (Nat.le_refl _) (.cells ((.int .u64 0 :: .int .u64 0 :: .int .u64 0 :: .int .u64 0 :: .int .u8 0 :: .int .u8 0 :: .int .u8 0 :: .int .u8 0 :: .int .u8 0 :: .int .u8 0 :: .int .u8 0 :: .int .u8 0 :: [])).toArray 26)
  have hb : Below w43.heap.size w43 w44 := hal.grown hg hal.size (by intro k hk; injection hk with hk; omega)
  replace HGS := Lib.hid (bl_row hb (lt_of_block HGS.out) HGS.out)
  replace HBB := Lib.hid (bl_next HBB.out HT.out.bs hb)
  replace HT := Lib.hid (HT.out.below hb)
  have HGT := Lib.hid (hr)
  clear hr hg hal hb
  obtain ⟨gt, hg⟩ : ∃ g, w43.heap.size = g := ⟨_, rfl⟩
  rw [hg] at HGT ⊢
  clear hg
  have h1 := HPE.out; have h2 := HQE.out
  have hg1 : g1 < bse := by have := lt_of_block HG1.out; rw [HBS.out] at this; exact this
  have hg2 : g2 < bse := by have := lt_of_block HG2.out; rw [HBS.out] at this; exact this
  replace HG1 := Lib.hid (bl_row HBB.out hg1 HG1.out); replace HG2 := Lib.hid (bl_row HBB.out hg2 HG2.out)
  replace HB := Lib.hid (bl_next HB.out HB.out.size (by rw [HBS.out]; exact HBB.out))
  have HSZ : Hid (bse ≤ w44.heap.size) := Lib.hid HT.out.bs
  subst h1; subst h2
  refine meets_r40 _ HZ.out HV.out HT HDO.out HG1 HG2 HGS HGT HRI (fun c a d v w h => by first | (cases d <;> exact h) | exact HKP.out c a d v w h) ?_
  rintro _ _ _ _ _ _ _ _ _ _ _ _ _ _ _ _ _ _ _ _ _ _ _ _ _ _ _ _ _ wz hb
  replace HB := Lib.hid (bl_next HB.out HB.out.size hb)
  clear hb
  go_wp2_with fail
  go_ret
  exact ⟨rfl, HB.out⟩
end Go.Proofs.Ytlpajohhnngbmaa
