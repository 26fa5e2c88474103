/- hello: params held against one another, First, known. -/
import Derived.Test.YtlpajohhnngbmaaHlo11
namespace Go.Proofs.Ytlpajohhnngbmaa
open Go.RowKit
set_option linter.unusedVariables false
set_option linter.unusedSimpArgs false

set_option maxRecDepth 100000 in
theorem eqinH (w : World) (d t n : Nat) (ht : Try.prog.underlying t = some (.array n 5)) (xs : List Int) (hx : xs.length = n) (wx : ∀ x ∈ xs, (Lit.int .u8 x).wf = true) :
    (Op.equalIn (d + 2) t (.agg (xs.map (Value.int .u8)).toArray) (.agg (xs.map (Value.int .u8)).toArray)).run Try.prog w = .ok true w := by
  have h := run_equalIn_bytes (P := Try.prog) w d t 5 n ht Try.underlying5 sizeU8 (xs.map toU) (xs.map toU) (by simp [hx]) (by simp [hx])
  rw [map_toU wx, toU_inj wx wx, beq_self_eq_true] at h
  exact h
set_option maxRecDepth 100000 in
theorem First_any (w : World) (xs : List Int) (hl : xs.length = 8) (hw : ∀ x ∈ xs, (Lit.int .u8 x).wf = true) : Makes Try.prog 29 #[.agg (xs.map (Value.int .u8)).toArray] w (.int .u64 (keyedM (numberM xs) [105, 110, 105, 116, 105, 97, 108])) := by
  have HNU := Lib.hid (fun W => number_any W xs hl hw)
  have HDE := Lib.hid (fun W => derive_any W (numberM xs) ⟨#[105, 110, 105, 116, 105, 97, 108]⟩ (by decide))
  have HDN : Hid (keyedM (numberM xs) (natsOf ⟨#[105, 110, 105, 116, 105, 97, 108]⟩) = keyedM (numberM xs) [105, 110, 105, 116, 105, 97, 108]) := Lib.hid rfl
  rw [HDN.out] at HDE
  generalize numberM xs = n at HNU HDE ⊢
  generalize keyedM n [105, 110, 105, 116, 105, 97, 108] = kx at HDE ⊢
  obtain ⟨X, hX⟩ : ∃ X, xs.map (Value.int .u8) = X := ⟨_, rfl⟩
  have HXL : Hid (X.length = 8) := Lib.hid (by rw [← hX, List.length_map]; exact hl)
  rw [hX] at HNU ⊢
  have HB := Lib.hid (Below.refl w.heap.size w)
  clear hX HDN
  go_enter Try.func29, Try.ntmps29
  go_upto_region 1 with fail
  obtain ⟨gx, hg0⟩ : ∃ g, w.heap.size = g := ⟨_, rfl⟩
  try rw [hg0]
  have hb := (Below.refl w.heap.size w).alloc (Nat.le_refl _) (.cells X.toArray 24)
  have hrw := heap_alloc_new w (.cells X.toArray 24)
  have hsz : (w.alloc (.cells X.toArray 24)).heap.size = gx + 1 := by simp [hg0]
  rw [hg0] at hrw
  replace HB := Lib.hid (bl_next HB.out HB.out.size hb)
  have HGX := Lib.hid hrw
  clear hb hrw
  generalize w.alloc (.cells X.toArray 24) = w1 at HB HGX hsz ⊢
  have hg1 := hsz
  clear hsz
  clear hg0
  clear hg1
  go_wp2_with (first | (refine wpList_load_mid rfl 24 _ rfl gx 0 rfl X _ (rngL HGX.out) Try.underlying24 rfl (by rw [HXL.out]; rfl) ?_) | fail)
  refine Calls.mono (HNU.out _) ?_
  rintro e w2 ⟨rfl, hb⟩
  replace HB := Lib.hid (bl_next HB.out HB.out.size hb)
  replace HGX := Lib.hid (bl_row hb (lt_of_block HGX.out) HGX.out)
  clear hb
  go_wp2_with fail
  refine Calls.mono (HDE.out _) ?_
  rintro e w3 ⟨rfl, hb⟩
  replace HB := Lib.hid (bl_next HB.out HB.out.size hb)
  replace HGX := Lib.hid (bl_row hb (lt_of_block HGX.out) HGX.out)
  clear hb
  go_wp2_with fail
  go_ret
  exact ⟨rfl, HB.out⟩

theorem zero_right : rightM zeroPm = true := by decide
theorem known_out : outM (FeedM (askM 5 (rndM 1) zeroPm) 2 [120]).1 false = [1, 0, 18, 1, 0, 1, 0, 0, 0, 0, 0, 0, 8, 0, 0, 0, 0, 0, 0, 0, 0] := by decide
theorem known_feed : (FeedM (askM 5 (rndM 1) zeroPm) 2 [120]).2 = 10 := by decide
set_option maxRecDepth 100000 in
set_option maxHeartbeats 8000000 in
theorem known19_any (w : World) : Makes Try.prog 15 #[] w (.bool true) := by
  have HRN := Lib.hid (fun W => random_any W 1 (by omega))
  have HAS := Lib.hid (fun W => Ask_any W 5 (rndM 1) zeroPm rfl (rndM_wf 1) zeroPm_ok zero_right)
  have HFI := Lib.hid (fun W => First_any W [7, 0, 0, 0, 0, 0, 0, 0] rfl (by decide))
  have hnm : numberM [7, 0, 0, 0, 0, 0, 0, 0] = 504403158265495552 := by decide
  rw [hnm] at HFI
  have HRD := Lib.hid (fun W => rderive_any W 504403158265495552 ⟨#[105, 110, 105, 116, 105, 97, 108]⟩ (by decide))
  have HDN : Hid (keyedM 504403158265495552 (natsOf ⟨#[105, 110, 105, 116, 105, 97, 108]⟩) = keyedM 504403158265495552 [105, 110, 105, 116, 105, 97, 108]) := Lib.hid rfl
  rw [HDN.out] at HRD
  generalize keyedM 504403158265495552 [105, 110, 105, 116, 105, 97, 108] = kx at HFI HRD
  clear hnm HDN
  have HKO := Lib.hid known_out
  have HKF := Lib.hid known_feed
  have HB := Lib.hid (Below.refl w.heap.size w)
  have HI0 : Hid ((askM 5 (rndM 1) zeroPm).i0 = [] ∧ (askM 5 (rndM 1) zeroPm).i1 = []) := Lib.hid ⟨rfl, rfl⟩
  generalize askM 5 (rndM 1) zeroPm = sa at HAS HKO HKF HI0
  obtain ⟨X, hX⟩ : ∃ X, (rndM 1).map (Value.int .u8) = X := ⟨_, rfl⟩
  rw [hX] at HRN HAS
  clear hX
  go_enter Try.func15, Try.ntmps15
  go_wp2_with fail
  refine Calls.mono (HRN.out _) ?_
  rintro e w1 ⟨rfl, hb⟩
  replace HB := Lib.hid (bl_next HB.out HB.out.size hb)
  clear hb
  have HW1 := Lib.hid HB.out.size
  go_wp2_with fail
  refine Calls.mono (HAS.out _) ?_
  rintro e w2 ⟨p, J, a0, a1, k0, k1, rfl, hb, hpw, hJ, hs⟩
  replace HB := Lib.hid (bl_next HB.out HB.out.size hb)
  clear hb
  have HS := Lib.hid hs
  have HPW := Lib.hid hpw
  clear hs hpw hJ
  obtain ⟨wl, hcv, hbl, hil, hsz⟩ := lit_bytes w2 [120] #[.int .u8 120] 1 rfl rfl (by decide)
  go_wp2_with fail
  replace HS := Lib.hid (HS.out.below hbl)
  replace HB := Lib.hid (bl_next HB.out HB.out.size hbl)
  clear hcv hbl hsz
  refine Calls.mono (Feed_any _ p _ _ sa _ _ _ _ _ _ _ _ HS.out 2 _ 1 _ [120] (by rw [HI0.out.1, HI0.out.2]; simp) hil) ?_
  rintro e w7 ⟨rfl, M2, K2, x0, x1, y0, y1, e0, e1, f0, f1, hs, ho, hm, hk⟩
  rw [HKF.out]
  replace HB := Lib.hid (HB.out.trans (ho.below HB.out.size (fun x hx => by rw [List.mem_singleton.1 hx]; exact Nat.le_trans HW1.out HPW.out)))
  have HS7 := Lib.hid hs
  clear hs ho hm hk HS HKF
  go_wp2_with fail
  refine Calls.mono (Out_any _ p _ _ _ _ _ _ _ _ _ _ _ HS7.out false) ?_
  rintro e w8 ⟨v, rfl, hb, ho, hwf, _⟩
  rw [HKO.out] at ho hwf
  replace HB := Lib.hid (bl_next HB.out HB.out.size hb)
  obtain ⟨oa, oc, rfl, _, hoi, _⟩ := ints_of_own ho hwf
  clear HS7 hb ho hwf
  have HOI := Lib.hid (hoi)
  clear hoi
  go_upto_region 6 with fail
  change Code.wp _ _ _ _ (w8.alloc (.cells (([7, 0, 0, 0, 0, 0, 0, 0] : List Int).map (Value.int .u8)).toArray 24))
  obtain ⟨C7, hC7⟩ : ∃ C, ([7, 0, 0, 0, 0, 0, 0, 0] : List Int).map (Value.int .u8) = C := ⟨_, rfl⟩
  have HCL : Hid (C7.length = 8) := Lib.hid (by rw [← hC7]; rfl)
  rw [hC7] at HFI ⊢
  clear hC7
  have hb := (Below.refl w8.heap.size w8).alloc (Nat.le_refl _) (.cells C7.toArray 24)
  replace HB := Lib.hid (bl_next HB.out HB.out.size hb)
  replace HOI := Lib.hid (HOI.out.below hb)
  have HGC := Lib.hid (heap_alloc_new w8 (.cells C7.toArray 24))
  clear hb
  generalize w8.alloc (.cells C7.toArray 24) = w3 at HB HOI HGC ⊢
  obtain ⟨gc, hg⟩ : ∃ g, w8.heap.size = g := ⟨_, rfl⟩
  rw [hg] at HGC ⊢
  clear hg
  obtain ⟨ga, go, rfl⟩ : ∃ g o, oa = some ⟨g, o, none⟩ := by rcases HOI.out.2.2 with h | ⟨g, o, h, _⟩; cases h; exact ⟨g, o, h⟩
  have q0 : w3.cell? ⟨ga, go + 0, none⟩ = some (.int .u8 1) := ints_at HOI.out (i := 0) (by simp)
  rw [Nat.add_zero] at q0
  have q2 : w3.cell? ⟨ga, go + 2, none⟩ = some (.int .u8 18) := ints_at HOI.out (i := 2) (by simp)
  go_wp2_with (first | (refine wpList_load_g 24 _ rfl (by kernel_rfl) gc 0 rfl C7 _ (rngL HGC.out) Try.underlying24 rfl (by rw [HCL.out]; rfl) ?_) | fail)
  refine Calls.mono (HFI.out _) ?_
  rintro e w4 ⟨rfl, hb⟩
  replace HB := Lib.hid (bl_next HB.out HB.out.size hb)
  replace HOI := Lib.hid (HOI.out.below hb)
  replace HGC := Lib.hid (bl_row hb (lt_of_block HGC.out) HGC.out)
  clear hb q0 q2
  go_wp2_with fail
  refine Calls.mono (HRD.out _) ?_
  rintro e w5 ⟨rfl, hb⟩
  replace HB := Lib.hid (bl_next HB.out HB.out.size hb)
  replace HOI := Lib.hid (HOI.out.below hb)
  replace HGC := Lib.hid (bl_row hb (lt_of_block HGC.out) HGC.out)
  clear hb
  go_wp2_with fail
  go_ret
  exact ⟨rfl, HB.out⟩
end Go.Proofs.Ytlpajohhnngbmaa
