/- chapter 6's walks: ParamBack. -/
import Derived.Test.YtooneejimladdaaPrmD
namespace Go.Proofs.Ytooneejimladdaa
open Go.RowKit
set_option linter.unusedVariables false

set_option maxHeartbeats 8000000 in
theorem back6_any (w : World) (a b c d n : Int) (cut : Int) (ha : 0 ≤ a ∧ a < 18446744073709551616) (hb : 0 ≤ b ∧ b < 18446744073709551616) (hc : 0 ≤ c ∧ c < 18446744073709551616) (hd : 0 ≤ d ∧ d < 18446744073709551616) (hn : -9223372036854775808 ≤ n ∧ n ≤ 9223372036854775807)
    (hcut : -9223372036854775808 ≤ cut ∧ cut ≤ 9223372036854775807) :
    Makes Try.prog 5 #[.int .u64 a, .int .u64 b, .int .u64 c, .int .u64 d, .int .i64 n, .int .i64 cut] w (.bool true) := by
  have HKP := Lib.hid (fun w => kparams_any w a b c d n ha hb hc hd hn)
  have hok := keepM_ok a b c d n
  have hri := keepM_right a b c d n
  generalize keepM a b c d n = P at HKP hok hri
  have HPE := Lib.hid (fun w => pencode_ok w P hok hri)
  have hle := encP_len P hok.len
  have HDE := Lib.hid (dec_enc P hok hri)
  have HDC := Lib.hid (dec_cut P hok hri)
  obtain ⟨es, hes⟩ : ∃ es, encP P = es := ⟨_, rfl⟩
  rw [hes] at HPE hle HDE HDC
  obtain ⟨L, hL⟩ : ∃ L, es.length = L := ⟨_, rfl⟩
  rw [hL] at HPE hle HDC
  obtain ⟨i, d0, s, m, f⟩ := P
  obtain ⟨y0, y1, y2, y3, y4, y5, y6, y7, rfl⟩ := len8 hok.len
  have hq : ∀ w, (Op.equalIn 9999 24 (.agg #[.int .u8 y0, .int .u8 y1, .int .u8 y2, .int .u8 y3, .int .u8 y4, .int .u8 y5, .int .u8 y6, .int .u8 y7]) (.agg #[.int .u8 y0, .int .u8 y1, .int .u8 y2, .int .u8 y3, .int .u8 y4, .int .u8 y5, .int .u8 y6, .int .u8 y7])).run Try.prog w = .ok true w := fun w => eqin_same w 9997 24 8 Try.underlying24 [y0, y1, y2, y3, y4, y5, y6, y7] rfl hok.wf
  have HQ := Lib.hid hq
  have HV : Hid (Pm.val ⟨i, d0, s, m, [y0, y1, y2, y3, y4, y5, y6, y7]⟩ = .agg #[.int .u64 i, .int .u64 d0, .int .u64 s, .int .u64 m, .int .u8 y0, .int .u8 y1, .int .u8 y2, .int .u8 y3, .int .u8 y4, .int .u8 y5, .int .u8 y6, .int .u8 y7]) := Lib.hid rfl
  rw [HV.out] at HKP HPE
  have HD1 : Hid (∀ w a cap, IntsK .u8 w a L es → Calls Try.prog 16 #[.slice a L cap] w fun e w' => e = .returned (.tuple #[.agg #[.int .u64 i, .int .u64 d0, .int .u64 s, .int .u64 m, .int .u8 y0, .int .u8 y1, .int .u8 y2, .int .u8 y3, .int .u8 y4, .int .u8 y5, .int .u8 y6, .int .u8 y7], .int .i64 0]) ∧ Below w.heap.size w w') := Lib.hid (fun w a cap h => by
    have h1 := pdecode_any w a L cap es (by omega) h
    rw [HDE.out] at h1
    exact h1)
  have HD2 : Hid (∀ w a (k : Nat) cap, k < L → IntsK .u8 w a k (es.take k) → Calls Try.prog 16 #[.slice a k cap] w fun e w' => e = .returned (.tuple #[.agg #[.int .u64 0, .int .u64 0, .int .u64 0, .int .u64 0, .int .u8 0, .int .u8 0, .int .u8 0, .int .u8 0, .int .u8 0, .int .u8 0, .int .u8 0, .int .u8 0], .int .i64 12]) ∧ Below w.heap.size w w') := Lib.hid (fun w a k cap hk h => by
    have h1 := pdecode_any w a k cap (es.take k) (by omega) h
    rw [HDC.out k hk] at h1
    exact h1)
  clear hok hri hes hL hq HDE HDC
  go_enter Try.func5, Try.ntmps5
  go_wp2_with fail
  refine Calls.mono (HKP.out _) ?_
  rintro e w1 ⟨rfl, hb1⟩
  have hrA := heap_alloc_new w1 (.cells #[.int .u64 i, .int .u64 d0, .int .u64 s, .int .u64 m, .int .u8 y0, .int .u8 y1, .int .u8 y2, .int .u8 y3, .int .u8 y4, .int .u8 y5, .int .u8 y6, .int .u8 y7] 26)
  have hbA := (Below.refl w1.heap.size w1).alloc (Nat.le_refl _) (.cells #[.int .u64 i, .int .u64 d0, .int .u64 s, .int .u64 m, .int .u8 y0, .int .u8 y1, .int .u8 y2, .int .u8 y3, .int .u8 y4, .int .u8 y5, .int .u8 y6, .int .u8 y7] 26)
  have HRP := Lib.hid hrA; have HL := Lib.hid (bl_next hb1 hb1.size hbA)
  clear hb1 hrA hbA
  go_upto_region 2 with fail
  generalize w1.alloc (.cells #[.int .u64 i, .int .u64 d0, .int .u64 s, .int .u64 m, .int .u8 y0, .int .u8 y1, .int .u8 y2, .int .u8 y3, .int .u8 y4, .int .u8 y5, .int .u8 y6, .int .u8 y7] 26) = W1 at HRP HL ⊢
  generalize w1.heap.size = g1 at HRP ⊢
  obtain ⟨c0, c1, c2, c3, c4, c5, c6, c7, c8, c9, c10, c11⟩ := row12 HRP.out
  go_wp2_with fail
  refine Calls.mono (HPE.out _) ?_
  rintro e w2 ⟨a2, cp2, rfl, hc2, hm2, hi2, _, hb2⟩
  have HRP2 := Lib.hid (bl_row hb2 (lt_of_block HRP.out) HRP.out); have HL2 := Lib.hid (bl_next HL.out HL.out.size hb2); have HI2 := Lib.hid hi2
  clear hb2 hi2 c0 c1 c2 c3 c4 c5 c6 c7 c8 c9 c10 c11 HRP HL
  go_wp2_with fail
  refine Calls.mono (HD1.out _ _ _ HI2.out) ?_
  rintro e w3 ⟨rfl, hb3⟩
  have hr3 := bl_row hb3 (lt_of_block HRP2.out) HRP2.out
  have hg1 := lt_of_block hr3
  have hrB := heap_alloc_new w3 (.cells #[.int .u64 i, .int .u64 d0, .int .u64 s, .int .u64 m, .int .u8 y0, .int .u8 y1, .int .u8 y2, .int .u8 y3, .int .u8 y4, .int .u8 y5, .int .u8 y6, .int .u8 y7] 26)
  have hbB := (Below.refl w3.heap.size w3).alloc (Nat.le_refl _) (.cells #[.int .u64 i, .int .u64 d0, .int .u64 s, .int .u64 m, .int .u8 y0, .int .u8 y1, .int .u8 y2, .int .u8 y3, .int .u8 y4, .int .u8 y5, .int .u8 y6, .int .u8 y7] 26)
  have HRP3 := Lib.hid (bl_row hbB hg1 hr3); have HRQ3 := Lib.hid hrB; have HL3 := Lib.hid (bl_next (bl_next HL2.out HL2.out.size hb3) (Nat.le_trans HL2.out.size hb3.size) hbB); have HI3 := Lib.hid (HI2.out.below (bl_next hb3 hb3.size hbB))
  clear hb3 hr3 hrB hbB HRP2 HL2 HI2
  go_upto_region 4 with fail
  generalize w3.alloc (.cells #[.int .u64 i, .int .u64 d0, .int .u64 s, .int .u64 m, .int .u8 y0, .int .u8 y1, .int .u8 y2, .int .u8 y3, .int .u8 y4, .int .u8 y5, .int .u8 y6, .int .u8 y7] 26) = W3 at HRP3 HRQ3 HL3 HI3 ⊢
  generalize w3.heap.size = g3 at HRQ3 ⊢
  obtain ⟨c0, c1, c2, c3, c4, c5, c6, c7, c8, c9, c10, c11⟩ := row12 HRP3.out
  obtain ⟨d0', d1, d2, d3, d4, d5, d6, d7, d8, d9, d10, d11⟩ := row12 HRQ3.out
  have hq := HQ.out
  have hL0 : ((L : Int) == 0) = false := by simp; omega
  go_wp2_with fail
  clear hq c0 c1 c2 c3 c4 c5 c6 c7 c8 c9 c10 c11 d0' d1 d2 d3 d4 d5 d6 d7 d8 d9 d10 d11
  refine Calls.mono (within_any _ cut 0 (L - 1) (by omega) (by omega) (by omega) hcut) ?_
  rintro e w4 ⟨rfl, rfl⟩
  have hj := within_in cut 0 (L - 1) (by omega)
  obtain ⟨j, ej⟩ : ∃ j : Nat, within cut 0 (L - 1) = j := ⟨(within cut 0 (L - 1)).toNat, by omega⟩
  rw [ej] at hj ⊢
  clear ej
  go_wp2_with fail
  refine Calls.mono (HD2.out _ _ _ _ (by omega) (HI3.out.pre j (by omega))) ?_
  rintro e w5 ⟨rfl, hb5⟩
  have HL5 := Lib.hid (bl_next HL3.out HL3.out.size (hb5.alloc hb5.size (.cells #[.int .u64 0, .int .u64 0, .int .u64 0, .int .u64 0, .int .u8 0, .int .u8 0, .int .u8 0, .int .u8 0, .int .u8 0, .int .u8 0, .int .u8 0, .int .u8 0] 26)))
  clear hb5 HL3
  go_wp2_with fail
  refine Calls.mono (known6_any _) ?_
  generalize w5.alloc (.cells #[.int .u64 0, .int .u64 0, .int .u64 0, .int .u64 0, .int .u8 0, .int .u8 0, .int .u8 0, .int .u8 0, .int .u8 0, .int .u8 0, .int .u8 0, .int .u8 0] 26) = W5 at HL5 ⊢
  rintro e w6 ⟨rfl, hb6⟩
  have HL6 := Lib.hid (bl_next HL5.out HL5.out.size hb6)
  clear hb6
  go_wp2_with fail
  go_ret
  exact ⟨rfl, HL6.out⟩
end Go.Proofs.Ytooneejimladdaa
