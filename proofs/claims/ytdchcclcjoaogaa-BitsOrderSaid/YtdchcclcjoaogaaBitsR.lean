/- contracts of the reference of bits: Low, Extend, Zig, Zag, Clamp. -/
import Derived.Test.YtdchcclcjoaogaaBits
namespace Go.Proofs.Ytdchcclcjoaogaa
open Go.RowKit
set_option linter.unusedVariables false

theorem rlow_any (w : World) (n k : Int) (hn : 0 ≤ n ∧ n < 18446744073709551616) : Calls Try.prog 28 #[.int .u64 n, .int .i64 k] w fun e w' => e = .returned (.int .u64 (lowM n k)) ∧ w' = w := by
  go_enter Try.func28, Try.ntmps28
  by_cases h1 : k < 1
  · go_wp2
    go_ret
    exact ⟨by simp [lowM, h1], rfl⟩
  · by_cases h2 : 64 ≤ k
    · go_wp2
      go_ret
      exact ⟨by simp [lowM, h2]; omega, rfl⟩
    · have hp := pow_pos2 k.toNat
      have hq : (2 : Int) ^ k.toNat ≤ 2 ^ 63 := pow_le_of (by omega)
      have e1 : IntKind.u64.wrap (2 ^ k.toNat) = 2 ^ k.toNat := IntWalk.u64_in _ ⟨by omega, by omega⟩
      have e2 : IntKind.u64.wrap (2 ^ k.toNat - 1) = 2 ^ k.toNat - 1 := IntWalk.u64_in _ ⟨by omega, by omega⟩
      have e3 := and_mask n k.toNat hn.1 hn.2 (by omega)
      have e4 : lowM n k = n % 2 ^ k.toNat := by simp only [lowM]; rw [if_neg (by omega), if_neg (by omega)]
      have E := Lib.hid (e4.trans e3.symm); have E1 := Lib.hid e1; have E2 := Lib.hid e2
      clear hp hq e1 e2 e3 e4
      go_wp2_with fail
      go_ret
      exact ⟨by rw [E.out, E1.out, E2.out]; rfl, rfl⟩

theorem rzig_any (w : World) (n : Int) (hn : -9223372036854775808 ≤ n ∧ n ≤ 9223372036854775807) : Calls Try.prog 31 #[.int .i64 n] w fun e w' => e = .returned (.int .u64 (zigM n)) ∧ w' = w := by
  by_cases h : n < 0
  · have E : Hid (zigM n = -n * 2 - 1) := Lib.hid (if_pos h)
    go_enter Try.func31, Try.ntmps31
    go_wp2_with fail
    go_ret
    refine ⟨?_, rfl⟩
    rw [E.out]
    refine congrArg (fun x => Ending.returned (Value.int .u64 x)) ?_
    omega
  · have E : Hid (zigM n = n * 2) := Lib.hid (if_neg h)
    go_enter Try.func31, Try.ntmps31
    go_wp2_with fail
    go_ret
    refine ⟨?_, rfl⟩
    rw [E.out]
    refine congrArg (fun x => Ending.returned (Value.int .u64 x)) ?_
    omega
theorem rzag_any (w : World) (n : Int) (hn : 0 ≤ n ∧ n < 18446744073709551616) : Calls Try.prog 32 #[.int .u64 n] w fun e w' => e = .returned (.int .i64 (zagM n)) ∧ w' = w := by
  by_cases h : n % 2 = 1
  · have E : Hid (zagM n = -(n / 2) - 1) := Lib.hid (if_pos h)
    go_enter Try.func32, Try.ntmps32
    go_wp2_with fail
    go_ret
    refine ⟨?_, rfl⟩
    rw [E.out]; rfl
  · have E : Hid (zagM n = n / 2) := Lib.hid (if_neg h)
    go_enter Try.func32, Try.ntmps32
    go_wp2_with fail
    go_ret
    refine ⟨?_, rfl⟩
    rw [E.out]; rfl
theorem rclamp_any (w : World) (n k : Int) (hn : -9223372036854775808 ≤ n ∧ n ≤ 9223372036854775807) : Calls Try.prog 33 #[.int .i64 n, .int .i64 k] w fun e w' => e = .returned (.int .i64 (clampM n k)) ∧ w' = w := by
  obtain ⟨t, h0, h1, h2, h3, h4⟩ := clampM_law n k hn
  have H3 := Lib.hid h3; have H2 := Lib.hid h2; have H4 := Lib.hid h4; clear h2 h3 h4
  by_cases k1 : k ≤ 1
  · have e : clampK k = 1 := by unfold clampK; (repeat' split) <;> omega
    have ht : t = 0 := by rw [← H3.out, e]; decide +kernel
    subst ht; clear H3 H2
    go_enter Try.func33, Try.ntmps33
    go_wp2_with fail
    all_goals
      go_ret
      refine ⟨?_, rfl⟩
      rw [H4.out]
      refine congrArg (fun x => Ending.returned (Value.int .i64 x)) ?_
      (repeat' split) <;> omega
  · by_cases k2 : 64 ≤ k
    · have e : clampK k = 64 := by unfold clampK; (repeat' split) <;> omega
      have ht : t = 9223372036854775807 := by rw [← H3.out, e]; decide +kernel
      subst ht; clear H3 H2
      go_enter Try.func33, Try.ntmps33
      go_wp2_with fail
      all_goals
        go_ret
        refine ⟨?_, rfl⟩
        rw [H4.out]
        refine congrArg (fun x => Ending.returned (Value.int .i64 x)) ?_
        (repeat' split) <;> omega
    · have e : clampK k = k := by unfold clampK; (repeat' split) <;> omega
      have e3 : (2 : Int) ^ (k.toNat - 1) = t + 1 := by rw [← H2.out, e, show (k - 1).toNat = k.toNat - 1 by omega]
      have hq : (2 : Int) ^ (k.toNat - 1) ≤ 2 ^ 62 := pow_le_of (by omega)
      rw [e3, show (2 : Int) ^ 62 = 4611686018427387904 from by decide] at hq
      have E3 := Lib.hid e3; clear e3 H3 H2
      go_enter Try.func33, Try.ntmps33
      go_wp2_with fail
      all_goals
        go_ret
        refine ⟨?_, rfl⟩
        rw [H4.out]
        refine congrArg (fun x => Ending.returned (Value.int .i64 x)) ?_
        have e3 := E3.out
        clear H4 E3
        generalize (2 : Int) ^ (k.toNat - 1) = T at *
        subst e3
        unfold wrap64 at *
        (repeat' split) <;> omega
theorem rextend_any (w : World) (n k : Int) (hn : 0 ≤ n ∧ n < 18446744073709551616) : Calls Try.prog 29 #[.int .u64 n, .int .i64 k] w fun e w' => e = .returned (.int .i64 (extM n k)) ∧ w' = w := by
  by_cases h1 : k < 1
  · have E : Hid (extM n k = 0) := Lib.hid (if_pos h1)
    go_enter Try.func29, Try.ntmps29
    go_wp2_with fail
    go_ret
    exact ⟨by rw [E.out]; rfl, rfl⟩
  · by_cases h2 : 64 ≤ k
    · have E : Hid (extM n k = wrap64 n) := Lib.hid (by unfold extM; rw [if_neg h1, if_pos h2, i64w])
      go_enter Try.func29, Try.ntmps29
      go_wp2_with fail
      go_ret
      exact ⟨by rw [E.out]; rfl, rfl⟩
    · have hQH := pow_half k.toNat (by omega)
      have hH := pow_pos2 (k.toNat - 1)
      have hH2 : (2 : Int) ^ (k.toNat - 1) ≤ 2 ^ 62 := pow_le_of (by omega)
      rw [show (2 : Int) ^ 62 = 4611686018427387904 from by decide] at hH2
      have hx : lowM n k = n % 2 ^ k.toNat := by unfold lowM; rw [if_neg h1, if_neg h2]
      have he : extM n k = if n % 2 ^ k.toNat < 2 ^ (k.toNat - 1) then n % 2 ^ k.toNat else n % 2 ^ k.toNat - 2 ^ k.toNat := by
        unfold extM; rw [if_neg h1, if_neg h2, show (k - 1).toNat = k.toNat - 1 by omega]
      have y0 := Int.emod_nonneg n (show (2 : Int) ^ k.toNat ≠ 0 by omega)
      have y1 := Int.emod_lt_of_pos n (show (0 : Int) < 2 ^ k.toNat by omega)
      rw [← hx] at he y0 y1
      rw [hQH] at he y1
      obtain ⟨x, ex⟩ : ∃ x, lowM n k = x := ⟨_, rfl⟩
      have HLOW := Lib.hid (fun w => rlow_any w n k hn)
      rw [ex] at he y0 y1 HLOW
      obtain ⟨H, eH⟩ : ∃ H : Int, 2 ^ (k.toNat - 1) = H := ⟨_, rfl⟩
      rw [eH] at he y1 hH hH2
      have EH := Lib.hid eH
      clear hQH hx ex eH
      by_cases c : x < H
      · have hd : x / H = 0 := Int.ediv_eq_zero_of_lt y0 c
        rw [if_pos c] at he
        have HD := Lib.hid hd; have HE := Lib.hid he; clear hd he
        go_enter Try.func29, Try.ntmps29
        go_wp2_with fail
        refine Calls.mono (HLOW.out _) ?_
        rintro e w' ⟨rfl, rfl⟩
        go_wp2_with fail
        all_goals
          rename_i hh
          rw [EH.out, HD.out] at hh
          first
            | (exact absurd hh (by decide))
            | (go_ret
               refine ⟨?_, rfl⟩
               rw [HE.out]
               refine congrArg (fun x => Ending.returned (Value.int .i64 x)) ?_
               try unfold wrap64
               omega)
      · have hd : x / H = 1 := by
          rw [show x = (x - H) + 1 * H by omega, Int.add_mul_ediv_right _ _ (by omega), Int.ediv_eq_zero_of_lt (by omega) (by omega)]; rfl
        rw [if_neg c] at he
        have HD := Lib.hid hd; have HE := Lib.hid he; clear hd he
        go_enter Try.func29, Try.ntmps29
        go_wp2_with fail
        refine Calls.mono (HLOW.out _) ?_
        rintro e w' ⟨rfl, rfl⟩
        go_wp2_with fail
        all_goals
          rename_i hh
          rw [EH.out, HD.out] at hh
          first
            | (exact absurd hh (by decide))
            | (go_ret
               refine ⟨?_, rfl⟩
               rw [HE.out]
               refine congrArg (fun x => Ending.returned (Value.int .i64 x)) ?_
               have eH := EH.out
               generalize (2 : Int) ^ (k.toNat - 1) = T at *
               subst eH
               try unfold wrap64
               omega)
end Go.Proofs.Ytdchcclcjoaogaa
