/- contracts of bits and of its reference: Size, Extend, Zig, Zag, Clamp. -/
import Derived.Test.YtdchcclcjoaogaaLow
import Derived.Deep.DeepCutAuto
import Derived.Deep.CutBlock
namespace Go.Proofs.Ytdchcclcjoaogaa
open Go.RowKit
set_option linter.unusedVariables false

def sizeM (n : Int) : Nat := if n < 64 then 1 else if n < 16384 then 2 else if n < 1073741824 then 4 else if n ≤ 4611686018427387903 then 8 else 0
theorem wrap_u64 (n : Int) : IntKind.u64.wrap n = n % 18446744073709551616 := by simp [IntKind.wrap, IntKind.bits, IntKind.signed]
theorem size_any (w : World) (n : Int) : Calls Try.prog 22 #[.int .u64 n] w fun e w' => e = .returned (.int .i64 (sizeM n)) ∧ w' = w := by
  by_cases h1 : n < 64
  · have E : Hid (sizeM n = 1) := Lib.hid (if_pos h1)
    go_enter Try.func22, Try.ntmps22
    go_wp2_with fail
    go_ret
    exact ⟨by rw [E.out]; rfl, rfl⟩
  · by_cases h2 : n < 16384
    · have E : Hid (sizeM n = 2) := Lib.hid ((if_neg h1).trans (if_pos h2))
      go_enter Try.func22, Try.ntmps22
      go_wp2_with fail
      go_ret
      exact ⟨by rw [E.out]; rfl, rfl⟩
    · by_cases h3 : n < 1073741824
      · have E : Hid (sizeM n = 4) := Lib.hid ((if_neg h1).trans ((if_neg h2).trans (if_pos h3)))
        go_enter Try.func22, Try.ntmps22
        go_wp2_with fail
        go_ret
        exact ⟨by rw [E.out]; rfl, rfl⟩
      · by_cases h4 : n ≤ 4611686018427387903
        · have E : Hid (sizeM n = 8) := Lib.hid ((if_neg h1).trans ((if_neg h2).trans ((if_neg h3).trans (if_pos h4))))
          go_enter Try.func22, Try.ntmps22
          go_wp2_with fail
          go_ret
          exact ⟨by rw [E.out]; rfl, rfl⟩
        · have E : Hid (sizeM n = 0) := Lib.hid ((if_neg h1).trans ((if_neg h2).trans ((if_neg h3).trans (if_neg h4))))
          go_enter Try.func22, Try.ntmps22
          go_wp2_with fail
          go_ret
          exact ⟨by rw [E.out]; rfl, rfl⟩
theorem rsize_any (w : World) (n : Int) : Calls Try.prog 26 #[.int .u64 n] w fun e w' => e = .returned (.int .i64 (sizeM n)) ∧ w' = w := by
  by_cases h1 : n < 64
  · have E : Hid (sizeM n = 1) := Lib.hid (if_pos h1)
    go_enter Try.func26, Try.ntmps26
    go_wp2_with fail
    go_ret
    exact ⟨by rw [E.out]; rfl, rfl⟩
  · by_cases h2 : n < 16384
    · have E : Hid (sizeM n = 2) := Lib.hid ((if_neg h1).trans (if_pos h2))
      go_enter Try.func26, Try.ntmps26
      go_wp2_with fail
      go_ret
      exact ⟨by rw [E.out]; rfl, rfl⟩
    · by_cases h3 : n < 1073741824
      · have E : Hid (sizeM n = 4) := Lib.hid ((if_neg h1).trans ((if_neg h2).trans (if_pos h3)))
        go_enter Try.func26, Try.ntmps26
        go_wp2_with fail
        go_ret
        exact ⟨by rw [E.out]; rfl, rfl⟩
      · by_cases h4 : n ≤ 4611686018427387903
        · have E : Hid (sizeM n = 8) := Lib.hid ((if_neg h1).trans ((if_neg h2).trans ((if_neg h3).trans (if_pos h4))))
          go_enter Try.func26, Try.ntmps26
          go_wp2_with fail
          go_ret
          exact ⟨by rw [E.out]; rfl, rfl⟩
        · have E : Hid (sizeM n = 0) := Lib.hid ((if_neg h1).trans ((if_neg h2).trans ((if_neg h3).trans (if_neg h4))))
          go_enter Try.func26, Try.ntmps26
          go_wp2_with fail
          go_ret
          exact ⟨by rw [E.out]; rfl, rfl⟩

/-- the lowest bits with a sign -/
def extM (n k : Int) : Int :=
  if k < 1 then 0 else if 64 ≤ k then IntKind.i64.wrap n else if n % 2 ^ k.toNat < 2 ^ (k - 1).toNat then n % 2 ^ k.toNat else n % 2 ^ k.toNat - 2 ^ k.toNat
def zigM (n : Int) : Int := if n < 0 then -n * 2 - 1 else n * 2
def zagM (n : Int) : Int := if n % 2 = 1 then -(n / 2) - 1 else n / 2
def clampK (k : Int) : Int := if k < 1 then 1 else if 64 ≤ k then 64 else k
def clampM (n k : Int) : Int := if 2 ^ (clampK k - 1).toNat ≤ n then 2 ^ (clampK k - 1).toNat - 1 else if n < -(2 ^ (clampK k - 1).toNat) then -(2 ^ (clampK k - 1).toNat) else n

theorem w64_in {n : Int} (h : -9223372036854775808 ≤ n ∧ n ≤ 9223372036854775807) : wrap64 n = n := by
  have := IntKind.wrap_i64 n; unfold wrap64 at *; omega
theorem i64w (n : Int) : IntKind.i64.wrap n = wrap64 n := by rw [IntKind.wrap_i64]; unfold wrap64; omega
theorem pow_split (a b : Nat) (h : a + b = 64) : (2 : Int) ^ a * 2 ^ b = 18446744073709551616 := by
  rw [← Int.pow_add, h]; decide
theorem pow_half (k : Nat) (h : 1 ≤ k) : (2 : Int) ^ k = 2 * 2 ^ (k - 1) := by
  obtain ⟨j, rfl⟩ : ∃ j, k = j + 1 := ⟨k - 1, by omega⟩
  rw [Int.pow_succ, Nat.add_sub_cancel, Int.mul_comm]
theorem ext_law (n : Int) (k : Nat) (h1 : 1 ≤ k) (h2 : k < 64) :
    wrap64 (IntKind.u64.wrap (n * 2 ^ (64 - k))) / 2 ^ (64 - k) = if n % 2 ^ k < 2 ^ (k - 1) then n % 2 ^ k else n % 2 ^ k - 2 ^ k := by
  have hP := pow_pos2 (64 - k)
  have hQ := pow_pos2 k
  have hH := pow_pos2 (k - 1)
  have hPQ := pow_split (64 - k) k (by omega)
  have hQH := pow_half k h1
  obtain ⟨P, eP⟩ : ∃ P : Int, 2 ^ (64 - k) = P := ⟨_, rfl⟩
  obtain ⟨Q, eQ⟩ : ∃ Q : Int, 2 ^ k = Q := ⟨_, rfl⟩
  obtain ⟨H, eH⟩ : ∃ H : Int, 2 ^ (k - 1) = H := ⟨_, rfl⟩
  rw [eP] at hP hPQ ⊢; rw [eQ] at hQ hPQ hQH ⊢; rw [eH] at hH hQH ⊢
  rw [wrap_u64, ← hPQ, Int.mul_comm n P, Int.mul_emod_mul_of_pos _ _ hP]
  have y0 := Int.emod_nonneg n (show Q ≠ 0 by omega)
  have y1 := Int.emod_lt_of_pos n hQ
  obtain ⟨y, ey⟩ : ∃ y, n % Q = y := ⟨_, rfl⟩
  rw [ey] at y0 y1 ⊢
  have hPH : P * H = 9223372036854775808 := by rw [hQH, Int.mul_left_comm] at hPQ; omega
  have hy0 : 0 ≤ P * y := Int.mul_nonneg (by omega) y0
  by_cases hy : y < H
  · rw [if_pos hy]
    have h3 : P * (y + 1) ≤ P * H := Int.mul_le_mul_of_nonneg_left (by omega) (by omega)
    rw [Int.mul_add] at h3
    rw [w64_in ⟨by omega, by omega⟩]
    exact Int.mul_ediv_cancel_left _ (by omega)
  · rw [if_neg hy]
    have h3 : P * H ≤ P * y := Int.mul_le_mul_of_nonneg_left (by omega) (by omega)
    have h4 : P * (y + 1) ≤ P * Q := Int.mul_le_mul_of_nonneg_left (by omega) (by omega)
    rw [Int.mul_add] at h4
    have e : wrap64 (P * y) = P * (y - Q) := by
      rw [Int.mul_sub, hPQ]
      have := IntKind.wrap_i64 (P * y); unfold wrap64 at *; omega
    rw [e]
    exact Int.mul_ediv_cancel_left _ (by omega)
theorem xor_ones (x : Int) (h0 : 0 ≤ x) (h1 : x < 18446744073709551616) : bits .xor .u64 x 18446744073709551615 = 18446744073709551615 - x := by
  rw [u64_xor _ _ h0 h1 (by omega) (by omega)]
  have e : (BitVec.ofNat 64 x.toNat ^^^ BitVec.allOnes 64) = ~~~ (BitVec.ofNat 64 x.toNat) := BitVec.xor_allOnes
  have e2 := congrArg BitVec.toNat e
  rw [BitVec.toNat_xor, BitVec.toNat_not, BitVec.toNat_allOnes, BitVec.toNat_ofNat, Nat.mod_eq_of_lt (by omega : x.toNat < 2 ^ 64)] at e2
  rw [show (18446744073709551615 : Int).toNat = 2 ^ 64 - 1 by decide, e2]
  omega
theorem xor_zero64 (x : Int) (h0 : 0 ≤ x) (h1 : x < 18446744073709551616) : bits .xor .u64 x 0 = x := by
  rw [u64_xor _ _ h0 h1 (by omega) (by omega)]; simp; omega
theorem xori_zero (x : Int) (h : -9223372036854775808 ≤ x ∧ x ≤ 9223372036854775807) : bits .xor .i64 x 0 = x := by
  show IntKind.i64.wrap ((BitVec.ofInt 64 x ^^^ BitVec.ofInt 64 0).toNat : Int) = _
  rw [show BitVec.ofInt 64 0 = 0#64 from rfl, BitVec.xor_zero, BitVec.toNat_ofInt, IntKind.wrap_i64]
  have h4 : ((x % ((2 ^ 64 : Nat) : Int)).toNat : Int) = x % 18446744073709551616 := by
    rw [Int.toNat_of_nonneg (Int.emod_nonneg _ (by decide))]; rfl
  rw [h4]; omega
theorem xori_ones (x : Int) (h : -9223372036854775808 ≤ x ∧ x ≤ 9223372036854775807) : bits .xor .i64 x (-1) = -1 - x := by
  show IntKind.i64.wrap ((BitVec.ofInt 64 x ^^^ BitVec.ofInt 64 (-1)).toNat : Int) = _
  rw [show BitVec.ofInt 64 (-1) = BitVec.allOnes 64 from rfl, BitVec.xor_allOnes, BitVec.toNat_not, BitVec.toNat_ofInt, IntKind.wrap_i64]
  have h4 : ((x % ((2 ^ 64 : Nat) : Int)).toNat : Int) = x % 18446744073709551616 := by
    rw [Int.toNat_of_nonneg (Int.emod_nonneg _ (by decide))]; rfl
  have h5 : (x % ((2 ^ 64 : Nat) : Int)).toNat < 18446744073709551616 := by omega
  omega

theorem extend_any (w : World) (n k : Int) (hn : 0 ≤ n ∧ n < 18446744073709551616) : Calls Try.prog 10 #[.int .u64 n, .int .i64 k] w fun e w' => e = .returned (.int .i64 (extM n k)) ∧ w' = w := by
  by_cases h1 : k < 1
  · have E : Hid (extM n k = 0) := Lib.hid (if_pos h1)
    go_enter Try.func10, Try.ntmps10
    go_wp2_with fail
    go_ret
    exact ⟨by rw [E.out]; rfl, rfl⟩
  · by_cases h2 : 64 < k
    · have E : Hid (extM n k = wrap64 n) := Lib.hid (by unfold extM; rw [if_neg h1, if_pos (by omega), i64w])
      go_enter Try.func10, Try.ntmps10
      go_wp2_with fail
      go_ret
      exact ⟨by rw [E.out]; rfl, rfl⟩
    · by_cases h3 : k = 64
      · subst h3
        have E : Hid (extM n 64 = wrap64 n) := Lib.hid (i64w n)
        go_enter Try.func10, Try.ntmps10
        go_wp2_with fail
        go_ret
        exact ⟨by rw [E.out]; rfl, rfl⟩
      · have E : Hid (extM n k = wrap64 (IntKind.u64.wrap (n * 2 ^ (64 - k).toNat)) / 2 ^ (64 - k).toNat) := Lib.hid (by
          obtain ⟨j, rfl⟩ : ∃ j : Nat, k = j := ⟨k.toNat, by omega⟩
          have e := ext_law n j (by omega) (by omega)
          rw [show (64 - (j : Int)).toNat = 64 - j by omega, e]
          unfold extM
          rw [if_neg h1, if_neg (show ¬ 64 ≤ (j : Int) by omega), Int.toNat_natCast, show ((j : Int) - 1).toNat = j - 1 by omega])
        go_enter Try.func10, Try.ntmps10
        go_wp2_with fail
        go_ret
        exact ⟨by rw [E.out]; rfl, rfl⟩
theorem zig_any (w : World) (n : Int) (hn : -9223372036854775808 ≤ n ∧ n ≤ 9223372036854775807) : Calls Try.prog 24 #[.int .i64 n] w fun e w' => e = .returned (.int .u64 (zigM n)) ∧ w' = w := by
  have E : Hid (zigM n = bits BinOp.xor IntKind.u64 (IntKind.u64.wrap (wrap64 (n * 2))) (IntKind.u64.wrap (n / 9223372036854775808))) := Lib.hid (by
    have hw := IntKind.wrap_i64 (n * 2)
    have hw2 : wrap64 (n * 2) = IntKind.i64.wrap (n * 2) := (i64w _).symm
    rw [wrap_u64, wrap_u64]
    unfold zigM
    by_cases h : n < 0
    · rw [if_pos h, show n / 9223372036854775808 % 18446744073709551616 = 18446744073709551615 by omega, xor_ones _ (by omega) (by omega)]; omega
    · rw [if_neg h, show n / 9223372036854775808 % 18446744073709551616 = 0 by omega, xor_zero64 _ (by omega) (by omega)]; omega)
  go_enter Try.func24, Try.ntmps24
  go_wp2_with fail
  go_ret
  exact ⟨by rw [E.out]; rfl, rfl⟩
theorem zag_any (w : World) (n : Int) (hn : 0 ≤ n ∧ n < 18446744073709551616) : Calls Try.prog 23 #[.int .u64 n] w fun e w' => e = .returned (.int .i64 (zagM n)) ∧ w' = w := by
  have E : Hid (zagM n = bits BinOp.xor IntKind.i64 (n / 2) (wrap64 (-wrap64 (bits BinOp.and IntKind.u64 n 1)))) := Lib.hid (by
    have e := and_mask n 1 hn.1 hn.2 (by omega)
    rw [show (2 : Int) ^ 1 - 1 = 1 from by decide, show (2 : Int) ^ 1 = 2 from by decide] at e
    rw [e]
    unfold zagM
    by_cases h : n % 2 = 1
    · rw [if_pos h, h, show wrap64 (-wrap64 1) = -1 from by unfold wrap64; omega, xori_ones _ (by omega)]; omega
    · rw [if_neg h, show n % 2 = 0 by omega, show wrap64 (-wrap64 0) = 0 from by unfold wrap64; omega, xori_zero _ (by omega)])
  go_enter Try.func23, Try.ntmps23
  go_wp2_with fail
  go_ret
  exact ⟨by rw [E.out]; rfl, rfl⟩
theorem clamp_in (k : Int) : 1 ≤ clampK k ∧ clampK k ≤ 64 := by unfold clampK; (repeat' split) <;> omega
/-- the program's least and greatest -/
theorem clampM_law (n k : Int) (hn : -9223372036854775808 ≤ n ∧ n ≤ 9223372036854775807) :
    ∃ t : Int, 0 ≤ t ∧ t ≤ 9223372036854775807 ∧ 2 ^ (clampK k - 1).toNat = t + 1 ∧ wrap64 (wrap64 (2 ^ (clampK k - 1).toNat) - 1) = t ∧ clampM n k = (if -t - 1 < (if t < n then t else n) then (if t < n then t else n) else -t - 1) := by
  have hr := clamp_in k
  obtain ⟨j, hj⟩ : ∃ j, (clampK k - 1).toNat = j := ⟨_, rfl⟩
  have hp := pow_pos2 j
  have hq : (2 : Int) ^ j ≤ 2 ^ 63 := pow_le_of (by omega)
  rw [show (2 : Int) ^ 63 = 9223372036854775808 from by decide] at hq
  unfold clampM
  rw [hj]
  obtain ⟨T, hT⟩ : ∃ T : Int, 2 ^ j = T := ⟨_, rfl⟩
  rw [hT] at hp hq ⊢
  refine ⟨T - 1, by omega, by omega, by omega, by unfold wrap64; omega, ?_⟩
  (repeat' split) <;> omega
theorem clamp_any (w : World) (n k : Int) (hn : -9223372036854775808 ≤ n ∧ n ≤ 9223372036854775807) : Calls Try.prog 9 #[.int .i64 n, .int .i64 k] w fun e w' => e = .returned (.int .i64 (clampM n k)) ∧ w' = w := by
  obtain ⟨t, h0, h1, h2, h3, h4⟩ := clampM_law n k hn
  have H3 := Lib.hid h3; have H4 := Lib.hid h4; clear h2 h3 h4
  by_cases k1 : k ≤ 1
  · have e : clampK k = 1 := by unfold clampK; (repeat' split) <;> omega
    have ht : t = 0 := by rw [← H3.out, e]; decide +kernel
    subst ht; clear H3
    go_enter Try.func9, Try.ntmps9
    go_wp2_with fail
    all_goals
      go_ret
      refine ⟨?_, rfl⟩
      rw [H4.out]
      refine congrArg (fun x => Ending.returned (Value.int .i64 x)) ?_
      (repeat' split) <;> omega
  · by_cases k2 : 64 ≤ k
    · have e : clampK k = 64 := by unfold clampK; (repeat' split) <;> omega
      have ht : t = 9223372036854775807 := by rw [← H3.out, e]; decide +kernel
      subst ht; clear H3
      have E3 : Hid (wrap64 (wrap64 9223372036854775808 - 1) = 9223372036854775807) := Lib.hid (by unfold wrap64; omega)
      by_cases k3 : k = 64
      · subst k3
        go_enter Try.func9, Try.ntmps9
        go_upto_region 3 with fail
        rw [E3.out]
        go_wp2_with fail
        all_goals
          go_ret
          refine ⟨?_, rfl⟩
          rw [H4.out]
          refine congrArg (fun x => Ending.returned (Value.int .i64 x)) ?_
          (repeat' split) <;> omega
      · have E3 : Hid (wrap64 (wrap64 (2 ^ ((if 64 < k then 64 else k).toNat - 1)) - 1) = 9223372036854775807) := Lib.hid (by rw [if_pos (by omega)]; decide +kernel)
        go_enter Try.func9, Try.ntmps9
        go_upto_region 3 with fail
        rw [E3.out]
        go_wp2_with fail
        all_goals
          go_ret
          refine ⟨?_, rfl⟩
          rw [H4.out]
          refine congrArg (fun x => Ending.returned (Value.int .i64 x)) ?_
          (repeat' split) <;> omega
    · have e : clampK k = k := by unfold clampK; (repeat' split) <;> omega
      have e3 : wrap64 (wrap64 (2 ^ ((if 64 < k then 64 else k).toNat - 1)) - 1) = t := by rw [if_neg (by omega), ← H3.out, e, show (k - 1).toNat = k.toNat - 1 by omega]
      have E3 := Lib.hid e3; clear e3 H3
      go_enter Try.func9, Try.ntmps9
      go_upto_region 3 with fail
      rw [E3.out]
      go_wp2_with fail
      all_goals
        go_ret
        refine ⟨?_, rfl⟩
        rw [H4.out]
        refine congrArg (fun x => Ending.returned (Value.int .i64 x)) ?_
        (repeat' split) <;> omega
end Go.Proofs.Ytdchcclcjoaogaa
