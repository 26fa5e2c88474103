/- contracts of bits and of its reference: Size, Extend, Zig, Zag, Clamp. -/
import Derived.Test.YtlpajohhnngbmaaLow
import Derived.Deep.DeepCutAuto
import Derived.Deep.CutBlock
namespace Go.Proofs.Ytlpajohhnngbmaa
open Go.RowKit
set_option linter.unusedVariables false

def sizeM (n : Int) : Nat := if n < 64 then 1 else if n < 16384 then 2 else if n < 1073741824 then 4 else if n ≤ 4611686018427387903 then 8 else 0
theorem wrap_u64 (n : Int) : IntKind.u64.wrap n = n % 18446744073709551616 := by simp [IntKind.wrap, IntKind.bits, IntKind.signed]
set_option maxRecDepth 100000 in
theorem size_any (w : World) (n : Int) : Calls Try.prog 79 #[.int .u64 n] w fun e w' => e = .returned (.int .i64 (sizeM n)) ∧ w' = w := by
  by_cases h1 : n < 64
  · have E : Hid (sizeM n = 1) := Lib.hid (if_pos h1)
    go_enter Try.func79, Try.ntmps79
    go_wp2_with fail
    go_ret
    exact ⟨by rw [E.out]; rfl, rfl⟩
  · by_cases h2 : n < 16384
    · have E : Hid (sizeM n = 2) := Lib.hid ((if_neg h1).trans (if_pos h2))
      go_enter Try.func79, Try.ntmps79
      go_wp2_with fail
      go_ret
      exact ⟨by rw [E.out]; rfl, rfl⟩
    · by_cases h3 : n < 1073741824
      · have E : Hid (sizeM n = 4) := Lib.hid ((if_neg h1).trans ((if_neg h2).trans (if_pos h3)))
        go_enter Try.func79, Try.ntmps79
        go_wp2_with fail
        go_ret
        exact ⟨by rw [E.out]; rfl, rfl⟩
      · by_cases h4 : n ≤ 4611686018427387903
        · have E : Hid (sizeM n = 8) := Lib.hid ((if_neg h1).trans ((if_neg h2).trans ((if_neg h3).trans (if_pos h4))))
          go_enter Try.func79, Try.ntmps79
          go_wp2_with fail
          go_ret
          exact ⟨by rw [E.out]; rfl, rfl⟩
        · have E : Hid (sizeM n = 0) := Lib.hid ((if_neg h1).trans ((if_neg h2).trans ((if_neg h3).trans (if_neg h4))))
          go_enter Try.func79, Try.ntmps79
          go_wp2_with fail
          go_ret
          exact ⟨by rw [E.out]; rfl, rfl⟩
set_option maxRecDepth 100000 in
theorem rsize_any (w : World) (n : Int) : Calls Try.prog 62 #[.int .u64 n] w fun e w' => e = .returned (.int .i64 (sizeM n)) ∧ w' = w := by
  by_cases h1 : n < 64
  · have E : Hid (sizeM n = 1) := Lib.hid (if_pos h1)
    go_enter Try.func62, Try.ntmps62
    go_wp2_with fail
    go_ret
    exact ⟨by rw [E.out]; rfl, rfl⟩
  · by_cases h2 : n < 16384
    · have E : Hid (sizeM n = 2) := Lib.hid ((if_neg h1).trans (if_pos h2))
      go_enter Try.func62, Try.ntmps62
      go_wp2_with fail
      go_ret
      exact ⟨by rw [E.out]; rfl, rfl⟩
    · by_cases h3 : n < 1073741824
      · have E : Hid (sizeM n = 4) := Lib.hid ((if_neg h1).trans ((if_neg h2).trans (if_pos h3)))
        go_enter Try.func62, Try.ntmps62
        go_wp2_with fail
        go_ret
        exact ⟨by rw [E.out]; rfl, rfl⟩
      · by_cases h4 : n ≤ 4611686018427387903
        · have E : Hid (sizeM n = 8) := Lib.hid ((if_neg h1).trans ((if_neg h2).trans ((if_neg h3).trans (if_pos h4))))
          go_enter Try.func62, Try.ntmps62
          go_wp2_with fail
          go_ret
          exact ⟨by rw [E.out]; rfl, rfl⟩
        · have E : Hid (sizeM n = 0) := Lib.hid ((if_neg h1).trans ((if_neg h2).trans ((if_neg h3).trans (if_neg h4))))
          go_enter Try.func62, Try.ntmps62
          go_wp2_with fail
          go_ret
          exact ⟨by rw [E.out]; rfl, rfl⟩

/-- the lowest bits with a sign -/
def extM (n k : Int) : Int :=
  if k < 1 then 0 else if 64 ≤ k then IntKind.i64.wrap n else if n % 2 ^ k.toNat < 2 ^ (k - 1).toNat then n % 2 ^ k.toNat else n % 2 ^ k.toNat - 2 ^ k.toNat
def zigM (n : Int) : Int := if n < 0 then -n * 2 - 1 else n * 2
def zagM (n : Int) : Int := if n % 2 = 1 then -(n / 2) - 1 else n / 2
def clampK (k : Int) : Int := if k < 1 then 1 else if 64 ≤ k then 64 else k
def clampM (n k : Int) : Int := if 2 ^ (clampK k - 1).toNat ≤ n then 2 ^ (clampK k - 1).toNat - 1 else if n < -(2 ^ (clampK k - 1).toNat) then -(2 ^ (clampK k - 1).toNat) else n

theorem w64_in {n : Int} (h : -9223372036854775808 ≤ n ∧ n ≤ 9223372036854775807) : wrap64 n = n := by
  have := IntKind.wrap_i64 n; unfold wrap64 at *; omega
theorem i64w (n : Int) : IntKind.i64.wrap n = wrap64 n := by rw [IntKind.wrap_i64]; unfold wrap64; omega
theorem pow_split (a b : Nat) (h : a + b = 64) : (2 : Int) ^ a * 2 ^ b = 18446744073709551616 := by
  rw [← Int.pow_add, h]; decide
theorem pow_half (k : Nat) (h : 1 ≤ k) : (2 : Int) ^ k = 2 * 2 ^ (k - 1) := by
  obtain ⟨j, rfl⟩ : ∃ j, k = j + 1 := ⟨k - 1, by omega⟩
  rw [Int.pow_succ, Nat.add_sub_cancel, Int.mul_comm]
theorem ext_law (n : Int) (k : Nat) (h1 : 1 ≤ k) (h2 : k < 64) :
    wrap64 (IntKind.u64.wrap (n * 2 ^ (64 - k))) / 2 ^ (64 - k) = if n % 2 ^ k < 2 ^ (k - 1) then n % 2 ^ k else n % 2 ^ k - 2 ^ k := by
  have hP := pow_pos2 (64 - k)
  have hQ := pow_pos2 k
  have hH := pow_pos2 (k - 1)
  have hPQ := pow_split (64 - k) k (by omega)
  have hQH := pow_half k h1
  obtain ⟨P, eP⟩ : ∃ P : Int, 2 ^ (64 - k) = P := ⟨_, rfl⟩
  obtain ⟨Q, eQ⟩ : ∃ Q : Int, 2 ^ k = Q := ⟨_, rfl⟩
  obtain ⟨H, eH⟩ : ∃ H : Int, 2 ^ (k - 1) = H := ⟨_, rfl⟩
  rw [eP] at hP hPQ ⊢; rw [eQ] at hQ hPQ hQH ⊢; rw [eH] at hH hQH ⊢
  rw [wrap_u64, ← hPQ, Int.mul_comm n P, Int.mul_emod_mul_of_pos _ _ hP]
  have y0 := Int.emod_nonneg n (show Q ≠ 0 by omega)
  have y1 := Int.emod_lt_of_pos n hQ
  obtain ⟨y, ey⟩ : ∃ y, n % Q = y := ⟨_, rfl⟩
  rw [ey] at y0 y1 ⊢
  have hPH : P * H = 9223372036854775808 := by rw [hQH, Int.mul_left_comm] at hPQ; omega
  have hy0 : 0 ≤ P * y := Int.mul_nonneg (by omega) y0
  by_cases hy : y < H
  · rw [if_pos hy]
    have h3 : P * (y + 1) ≤ P * H := Int.mul_le_mul_of_nonneg_left (by omega) (by omega)
    rw [Int.mul_add] at h3
    rw [w64_in ⟨by omega, by omega⟩]
    exact Int.mul_ediv_cancel_left _ (by omega)
  · rw [if_neg hy]
    have h3 : P * H ≤ P * y := Int.mul_le_mul_of_nonneg_left (by omega) (by omega)
    have h4 : P * (y + 1) ≤ P * Q := Int.mul_le_mul_of_nonneg_left (by omega) (by omega)
    rw [Int.mul_add] at h4
    have e : wrap64 (P * y) = P * (y - Q) := by
      rw [Int.mul_sub, hPQ]
      have := IntKind.wrap_i64 (P * y); unfold wrap64 at *; omega
    rw [e]
    exact Int.mul_ediv_cancel_left _ (by omega)
theorem xor_ones (x : Int) (h0 : 0 ≤ x) (h1 : x < 18446744073709551616) : bits .xor .u64 x 18446744073709551615 = 18446744073709551615 - x := by
  rw [u64_xor _ _ h0 h1 (by omega) (by omega)]
  have e : (BitVec.ofNat 64 x.toNat ^^^ BitVec.allOnes 64) = ~~~ (BitVec.ofNat 64 x.toNat) := BitVec.xor_allOnes
  have e2 := congrArg BitVec.toNat e
  rw [BitVec.toNat_xor, BitVec.toNat_not, BitVec.toNat_allOnes, BitVec.toNat_ofNat, Nat.mod_eq_of_lt (by omega : x.toNat < 2 ^ 64)] at e2
  rw [show (18446744073709551615 : Int).toNat = 2 ^ 64 - 1 by decide, e2]
  omega
theorem xor_zero64 (x : Int) (h0 : 0 ≤ x) (h1 : x < 18446744073709551616) : bits .xor .u64 x 0 = x := by
  rw [u64_xor _ _ h0 h1 (by omega) (by omega)]; simp; omega
theorem xori_zero (x : Int) (h : -9223372036854775808 ≤ x ∧ x ≤ 9223372036854775807) : bits .xor .i64 x 0 = x := by
  show IntKind.i64.wrap ((BitVec.ofInt 64 x ^^^ BitVec.ofInt 64 0).toNat : Int) = _
  rw [show BitVec.ofInt 64 0 = 0#64 from rfl, BitVec.xor_zero, BitVec.toNat_ofInt, IntKind.wrap_i64]
  have h4 : ((x % ((2 ^ 64 : Nat) : Int)).toNat : Int) = x % 18446744073709551616 := by
    rw [Int.toNat_of_nonneg (Int.emod_nonneg _ (by decide))]; rfl
  rw [h4]; omega
theorem xori_ones (x : Int) (h : -9223372036854775808 ≤ x ∧ x ≤ 9223372036854775807) : bits .xor .i64 x (-1) = -1 - x := by
  show IntKind.i64.wrap ((BitVec.ofInt 64 x ^^^ BitVec.ofInt 64 (-1)).toNat : Int) = _
  rw [show BitVec.ofInt 64 (-1) = BitVec.allOnes 64 from rfl, BitVec.xor_allOnes, BitVec.toNat_not, BitVec.toNat_ofInt, IntKind.wrap_i64]
  have h4 : ((x % ((2 ^ 64 : Nat) : Int)).toNat : Int) = x % 18446744073709551616 := by
    rw [Int.toNat_of_nonneg (Int.emod_nonneg _ (by decide))]; rfl
  have h5 : (x % ((2 ^ 64 : Nat) : Int)).toNat < 18446744073709551616 := by omega
  omega

end Go.Proofs.Ytlpajohhnngbmaa
