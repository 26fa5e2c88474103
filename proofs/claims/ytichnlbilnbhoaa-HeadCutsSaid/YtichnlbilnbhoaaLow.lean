/- contracts of bits.Low and of narthexkeep.Small. -/
import Derived.Test.YtichnlbilnbhoaaMixM
namespace Go.Proofs.Ytichnlbilnbhoaa
open Go.RowKit
set_option linter.unusedVariables false

def lowM (n k : Int) : Int := if k < 1 then 0 else if 64 ≤ k then n else n % 2 ^ k.toNat
theorem pow_pos2 (k : Nat) : (0 : Int) < 2 ^ k := Int.pow_pos (by decide)
theorem pow_le_of {a b : Nat} (h : a ≤ b) : (2 : Int) ^ a ≤ 2 ^ b := by
  have h2 : (2 : Nat) ^ a ≤ 2 ^ b := Nat.pow_le_pow_right (by decide) h
  exact_mod_cast h2
theorem and_mask (n : Int) (k : Nat) (h0 : 0 ≤ n) (h1 : n < 18446744073709551616) (hk : k < 64) : bits .and .u64 n (2 ^ k - 1) = n % 2 ^ k := by
  have hp := pow_pos2 k
  have hq : (2 : Int) ^ k ≤ 2 ^ 63 := pow_le_of (by omega)
  have hq' : (2 : Int) ^ 63 = 9223372036854775808 := by decide
  rw [u64_and _ _ h0 h1 (by omega) (by omega)]
  have e : ((2 : Int) ^ k - 1).toNat = 2 ^ k - 1 := by
    have : ((2 : Int) ^ k) = ((2 ^ k : Nat) : Int) := by simp
    rw [this]; omega
  rw [e, Nat.and_two_pow_sub_one_eq_mod]
  have e2 : ((2 ^ k : Nat) : Int) = (2 : Int) ^ k := by simp
  rw [Int.natCast_emod, e2]
  congr 1
  omega

theorem low_any (w : World) (n k : Int) (hn : 0 ≤ n ∧ n < 18446744073709551616) : Calls Try.prog 52 #[.int .u64 n, .int .i64 k] w fun e w' => e = .returned (.int .u64 (lowM n k)) ∧ w' = w := by
  go_enter Try.func52, Try.ntmps52
  by_cases h1 : k < 1
  · go_wp2
    go_ret
    exact ⟨by simp [lowM, h1], rfl⟩
  · by_cases h2 : 64 ≤ k
    · go_wp2
      go_ret
      exact ⟨by simp [lowM, h2]; omega, rfl⟩
    · have hp := pow_pos2 k.toNat
      have hq : (2 : Int) ^ k.toNat ≤ 2 ^ 63 := pow_le_of (by omega)
      have e1 : IntKind.u64.wrap (2 ^ k.toNat) = 2 ^ k.toNat := IntWalk.u64_in _ ⟨by omega, by omega⟩
      have e2 : IntKind.u64.wrap (2 ^ k.toNat - 1) = 2 ^ k.toNat - 1 := IntWalk.u64_in _ ⟨by omega, by omega⟩
      have e3 := and_mask n k.toNat hn.1 hn.2 (by omega)
      have e4 : lowM n k = n % 2 ^ k.toNat := by simp only [lowM]; rw [if_neg (by omega), if_neg (by omega)]
      have E := Lib.hid (e4.trans e3.symm); have E1 := Lib.hid e1; have E2 := Lib.hid e2
      clear hp hq e1 e2 e3 e4
      go_wp2_with fail
      go_ret
      exact ⟨by rw [E.out, E1.out, E2.out]; rfl, rfl⟩

end Go.Proofs.Ytichnlbilnbhoaa
