/- contracts of bits.Low and of narthexkeep.Small. -/
import Derived.Test.YtpngjokjjpdboaaMixM
namespace Go.Proofs.Ytpngjokjjpdboaa
open Go.RowKit
set_option linter.unusedVariables false

def lowM (n k : Int) : Int := if k < 1 then 0 else if 64 ≤ k then n else n % 2 ^ k.toNat
theorem pow_pos2 (k : Nat) : (0 : Int) < 2 ^ k := Int.pow_pos (by decide)
theorem pow_le_of {a b : Nat} (h : a ≤ b) : (2 : Int) ^ a ≤ 2 ^ b := by
  have h2 : (2 : Nat) ^ a ≤ 2 ^ b := Nat.pow_le_pow_right (by decide) h
  exact_mod_cast h2
theorem and_mask (n : Int) (k : Nat) (h0 : 0 ≤ n) (h1 : n < 18446744073709551616) (hk : k < 64) : bits .and .u64 n (2 ^ k - 1) = n % 2 ^ k := by
  have hp := pow_pos2 k
  have hq : (2 : Int) ^ k ≤ 2 ^ 63 := pow_le_of (by omega)
  have hq' : (2 : Int) ^ 63 = 9223372036854775808 := by decide
  rw [u64_and _ _ h0 h1 (by omega) (by omega)]
  have e : ((2 : Int) ^ k - 1).toNat = 2 ^ k - 1 := by
    have : ((2 : Int) ^ k) = ((2 ^ k : Nat) : Int) := by simp
    rw [this]; omega
  rw [e, Nat.and_two_pow_sub_one_eq_mod]
  have e2 : ((2 ^ k : Nat) : Int) = (2 : Int) ^ k := by simp
  rw [Int.natCast_emod, e2]
  congr 1
  omega

end Go.Proofs.Ytpngjokjjpdboaa
