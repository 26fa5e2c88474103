/- contracts of bits.Low and of narthexkeep.Small. -/
import Derived.Test.YtlpajohhnngbmaaMixM
namespace Go.Proofs.Ytlpajohhnngbmaa
open Go.RowKit
set_option linter.unusedVariables false

def lowM (n k : Int) : Int := if k < 1 then 0 else if 64 ≤ k then n else n % 2 ^ k.toNat
theorem pow_pos2 (k : Nat) : (0 : Int) < 2 ^ k := Int.pow_pos (by decide)
theorem pow_le_of {a b : Nat} (h : a ≤ b) : (2 : Int) ^ a ≤ 2 ^ b := by
  have h2 : (2 : Nat) ^ a ≤ 2 ^ b := Nat.pow_le_pow_right (by decide) h
  exact_mod_cast h2
theorem and_mask (n : Int) (k : Nat) (h0 : 0 ≤ n) (h1 : n < 18446744073709551616) (hk : k < 64) : bits .and .u64 n (2 ^ k - 1) = n % 2 ^ k := by
  have hp := pow_pos2 k
  have hq : (2 : Int) ^ k ≤ 2 ^ 63 := pow_le_of (by omega)
  have hq' : (2 : Int) ^ 63 = 9223372036854775808 := by decide
  rw [u64_and _ _ h0 h1 (by omega) (by omega)]
  have e : ((2 : Int) ^ k - 1).toNat = 2 ^ k - 1 := by
    have : ((2 : Int) ^ k) = ((2 ^ k : Nat) : Int) := by simp
    rw [this]; omega
  rw [e, Nat.and_two_pow_sub_one_eq_mod]
  have e2 : ((2 ^ k : Nat) : Int) = (2 : Int) ^ k := by simp
  rw [Int.natCast_emod, e2]
  congr 1
  omega

set_option maxRecDepth 100000 in
theorem low_any (w : World) (n k : Int) (hn : 0 ≤ n ∧ n < 18446744073709551616) : Calls Try.prog 86 #[.int .u64 n, .int .i64 k] w fun e w' => e = .returned (.int .u64 (lowM n k)) ∧ w' = w := by
  go_enter Try.func86, Try.ntmps86
  by_cases h1 : k < 1
  · go_wp2
    go_ret
    exact ⟨by simp [lowM, h1], rfl⟩
  · by_cases h2 : 64 ≤ k
    · go_wp2
      go_ret
      exact ⟨by simp [lowM, h2]; omega, rfl⟩
    · have hp := pow_pos2 k.toNat
      have hq : (2 : Int) ^ k.toNat ≤ 2 ^ 63 := pow_le_of (by omega)
      have e1 : IntKind.u64.wrap (2 ^ k.toNat) = 2 ^ k.toNat := IntWalk.u64_in _ ⟨by omega, by omega⟩
      have e2 : IntKind.u64.wrap (2 ^ k.toNat - 1) = 2 ^ k.toNat - 1 := IntWalk.u64_in _ ⟨by omega, by omega⟩
      have e3 := and_mask n k.toNat hn.1 hn.2 (by omega)
      have e4 : lowM n k = n % 2 ^ k.toNat := by simp only [lowM]; rw [if_neg (by omega), if_neg (by omega)]
      have E := Lib.hid (e4.trans e3.symm); have E1 := Lib.hid e1; have E2 := Lib.hid e2
      clear hp hq e1 e2 e3 e4
      go_wp2_with fail
      go_ret
      exact ⟨by rw [E.out, E1.out, E2.out]; rfl, rfl⟩

def smallM (n : Int) : Int :=
  if n % 5 = 0 then n / 5 % 20 else if n % 5 = 1 then [63, 64, 16383, 16384, 1073741823, 1073741824, 4611686018427387903, 0].getD (n / 5 % 8).toNat 0 else n % 4611686018427387904
theorem smallM_in (n : Int) : 0 ≤ smallM n ∧ smallM n ≤ 4611686018427387903 := by
  unfold smallM; split
  · omega
  · split
    · have h1 := Int.emod_nonneg (n / 5) (show (8 : Int) ≠ 0 by omega)
      have h2 := Int.emod_lt_of_pos (n / 5) (show (0 : Int) < 8 by omega)
      have h3 : (n / 5 % 8).toNat < 8 := by omega
      generalize (n / 5 % 8).toNat = i at h3
      match i, h3 with
      | 0, _ => decide
      | 1, _ => decide
      | 2, _ => decide
      | 3, _ => decide
      | 4, _ => decide
      | 5, _ => decide
      | 6, _ => decide
      | 7, _ => decide
    · omega
set_option maxRecDepth 100000 in
theorem small_any (w : World) (n : Int) (hn : 0 ≤ n ∧ n < 18446744073709551616) : Makes Try.prog 23 #[.int .u64 n] w (.int .u64 (smallM n)) := by
  go_enter Try.func23, Try.ntmps23
  by_cases h1 : n % 5 = 0
  · have e : smallM n = n / 5 % 20 := by simp only [smallM]; rw [if_pos h1]
    have E := Lib.hid e; clear e
    go_wp2
    go_ret
    exact ⟨by rw [E.out]; rfl, Below.refl _ _⟩
  · by_cases h2 : n % 5 = 1
    · obtain ⟨i, hi⟩ : ∃ i : Nat, n / 5 % 8 = i := ⟨(n / 5 % 8).toNat, by omega⟩
      have hi8 : i < 8 := by omega
      obtain ⟨v, hv⟩ : ∃ v, ([63, 64, 16383, 16384, 1073741823, 1073741824, 4611686018427387903, 0] : List Int)[i]? = some v := ⟨_, List.getElem?_eq_getElem hi8⟩
      have e : smallM n = v := by simp only [smallM]; rw [if_neg h1, if_pos h2, hi, Int.toNat_natCast, List.getD_eq_getElem?_getD, hv]; rfl
      have E := Lib.hid e; clear e
      have hc : ∀ w : World, (w.alloc (.cells #[.int .u64 63, .int .u64 64, .int .u64 16383, .int .u64 16384, .int .u64 1073741823, .int .u64 1073741824, .int .u64 4611686018427387903, .int .u64 0] 22)).cell? ⟨w.heap.size, i, none⟩ = some (.int .u64 v) := fun w => by
        rw [cell_of_row _ _ _ _ _ _ (heap_alloc_new _ _)]
        have : ([63, 64, 16383, 16384, 1073741823, 1073741824, 4611686018427387903, 0] : List Int).map (Value.int .u64) = [.int .u64 63, .int .u64 64, .int .u64 16383, .int .u64 16384, .int .u64 1073741823, .int .u64 1073741824, .int .u64 4611686018427387903, .int .u64 0] := rfl
        rw [List.getElem?_toArray, ← this, List.getElem?_map, hv]; rfl
      have hcw := hc w
      go_wp2_with fail
      go_ret
      exact ⟨by rw [E.out]; rfl, (Below.refl _ _).alloc (Nat.le_refl _) _⟩
    · have e : smallM n = bits .and .u64 n 4611686018427387903 := by simp only [smallM]; rw [if_neg h1, if_neg h2]; exact (and_mask n 62 hn.1 hn.2 (by omega)).symm
      have E := Lib.hid e; clear e
      go_wp2_with fail
      go_ret
      exact ⟨by rw [E.out]; rfl, Below.refl _ _⟩
end Go.Proofs.Ytlpajohhnngbmaa
