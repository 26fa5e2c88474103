/- contracts of mix, of its reference, of Rot. -/
import Derived.Test.YtdchcclcjoaogaaMixM
namespace Go.Proofs.Ytdchcclcjoaogaa
open Go.RowKit
set_option linter.unusedVariables false

theorem rot_any (w : World) (n k : Int) : Quiet Try.prog 25 #[.int .u64 n, .int .i64 k] w (.int .u64 (rotM n k)) := by
  have ha := and63 k
  have h1 := Int.emod_nonneg k (show (64 : Int) ≠ 0 by omega)
  have h2 := Int.emod_lt_of_pos k (show (0 : Int) < 64 by omega)
  have e : rotM n k = bits .or .u64 (IntKind.u64.wrap (n * 2 ^ (k % 64).toNat)) (n / 2 ^ (64 - k % 64).toNat) := rfl
  obtain ⟨r, hr⟩ : ∃ r, k % 64 = r := ⟨_, rfl⟩
  rw [hr] at ha h1 h2 e
  have E := Lib.hid e; clear e hr
  go_enter Try.func25, Try.ntmps25
  go_wp2
  go_quiet (fail)
  go_wp2
  go_ret
  refine ⟨?_, _, rfl⟩
  rw [E.out]; rfl
theorem tmod64 (k : Int) : (k.tmod 64 + 64).tmod 64 = k % 64 := by
  have h1 := Int.tmod_lt_of_pos k (show (0 : Int) < 64 by omega)
  have h2 := Int.lt_tmod_of_pos k (show (0 : Int) < 64 by omega)
  rw [Int.tmod_eq_emod_of_nonneg (by omega)]
  have h3 := Int.tmod_add_mul_tdiv k 64
  omega
theorem rrot_any (w : World) (n k : Int) : Quiet Try.prog 30 #[.int .u64 n, .int .i64 k] w (.int .u64 (rotM n k)) := by
  have h1 := Int.emod_nonneg k (show (64 : Int) ≠ 0 by omega)
  have h2 := Int.emod_lt_of_pos k (show (0 : Int) < 64 by omega)
  have h3 := Int.tmod_lt_of_pos k (show (0 : Int) < 64 by omega)
  have h4 := Int.lt_tmod_of_pos k (show (0 : Int) < 64 by omega)
  have ha := tmod64 k
  have e : rotM n k = bits .or .u64 (IntKind.u64.wrap (n * 2 ^ (k % 64).toNat)) (n / 2 ^ (64 - k % 64).toNat) := rfl
  obtain ⟨r, hr⟩ : ∃ r, k % 64 = r := ⟨_, rfl⟩
  obtain ⟨q, hq⟩ : ∃ q, k.tmod 64 = q := ⟨_, rfl⟩
  rw [hq, Int.tmod_eq_emod_of_nonneg (by omega)] at ha
  rw [hr] at ha h1 h2 e
  rw [hq] at h3 h4
  have E := Lib.hid e; clear e hr
  refine Quiet.same ?_
  go_enter Try.func30, Try.ntmps30
  go_wp2
  go_ret
  refine ⟨?_, rfl⟩
  rw [E.out]; rfl
end Go.Proofs.Ytdchcclcjoaogaa
