/- texts of the proof, laid together: Head0. -/
import Derived.Test.YthofbckkjcidmaaHead12
namespace Go.Proofs.Ythofbckkjcidmaa
open Go.RowKit
set_option linter.unusedVariables false

theorem khead0_any (w : World) (xs xt xf xw : Int) (a : Option Addr) (tl tc : Nat) (k : List Int) (xp : Bool) (htc : tl ≤ tc) (htm : tc ≤ 9223372036854775807) (hI : IntsK .u8 w a tl k)
    (hs : -9223372036854775808 ≤ xs ∧ xs ≤ 9223372036854775807) (ht : -9223372036854775808 ≤ xt ∧ xt ≤ 9223372036854775807) (hf : -9223372036854775808 ≤ xf ∧ xf ≤ 9223372036854775807) (hw : -9223372036854775808 ≤ xw ∧ xw ≤ 9223372036854775807) :
    Calls Try.prog 8 #[.agg #[.int .i64 xs, .int .i64 xt, .int .i64 xf, .int .i64 xw, .slice a tl tc, .bool xp]] w fun e w' => e = .returned ((keepH xs xt xf xw k xp).val (if (keepH xs xt xf xw k xp).s = 0 then a else none) (if (keepH xs xt xf xw k xp).s = 0 then tc else 0)) ∧ Below w.heap.size w w' := by
  have h1 := within_in xs 0 2 (by omega)
  have h2 := within_in xw 1 4 (by omega)
  have HC := fun n h w => kcid_any w n h
  have hcm : ∀ n, (cidM n).map (Value.int .u8) = [.int .u8 1, .int .u8 (within n 0 1048576 % 5), .int .u8 7, .int .u8 0, .int .u8 0, .int .u8 0, .int .u8 0, .int .u8 0] := fun n => rfl
  have hkl := hI.1
  refine khead_core w xs xt xf xw (within xs 0 2) (within xw 1 4) (within xt 0 1048576 % 5) (within xf 0 1048576 % 5) a tl tc xp htc htm h1 h2
    (Lib.hid fun w => within_any w xs 0 2 (by omega) (by omega) (by omega) hs) (Lib.hid fun w => within_any w xw 1 4 (by omega) (by omega) (by omega) hw)
    (Lib.hid fun w => by have h := HC xt ht w; rw [hcm] at h; exact h) (Lib.hid fun w => by have h := HC xf hf w; rw [hcm] at h; exact h) _
    (Lib.hid fun e w' b => ?_) (Lib.hid fun e w' b => ?_) (Lib.hid fun e w' b => ?_)
  · unfold keepH; rw [if_pos e]
    exact ⟨rfl, b⟩
  · unfold keepH; rw [if_neg (by omega), if_neg (by omega)]
    refine ⟨?_, b⟩
    rw [if_neg (by simp only; omega), if_neg (by simp only; omega), e]; rfl
  · unfold keepH; rw [if_neg (by omega), if_pos e]
    have hm : (k.take 32).length = min tl 32 := by rw [List.length_take, hkl]; omega
    refine ⟨?_, b⟩
    rw [if_pos rfl, if_pos rfl]
    show Ending.returned _ = Ending.returned (Value.agg (Hd.row _ _ _).toArray)
    unfold Hd.row
    simp only [hm]
    rfl
theorem keep_ints {w : World} {a : Option Addr} {tl : Nat} {k : List Int} (xs xt xf xw : Int) (xp : Bool) (hI : IntsK .u8 w a tl k) :
    IntsK .u8 w (if (keepH xs xt xf xw k xp).s = 0 then a else none) (keepH xs xt xf xw k xp).k.length (keepH xs xt xf xw k xp).k := by
  have hkl := hI.1
  unfold keepH
  split
  · exact IntsK.nil _ _ _
  · split
    · have hm : (k.take 32).length = min tl 32 := by rw [List.length_take, hkl]; omega
      simp only
      rw [hm, if_pos trivial]
      have h := hI.pre (min tl 32) (by omega)
      rw [show k.take 32 = k.take (min tl 32) by rcases Nat.le_total tl 32 with h | h; rw [Nat.min_eq_left h, List.take_of_length_le (by omega), List.take_of_length_le (by omega)]; rw [Nat.min_eq_right h]]
      exact h
    · exact IntsK.nil _ _ _
end Go.Proofs.Ythofbckkjcidmaa
