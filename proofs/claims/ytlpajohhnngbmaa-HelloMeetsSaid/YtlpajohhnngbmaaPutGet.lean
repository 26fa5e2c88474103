/- what was put is got. -/
import Derived.Test.YtlpajohhnngbmaaOct3
import Derived.Test.YtlpajohhnngbmaaPut
namespace Go.Proofs.Ytlpajohhnngbmaa
open Go.RowKit
set_option linter.unusedVariables false

theorem put_head {x : Int} (h : 0 ≤ x ∧ x ≤ 4611686018427387903) : ∃ b t, putM x = b :: t ∧ szM b = sizeM x ∧ t.length + 1 = sizeM x ∧ valM (b % 64) t = x := by
  rcases sizeM_cases x with ⟨h1, e⟩ | ⟨h0, h1, e⟩ | ⟨h0, h1, e⟩ | ⟨h0, h1, e⟩ | ⟨h0, e⟩
  · refine ⟨_, _, by simp only [putM, e]; rfl, ?_, by rw [e]; rfl, ?_⟩
    · rw [e]; unfold szM; (repeat' split) <;> omega
    · simp only [valM, List.foldl]; omega
  · refine ⟨_, _, by simp only [putM, e]; rfl, ?_, by rw [e]; rfl, ?_⟩
    · rw [e]; unfold szM; (repeat' split) <;> omega
    · simp only [valM, List.foldl]; omega
  · refine ⟨_, _, by simp only [putM, e]; rfl, ?_, by rw [e]; rfl, ?_⟩
    · rw [e]; unfold szM; (repeat' split) <;> omega
    · simp only [valM, List.foldl]; omega
  · refine ⟨_, _, by simp only [putM, e]; rfl, ?_, by rw [e]; rfl, ?_⟩
    · rw [e]; unfold szM; (repeat' split) <;> omega
    · simp only [valM, List.foldl]; omega
  · omega
theorem get_put {x : Int} (h : 0 ≤ x ∧ x ≤ 4611686018427387903) (more : List Int) : getN (putM x ++ more) = x ∧ getS (putM x ++ more) = sizeM x := by
  obtain ⟨b, t, e, hs, hl, hv⟩ := put_head h
  rw [e, List.cons_append]
  have hlen : ¬ (b :: (t ++ more)).length < szM b := by simp only [List.length_cons, List.length_append]; omega
  unfold getN getS
  simp only [if_neg hlen]
  refine ⟨?_, hs⟩
  rw [hs, ← hl, Nat.add_sub_cancel, List.take_append_of_le_length (Nat.le_refl _), List.take_of_length_le (Nat.le_refl _), hv]
theorem rd_raw (ys R : List Int) : rdM (ys ++ R) false ys.length = (ys, R, false) := by
  rw [rdM_ok (by simp)]; simp
theorem rd_byte (x : Int) (R : List Int) : byteM ([x] ++ R) false = (x, R, false) := by
  have h := rd_raw [x] R
  have e : rdM ([x] ++ R) false 1 = ([x], R, false) := h
  unfold byteM; rw [e]; rfl
theorem rd_two (n : Int) (R : List Int) : twoM ([n / 256, n % 256] ++ R) false = (n, R, false) := by
  have h := rd_raw [n / 256, n % 256] R
  have e : rdM ([n / 256, n % 256] ++ R) false 2 = ([n / 256, n % 256], R, false) := h
  unfold twoM; rw [e]
  show (n / 256 * 256 + n % 256, R, false) = _
  rw [show n / 256 * 256 + n % 256 = n by omega]
theorem rd_var {x : Int} (h : 0 ≤ x ∧ x ≤ 4611686018427387903) (R : List Int) : varM (putM x ++ R) false = (x, R, false) := by
  obtain ⟨h1, h2⟩ := get_put h R
  have hs : sizeM x ≠ 0 := by have := sizeM_cases x; omega
  unfold varM
  rw [if_neg (by rw [h2]; simp; exact hs), h1, h2, ← putM_len, List.drop_append_of_le_length (Nat.le_refl _), List.drop_of_length_le (Nat.le_refl _), List.nil_append]
theorem rd_text (ys R : List Int) (h : ys.length ≤ 4611686018427387903) : textM ((putM ys.length ++ ys) ++ R) false = (ys, R, false) := by
  unfold textM
  rw [List.append_assoc, rd_var ⟨by omega, by omega⟩]
  show (if ((ys ++ R).length : Int) < (ys.length : Int) then _ else rdM (ys ++ R) false ys.length) = _
  rw [if_neg (by simp; omega), rd_raw]
end Go.Proofs.Ytlpajohhnngbmaa
