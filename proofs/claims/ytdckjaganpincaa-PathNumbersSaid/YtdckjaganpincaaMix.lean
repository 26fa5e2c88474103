/- contracts of mix, of its reference, of Rot. -/
import Derived.Test.YtdckjaganpincaaMixM
namespace Go.Proofs.Ytdckjaganpincaa
open Go.RowKit
set_option linter.unusedVariables false

theorem end_any (w : World) (h : Int) : Quiet Try.prog 26 #[.int .u64 h] w (.int .u64 (endM h)) := by
  refine Quiet.same ?_
  go_enter Try.func26, Try.ntmps26
  go_wp2
  go_ret
  exact ⟨rfl, rfl⟩
theorem rend_any (w : World) (h : Int) : Quiet Try.prog 27 #[.int .u64 h] w (.int .u64 (endM h)) := by
  refine Quiet.same ?_
  go_enter Try.func27, Try.ntmps27
  go_wp2
  go_ret
  exact ⟨rfl, rfl⟩
theorem next_any (w : World) (n : Int) : Quiet Try.prog 23 #[.int .u64 n] w (.int .u64 (nextM n)) := by
  go_enter Try.func23, Try.ntmps23
  go_wp2_with fail
  refine Calls.mono (end_any _ _) ?_
  rintro e w' ⟨rfl, m, rfl⟩
  go_wp2_with fail
  go_ret
  exact ⟨rfl, _, rfl⟩
theorem rnext_any (w : World) (n : Int) : Quiet Try.prog 25 #[.int .u64 n] w (.int .u64 (nextM n)) := by
  go_enter Try.func25, Try.ntmps25
  go_wp2_with fail
  refine Calls.mono (rend_any _ _) ?_
  rintro e w' ⟨rfl, m, rfl⟩
  go_wp2_with fail
  go_ret
  exact ⟨rfl, _, rfl⟩
theorem bytes_any (w : World) (n : Int) : Calls Try.prog 22 #[.int .u64 n] w fun e w' => e = .returned (.agg ((bytesM n).map (Value.int .u8)).toArray) ∧ Below w.heap.size w w' := by
  go_enter Try.func22, Try.ntmps22
  go_wp2_with fail
  refine wp_loop_rounds 9 ?_
  repeat any_goals (rw [rounds_succ]; go_wp2_with fail)
  exact bodyPost_ret (v := .agg ((bytesM n).map (Value.int .u8)).toArray) (by simp [results, Try.results22, go_sem, bytesM]) rfl ⟨rfl, ((Below.refl _ _).alloc (Nat.le_refl _) _).alloc (by simp) _⟩
theorem rbytes_any (w : World) (n : Int) : Calls Try.prog 24 #[.int .u64 n] w fun e w' => e = .returned (.slice (some ⟨w.heap.size, 0, none⟩) 8 8) ∧
    Fresh w w' (.cells ((bytesM n).map (Value.int .u8)).toArray 5) := by
  have hmk : ∀ w, (Instr.makeSlice 45 (.int .i64 8) (.int .i64 8)).run Try.prog w = .ok (.slice (some ⟨w.heap.size, 0, none⟩) 8 8) (w.alloc (.cells #[.int .u8 0, .int .u8 0, .int .u8 0, .int .u8 0, .int .u8 0, .int .u8 0, .int .u8 0, .int .u8 0] 5)) := fun _ => by kernel_rfl
  go_enter Try.func24, Try.ntmps24
  go_wp2_with fail
  refine wp_loop_rounds 9 ?_
  repeat any_goals (rw [rounds_succ]; go_wp2_with fail)
  go_ret
  exact ⟨rfl, Fresh.of_alloc _ _⟩
end Go.Proofs.Ytdckjaganpincaa
