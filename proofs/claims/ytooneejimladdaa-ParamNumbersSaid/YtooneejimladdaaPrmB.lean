/- chapter 6's walks: known. -/
import Derived.Test.YtooneejimladdaaPrmA
namespace Go.Proofs.Ytooneejimladdaa
open Go.RowKit
set_option linter.unusedVariables false

theorem pencode_ok (w : World) (p : Pm) (hp : p.ok) (hr : rightM p = true) : Calls Try.prog 15 #[p.val] w fun e w' => ∃ a cap, e = .returned (.tuple #[.slice a (encP p).length cap, .int .i64 0]) ∧ (encP p).length ≤ cap ∧ cap ≤ 9223372036854775807 ∧ IntsK .u8 w' a (encP p).length (encP p) ∧ (∀ x, a = some x → w.heap.size ≤ x.block) ∧ Below w.heap.size w w' := by
  refine Calls.mono (pencode_any w p hp) ?_
  rintro e w' ⟨hb, h⟩
  rcases h with ⟨_, a, cap, h1, h2, h3, h4, h5⟩ | ⟨h, _⟩
  · exact ⟨a, cap, h1, h2, h3, h4, h5, hb⟩
  · rw [hr] at h; cases h
theorem pencode_no (w : World) (p : Pm) (hp : p.ok) (hr : rightM p = false) : Makes Try.prog 15 #[p.val] w (.tuple #[.slice none 0 0, .int .i64 1]) := by
  refine Calls.mono (pencode_any w p hp) ?_
  rintro e w' ⟨hb, h⟩
  rcases h with ⟨h, _⟩ | ⟨_, h⟩
  · rw [hr] at h; cases h
  · exact ⟨h, hb⟩

set_option maxRecDepth 100000 in
set_option maxHeartbeats 4000000 in
theorem known6_any (w : World) : Makes Try.prog 11 #[] w (.bool true) := by
  have HD : Hid (∀ w, Calls Try.prog 16 #[.slice none 0 0] w fun e w' => e = .returned (.tuple #[.agg #[.int .u64 0, .int .u64 0, .int .u64 0, .int .u64 0, .int .u8 0, .int .u8 0, .int .u8 0, .int .u8 0, .int .u8 0, .int .u8 0, .int .u8 0, .int .u8 0], .int .i64 12]) ∧ Below w.heap.size w w') := Lib.hid (fun w => pdecode_any w none 0 0 [] (by omega) (IntsK.nil _ _ _))
  have HE1 : Hid (∀ w, Makes Try.prog 15 #[.agg #[.int .u64 0, .int .u64 0, .int .u64 0, .int .u64 1048577, .int .u8 0, .int .u8 0, .int .u8 0, .int .u8 0, .int .u8 0, .int .u8 0, .int .u8 0, .int .u8 0]] w (.tuple #[.slice none 0 0, .int .i64 1])) :=
    Lib.hid (fun w => pencode_no w ⟨0, 0, 0, 1048577, [0, 0, 0, 0, 0, 0, 0, 0]⟩ ⟨by decide, by decide, by decide, by decide, rfl, by decide⟩ (by decide))
  have hen : encP ⟨5, 0, 0, 0, [0, 0, 0, 0, 0, 0, 0, 0]⟩ = [1, 1, 5, 0, 8, 0, 0, 0, 0, 0, 0, 0, 0] := by decide
  have HE2 : Hid (∀ w, Calls Try.prog 15 #[.agg #[.int .u64 5, .int .u64 0, .int .u64 0, .int .u64 0, .int .u8 0, .int .u8 0, .int .u8 0, .int .u8 0, .int .u8 0, .int .u8 0, .int .u8 0, .int .u8 0]] w fun e w' => ∃ a cap, e = .returned (.tuple #[.slice a 13 cap, .int .i64 0]) ∧ IntsK .u8 w' a 13 [1, 1, 5, 0, 8, 0, 0, 0, 0, 0, 0, 0, 0] ∧ Below w.heap.size w w') := Lib.hid (fun w => by
    have h := pencode_ok w ⟨5, 0, 0, 0, [0, 0, 0, 0, 0, 0, 0, 0]⟩ ⟨by decide, by decide, by decide, by decide, rfl, by decide⟩ (by decide)
    rw [hen] at h
    exact Calls.mono h fun e w' ⟨a, cap, h1, _, _, h4, _, h6⟩ => ⟨a, cap, h1, h4, h6⟩)
  clear hen
  go_enter Try.func11, Try.ntmps11
  go_wp2_with fail
  refine Calls.mono (HD.out _) ?_
  rintro e w1 ⟨rfl, hb1⟩
  have HB1 := Lib.hid (hb1.alloc hb1.size (.cells #[.int .u64 0, .int .u64 0, .int .u64 0, .int .u64 0, .int .u8 0, .int .u8 0, .int .u8 0, .int .u8 0, .int .u8 0, .int .u8 0, .int .u8 0, .int .u8 0] 26))
  clear hb1
  go_wp2_with fail
  refine Calls.mono (HE1.out _) ?_
  generalize w1.alloc (.cells #[.int .u64 0, .int .u64 0, .int .u64 0, .int .u64 0, .int .u8 0, .int .u8 0, .int .u8 0, .int .u8 0, .int .u8 0, .int .u8 0, .int .u8 0, .int .u8 0] 26) = W1 at HB1 ⊢
  rintro e w2 ⟨rfl, hb2⟩
  have HB2 := Lib.hid (bl_next HB1.out HB1.out.size hb2)
  clear hb2 HB1
  go_wp2_with fail
  refine Calls.mono (HE2.out _) ?_
  rintro e w3 ⟨a3, cap3, rfl, hi3, hb3⟩
  have HB3 := Lib.hid (bl_next HB2.out HB2.out.size hb3)
  have hcv : (convert 29 9 (.slice a3 13 cap3)).run Try.prog w3 = .ok (.string ⟨#[1, 1, 5, 0, 8, 0, 0, 0, 0, 0, 0, 0, 0]⟩) w3 := conv_ints _ 5 _ _ Try.underlying29 Try.underlying5 Try.underlying9 hi3
  clear hb3 hi3 HB2
  go_wp2_with fail
  go_ret
  exact ⟨rfl, HB3.out⟩
end Go.Proofs.Ytooneejimladdaa
