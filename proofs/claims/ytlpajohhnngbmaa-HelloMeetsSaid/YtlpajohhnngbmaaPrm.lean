/- params: model, what a param is; contracts of param.Right. -/
import Derived.Test.YtlpajohhnngbmaaPutGet
import Derived.Test.YtlpajohhnngbmaaOctW
import Derived.Test.YtlpajohhnngbmaaOctR
import Derived.Test.YtlpajohhnngbmaaRegion
import Derived.Test.YtlpajohhnngbmaaArr
import Derived.Test.YtlpajohhnngbmaaOpen
namespace Go.Proofs.Ytlpajohhnngbmaa
open Go.RowKit
set_option linter.unusedVariables false

structure Pm where
  i : Int
  d : Int
  s : Int
  m : Int
  f : List Int
def Pm.row (p : Pm) : List Value := [.int .u64 p.i, .int .u64 p.d, .int .u64 p.s, .int .u64 p.m] ++ p.f.map (Value.int .u8)
def Pm.val (p : Pm) : Value := .agg p.row.toArray
structure Pm.ok (p : Pm) : Prop where
  wi : (Lit.int .u64 p.i).wf = true
  wd : (Lit.int .u64 p.d).wf = true
  ws : (Lit.int .u64 p.s).wf = true
  wm : (Lit.int .u64 p.m).wf = true
  len : p.f.length = 8
  wf : ∀ x ∈ p.f, (Lit.int .u8 x).wf = true
def rightM (p : Pm) : Bool := decide (p.d ≤ 1099511627776 ∧ p.s ≤ 1099511627776 ∧ p.m ≤ 1048576 ∧ p.i ≤ 1073741824)
theorem rightM_eq (p : Pm) : rightM p = true ↔ (p.d ≤ 1099511627776 ∧ p.s ≤ 1099511627776 ∧ p.m ≤ 1048576 ∧ p.i ≤ 1073741824) := by unfold rightM; simp
theorem rightM_no (p : Pm) (h : ¬ (p.d ≤ 1099511627776 ∧ p.s ≤ 1099511627776 ∧ p.m ≤ 1048576 ∧ p.i ≤ 1073741824)) : rightM p = false := by unfold rightM; simp only [decide_eq_false_iff_not]; exact h
theorem len8 {xs : List Int} (h : xs.length = 8) : ∃ x0 x1 x2 x3 x4 x5 x6 x7, xs = [x0, x1, x2, x3, x4, x5, x6, x7] := by
  match xs, h with
  | [x0, x1, x2, x3, x4, x5, x6, x7], _ => exact ⟨x0, x1, x2, x3, x4, x5, x6, x7, rfl⟩

set_option maxRecDepth 100000 in
theorem right_any (w : World) (p : Pm) (hl : p.f.length = 8) : Makes Try.prog 48 #[p.val] w (.bool (rightM p)) := by
  obtain ⟨i, d, s, m, f⟩ := p
  obtain ⟨x0, x1, x2, x3, x4, x5, x6, x7, rfl⟩ := len8 hl
  show Makes Try.prog 48 #[.agg #[.int .u64 i, .int .u64 d, .int .u64 s, .int .u64 m, .int .u8 x0, .int .u8 x1, .int .u8 x2, .int .u8 x3, .int .u8 x4, .int .u8 x5, .int .u8 x6, .int .u8 x7]] w (.bool (rightM ⟨i, d, s, m, [x0, x1, x2, x3, x4, x5, x6, x7]⟩))
  by_cases h : d ≤ 1099511627776 ∧ s ≤ 1099511627776 ∧ m ≤ 1048576 ∧ i ≤ 1073741824
  · rw [(rightM_eq ⟨i, d, s, m, _⟩).2 h]
    obtain ⟨h1, h2, h3, h4⟩ := h
    go_enter Try.func48, Try.ntmps48
    go_wp2_with fail
    go_ret
    exact ⟨rfl, (Below.refl _ _).alloc (Nat.le_refl _) _⟩
  · rw [rightM_no ⟨i, d, s, m, _⟩ h]
    by_cases h1 : d ≤ 1099511627776
    · by_cases h2 : s ≤ 1099511627776
      · by_cases h3 : m ≤ 1048576
        · have h4 : ¬ i ≤ 1073741824 := fun h4 => h ⟨h1, h2, h3, h4⟩
          clear h
          go_enter Try.func48, Try.ntmps48
          go_wp2_with fail
          go_ret
          exact ⟨rfl, (Below.refl _ _).alloc (Nat.le_refl _) _⟩
        · clear h
          go_enter Try.func48, Try.ntmps48
          go_wp2_with fail
          go_ret
          exact ⟨rfl, (Below.refl _ _).alloc (Nat.le_refl _) _⟩
      · clear h
        go_enter Try.func48, Try.ntmps48
        go_wp2_with fail
        go_ret
        exact ⟨rfl, (Below.refl _ _).alloc (Nat.le_refl _) _⟩
    · clear h
      go_enter Try.func48, Try.ntmps48
      go_wp2_with fail
      go_ret
      exact ⟨rfl, (Below.refl _ _).alloc (Nat.le_refl _) _⟩
end Go.Proofs.Ytlpajohhnngbmaa
