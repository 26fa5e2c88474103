/- rows that the call owns: append. -/
import Derived.Test.YtpiappdkbodabaaBase
namespace Go.Proofs.Ytpiappdkbodabaa
open Go.RowKit
set_option linter.unusedVariables false

theorem own_below {w w' : World} {base e size n : Nat} {v : Value} {xs : List Value} (h : w.ownsRow base e size v n xs) (hb : Below w.heap.size w w') : w'.ownsRow base e size v n xs := by
  refine ⟨h.1, ?_⟩
  rcases h.2 with ⟨rfl, rfl⟩ | ⟨g, cap, cur, rfl, hg, hrow, hn, hc, hsz, htk⟩
  · exact .inl ⟨rfl, rfl⟩
  · exact .inr ⟨g, cap, cur, rfl, hg, bl_row hb (lt_of_block hrow) hrow, hn, hc, hsz, htk⟩
end Go.Proofs.Ytpiappdkbodabaa
