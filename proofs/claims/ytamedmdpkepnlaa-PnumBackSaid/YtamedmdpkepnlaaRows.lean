/-
  No cell of these rows narrows 'for every input' (looked for: loops, veiled, ifaces, maps, wideKeys, modest, calm, conditions, laid).
  DERIVED. THE GIVEN ROWS OF THIS SEAT. 4 by the template 'for every input the law returns true; each argument reads behind the call as it read before'; 0 by the template 'total and deterministic' (their statements: YtamedmdpkepnlaaTotals.lean).
  GIVEN WITH THE SEED: the statements are not yours to turn. If you find one false, say at which input.
  Laid BY PROGRAM, IN A SANDBOX (cutbox-rows.mjs): the forced cells as the released guide's own fill.sh prints them over the translation 16ae93de56e20691… (all of the seat's roots in one cut). By AI agents, Wed Nov 11 2026. No macro, syntax, notation, axiom, sorry.
-/
import Derived.Test.YtamedmdpkepnlaaChecked
import GoSem.Claim
import GoSem.ClaimJoined
import GoSem.ClaimMapViews
import Derived.JoinedTies
import Derived.KernelRfl
namespace Go.Proofs.Ytamedmdpkepnlaa
/- THE CELL 'sum', in the pinned program and in every row, IS THE sha256 OF THE DUMP (.gsa) THAT YtamedmdpkepnlaaProg.lean LOADS. Nothing in Lean hashes anything: it is a label: what it is worth is what the hold of that sum in a sandbox is worth. -/
noncomputable def Try.pinned : Pinned := { name := "ytamedmdpkepnlaa", sum := "16ae93de56e206915181299c00ec10cd206c1c0197800e710fad5e8569e01ef2", checked := Try.checked }
namespace Rows
def none {H : Type} : Left H := { results := [], args := [] }

/-- 'narthexlaw3.PnumNumbers': WHATEVER THE INPUT: true; the input reads as it did. -/
def pnumNumbersSpec : ChangeSpec := { name := "pnumNumbers", fn := fun _ => fun
  | [] => { results := [.lit (.bool true)], args := [] }
  | _ => none }
def pnumNumbersRow : OpenClaim := { program := "ytamedmdpkepnlaa", sum := "16ae93de56e206915181299c00ec10cd206c1c0197800e710fad5e8569e01ef2", func := "narthex/narthexlaw3.PnumNumbers", spec := "pnumNumbers", apart := false }
def PnumNumbersSaid : Prop := pnumNumbersRow.holds Try.pinned (OpenSpec.ofChange pnumNumbersSpec)

/-- ITS FALSE NEIGHBOUR: 'it returns false'. Refute it at one input. -/
def pnumNumbersWrong : ChangeSpec := { name := "pnumNumbers", fn := fun _ => fun
  | [] => { results := [.lit (.bool false)], args := [] }
  | _ => none }
def PnumNumbersWrongFalsely : Prop := pnumNumbersRow.holds Try.pinned (OpenSpec.ofChange pnumNumbersWrong)

/-- 'narthexlaw3.PnumTells': WHATEVER THE INPUT: true; the input reads as it did. -/
def pnumTellsSpec : ChangeSpec := { name := "pnumTells", fn := fun _ => fun
  | [d1, d2, d3, d4, d5] => { results := [.lit (.bool true)], args := [d1, d2, d3, d4, d5] }
  | _ => none }
def pnumTellsRow : OpenClaim := { program := "ytamedmdpkepnlaa", sum := "16ae93de56e206915181299c00ec10cd206c1c0197800e710fad5e8569e01ef2", func := "narthex/narthexlaw3.PnumTells", spec := "pnumTells", apart := false }
def PnumTellsSaid : Prop := pnumTellsRow.holds Try.pinned (OpenSpec.ofChange pnumTellsSpec)

/-- ITS FALSE NEIGHBOUR: 'it returns false'. Refute it at one input. -/
def pnumTellsWrong : ChangeSpec := { name := "pnumTells", fn := fun _ => fun
  | [d1, d2, d3, d4, d5] => { results := [.lit (.bool false)], args := [d1, d2, d3, d4, d5] }
  | _ => none }
def PnumTellsWrongFalsely : Prop := pnumTellsRow.holds Try.pinned (OpenSpec.ofChange pnumTellsWrong)

/-- 'narthexlaw3.PnumBack': WHATEVER THE INPUT: true; the input reads as it did. -/
def pnumBackSpec : ChangeSpec := { name := "pnumBack", fn := fun _ => fun
  | [d1, d2, d3] => { results := [.lit (.bool true)], args := [d1, d2, d3] }
  | _ => none }
def pnumBackRow : OpenClaim := { program := "ytamedmdpkepnlaa", sum := "16ae93de56e206915181299c00ec10cd206c1c0197800e710fad5e8569e01ef2", func := "narthex/narthexlaw3.PnumBack", spec := "pnumBack", apart := false }
def PnumBackSaid : Prop := pnumBackRow.holds Try.pinned (OpenSpec.ofChange pnumBackSpec)

/-- ITS FALSE NEIGHBOUR: 'it returns false'. Refute it at one input. -/
def pnumBackWrong : ChangeSpec := { name := "pnumBack", fn := fun _ => fun
  | [d1, d2, d3] => { results := [.lit (.bool false)], args := [d1, d2, d3] }
  | _ => none }
def PnumBackWrongFalsely : Prop := pnumBackRow.holds Try.pinned (OpenSpec.ofChange pnumBackWrong)

/-- 'narthexlaw3.PnumNear': WHATEVER THE INPUT: true; the input reads as it did. -/
def pnumNearSpec : ChangeSpec := { name := "pnumNear", fn := fun _ => fun
  | [d1, d2, d3] => { results := [.lit (.bool true)], args := [d1, d2, d3] }
  | _ => none }
def pnumNearRow : OpenClaim := { program := "ytamedmdpkepnlaa", sum := "16ae93de56e206915181299c00ec10cd206c1c0197800e710fad5e8569e01ef2", func := "narthex/narthexlaw3.PnumNear", spec := "pnumNear", apart := false }
def PnumNearSaid : Prop := pnumNearRow.holds Try.pinned (OpenSpec.ofChange pnumNearSpec)

/-- ITS FALSE NEIGHBOUR: 'it returns false'. Refute it at one input. -/
def pnumNearWrong : ChangeSpec := { name := "pnumNear", fn := fun _ => fun
  | [d1, d2, d3] => { results := [.lit (.bool false)], args := [d1, d2, d3] }
  | _ => none }
def PnumNearWrongFalsely : Prop := pnumNearRow.holds Try.pinned (OpenSpec.ofChange pnumNearWrong)

/- THE SECOND FORM. 'bulk': how many values and letters a reading holds, each counted each time it is reached (what is shared counts as often as it is met; a slice's spare places count too). A statement '..UptoSaid' is the law's where the arguments, and the package variables that the reading takes, are together of bulk at most 1048576: NARROWER than '..Said'. Prove '..Said' where nothing that the law and all that it calls make is longer than what came in: it says more and counts as full. Else prove '..UptoSaid'. A law counts once. -/
mutual
def uptoBulk {H : Type} : DataW H → Nat
  | .lit (.string bytes) => bytes.length + 1
  | .lit _ => 1
  | .nil => 1
  | .ptr d => uptoBulk d + 1
  | .slice elems spare => uptoBulkAll elems + uptoBulkAll spare + 1
  | .agg parts => uptoBulkAll parts + 1
  | .iface _ d => uptoBulk d + 1
  | .map entries => uptoBulkEntries entries + 1
  | .held _ => 1
def uptoBulkAll {H : Type} : List (DataW H) → Nat
  | [] => 0
  | d :: r => uptoBulk d + uptoBulkAll r
def uptoBulkEntries {H : Type} : List (Lit × DataW H) → Nat
  | [] => 0
  | x :: r => uptoBulkEntry x + uptoBulkEntries r
def uptoBulkEntry {H : Type} : Lit × DataW H → Nat
  | (.string bytes, d) => bytes.length + uptoBulk d + 1
  | (_, d) => uptoBulk d + 1
 end
def uptoSmall : (H : Type) → List (DataW H) → Bool := fun _ ds => decide (uptoBulkAll ds ≤ 1048576)
def OpenSpec.upto (s : _root_.Go.ChangeSpec) : _root_.Go.OpenSpec := { _root_.Go.OpenSpec.ofChange s with cond := some uptoSmall }

/-- 'narthexlaw3.PnumNumbers', WHERE WHAT IT READS IS OF BULK AT MOST 1048576: true; the input reads as it did. -/
def pnumNumbersUptoRow : OpenClaim := { program := "ytamedmdpkepnlaa", sum := "16ae93de56e206915181299c00ec10cd206c1c0197800e710fad5e8569e01ef2", func := "narthex/narthexlaw3.PnumNumbers", spec := "pnumNumbers", apart := false, narrowed := true }
def PnumNumbersUptoSaid : Prop := pnumNumbersUptoRow.holds Try.pinned (OpenSpec.upto pnumNumbersSpec)

/-- 'narthexlaw3.PnumTells', WHERE WHAT IT READS IS OF BULK AT MOST 1048576: true; the input reads as it did. -/
def pnumTellsUptoRow : OpenClaim := { program := "ytamedmdpkepnlaa", sum := "16ae93de56e206915181299c00ec10cd206c1c0197800e710fad5e8569e01ef2", func := "narthex/narthexlaw3.PnumTells", spec := "pnumTells", apart := false, narrowed := true }
def PnumTellsUptoSaid : Prop := pnumTellsUptoRow.holds Try.pinned (OpenSpec.upto pnumTellsSpec)

/-- 'narthexlaw3.PnumBack', WHERE WHAT IT READS IS OF BULK AT MOST 1048576: true; the input reads as it did. -/
def pnumBackUptoRow : OpenClaim := { program := "ytamedmdpkepnlaa", sum := "16ae93de56e206915181299c00ec10cd206c1c0197800e710fad5e8569e01ef2", func := "narthex/narthexlaw3.PnumBack", spec := "pnumBack", apart := false, narrowed := true }
def PnumBackUptoSaid : Prop := pnumBackUptoRow.holds Try.pinned (OpenSpec.upto pnumBackSpec)

/-- 'narthexlaw3.PnumNear', WHERE WHAT IT READS IS OF BULK AT MOST 1048576: true; the input reads as it did. -/
def pnumNearUptoRow : OpenClaim := { program := "ytamedmdpkepnlaa", sum := "16ae93de56e206915181299c00ec10cd206c1c0197800e710fad5e8569e01ef2", func := "narthex/narthexlaw3.PnumNear", spec := "pnumNear", apart := false, narrowed := true }
def PnumNearUptoSaid : Prop := pnumNearUptoRow.holds Try.pinned (OpenSpec.upto pnumNearSpec)

end Rows
end Go.Proofs.Ytamedmdpkepnlaa
