/-
  No cell of these rows narrows 'for every input' (looked for: loops, veiled, ifaces, maps, wideKeys, modest, calm, conditions, laid).
  DERIVED. THE GIVEN ROWS OF THIS SEAT. 4 by the template 'for every input the law returns true; each argument reads behind the call as it read before'; 0 by the template 'total and deterministic' (their statements: YtooneejimladdaaTotals.lean).
  GIVEN WITH THE SEED: the statements are not yours to turn. If you find one false, say at which input.
  Laid BY PROGRAM, IN A SANDBOX (cutbox-rows.mjs): the forced cells as the released guide's own fill.sh prints them over the translation e57e17d6c12ec04e… (all of the seat's roots in one cut). By AI agents, Wed Nov 11 2026. No macro, syntax, notation, axiom, sorry.
-/
import Derived.Test.YtooneejimladdaaChecked
import GoSem.Claim
import GoSem.ClaimJoined
import GoSem.ClaimMapViews
import Derived.JoinedTies
import Derived.KernelRfl
namespace Go.Proofs.Ytooneejimladdaa
/- THE CELL 'sum', in the pinned program and in every row, IS THE sha256 OF THE DUMP (.gsa) THAT YtooneejimladdaaProg.lean LOADS. Nothing in Lean hashes anything: it is a label: what it is worth is what the hold of that sum in a sandbox is worth. -/
noncomputable def Try.pinned : Pinned := { name := "ytooneejimladdaa", sum := "e57e17d6c12ec04eb2d964dece0c06bb9266fad6c9b833959ea1d2138e2a3489", checked := Try.checked }
namespace Rows
def none {H : Type} : Left H := { results := [], args := [] }

/-- 'narthexlaw6.ParamNumbers': WHATEVER THE INPUT: true; the input reads as it did. -/
def paramNumbersSpec : ChangeSpec := { name := "paramNumbers", fn := fun _ => fun
  | [] => { results := [.lit (.bool true)], args := [] }
  | _ => none }
def paramNumbersRow : OpenClaim := { program := "ytooneejimladdaa", sum := "e57e17d6c12ec04eb2d964dece0c06bb9266fad6c9b833959ea1d2138e2a3489", func := "narthex/narthexlaw6.ParamNumbers", spec := "paramNumbers", apart := false }
def ParamNumbersSaid : Prop := paramNumbersRow.holds Try.pinned (OpenSpec.ofChange paramNumbersSpec)

/-- ITS FALSE NEIGHBOUR: 'it returns false'. Refute it at one input. -/
def paramNumbersWrong : ChangeSpec := { name := "paramNumbers", fn := fun _ => fun
  | [] => { results := [.lit (.bool false)], args := [] }
  | _ => none }
def ParamNumbersWrongFalsely : Prop := paramNumbersRow.holds Try.pinned (OpenSpec.ofChange paramNumbersWrong)

/-- 'narthexlaw6.ParamTells': WHATEVER THE INPUT: true; the input reads as it did. -/
def paramTellsSpec : ChangeSpec := { name := "paramTells", fn := fun _ => fun
  | [d1, d2, d3, d4, d5, d6, d7, d8, d9] => { results := [.lit (.bool true)], args := [d1, d2, d3, d4, d5, d6, d7, d8, d9] }
  | _ => none }
def paramTellsRow : OpenClaim := { program := "ytooneejimladdaa", sum := "e57e17d6c12ec04eb2d964dece0c06bb9266fad6c9b833959ea1d2138e2a3489", func := "narthex/narthexlaw6.ParamTells", spec := "paramTells", apart := false }
def ParamTellsSaid : Prop := paramTellsRow.holds Try.pinned (OpenSpec.ofChange paramTellsSpec)

/-- ITS FALSE NEIGHBOUR: 'it returns false'. Refute it at one input. -/
def paramTellsWrong : ChangeSpec := { name := "paramTells", fn := fun _ => fun
  | [d1, d2, d3, d4, d5, d6, d7, d8, d9] => { results := [.lit (.bool false)], args := [d1, d2, d3, d4, d5, d6, d7, d8, d9] }
  | _ => none }
def ParamTellsWrongFalsely : Prop := paramTellsRow.holds Try.pinned (OpenSpec.ofChange paramTellsWrong)

/-- 'narthexlaw6.ParamBack': WHATEVER THE INPUT: true; the input reads as it did. -/
def paramBackSpec : ChangeSpec := { name := "paramBack", fn := fun _ => fun
  | [d1, d2, d3, d4, d5, d6] => { results := [.lit (.bool true)], args := [d1, d2, d3, d4, d5, d6] }
  | _ => none }
def paramBackRow : OpenClaim := { program := "ytooneejimladdaa", sum := "e57e17d6c12ec04eb2d964dece0c06bb9266fad6c9b833959ea1d2138e2a3489", func := "narthex/narthexlaw6.ParamBack", spec := "paramBack", apart := false }
def ParamBackSaid : Prop := paramBackRow.holds Try.pinned (OpenSpec.ofChange paramBackSpec)

/-- ITS FALSE NEIGHBOUR: 'it returns false'. Refute it at one input. -/
def paramBackWrong : ChangeSpec := { name := "paramBack", fn := fun _ => fun
  | [d1, d2, d3, d4, d5, d6] => { results := [.lit (.bool false)], args := [d1, d2, d3, d4, d5, d6] }
  | _ => none }
def ParamBackWrongFalsely : Prop := paramBackRow.holds Try.pinned (OpenSpec.ofChange paramBackWrong)

/-- 'narthexlaw6.ParamOrder': WHATEVER THE INPUT: true; the input reads as it did. -/
def paramOrderSpec : ChangeSpec := { name := "paramOrder", fn := fun _ => fun
  | [d1, d2, d3, d4, d5, d6, d7] => { results := [.lit (.bool true)], args := [d1, d2, d3, d4, d5, d6, d7] }
  | _ => none }
def paramOrderRow : OpenClaim := { program := "ytooneejimladdaa", sum := "e57e17d6c12ec04eb2d964dece0c06bb9266fad6c9b833959ea1d2138e2a3489", func := "narthex/narthexlaw6.ParamOrder", spec := "paramOrder", apart := false }
def ParamOrderSaid : Prop := paramOrderRow.holds Try.pinned (OpenSpec.ofChange paramOrderSpec)

/-- ITS FALSE NEIGHBOUR: 'it returns false'. Refute it at one input. -/
def paramOrderWrong : ChangeSpec := { name := "paramOrder", fn := fun _ => fun
  | [d1, d2, d3, d4, d5, d6, d7] => { results := [.lit (.bool false)], args := [d1, d2, d3, d4, d5, d6, d7] }
  | _ => none }
def ParamOrderWrongFalsely : Prop := paramOrderRow.holds Try.pinned (OpenSpec.ofChange paramOrderWrong)

/- THE SECOND FORM. 'bulk': how many values and letters a reading holds, each counted each time it is reached (what is shared counts as often as it is met; a slice's spare places count too). A statement '..UptoSaid' is the law's where the arguments, and the package variables that the reading takes, are together of bulk at most 1048576: NARROWER than '..Said'. Prove '..Said' where nothing that the law and all that it calls make is longer than what came in: it says more and counts as full. Else prove '..UptoSaid'. A law counts once. -/
mutual
def uptoBulk {H : Type} : DataW H → Nat
  | .lit (.string bytes) => bytes.length + 1
  | .lit _ => 1
  | .nil => 1
  | .ptr d => uptoBulk d + 1
  | .slice elems spare => uptoBulkAll elems + uptoBulkAll spare + 1
  | .agg parts => uptoBulkAll parts + 1
  | .iface _ d => uptoBulk d + 1
  | .map entries => uptoBulkEntries entries + 1
  | .held _ => 1
def uptoBulkAll {H : Type} : List (DataW H) → Nat
  | [] => 0
  | d :: r => uptoBulk d + uptoBulkAll r
def uptoBulkEntries {H : Type} : List (Lit × DataW H) → Nat
  | [] => 0
  | x :: r => uptoBulkEntry x + uptoBulkEntries r
def uptoBulkEntry {H : Type} : Lit × DataW H → Nat
  | (.string bytes, d) => bytes.length + uptoBulk d + 1
  | (_, d) => uptoBulk d + 1
 end
def uptoSmall : (H : Type) → List (DataW H) → Bool := fun _ ds => decide (uptoBulkAll ds ≤ 1048576)
def OpenSpec.upto (s : _root_.Go.ChangeSpec) : _root_.Go.OpenSpec := { _root_.Go.OpenSpec.ofChange s with cond := some uptoSmall }

/-- 'narthexlaw6.ParamNumbers', WHERE WHAT IT READS IS OF BULK AT MOST 1048576: true; the input reads as it did. -/
def paramNumbersUptoRow : OpenClaim := { program := "ytooneejimladdaa", sum := "e57e17d6c12ec04eb2d964dece0c06bb9266fad6c9b833959ea1d2138e2a3489", func := "narthex/narthexlaw6.ParamNumbers", spec := "paramNumbers", apart := false, narrowed := true }
def ParamNumbersUptoSaid : Prop := paramNumbersUptoRow.holds Try.pinned (OpenSpec.upto paramNumbersSpec)

/-- 'narthexlaw6.ParamTells', WHERE WHAT IT READS IS OF BULK AT MOST 1048576: true; the input reads as it did. -/
def paramTellsUptoRow : OpenClaim := { program := "ytooneejimladdaa", sum := "e57e17d6c12ec04eb2d964dece0c06bb9266fad6c9b833959ea1d2138e2a3489", func := "narthex/narthexlaw6.ParamTells", spec := "paramTells", apart := false, narrowed := true }
def ParamTellsUptoSaid : Prop := paramTellsUptoRow.holds Try.pinned (OpenSpec.upto paramTellsSpec)

/-- 'narthexlaw6.ParamBack', WHERE WHAT IT READS IS OF BULK AT MOST 1048576: true; the input reads as it did. -/
def paramBackUptoRow : OpenClaim := { program := "ytooneejimladdaa", sum := "e57e17d6c12ec04eb2d964dece0c06bb9266fad6c9b833959ea1d2138e2a3489", func := "narthex/narthexlaw6.ParamBack", spec := "paramBack", apart := false, narrowed := true }
def ParamBackUptoSaid : Prop := paramBackUptoRow.holds Try.pinned (OpenSpec.upto paramBackSpec)

/-- 'narthexlaw6.ParamOrder', WHERE WHAT IT READS IS OF BULK AT MOST 1048576: true; the input reads as it did. -/
def paramOrderUptoRow : OpenClaim := { program := "ytooneejimladdaa", sum := "e57e17d6c12ec04eb2d964dece0c06bb9266fad6c9b833959ea1d2138e2a3489", func := "narthex/narthexlaw6.ParamOrder", spec := "paramOrder", apart := false, narrowed := true }
def ParamOrderUptoSaid : Prop := paramOrderUptoRow.holds Try.pinned (OpenSpec.upto paramOrderSpec)

end Rows
end Go.Proofs.Ytooneejimladdaa
