/-
  No cell of these rows narrows 'for every input' (looked for: loops, veiled, ifaces, maps, wideKeys, modest, calm, conditions, laid).
  DERIVED. THE GIVEN ROWS OF THIS SEAT. 4 by the template 'for every input the law returns true; each argument reads behind the call as it read before'; 0 by the template 'total and deterministic' (their statements: YtiekmmcjlhbeoaaTotals.lean).
  GIVEN WITH THE SEED: the statements are not yours to turn. If you find one false, say at which input.
  Laid BY PROGRAM, IN A SANDBOX (cutbox-rows.mjs): the forced cells as the released guide's own fill.sh prints them over the translation ae5d80ad85acb652… (all of the seat's roots in one cut). By AI agents, Wed Nov 11 2026. No macro, syntax, notation, axiom, sorry.
-/
import Derived.Test.YtiekmmcjlhbeoaaChecked
import GoSem.Claim
import GoSem.ClaimJoined
import GoSem.ClaimMapViews
import Derived.JoinedTies
import Derived.KernelRfl
namespace Go.Proofs.Ytiekmmcjlhbeoaa
/- THE CELL 'sum', in the pinned program and in every row, IS THE sha256 OF THE DUMP (.gsa) THAT YtiekmmcjlhbeoaaProg.lean LOADS. Nothing in Lean hashes anything: it is a label: what it is worth is what the hold of that sum in a sandbox is worth. -/
noncomputable def Try.pinned : Pinned := { name := "ytiekmmcjlhbeoaa", sum := "ae5d80ad85acb6529c23f5938cba81a6544652a2399d22d19678113acbba9990", checked := Try.checked }
namespace Rows
def none {H : Type} : Left H := { results := [], args := [] }

/-- 'narthexlaw12.RttDoubles': WHATEVER THE INPUT: true; the input reads as it did. -/
def rttDoublesSpec : ChangeSpec := { name := "rttDoubles", fn := fun _ => fun
  | [d1, d2] => { results := [.lit (.bool true)], args := [d1, d2] }
  | _ => none }
def rttDoublesRow : OpenClaim := { program := "ytiekmmcjlhbeoaa", sum := "ae5d80ad85acb6529c23f5938cba81a6544652a2399d22d19678113acbba9990", func := "narthex/narthexlaw12.RttDoubles", spec := "rttDoubles", apart := false }
def RttDoublesSaid : Prop := rttDoublesRow.holds Try.pinned (OpenSpec.ofChange rttDoublesSpec)

/-- ITS FALSE NEIGHBOUR: 'it returns false'. Refute it at one input. -/
def rttDoublesWrong : ChangeSpec := { name := "rttDoubles", fn := fun _ => fun
  | [d1, d2] => { results := [.lit (.bool false)], args := [d1, d2] }
  | _ => none }
def RttDoublesWrongFalsely : Prop := rttDoublesRow.holds Try.pinned (OpenSpec.ofChange rttDoublesWrong)

/-- 'narthexlaw12.RttNumbers': WHATEVER THE INPUT: true; the input reads as it did. -/
def rttNumbersSpec : ChangeSpec := { name := "rttNumbers", fn := fun _ => fun
  | [] => { results := [.lit (.bool true)], args := [] }
  | _ => none }
def rttNumbersRow : OpenClaim := { program := "ytiekmmcjlhbeoaa", sum := "ae5d80ad85acb6529c23f5938cba81a6544652a2399d22d19678113acbba9990", func := "narthex/narthexlaw12.RttNumbers", spec := "rttNumbers", apart := false }
def RttNumbersSaid : Prop := rttNumbersRow.holds Try.pinned (OpenSpec.ofChange rttNumbersSpec)

/-- ITS FALSE NEIGHBOUR: 'it returns false'. Refute it at one input. -/
def rttNumbersWrong : ChangeSpec := { name := "rttNumbers", fn := fun _ => fun
  | [] => { results := [.lit (.bool false)], args := [] }
  | _ => none }
def RttNumbersWrongFalsely : Prop := rttNumbersRow.holds Try.pinned (OpenSpec.ofChange rttNumbersWrong)

/-- 'narthexlaw12.RttTells': WHATEVER THE INPUT: true; the input reads as it did. -/
def rttTellsSpec : ChangeSpec := { name := "rttTells", fn := fun _ => fun
  | [d1, d2] => { results := [.lit (.bool true)], args := [d1, d2] }
  | _ => none }
def rttTellsRow : OpenClaim := { program := "ytiekmmcjlhbeoaa", sum := "ae5d80ad85acb6529c23f5938cba81a6544652a2399d22d19678113acbba9990", func := "narthex/narthexlaw12.RttTells", spec := "rttTells", apart := false }
def RttTellsSaid : Prop := rttTellsRow.holds Try.pinned (OpenSpec.ofChange rttTellsSpec)

/-- ITS FALSE NEIGHBOUR: 'it returns false'. Refute it at one input. -/
def rttTellsWrong : ChangeSpec := { name := "rttTells", fn := fun _ => fun
  | [d1, d2] => { results := [.lit (.bool false)], args := [d1, d2] }
  | _ => none }
def RttTellsWrongFalsely : Prop := rttTellsRow.holds Try.pinned (OpenSpec.ofChange rttTellsWrong)

/-- 'narthexlaw12.RttStands': WHATEVER THE INPUT: true; the input reads as it did. -/
def rttStandsSpec : ChangeSpec := { name := "rttStands", fn := fun _ => fun
  | [d1, d2, d3] => { results := [.lit (.bool true)], args := [d1, d2, d3] }
  | _ => none }
def rttStandsRow : OpenClaim := { program := "ytiekmmcjlhbeoaa", sum := "ae5d80ad85acb6529c23f5938cba81a6544652a2399d22d19678113acbba9990", func := "narthex/narthexlaw12.RttStands", spec := "rttStands", apart := false }
def RttStandsSaid : Prop := rttStandsRow.holds Try.pinned (OpenSpec.ofChange rttStandsSpec)

/-- ITS FALSE NEIGHBOUR: 'it returns false'. Refute it at one input. -/
def rttStandsWrong : ChangeSpec := { name := "rttStands", fn := fun _ => fun
  | [d1, d2, d3] => { results := [.lit (.bool false)], args := [d1, d2, d3] }
  | _ => none }
def RttStandsWrongFalsely : Prop := rttStandsRow.holds Try.pinned (OpenSpec.ofChange rttStandsWrong)

/- THE SECOND FORM. 'bulk': how many values and letters a reading holds, each counted each time it is reached (what is shared counts as often as it is met; a slice's spare places count too). A statement '..UptoSaid' is the law's where the arguments, and the package variables that the reading takes, are together of bulk at most 1048576: NARROWER than '..Said'. Prove '..Said' where nothing that the law and all that it calls make is longer than what came in: it says more and counts as full. Else prove '..UptoSaid'. A law counts once. -/
mutual
def uptoBulk {H : Type} : DataW H → Nat
  | .lit (.string bytes) => bytes.length + 1
  | .lit _ => 1
  | .nil => 1
  | .ptr d => uptoBulk d + 1
  | .slice elems spare => uptoBulkAll elems + uptoBulkAll spare + 1
  | .agg parts => uptoBulkAll parts + 1
  | .iface _ d => uptoBulk d + 1
  | .map entries => uptoBulkEntries entries + 1
  | .held _ => 1
def uptoBulkAll {H : Type} : List (DataW H) → Nat
  | [] => 0
  | d :: r => uptoBulk d + uptoBulkAll r
def uptoBulkEntries {H : Type} : List (Lit × DataW H) → Nat
  | [] => 0
  | x :: r => uptoBulkEntry x + uptoBulkEntries r
def uptoBulkEntry {H : Type} : Lit × DataW H → Nat
  | (.string bytes, d) => bytes.length + uptoBulk d + 1
  | (_, d) => uptoBulk d + 1
 end
def uptoSmall : (H : Type) → List (DataW H) → Bool := fun _ ds => decide (uptoBulkAll ds ≤ 1048576)
def OpenSpec.upto (s : _root_.Go.ChangeSpec) : _root_.Go.OpenSpec := { _root_.Go.OpenSpec.ofChange s with cond := some uptoSmall }

/-- 'narthexlaw12.RttDoubles', WHERE WHAT IT READS IS OF BULK AT MOST 1048576: true; the input reads as it did. -/
def rttDoublesUptoRow : OpenClaim := { program := "ytiekmmcjlhbeoaa", sum := "ae5d80ad85acb6529c23f5938cba81a6544652a2399d22d19678113acbba9990", func := "narthex/narthexlaw12.RttDoubles", spec := "rttDoubles", apart := false, narrowed := true }
def RttDoublesUptoSaid : Prop := rttDoublesUptoRow.holds Try.pinned (OpenSpec.upto rttDoublesSpec)

/-- 'narthexlaw12.RttNumbers', WHERE WHAT IT READS IS OF BULK AT MOST 1048576: true; the input reads as it did. -/
def rttNumbersUptoRow : OpenClaim := { program := "ytiekmmcjlhbeoaa", sum := "ae5d80ad85acb6529c23f5938cba81a6544652a2399d22d19678113acbba9990", func := "narthex/narthexlaw12.RttNumbers", spec := "rttNumbers", apart := false, narrowed := true }
def RttNumbersUptoSaid : Prop := rttNumbersUptoRow.holds Try.pinned (OpenSpec.upto rttNumbersSpec)

/-- 'narthexlaw12.RttTells', WHERE WHAT IT READS IS OF BULK AT MOST 1048576: true; the input reads as it did. -/
def rttTellsUptoRow : OpenClaim := { program := "ytiekmmcjlhbeoaa", sum := "ae5d80ad85acb6529c23f5938cba81a6544652a2399d22d19678113acbba9990", func := "narthex/narthexlaw12.RttTells", spec := "rttTells", apart := false, narrowed := true }
def RttTellsUptoSaid : Prop := rttTellsUptoRow.holds Try.pinned (OpenSpec.upto rttTellsSpec)

/-- 'narthexlaw12.RttStands', WHERE WHAT IT READS IS OF BULK AT MOST 1048576: true; the input reads as it did. -/
def rttStandsUptoRow : OpenClaim := { program := "ytiekmmcjlhbeoaa", sum := "ae5d80ad85acb6529c23f5938cba81a6544652a2399d22d19678113acbba9990", func := "narthex/narthexlaw12.RttStands", spec := "rttStands", apart := false, narrowed := true }
def RttStandsUptoSaid : Prop := rttStandsUptoRow.holds Try.pinned (OpenSpec.upto rttStandsSpec)

end Rows
end Go.Proofs.Ytiekmmcjlhbeoaa
