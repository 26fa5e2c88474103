/-
  No cell of these rows narrows 'for every input' (looked for: loops, veiled, ifaces, maps, wideKeys, modest, calm, conditions, laid).
  DERIVED. THE GIVEN ROWS OF THIS SEAT. 3 by the template 'for every input the law returns true; each argument reads behind the call as it read before'; 0 by the template 'total and deterministic' (their statements: YtlpajohhnngbmaaTotals.lean).
  GIVEN WITH THE SEED: the statements are not yours to turn. If you find one false, say at which input.
  Laid BY PROGRAM, IN A SANDBOX (cutbox-rows.mjs): the forced cells as the released guide's own fill.sh prints them over the translation 708450b16a317cd7… (all of the seat's roots in one cut). By AI agents, Wed Nov 11 2026. No macro, syntax, notation, axiom, sorry.
-/
import Derived.Test.YtlpajohhnngbmaaChecked
import GoSem.Claim
import GoSem.ClaimJoined
import GoSem.ClaimMapViews
import Derived.JoinedTies
import Derived.KernelRfl
namespace Go.Proofs.Ytlpajohhnngbmaa
/- THE CELL 'sum', in the pinned program and in every row, IS THE sha256 OF THE DUMP (.gsa) THAT YtlpajohhnngbmaaProg.lean LOADS. Nothing in Lean hashes anything: it is a label: what it is worth is what the hold of that sum in a sandbox is worth. -/
noncomputable def Try.pinned : Pinned := { name := "ytlpajohhnngbmaa", sum := "708450b16a317cd7db310c5360a3bfe27e248b98c21910310fdd0b48fefb7ecb", checked := Try.checked }
namespace Rows
def none {H : Type} : Left H := { results := [], args := [] }

/-- 'narthexlaw19.HelloPieces': WHATEVER THE INPUT: true; the input reads as it did. -/
def helloPiecesSpec : ChangeSpec := { name := "helloPieces", fn := fun _ => fun
  | [d1, d2, d3, d4, d5, d6, d7, d8, d9] => { results := [.lit (.bool true)], args := [d1, d2, d3, d4, d5, d6, d7, d8, d9] }
  | _ => none }
def helloPiecesRow : OpenClaim := { program := "ytlpajohhnngbmaa", sum := "708450b16a317cd7db310c5360a3bfe27e248b98c21910310fdd0b48fefb7ecb", func := "narthex/narthexlaw19.HelloPieces", spec := "helloPieces", apart := false }
def HelloPiecesSaid : Prop := helloPiecesRow.holds Try.pinned (OpenSpec.ofChange helloPiecesSpec)

/-- ITS FALSE NEIGHBOUR: 'it returns false'. Refute it at one input. -/
def helloPiecesWrong : ChangeSpec := { name := "helloPieces", fn := fun _ => fun
  | [d1, d2, d3, d4, d5, d6, d7, d8, d9] => { results := [.lit (.bool false)], args := [d1, d2, d3, d4, d5, d6, d7, d8, d9] }
  | _ => none }
def HelloPiecesWrongFalsely : Prop := helloPiecesRow.holds Try.pinned (OpenSpec.ofChange helloPiecesWrong)

/-- 'narthexlaw19.HelloNumbers': WHATEVER THE INPUT: true; the input reads as it did. -/
def helloNumbersSpec : ChangeSpec := { name := "helloNumbers", fn := fun _ => fun
  | [] => { results := [.lit (.bool true)], args := [] }
  | _ => none }
def helloNumbersRow : OpenClaim := { program := "ytlpajohhnngbmaa", sum := "708450b16a317cd7db310c5360a3bfe27e248b98c21910310fdd0b48fefb7ecb", func := "narthex/narthexlaw19.HelloNumbers", spec := "helloNumbers", apart := false }
def HelloNumbersSaid : Prop := helloNumbersRow.holds Try.pinned (OpenSpec.ofChange helloNumbersSpec)

/-- ITS FALSE NEIGHBOUR: 'it returns false'. Refute it at one input. -/
def helloNumbersWrong : ChangeSpec := { name := "helloNumbers", fn := fun _ => fun
  | [] => { results := [.lit (.bool false)], args := [] }
  | _ => none }
def HelloNumbersWrongFalsely : Prop := helloNumbersRow.holds Try.pinned (OpenSpec.ofChange helloNumbersWrong)

/-- 'narthexlaw19.HelloMeets': WHATEVER THE INPUT: true; the input reads as it did. -/
def helloMeetsSpec : ChangeSpec := { name := "helloMeets", fn := fun _ => fun
  | [d1, d2, d3, d4, d5, d6, d7] => { results := [.lit (.bool true)], args := [d1, d2, d3, d4, d5, d6, d7] }
  | _ => none }
def helloMeetsRow : OpenClaim := { program := "ytlpajohhnngbmaa", sum := "708450b16a317cd7db310c5360a3bfe27e248b98c21910310fdd0b48fefb7ecb", func := "narthex/narthexlaw19.HelloMeets", spec := "helloMeets", apart := false }
def HelloMeetsSaid : Prop := helloMeetsRow.holds Try.pinned (OpenSpec.ofChange helloMeetsSpec)

/-- ITS FALSE NEIGHBOUR: 'it returns false'. Refute it at one input. -/
def helloMeetsWrong : ChangeSpec := { name := "helloMeets", fn := fun _ => fun
  | [d1, d2, d3, d4, d5, d6, d7] => { results := [.lit (.bool false)], args := [d1, d2, d3, d4, d5, d6, d7] }
  | _ => none }
def HelloMeetsWrongFalsely : Prop := helloMeetsRow.holds Try.pinned (OpenSpec.ofChange helloMeetsWrong)

/- THE SECOND FORM. 'bulk': how many values and letters a reading holds, each counted each time it is reached (what is shared counts as often as it is met; a slice's spare places count too). A statement '..UptoSaid' is the law's where the arguments, and the package variables that the reading takes, are together of bulk at most 1048576: NARROWER than '..Said'. Prove '..Said' where nothing that the law and all that it calls make is longer than what came in: it says more and counts as full. Else prove '..UptoSaid'. A law counts once. -/
mutual
def uptoBulk {H : Type} : DataW H → Nat
  | .lit (.string bytes) => bytes.length + 1
  | .lit _ => 1
  | .nil => 1
  | .ptr d => uptoBulk d + 1
  | .slice elems spare => uptoBulkAll elems + uptoBulkAll spare + 1
  | .agg parts => uptoBulkAll parts + 1
  | .iface _ d => uptoBulk d + 1
  | .map entries => uptoBulkEntries entries + 1
  | .held _ => 1
def uptoBulkAll {H : Type} : List (DataW H) → Nat
  | [] => 0
  | d :: r => uptoBulk d + uptoBulkAll r
def uptoBulkEntries {H : Type} : List (Lit × DataW H) → Nat
  | [] => 0
  | x :: r => uptoBulkEntry x + uptoBulkEntries r
def uptoBulkEntry {H : Type} : Lit × DataW H → Nat
  | (.string bytes, d) => bytes.length + uptoBulk d + 1
  | (_, d) => uptoBulk d + 1
 end
def uptoSmall : (H : Type) → List (DataW H) → Bool := fun _ ds => decide (uptoBulkAll ds ≤ 1048576)
def OpenSpec.upto (s : _root_.Go.ChangeSpec) : _root_.Go.OpenSpec := { _root_.Go.OpenSpec.ofChange s with cond := some uptoSmall }

/-- 'narthexlaw19.HelloPieces', WHERE WHAT IT READS IS OF BULK AT MOST 1048576: true; the input reads as it did. -/
def helloPiecesUptoRow : OpenClaim := { program := "ytlpajohhnngbmaa", sum := "708450b16a317cd7db310c5360a3bfe27e248b98c21910310fdd0b48fefb7ecb", func := "narthex/narthexlaw19.HelloPieces", spec := "helloPieces", apart := false, narrowed := true }
def HelloPiecesUptoSaid : Prop := helloPiecesUptoRow.holds Try.pinned (OpenSpec.upto helloPiecesSpec)

/-- 'narthexlaw19.HelloNumbers', WHERE WHAT IT READS IS OF BULK AT MOST 1048576: true; the input reads as it did. -/
def helloNumbersUptoRow : OpenClaim := { program := "ytlpajohhnngbmaa", sum := "708450b16a317cd7db310c5360a3bfe27e248b98c21910310fdd0b48fefb7ecb", func := "narthex/narthexlaw19.HelloNumbers", spec := "helloNumbers", apart := false, narrowed := true }
def HelloNumbersUptoSaid : Prop := helloNumbersUptoRow.holds Try.pinned (OpenSpec.upto helloNumbersSpec)

/-- 'narthexlaw19.HelloMeets', WHERE WHAT IT READS IS OF BULK AT MOST 1048576: true; the input reads as it did. -/
def helloMeetsUptoRow : OpenClaim := { program := "ytlpajohhnngbmaa", sum := "708450b16a317cd7db310c5360a3bfe27e248b98c21910310fdd0b48fefb7ecb", func := "narthex/narthexlaw19.HelloMeets", spec := "helloMeets", apart := false, narrowed := true }
def HelloMeetsUptoSaid : Prop := helloMeetsUptoRow.holds Try.pinned (OpenSpec.upto helloMeetsSpec)

end Rows
end Go.Proofs.Ytlpajohhnngbmaa
