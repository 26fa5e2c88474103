/-
  No cell of these rows narrows 'for every input' (looked for: loops, veiled, ifaces, maps, wideKeys, modest, calm, conditions, laid).
  DERIVED. THE GIVEN ROWS OF THIS SEAT. 4 by the template 'for every input the law returns true; each argument reads behind the call as it read before'; 0 by the template 'total and deterministic' (their statements: YtdckjaganpincaaTotals.lean).
  GIVEN WITH THE SEED: the statements are not yours to turn. If you find one false, say at which input.
  Laid BY PROGRAM, IN A SANDBOX (cutbox-rows.mjs): the forced cells as the released guide's own fill.sh prints them over the translation b8351bce7f923ee0… (all of the seat's roots in one cut). By AI agents, Wed Nov 11 2026. No macro, syntax, notation, axiom, sorry.
-/
import Derived.Test.YtdckjaganpincaaChecked
import GoSem.Claim
import GoSem.ClaimJoined
import GoSem.ClaimMapViews
import Derived.JoinedTies
import Derived.KernelRfl
namespace Go.Proofs.Ytdckjaganpincaa
/- THE CELL 'sum', in the pinned program and in every row, IS THE sha256 OF THE DUMP (.gsa) THAT YtdckjaganpincaaProg.lean LOADS. Nothing in Lean hashes anything: it is a label: what it is worth is what the hold of that sum in a sandbox is worth. -/
noncomputable def Try.pinned : Pinned := { name := "ytdckjaganpincaa", sum := "b8351bce7f923ee0f08b98b58f8826145833d80ccbb70e26a8d69ba3847db5dd", checked := Try.checked }
namespace Rows
def none {H : Type} : Left H := { results := [], args := [] }

/-- 'narthexlaw21.PathThrice': WHATEVER THE INPUT: true; the input reads as it did. -/
def pathThriceSpec : ChangeSpec := { name := "pathThrice", fn := fun _ => fun
  | [d1, d2] => { results := [.lit (.bool true)], args := [d1, d2] }
  | _ => none }
def pathThriceRow : OpenClaim := { program := "ytdckjaganpincaa", sum := "b8351bce7f923ee0f08b98b58f8826145833d80ccbb70e26a8d69ba3847db5dd", func := "narthex/narthexlaw21.PathThrice", spec := "pathThrice", apart := false }
def PathThriceSaid : Prop := pathThriceRow.holds Try.pinned (OpenSpec.ofChange pathThriceSpec)

/-- ITS FALSE NEIGHBOUR: 'it returns false'. Refute it at one input. -/
def pathThriceWrong : ChangeSpec := { name := "pathThrice", fn := fun _ => fun
  | [d1, d2] => { results := [.lit (.bool false)], args := [d1, d2] }
  | _ => none }
def PathThriceWrongFalsely : Prop := pathThriceRow.holds Try.pinned (OpenSpec.ofChange pathThriceWrong)

/-- 'narthexlaw21.PathKnows': WHATEVER THE INPUT: true; the input reads as it did. -/
def pathKnowsSpec : ChangeSpec := { name := "pathKnows", fn := fun _ => fun
  | [d1, d2, d3, d4] => { results := [.lit (.bool true)], args := [d1, d2, d3, d4] }
  | _ => none }
def pathKnowsRow : OpenClaim := { program := "ytdckjaganpincaa", sum := "b8351bce7f923ee0f08b98b58f8826145833d80ccbb70e26a8d69ba3847db5dd", func := "narthex/narthexlaw21.PathKnows", spec := "pathKnows", apart := false }
def PathKnowsSaid : Prop := pathKnowsRow.holds Try.pinned (OpenSpec.ofChange pathKnowsSpec)

/-- ITS FALSE NEIGHBOUR: 'it returns false'. Refute it at one input. -/
def pathKnowsWrong : ChangeSpec := { name := "pathKnows", fn := fun _ => fun
  | [d1, d2, d3, d4] => { results := [.lit (.bool false)], args := [d1, d2, d3, d4] }
  | _ => none }
def PathKnowsWrongFalsely : Prop := pathKnowsRow.holds Try.pinned (OpenSpec.ofChange pathKnowsWrong)

/-- 'narthexlaw21.PathNumbers': WHATEVER THE INPUT: true; the input reads as it did. -/
def pathNumbersSpec : ChangeSpec := { name := "pathNumbers", fn := fun _ => fun
  | [] => { results := [.lit (.bool true)], args := [] }
  | _ => none }
def pathNumbersRow : OpenClaim := { program := "ytdckjaganpincaa", sum := "b8351bce7f923ee0f08b98b58f8826145833d80ccbb70e26a8d69ba3847db5dd", func := "narthex/narthexlaw21.PathNumbers", spec := "pathNumbers", apart := false }
def PathNumbersSaid : Prop := pathNumbersRow.holds Try.pinned (OpenSpec.ofChange pathNumbersSpec)

/-- ITS FALSE NEIGHBOUR: 'it returns false'. Refute it at one input. -/
def pathNumbersWrong : ChangeSpec := { name := "pathNumbers", fn := fun _ => fun
  | [] => { results := [.lit (.bool false)], args := [] }
  | _ => none }
def PathNumbersWrongFalsely : Prop := pathNumbersRow.holds Try.pinned (OpenSpec.ofChange pathNumbersWrong)

/-- 'narthexlaw21.PathPlays': WHATEVER THE INPUT: true; the input reads as it did. -/
def pathPlaysSpec : ChangeSpec := { name := "pathPlays", fn := fun _ => fun
  | [d1, d2, d3, d4] => { results := [.lit (.bool true)], args := [d1, d2, d3, d4] }
  | _ => none }
def pathPlaysRow : OpenClaim := { program := "ytdckjaganpincaa", sum := "b8351bce7f923ee0f08b98b58f8826145833d80ccbb70e26a8d69ba3847db5dd", func := "narthex/narthexlaw21.PathPlays", spec := "pathPlays", apart := false }
def PathPlaysSaid : Prop := pathPlaysRow.holds Try.pinned (OpenSpec.ofChange pathPlaysSpec)

/-- ITS FALSE NEIGHBOUR: 'it returns false'. Refute it at one input. -/
def pathPlaysWrong : ChangeSpec := { name := "pathPlays", fn := fun _ => fun
  | [d1, d2, d3, d4] => { results := [.lit (.bool false)], args := [d1, d2, d3, d4] }
  | _ => none }
def PathPlaysWrongFalsely : Prop := pathPlaysRow.holds Try.pinned (OpenSpec.ofChange pathPlaysWrong)

/- THE SECOND FORM. 'bulk': how many values and letters a reading holds, each counted each time it is reached (what is shared counts as often as it is met; a slice's spare places count too). A statement '..UptoSaid' is the law's where the arguments, and the package variables that the reading takes, are together of bulk at most 1048576: NARROWER than '..Said'. Prove '..Said' where nothing that the law and all that it calls make is longer than what came in: it says more and counts as full. Else prove '..UptoSaid'. A law counts once. -/
mutual
def uptoBulk {H : Type} : DataW H → Nat
  | .lit (.string bytes) => bytes.length + 1
  | .lit _ => 1
  | .nil => 1
  | .ptr d => uptoBulk d + 1
  | .slice elems spare => uptoBulkAll elems + uptoBulkAll spare + 1
  | .agg parts => uptoBulkAll parts + 1
  | .iface _ d => uptoBulk d + 1
  | .map entries => uptoBulkEntries entries + 1
  | .held _ => 1
def uptoBulkAll {H : Type} : List (DataW H) → Nat
  | [] => 0
  | d :: r => uptoBulk d + uptoBulkAll r
def uptoBulkEntries {H : Type} : List (Lit × DataW H) → Nat
  | [] => 0
  | x :: r => uptoBulkEntry x + uptoBulkEntries r
def uptoBulkEntry {H : Type} : Lit × DataW H → Nat
  | (.string bytes, d) => bytes.length + uptoBulk d + 1
  | (_, d) => uptoBulk d + 1
 end
def uptoSmall : (H : Type) → List (DataW H) → Bool := fun _ ds => decide (uptoBulkAll ds ≤ 1048576)
def OpenSpec.upto (s : _root_.Go.ChangeSpec) : _root_.Go.OpenSpec := { _root_.Go.OpenSpec.ofChange s with cond := some uptoSmall }

/-- 'narthexlaw21.PathThrice', WHERE WHAT IT READS IS OF BULK AT MOST 1048576: true; the input reads as it did. -/
def pathThriceUptoRow : OpenClaim := { program := "ytdckjaganpincaa", sum := "b8351bce7f923ee0f08b98b58f8826145833d80ccbb70e26a8d69ba3847db5dd", func := "narthex/narthexlaw21.PathThrice", spec := "pathThrice", apart := false, narrowed := true }
def PathThriceUptoSaid : Prop := pathThriceUptoRow.holds Try.pinned (OpenSpec.upto pathThriceSpec)

/-- 'narthexlaw21.PathKnows', WHERE WHAT IT READS IS OF BULK AT MOST 1048576: true; the input reads as it did. -/
def pathKnowsUptoRow : OpenClaim := { program := "ytdckjaganpincaa", sum := "b8351bce7f923ee0f08b98b58f8826145833d80ccbb70e26a8d69ba3847db5dd", func := "narthex/narthexlaw21.PathKnows", spec := "pathKnows", apart := false, narrowed := true }
def PathKnowsUptoSaid : Prop := pathKnowsUptoRow.holds Try.pinned (OpenSpec.upto pathKnowsSpec)

/-- 'narthexlaw21.PathNumbers', WHERE WHAT IT READS IS OF BULK AT MOST 1048576: true; the input reads as it did. -/
def pathNumbersUptoRow : OpenClaim := { program := "ytdckjaganpincaa", sum := "b8351bce7f923ee0f08b98b58f8826145833d80ccbb70e26a8d69ba3847db5dd", func := "narthex/narthexlaw21.PathNumbers", spec := "pathNumbers", apart := false, narrowed := true }
def PathNumbersUptoSaid : Prop := pathNumbersUptoRow.holds Try.pinned (OpenSpec.upto pathNumbersSpec)

/-- 'narthexlaw21.PathPlays', WHERE WHAT IT READS IS OF BULK AT MOST 1048576: true; the input reads as it did. -/
def pathPlaysUptoRow : OpenClaim := { program := "ytdckjaganpincaa", sum := "b8351bce7f923ee0f08b98b58f8826145833d80ccbb70e26a8d69ba3847db5dd", func := "narthex/narthexlaw21.PathPlays", spec := "pathPlays", apart := false, narrowed := true }
def PathPlaysUptoSaid : Prop := pathPlaysUptoRow.holds Try.pinned (OpenSpec.upto pathPlaysSpec)

end Rows
end Go.Proofs.Ytdckjaganpincaa
