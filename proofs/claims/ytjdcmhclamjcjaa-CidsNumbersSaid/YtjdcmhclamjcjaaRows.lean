/-
  No cell of these rows narrows 'for every input' (looked for: loops, veiled, ifaces, maps, wideKeys, modest, calm, conditions, laid).
  DERIVED. THE GIVEN ROWS OF THIS SEAT. 2 by the template 'for every input the law returns true; each argument reads behind the call as it read before'; 0 by the template 'total and deterministic' (their statements: YtjdcmhclamjcjaaTotals.lean).
  GIVEN WITH THE SEED: the statements are not yours to turn. If you find one false, say at which input.
  Laid BY PROGRAM, IN A SANDBOX (cutbox-rows.mjs): the forced cells as the released guide's own fill.sh prints them over the translation 41591ac014d87e02… (all of the seat's roots in one cut). By AI agents, Wed Nov 11 2026. No macro, syntax, notation, axiom, sorry.
-/
import Derived.Test.YtjdcmhclamjcjaaChecked
import GoSem.Claim
import GoSem.ClaimJoined
import GoSem.ClaimMapViews
import Derived.JoinedTies
import Derived.KernelRfl
namespace Go.Proofs.Ytjdcmhclamjcjaa
/- THE CELL 'sum', in the pinned program and in every row, IS THE sha256 OF THE DUMP (.gsa) THAT YtjdcmhclamjcjaaProg.lean LOADS. Nothing in Lean hashes anything: it is a label: what it is worth is what the hold of that sum in a sandbox is worth. -/
noncomputable def Try.pinned : Pinned := { name := "ytjdcmhclamjcjaa", sum := "41591ac014d87e02cf1056f825f72c4d25769e899504779e713936a4d399072c", checked := Try.checked }
namespace Rows
def none {H : Type} : Left H := { results := [], args := [] }

/-- 'narthexlaw20.CidsNumbers': WHATEVER THE INPUT: true; the input reads as it did. -/
def cidsNumbersSpec : ChangeSpec := { name := "cidsNumbers", fn := fun _ => fun
  | [] => { results := [.lit (.bool true)], args := [] }
  | _ => none }
def cidsNumbersRow : OpenClaim := { program := "ytjdcmhclamjcjaa", sum := "41591ac014d87e02cf1056f825f72c4d25769e899504779e713936a4d399072c", func := "narthex/narthexlaw20.CidsNumbers", spec := "cidsNumbers", unfollowed := true, recurses := true, plainKeys := false, apart := false }
def CidsNumbersSaid : Prop := cidsNumbersRow.holds Try.pinned (OpenSpec.ofChange cidsNumbersSpec)

/-- ITS FALSE NEIGHBOUR: 'it returns false'. Refute it at one input. -/
def cidsNumbersWrong : ChangeSpec := { name := "cidsNumbers", fn := fun _ => fun
  | [] => { results := [.lit (.bool false)], args := [] }
  | _ => none }
def CidsNumbersWrongFalsely : Prop := cidsNumbersRow.holds Try.pinned (OpenSpec.ofChange cidsNumbersWrong)

/-- 'narthexlaw20.CidsPlays': WHATEVER THE INPUT: true; the input reads as it did. -/
def cidsPlaysSpec : ChangeSpec := { name := "cidsPlays", fn := fun _ => fun
  | [d1, d2] => { results := [.lit (.bool true)], args := [d1, d2] }
  | _ => none }
def cidsPlaysRow : OpenClaim := { program := "ytjdcmhclamjcjaa", sum := "41591ac014d87e02cf1056f825f72c4d25769e899504779e713936a4d399072c", func := "narthex/narthexlaw20.CidsPlays", spec := "cidsPlays", unfollowed := true, recurses := true, plainKeys := false, apart := false }
def CidsPlaysSaid : Prop := cidsPlaysRow.holds Try.pinned (OpenSpec.ofChange cidsPlaysSpec)

/-- ITS FALSE NEIGHBOUR: 'it returns false'. Refute it at one input. -/
def cidsPlaysWrong : ChangeSpec := { name := "cidsPlays", fn := fun _ => fun
  | [d1, d2] => { results := [.lit (.bool false)], args := [d1, d2] }
  | _ => none }
def CidsPlaysWrongFalsely : Prop := cidsPlaysRow.holds Try.pinned (OpenSpec.ofChange cidsPlaysWrong)

/- THE SECOND FORM. 'bulk': how many values and letters a reading holds, each counted each time it is reached (what is shared counts as often as it is met; a slice's spare places count too). A statement '..UptoSaid' is the law's where the arguments, and the package variables that the reading takes, are together of bulk at most 1048576: NARROWER than '..Said'. Prove '..Said' where nothing that the law and all that it calls make is longer than what came in: it says more and counts as full. Else prove '..UptoSaid'. A law counts once. -/
mutual
def uptoBulk {H : Type} : DataW H → Nat
  | .lit (.string bytes) => bytes.length + 1
  | .lit _ => 1
  | .nil => 1
  | .ptr d => uptoBulk d + 1
  | .slice elems spare => uptoBulkAll elems + uptoBulkAll spare + 1
  | .agg parts => uptoBulkAll parts + 1
  | .iface _ d => uptoBulk d + 1
  | .map entries => uptoBulkEntries entries + 1
  | .held _ => 1
def uptoBulkAll {H : Type} : List (DataW H) → Nat
  | [] => 0
  | d :: r => uptoBulk d + uptoBulkAll r
def uptoBulkEntries {H : Type} : List (Lit × DataW H) → Nat
  | [] => 0
  | x :: r => uptoBulkEntry x + uptoBulkEntries r
def uptoBulkEntry {H : Type} : Lit × DataW H → Nat
  | (.string bytes, d) => bytes.length + uptoBulk d + 1
  | (_, d) => uptoBulk d + 1
 end
def uptoSmall : (H : Type) → List (DataW H) → Bool := fun _ ds => decide (uptoBulkAll ds ≤ 1048576)
def OpenSpec.upto (s : _root_.Go.ChangeSpec) : _root_.Go.OpenSpec := { _root_.Go.OpenSpec.ofChange s with cond := some uptoSmall }

/-- 'narthexlaw20.CidsNumbers', WHERE WHAT IT READS IS OF BULK AT MOST 1048576: true; the input reads as it did. -/
def cidsNumbersUptoRow : OpenClaim := { program := "ytjdcmhclamjcjaa", sum := "41591ac014d87e02cf1056f825f72c4d25769e899504779e713936a4d399072c", func := "narthex/narthexlaw20.CidsNumbers", spec := "cidsNumbers", unfollowed := true, recurses := true, plainKeys := false, apart := false, narrowed := true }
def CidsNumbersUptoSaid : Prop := cidsNumbersUptoRow.holds Try.pinned (OpenSpec.upto cidsNumbersSpec)

/-- 'narthexlaw20.CidsPlays', WHERE WHAT IT READS IS OF BULK AT MOST 1048576: true; the input reads as it did. -/
def cidsPlaysUptoRow : OpenClaim := { program := "ytjdcmhclamjcjaa", sum := "41591ac014d87e02cf1056f825f72c4d25769e899504779e713936a4d399072c", func := "narthex/narthexlaw20.CidsPlays", spec := "cidsPlays", unfollowed := true, recurses := true, plainKeys := false, apart := false, narrowed := true }
def CidsPlaysUptoSaid : Prop := cidsPlaysUptoRow.holds Try.pinned (OpenSpec.upto cidsPlaysSpec)

end Rows
end Go.Proofs.Ytjdcmhclamjcjaa
