/-
  No cell of these rows narrows 'for every input' (looked for: loops, veiled, ifaces, maps, wideKeys, modest, calm, conditions, laid).
  DERIVED. THE GIVEN ROWS OF THIS SEAT. 4 by the template 'for every input the law returns true; each argument reads behind the call as it read before'; 0 by the template 'total and deterministic' (their statements: YthofbckkjcidmaaTotals.lean).
  GIVEN WITH THE SEED: the statements are not yours to turn. If you find one false, say at which input.
  Laid BY PROGRAM, IN A SANDBOX (cutbox-rows.mjs): the forced cells as the released guide's own fill.sh prints them over the translation 019040cfc9cf5190… (all of the seat's roots in one cut). By AI agents, Wed Nov 11 2026. No macro, syntax, notation, axiom, sorry.
-/
import Derived.Test.YthofbckkjcidmaaChecked
import GoSem.Claim
import GoSem.ClaimJoined
import GoSem.ClaimMapViews
import Derived.JoinedTies
import Derived.KernelRfl
namespace Go.Proofs.Ythofbckkjcidmaa
/- THE CELL 'sum', in the pinned program and in every row, IS THE sha256 OF THE DUMP (.gsa) THAT YthofbckkjcidmaaProg.lean LOADS. Nothing in Lean hashes anything: it is a label: what it is worth is what the hold of that sum in a sandbox is worth. -/
noncomputable def Try.pinned : Pinned := { name := "ythofbckkjcidmaa", sum := "019040cfc9cf51908046b074530028ec5ef6138154e26444d6159884e0a431b0", checked := Try.checked }
namespace Rows
def none {H : Type} : Left H := { results := [], args := [] }

/-- 'narthexlaw9.PacketBack': WHATEVER THE INPUT: true; the input reads as it did. -/
def packetBackSpec : ChangeSpec := { name := "packetBack", fn := fun _ => fun
  | [d1, d2, d3, d4, d5] => { results := [.lit (.bool true)], args := [d1, d2, d3, d4, d5] }
  | _ => none }
def packetBackRow : OpenClaim := { program := "ythofbckkjcidmaa", sum := "019040cfc9cf51908046b074530028ec5ef6138154e26444d6159884e0a431b0", func := "narthex/narthexlaw9.PacketBack", spec := "packetBack", apart := false }
def PacketBackSaid : Prop := packetBackRow.holds Try.pinned (OpenSpec.ofChange packetBackSpec)

/-- ITS FALSE NEIGHBOUR: 'it returns false'. Refute it at one input. -/
def packetBackWrong : ChangeSpec := { name := "packetBack", fn := fun _ => fun
  | [d1, d2, d3, d4, d5] => { results := [.lit (.bool false)], args := [d1, d2, d3, d4, d5] }
  | _ => none }
def PacketBackWrongFalsely : Prop := packetBackRow.holds Try.pinned (OpenSpec.ofChange packetBackWrong)

/-- 'narthexlaw9.PacketRow': WHATEVER THE INPUT: true; the input reads as it did. -/
def packetRowSpec : ChangeSpec := { name := "packetRow", fn := fun _ => fun
  | [d1, d2, d3] => { results := [.lit (.bool true)], args := [d1, d2, d3] }
  | _ => none }
def packetRowRow : OpenClaim := { program := "ythofbckkjcidmaa", sum := "019040cfc9cf51908046b074530028ec5ef6138154e26444d6159884e0a431b0", func := "narthex/narthexlaw9.PacketRow", spec := "packetRow", apart := false }
def PacketRowSaid : Prop := packetRowRow.holds Try.pinned (OpenSpec.ofChange packetRowSpec)

/-- ITS FALSE NEIGHBOUR: 'it returns false'. Refute it at one input. -/
def packetRowWrong : ChangeSpec := { name := "packetRow", fn := fun _ => fun
  | [d1, d2, d3] => { results := [.lit (.bool false)], args := [d1, d2, d3] }
  | _ => none }
def PacketRowWrongFalsely : Prop := packetRowRow.holds Try.pinned (OpenSpec.ofChange packetRowWrong)

/-- 'narthexlaw9.PacketNumbers': WHATEVER THE INPUT: true; the input reads as it did. -/
def packetNumbersSpec : ChangeSpec := { name := "packetNumbers", fn := fun _ => fun
  | [] => { results := [.lit (.bool true)], args := [] }
  | _ => none }
def packetNumbersRow : OpenClaim := { program := "ythofbckkjcidmaa", sum := "019040cfc9cf51908046b074530028ec5ef6138154e26444d6159884e0a431b0", func := "narthex/narthexlaw9.PacketNumbers", spec := "packetNumbers", apart := false }
def PacketNumbersSaid : Prop := packetNumbersRow.holds Try.pinned (OpenSpec.ofChange packetNumbersSpec)

/-- ITS FALSE NEIGHBOUR: 'it returns false'. Refute it at one input. -/
def packetNumbersWrong : ChangeSpec := { name := "packetNumbers", fn := fun _ => fun
  | [] => { results := [.lit (.bool false)], args := [] }
  | _ => none }
def PacketNumbersWrongFalsely : Prop := packetNumbersRow.holds Try.pinned (OpenSpec.ofChange packetNumbersWrong)

/-- 'narthexlaw9.PacketTells': WHATEVER THE INPUT: true; the input reads as it did. -/
def packetTellsSpec : ChangeSpec := { name := "packetTells", fn := fun _ => fun
  | [d1, d2, d3, d4, d5, d6, d7, d8, d9, d10] => { results := [.lit (.bool true)], args := [d1, d2, d3, d4, d5, d6, d7, d8, d9, d10] }
  | _ => none }
def packetTellsRow : OpenClaim := { program := "ythofbckkjcidmaa", sum := "019040cfc9cf51908046b074530028ec5ef6138154e26444d6159884e0a431b0", func := "narthex/narthexlaw9.PacketTells", spec := "packetTells", apart := false }
def PacketTellsSaid : Prop := packetTellsRow.holds Try.pinned (OpenSpec.ofChange packetTellsSpec)

/-- ITS FALSE NEIGHBOUR: 'it returns false'. Refute it at one input. -/
def packetTellsWrong : ChangeSpec := { name := "packetTells", fn := fun _ => fun
  | [d1, d2, d3, d4, d5, d6, d7, d8, d9, d10] => { results := [.lit (.bool false)], args := [d1, d2, d3, d4, d5, d6, d7, d8, d9, d10] }
  | _ => none }
def PacketTellsWrongFalsely : Prop := packetTellsRow.holds Try.pinned (OpenSpec.ofChange packetTellsWrong)

/- THE SECOND FORM. 'bulk': how many values and letters a reading holds, each counted each time it is reached (what is shared counts as often as it is met; a slice's spare places count too). A statement '..UptoSaid' is the law's where the arguments, and the package variables that the reading takes, are together of bulk at most 1048576: NARROWER than '..Said'. Prove '..Said' where nothing that the law and all that it calls make is longer than what came in: it says more and counts as full. Else prove '..UptoSaid'. A law counts once. -/
mutual
def uptoBulk {H : Type} : DataW H → Nat
  | .lit (.string bytes) => bytes.length + 1
  | .lit _ => 1
  | .nil => 1
  | .ptr d => uptoBulk d + 1
  | .slice elems spare => uptoBulkAll elems + uptoBulkAll spare + 1
  | .agg parts => uptoBulkAll parts + 1
  | .iface _ d => uptoBulk d + 1
  | .map entries => uptoBulkEntries entries + 1
  | .held _ => 1
def uptoBulkAll {H : Type} : List (DataW H) → Nat
  | [] => 0
  | d :: r => uptoBulk d + uptoBulkAll r
def uptoBulkEntries {H : Type} : List (Lit × DataW H) → Nat
  | [] => 0
  | x :: r => uptoBulkEntry x + uptoBulkEntries r
def uptoBulkEntry {H : Type} : Lit × DataW H → Nat
  | (.string bytes, d) => bytes.length + uptoBulk d + 1
  | (_, d) => uptoBulk d + 1
 end
def uptoSmall : (H : Type) → List (DataW H) → Bool := fun _ ds => decide (uptoBulkAll ds ≤ 1048576)
def OpenSpec.upto (s : _root_.Go.ChangeSpec) : _root_.Go.OpenSpec := { _root_.Go.OpenSpec.ofChange s with cond := some uptoSmall }

/-- 'narthexlaw9.PacketBack', WHERE WHAT IT READS IS OF BULK AT MOST 1048576: true; the input reads as it did. -/
def packetBackUptoRow : OpenClaim := { program := "ythofbckkjcidmaa", sum := "019040cfc9cf51908046b074530028ec5ef6138154e26444d6159884e0a431b0", func := "narthex/narthexlaw9.PacketBack", spec := "packetBack", apart := false, narrowed := true }
def PacketBackUptoSaid : Prop := packetBackUptoRow.holds Try.pinned (OpenSpec.upto packetBackSpec)

/-- 'narthexlaw9.PacketRow', WHERE WHAT IT READS IS OF BULK AT MOST 1048576: true; the input reads as it did. -/
def packetRowUptoRow : OpenClaim := { program := "ythofbckkjcidmaa", sum := "019040cfc9cf51908046b074530028ec5ef6138154e26444d6159884e0a431b0", func := "narthex/narthexlaw9.PacketRow", spec := "packetRow", apart := false, narrowed := true }
def PacketRowUptoSaid : Prop := packetRowUptoRow.holds Try.pinned (OpenSpec.upto packetRowSpec)

/-- 'narthexlaw9.PacketNumbers', WHERE WHAT IT READS IS OF BULK AT MOST 1048576: true; the input reads as it did. -/
def packetNumbersUptoRow : OpenClaim := { program := "ythofbckkjcidmaa", sum := "019040cfc9cf51908046b074530028ec5ef6138154e26444d6159884e0a431b0", func := "narthex/narthexlaw9.PacketNumbers", spec := "packetNumbers", apart := false, narrowed := true }
def PacketNumbersUptoSaid : Prop := packetNumbersUptoRow.holds Try.pinned (OpenSpec.upto packetNumbersSpec)

/-- 'narthexlaw9.PacketTells', WHERE WHAT IT READS IS OF BULK AT MOST 1048576: true; the input reads as it did. -/
def packetTellsUptoRow : OpenClaim := { program := "ythofbckkjcidmaa", sum := "019040cfc9cf51908046b074530028ec5ef6138154e26444d6159884e0a431b0", func := "narthex/narthexlaw9.PacketTells", spec := "packetTells", apart := false, narrowed := true }
def PacketTellsUptoSaid : Prop := packetTellsUptoRow.holds Try.pinned (OpenSpec.upto packetTellsSpec)

end Rows
end Go.Proofs.Ythofbckkjcidmaa
