/-
  No cell of these rows narrows 'for every input' (looked for: loops, veiled, ifaces, maps, wideKeys, modest, calm, conditions, laid).
  DERIVED. THE GIVEN ROWS OF THIS SEAT. 5 by the template 'for every input the law returns true; each argument reads behind the call as it read before'; 0 by the template 'total and deterministic' (their statements: YtjkedccbieoenaaTotals.lean).
  GIVEN WITH THE SEED: the statements are not yours to turn. If you find one false, say at which input.
  Laid BY PROGRAM, IN A SANDBOX (cutbox-rows.mjs): the forced cells as the released guide's own fill.sh prints them over the translation 72b8c212bff05408… (all of the seat's roots in one cut). By AI agents, Wed Nov 11 2026. No macro, syntax, notation, axiom, sorry.
-/
import Derived.Test.YtjkedccbieoenaaChecked
import GoSem.Claim
import GoSem.ClaimJoined
import GoSem.ClaimMapViews
import Derived.JoinedTies
import Derived.KernelRfl
namespace Go.Proofs.Ytjkedccbieoenaa
/- THE CELL 'sum', in the pinned program and in every row, IS THE sha256 OF THE DUMP (.gsa) THAT YtjkedccbieoenaaProg.lean LOADS. Nothing in Lean hashes anything: it is a label: what it is worth is what the hold of that sum in a sandbox is worth. -/
noncomputable def Try.pinned : Pinned := { name := "ytjkedccbieoenaa", sum := "72b8c212bff0540816340c734890fc434e230bdc59ac4433053d581fc590472f", checked := Try.checked }
namespace Rows
def none {H : Type} : Left H := { results := [], args := [] }

/-- 'narthexlaw24.WheelSteps': WHATEVER THE INPUT: true; the input reads as it did. -/
def wheelStepsSpec : ChangeSpec := { name := "wheelSteps", fn := fun _ => fun
  | [d1, d2] => { results := [.lit (.bool true)], args := [d1, d2] }
  | _ => none }
def wheelStepsRow : OpenClaim := { program := "ytjkedccbieoenaa", sum := "72b8c212bff0540816340c734890fc434e230bdc59ac4433053d581fc590472f", func := "narthex/narthexlaw24.WheelSteps", spec := "wheelSteps", unfollowed := true, recurses := true, apart := false }
def WheelStepsSaid : Prop := wheelStepsRow.holds Try.pinned (OpenSpec.ofChange wheelStepsSpec)

/-- ITS FALSE NEIGHBOUR: 'it returns false'. Refute it at one input. -/
def wheelStepsWrong : ChangeSpec := { name := "wheelSteps", fn := fun _ => fun
  | [d1, d2] => { results := [.lit (.bool false)], args := [d1, d2] }
  | _ => none }
def WheelStepsWrongFalsely : Prop := wheelStepsRow.holds Try.pinned (OpenSpec.ofChange wheelStepsWrong)

/-- 'narthexlaw24.WheelDrops': WHATEVER THE INPUT: true; the input reads as it did. -/
def wheelDropsSpec : ChangeSpec := { name := "wheelDrops", fn := fun _ => fun
  | [d] => { results := [.lit (.bool true)], args := [d] }
  | _ => none }
def wheelDropsRow : OpenClaim := { program := "ytjkedccbieoenaa", sum := "72b8c212bff0540816340c734890fc434e230bdc59ac4433053d581fc590472f", func := "narthex/narthexlaw24.WheelDrops", spec := "wheelDrops", unfollowed := true, recurses := true, apart := false }
def WheelDropsSaid : Prop := wheelDropsRow.holds Try.pinned (OpenSpec.ofChange wheelDropsSpec)

/-- ITS FALSE NEIGHBOUR: 'it returns false'. Refute it at one input. -/
def wheelDropsWrong : ChangeSpec := { name := "wheelDrops", fn := fun _ => fun
  | [d] => { results := [.lit (.bool false)], args := [d] }
  | _ => none }
def WheelDropsWrongFalsely : Prop := wheelDropsRow.holds Try.pinned (OpenSpec.ofChange wheelDropsWrong)

/-- 'narthexlaw24.WheelNext': WHATEVER THE INPUT: true; the input reads as it did. -/
def wheelNextSpec : ChangeSpec := { name := "wheelNext", fn := fun _ => fun
  | [d1, d2] => { results := [.lit (.bool true)], args := [d1, d2] }
  | _ => none }
def wheelNextRow : OpenClaim := { program := "ytjkedccbieoenaa", sum := "72b8c212bff0540816340c734890fc434e230bdc59ac4433053d581fc590472f", func := "narthex/narthexlaw24.WheelNext", spec := "wheelNext", unfollowed := true, recurses := true, apart := false }
def WheelNextSaid : Prop := wheelNextRow.holds Try.pinned (OpenSpec.ofChange wheelNextSpec)

/-- ITS FALSE NEIGHBOUR: 'it returns false'. Refute it at one input. -/
def wheelNextWrong : ChangeSpec := { name := "wheelNext", fn := fun _ => fun
  | [d1, d2] => { results := [.lit (.bool false)], args := [d1, d2] }
  | _ => none }
def WheelNextWrongFalsely : Prop := wheelNextRow.holds Try.pinned (OpenSpec.ofChange wheelNextWrong)

/-- 'narthexlaw24.WheelNumbers': WHATEVER THE INPUT: true; the input reads as it did. -/
def wheelNumbersSpec : ChangeSpec := { name := "wheelNumbers", fn := fun _ => fun
  | [] => { results := [.lit (.bool true)], args := [] }
  | _ => none }
def wheelNumbersRow : OpenClaim := { program := "ytjkedccbieoenaa", sum := "72b8c212bff0540816340c734890fc434e230bdc59ac4433053d581fc590472f", func := "narthex/narthexlaw24.WheelNumbers", spec := "wheelNumbers", unfollowed := true, recurses := true, apart := false }
def WheelNumbersSaid : Prop := wheelNumbersRow.holds Try.pinned (OpenSpec.ofChange wheelNumbersSpec)

/-- ITS FALSE NEIGHBOUR: 'it returns false'. Refute it at one input. -/
def wheelNumbersWrong : ChangeSpec := { name := "wheelNumbers", fn := fun _ => fun
  | [] => { results := [.lit (.bool false)], args := [] }
  | _ => none }
def WheelNumbersWrongFalsely : Prop := wheelNumbersRow.holds Try.pinned (OpenSpec.ofChange wheelNumbersWrong)

/-- 'narthexlaw24.WheelPlays': WHATEVER THE INPUT: true; the input reads as it did. -/
def wheelPlaysSpec : ChangeSpec := { name := "wheelPlays", fn := fun _ => fun
  | [d1, d2] => { results := [.lit (.bool true)], args := [d1, d2] }
  | _ => none }
def wheelPlaysRow : OpenClaim := { program := "ytjkedccbieoenaa", sum := "72b8c212bff0540816340c734890fc434e230bdc59ac4433053d581fc590472f", func := "narthex/narthexlaw24.WheelPlays", spec := "wheelPlays", unfollowed := true, recurses := true, apart := false }
def WheelPlaysSaid : Prop := wheelPlaysRow.holds Try.pinned (OpenSpec.ofChange wheelPlaysSpec)

/-- ITS FALSE NEIGHBOUR: 'it returns false'. Refute it at one input. -/
def wheelPlaysWrong : ChangeSpec := { name := "wheelPlays", fn := fun _ => fun
  | [d1, d2] => { results := [.lit (.bool false)], args := [d1, d2] }
  | _ => none }
def WheelPlaysWrongFalsely : Prop := wheelPlaysRow.holds Try.pinned (OpenSpec.ofChange wheelPlaysWrong)

/- THE SECOND FORM. 'bulk': how many values and letters a reading holds, each counted each time it is reached (what is shared counts as often as it is met; a slice's spare places count too). A statement '..UptoSaid' is the law's where the arguments, and the package variables that the reading takes, are together of bulk at most 1048576: NARROWER than '..Said'. Prove '..Said' where nothing that the law and all that it calls make is longer than what came in: it says more and counts as full. Else prove '..UptoSaid'. A law counts once. -/
mutual
def uptoBulk {H : Type} : DataW H → Nat
  | .lit (.string bytes) => bytes.length + 1
  | .lit _ => 1
  | .nil => 1
  | .ptr d => uptoBulk d + 1
  | .slice elems spare => uptoBulkAll elems + uptoBulkAll spare + 1
  | .agg parts => uptoBulkAll parts + 1
  | .iface _ d => uptoBulk d + 1
  | .map entries => uptoBulkEntries entries + 1
  | .held _ => 1
def uptoBulkAll {H : Type} : List (DataW H) → Nat
  | [] => 0
  | d :: r => uptoBulk d + uptoBulkAll r
def uptoBulkEntries {H : Type} : List (Lit × DataW H) → Nat
  | [] => 0
  | x :: r => uptoBulkEntry x + uptoBulkEntries r
def uptoBulkEntry {H : Type} : Lit × DataW H → Nat
  | (.string bytes, d) => bytes.length + uptoBulk d + 1
  | (_, d) => uptoBulk d + 1
 end
def uptoSmall : (H : Type) → List (DataW H) → Bool := fun _ ds => decide (uptoBulkAll ds ≤ 1048576)
def OpenSpec.upto (s : _root_.Go.ChangeSpec) : _root_.Go.OpenSpec := { _root_.Go.OpenSpec.ofChange s with cond := some uptoSmall }

/-- 'narthexlaw24.WheelSteps', WHERE WHAT IT READS IS OF BULK AT MOST 1048576: true; the input reads as it did. -/
def wheelStepsUptoRow : OpenClaim := { program := "ytjkedccbieoenaa", sum := "72b8c212bff0540816340c734890fc434e230bdc59ac4433053d581fc590472f", func := "narthex/narthexlaw24.WheelSteps", spec := "wheelSteps", unfollowed := true, recurses := true, apart := false, narrowed := true }
def WheelStepsUptoSaid : Prop := wheelStepsUptoRow.holds Try.pinned (OpenSpec.upto wheelStepsSpec)

/-- 'narthexlaw24.WheelDrops', WHERE WHAT IT READS IS OF BULK AT MOST 1048576: true; the input reads as it did. -/
def wheelDropsUptoRow : OpenClaim := { program := "ytjkedccbieoenaa", sum := "72b8c212bff0540816340c734890fc434e230bdc59ac4433053d581fc590472f", func := "narthex/narthexlaw24.WheelDrops", spec := "wheelDrops", unfollowed := true, recurses := true, apart := false, narrowed := true }
def WheelDropsUptoSaid : Prop := wheelDropsUptoRow.holds Try.pinned (OpenSpec.upto wheelDropsSpec)

/-- 'narthexlaw24.WheelNext', WHERE WHAT IT READS IS OF BULK AT MOST 1048576: true; the input reads as it did. -/
def wheelNextUptoRow : OpenClaim := { program := "ytjkedccbieoenaa", sum := "72b8c212bff0540816340c734890fc434e230bdc59ac4433053d581fc590472f", func := "narthex/narthexlaw24.WheelNext", spec := "wheelNext", unfollowed := true, recurses := true, apart := false, narrowed := true }
def WheelNextUptoSaid : Prop := wheelNextUptoRow.holds Try.pinned (OpenSpec.upto wheelNextSpec)

/-- 'narthexlaw24.WheelNumbers', WHERE WHAT IT READS IS OF BULK AT MOST 1048576: true; the input reads as it did. -/
def wheelNumbersUptoRow : OpenClaim := { program := "ytjkedccbieoenaa", sum := "72b8c212bff0540816340c734890fc434e230bdc59ac4433053d581fc590472f", func := "narthex/narthexlaw24.WheelNumbers", spec := "wheelNumbers", unfollowed := true, recurses := true, apart := false, narrowed := true }
def WheelNumbersUptoSaid : Prop := wheelNumbersUptoRow.holds Try.pinned (OpenSpec.upto wheelNumbersSpec)

/-- 'narthexlaw24.WheelPlays', WHERE WHAT IT READS IS OF BULK AT MOST 1048576: true; the input reads as it did. -/
def wheelPlaysUptoRow : OpenClaim := { program := "ytjkedccbieoenaa", sum := "72b8c212bff0540816340c734890fc434e230bdc59ac4433053d581fc590472f", func := "narthex/narthexlaw24.WheelPlays", spec := "wheelPlays", unfollowed := true, recurses := true, apart := false, narrowed := true }
def WheelPlaysUptoSaid : Prop := wheelPlaysUptoRow.holds Try.pinned (OpenSpec.upto wheelPlaysSpec)

end Rows
end Go.Proofs.Ytjkedccbieoenaa
