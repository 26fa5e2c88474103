/-
  No cell of these rows narrows 'for every input' (looked for: loops, veiled, ifaces, maps, wideKeys, modest, calm, conditions, laid).
  DERIVED. THE GIVEN ROWS OF THIS SEAT. 4 by the template 'for every input the law returns true; each argument reads behind the call as it read before'; 0 by the template 'total and deterministic' (their statements: YtpngjokjjpdboaaTotals.lean).
  GIVEN WITH THE SEED: the statements are not yours to turn. If you find one false, say at which input.
  Laid BY PROGRAM, IN A SANDBOX (cutbox-rows.mjs): the forced cells as the released guide's own fill.sh prints them over the translation 00e9af307caa41e4… (all of the seat's roots in one cut). By AI agents, Wed Nov 11 2026. No macro, syntax, notation, axiom, sorry.
-/
import Derived.Test.YtpngjokjjpdboaaChecked
import GoSem.Claim
import GoSem.ClaimJoined
import GoSem.ClaimMapViews
import Derived.JoinedTies
import Derived.KernelRfl
namespace Go.Proofs.Ytpngjokjjpdboaa
/- THE CELL 'sum', in the pinned program and in every row, IS THE sha256 OF THE DUMP (.gsa) THAT YtpngjokjjpdboaaProg.lean LOADS. Nothing in Lean hashes anything: it is a label: what it is worth is what the hold of that sum in a sandbox is worth. -/
noncomputable def Try.pinned : Pinned := { name := "ytpngjokjjpdboaa", sum := "00e9af307caa41e45327305c561684e45f22a8fb313015738b726c2381d55ece", checked := Try.checked }
namespace Rows
def none {H : Type} : Left H := { results := [], args := [] }

/-- 'narthexlaw23.DemuxHomes': WHATEVER THE INPUT: true; the input reads as it did. -/
def demuxHomesSpec : ChangeSpec := { name := "demuxHomes", fn := fun _ => fun
  | [d1, d2] => { results := [.lit (.bool true)], args := [d1, d2] }
  | _ => none }
def demuxHomesRow : OpenClaim := { program := "ytpngjokjjpdboaa", sum := "00e9af307caa41e45327305c561684e45f22a8fb313015738b726c2381d55ece", func := "narthex/narthexlaw23.DemuxHomes", spec := "demuxHomes", unfollowed := true, recurses := true, apart := false }
def DemuxHomesSaid : Prop := demuxHomesRow.holds Try.pinned (OpenSpec.ofChange demuxHomesSpec)

/-- ITS FALSE NEIGHBOUR: 'it returns false'. Refute it at one input. -/
def demuxHomesWrong : ChangeSpec := { name := "demuxHomes", fn := fun _ => fun
  | [d1, d2] => { results := [.lit (.bool false)], args := [d1, d2] }
  | _ => none }
def DemuxHomesWrongFalsely : Prop := demuxHomesRow.holds Try.pinned (OpenSpec.ofChange demuxHomesWrong)

/-- 'narthexlaw23.DemuxDrops': WHATEVER THE INPUT: true; the input reads as it did. -/
def demuxDropsSpec : ChangeSpec := { name := "demuxDrops", fn := fun _ => fun
  | [d1, d2] => { results := [.lit (.bool true)], args := [d1, d2] }
  | _ => none }
def demuxDropsRow : OpenClaim := { program := "ytpngjokjjpdboaa", sum := "00e9af307caa41e45327305c561684e45f22a8fb313015738b726c2381d55ece", func := "narthex/narthexlaw23.DemuxDrops", spec := "demuxDrops", unfollowed := true, recurses := true, apart := false }
def DemuxDropsSaid : Prop := demuxDropsRow.holds Try.pinned (OpenSpec.ofChange demuxDropsSpec)

/-- ITS FALSE NEIGHBOUR: 'it returns false'. Refute it at one input. -/
def demuxDropsWrong : ChangeSpec := { name := "demuxDrops", fn := fun _ => fun
  | [d1, d2] => { results := [.lit (.bool false)], args := [d1, d2] }
  | _ => none }
def DemuxDropsWrongFalsely : Prop := demuxDropsRow.holds Try.pinned (OpenSpec.ofChange demuxDropsWrong)

/-- 'narthexlaw23.DemuxNumbers': WHATEVER THE INPUT: true; the input reads as it did. -/
def demuxNumbersSpec : ChangeSpec := { name := "demuxNumbers", fn := fun _ => fun
  | [] => { results := [.lit (.bool true)], args := [] }
  | _ => none }
def demuxNumbersRow : OpenClaim := { program := "ytpngjokjjpdboaa", sum := "00e9af307caa41e45327305c561684e45f22a8fb313015738b726c2381d55ece", func := "narthex/narthexlaw23.DemuxNumbers", spec := "demuxNumbers", unfollowed := true, recurses := true, apart := false }
def DemuxNumbersSaid : Prop := demuxNumbersRow.holds Try.pinned (OpenSpec.ofChange demuxNumbersSpec)

/-- ITS FALSE NEIGHBOUR: 'it returns false'. Refute it at one input. -/
def demuxNumbersWrong : ChangeSpec := { name := "demuxNumbers", fn := fun _ => fun
  | [] => { results := [.lit (.bool false)], args := [] }
  | _ => none }
def DemuxNumbersWrongFalsely : Prop := demuxNumbersRow.holds Try.pinned (OpenSpec.ofChange demuxNumbersWrong)

/-- 'narthexlaw23.DemuxPlays': WHATEVER THE INPUT: true; the input reads as it did. -/
def demuxPlaysSpec : ChangeSpec := { name := "demuxPlays", fn := fun _ => fun
  | [d1, d2] => { results := [.lit (.bool true)], args := [d1, d2] }
  | _ => none }
def demuxPlaysRow : OpenClaim := { program := "ytpngjokjjpdboaa", sum := "00e9af307caa41e45327305c561684e45f22a8fb313015738b726c2381d55ece", func := "narthex/narthexlaw23.DemuxPlays", spec := "demuxPlays", unfollowed := true, recurses := true, apart := false }
def DemuxPlaysSaid : Prop := demuxPlaysRow.holds Try.pinned (OpenSpec.ofChange demuxPlaysSpec)

/-- ITS FALSE NEIGHBOUR: 'it returns false'. Refute it at one input. -/
def demuxPlaysWrong : ChangeSpec := { name := "demuxPlays", fn := fun _ => fun
  | [d1, d2] => { results := [.lit (.bool false)], args := [d1, d2] }
  | _ => none }
def DemuxPlaysWrongFalsely : Prop := demuxPlaysRow.holds Try.pinned (OpenSpec.ofChange demuxPlaysWrong)

/- THE SECOND FORM. 'bulk': how many values and letters a reading holds, each counted each time it is reached (what is shared counts as often as it is met; a slice's spare places count too). A statement '..UptoSaid' is the law's where the arguments, and the package variables that the reading takes, are together of bulk at most 1048576: NARROWER than '..Said'. Prove '..Said' where nothing that the law and all that it calls make is longer than what came in: it says more and counts as full. Else prove '..UptoSaid'. A law counts once. -/
mutual
def uptoBulk {H : Type} : DataW H → Nat
  | .lit (.string bytes) => bytes.length + 1
  | .lit _ => 1
  | .nil => 1
  | .ptr d => uptoBulk d + 1
  | .slice elems spare => uptoBulkAll elems + uptoBulkAll spare + 1
  | .agg parts => uptoBulkAll parts + 1
  | .iface _ d => uptoBulk d + 1
  | .map entries => uptoBulkEntries entries + 1
  | .held _ => 1
def uptoBulkAll {H : Type} : List (DataW H) → Nat
  | [] => 0
  | d :: r => uptoBulk d + uptoBulkAll r
def uptoBulkEntries {H : Type} : List (Lit × DataW H) → Nat
  | [] => 0
  | x :: r => uptoBulkEntry x + uptoBulkEntries r
def uptoBulkEntry {H : Type} : Lit × DataW H → Nat
  | (.string bytes, d) => bytes.length + uptoBulk d + 1
  | (_, d) => uptoBulk d + 1
 end
def uptoSmall : (H : Type) → List (DataW H) → Bool := fun _ ds => decide (uptoBulkAll ds ≤ 1048576)
def OpenSpec.upto (s : _root_.Go.ChangeSpec) : _root_.Go.OpenSpec := { _root_.Go.OpenSpec.ofChange s with cond := some uptoSmall }

/-- 'narthexlaw23.DemuxHomes', WHERE WHAT IT READS IS OF BULK AT MOST 1048576: true; the input reads as it did. -/
def demuxHomesUptoRow : OpenClaim := { program := "ytpngjokjjpdboaa", sum := "00e9af307caa41e45327305c561684e45f22a8fb313015738b726c2381d55ece", func := "narthex/narthexlaw23.DemuxHomes", spec := "demuxHomes", unfollowed := true, recurses := true, apart := false, narrowed := true }
def DemuxHomesUptoSaid : Prop := demuxHomesUptoRow.holds Try.pinned (OpenSpec.upto demuxHomesSpec)

/-- 'narthexlaw23.DemuxDrops', WHERE WHAT IT READS IS OF BULK AT MOST 1048576: true; the input reads as it did. -/
def demuxDropsUptoRow : OpenClaim := { program := "ytpngjokjjpdboaa", sum := "00e9af307caa41e45327305c561684e45f22a8fb313015738b726c2381d55ece", func := "narthex/narthexlaw23.DemuxDrops", spec := "demuxDrops", unfollowed := true, recurses := true, apart := false, narrowed := true }
def DemuxDropsUptoSaid : Prop := demuxDropsUptoRow.holds Try.pinned (OpenSpec.upto demuxDropsSpec)

/-- 'narthexlaw23.DemuxNumbers', WHERE WHAT IT READS IS OF BULK AT MOST 1048576: true; the input reads as it did. -/
def demuxNumbersUptoRow : OpenClaim := { program := "ytpngjokjjpdboaa", sum := "00e9af307caa41e45327305c561684e45f22a8fb313015738b726c2381d55ece", func := "narthex/narthexlaw23.DemuxNumbers", spec := "demuxNumbers", unfollowed := true, recurses := true, apart := false, narrowed := true }
def DemuxNumbersUptoSaid : Prop := demuxNumbersUptoRow.holds Try.pinned (OpenSpec.upto demuxNumbersSpec)

/-- 'narthexlaw23.DemuxPlays', WHERE WHAT IT READS IS OF BULK AT MOST 1048576: true; the input reads as it did. -/
def demuxPlaysUptoRow : OpenClaim := { program := "ytpngjokjjpdboaa", sum := "00e9af307caa41e45327305c561684e45f22a8fb313015738b726c2381d55ece", func := "narthex/narthexlaw23.DemuxPlays", spec := "demuxPlays", unfollowed := true, recurses := true, apart := false, narrowed := true }
def DemuxPlaysUptoSaid : Prop := demuxPlaysUptoRow.holds Try.pinned (OpenSpec.upto demuxPlaysSpec)

end Rows
end Go.Proofs.Ytpngjokjjpdboaa
