/- chapter 8's walks: LockBack. -/
import Derived.Test.YtgjfhfjlegkhbaaLockA
namespace Go.Proofs.Ytgjfhfjlegkhbaa
open Go.RowKit
set_option linter.unusedVariables false

set_option maxHeartbeats 4000000 in
theorem back8_any (w : World) (key n : Int) (ha : Option Addr) (hl hc : Nat) (hs : List Int) (sa : Option Addr) (sl sc : Nat) (ss : List Int) (cut : Int) (hn : (Lit.int .u64 n).wf = true)
    (hlc : hl ≤ hc) (hcm : hc ≤ 9223372036854775807) (hH : IntsK .u8 w ha hl hs) (hsc : sl ≤ sc) (hsm : sc ≤ 9223372036854775807) (hS : IntsK .u8 w sa sl ss) (hcut : -9223372036854775808 ≤ cut ∧ cut ≤ 9223372036854775807) :
    Makes Try.prog 3 #[.int .u64 key, .int .u64 n, .slice ha hl hc, .slice sa sl sc, .int .i64 cut] w (.bool true) := by
  have HH := Lib.hid (hH.pre (min hl 30) (by omega)); have HS := Lib.hid (hS.pre (min sl 100) (by omega)); have HN := Lib.hid hn
  generalize hs.take (min hl 30) = hs' at HH
  generalize ss.take (min sl 100) = ss' at HS
  have HWI := Lib.hid (fun w => within_any w cut 0 7 (by omega) (by omega) (by omega) hcut)
  have hwb := within_in cut 0 7 (by omega)
  clear hH hS hn
  go_enter Try.func3, Try.ntmps3
  go_wp2_with fail
  refine Calls.mono (cut_any w ha hl hc 30 hlc hcm) ?_
  rintro e w1 ⟨rfl, rfl⟩
  go_wp2_with fail
  refine Calls.mono (cut_any w sa sl sc 100 hsc hsm) ?_
  rintro e w1 ⟨rfl, rfl⟩
  have hpb : min hl 30 ≤ 30 := by omega
  have hpc : min hl 30 ≤ hc := by omega
  have hqb : min sl 100 ≤ 100 := by omega
  have hqc : min sl 100 ≤ sc := by omega
  generalize min hl 30 = p at *
  generalize min sl 100 = q at *
  go_wp2_with fail
  refine Calls.mono (roomy_any w sa q sc ss' 165 (by omega) HS.out) ?_
  rintro e w2 ⟨rfl, hrow2, hb2⟩
  obtain ⟨g, hg⟩ : ∃ g, w.heap.size = g := ⟨_, rfl⟩
  rw [hg] at hrow2
  have hql := HS.out.1
  have hi2 := IntsK.of_row (k := .u8) hrow2 (by
    intro x hx
    rcases List.mem_append.1 hx with h | h
    · exact HS.out.2.1 x h
    · rw [(List.mem_replicate.1 h).2]; decide)
  rw [List.length_append, List.length_replicate, hql] at hi2
  have HF2 := Lib.hid hi2
  have hf2 := hi2.pre q (by omega)
  rw [List.take_append_of_le_length (by omega), List.take_of_length_le (by omega)] at hf2
  have HQ2 := Lib.hid hf2
  have HB2 := Lib.hid hb2
  clear hrow2 hi2 hf2 hb2
  rw [hg]
  go_wp2_with fail
  refine Calls.mono (seal_any w2 key n ha p hc hs' _ q (q + 80) ss' HN.out (by omega) (by omega) (HH.out.below HB2.out) HQ2.out) ?_
  rintro e w3 ⟨v3, rfl, hb3, ho3⟩
  obtain ⟨b3, cp3, rfl, hc3, hi3, _⟩ := ints_of_own ho3 (sealM_wf _ _ _ _ HS.out.2.1)
  have hcm3 := own_cap8 ho3 _ _ _ rfl
  have HB3 := Lib.hid (bl_next HB2.out HB2.out.size hb3)
  have HF3 := Lib.hid (HF2.out.below hb3)
  have HI3 := Lib.hid hi3
  clear hb3 ho3 hi3 HB2 HF2 HQ2
  go_wp2_with fail
  refine Calls.mono (open_any w3 key n ha p hc hs' b3 (q + 8) cp3 _ HN.out (by omega) (by omega) hc3 hcm3 (HH.out.below HB3.out) HI3.out) ?_
  rw [open_seal key n hs' _ HS.out.2.1]
  rintro e w4 ⟨v4, rfl, hb4, ho4⟩
  obtain ⟨b4, cp4, rfl, hc4, hi4, _⟩ := ints_of_own ho4 HS.out.2.1
  rw [hql] at hi4 hc4
  have HB4 := Lib.hid (bl_next HB3.out HB3.out.size hb4)
  have HF4 := Lib.hid (HF3.out.below hb4)
  have HI4 := Lib.hid (HI3.out.below hb4)
  have hconv1 : (convert 23 9 (.slice b4 q cp4)).run Try.prog w4 = .ok (.string (strOfNums ss')) w4 := conv_ints _ 5 _ _ Try.underlying23 Try.underlying5 Try.underlying9 hi4
  have hconv2 : (convert 23 9 (.slice sa q sc)).run Try.prog w4 = .ok (.string (strOfNums ss')) w4 := conv_ints _ 5 _ _ Try.underlying23 Try.underlying5 Try.underlying9 (HS.out.below HB4.out)
  clear hb4 ho4 hi4 HB3 HF3 HI3
  rw [show ss'.length = q from hql]
  go_wp2_with fail
  refine Calls.mono (intact_byte w4 _ sa q (q + 80) sc ss' 165 (by omega) (by omega) (by omega) HF4.out (HS.out.below HB4.out)) ?_
  rintro e w5 ⟨rfl, q5, rfl⟩
  go_wp2_with fail
  refine Calls.mono (HWI.out _) ?_
  rintro e w6 ⟨rfl, rfl⟩
  obtain ⟨k, hk⟩ : ∃ k : Nat, within cut 0 7 = k := ⟨(within cut 0 7).toNat, by omega⟩
  rw [hk] at hwb ⊢
  go_wp2_with fail
  refine Calls.mono (open_any _ key n ha p hc hs' b3 k cp3 _ HN.out (by omega) (by omega) (by omega) hcm3 (HH.out.below (bl_drewN HB4.out q5)) ((HI4.out.pre k (by omega)).drewN q5)) ?_
  rw [open_short _ _ _ _ (by rw [(HI4.out.pre k (by omega)).1]; omega)]
  rintro e w6 ⟨v6, rfl, hb6, ho6⟩
  have HB6 := Lib.hid (bl_next (bl_drewN HB4.out q5) (by simpa using HB4.out.size) hb6)
  clear hb6 ho6 HB4 HF4 HI4 hconv1 hconv2
  go_wp2_with fail
  refine Calls.mono (known8_any _) ?_
  rintro e w7 ⟨rfl, hb7⟩
  have HB7 := Lib.hid (bl_next HB6.out HB6.out.size hb7)
  go_wp2_with fail
  go_ret
  exact ⟨rfl, HB7.out⟩
end Go.Proofs.Ytgjfhfjlegkhbaa
