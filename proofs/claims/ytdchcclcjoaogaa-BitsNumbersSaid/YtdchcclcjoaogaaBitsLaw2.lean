/- chapter 1's walks: BitsSigns, BitsTells, BitsBack -/
import Derived.Test.YtdchcclcjoaogaaBitsLaw
import Derived.Test.YtdchcclcjoaogaaBook
namespace Go.Proofs.Ytdchcclcjoaogaa
open Go.RowKit
set_option linter.unusedVariables false

theorem clampK_in {j : Int} (h : 1 ≤ j ∧ j ≤ 64) : clampK j = j := by unfold clampK; (repeat' split) <;> omega
theorem signs_law (n j : Int) (hn : -9223372036854775808 ≤ n ∧ n ≤ 9223372036854775807) (hj : 1 ≤ j ∧ j ≤ 64) :
    ∃ c t : Int, clampM n j = c ∧ -9223372036854775808 ≤ c ∧ c ≤ 9223372036854775807 ∧ 0 ≤ t ∧ (2 : Int) ^ (j.toNat - 1) = t + 1 ∧ (j < 64 → t + 1 ≤ 4611686018427387904) ∧ -(t + 1) ≤ c ∧ c < t + 1 ∧ (n ≥ -(t + 1) → n < t + 1 → c = n) ∧ (n ≥ t + 1 → c = t) ∧ (n < -(t + 1) → c = -(t + 1)) ∧
      clampM c j = c ∧ extM (lowM (IntKind.u64.wrap c) j) j = c := by
  obtain ⟨t, h0, h1, h2, h3, h4⟩ := clampM_law n j hn
  rw [clampK_in hj, show (j - 1).toNat = j.toNat - 1 by omega] at h2
  obtain ⟨c, hc⟩ : ∃ c, clampM n j = c := ⟨_, rfl⟩
  rw [hc] at h4
  have c0 : -(t + 1) ≤ c ∧ c < t + 1 ∧ (n ≥ -(t + 1) → n < t + 1 → c = n) ∧ (n ≥ t + 1 → c = t) ∧ (n < -(t + 1) → c = -(t + 1)) := by
    clear hc h2 h3; subst h4
    (repeat' split) <;> omega
  have c1 : -9223372036854775808 ≤ c ∧ c ≤ 9223372036854775807 := by omega
  refine ⟨c, t, hc, c1.1, c1.2, h0, h2, ?_, c0.1, c0.2.1, c0.2.2.1, c0.2.2.2.1, c0.2.2.2.2, ?_, ?_⟩
  · intro hj64
    rw [← h2]
    have hq : (2 : Int) ^ (j.toNat - 1) ≤ 2 ^ 62 := pow_le_of (by omega)
    rw [show (2 : Int) ^ 62 = 4611686018427387904 from by decide] at hq
    exact hq
  · unfold clampM
    rw [clampK_in hj, show (j - 1).toNat = j.toNat - 1 by omega, h2]
    rw [if_neg (by omega), if_neg (by omega)]
  · by_cases hj64 : j = 64
    · subst hj64
      have e : lowM (IntKind.u64.wrap c) 64 = IntKind.u64.wrap c := rfl
      rw [e]
      show IntKind.i64.wrap _ = c
      rw [i64w, wrap_u64]; unfold wrap64; omega
    · have hQH := pow_half j.toNat (by omega)
      rw [h2] at hQH
      have hd : (2 : Int) ^ j.toNat ∣ 18446744073709551616 := by
        refine ⟨2 ^ (64 - j.toNat), ?_⟩
        exact (pow_split j.toNat (64 - j.toNat) (by omega)).symm
      have e : lowM (IntKind.u64.wrap c) j = c % 2 ^ j.toNat := by
        unfold lowM; rw [if_neg (by omega), if_neg (by omega), wrap_u64, Int.emod_emod_of_dvd _ hd]
      rw [e]
      unfold extM
      rw [if_neg (by omega), if_neg (by omega), show (j - 1).toNat = j.toNat - 1 by omega, Int.emod_emod_of_dvd _ (Int.dvd_refl _), h2, hQH]
      by_cases hc0 : 0 ≤ c
      · rw [Int.emod_eq_of_lt hc0 (by omega), if_pos (by omega)]
      · have e2 : c % (2 * (t + 1)) = c + 2 * (t + 1) := by
          rw [← Int.add_emod_right, Int.emod_eq_of_lt (by omega) (by omega)]
        rw [e2, if_neg (by omega)]; omega

theorem low_in (n k : Int) (hn : 0 ≤ n ∧ n < 18446744073709551616) : 0 ≤ lowM n k ∧ lowM n k < 18446744073709551616 := by
  unfold lowM
  split
  · omega
  · split
    · exact hn
    · have h1 := pow_pos2 k.toNat
      have h2 := Int.emod_nonneg n (show (2 : Int) ^ k.toNat ≠ 0 by omega)
      have h3 := Int.emod_lt_of_pos n h1
      have hq : (2 : Int) ^ k.toNat ≤ 2 ^ 63 := pow_le_of (by omega)
      rw [show (2 : Int) ^ 63 = 9223372036854775808 from by decide] at hq
      omega
set_option maxHeartbeats 1000000 in
theorem signs1_any (w : World) (n k : Int) (hn : -9223372036854775808 ≤ n ∧ n ≤ 9223372036854775807) (hk : -9223372036854775808 ≤ k ∧ k ≤ 9223372036854775807) :
    Makes Try.prog 3 #[.int .i64 n, .int .i64 k] w (.bool true) := by
  have hj := within_in k 1 64 (by omega)
  obtain ⟨j, ej⟩ : ∃ j, within k 1 64 = j := ⟨_, rfl⟩
  rw [ej] at hj
  have EJ := Lib.hid ej; clear ej
  obtain ⟨c, t, hc, c0, c1, t0, ht, ht62, a1, a2, a3, a4, a5, hcc, hext⟩ := signs_law n j hn hj
  have HT : Hid (j < 64 → wrap64 (2 ^ (j.toNat - 1)) = t + 1) := Lib.hid (fun h => by rw [ht]; have := ht62 h; unfold wrap64; omega)
  have HC := Lib.hid hc; have HCC := Lib.hid hcc; have HE := Lib.hid hext
  have hwb := u64_bounds (wf_wrap .u64 c)
  have hlb : 0 ≤ lowM (IntKind.u64.wrap c) j ∧ lowM (IntKind.u64.wrap c) j < 18446744073709551616 := by
    have h := low_in (IntKind.u64.wrap c) j hwb
    exact h
  clear hc hcc hext ht
  go_enter Try.func3, Try.ntmps3
  go_wp2_with fail
  refine Calls.mono (within_any _ k 1 64 (by omega) (by omega) (by omega) hk) ?_
  rintro e w' ⟨rfl, rfl⟩
  rw [EJ.out]
  go_wp2_with fail
  refine Calls.mono (clamp_any _ n j hn) ?_
  rintro e w' ⟨rfl, rfl⟩
  rw [HC.out]
  go_wp2_with fail
  refine Calls.mono (low_any _ _ j hwb) ?_
  rintro e w' ⟨rfl, rfl⟩
  go_wp2_with fail
  refine Calls.mono (extend_any _ _ j hlb) ?_
  rintro e w' ⟨rfl, rfl⟩
  rw [HE.out]
  go_wp2_with fail
  refine Calls.mono (clamp_any _ c j ⟨c0, c1⟩) ?_
  rintro e w' ⟨rfl, rfl⟩
  rw [HCC.out]
  clear hlb hwb
  by_cases hj64 : j < 64
  · have HT2 := Lib.hid (HT.out hj64)
    go_upto_region 7 with fail
    rw [HT2.out]
    by_cases n1 : n ≥ t + 1
    · obtain rfl := a4 n1
      go_wp2_with fail
      refine Calls.mono (known1_any _) ?_
      rintro e w2 ⟨rfl, h2⟩
      have H2 := Lib.hid h2; clear h2
      go_wp2_with fail
      go_ret
      exact ⟨rfl, H2.out⟩
    · by_cases n2 : n < -(t + 1)
      · obtain rfl := a5 n2
        go_wp2_with fail
        refine Calls.mono (known1_any _) ?_
        rintro e w2 ⟨rfl, h2⟩
        have H2 := Lib.hid h2; clear h2
        go_wp2_with fail
        go_ret
        exact ⟨rfl, H2.out⟩
      · obtain rfl := a3 (by omega) (by omega)
        go_wp2_with fail
        refine Calls.mono (known1_any _) ?_
        rintro e w2 ⟨rfl, h2⟩
        have H2 := Lib.hid h2; clear h2
        go_wp2_with fail
        go_ret
        exact ⟨rfl, H2.out⟩
  · go_wp2_with fail
    refine Calls.mono (known1_any _) ?_
    rintro e w2 ⟨rfl, h2⟩
    have H2 := Lib.hid h2; clear h2
    go_wp2_with fail
    go_ret
    exact ⟨rfl, H2.out⟩

set_option maxHeartbeats 1000000 in
theorem tells1_any (w : World) (n k : Int) (a : Option Addr) (len cap : Nat) (bs : List Int) (hlen : len ≤ cap) (hcap : cap ≤ 9223372036854775807) (hn : 0 ≤ n ∧ n < 18446744073709551616) (hk : -9223372036854775808 ≤ k ∧ k ≤ 9223372036854775807) (hb : IntsK .u8 w a len bs) :
    Makes Try.prog 6 #[.int .u64 n, .int .i64 k, .slice a len cap] w (.bool true) := by
  have s1 := smallM_in n
  obtain ⟨m, hm, hm1, hm2⟩ : ∃ m, min len 12 = m ∧ m ≤ 12 ∧ m ≤ len := ⟨_, rfl, by omega, by omega⟩
  have HM := Lib.hid hm; clear hm
  have HB := Lib.hid (hb.pre m hm2); clear hb
  have HCUT := Lib.hid (fun w => cut_any w a len cap 12 hlen hcap)
  rw [HM.out] at HCUT
  go_enter Try.func6, Try.ntmps6
  go_wp2_with fail
  refine Calls.mono (HCUT.out _) ?_
  rintro e w' ⟨rfl, rfl⟩
  go_wp2_with fail
  refine Calls.mono (roomy_any w a m cap _ 165 (by omega) HB.out) ?_
  rintro e W ⟨rfl, hrow, hbW⟩
  have HW := Lib.hid hbW; clear hbW
  have hwR : ∀ x ∈ bs.take m ++ List.replicate 80 165, (Lit.int .u8 x).wf = true := by
    intro x hx
    rcases List.mem_append.1 hx with h | h
    · exact HB.out.2.1 x h
    · rw [List.eq_of_mem_replicate h]; rfl
  have hIR := IntsK.of_row hrow hwR
  have hlb : (bs.take m).length = m := HB.out.1
  rw [List.length_append, List.length_replicate, hlb] at hIR
  have HIR := Lib.hid hIR
  have hIn := hIR.pre m (by omega)
  rw [List.take_append_of_le_length (by rw [hlb]; exact Nat.le_refl _), List.take_of_length_le (by rw [hlb]; exact Nat.le_refl _)] at hIn
  have HIN := Lib.hid hIn
  have HBW := Lib.hid (HB.out.below HW.out)
  clear hwR hIR hlb hIn hrow
  obtain ⟨w0, hw0⟩ : ∃ w0, w.heap.size = w0 := ⟨_, rfl⟩
  rw [hw0] at HIN HIR ⊢
  clear hw0
  go_wp2_with fail
  refine Calls.mono (vars_any _ n hn) ?_
  rintro e W1 ⟨rfl, h1⟩
  have H1 := Lib.hid h1; clear h1
  go_wp2_with fail
  refine Calls.mono (small_any _ n hn) ?_
  rintro e W2 ⟨rfl, h2⟩
  have H2 := Lib.hid (bl_next H1.out H1.out.size h2); clear h2
  go_wp2_with fail
  refine Calls.mono (vars_any _ (smallM n) ⟨by omega, by omega⟩) ?_
  rintro e W3 ⟨rfl, h3⟩
  have H3 := Lib.hid (bl_next H2.out H2.out.size h3); clear h3
  go_wp2_with fail
  refine Calls.mono (turns_any _ n k hn) ?_
  rintro e W4 ⟨rfl, h4⟩
  have H4 := Lib.hid (bl_next H3.out H3.out.size h4); clear h4
  go_wp2_with fail
  refine Calls.mono (within_any _ k (-70) 70 (by omega) (by omega) (by omega) hk) ?_
  rintro e w' ⟨rfl, rfl⟩
  go_wp2_with fail
  refine Calls.mono (turns_any _ n (within k (-70) 70) hn) ?_
  rintro e W5 ⟨rfl, h5⟩
  have H5 := Lib.hid (bl_next H4.out H4.out.size h5); clear h5
  go_wp2_with fail
  refine Calls.mono (HCUT.out _) ?_
  rintro e w' ⟨rfl, rfl⟩
  go_wp2_with fail
  refine Calls.mono (gets_any _ _ m (m + 80) _ (by omega) (by omega) (HIN.out.below H5.out)) ?_
  rintro e w' ⟨rfl, rfl⟩
  go_wp2_with fail
  refine Calls.mono (HCUT.out _) ?_
  rintro e w' ⟨rfl, rfl⟩
  go_wp2_with fail
  refine Calls.mono ((intact_byte _ _ _ m (m + 80) cap _ 165 (by omega) (by omega) (by omega) (HIR.out.below H5.out) (HBW.out.below H5.out)).makes) ?_
  rintro e W6 ⟨rfl, h6⟩
  have H6 := Lib.hid (bl_next H5.out H5.out.size h6); clear h6
  go_wp2_with fail
  refine Calls.mono (known1_any _) ?_
  rintro e W7 ⟨rfl, h7⟩
  have H7 := Lib.hid (bl_next H6.out H6.out.size h7); clear h7
  go_wp2_with fail
  go_ret
  exact ⟨rfl, HW.out.trans (H7.out.mono HW.out.size)⟩
end Go.Proofs.Ytdchcclcjoaogaa
