/- the walks of RttStands, RttNumbers, RttTells -/
import Derived.Test.YtiekmmcjlhbeoaaRttC
namespace Go.Proofs.Ytiekmmcjlhbeoaa
open Go.RowKit
set_option linter.unusedVariables false

theorem mul_pow_mono (x : Int) (a b : Nat) (hx : 0 ≤ x) (hab : a ≤ b) (hb : b ≤ 6) : x * 2 ^ a ≤ x * 2 ^ b := by
  have ha : a = 0 ∨ a = 1 ∨ a = 2 ∨ a = 3 ∨ a = 4 ∨ a = 5 ∨ a = 6 := by omega
  have hb : b = 0 ∨ b = 1 ∨ b = 2 ∨ b = 3 ∨ b = 4 ∨ b = 5 ∨ b = 6 := by omega
  rcases ha with rfl | rfl | rfl | rfl | rfl | rfl | rfl <;> rcases hb with rfl | rfl | rfl | rfl | rfl | rfl | rfl <;> omega
theorem perM_mono (s v k r : Int) (hs : 0 ≤ s ∧ s ≤ 4096) (hv : 0 ≤ v ∧ v ≤ 4096) (hr : k.tmod 1000 = r) : perM s v k ≤ perM s v (r + 1000) := by
  have h0 := perM0_in s v hs hv
  have hle : ck k ≤ ck (r + 1000) := by
    rcases Int.lt_or_le k 1 with h | h
    · have := ck_le (r + 1000)
      have : ck k = 0 := by unfold ck; (repeat' split) <;> omega
      omega
    · have := ck_le k
      rw [Int.tmod_eq_emod_of_nonneg (by omega)] at hr
      have := Int.emod_nonneg k (show (1000 : Int) ≠ 0 by omega)
      have : ck (r + 1000) = 6 := by unfold ck; (repeat' split) <;> omega
      omega
  have c1 := ck_le k
  have c2 := ck_le (r + 1000)
  have e (k : Int) : perM s v k = perM s v 0 * 2 ^ (ck k).toNat := by
    have hc := ck_le k
    rw [← perM_pow s v (ck k).toNat (by omega)]; unfold perM
    rw [show ck ((ck k).toNat : Int) = ck k from by rw [Int.toNat_of_nonneg hc.1]; unfold ck; (repeat' split) <;> omega]
  rw [e k, e (r + 1000)]
  exact mul_pow_mono _ _ _ (by omega) (by omega) (by omega)

def vmax : Nat → Int
  | 0 => 2048
  | n + 1 => 3 * vmax n / 4

def Lohi (h : Bool) (s l lo hi : Int) : Prop := (0 ≤ lo ∧ lo ≤ 4096 ∧ 0 ≤ hi ∧ hi ≤ 4096) ∧ (if h then l = lo ∧ lo ≤ s ∧ s ≤ hi else lo = 4096 ∧ hi = 0)
theorem Lohi.step {h : Bool} {s l lo hi x : Int} (H : Lohi h s l lo hi) (hx : 0 ≤ x ∧ x ≤ 4096) :
    Lohi true (sS h s x) (sL h l x) (if x < lo then x else lo) (if hi < x then x else hi) := by
  obtain ⟨h1, h2⟩ := H
  cases h
  · simp only [Bool.false_eq_true, if_false] at h2
    obtain ⟨rfl, rfl⟩ := h2
    refine ⟨?_, ?_⟩
    · (repeat' split) <;> omega
    · simp only [sS, sL, if_true, Bool.false_eq_true, if_false]; (repeat' split) <;> omega
  · simp only [if_true] at h2
    refine ⟨?_, ?_⟩
    · (repeat' split) <;> omega
    · obtain ⟨rfl, h3, h4⟩ := h2
      simp only [sS, sL, if_true]
      refine ⟨trivial, ?_, ?_⟩ <;> (repeat' split) <;> omega

/-- how the second part's estimator stands behind t samples of S. -/
def Level (t : Nat) (S s v : Int) (h : Bool) : Prop := (t = 0 ∧ h = false) ∨ (1 ≤ t ∧ h = true ∧ s = S ∧ v ≤ vmax (t - 1))
theorem Level.step {t : Nat} {S s v : Int} {h : Bool} (H : Level t S s v h) (hS : 0 ≤ S ∧ S ≤ 4096) (hv : 0 ≤ v) : Level (t + 1) S (sS h s S) (sV h s v S) true ∧ sS h s S = S := by
  rcases H with ⟨rfl, rfl⟩ | ⟨h1, rfl, rfl, h2⟩
  · refine ⟨.inr ⟨by omega, rfl, rfl, ?_⟩, rfl⟩
    simp [sV, vmax]; omega
  · obtain ⟨u, rfl⟩ : ∃ u, t = u + 1 := ⟨t - 1, by omega⟩
    have e : (7 * s + s) / 8 = s := by omega
    refine ⟨.inr ⟨by omega, rfl, by simp [sS, e], ?_⟩, by simp [sS, e]⟩
    simp at h2
    simp [sV, vmax]
    omega

theorem ct_eq (x : Int) (h : 0 ≤ x ∧ x ≤ 4096) : ct x = x := by unfold ct; (repeat' split) <;> omega

set_option maxRecDepth 100000 in
set_option maxHeartbeats 2000000 in
theorem stands_walk (w : World) (a : Option Addr) (len cap : Nat) (zs : List Int) (t k : Int) (hlen : len ≤ 9223372036854775807)
    (ht : -9223372036854775808 ≤ t ∧ t ≤ 9223372036854775807) (hk : -9223372036854775808 ≤ k ∧ k ≤ 9223372036854775807) (hz : Ints w a len zs)
    (hzw : ∀ j, -9223372036854775808 ≤ zs.getD j 0 ∧ zs.getD j 0 ≤ 9223372036854775807) :
    Calls Try.prog 6 #[.slice a len cap, .int .i64 t, .int .i64 k] w fun e w' => e = .returned (.bool true) ∧ Below w.heap.size w w' := by
  have HZW := Lib.hid hzw; clear hzw
  obtain ⟨r, hr⟩ : ∃ r, k.tmod 1000 = r := ⟨_, rfl⟩
  have hr1 : -1000 < r ∧ r < 1000 := by
    have h1 := Int.tmod_lt_of_pos k (show (0 : Int) < 1000 by omega)
    have h2 := Int.lt_tmod_of_pos k (show (0 : Int) < 1000 by omega)
    omega
  have HR := Lib.hid hr
  go_enter Try.func6, Try.ntmps6
  go_wp2_with fail
  refine Calls.mono (new_any _) ?_
  rintro e w1 ⟨rfl, hF⟩
  have HB := Lib.hid hF.row; have HL := Lib.hid hF.below; have HZ := Lib.hid hz
  clear hF hz
  go_wp2_with fail
  go_loopw [8, 9, 10] (fun lo' hi' i wr => ∃ (j : Nat) (lo hi s v l : Int) (h : Bool), i = .int .i64 j ∧ lo' = .int .i64 lo ∧ hi' = .int .i64 hi ∧ j ≤ len ∧ j ≤ 40 ∧ (0 ≤ s ∧ s ≤ 4096) ∧ (0 ≤ v ∧ v ≤ 4096) ∧ Hid (Below w.heap.size w wr) ∧
      Hid (wr.heap[w.heap.size]? = some (.cells #[.int .i64 s, .int .i64 v, .int .i64 l, .bool h] 35 (0, 0))) ∧ Lohi h s l lo hi) (fun _ _ i _ => len - (intOf i).toNat)
  case atStart => exact ⟨0, 4096, 0, 10, 5, 0, false, rfl, rfl, rfl, by omega, by omega, by omega, by omega, HL, HB, by unfold Lohi; simp⟩
  case round =>
    obtain ⟨j, lo, hi, s, v, l, h, rfl, rfl, rfl, hj, hj6, hs, hv, HL, HB, hlh⟩ := hrel
    by_cases hlt : j < len ∧ j < 40
    · obtain ⟨hlt, hlt6⟩ := hlt
      rcases HZ.out with h0 | ⟨b, off, rfl, hbl, hcell⟩
      · omega
      obtain ⟨x0, hx0, hc0⟩ := ints_cell HL.out hbl hcell j hlt
      have hx0w := HZW.out j
      rw [← hx0] at hx0w
      clear hcell hx0
      have hx := within_in x0 0 4096 (by omega)
      obtain ⟨x, ex⟩ : ∃ x, within x0 0 4096 = x := ⟨_, rfl⟩
      rw [ex] at hx
      have EX := Lib.hid ex; clear ex
      obtain ⟨lo1, elo⟩ : ∃ y, (if x < lo then x else lo) = y := ⟨_, rfl⟩
      obtain ⟨hi1, ehi⟩ : ∃ y, (if hi < x then x else hi) = y := ⟨_, rfl⟩
      have hlh1 := hlh.step hx
      rw [elo, ehi] at hlh1
      have HLH := Lib.hid hlh1; clear hlh1 hlh
      go_wp2_with fail
      refine Calls.mono (within_any _ x0 0 4096 (by omega) (by omega) (by omega) hx0w) ?_
      rintro e w' ⟨rfl, rfl⟩
      rw [EX.out]
      go_wp2_with fail
      refine Calls.mono (sample_any _ _ s v l x h hs hv HB.out) ?_
      rintro e w3 ⟨rfl, hA⟩
      rw [ct_eq x hx] at hA
      have hs1 := sS_in h s x hs hx
      have hv1 := sV_in h s v x hs hv hx
      obtain ⟨s1, es⟩ : ∃ y, sS h s x = y := ⟨_, rfl⟩
      obtain ⟨v1, ev⟩ : ∃ y, sV h s v x = y := ⟨_, rfl⟩
      obtain ⟨l1, el⟩ : ∃ y, sL h l x = y := ⟨_, rfl⟩
      rw [es, ev, el] at hA
      have hlh1 := HLH.out
      rw [es, el] at hlh1
      rw [es] at hs1; rw [ev] at hv1
      have HL4 := Lib.hid (HL.out.grown hA.rest HL.out.size (by simp))
      have HB4 := Lib.hid hA.row
      clear hA HL HB hc0 es ev el HLH
      have HLH := Lib.hid hlh1
      simp only [Lohi, if_true] at hlh1
      obtain ⟨h5, rfl, h6, h7⟩ := hlh1
      have hm := perM_mono s1 v1 k r hs1 hv1 hr
      have hml := perM_in s1 v1 k hs1 hv1
      go_wp2_with fail
      refine Calls.mono (least_row _ _ _ _ l1 true HB4.out) ?_
      rintro e w' ⟨rfl, n1, rfl⟩
      go_wp2_with fail
      refine Calls.mono (smoothed_row _ _ _ _ _ _ HB4.out _ rfl) ?_
      rintro e w' ⟨rfl, n2, rfl⟩
      go_wp2_with fail
      refine Calls.mono (smoothed_row _ _ _ _ _ _ HB4.out _ rfl) ?_
      rintro e w' ⟨rfl, n3, rfl⟩
      go_wp2_with fail
      refine Calls.mono (var_row _ _ _ _ _ _ HB4.out _ rfl) ?_
      rintro e w' ⟨rfl, n4, rfl⟩
      go_wp2_with fail
      refine Calls.mono (var_row _ _ _ _ _ _ HB4.out _ rfl) ?_
      rintro e w' ⟨rfl, n5, rfl⟩
      go_wp2_with fail
      refine Calls.mono (period_row _ _ s1 v1 k _ _ hs1 hv1 HB4.out) ?_
      rintro e w' ⟨rfl, n6, rfl⟩
      go_wp2_with fail
      refine Calls.mono (period_row _ _ s1 v1 (r + 1000) _ _ hs1 hv1 HB4.out) ?_
      rintro e w' ⟨rfl, n7, rfl⟩
      go_wp2_with fail
      go_roundw
      case rel => exact ⟨j + 1, l1, hi1, s1, v1, l1, true, by go_num, rfl, rfl, by omega, by omega, hs1, hv1, Lib.hid (bl_drewN HL4.out _), HB4, HLH.out⟩
      case measure => simp [intOf]; omega
    · have hS := within_in t 0 4096 (by omega)
      obtain ⟨S, eS⟩ : ∃ x, within t 0 4096 = x := ⟨_, rfl⟩
      rw [eS] at hS
      have ES := Lib.hid eS; clear eS hr
      by_cases h1 : j < len
      case' pos => have h6 : ¬ j < 40 := by omega
      all_goals
        clear hlt
        go_wp2_with fail
        refine Calls.mono (new_any _) ?_
        rintro e w2 ⟨rfl, hF⟩
        have hsz : w.heap.size ≤ wr.heap.size := HL.out.size
        have HB := Lib.hid hF.row; have HL2 := Lib.hid (HL.out.trans (hF.below.mono hsz))
        clear hF HL
        go_wp2_with fail
        refine Calls.mono (within_any _ t 0 4096 (by omega) (by omega) (by omega) ht) ?_
        rintro e w' ⟨rfl, rfl⟩
        rw [ES.out]
        go_wp2_with fail
        go_loopw [16] (fun i wq => ∃ (m : Nat) (s v l : Int) (h : Bool), i = .int .i64 m ∧ m ≤ 30 ∧ (0 ≤ s ∧ s ≤ 4096) ∧ (0 ≤ v ∧ v ≤ 4096) ∧ Hid (Below w.heap.size w wq) ∧
            Hid (wq.heap[wr.heap.size]? = some (.cells #[.int .i64 s, .int .i64 v, .int .i64 l, .bool h] 35 (0, 0))) ∧ Level m S s v h) (fun i _ => 30 - (intOf i).toNat)
        case atStart => exact ⟨0, 10, 5, 0, false, rfl, by omega, by omega, by omega, HL2, HB, .inl ⟨rfl, rfl⟩⟩
        case round =>
          obtain ⟨m, s, v, l, h, rfl, hm, hs, hv, HL, HB, hlev⟩ := hrel
          by_cases hlt : m < 30
          · have hl := hlev.step hS hv.1
            have HLEV := Lib.hid hl; clear hl hlev
            go_wp2_with fail
            refine Calls.mono (sample_any _ _ s v l S h hs hv HB.out) ?_
            rintro e w3 ⟨rfl, hA⟩
            rw [ct_eq S hS] at hA
            have hs1 := sS_in h s S hs hS
            have hv1 := sV_in h s v S hs hv hS
            rw [HLEV.out.2] at hA hs1
            have HL4 := Lib.hid (HL.out.grown hA.rest HL.out.size (by simpa using hsz))
            have HB4 := Lib.hid hA.row
            have hlv := HLEV.out
            rw [hlv.2] at hlv
            obtain ⟨v1, ev⟩ : ∃ y, sV h s v S = y := ⟨_, rfl⟩
            rw [ev] at HB4 hv1 hlv
            have HLV := Lib.hid hlv.1
            clear hA HL HB ev hlv HLEV
            go_wp2_with fail
            refine Calls.mono (smoothed_row _ _ _ _ _ _ HB4.out _ rfl) ?_
            rintro e w' ⟨rfl, n2, rfl⟩
            go_wp2_with fail
            go_roundw
            case rel => exact ⟨m + 1, S, v1, _, true, by go_num, by omega, hS, hv1, Lib.hid (bl_drewN HL4.out _), HB4, HLV.out⟩
            case measure => simp [intOf]; omega
          · have hv3 : v ≤ 3 := by
              rcases hlev with ⟨h1, _⟩ | ⟨_, _, _, h3⟩
              · omega
              · obtain rfl : m = 30 := by omega
                exact Int.le_trans h3 (by decide)
            clear hlev
            go_wp2_with fail
            refine Calls.mono (var_row _ _ _ _ _ _ HB.out _ rfl) ?_
            rintro e w' ⟨rfl, n5, rfl⟩
            go_wp2_with fail
            refine Calls.mono (known_any _) ?_
            rintro e w' ⟨rfl, hbel⟩
            have HK := Lib.hid hbel; clear hbel
            go_wp2_with fail
            go_ret
            exact ⟨rfl, (bl_drewN HL.out _).trans (HK.out.mono HL.out.size)⟩

def nums : List Int := [-5, 0, 7, 1, 100, 4095, 4096, 4097, 1099511627776, -9223372036854775808, 9223372036854775807, 3]
theorem nums_at (i : Nat) (h : i < 12) : (#[Value.int IntKind.i64 (-5), Value.int IntKind.i64 0, Value.int IntKind.i64 7, Value.int IntKind.i64 1,
          Value.int IntKind.i64 100, Value.int IntKind.i64 4095, Value.int IntKind.i64 4096, Value.int IntKind.i64 4097,
          Value.int IntKind.i64 1099511627776, Value.int IntKind.i64 (-9223372036854775808),
          Value.int IntKind.i64 9223372036854775807, Value.int IntKind.i64 3] : Array Value)[0 + i]? = some (.int .i64 (nums.getD i 0)) := by
  have : i = 0 ∨ i = 1 ∨ i = 2 ∨ i = 3 ∨ i = 4 ∨ i = 5 ∨ i = 6 ∨ i = 7 ∨ i = 8 ∨ i = 9 ∨ i = 10 ∨ i = 11 := by omega
  rcases this with rfl | rfl | rfl | rfl | rfl | rfl | rfl | rfl | rfl | rfl | rfl | rfl <;> rfl

set_option maxHeartbeats 1000000 in
theorem numbers_walk (w : World) : Calls Try.prog 4 #[] w fun e w' => e = .returned (.bool true) ∧ Below w.heap.size w w' := by
  go_enter Try.func4, Try.ntmps4
  go_wp2_with fail
  go_loopw [1] (fun i wr => ∃ k : Int, i = .int .i64 k ∧ -2 ≤ k ∧ k ≤ 9 ∧ Hid (Below w.heap.size w wr)) (fun i _ => (9 - intOf i).toNat)
  case atStart => exact ⟨-2, rfl, by omega, by omega, Lib.hid (Below.refl _ _)⟩
  case round =>
    obtain ⟨k, rfl, h1, h2, HL⟩ := hrel
    by_cases hlt : k < 9
    · go_wp2_with fail
      refine Calls.mono (play_any _ _ 12 12 nums k (by omega) (.inr ⟨wr.heap.size, 0, rfl, by simp, fun i hi => ?_⟩)) ?_
      · rw [World.cell?_alloc_at _ _ _ _ rfl]
        exact nums_at i hi
      rintro e w' ⟨rfl, hbel⟩
      have hsz := HL.out.size
      have HK := Lib.hid ((HL.out.alloc hsz _).trans (hbel.mono (by simp; omega))); clear hbel hsz
      go_wp2_with fail
      go_roundw
      case rel => exact ⟨k + 1, rfl, by omega, by omega, HK⟩
      case measure => simp [intOf]; omega
    · go_wp2_with fail
      refine Calls.mono (known_any _) ?_
      rintro e w' ⟨rfl, hbel⟩
      have HK := Lib.hid hbel; clear hbel
      go_wp2_with fail
      go_ret
      exact ⟨rfl, HL.out.trans (HK.out.mono HL.out.size)⟩
end Go.Proofs.Ytiekmmcjlhbeoaa
