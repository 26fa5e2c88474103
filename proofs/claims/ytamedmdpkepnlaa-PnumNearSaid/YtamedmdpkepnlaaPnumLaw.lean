/- chapter 3's walks -/
import Derived.Test.YtamedmdpkepnlaaPnum3
import Derived.Deep.DeepCutAuto
import Derived.Deep.CutBlock
namespace Go.Proofs.Ytamedmdpkepnlaa
open Go.RowKit
set_option linter.unusedVariables false

theorem u64_bounds {n : Int} (h : (Lit.int .u64 n).wf = true) : 0 ≤ n ∧ n < 18446744073709551616 := by
  simp [Lit.wf, IntKind.min, IntKind.max, IntKind.signed, IntKind.bits] at h; omega
theorem u32_bounds {n : Int} (h : (Lit.int .u32 n).wf = true) : 0 ≤ n ∧ n < 4294967296 := by
  simp [Lit.wf, IntKind.min, IntKind.max, IntKind.signed, IntKind.bits] at h; omega
theorem i64_bounds3 {n : Int} (h : (Lit.int .i64 n).wf = true) : -9223372036854775808 ≤ n ∧ n ≤ 9223372036854775807 := by
  simp [Lit.wf, IntKind.min, IntKind.max, IntKind.signed, IntKind.bits] at h; omega

set_option maxHeartbeats 1000000 in
theorem same3_any (w : World) (n acked low k : Int) (has : Bool) (hn : 0 ≤ n ∧ n < 18446744073709551616) (ha : 0 ≤ acked ∧ acked < 18446744073709551616) (hlow : 0 ≤ low ∧ low < 4294967296) :
    Makes Try.prog 7 #[.int .u64 n, .int .u64 acked, .bool has, .int .u32 low, .int .i64 k] w (.bool true) := by
  go_enter Try.func7, Try.ntmps7
  go_wp2_with fail
  refine Calls.mono (pwidth_any _ n acked has hn ha) ?_
  rintro e w1 ⟨rfl, rfl⟩
  go_wp2_with fail
  refine Calls.mono (rwidth_any _ n acked has hn ha) ?_
  rintro e w1 ⟨rfl, rfl⟩
  go_wp2_with fail
  refine Calls.mono (pcut_any _ n k hn) ?_
  rintro e w1 ⟨rfl, rfl⟩
  go_wp2_with fail
  refine Calls.mono (rcut_any _ n k hn) ?_
  rintro e w1 ⟨rfl, rfl⟩
  go_wp2_with fail
  refine Calls.mono (pwhole_any _ n low k has hn hlow) ?_
  rintro e w1 ⟨rfl, h1⟩
  have H1 := Lib.hid h1; clear h1
  go_wp2_with fail
  refine Calls.mono (rwhole_any _ n low k has hn hlow) ?_
  rintro e w2 ⟨rfl, h2⟩
  have H2 := Lib.hid (bl_next H1.out H1.out.size h2); clear h2
  go_wp2_with fail
  go_ret
  exact ⟨rfl, H2.out⟩

theorem known3_any (w : World) : Makes Try.prog 8 #[] w (.bool true) := by
  go_enter Try.func8, Try.ntmps8
  go_wp2_with fail
  refine Calls.mono (pwhole_any _ 2821665002 39730 2 true (by omega) (by omega)) ?_
  rintro e w1 ⟨rfl, h1⟩
  have H1 := Lib.hid h1; clear h1
  rw [show wholeM (nxM 2821665002 true) 39730 (powW (wM 2)) = 2821692210 from by decide]
  go_wp2_with fail
  refine Calls.mono (pwidth_any _ 0 0 false (by omega) (by omega)) ?_
  rintro e w1 ⟨rfl, rfl⟩
  rw [show widthM (dM 0 0 false) = 1 from by decide]
  go_wp2_with fail
  refine Calls.mono (pwhole_any _ 0 5 1 false (by omega) (by omega)) ?_
  rintro e w2 ⟨rfl, h2⟩
  have H2 := Lib.hid (bl_next H1.out H1.out.size h2); clear h2
  rw [show wholeM (nxM 0 false) 5 (powW (wM 1)) = 5 from by decide]
  go_wp2_with fail
  go_ret
  exact ⟨rfl, H2.out⟩

set_option maxHeartbeats 1000000 in
theorem tells3_any (w : World) (n acked low k : Int) (has : Bool) (hn : 0 ≤ n ∧ n < 18446744073709551616) (ha : 0 ≤ acked ∧ acked < 18446744073709551616) (hlow : 0 ≤ low ∧ low < 4294967296) (hk : -9223372036854775808 ≤ k ∧ k ≤ 9223372036854775807) :
    Makes Try.prog 4 #[.int .u64 n, .int .u64 acked, .bool has, .int .u32 low, .int .i64 k] w (.bool true) := by
  have s1 := smallM_in n
  have s2 := smallM_in acked
  go_enter Try.func4, Try.ntmps4
  go_wp2_with fail
  refine Calls.mono (same3_any _ n acked low k has hn ha hlow) ?_
  rintro e w1 ⟨rfl, h1⟩
  have H1 := Lib.hid h1; clear h1
  go_wp2_with fail
  refine Calls.mono (small_any _ n hn) ?_
  rintro e w2 ⟨rfl, h2⟩
  have H2 := Lib.hid (bl_next H1.out H1.out.size h2); clear h2
  go_wp2_with fail
  refine Calls.mono (small_any _ acked ha) ?_
  rintro e w3 ⟨rfl, h3⟩
  have H3 := Lib.hid (bl_next H2.out H2.out.size h3); clear h3
  go_wp2_with fail
  refine Calls.mono (within_any _ k 1 4 (by omega) (by omega) (by omega) hk) ?_
  rintro e w3' ⟨rfl, rfl⟩
  go_wp2_with fail
  refine Calls.mono (same3_any _ (smallM n) (smallM acked) low (within k 1 4) has (by omega) (by omega) hlow) ?_
  rintro e w4 ⟨rfl, h4⟩
  have H4 := Lib.hid (bl_next H3.out H3.out.size h4); clear h4
  go_wp2_with fail
  refine Calls.mono (known3_any _) ?_
  rintro e w5 ⟨rfl, h5⟩
  have H5 := Lib.hid (bl_next H4.out H4.out.size h5); clear h5
  go_wp2_with fail
  go_ret
  exact ⟨rfl, H5.out⟩

theorem cutM_in (k m : Int) : 0 ≤ cutM k m ∧ cutM k m < 4294967296 := by
  unfold cutM powW; (repeat' split) <;> omega
theorem wM_width {d : Int} : wM (widthM d) = widthM d := by unfold widthM wM; (repeat' split) <;> omega
theorem back0 {k : Int} (h0 : 0 ≤ k) (h1 : k < 2147483647) : wholeM (nxM 0 false) (cutM k (wM (widthM (dM k 0 false)))) (powW (wM (widthM (dM k 0 false)))) = k := by
  have e : dM k 0 false = k + 1 := by simp [dM]; omega
  rw [wM_width, e, show nxM 0 false = 0 from rfl]
  unfold widthM
  (repeat' split) <;> simp only [powW, wholeM, cutM] <;> simp only [reduceIte, Int.reduceEq, Int.reduceDiv] <;> (repeat' split) <;> omega
theorem back1 {k x h : Int} (h0 : 0 ≤ k) (h1 : k ≤ 4611686018427387903) (x0 : 0 < x) (xk : x ≤ k) (x1 : x < 2147483648) (hh : k - x ≤ h) (hk : h < k) :
    wholeM (nxM h true) (cutM k (wM (widthM (dM k (k - x) true)))) (powW (wM (widthM (dM k (k - x) true)))) = k := by
  have e : dM k (k - x) true = x := by simp [dM]; omega
  have e2 : nxM h true = h + 1 := by simp [nxM]; omega
  rw [wM_width, e, e2]
  unfold widthM
  (repeat' split) <;> simp only [powW, wholeM, cutM] <;> simp only [reduceIte, Int.reduceEq, Int.reduceDiv] <;> (repeat' split) <;> omega
theorem widthM_in (d : Int) : 1 ≤ widthM d ∧ widthM d ≤ 4 := by unfold widthM; (repeat' split) <;> omega

set_option maxHeartbeats 1000000 in
theorem back3_any (w : World) (n d more : Int) (hn : 0 ≤ n ∧ n < 18446744073709551616) (hd : 0 ≤ d ∧ d < 18446744073709551616) (hmore : 0 ≤ more ∧ more < 18446744073709551616) :
    Makes Try.prog 5 #[.int .u64 n, .int .u64 d, .int .u64 more] w (.bool true) := by
  have hk := smallM_in n
  have HS := Lib.hid (fun w => small_any w n hn)
  obtain ⟨k, ek⟩ : ∃ k, smallM n = k := ⟨_, rfl⟩
  rw [ek] at hk HS
  clear ek
  obtain ⟨x, ex⟩ : ∃ x, (if d % 2147483648 ≤ k then d % 2147483648 else k) = x := ⟨_, rfl⟩
  have hx : 0 ≤ x ∧ x ≤ k ∧ x < 2147483648 := by
    split at ex <;> omega
  have hw := widthM_in (dM (k) (k - x) true)
  go_enter Try.func5, Try.ntmps5
  go_wp2_with fail
  refine Calls.mono (HS.out _) ?_
  rintro e w1 ⟨rfl, h1⟩
  have H1 := Lib.hid h1; clear h1
  go_upto_if 17 with fail
  go_cut [1] (fun s1 wr => s1 = .int .u64 x ∧ wr = w1)
  case first =>
    by_cases hc : d % 2147483648 ≤ k
    · rw [if_pos hc] at ex
      have EX := Lib.hid ex; clear ex
      go_wp2_with fail
      go_meet
      case rel => exact ⟨by rw [EX.out], rfl⟩
    · rw [if_neg hc] at ex
      have EX := Lib.hid ex; clear ex
      go_wp2_with fail
      go_meet
      case rel => exact ⟨by rw [EX.out], rfl⟩
  case rest =>
    obtain ⟨rfl, rfl⟩ := hcut
    clear ex
    go_wp2_with fail
    refine Calls.mono (pwidth_any _ k (k - x) true ⟨by omega, by omega⟩ ⟨by omega, by omega⟩) ?_
    rintro e w2 ⟨rfl, rfl⟩
    obtain ⟨v, ev⟩ : ∃ v, widthM (dM k (k - x) true) = v := ⟨_, rfl⟩
    rw [ev] at hw ⊢
    have EV := Lib.hid ev; clear ev
    by_cases hx0 : x = 0
    · subst hx0
      clear hw
      go_wp2_with fail
      refine Calls.mono (pwidth_any _ k 0 false ⟨by omega, by omega⟩ ⟨by omega, by omega⟩) ?_
      rintro e w3 ⟨rfl, rfl⟩
      have hw := widthM_in (dM k 0 false)
      by_cases hb : k < 2147483647
      · have hl := back0 hk.1 hb
        obtain ⟨v', ev'⟩ : ∃ v, widthM (dM k 0 false) = v := ⟨_, rfl⟩
        rw [ev'] at hw hl ⊢
        have HL := Lib.hid hl; clear hl ev'
        have hcut : 0 ≤ cutM k (wM v') ∧ cutM k (wM v') < 4294967296 := cutM_in _ _
        go_wp2_with fail
        refine Calls.mono (pcut_any _ k v' ⟨by omega, by omega⟩) ?_
        rintro e w4 ⟨rfl, rfl⟩
        go_wp2_with fail
        refine Calls.mono (pwhole_any _ 0 _ v' false ⟨by omega, by omega⟩ hcut) ?_
        rintro e w5 ⟨rfl, h5⟩
        rw [HL.out]
        have H5 := Lib.hid (bl_next H1.out H1.out.size h5); clear h5
        go_wp2_with fail
        refine Calls.mono (known3_any _) ?_
        rintro e w6 ⟨rfl, h6⟩
        have H6 := Lib.hid (bl_next H5.out H5.out.size h6); clear h6
        go_wp2_with fail
        go_ret
        exact ⟨rfl, H6.out⟩
      · go_wp2_with fail
        refine Calls.mono (known3_any _) ?_
        rintro e w6 ⟨rfl, h6⟩
        have H6 := Lib.hid (bl_next H1.out H1.out.size h6); clear h6
        go_wp2_with fail
        go_ret
        exact ⟨rfl, H6.out⟩
    · obtain ⟨r, er⟩ : ∃ r, more % x = r := ⟨_, rfl⟩
      have hr1 := Int.emod_nonneg more hx0
      have hr2 := Int.emod_lt_of_pos more (show 0 < x by omega)
      rw [er] at hr1 hr2
      have ER := Lib.hid er
      have hl := back1 (h := k - x + r) hk.1 hk.2 (show 0 < x by omega) hx.2.1 hx.2.2 (by omega) (by omega)
      rw [EV.out] at hl
      have HL := Lib.hid hl; clear hl er
      have hcut : 0 ≤ cutM k (wM v) ∧ cutM k (wM v) < 4294967296 := cutM_in _ _
      clear EV
      go_upto_region 13 with fail
      rw [ER.out]
      go_wp2_with fail
      refine Calls.mono (pcut_any _ k v ⟨by omega, by omega⟩) ?_
      rintro e w4 ⟨rfl, rfl⟩
      go_wp2_with fail
      refine Calls.mono (pwhole_any _ _ _ v true ⟨by omega, by omega⟩ hcut) ?_
      rintro e w5 ⟨rfl, h5⟩
      rw [HL.out]
      have H5 := Lib.hid (bl_next H1.out H1.out.size h5); clear h5
      go_wp2_with fail
      refine Calls.mono (known3_any _) ?_
      rintro e w6 ⟨rfl, h6⟩
      have H6 := Lib.hid (bl_next H5.out H5.out.size h6); clear h6
      go_wp2_with fail
      go_ret
      exact ⟨rfl, H6.out⟩

theorem near_law {l low m : Int} (hl : 0 ≤ l ∧ l ≤ 4611686018427387903) (hlow : 0 ≤ low) (hm : m = 1 ∨ m = 2 ∨ m = 3 ∨ m = 4) :
    ∃ n, wholeM (nxM l true) low (powW m) = n ∧ 0 ≤ n ∧ n ≤ 4611686018427387904 + powW m ∧ cutM n m = cutM low m ∧
      (l + 1 ≤ n → n - (l + 1) ≤ powW m / 2 ∨ n < powW m ∨ 4611686018427387904 - 2 * powW m < l + 1) ∧ (n < l + 1 → (l + 1) - n ≤ powW m / 2 ∨ n < powW m ∨ 4611686018427387904 - 2 * powW m < l + 1) := by
  have e : nxM l true = l + 1 := by simp [nxM]; omega
  refine ⟨_, rfl, ?_⟩
  rw [e]
  rcases hm with rfl | rfl | rfl | rfl <;> simp only [powW, wholeM, cutM] <;> (try simp only [reduceIte, Int.reduceEq, Int.reduceDiv]) <;> (repeat' split) <;> (refine ⟨?_, ?_, ?_, ?_, ?_⟩ <;> omega)

set_option maxHeartbeats 4000000 in
theorem near3_any (w : World) (largest low k : Int) (hl : 0 ≤ largest ∧ largest < 18446744073709551616) (hlow : 0 ≤ low ∧ low < 4294967296) (hk : -9223372036854775808 ≤ k ∧ k ≤ 9223372036854775807) :
    Makes Try.prog 6 #[.int .u64 largest, .int .u32 low, .int .i64 k] w (.bool true) := by
  have hs := smallM_in largest
  have HS := Lib.hid (fun w => small_any w largest hl)
  obtain ⟨l, el⟩ : ∃ l, smallM largest = l := ⟨_, rfl⟩
  rw [el] at hs HS
  clear el
  have HM := within_in k 1 4 (by omega)
  obtain ⟨m, em⟩ : ∃ m, within k 1 4 = m := ⟨_, rfl⟩
  rw [em] at HM
  have EM := Lib.hid em; clear em
  have hm : m = 1 ∨ m = 2 ∨ m = 3 ∨ m = 4 := by omega
  have e1 : wM m = m := by unfold wM; (repeat' split) <;> omega
  have E1 := Lib.hid e1; clear e1
  obtain ⟨n, hn, hn0, hn1, hcut, ha, hb⟩ := near_law hs hlow.1 hm
  have HN := Lib.hid hn; have HCUT := Lib.hid hcut; clear hn hcut
  go_enter Try.func6, Try.ntmps6
  go_wp2_with fail
  refine Calls.mono (HS.out _) ?_
  rintro e w1 ⟨rfl, h1⟩
  have H1 := Lib.hid h1; clear h1
  go_wp2_with fail
  refine Calls.mono (within_any _ k 1 4 (by omega) (by omega) (by omega) hk) ?_
  rintro e w1' ⟨rfl, rfl⟩
  rw [EM.out]
  go_wp2_with fail
  refine Calls.mono (pcut_any _ low m ⟨by omega, by omega⟩) ?_
  rintro e w1' ⟨rfl, rfl⟩
  rw [E1.out]
  go_wp2_with fail
  refine Calls.mono (pwhole_any _ l low m true ⟨by omega, by omega⟩ hlow) ?_
  rintro e w2 ⟨rfl, h2⟩
  have H2 := Lib.hid (bl_next H1.out H1.out.size h2); clear h2
  rw [E1.out, HN.out]
  have hp : powW m = 256 ∨ powW m = 65536 ∨ powW m = 16777216 ∨ powW m = 4294967296 := by
    rcases hm with rfl | rfl | rfl | rfl <;> simp [powW]
  have HNN : Hid (∀ w, Calls Try.prog 13 #[.int .u64 n, .int .i64 m] w fun e w' => e = .returned (.int .u32 (cutM low m)) ∧ w' = w) := Lib.hid (fun w => by
    have h := pcut_any w n m ⟨hn0, by omega⟩
    rw [E1.out, HCUT.out] at h
    exact h)
  clear HN HCUT EM E1
  rcases hm with rfl | rfl | rfl | rfl
  all_goals
    simp only [powW, reduceIte, Int.reduceEq, Int.reduceMul, Int.reduceDiv, Int.reduceAdd] at hn1 ha hb
    clear hp
    go_wp2_with fail
    refine Calls.mono (HNN.out _) ?_
    rintro e w3 ⟨rfl, rfl⟩
    go_wp2_with fail
    all_goals
      refine Calls.mono (known3_any _) ?_
      rintro e w4 ⟨rfl, h4⟩
      have H4 := Lib.hid (bl_next H2.out H2.out.size h4); clear h4
      go_wp2_with fail
      go_ret
      first
        | exact ⟨rfl, H4.out⟩
        | (refine ⟨congrArg (fun b => Ending.returned (Value.bool b)) (?_ : _ = true), H4.out⟩
           simp only [Bool.or_eq_true, decide_eq_true_eq]
           omega)
end Go.Proofs.Ytamedmdpkepnlaa
