/- narthexbook.Within, and the law's own helpers of chapter 12 -/
import Derived.Test.YtiekmmcjlhbeoaaRttA
namespace Go.Proofs.Ytiekmmcjlhbeoaa
open Go.RowKit
set_option linter.unusedVariables false

def within (n lo hi : Int) : Int := if lo ≤ n ∧ n ≤ hi then n else lo + n % (hi - lo + 1)
theorem within_in (n lo hi : Int) (h : lo ≤ hi) : lo ≤ within n lo hi ∧ within n lo hi ≤ hi := by
  unfold within
  split
  · omega
  · have := Int.emod_nonneg n (show hi - lo + 1 ≠ 0 by omega)
    have := Int.emod_lt_of_pos n (show 0 < hi - lo + 1 by omega)
    omega
theorem tmod_emod (n d : Int) (hd : 0 < d) : (if n.tmod d < 0 then n.tmod d + d else n.tmod d) = n % d := by
  have h1 := Int.emod_emod_of_dvd n (Int.dvd_refl d)
  rcases Int.lt_or_le n 0 with h | h
  · by_cases hz : n.tmod d = 0
    · rw [hz]; simp
      have : d ∣ n := Int.dvd_of_tmod_eq_zero hz
      exact (Int.emod_eq_zero_of_dvd this).symm
    · have hn : n.tmod d < 0 := by
        have h2 := Int.neg_tmod n d
        have h3 := Int.tmod_nonneg d (show 0 ≤ -n by omega)
        omega
      rw [if_pos hn]
      have e := Int.tmod_add_mul_tdiv n d
      have hl : -d < n.tmod d := by
        have := Int.lt_tmod_of_pos n hd
        omega
      have : (n.tmod d + d) % d = n % d := by
        rw [Int.add_emod_right]
        conv => rhs; rw [← e]
        simp
      rw [← this, Int.emod_eq_of_lt (by omega) (by omega)]
  · rw [Int.tmod_eq_emod_of_nonneg h, if_neg]
    have := Int.emod_nonneg n (show d ≠ 0 by omega)
    omega

set_option maxHeartbeats 400000 in
theorem within_any (w : World) (n lo hi : Int) (h : lo ≤ hi) (hlo : -1125899906842624 ≤ lo) (hhi : hi ≤ 1125899906842624) (hn : -9223372036854775808 ≤ n ∧ n ≤ 9223372036854775807) :
    Calls Try.prog 10 #[.int .i64 n, .int .i64 lo, .int .i64 hi] w fun e w' => e = .returned (.int .i64 (within n lo hi)) ∧ w = w' := by
  by_cases h1 : lo ≤ n ∧ n ≤ hi
  · have e : within n lo hi = n := by unfold within; rw [if_pos h1]
    have E := Lib.hid e; clear e
    obtain ⟨h1, h2⟩ := h1
    go_enter Try.func10, Try.ntmps10
    go_wp2
    go_ret
    exact ⟨by rw [E.out]; rfl, rfl⟩
  · have hm := tmod_emod n (hi - lo + 1) (by omega)
    have hb1 := Int.tmod_lt_of_pos n (show 0 < hi - lo + 1 by omega)
    have hb2 := Int.lt_tmod_of_pos n (show 0 < hi - lo + 1 by omega)
    obtain ⟨r, hr⟩ : ∃ r, n.tmod (hi - lo + 1) = r := ⟨_, rfl⟩
    rw [hr] at hm hb1 hb2
    have e : within n lo hi = lo + (if r < 0 then r + (hi - lo + 1) else r) := by unfold within; rw [if_neg h1, hm]
    have E := Lib.hid e; clear e hm
    by_cases hlt : r < 0
    all_goals
      by_cases h3 : lo ≤ n
      · have h4 : hi < n := by omega
        clear h1
        go_enter Try.func10, Try.ntmps10
        go_wp2
        go_ret
        refine ⟨ret_int ?_, rfl⟩
        rw [E.out]
        first | (rw [if_pos hlt]; omega) | (rw [if_neg (by omega)])
      · clear h1
        go_enter Try.func10, Try.ntmps10
        go_wp2
        go_ret
        refine ⟨ret_int ?_, rfl⟩
        rw [E.out]
        first | (rw [if_pos hlt]; omega) | (rw [if_neg (by omega)])

theorem At.cell {w w0 : World} {b : Nat} {cs : Array Value} {t : TypeId} (h : At w b cs t w0) (i : Nat) (v : Value) (hv : cs[i]? = some v) : w.cell? ⟨b, i, none⟩ = some v := by
  rw [cell_of_row _ _ _ _ _ _ h.row]; exact hv
/-- what a draw does not turn -/
theorem row_drewN {w : World} {b : Nat} {o : Obj} (n : Nat) (h : w.heap[b]? = some o) : (w.drewN n).heap[b]? = some o := h

set_option maxHeartbeats 1000000 in
theorem same_any (w : World) (b c : Nat) (s v l k : Int) (h : Bool) (hs : 0 ≤ s ∧ s ≤ 4096) (hv : 0 ≤ v ∧ v ≤ 4096)
    (hb : w.heap[b]? = some (.cells #[.int .i64 s, .int .i64 v, .int .i64 l, .bool h] 35 (0, 0)))
    (hc : w.heap[c]? = some (.cells #[.int .i64 s, .int .i64 v, .int .i64 l, .bool h] 41 (0, 0))) :
    Quiet Try.prog 18 #[.pointer (some ⟨b, 0, none⟩), .pointer (some ⟨c, 0, none⟩), .int .i64 k] w (.bool true) := by
  have b0 : w.cell? ⟨b, 0, none⟩ = some (.int .i64 s) := by rw [cell_of_row _ _ _ _ _ _ hb]; rfl
  have b1 : w.cell? ⟨b, 1, none⟩ = some (.int .i64 v) := by rw [cell_of_row _ _ _ _ _ _ hb]; rfl
  have b2 : w.cell? ⟨b, 2, none⟩ = some (.int .i64 l) := by rw [cell_of_row _ _ _ _ _ _ hb]; rfl
  have b3 : w.cell? ⟨b, 3, none⟩ = some (.bool h) := by rw [cell_of_row _ _ _ _ _ _ hb]; rfl
  have c0 : w.cell? ⟨c, 0, none⟩ = some (.int .i64 s) := by rw [cell_of_row _ _ _ _ _ _ hc]; rfl
  have c1 : w.cell? ⟨c, 1, none⟩ = some (.int .i64 v) := by rw [cell_of_row _ _ _ _ _ _ hc]; rfl
  have c2 : w.cell? ⟨c, 2, none⟩ = some (.int .i64 l) := by rw [cell_of_row _ _ _ _ _ _ hc]; rfl
  have c3 : w.cell? ⟨c, 3, none⟩ = some (.bool h) := by rw [cell_of_row _ _ _ _ _ _ hc]; rfl
  clear hb hc
  go_enter Try.func18, Try.ntmps18
  go_wp2_with fail
  refine Calls.mono (least_any _ _ l h b2 b3) ?_
  rintro e w' ⟨rfl, n1, rfl⟩
  go_wp2_with fail
  go_quiet ((first | (go_at_call 14; exact Quiet.in2 (smoothed_any _ _ s (by exact b0))) | (go_at_call 15; exact Quiet.in2 (var_any _ _ v (by exact b1))) | (go_at_call 9; exact Quiet.in2 (period_any _ _ s v k hs hv (by exact b0) (by exact b1))) | (go_at_call 19; exact Quiet.in2 (rperiod_any _ _ s v k hs hv (by exact c0) (by exact c1)))))
  go_wp2
  go_ret
  exact ⟨rfl, _, by rw [World.drewN_drewN]⟩

theorem known_any (w : World) : Calls Try.prog 11 #[] w fun e w' => e = .returned (.bool true) ∧ Below w.heap.size w w' := by
  go_enter Try.func11, Try.ntmps11
  go_wp2_with fail
  refine Calls.mono (new_any _) ?_
  rintro e w1 ⟨rfl, hF⟩
  have hb := hF.row
  have HF := Lib.hid hF; have HB := Lib.hid hb; clear hF hb
  go_wp2_with fail
  refine Calls.mono (period_row _ _ 10 5 0 _ _ (by omega) (by omega) HB.out) ?_
  rintro e w' ⟨rfl, n, rfl⟩
  rw [show perM 10 5 0 = 32 from by decide]
  go_wp2_with fail
  refine Calls.mono (period_row _ _ 10 5 9 _ _ (by omega) (by omega) HB.out) ?_
  rintro e w' ⟨rfl, n, rfl⟩
  rw [show perM 10 5 9 = 2048 from by decide]
  go_wp2_with fail
  refine Calls.mono (period_row _ _ 10 5 6 _ _ (by omega) (by omega) HB.out) ?_
  rintro e w' ⟨rfl, n, rfl⟩
  rw [show perM 10 5 6 = 2048 from by decide]
  go_wp2_with fail
  refine Calls.mono (sample_any _ _ 10 5 0 8 false (by omega) (by omega) HB.out) ?_
  rintro e w2 ⟨rfl, hA⟩
  have hb2 := hA.row
  have HA := Lib.hid hA; have HB2 := Lib.hid hb2; clear hA hb2
  go_wp2_with fail
  refine Calls.mono (var_row _ _ _ _ _ _ HB2.out _ rfl) ?_
  rintro e w' ⟨rfl, n, rfl⟩
  rw [show sV false 10 5 (ct 8) = 4 from by decide]
  go_wp2_with fail
  refine Calls.mono (smoothed_row _ _ _ _ _ _ HB2.out _ rfl) ?_
  rintro e w' ⟨rfl, n, rfl⟩
  rw [show sS false 10 (ct 8) = 8 from by decide]
  go_wp2_with fail
  go_ret
  refine ⟨rfl, ?_⟩
  have h1 := HF.out.below
  have h2 := HA.out.rest
  refine bl_drewN ((bl_drewN h1 _).grown h2 ?_ (by simp)) _
  have := HF.out.size
  show w.heap.size ≤ w1.heap.size
  omega

theorem ct_in (t : Int) : 0 ≤ ct t ∧ ct t ≤ 4096 := by
  unfold ct; (repeat' split) <;> omega
theorem sS_in (h : Bool) (s t : Int) (hs : 0 ≤ s ∧ s ≤ 4096) (ht : 0 ≤ t ∧ t ≤ 4096) : 0 ≤ sS h s t ∧ sS h s t ≤ 4096 := by
  unfold sS; split <;> omega
theorem sV_in (h : Bool) (s v t : Int) (hs : 0 ≤ s ∧ s ≤ 4096) (hv : 0 ≤ v ∧ v ≤ 4096) (ht : 0 ≤ t ∧ t ≤ 4096) : 0 ≤ sV h s v t ∧ sV h s v t ≤ 4096 := by
  unfold sV; split
  · split <;> omega
  · omega

set_option maxHeartbeats 1000000 in
theorem play_any (w : World) (a : Option Addr) (len cap : Nat) (zs : List Int) (k : Int) (hlen : len ≤ 9223372036854775807) (hz : Ints w a len zs) :
    Calls Try.prog 12 #[.slice a len cap, .int .i64 k] w fun e w' => e = .returned (.bool true) ∧ Below w.heap.size w w' := by
  go_enter Try.func12, Try.ntmps12
  go_wp2_with fail
  refine Calls.mono (new_any _) ?_
  rintro e w1 ⟨rfl, hF⟩
  have HF := Lib.hid hF; clear hF
  go_wp2_with fail
  refine Calls.mono (rnew_any _) ?_
  rintro e w2 ⟨rfl, hG⟩
  have hsz : w1.heap.size = w.heap.size + 1 := HF.out.size
  have hb2 : w2.heap[w.heap.size]? = _ := bl_row hG.below (by omega) HF.out.row
  have hc2 : w2.heap[w.heap.size + 1]? = _ := hsz ▸ hG.row
  have hbel : Below w.heap.size w w2 := HF.out.below.trans (hG.below.mono (by omega))
  rw [hsz]
  have HB := Lib.hid hb2; have HC := Lib.hid hc2; have HL := Lib.hid hbel; have HZ := Lib.hid hz
  clear hb2 hc2 hbel hG hsz HF hz
  go_wp2_with fail
  go_loopw [7] (fun i wr => ∃ (j : Nat) (s v l : Int) (h : Bool), i = .int .i64 j ∧ j ≤ len ∧ j ≤ 60 ∧ (0 ≤ s ∧ s ≤ 4096) ∧ (0 ≤ v ∧ v ≤ 4096) ∧ Hid (Below w.heap.size w wr) ∧
      Hid (wr.heap[w.heap.size]? = some (.cells #[.int .i64 s, .int .i64 v, .int .i64 l, .bool h] 35 (0, 0))) ∧
      Hid (wr.heap[w.heap.size + 1]? = some (.cells #[.int .i64 s, .int .i64 v, .int .i64 l, .bool h] 41 (0, 0)))) (fun i _ => len - (intOf i).toNat)
  case atStart => exact ⟨0, 10, 5, 0, false, rfl, by omega, by omega, by omega, by omega, HL, HB, HC⟩
  case round =>
    obtain ⟨j, s, v, l, h, rfl, hj, hj6, hs, hv, HL, HB, HC⟩ := hrel
    by_cases hlt : j < len ∧ j < 60
    · obtain ⟨hlt, hlt6⟩ := hlt
      rcases HZ.out with h0 | ⟨b, off, rfl, hbl, hcell⟩
      · omega
      have hc0 := bl_cell HL.out (p := ⟨b, off + j, none⟩) hbl (hcell j hlt)
      obtain ⟨x, hx⟩ : ∃ x, zs.getD j 0 = x := ⟨_, rfl⟩
      rw [hx] at hc0
      clear hcell hx
      go_wp2_with fail
      refine Calls.mono (sample_any _ _ s v l x h hs hv HB.out) ?_
      rintro e w3 ⟨rfl, hA⟩
      have HA := Lib.hid hA; clear hA
      have hc1 : w3.cell? ⟨b, off + j, none⟩ = some (.int .i64 x) := HA.out.rest.cell hc0 (by simp; omega)
      clear hc0
      go_wp2_with fail
      refine Calls.mono (rsample_any _ _ s v l x h hs hv (grown_row HA.out.rest (by simp) HC.out)) ?_
      rintro e w4 ⟨rfl, hA2⟩
      have hs' := sS_in h s (ct x) hs (ct_in x)
      have hv' := sV_in h s v (ct x) hs hv (ct_in x)
      obtain ⟨s', es⟩ : ∃ y, sS h s (ct x) = y := ⟨_, rfl⟩
      obtain ⟨v', ev⟩ : ∃ y, sV h s v (ct x) = y := ⟨_, rfl⟩
      obtain ⟨l', el⟩ : ∃ y, sL h l (ct x) = y := ⟨_, rfl⟩
      have hA1 := HA.out
      rw [es, ev, el] at hA1 hA2
      rw [es] at hs'; rw [ev] at hv'
      have HB4 := Lib.hid (grown_row hA2.rest (by simp) hA1.row)
      have HC4 := Lib.hid hA2.row
      have HL4 := Lib.hid ((HL.out.grown hA1.rest HL.out.size (by simp)).grown hA2.rest (Nat.le_trans HL.out.size hA1.rest.size) (by simp))
      clear hA1 hA2 HA es ev el hc1 HB HC HL
      go_wp2_with fail
      refine Calls.mono (same_any _ _ _ s' v' l' k true hs' hv' HB4.out HC4.out) ?_
      rintro e w' ⟨rfl, n, rfl⟩
      go_wp2_with fail
      refine Calls.mono (same_any _ _ _ s' v' l' j true hs' hv' HB4.out HC4.out) ?_
      rintro e w' ⟨rfl, n2, rfl⟩
      go_wp2_with fail
      go_roundw
      case rel => exact ⟨j + 1, s', v', l', true, by go_num, by omega, by omega, hs', hv', Lib.hid (bl_drewN HL4.out _), HB4, HC4⟩
      case measure => simp [intOf]; omega
    · have hsame := Lib.hid (same_any wr w.heap.size (w.heap.size + 1) s v l k h hs hv HB.out HC.out)
      by_cases h1 : j < len
      · have h6 : ¬ j < 60 := by omega
        clear hlt
        go_wp2_with fail
        refine Calls.mono hsame.out ?_
        rintro e w' ⟨rfl, n, rfl⟩
        go_wp2_with fail
        go_ret
        exact ⟨rfl, bl_drewN HL.out _⟩
      · clear hlt
        go_wp2_with fail
        refine Calls.mono hsame.out ?_
        rintro e w' ⟨rfl, n, rfl⟩
        go_wp2_with fail
        go_ret
        exact ⟨rfl, bl_drewN HL.out _⟩
end Go.Proofs.Ytiekmmcjlhbeoaa
