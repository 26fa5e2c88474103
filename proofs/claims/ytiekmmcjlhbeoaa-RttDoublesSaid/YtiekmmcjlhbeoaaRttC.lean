/- the walks of chapter 12's laws -/
import Derived.Test.YtiekmmcjlhbeoaaRttB
namespace Go.Proofs.Ytiekmmcjlhbeoaa
open Go.RowKit
set_option linter.unusedVariables false

theorem perM_big (s v k : Int) (h : 6 ≤ k) : perM s v k = perM s v 6 := by
  unfold perM; rw [show ck k = 6 from by unfold ck; (repeat' split) <;> omega, show ck 6 = 6 from rfl]
theorem perM_neg (s v k : Int) (h : k ≤ 0) : perM s v k = perM s v 0 := by
  unfold perM; rw [show ck k = 0 from by unfold ck; (repeat' split) <;> omega, show ck 0 = 0 from rfl]
theorem perM_pow (s v : Int) (k : Nat) (h : k ≤ 6) : perM s v k = perM s v 0 * 2 ^ k := by
  unfold perM; rw [show ck k = k from by unfold ck; (repeat' split) <;> omega, show ck 0 = 0 from rfl]; simp
theorem perM0_in (s v : Int) (hs : 0 ≤ s ∧ s ≤ 4096) (hv : 0 ≤ v ∧ v ≤ 4096) : 3 ≤ perM s v 0 ∧ perM s v 0 ≤ 20482 := by
  unfold perM; rw [show ck 0 = 0 from rfl]; simp; split <;> omega
theorem perM_in (s v k : Int) (hs : 0 ≤ s ∧ s ≤ 4096) (hv : 0 ≤ v ∧ v ≤ 4096) : 3 ≤ perM s v k ∧ perM s v k < 2097152 := by
  have h0 := perM0_in s v hs hv
  have hc := ck_le k
  have e : perM s v k = perM s v 0 * 2 ^ (ck k).toNat := by
    rw [← perM_pow s v (ck k).toNat (by omega)]; unfold perM
    rw [show ck ((ck k).toNat : Int) = ck k from by rw [Int.toNat_of_nonneg hc.1]; unfold ck; (repeat' split) <;> omega]
  rw [e]
  have := mul_pow_in (perM s v 0) (ck k).toNat (by omega) (by omega)
  have h1 := (pow_le (ck k).toNat (by omega)).1
  have h2 := Int.mul_le_mul (show (3 : Int) ≤ perM s v 0 from h0.1) h1 (by omega) (by omega)
  omega

/-- a list's number, as it is or another. -/
theorem ints_cell {w wr : World} {b off len : Nat} {zs : List Int} (hL : Below w.heap.size w wr) (hb : b < w.heap.size)
    (h : ∀ i, i < len → w.cell? ⟨b, off + i, none⟩ = some (.int .i64 (zs.getD i 0))) (j : Nat) (hj : j < len) :
    ∃ x, x = zs.getD j 0 ∧ wr.cell? ⟨b, off + j, none⟩ = some (.int .i64 x) :=
  ⟨_, rfl, bl_cell hL (p := ⟨b, off + j, none⟩) hb (h j hj)⟩

set_option maxHeartbeats 1000000 in
theorem doubles_walk (w : World) (a : Option Addr) (len cap : Nat) (zs : List Int) (k : Int) (hlen : len ≤ 9223372036854775807) (hk : -9223372036854775808 ≤ k ∧ k ≤ 9223372036854775807) (hz : Ints w a len zs) :
    Calls Try.prog 3 #[.slice a len cap, .int .i64 k] w fun e w' => e = .returned (.bool true) ∧ Below w.heap.size w w' := by
  go_enter Try.func3, Try.ntmps3
  go_wp2_with fail
  refine Calls.mono (new_any _) ?_
  rintro e w1 ⟨rfl, hF⟩
  have HB := Lib.hid hF.row; have HL := Lib.hid hF.below; have HZ := Lib.hid hz
  clear hF hz
  go_wp2_with fail
  go_loopw [6] (fun i wr => ∃ (j : Nat) (s v l : Int) (h : Bool), i = .int .i64 j ∧ j ≤ len ∧ j ≤ 30 ∧ (0 ≤ s ∧ s ≤ 4096) ∧ (0 ≤ v ∧ v ≤ 4096) ∧ Hid (Below w.heap.size w wr) ∧
      Hid (wr.heap[w.heap.size]? = some (.cells #[.int .i64 s, .int .i64 v, .int .i64 l, .bool h] 35 (0, 0)))) (fun i _ => len - (intOf i).toNat)
  case atStart => exact ⟨0, 10, 5, 0, false, rfl, by omega, by omega, by omega, by omega, HL, HB⟩
  case round =>
    obtain ⟨j, s, v, l, h, rfl, hj, hj6, hs, hv, HL, HB⟩ := hrel
    by_cases hlt : j < len ∧ j < 30
    · obtain ⟨hlt, hlt6⟩ := hlt
      rcases HZ.out with h0 | ⟨b, off, rfl, hbl, hcell⟩
      · omega
      obtain ⟨x, hx, hc0⟩ := ints_cell HL.out hbl hcell j hlt
      clear hcell hx
      go_wp2_with fail
      refine Calls.mono (sample_any _ _ s v l x h hs hv HB.out) ?_
      rintro e w3 ⟨rfl, hA⟩
      have HL4 := Lib.hid (HL.out.grown hA.rest HL.out.size (by simp))
      have HB4 := Lib.hid hA.row
      have hs' := sS_in h s (ct x) hs (ct_in x)
      have hv' := sV_in h s v (ct x) hs hv (ct_in x)
      clear hA HL HB hc0
      go_wp2_with fail
      go_roundw
      case rel => exact ⟨j + 1, _, _, _, true, by go_num, by omega, by omega, hs', hv', HL4, HB4⟩
      case measure => simp [intOf]; omega
    · have q := fun (n : Nat) (k : Int) => period_row (wr.drewN n) w.heap.size s v k (.int .i64 l) (.bool h) hs hv (row_drewN n HB.out)
      have Q := Lib.hid q; clear q
      obtain ⟨p, hp⟩ : ∃ p, perM s v 0 = p := ⟨_, rfl⟩
      have hp0 := perM0_in s v hs hv
      rw [hp] at hp0
      have HP := Lib.hid hp; clear hp
      by_cases h1 : j < len
      case' pos => have h6 : ¬ j < 30 := by omega
      all_goals
        clear hlt
        go_wp2_with fail
        refine Calls.mono (Q.out 0 0) ?_
        rintro e w' ⟨rfl, n, rfl⟩
        rw [HP.out]
        go_wp2_with fail
        go_loopw [7, 8] (fun q i wq => ∃ (t m : Nat), i = .int .i64 t ∧ t ≤ 7 ∧ q = .int .i64 (p * 2 ^ t) ∧ Hid (wq = wr.drewN m)) (fun _ i _ => 7 - (intOf i).toNat)
        case atStart => exact ⟨0, n, rfl, by omega, by simp, Lib.hid rfl⟩
        case round =>
          obtain ⟨t, m, rfl, ht, rfl, hwq⟩ := hrel
          obtain rfl := hwq.out
          by_cases ht6 : t ≤ 6
          · have hpw := mul_pow_in p t (by omega) ht6
            have e1 : perM s v t = p * 2 ^ t := by rw [perM_pow s v t ht6, HP.out]
            have hQ := Lib.hid (Q.out m t)
            have E1 := Lib.hid e1; clear e1
            go_wp2_with fail
            refine Calls.mono hQ.out ?_
            rintro e w' ⟨rfl, n2, rfl⟩
            rw [E1.out]
            go_wp2_with fail
            go_roundw
            case rel => exact ⟨t + 1, _, by go_num, by omega, by congr 1; rw [Int.pow_succ, Int.mul_comm 2, Int.mul_assoc], Lib.hid rfl⟩
            case measure => simp [intOf]; omega
          · have hx := within_in k 0 1000 (by omega)
            obtain ⟨x, ex⟩ : ∃ x, within k 0 1000 = x := ⟨_, rfl⟩
            rw [ex] at hx
            have EX := Lib.hid ex; clear ex
            have b6 : perM s v 6 < 2097152 := (perM_in s v 6 hs hv).2
            obtain ⟨p6, hp6⟩ : ∃ p6, perM s v 6 = p6 := ⟨_, rfl⟩
            rw [hp6] at b6
            have H7 := Lib.hid (perM_big s v (7 + x) (by omega))
            have HN := Lib.hid (perM_neg s v (-1 - x) (by omega))
            have HP6 := Lib.hid hp6; clear hp6
            go_wp2_with fail
            refine Calls.mono (within_any _ k 0 1000 (by omega) (by omega) (by omega) hk) ?_
            rintro e w' ⟨rfl, rfl⟩
            rw [EX.out]
            go_wp2_with fail
            refine Calls.mono (Q.out _ (7 + x)) ?_
            rintro e w' ⟨rfl, n2, rfl⟩
            rw [H7.out, HP6.out]
            go_wp2_with fail
            refine Calls.mono (Q.out _ 6) ?_
            rintro e w' ⟨rfl, n3, rfl⟩
            rw [HP6.out]
            go_wp2_with fail
            refine Calls.mono (within_any _ k 0 1000 (by omega) (by omega) (by omega) hk) ?_
            rintro e w' ⟨rfl, rfl⟩
            rw [EX.out]
            go_wp2_with fail
            refine Calls.mono (Q.out _ (-1 - x)) ?_
            rintro e w' ⟨rfl, n4, rfl⟩
            rw [HN.out, HP.out]
            go_wp2_with fail
            refine Calls.mono (Q.out _ 0) ?_
            rintro e w' ⟨rfl, n5, rfl⟩
            rw [HP.out]
            go_wp2_with fail
            refine Calls.mono (Q.out _ 0) ?_
            rintro e w' ⟨rfl, n6, rfl⟩
            rw [HP.out]
            go_wp2_with fail
            refine Calls.mono (Q.out _ 6) ?_
            rintro e w' ⟨rfl, n7, rfl⟩
            rw [HP6.out]
            go_wp2_with fail
            refine Calls.mono (known_any _) ?_
            rintro e w' ⟨rfl, hbel⟩
            have HK := Lib.hid hbel; clear hbel
            go_wp2_with fail
            go_ret
            exact ⟨rfl, (bl_drewN HL.out _).trans (HK.out.mono HL.out.size)⟩
end Go.Proofs.Ytiekmmcjlhbeoaa
