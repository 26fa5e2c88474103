/- contracts of mix, of its reference, of Rot. -/
import Derived.Test.YtpngjokjjpdboaaMixM
namespace Go.Proofs.Ytpngjokjjpdboaa
open Go.RowKit
set_option linter.unusedVariables false

set_option maxRecDepth 100000 in
theorem end_any (w : World) (h : Int) : Quiet Try.prog 31 #[.int .u64 h] w (.int .u64 (endM h)) := by
  refine Quiet.same ?_
  go_enter Try.func31, Try.ntmps31
  go_wp2
  go_ret
  exact ⟨rfl, rfl⟩
set_option maxRecDepth 100000 in
theorem rend_any (w : World) (h : Int) : Quiet Try.prog 21 #[.int .u64 h] w (.int .u64 (endM h)) := by
  refine Quiet.same ?_
  go_enter Try.func21, Try.ntmps21
  go_wp2
  go_ret
  exact ⟨rfl, rfl⟩
set_option maxRecDepth 100000 in
theorem rot_any (w : World) (n k : Int) : Quiet Try.prog 30 #[.int .u64 n, .int .i64 k] w (.int .u64 (rotM n k)) := by
  have ha := and63 k
  have h1 := Int.emod_nonneg k (show (64 : Int) ≠ 0 by omega)
  have h2 := Int.emod_lt_of_pos k (show (0 : Int) < 64 by omega)
  have e : rotM n k = bits .or .u64 (IntKind.u64.wrap (n * 2 ^ (k % 64).toNat)) (n / 2 ^ (64 - k % 64).toNat) := rfl
  obtain ⟨r, hr⟩ : ∃ r, k % 64 = r := ⟨_, rfl⟩
  rw [hr] at ha h1 h2 e
  have E := Lib.hid e; clear e hr
  go_enter Try.func30, Try.ntmps30
  go_wp2
  go_quiet (fail)
  go_wp2
  go_ret
  refine ⟨?_, _, rfl⟩
  rw [E.out]; rfl
theorem tmod64 (k : Int) : (k.tmod 64 + 64).tmod 64 = k % 64 := by
  have h1 := Int.tmod_lt_of_pos k (show (0 : Int) < 64 by omega)
  have h2 := Int.lt_tmod_of_pos k (show (0 : Int) < 64 by omega)
  rw [Int.tmod_eq_emod_of_nonneg (by omega)]
  have h3 := Int.tmod_add_mul_tdiv k 64
  omega
set_option maxRecDepth 100000 in
theorem rrot_any (w : World) (n k : Int) : Quiet Try.prog 20 #[.int .u64 n, .int .i64 k] w (.int .u64 (rotM n k)) := by
  have h1 := Int.emod_nonneg k (show (64 : Int) ≠ 0 by omega)
  have h2 := Int.emod_lt_of_pos k (show (0 : Int) < 64 by omega)
  have h3 := Int.tmod_lt_of_pos k (show (0 : Int) < 64 by omega)
  have h4 := Int.lt_tmod_of_pos k (show (0 : Int) < 64 by omega)
  have ha := tmod64 k
  have e : rotM n k = bits .or .u64 (IntKind.u64.wrap (n * 2 ^ (k % 64).toNat)) (n / 2 ^ (64 - k % 64).toNat) := rfl
  obtain ⟨r, hr⟩ : ∃ r, k % 64 = r := ⟨_, rfl⟩
  obtain ⟨q, hq⟩ : ∃ q, k.tmod 64 = q := ⟨_, rfl⟩
  rw [hq, Int.tmod_eq_emod_of_nonneg (by omega)] at ha
  rw [hr] at ha h1 h2 e
  rw [hq] at h3 h4
  have E := Lib.hid e; clear e hr
  refine Quiet.same ?_
  go_enter Try.func20, Try.ntmps20
  go_wp2
  go_ret
  refine ⟨?_, rfl⟩
  rw [E.out]; rfl
set_option maxRecDepth 100000 in
set_option maxHeartbeats 400000 in
theorem keyed_any (w : World) (key : Int) (a : Option Addr) (len cap : Nat) (bs : List Int) (hlen : len ≤ 9223372036854775807) (hb : IntsK .u8 w a len bs) :
    Quiet Try.prog 29 #[.int .u64 key, .slice a len cap] w (.int .u64 (keyedM key bs)) := by
  have HB := Lib.hid hb; clear hb
  go_enter Try.func29, Try.ntmps29
  go_wp2_with fail
  go_loopw [5, 17] (fun h i wr => ∃ (j n : Nat), i = .int .i64 j ∧ j ≤ len ∧ h = .int .u64 ((bs.take j).foldl stepM (startM key len)) ∧ Hid (wr = w.drewN n)) (fun _ i _ => len - (intOf i).toNat)
  case atStart => exact ⟨0, 0, rfl, by omega, rfl, Lib.hid rfl⟩
  case round =>
    obtain ⟨j, n, rfl, hj, rfl, hwr⟩ := hrel
    obtain rfl := hwr.out
    by_cases hlt : j < len
    · obtain ⟨b, off, x, rfl, hbl, hx, hwx, hc⟩ := HB.out.at (Below.refl _ _) hlt
      have hs := foldl_take (f := stepM) (s := startM key len) (l := bs) (j := j) (by rw [HB.out.1]; exact hlt)
      rw [← hx] at hs
      have HS := Lib.hid hs
      have hx2 := bounds_u8 hwx
      clear hs hx hwx
      obtain ⟨h, hh⟩ : ∃ h, (bs.take j).foldl stepM (startM key len) = h := ⟨_, rfl⟩
      rw [hh]
      have HH := Lib.hid hh; clear hh
      go_wp2_with fail
      refine Calls.mono (rot_any _ _ 23) ?_
      rintro e w' ⟨rfl, m, rfl⟩
      go_wp2_with fail
      go_roundw
      case rel => exact ⟨j + 1, n + m, by go_num, by omega, by rw [HS.out, HH.out]; rfl, Lib.hid (by first | rfl | rw [World.drewN_drewN])⟩
      case measure => simp [intOf]; omega
    · obtain rfl : j = len := by omega
      have hk : keyedM key bs = endM ((bs.take j).foldl stepM (startM key j)) := by rw [← HB.out.1, List.take_length]; rfl
      have HK := Lib.hid hk; clear hk
      go_wp2_with fail
      refine Calls.mono (end_any _ _) ?_
      rintro e w' ⟨rfl, m, rfl⟩
      go_wp2_with fail
      go_ret
      refine ⟨?_, n + m, by first | rfl | rw [World.drewN_drewN]⟩
      rw [HK.out]; rfl
set_option maxRecDepth 100000 in
set_option maxHeartbeats 400000 in
theorem rkeyed_any (w : World) (key : Int) (a : Option Addr) (len cap : Nat) (bs : List Int) (hlen : len ≤ 9223372036854775807) (hb : IntsK .u8 w a len bs) :
    Quiet Try.prog 12 #[.int .u64 key, .slice a len cap] w (.int .u64 (keyedM key bs)) := by
  have HB := Lib.hid hb; clear hb
  go_enter Try.func12, Try.ntmps12
  go_wp2_with fail
  go_loopw [5, 6] (fun h i wr => ∃ (j n : Nat), i = .int .i64 j ∧ j ≤ len ∧ h = .int .u64 ((bs.take j).foldl stepM (startM key len)) ∧ Hid (wr = w.drewN n)) (fun _ i _ => len - (intOf i).toNat)
  case atStart => exact ⟨0, 0, rfl, by omega, rfl, Lib.hid rfl⟩
  case round =>
    obtain ⟨j, n, rfl, hj, rfl, hwr⟩ := hrel
    obtain rfl := hwr.out
    by_cases hlt : j < len
    · obtain ⟨b, off, x, rfl, hbl, hx, hwx, hc⟩ := HB.out.at (Below.refl _ _) hlt
      have hs := foldl_take (f := stepM) (s := startM key len) (l := bs) (j := j) (by rw [HB.out.1]; exact hlt)
      rw [← hx] at hs
      have HS := Lib.hid hs
      have hx2 := bounds_u8 hwx
      clear hs hx hwx
      obtain ⟨h, hh⟩ : ∃ h, (bs.take j).foldl stepM (startM key len) = h := ⟨_, rfl⟩
      rw [hh]
      have HH := Lib.hid hh; clear hh
      go_wp2_with fail
      refine Calls.mono (rrot_any _ _ 23) ?_
      rintro e w' ⟨rfl, m, rfl⟩
      go_wp2_with fail
      go_roundw
      case rel => exact ⟨j + 1, n + m, by go_num, by omega, by rw [HS.out, HH.out]; rfl, Lib.hid (by first | rfl | rw [World.drewN_drewN])⟩
      case measure => simp [intOf]; omega
    · obtain rfl : j = len := by omega
      have hk : keyedM key bs = endM ((bs.take j).foldl stepM (startM key j)) := by rw [← HB.out.1, List.take_length]; rfl
      have HK := Lib.hid hk; clear hk
      go_wp2_with fail
      refine Calls.mono (rend_any _ _) ?_
      rintro e w' ⟨rfl, m, rfl⟩
      go_wp2_with fail
      go_ret
      refine ⟨?_, n + m, by first | rfl | rw [World.drewN_drewN]⟩
      rw [HK.out]; rfl
set_option maxRecDepth 100000 in
theorem sum_any (w : World) (a : Option Addr) (len cap : Nat) (bs : List Int) (hlen : len ≤ 9223372036854775807) (hb : IntsK .u8 w a len bs) :
    Quiet Try.prog 28 #[.slice a len cap] w (.int .u64 (keyedM 0 bs)) := by
  have HB := Lib.hid hb; clear hb
  go_enter Try.func28, Try.ntmps28
  go_wp2_with fail
  refine Calls.mono (keyed_any _ _ _ _ _ _ hlen HB.out) ?_
  rintro e w' ⟨rfl, m, rfl⟩
  go_wp2_with fail
  go_ret
  exact ⟨rfl, _, rfl⟩
set_option maxRecDepth 100000 in
theorem rbytes_any (w : World) (n : Int) : Calls Try.prog 11 #[.int .u64 n] w fun e w' => e = .returned (.slice (some ⟨w.heap.size, 0, none⟩) 8 8) ∧
    Fresh w w' (.cells ((bytesM n).map (Value.int .u8)).toArray 5) := by
  have hmk : ∀ w, (Instr.makeSlice 31 (.int .i64 8) (.int .i64 8)).run Try.prog w = .ok (.slice (some ⟨w.heap.size, 0, none⟩) 8 8) (w.alloc (.cells #[.int .u8 0, .int .u8 0, .int .u8 0, .int .u8 0, .int .u8 0, .int .u8 0, .int .u8 0, .int .u8 0] 5)) := fun _ => by kernel_rfl
  go_enter Try.func11, Try.ntmps11
  go_wp2_with fail
  refine wp_loop_rounds 9 ?_
  repeat any_goals (rw [rounds_succ]; go_wp2_with fail)
  go_ret
  exact ⟨rfl, Fresh.of_alloc _ _⟩
end Go.Proofs.Ytpngjokjjpdboaa
