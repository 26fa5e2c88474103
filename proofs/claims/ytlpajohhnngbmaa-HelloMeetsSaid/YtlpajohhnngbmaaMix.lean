/- contracts of mix, of its reference, of Rot. -/
import Derived.Test.YtlpajohhnngbmaaMixM
namespace Go.Proofs.Ytlpajohhnngbmaa
open Go.RowKit
set_option linter.unusedVariables false

set_option maxRecDepth 100000 in
theorem end_any (w : World) (h : Int) : Quiet Try.prog 59 #[.int .u64 h] w (.int .u64 (endM h)) := by
  refine Quiet.same ?_
  go_enter Try.func59, Try.ntmps59
  go_wp2
  go_ret
  exact ⟨rfl, rfl⟩
set_option maxRecDepth 100000 in
theorem rend_any (w : World) (h : Int) : Quiet Try.prog 61 #[.int .u64 h] w (.int .u64 (endM h)) := by
  refine Quiet.same ?_
  go_enter Try.func61, Try.ntmps61
  go_wp2
  go_ret
  exact ⟨rfl, rfl⟩
set_option maxRecDepth 100000 in
theorem rot_any (w : World) (n k : Int) : Quiet Try.prog 58 #[.int .u64 n, .int .i64 k] w (.int .u64 (rotM n k)) := by
  have ha := and63 k
  have h1 := Int.emod_nonneg k (show (64 : Int) ≠ 0 by omega)
  have h2 := Int.emod_lt_of_pos k (show (0 : Int) < 64 by omega)
  have e : rotM n k = bits .or .u64 (IntKind.u64.wrap (n * 2 ^ (k % 64).toNat)) (n / 2 ^ (64 - k % 64).toNat) := rfl
  obtain ⟨r, hr⟩ : ∃ r, k % 64 = r := ⟨_, rfl⟩
  rw [hr] at ha h1 h2 e
  have E := Lib.hid e; clear e hr
  go_enter Try.func58, Try.ntmps58
  go_wp2
  go_quiet (fail)
  go_wp2
  go_ret
  refine ⟨?_, _, rfl⟩
  rw [E.out]; rfl
theorem tmod64 (k : Int) : (k.tmod 64 + 64).tmod 64 = k % 64 := by
  have h1 := Int.tmod_lt_of_pos k (show (0 : Int) < 64 by omega)
  have h2 := Int.lt_tmod_of_pos k (show (0 : Int) < 64 by omega)
  rw [Int.tmod_eq_emod_of_nonneg (by omega)]
  have h3 := Int.tmod_add_mul_tdiv k 64
  omega
set_option maxRecDepth 100000 in
theorem rrot_any (w : World) (n k : Int) : Quiet Try.prog 60 #[.int .u64 n, .int .i64 k] w (.int .u64 (rotM n k)) := by
  have h1 := Int.emod_nonneg k (show (64 : Int) ≠ 0 by omega)
  have h2 := Int.emod_lt_of_pos k (show (0 : Int) < 64 by omega)
  have h3 := Int.tmod_lt_of_pos k (show (0 : Int) < 64 by omega)
  have h4 := Int.lt_tmod_of_pos k (show (0 : Int) < 64 by omega)
  have ha := tmod64 k
  have e : rotM n k = bits .or .u64 (IntKind.u64.wrap (n * 2 ^ (k % 64).toNat)) (n / 2 ^ (64 - k % 64).toNat) := rfl
  obtain ⟨r, hr⟩ : ∃ r, k % 64 = r := ⟨_, rfl⟩
  obtain ⟨q, hq⟩ : ∃ q, k.tmod 64 = q := ⟨_, rfl⟩
  rw [hq, Int.tmod_eq_emod_of_nonneg (by omega)] at ha
  rw [hr] at ha h1 h2 e
  rw [hq] at h3 h4
  have E := Lib.hid e; clear e hr
  refine Quiet.same ?_
  go_enter Try.func60, Try.ntmps60
  go_wp2
  go_ret
  refine ⟨?_, rfl⟩
  rw [E.out]; rfl
set_option maxRecDepth 100000 in
set_option maxHeartbeats 400000 in
theorem keyed_any (w : World) (key : Int) (a : Option Addr) (len cap : Nat) (bs : List Int) (hlen : len ≤ 9223372036854775807) (hb : IntsK .u8 w a len bs) :
    Quiet Try.prog 41 #[.int .u64 key, .slice a len cap] w (.int .u64 (keyedM key bs)) := by
  have HB := Lib.hid hb; clear hb
  go_enter Try.func41, Try.ntmps41
  go_wp2_with fail
  go_loopw [5, 17] (fun h i wr => ∃ (j n : Nat), i = .int .i64 j ∧ j ≤ len ∧ h = .int .u64 ((bs.take j).foldl stepM (startM key len)) ∧ Hid (wr = w.drewN n)) (fun _ i _ => len - (intOf i).toNat)
  case atStart => exact ⟨0, 0, rfl, by omega, rfl, Lib.hid rfl⟩
  case round =>
    obtain ⟨j, n, rfl, hj, rfl, hwr⟩ := hrel
    obtain rfl := hwr.out
    by_cases hlt : j < len
    · obtain ⟨b, off, x, rfl, hbl, hx, hwx, hc⟩ := HB.out.at (Below.refl _ _) hlt
      have hs := foldl_take (f := stepM) (s := startM key len) (l := bs) (j := j) (by rw [HB.out.1]; exact hlt)
      rw [← hx] at hs
      have HS := Lib.hid hs
      have hx2 := bounds_u8 hwx
      clear hs hx hwx
      obtain ⟨h, hh⟩ : ∃ h, (bs.take j).foldl stepM (startM key len) = h := ⟨_, rfl⟩
      rw [hh]
      have HH := Lib.hid hh; clear hh
      go_wp2_with fail
      refine Calls.mono (rot_any _ _ 23) ?_
      rintro e w' ⟨rfl, m, rfl⟩
      go_wp2_with fail
      go_roundw
      case rel => exact ⟨j + 1, n + m, by go_num, by omega, by rw [HS.out, HH.out]; rfl, Lib.hid (by first | rfl | rw [World.drewN_drewN])⟩
      case measure => simp [intOf]; omega
    · obtain rfl : j = len := by omega
      have hk : keyedM key bs = endM ((bs.take j).foldl stepM (startM key j)) := by rw [← HB.out.1, List.take_length]; rfl
      have HK := Lib.hid hk; clear hk
      go_wp2_with fail
      refine Calls.mono (end_any _ _) ?_
      rintro e w' ⟨rfl, m, rfl⟩
      go_wp2_with fail
      go_ret
      refine ⟨?_, n + m, by first | rfl | rw [World.drewN_drewN]⟩
      rw [HK.out]; rfl
set_option maxRecDepth 100000 in
set_option maxHeartbeats 400000 in
theorem rkeyed_any (w : World) (key : Int) (a : Option Addr) (len cap : Nat) (bs : List Int) (hlen : len ≤ 9223372036854775807) (hb : IntsK .u8 w a len bs) :
    Quiet Try.prog 43 #[.int .u64 key, .slice a len cap] w (.int .u64 (keyedM key bs)) := by
  have HB := Lib.hid hb; clear hb
  go_enter Try.func43, Try.ntmps43
  go_wp2_with fail
  go_loopw [5, 6] (fun h i wr => ∃ (j n : Nat), i = .int .i64 j ∧ j ≤ len ∧ h = .int .u64 ((bs.take j).foldl stepM (startM key len)) ∧ Hid (wr = w.drewN n)) (fun _ i _ => len - (intOf i).toNat)
  case atStart => exact ⟨0, 0, rfl, by omega, rfl, Lib.hid rfl⟩
  case round =>
    obtain ⟨j, n, rfl, hj, rfl, hwr⟩ := hrel
    obtain rfl := hwr.out
    by_cases hlt : j < len
    · obtain ⟨b, off, x, rfl, hbl, hx, hwx, hc⟩ := HB.out.at (Below.refl _ _) hlt
      have hs := foldl_take (f := stepM) (s := startM key len) (l := bs) (j := j) (by rw [HB.out.1]; exact hlt)
      rw [← hx] at hs
      have HS := Lib.hid hs
      have hx2 := bounds_u8 hwx
      clear hs hx hwx
      obtain ⟨h, hh⟩ : ∃ h, (bs.take j).foldl stepM (startM key len) = h := ⟨_, rfl⟩
      rw [hh]
      have HH := Lib.hid hh; clear hh
      go_wp2_with fail
      refine Calls.mono (rrot_any _ _ 23) ?_
      rintro e w' ⟨rfl, m, rfl⟩
      go_wp2_with fail
      go_roundw
      case rel => exact ⟨j + 1, n + m, by go_num, by omega, by rw [HS.out, HH.out]; rfl, Lib.hid (by first | rfl | rw [World.drewN_drewN])⟩
      case measure => simp [intOf]; omega
    · obtain rfl : j = len := by omega
      have hk : keyedM key bs = endM ((bs.take j).foldl stepM (startM key j)) := by rw [← HB.out.1, List.take_length]; rfl
      have HK := Lib.hid hk; clear hk
      go_wp2_with fail
      refine Calls.mono (rend_any _ _) ?_
      rintro e w' ⟨rfl, m, rfl⟩
      go_wp2_with fail
      go_ret
      refine ⟨?_, n + m, by first | rfl | rw [World.drewN_drewN]⟩
      rw [HK.out]; rfl
set_option maxRecDepth 100000 in
theorem bytes_any (w : World) (n : Int) : Calls Try.prog 74 #[.int .u64 n] w fun e w' => e = .returned (.agg ((bytesM n).map (Value.int .u8)).toArray) ∧ Below w.heap.size w w' := by
  go_enter Try.func74, Try.ntmps74
  go_wp2_with fail
  refine wp_loop_rounds 9 ?_
  repeat any_goals (rw [rounds_succ]; go_wp2_with fail)
  exact bodyPost_ret (v := .agg ((bytesM n).map (Value.int .u8)).toArray) (by simp [results, Try.results74, go_sem, bytesM]) rfl ⟨rfl, ((Below.refl _ _).alloc (Nat.le_refl _) _).alloc (by simp) _⟩
set_option maxRecDepth 100000 in
theorem rbytes_any (w : World) (n : Int) : Calls Try.prog 78 #[.int .u64 n] w fun e w' => e = .returned (.slice (some ⟨w.heap.size, 0, none⟩) 8 8) ∧
    Fresh w w' (.cells ((bytesM n).map (Value.int .u8)).toArray 5) := by
  have hmk : ∀ w, (Instr.makeSlice 31 (.int .i64 8) (.int .i64 8)).run Try.prog w = .ok (.slice (some ⟨w.heap.size, 0, none⟩) 8 8) (w.alloc (.cells #[.int .u8 0, .int .u8 0, .int .u8 0, .int .u8 0, .int .u8 0, .int .u8 0, .int .u8 0, .int .u8 0] 5)) := fun _ => by kernel_rfl
  go_enter Try.func78, Try.ntmps78
  go_wp2_with fail
  refine wp_loop_rounds 9 ?_
  repeat any_goals (rw [rounds_succ]; go_wp2_with fail)
  go_ret
  exact ⟨rfl, Fresh.of_alloc _ _⟩
set_option maxRecDepth 100000 in
set_option maxHeartbeats 1000000 in
theorem number_core (w : World) (x0 x1 x2 x3 x4 x5 x6 x7 : Int) (h0 : 0 ≤ x0 ∧ x0 ≤ 255) (h1 : 0 ≤ x1 ∧ x1 ≤ 255) (h2 : 0 ≤ x2 ∧ x2 ≤ 255) (h3 : 0 ≤ x3 ∧ x3 ≤ 255)
    (h4 : 0 ≤ x4 ∧ x4 ≤ 255) (h5 : 0 ≤ x5 ∧ x5 ≤ 255) (h6 : 0 ≤ x6 ∧ x6 ≤ 255) (h7 : 0 ≤ x7 ∧ x7 ≤ 255) :
    Calls Try.prog 42 #[.agg #[.int .u8 x0, .int .u8 x1, .int .u8 x2, .int .u8 x3, .int .u8 x4, .int .u8 x5, .int .u8 x6, .int .u8 x7]] w fun e w' =>
    e = .returned (.int .u64 (numberM [x0, x1, x2, x3, x4, x5, x6, x7])) ∧ Below w.heap.size w w' := by
  have i0 : ∀ w, (Instr.index 23 (.agg #[.int .u8 x0, .int .u8 x1, .int .u8 x2, .int .u8 x3, .int .u8 x4, .int .u8 x5, .int .u8 x6, .int .u8 x7]) (.int .i64 0)).run Try.prog w = .ok (.int .u8 x0) w := fun _ => by kernel_rfl
  have i1 : ∀ w, (Instr.index 23 (.agg #[.int .u8 x0, .int .u8 x1, .int .u8 x2, .int .u8 x3, .int .u8 x4, .int .u8 x5, .int .u8 x6, .int .u8 x7]) (.int .i64 1)).run Try.prog w = .ok (.int .u8 x1) w := fun _ => by kernel_rfl
  have i2 : ∀ w, (Instr.index 23 (.agg #[.int .u8 x0, .int .u8 x1, .int .u8 x2, .int .u8 x3, .int .u8 x4, .int .u8 x5, .int .u8 x6, .int .u8 x7]) (.int .i64 2)).run Try.prog w = .ok (.int .u8 x2) w := fun _ => by kernel_rfl
  have i3 : ∀ w, (Instr.index 23 (.agg #[.int .u8 x0, .int .u8 x1, .int .u8 x2, .int .u8 x3, .int .u8 x4, .int .u8 x5, .int .u8 x6, .int .u8 x7]) (.int .i64 3)).run Try.prog w = .ok (.int .u8 x3) w := fun _ => by kernel_rfl
  have i4 : ∀ w, (Instr.index 23 (.agg #[.int .u8 x0, .int .u8 x1, .int .u8 x2, .int .u8 x3, .int .u8 x4, .int .u8 x5, .int .u8 x6, .int .u8 x7]) (.int .i64 4)).run Try.prog w = .ok (.int .u8 x4) w := fun _ => by kernel_rfl
  have i5 : ∀ w, (Instr.index 23 (.agg #[.int .u8 x0, .int .u8 x1, .int .u8 x2, .int .u8 x3, .int .u8 x4, .int .u8 x5, .int .u8 x6, .int .u8 x7]) (.int .i64 5)).run Try.prog w = .ok (.int .u8 x5) w := fun _ => by kernel_rfl
  have i6 : ∀ w, (Instr.index 23 (.agg #[.int .u8 x0, .int .u8 x1, .int .u8 x2, .int .u8 x3, .int .u8 x4, .int .u8 x5, .int .u8 x6, .int .u8 x7]) (.int .i64 6)).run Try.prog w = .ok (.int .u8 x6) w := fun _ => by kernel_rfl
  have i7 : ∀ w, (Instr.index 23 (.agg #[.int .u8 x0, .int .u8 x1, .int .u8 x2, .int .u8 x3, .int .u8 x4, .int .u8 x5, .int .u8 x6, .int .u8 x7]) (.int .i64 7)).run Try.prog w = .ok (.int .u8 x7) w := fun _ => by kernel_rfl
  go_enter Try.func42, Try.ntmps42
  go_wp2_with fail
  refine wp_loop_rounds 9 ?_
  repeat any_goals (rw [rounds_succ]; go_wp2_with fail)
  go_ret
  refine ⟨ret_int ?_, (Below.refl _ _).alloc (Nat.le_refl _) _⟩
  simp only [numberM, List.foldl, numStep]
  rw [show IntKind.u64.wrap (0 * 256) = 0 from rfl]
theorem number_any (w : World) (xs : List Int) (hl : xs.length = 8) (hw : ∀ x ∈ xs, (Lit.int .u8 x).wf = true) :
    Calls Try.prog 42 #[.agg (xs.map (Value.int .u8)).toArray] w fun e w' => e = .returned (.int .u64 (numberM xs)) ∧ Below w.heap.size w w' := by
  match xs, hl with
  | [x0, x1, x2, x3, x4, x5, x6, x7], _ =>
    have b : ∀ x ∈ [x0, x1, x2, x3, x4, x5, x6, x7], 0 ≤ x ∧ x ≤ 255 := fun x hx => bounds_u8 (hw x hx)
    exact number_core w x0 x1 x2 x3 x4 x5 x6 x7 (b _ (by simp)) (b _ (by simp)) (b _ (by simp)) (b _ (by simp)) (b _ (by simp)) (b _ (by simp)) (b _ (by simp)) (b _ (by simp))
end Go.Proofs.Ytlpajohhnngbmaa
