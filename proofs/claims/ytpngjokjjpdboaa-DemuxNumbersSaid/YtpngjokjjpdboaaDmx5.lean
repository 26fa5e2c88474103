/- demux: New, places. -/
import Derived.Test.YtpngjokjjpdboaaDmx4
import Derived.Deep.Upon
namespace Go.Proofs.Ytpngjokjjpdboaa
open Go.RowKit
set_option linter.unusedVariables false

theorem own_fullS {w : World} {base e g n size : Nat} {xs : List Value} (h : w.ownsRow base e size (.slice (some ⟨g, 0, none⟩) n n) n xs) : w.heap[g]? = some (.cells xs.toArray e (0, 0)) := by
  rcases h.2 with ⟨h1, _⟩ | ⟨g', cap, cur, h1, hg, hrow, hn, hc, hsz, htk⟩
  · cases h1
  · injection h1 with h1 h2 h3
    injection h1 with h1; injection h1 with h1
    subst h1; subst h3
    rw [hrow]
    have e2 : cur.toList = xs := by rw [← htk, List.take_of_length_le (by rw [Array.length_toList, hsz]; exact Nat.le_refl _)]
    rw [← e2]
theorem zPl_ok : zPl.ok := ⟨rfl, by decide, by decide⟩
def zPC : Array Value := #[.int .u8 0, .int .u8 0, .int .u8 0, .int .u8 0, .int .u8 0, .int .u8 0, .int .u8 0, .int .u8 0, .int .i64 0, .bool false]
theorem made_places (n : Nat) : (madeCells zPC (n * 10)).toList = tRow (List.replicate n zPl) := by
  have hok : ∀ p ∈ List.replicate n zPl, p.ok := fun p hp => by rw [(List.mem_replicate.1 hp).2]; exact zPl_ok
  apply List.ext_getElem?
  intro i
  by_cases hi : i < n * 10
  · have hq : i / 10 < n := by omega
    have h1 : (List.replicate n zPl)[i / 10]? = some zPl := by rw [List.getElem?_replicate, if_pos hq]
    have hz : ∀ j : Fin 10, zPl.row[j.val]? = some (zPC[j.val]!) := by
      rintro ⟨j, hj⟩
      rcases (by omega : j = 0 ∨ j = 1 ∨ j = 2 ∨ j = 3 ∨ j = 4 ∨ j = 5 ∨ j = 6 ∨ j = 7 ∨ j = 8 ∨ j = 9) with rfl | rfl | rfl | rfl | rfl | rfl | rfl | rfl | rfl | rfl <;> rfl
    have h2 := tRow_get hok h1 (i % 10) _ (hz ⟨i % 10, by omega⟩)
    rw [show i / 10 * 10 + i % 10 = i by omega] at h2
    rw [h2]
    simp only [madeCells, Array.toList_map, Array.toList_range]
    rw [List.getElem?_map, List.getElem?_range hi]
    rfl
  · rw [List.getElem?_eq_none (by simp [madeCells]; omega), List.getElem?_eq_none (by rw [tRow_len hok, List.length_replicate]; omega)]
set_option maxRecDepth 100000 in
theorem infoPlace : (Try.prog.info? 58).map (fun i => (i.zero, i.size, i.bytes)) = some (some (.agg zPC), 10, 24) := by kernel_rfl

def plcF : Nat → Nat → Int → Nat
  | 0, N, _ => N
  | f + 1, N, n => if (N : Int) < n ∧ N < 4096 then plcF f (2 * N) n else N
def plc (n : Int) : Nat := plcF 9 8 n
theorem plcF_pow : ∀ (f k : Nat) (n : Int), 3 ≤ k → k + f ≤ 12 → ∃ j, 3 ≤ j ∧ j ≤ 12 ∧ plcF f (2 ^ k) n = 2 ^ j
  | 0, k, n, h, h2 => ⟨k, h, by omega, rfl⟩
  | f + 1, k, n, h, h2 => by
    rw [plcF]
    split
    · have := plcF_pow f (k + 1) n (by omega) (by omega)
      rw [Nat.pow_succ, Nat.mul_comm] at this
      exact this
    · exact ⟨k, h, by omega, rfl⟩
theorem plc_pow (n : Int) : ∃ k, 3 ≤ k ∧ k ≤ 12 ∧ plc n = 2 ^ k := plcF_pow 9 3 n (by omega) (by omega)
/-- where a loop over the powers stands. -/
structure At2 (n : Int) (N : Nat) : Prop where
  st : ∃ f k, 3 ≤ k ∧ k + f = 12 ∧ N = 2 ^ k ∧ plcF f N n = plc n
theorem At2.start (n : Int) : At2 n 8 := ⟨9, 3, by omega, by omega, rfl, rfl⟩
theorem At2.step {n : Int} {N : Nat} (h : At2 n N) (h1 : (N : Int) < n ∧ N < 4096) : At2 n (N * 2) ∧ N * 2 ≤ 4096 := by
  obtain ⟨f, k, h3, h12, hN, hp⟩ := h.st
  have hk : k < 12 := by
    rcases Nat.lt_or_ge k 12 with h | h
    · exact h
    · obtain rfl : k = 12 := by omega
      rw [hN] at h1; have := h1.2; omega
  obtain ⟨f', rfl⟩ : ∃ f', f = f' + 1 := ⟨f - 1, by omega⟩
  rw [plcF, if_pos h1, Nat.mul_comm] at hp
  refine ⟨⟨f', k + 1, by omega, by omega, by rw [hN, Nat.pow_succ], hp⟩, ?_⟩
  have : 2 ^ (k + 1) ≤ 2 ^ 12 := Nat.pow_le_pow_right (by omega) (by omega)
  rw [hN, ← Nat.pow_succ]; omega
theorem At2.stop {n : Int} {N : Nat} (h : At2 n N) (h1 : ¬ ((N : Int) < n ∧ N < 4096)) : plc n = N := by
  obtain ⟨f, k, h3, h12, hN, hp⟩ := h.st
  cases f with
  | zero => rw [← hp]; rfl
  | succ f => rw [plcF, if_neg h1] at hp; exact hp.symm
theorem At2.bd {n : Int} {N : Nat} (h : At2 n N) : 8 ≤ N ∧ N ≤ 4096 := by
  obtain ⟨f, k, h3, h12, hN, hp⟩ := h.st
  exact pow_bd ⟨k, h3, by omega, hN⟩

def NewR (n : Int) (w : World) (e : Ending) (w' : World) : Prop :=
  Below w.heap.size w w' ∧ ∃ p g, e = .returned (.pointer (some ⟨p, 0, none⟩)) ∧ w.heap.size ≤ p ∧ w.heap.size ≤ g ∧ Tab w' (plc n) (List.replicate (plc n) zPl) p g
set_option maxRecDepth 100000 in
set_option maxHeartbeats 4000000 in
theorem tnew_any (w : World) (n : Int) (hn : -9223372036854775808 ≤ n ∧ n ≤ 9223372036854775807) : Calls Try.prog 7 #[.int .i64 n] w (NewR n w) := by
  obtain ⟨i0, hi, hz0, hz1, hz2⟩ := info_parts infoPlace
  have HI := Lib.hid hi; have HZ0 := Lib.hid hz0; have HZ1 := Lib.hid hz1; have HZ2 := Lib.hid hz2
  clear hi hz0 hz1 hz2
  go_enter Try.func7, Try.ntmps7
  go_wp2_with fail
  go_loop [3] (fun s => ∃ N : Nat, s = .int .i64 N ∧ At2 n N) (fun s => 4096 - (intOf s).toNat)
  case atStart => exact ⟨8, rfl, At2.start n⟩
  case round =>
    obtain ⟨N, rfl, hA⟩ := hrel
    have hb := hA.bd
    have HA := Lib.hid hA
    clear hA
    by_cases hlt : (N : Int) < n ∧ N < 4096
    · have HS := Lib.hid (HA.out.step hlt)
      obtain ⟨h1, h2⟩ := hlt
      have hm1 : (N : Int) < (if 4096 < n then 4096 else n) := by split <;> omega
      go_wp2
      exact ⟨⟨N * 2, by go_num, HS.out.1⟩, by simp [intOf]; have := HS.out.2; omega⟩
    · have hge : (if 4096 < n then 4096 else n) ≤ (N : Int) := by split <;> omega
      have HP := Lib.hid (HA.out.stop hlt)
      clear hlt HA
      have HBY : Hid (i0.bytes * N ≤ 281474976710656) := Lib.hid (by rw [HZ2.out]; omega)
      go_wp2_with (first | (at_make; refine wpList_make_full _ rfl _ _ 50 rfl w.heap.size 58 i0 (.agg zPC) 10 Try.underlying50 HI.out HZ0.out HZ1.out .i64 .i64 _ _ N rfl rfl rfl rfl HBY.out (by unfold maxLen; omega) (Nat.le_refl _) ?_; intro w1 hown hgr; have hrow := own_fullS hown; rw [show (Value.agg zPC).cells = zPC from rfl, made_places] at hrow; have HROW := Lib.hid hrow; have HL := Lib.hid (below_of_none hgr); have HSZ := Lib.hid (lt_of_block hrow); clear hrow hown hgr) | fail)
      all_goals (
        go_ret
        have hb1 := (Below.refl w1.heap.size w1).alloc (Nat.le_refl _) (.cells #[.slice (some ⟨w.heap.size, 0, none⟩) N N, .int .i64 0] 52)
        refine ⟨bl_next HL.out HL.out.size hb1, w1.heap.size, w.heap.size, rfl, HL.out.size, Nat.le_refl _, ?_⟩
        rw [HP.out]
        refine ⟨TInv.new N hb.1, fun p hp => by rw [(List.mem_replicate.1 hp).2]; exact zPl_ok, ?_, ?_, bl_row hb1 HSZ.out HROW.out, ?_⟩
        · rw [← HP.out]; exact plc_pow n
        · have := HSZ.out; omega
        · rw [show (List.replicate N zPl).countP (·.u) = 0 by rw [List.countP_eq_zero]; intro p hp; rw [(List.mem_replicate.1 hp).2]; decide]
          exact heap_alloc_new w1 _)
set_option maxRecDepth 100000 in
/-- the law's own count of places. -/
theorem places_any (w : World) (n : Int) (hn : -9223372036854775808 ≤ n ∧ n ≤ 9223372036854775807) : Calls Try.prog 26 #[.int .i64 n] w fun e w' => e = .returned (.int .i64 (plc n : Nat)) ∧ w' = w := by
  go_enter Try.func26, Try.ntmps26
  go_wp2_with fail
  go_loop [3] (fun s => ∃ N : Nat, s = .int .i64 N ∧ At2 n N) (fun s => 4096 - (intOf s).toNat)
  case atStart => exact ⟨8, rfl, At2.start n⟩
  case round =>
    obtain ⟨N, rfl, hA⟩ := hrel
    have hb := hA.bd
    have HA := Lib.hid hA
    clear hA
    by_cases hlt : (N : Int) < n ∧ N < 4096
    · have HS := Lib.hid (HA.out.step hlt)
      obtain ⟨h1, h2⟩ := hlt
      go_wp2
      go_round
      case rel => exact ⟨N * 2, by go_num, HS.out.1⟩
      case measure => simp [intOf]; have := HS.out.2; omega
    · have HP := Lib.hid (HA.out.stop hlt)
      by_cases h1 : (N : Int) < n
      · have h2 : ¬ N < 4096 := fun h => hlt ⟨h1, h⟩
        clear hlt HA
        go_wp2
        go_ret
        exact ⟨by rw [HP.out]; rfl, rfl⟩
      · clear hlt HA
        go_wp2
        go_ret
        exact ⟨by rw [HP.out]; rfl, rfl⟩
end Go.Proofs.Ytpngjokjjpdboaa
