/- contracts of narthexbook and narthexkeep: Within, Cut, Roomy, Same, Intact at bytes. -/
import Derived.Test.YtjkedccbieoenaaBase
import Derived.Laws.CopyOwn
namespace Go.Proofs.Ytjkedccbieoenaa
open Go.RowKit
set_option linter.unusedVariables false

def within (n lo hi : Int) : Int := if lo ≤ n ∧ n ≤ hi then n else lo + n % (hi - lo + 1)
theorem within_in (n lo hi : Int) (h : lo ≤ hi) : lo ≤ within n lo hi ∧ within n lo hi ≤ hi := by
  unfold within
  split
  · omega
  · have := Int.emod_nonneg n (show hi - lo + 1 ≠ 0 by omega)
    have := Int.emod_lt_of_pos n (show 0 < hi - lo + 1 by omega)
    omega
theorem tmod_emod (n d : Int) (hd : 0 < d) : (if n.tmod d < 0 then n.tmod d + d else n.tmod d) = n % d := by
  rcases Int.lt_or_le n 0 with h | h
  · by_cases hz : n.tmod d = 0
    · rw [hz]; simp
      have : d ∣ n := Int.dvd_of_tmod_eq_zero hz
      exact (Int.emod_eq_zero_of_dvd this).symm
    · have hn : n.tmod d < 0 := by
        have h2 := Int.neg_tmod n d
        have h3 := Int.tmod_nonneg d (show 0 ≤ -n by omega)
        omega
      rw [if_pos hn]
      have e := Int.tmod_add_mul_tdiv n d
      have hl : -d < n.tmod d := by
        have := Int.lt_tmod_of_pos n hd
        omega
      have : (n.tmod d + d) % d = n % d := by
        rw [Int.add_emod_right]
        conv => rhs; rw [← e]
        simp
      rw [← this, Int.emod_eq_of_lt (by omega) (by omega)]
  · rw [Int.tmod_eq_emod_of_nonneg h, if_neg]
    have := Int.emod_nonneg n (show d ≠ 0 by omega)
    omega

set_option maxRecDepth 100000 in
set_option maxHeartbeats 400000 in
theorem within_any (w : World) (n lo hi : Int) (h : lo ≤ hi) (hlo : -1125899906842624 ≤ lo) (hhi : hi ≤ 1125899906842624) (hn : -9223372036854775808 ≤ n ∧ n ≤ 9223372036854775807) :
    Calls Try.prog 9 #[.int .i64 n, .int .i64 lo, .int .i64 hi] w fun e w' => e = .returned (.int .i64 (within n lo hi)) ∧ w = w' := by
  by_cases h1 : lo ≤ n ∧ n ≤ hi
  · have e : within n lo hi = n := by unfold within; rw [if_pos h1]
    have E := Lib.hid e; clear e
    obtain ⟨h1, h2⟩ := h1
    go_enter Try.func9, Try.ntmps9
    go_wp2
    go_ret
    exact ⟨by rw [E.out]; rfl, rfl⟩
  · have hm := tmod_emod n (hi - lo + 1) (by omega)
    have hb1 := Int.tmod_lt_of_pos n (show 0 < hi - lo + 1 by omega)
    have hb2 := Int.lt_tmod_of_pos n (show 0 < hi - lo + 1 by omega)
    obtain ⟨r, hr⟩ : ∃ r, n.tmod (hi - lo + 1) = r := ⟨_, rfl⟩
    rw [hr] at hm hb1 hb2
    have e : within n lo hi = lo + (if r < 0 then r + (hi - lo + 1) else r) := by unfold within; rw [if_neg h1, hm]
    have E := Lib.hid e; clear e hm
    by_cases hlt : r < 0
    all_goals
      by_cases h3 : lo ≤ n
      · have h4 : hi < n := by omega
        clear h1
        go_enter Try.func9, Try.ntmps9
        go_wp2
        go_ret
        refine ⟨ret_int ?_, rfl⟩
        rw [E.out]
        first | (rw [if_pos hlt]; omega) | (rw [if_neg (by omega)])
      · clear h1
        go_enter Try.func9, Try.ntmps9
        go_wp2
        go_ret
        refine ⟨ret_int ?_, rfl⟩
        rw [E.out]
        first | (rw [if_pos hlt]; omega) | (rw [if_neg (by omega)])
theorem IntsK.take {k : IntKind} {w : World} {a : Option Addr} {len : Nat} {zs : List Int} (h : IntsK k w a len zs) (n : Nat) (hn : n ≤ len) : IntsK k w a n (zs.take n) := by
  refine ⟨by rw [List.length_take, h.1]; omega, fun x hx => h.2.1 x (List.mem_of_mem_take hx), ?_⟩
  rcases h.2.2 with h0 | ⟨b, off, rfl, hbl, hc⟩
  · exact .inl (by omega)
  · refine .inr ⟨b, off, rfl, hbl, fun i hi => ?_⟩
    rw [hc i (by omega)]
    simp [List.getD_eq_getElem?_getD, hi]
set_option maxRecDepth 100000 in
theorem infoU8 : (Try.prog.info? 5).map (fun i => (i.zero, i.size, i.bytes)) = some (some (.int .u8 0), 1, 1) := by kernel_rfl
set_option maxRecDepth 100000 in
theorem infoU8s : (Try.prog.info? 5).map (·.size) = some 1 := by kernel_rfl
theorem own_full {w : World} {base e g n : Nat} {xs : List Value} (h : w.ownsRow base e 1 (.slice (some ⟨g, 0, none⟩) n n) n xs) : w.heap[g]? = some (.cells xs.toArray e (0, 0)) := by
  rcases h.2 with ⟨h1, _⟩ | ⟨g', cap, cur, hv, hg, hh, hn, hc, hcs, ht⟩
  · cases h1
  · injection hv with h1 h2 h3
    injection h1 with h1
    injection h1 with h1
    subst h1; subst h3
    rw [hh, ← ht]
    rw [List.take_of_length_le (by simp; omega)]
end Go.Proofs.Ytjkedccbieoenaa
