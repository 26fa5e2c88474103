/- params: contracts of the reference's Right, known, slices.Contains, number. -/
import Derived.Test.YtlpajohhnngbmaaPrm
namespace Go.Proofs.Ytlpajohhnngbmaa
open Go.RowKit
set_option linter.unusedVariables false

set_option maxRecDepth 100000 in
theorem rright_any (w : World) (p : Pm) (hl : p.f.length = 8) : Makes Try.prog 22 #[p.val] w (.bool (rightM p)) := by
  obtain ⟨i, d, s, m, f⟩ := p
  obtain ⟨x0, x1, x2, x3, x4, x5, x6, x7, rfl⟩ := len8 hl
  show Makes Try.prog 22 #[.agg #[.int .u64 i, .int .u64 d, .int .u64 s, .int .u64 m, .int .u8 x0, .int .u8 x1, .int .u8 x2, .int .u8 x3, .int .u8 x4, .int .u8 x5, .int .u8 x6, .int .u8 x7]] w (.bool (rightM ⟨i, d, s, m, [x0, x1, x2, x3, x4, x5, x6, x7]⟩))
  by_cases h : d ≤ 1099511627776 ∧ s ≤ 1099511627776 ∧ m ≤ 1048576 ∧ i ≤ 1073741824
  · rw [(rightM_eq ⟨i, d, s, m, _⟩).2 h]
    obtain ⟨h1, h2, h3, h4⟩ := h
    go_enter Try.func22, Try.ntmps22
    go_wp2_with fail
    go_ret
    exact ⟨rfl, (Below.refl _ _).alloc (Nat.le_refl _) _⟩
  · rw [rightM_no ⟨i, d, s, m, _⟩ h]
    by_cases h1 : d ≤ 1099511627776
    · by_cases h2 : s ≤ 1099511627776
      · by_cases h3 : m ≤ 1048576
        · have h4 : ¬ i ≤ 1073741824 := fun h4 => h ⟨h1, h2, h3, h4⟩
          clear h
          go_enter Try.func22, Try.ntmps22
          go_wp2_with fail
          go_ret
          exact ⟨rfl, (Below.refl _ _).alloc (Nat.le_refl _) _⟩
        · clear h
          go_enter Try.func22, Try.ntmps22
          go_wp2_with fail
          go_ret
          exact ⟨rfl, (Below.refl _ _).alloc (Nat.le_refl _) _⟩
      · clear h
        go_enter Try.func22, Try.ntmps22
        go_wp2_with fail
        go_ret
        exact ⟨rfl, (Below.refl _ _).alloc (Nat.le_refl _) _⟩
    · clear h
      go_enter Try.func22, Try.ntmps22
      go_wp2_with fail
      go_ret
      exact ⟨rfl, (Below.refl _ _).alloc (Nat.le_refl _) _⟩

def knownId (n : Int) : Bool := decide (n = 0 ∨ n = 1 ∨ n = 4 ∨ n = 5 ∨ n = 8)
set_option maxRecDepth 100000 in
theorem pknown_any (w : World) (n : Int) : Calls Try.prog 71 #[.int .u64 n] w fun e w' => e = .returned (.bool (knownId n)) ∧ w = w' := by
  by_cases h0 : n = 0
  · subst h0
    go_enter Try.func71, Try.ntmps71
    go_wp2_with fail
    go_ret
    exact ⟨rfl, rfl⟩
  by_cases h1 : n = 1
  · subst h1
    go_enter Try.func71, Try.ntmps71
    go_wp2_with fail
    go_ret
    exact ⟨rfl, rfl⟩
  by_cases h4 : n = 4
  · subst h4
    go_enter Try.func71, Try.ntmps71
    go_wp2_with fail
    go_ret
    exact ⟨rfl, rfl⟩
  by_cases h5 : n = 5
  · subst h5
    go_enter Try.func71, Try.ntmps71
    go_wp2_with fail
    go_ret
    exact ⟨rfl, rfl⟩
  by_cases h8 : n = 8
  · subst h8
    go_enter Try.func71, Try.ntmps71
    go_wp2_with fail
    go_ret
    exact ⟨rfl, rfl⟩
  have hk : knownId n = false := by unfold knownId; simp only [decide_eq_false_iff_not]; omega
  rw [hk]
  have HK := Lib.hid hk
  have b0 : (n == 0) = false := by simpa using h0
  have b1 : (n == 1) = false := by simpa using h1
  have b4 : (n == 4) = false := by simpa using h4
  have b5 : (n == 5) = false := by simpa using h5
  have b8 : (n == 8) = false := by simpa using h8
  clear hk h0 h1 h4 h5 h8
  go_enter Try.func71, Try.ntmps71
  go_wp2_with fail
  go_ret
  exact ⟨rfl, rfl⟩

def IdxOf (ids : List Int) (v : Int) (w : World) (e : Ending) (w' : World) : Prop := ∃ r : Int, e = .returned (.int .i64 r) ∧ (0 ≤ r ↔ v ∈ ids) ∧ w = w'
theorem take_mem_succ (ids : List Int) (j : Nat) (v : Int) (h : j < ids.length) : v ∈ ids.take (j + 1) ↔ v ∈ ids.take j ∨ v = ids.getD j 0 := by
  rw [List.take_succ_eq_append_getElem h, List.mem_append, List.getD_eq_getElem?_getD, List.getElem?_eq_getElem h]; simp
set_option maxRecDepth 100000 in
theorem index_any (w : World) (a : Option Addr) (len cap : Nat) (ids : List Int) (v : Int) (hlen : len ≤ 4611686018427387904) (hI : IntsK .u64 w a len ids) :
    Calls Try.prog 83 #[.slice a len cap, .int .u64 v] w (IdxOf ids v w) := by
  have HI := Lib.hid hI
  have hl := hI.1
  clear hI
  go_enter Try.func83, Try.ntmps83
  go_wp2_with fail
  go_loop [8] (fun s8 => ∃ j : Nat, s8 = .int .i64 j ∧ j ≤ len ∧ Hid (¬ v ∈ ids.take j)) (fun s8 => len - (intOf s8).toNat)
  case atStart => exact ⟨0, rfl, by omega, Lib.hid (by simp)⟩
  case round =>
    obtain ⟨j, rfl, hj, HN⟩ := hrel
    by_cases hlt : j < len
    · obtain ⟨b, off, x, rfl, hbl, hx, hwx, hc⟩ := HI.out.at (Below.refl _ _) (j := j) hlt
      have hs := take_mem_succ ids j v (by omega)
      rw [← hx] at hs
      have HSS := Lib.hid hs
      clear hx hs hwx
      by_cases hv : v = x
      · subst hv
        have HIN : Hid (v ∈ ids) := Lib.hid (List.mem_of_mem_take (HSS.out.2 (.inr rfl)))
        go_wp2_with fail
        go_ret
        exact ⟨j, rfl, ⟨fun _ => HIN.out, fun _ => by omega⟩, rfl⟩
      · have hb : (v == x) = false := by simpa using hv
        have HV := Lib.hid hv
        clear hv
        go_wp2_with fail
        go_round
        case rel => exact ⟨j + 1, by go_num, by omega, Lib.hid (fun h => by rcases HSS.out.1 h with h | h; exact HN.out h; exact HV.out h)⟩
        case measure => simp [intOf]; omega
    · obtain rfl : j = len := by omega
      have HNI : Hid (¬ v ∈ ids) := Lib.hid (by have h := HN.out; rw [List.take_of_length_le (by omega)] at h; exact h)
      go_wp2_with fail
      go_ret
      exact ⟨-1, rfl, ⟨fun h => by omega, fun h => absurd h HNI.out⟩, rfl⟩
set_option maxRecDepth 100000 in
theorem contains_any (w : World) (a : Option Addr) (len cap : Nat) (ids : List Int) (v : Int) (hlen : len ≤ 4611686018427387904) (hI : IntsK .u64 w a len ids) :
    Calls Try.prog 72 #[.slice a len cap, .int .u64 v] w fun e w' => e = .returned (.bool (decide (v ∈ ids))) ∧ w = w' := by
  have HI := Lib.hid hI; clear hI
  go_enter Try.func72, Try.ntmps72
  go_wp2_with fail
  refine Calls.mono (index_any w a len cap ids v hlen HI.out) ?_
  rintro e w1 ⟨r, rfl, hr, rfl⟩
  have HR : Hid (decide (0 ≤ r) = decide (v ∈ ids)) := Lib.hid (decide_eq_decide.2 hr)
  clear hr
  go_wp2_with fail
  go_ret
  exact ⟨by rw [HR.out]; rfl, rfl⟩
end Go.Proofs.Ytlpajohhnngbmaa
