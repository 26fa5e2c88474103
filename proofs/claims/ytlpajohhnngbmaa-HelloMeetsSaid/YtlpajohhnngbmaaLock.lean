/- contracts of lock: Derive, Next, row; Clone. -/
import Derived.Test.YtlpajohhnngbmaaMix
import Derived.Test.YtlpajohhnngbmaaGrow2
import Derived.Lib.ConvBytes
namespace Go.Proofs.Ytlpajohhnngbmaa
open Go.RowKit
set_option linter.unusedVariables false

set_option maxRecDepth 100000 in
theorem clone_any8 (w : World) (a : Option Addr) (len cap : Nat) (bs : List Int) (hlen : len ≤ 140737488355328) (hI : IntsK .u8 w a len bs) :
    Calls Try.prog 26 #[.slice a len cap] w fun e w' => ∃ v, e = .returned v ∧ Below w.heap.size w w' ∧ w'.ownsRow w.heap.size 5 1 v len (bs.map (Value.int .u8)) := by
  have HI := Lib.hid hI; clear hI
  cases a with
  | none =>
    have hl : len = 0 := by
      rcases HI.out.2.2 with h | ⟨b, off, h, _⟩
      · exact h
      · cases h
    subst hl
    obtain rfl : bs = [] := List.eq_nil_of_length_eq_zero HI.out.1
    go_enter Try.func26, Try.ntmps26
    have hq : (binOp .eql 31 (.slice none 0 cap) (.slice none 0 0)).run Try.prog w = .ok (.bool true) w := by kernel_rfl
    go_wp2_with fail
    go_ret
    exact ⟨_, rfl, Below.refl _ _, World.ownsRow_nil _ _ _ _⟩
  | some ad =>
    have hq : (binOp .eql 31 (.slice (some ad) len cap) (.slice none 0 0)).run Try.prog w = .ok (.bool false) w := by kernel_rfl
    go_enter Try.func26, Try.ntmps26
    go_wp2_with (first | (at_builtin; refine wpList_append_bytes rfl _ _ rfl w.heap.size 0 (.slice (some ⟨w.heap.size, 0, none⟩) 0 0) [] rfl (World.ownsRow_made _ _ _ (Nat.le_refl _) (by unfold maxLen; omega) (by rfl)) _ _ _ _ rfl (HI.out.below ((Below.refl _ _).alloc (Nat.le_refl _) _)) (by omega) (by simp) ?_; intro v1 w1 hown1 hgrow1; have HO := Lib.hid hown1; have HL := Lib.hid (((Below.refl w.heap.size w).alloc (Nat.le_refl _) _).grown hgrow1 (by simp) (by intro k hk; simp [Value.ownBlock] at hk; omega)); clear hown1 hgrow1) | fail)
    go_ret
    exact ⟨_, rfl, HL.out, by simpa using HO.out⟩

/-- the bytes of a text, as numbers -/
def natsOf (s : ByteArray) : List Int := s.data.toList.map fun b => (b.toNat : Int)
theorem natsOf_len (s : ByteArray) : (natsOf s).length = s.size := by unfold natsOf; rw [List.length_map, Array.length_toList]; rfl
theorem natsOf_wf (s : ByteArray) : ∀ x ∈ natsOf s, (Lit.int .u8 x).wf = true := by
  intro x hx
  obtain ⟨b, _, rfl⟩ := List.mem_map.1 hx
  have h := b.toNat_lt
  generalize b.toNat = n at h
  have h2 : n < 256 := h
  exact wf_u8_of (by omega) (by omega)
theorem conv_str (w : World) (s : ByteArray) : ∃ cap W1, (convert 9 31 (.string s)).run Try.prog w = .ok (.slice (some ⟨w.heap.size, 0, none⟩) s.size cap) W1 ∧ IntsK .u8 W1 (some ⟨w.heap.size, 0, none⟩) s.size (natsOf s) ∧ Below w.heap.size w W1 := by
  refine ⟨_, _, Lib.run_convert_string_bytes w 9 31 5 s Try.underlying9 Try.underlying31 Try.underlying5, ?_, ?_⟩
  · refine ⟨natsOf_len s, natsOf_wf s, .inr ⟨w.heap.size, 0, rfl, by rw [Lib.bytesWorld_size]; omega, fun i hi => ?_⟩⟩
    rw [Nat.zero_add, Lib.bytesWorld_cell w _ s i hi]
    have hl : i < s.data.toList.length := by rw [Array.length_toList]; exact hi
    simp [natsOf, List.getD_eq_getElem?_getD, List.getElem?_map, List.getElem?_eq_getElem hl]
  · exact ⟨rfl, rfl, rfl, by rw [Lib.bytesWorld_size]; omega, fun k hk => Lib.bytesWorld_at_old w _ s k hk⟩

set_option maxRecDepth 100000 in
theorem derive_any (w : World) (secret : Int) (s : ByteArray) (hs : s.size ≤ 9223372036854775807) : Makes Try.prog 28 #[.int .u64 secret, .string s] w (.int .u64 (keyedM secret (natsOf s))) := by
  obtain ⟨cap, W1, hconv, hi, hb⟩ := conv_str w s
  have HI := Lib.hid hi; have HB := Lib.hid hb
  clear hi hb
  go_enter Try.func28, Try.ntmps28
  go_wp2_with fail
  refine Calls.mono (keyed_any _ _ _ _ _ _ hs HI.out) ?_
  rintro e w2 ⟨rfl, n, rfl⟩
  go_wp2_with fail
  go_ret
  exact ⟨rfl, bl_drewN HB.out _⟩
set_option maxRecDepth 100000 in
theorem rderive_any (w : World) (secret : Int) (s : ByteArray) (hs : s.size ≤ 9223372036854775807) : Makes Try.prog 30 #[.int .u64 secret, .string s] w (.int .u64 (keyedM secret (natsOf s))) := by
  obtain ⟨cap, W1, hconv, hi, hb⟩ := conv_str w s
  have HI := Lib.hid hi; have HB := Lib.hid hb
  clear hi hb
  go_enter Try.func30, Try.ntmps30
  go_wp2_with fail
  refine Calls.mono (rkeyed_any _ _ _ _ _ _ hs HI.out) ?_
  rintro e w2 ⟨rfl, n, rfl⟩
  go_wp2_with fail
  go_ret
  exact ⟨rfl, bl_drewN HB.out _⟩
end Go.Proofs.Ytlpajohhnngbmaa
