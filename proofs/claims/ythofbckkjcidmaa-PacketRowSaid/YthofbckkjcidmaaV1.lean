/- texts of the proof, laid together: Mix, Lock, Lock2, Lock3, Lock4, Lock5, Lock6, Lock7, Lock8, Lock9, LockA, LockD, LockE, LockF. -/
import Derived.Test.YthofbckkjcidmaaMixM
import Derived.Test.YthofbckkjcidmaaGrow2
import Derived.Lib.ConvBytes
import Derived.Deep.DeepCutAuto
import Derived.Deep.CutBlock
import Derived.Test.YthofbckkjcidmaaRegion
import Derived.Lib.Bytes
import Derived.Lib.SlBytesConst
namespace Go.Proofs.Ythofbckkjcidmaa
open Go.RowKit
set_option linter.unusedVariables false

set_option maxRecDepth 100000 in
theorem end_any (w : World) (h : Int) : Quiet Try.prog 74 #[.int .u64 h] w (.int .u64 (endM h)) := by
  refine Quiet.same ?_
  go_enter Try.func74, Try.ntmps74
  go_wp2
  go_ret
  exact ⟨rfl, rfl⟩
set_option maxRecDepth 100000 in
theorem rend_any (w : World) (h : Int) : Quiet Try.prog 89 #[.int .u64 h] w (.int .u64 (endM h)) := by
  refine Quiet.same ?_
  go_enter Try.func89, Try.ntmps89
  go_wp2
  go_ret
  exact ⟨rfl, rfl⟩
set_option maxRecDepth 100000 in
theorem rot_any (w : World) (n k : Int) : Quiet Try.prog 73 #[.int .u64 n, .int .i64 k] w (.int .u64 (rotM n k)) := by
  have ha := and63 k
  have h1 := Int.emod_nonneg k (show (64 : Int) ≠ 0 by omega)
  have h2 := Int.emod_lt_of_pos k (show (0 : Int) < 64 by omega)
  have e : rotM n k = bits .or .u64 (IntKind.u64.wrap (n * 2 ^ (k % 64).toNat)) (n / 2 ^ (64 - k % 64).toNat) := rfl
  obtain ⟨r, hr⟩ : ∃ r, k % 64 = r := ⟨_, rfl⟩
  rw [hr] at ha h1 h2 e
  have E := Lib.hid e; clear e hr
  go_enter Try.func73, Try.ntmps73
  go_wp2
  go_quiet (fail)
  go_wp2
  go_ret
  refine ⟨?_, _, rfl⟩
  rw [E.out]; rfl
theorem tmod64 (k : Int) : (k.tmod 64 + 64).tmod 64 = k % 64 := by
  have h1 := Int.tmod_lt_of_pos k (show (0 : Int) < 64 by omega)
  have h2 := Int.lt_tmod_of_pos k (show (0 : Int) < 64 by omega)
  rw [Int.tmod_eq_emod_of_nonneg (by omega)]
  have h3 := Int.tmod_add_mul_tdiv k 64
  omega
set_option maxRecDepth 100000 in
theorem rrot_any (w : World) (n k : Int) : Quiet Try.prog 88 #[.int .u64 n, .int .i64 k] w (.int .u64 (rotM n k)) := by
  have h1 := Int.emod_nonneg k (show (64 : Int) ≠ 0 by omega)
  have h2 := Int.emod_lt_of_pos k (show (0 : Int) < 64 by omega)
  have h3 := Int.tmod_lt_of_pos k (show (0 : Int) < 64 by omega)
  have h4 := Int.lt_tmod_of_pos k (show (0 : Int) < 64 by omega)
  have ha := tmod64 k
  have e : rotM n k = bits .or .u64 (IntKind.u64.wrap (n * 2 ^ (k % 64).toNat)) (n / 2 ^ (64 - k % 64).toNat) := rfl
  obtain ⟨r, hr⟩ : ∃ r, k % 64 = r := ⟨_, rfl⟩
  obtain ⟨q, hq⟩ : ∃ q, k.tmod 64 = q := ⟨_, rfl⟩
  rw [hq, Int.tmod_eq_emod_of_nonneg (by omega)] at ha
  rw [hr] at ha h1 h2 e
  rw [hq] at h3 h4
  have E := Lib.hid e; clear e hr
  refine Quiet.same ?_
  go_enter Try.func88, Try.ntmps88
  go_wp2
  go_ret
  refine ⟨?_, rfl⟩
  rw [E.out]; rfl
set_option maxRecDepth 100000 in
set_option maxHeartbeats 400000 in
theorem keyed_any (w : World) (key : Int) (a : Option Addr) (len cap : Nat) (bs : List Int) (hlen : len ≤ 9223372036854775807) (hb : IntsK .u8 w a len bs) :
    Quiet Try.prog 47 #[.int .u64 key, .slice a len cap] w (.int .u64 (keyedM key bs)) := by
  have HB := Lib.hid hb; clear hb
  go_enter Try.func47, Try.ntmps47
  go_wp2_with fail
  go_loopw [5, 17] (fun h i wr => ∃ (j n : Nat), i = .int .i64 j ∧ j ≤ len ∧ h = .int .u64 ((bs.take j).foldl stepM (startM key len)) ∧ Hid (wr = w.drewN n)) (fun _ i _ => len - (intOf i).toNat)
  case atStart => exact ⟨0, 0, rfl, by omega, rfl, Lib.hid rfl⟩
  case round =>
    obtain ⟨j, n, rfl, hj, rfl, hwr⟩ := hrel
    obtain rfl := hwr.out
    by_cases hlt : j < len
    · obtain ⟨b, off, x, rfl, hbl, hx, hwx, hc⟩ := HB.out.at (Below.refl _ _) hlt
      have hs := foldl_take (f := stepM) (s := startM key len) (l := bs) (j := j) (by rw [HB.out.1]; exact hlt)
      rw [← hx] at hs
      have HS := Lib.hid hs
      have hx2 := bounds_u8 hwx
      clear hs hx hwx
      obtain ⟨h, hh⟩ : ∃ h, (bs.take j).foldl stepM (startM key len) = h := ⟨_, rfl⟩
      rw [hh]
      have HH := Lib.hid hh; clear hh
      go_wp2_with fail
      refine Calls.mono (rot_any _ _ 23) ?_
      rintro e w' ⟨rfl, m, rfl⟩
      go_wp2_with fail
      go_roundw
      case rel => exact ⟨j + 1, n + m, by go_num, by omega, by rw [HS.out, HH.out]; rfl, Lib.hid (by first | rfl | rw [World.drewN_drewN])⟩
      case measure => simp [intOf]; omega
    · obtain rfl : j = len := by omega
      have hk : keyedM key bs = endM ((bs.take j).foldl stepM (startM key j)) := by rw [← HB.out.1, List.take_length]; rfl
      have HK := Lib.hid hk; clear hk
      go_wp2_with fail
      refine Calls.mono (end_any _ _) ?_
      rintro e w' ⟨rfl, m, rfl⟩
      go_wp2_with fail
      go_ret
      refine ⟨?_, n + m, by first | rfl | rw [World.drewN_drewN]⟩
      rw [HK.out]; rfl
set_option maxRecDepth 100000 in
set_option maxHeartbeats 400000 in
theorem rkeyed_any (w : World) (key : Int) (a : Option Addr) (len cap : Nat) (bs : List Int) (hlen : len ≤ 9223372036854775807) (hb : IntsK .u8 w a len bs) :
    Quiet Try.prog 61 #[.int .u64 key, .slice a len cap] w (.int .u64 (keyedM key bs)) := by
  have HB := Lib.hid hb; clear hb
  go_enter Try.func61, Try.ntmps61
  go_wp2_with fail
  go_loopw [5, 6] (fun h i wr => ∃ (j n : Nat), i = .int .i64 j ∧ j ≤ len ∧ h = .int .u64 ((bs.take j).foldl stepM (startM key len)) ∧ Hid (wr = w.drewN n)) (fun _ i _ => len - (intOf i).toNat)
  case atStart => exact ⟨0, 0, rfl, by omega, rfl, Lib.hid rfl⟩
  case round =>
    obtain ⟨j, n, rfl, hj, rfl, hwr⟩ := hrel
    obtain rfl := hwr.out
    by_cases hlt : j < len
    · obtain ⟨b, off, x, rfl, hbl, hx, hwx, hc⟩ := HB.out.at (Below.refl _ _) hlt
      have hs := foldl_take (f := stepM) (s := startM key len) (l := bs) (j := j) (by rw [HB.out.1]; exact hlt)
      rw [← hx] at hs
      have HS := Lib.hid hs
      have hx2 := bounds_u8 hwx
      clear hs hx hwx
      obtain ⟨h, hh⟩ : ∃ h, (bs.take j).foldl stepM (startM key len) = h := ⟨_, rfl⟩
      rw [hh]
      have HH := Lib.hid hh; clear hh
      go_wp2_with fail
      refine Calls.mono (rrot_any _ _ 23) ?_
      rintro e w' ⟨rfl, m, rfl⟩
      go_wp2_with fail
      go_roundw
      case rel => exact ⟨j + 1, n + m, by go_num, by omega, by rw [HS.out, HH.out]; rfl, Lib.hid (by first | rfl | rw [World.drewN_drewN])⟩
      case measure => simp [intOf]; omega
    · obtain rfl : j = len := by omega
      have hk : keyedM key bs = endM ((bs.take j).foldl stepM (startM key j)) := by rw [← HB.out.1, List.take_length]; rfl
      have HK := Lib.hid hk; clear hk
      go_wp2_with fail
      refine Calls.mono (rend_any _ _) ?_
      rintro e w' ⟨rfl, m, rfl⟩
      go_wp2_with fail
      go_ret
      refine ⟨?_, n + m, by first | rfl | rw [World.drewN_drewN]⟩
      rw [HK.out]; rfl
set_option maxRecDepth 100000 in
theorem bytes_any (w : World) (n : Int) : Calls Try.prog 81 #[.int .u64 n] w fun e w' => e = .returned (.agg ((bytesM n).map (Value.int .u8)).toArray) ∧ Below w.heap.size w w' := by
  go_enter Try.func81, Try.ntmps81
  go_wp2_with fail
  refine wp_loop_rounds 9 ?_
  repeat any_goals (rw [rounds_succ]; go_wp2_with fail)
  exact bodyPost_ret (v := .agg ((bytesM n).map (Value.int .u8)).toArray) (by simp [results, Try.results81, go_sem, bytesM]) rfl ⟨rfl, ((Below.refl _ _).alloc (Nat.le_refl _) _).alloc (by simp) _⟩
set_option maxRecDepth 100000 in
theorem rbytes_any (w : World) (n : Int) : Calls Try.prog 91 #[.int .u64 n] w fun e w' => e = .returned (.slice (some ⟨w.heap.size, 0, none⟩) 8 8) ∧
    Fresh w w' (.cells ((bytesM n).map (Value.int .u8)).toArray 5) := by
  have hmk : ∀ w, (Instr.makeSlice 23 (.int .i64 8) (.int .i64 8)).run Try.prog w = .ok (.slice (some ⟨w.heap.size, 0, none⟩) 8 8) (w.alloc (.cells #[.int .u8 0, .int .u8 0, .int .u8 0, .int .u8 0, .int .u8 0, .int .u8 0, .int .u8 0, .int .u8 0] 5)) := fun _ => by kernel_rfl
  go_enter Try.func91, Try.ntmps91
  go_wp2_with fail
  refine wp_loop_rounds 9 ?_
  repeat any_goals (rw [rounds_succ]; go_wp2_with fail)
  go_ret
  exact ⟨rfl, Fresh.of_alloc _ _⟩
end Go.Proofs.Ythofbckkjcidmaa
namespace Go.Proofs.Ythofbckkjcidmaa
open Go.RowKit
set_option linter.unusedVariables false

set_option maxRecDepth 100000 in
theorem clone_any8 (w : World) (a : Option Addr) (len cap : Nat) (bs : List Int) (hlen : len ≤ 140737488355328) (hI : IntsK .u8 w a len bs) :
    Calls Try.prog 28 #[.slice a len cap] w fun e w' => ∃ v, e = .returned v ∧ Below w.heap.size w w' ∧ w'.ownsRow w.heap.size 5 1 v len (bs.map (Value.int .u8)) := by
  have HI := Lib.hid hI; clear hI
  cases a with
  | none =>
    have hl : len = 0 := by
      rcases HI.out.2.2 with h | ⟨b, off, h, _⟩
      · exact h
      · cases h
    subst hl
    obtain rfl : bs = [] := List.eq_nil_of_length_eq_zero HI.out.1
    go_enter Try.func28, Try.ntmps28
    have hq : (binOp .eql 23 (.slice none 0 cap) (.slice none 0 0)).run Try.prog w = .ok (.bool true) w := by kernel_rfl
    go_wp2_with fail
    go_ret
    exact ⟨_, rfl, Below.refl _ _, World.ownsRow_nil _ _ _ _⟩
  | some ad =>
    have hq : (binOp .eql 23 (.slice (some ad) len cap) (.slice none 0 0)).run Try.prog w = .ok (.bool false) w := by kernel_rfl
    go_enter Try.func28, Try.ntmps28
    go_wp2_with (first | (at_builtin; refine wpList_append_bytes rfl _ _ rfl w.heap.size 0 (.slice (some ⟨w.heap.size, 0, none⟩) 0 0) [] rfl (World.ownsRow_made _ _ _ (Nat.le_refl _) (by unfold maxLen; omega) (by rfl)) _ _ _ _ rfl (HI.out.below ((Below.refl _ _).alloc (Nat.le_refl _) _)) (by omega) (by simp) ?_; intro v1 w1 hown1 hgrow1; have HO := Lib.hid hown1; have HL := Lib.hid (((Below.refl w.heap.size w).alloc (Nat.le_refl _) _).grown hgrow1 (by simp) (by intro k hk; simp [Value.ownBlock] at hk; omega)); clear hown1 hgrow1) | fail)
    go_ret
    exact ⟨_, rfl, HL.out, by simpa using HO.out⟩

/-- the bytes of a text, as numbers -/
def natsOf (s : ByteArray) : List Int := s.data.toList.map fun b => (b.toNat : Int)
theorem natsOf_len (s : ByteArray) : (natsOf s).length = s.size := by unfold natsOf; rw [List.length_map, Array.length_toList]; rfl
theorem natsOf_wf (s : ByteArray) : ∀ x ∈ natsOf s, (Lit.int .u8 x).wf = true := by
  intro x hx
  obtain ⟨b, _, rfl⟩ := List.mem_map.1 hx
  have h := b.toNat_lt
  generalize b.toNat = n at h
  have h2 : n < 256 := h
  exact wf_u8_of (by omega) (by omega)
theorem conv_str (w : World) (s : ByteArray) : ∃ cap W1, (convert 9 23 (.string s)).run Try.prog w = .ok (.slice (some ⟨w.heap.size, 0, none⟩) s.size cap) W1 ∧ IntsK .u8 W1 (some ⟨w.heap.size, 0, none⟩) s.size (natsOf s) ∧ Below w.heap.size w W1 := by
  refine ⟨_, _, Lib.run_convert_string_bytes w 9 23 5 s Try.underlying9 Try.underlying23 Try.underlying5, ?_, ?_⟩
  · refine ⟨natsOf_len s, natsOf_wf s, .inr ⟨w.heap.size, 0, rfl, by rw [Lib.bytesWorld_size]; omega, fun i hi => ?_⟩⟩
    rw [Nat.zero_add, Lib.bytesWorld_cell w _ s i hi]
    have hl : i < s.data.toList.length := by rw [Array.length_toList]; exact hi
    simp [natsOf, List.getD_eq_getElem?_getD, List.getElem?_map, List.getElem?_eq_getElem hl]
  · exact ⟨rfl, rfl, rfl, by rw [Lib.bytesWorld_size]; omega, fun k hk => Lib.bytesWorld_at_old w _ s k hk⟩

set_option maxRecDepth 100000 in
theorem derive_any (w : World) (secret : Int) (s : ByteArray) (hs : s.size ≤ 9223372036854775807) : Makes Try.prog 23 #[.int .u64 secret, .string s] w (.int .u64 (keyedM secret (natsOf s))) := by
  obtain ⟨cap, W1, hconv, hi, hb⟩ := conv_str w s
  have HI := Lib.hid hi; have HB := Lib.hid hb
  clear hi hb
  go_enter Try.func23, Try.ntmps23
  go_wp2_with fail
  refine Calls.mono (keyed_any _ _ _ _ _ _ hs HI.out) ?_
  rintro e w2 ⟨rfl, n, rfl⟩
  go_wp2_with fail
  go_ret
  exact ⟨rfl, bl_drewN HB.out _⟩
set_option maxRecDepth 100000 in
theorem rderive_any (w : World) (secret : Int) (s : ByteArray) (hs : s.size ≤ 9223372036854775807) : Makes Try.prog 36 #[.int .u64 secret, .string s] w (.int .u64 (keyedM secret (natsOf s))) := by
  obtain ⟨cap, W1, hconv, hi, hb⟩ := conv_str w s
  have HI := Lib.hid hi; have HB := Lib.hid hb
  clear hi hb
  go_enter Try.func36, Try.ntmps36
  go_wp2_with fail
  refine Calls.mono (rkeyed_any _ _ _ _ _ _ hs HI.out) ?_
  rintro e w2 ⟨rfl, n, rfl⟩
  go_wp2_with fail
  go_ret
  exact ⟨rfl, bl_drewN HB.out _⟩
end Go.Proofs.Ythofbckkjcidmaa
namespace Go.Proofs.Ythofbckkjcidmaa
open Go.RowKit
set_option linter.unusedVariables false

def rowM (ns : List Int) : List Int := ns.flatMap bytesM
theorem rowM_snoc (ns : List Int) (n : Int) : rowM (ns ++ [n]) = rowM ns ++ bytesM n := by simp [rowM]
theorem rowM_len : ∀ ns : List Int, (rowM ns).length = 8 * ns.length
  | [] => rfl
  | n :: ns => by
    have h : rowM (n :: ns) = bytesM n ++ rowM ns := rfl
    rw [h, List.length_append, rowM_len ns]; simp [bytesM]; omega
theorem ints_made8 (w : World) (ys : List Int) (t : TypeId) (hl : ys.length = 8) (hy : ∀ x ∈ ys, (Lit.int .u8 x).wf = true) : IntsK .u8 (w.alloc (.cells (ys.map (Value.int .u8)).toArray t)) (some ⟨w.heap.size, 0, none⟩) 8 ys := by
  have h := IntsK.of_row (k := .u8) (heap_alloc_new w (.cells (ys.map (Value.int .u8)).toArray t)) hy
  rw [hl] at h
  exact h

set_option maxRecDepth 100000 in
set_option maxHeartbeats 1000000 in
theorem row_any (w : World) (a : Option Addr) (len cap : Nat) (ns : List Int) (hlen : len ≤ 1000000) (hI : IntsK .u64 w a len ns) :
    Calls Try.prog 82 #[.slice a len cap] w fun e w' => ∃ v, e = .returned v ∧ Below w.heap.size w w' ∧ w'.ownsRow w.heap.size 5 1 v (8 * len) ((rowM ns).map (Value.int .u8)) := by
  have HI := Lib.hid hI
  have hl := hI.1
  clear hI
  go_enter Try.func82, Try.ntmps82
  go_wp2_with fail
  go_loopw [3, 9] (fun s3 s9 wr => ∃ j : Nat, s9 = .int .i64 j ∧ j ≤ len ∧ Hid (Below w.heap.size w wr) ∧ Hid (wr.ownsRow w.heap.size 5 1 s3 (8 * j) ((rowM (ns.take j)).map (Value.int .u8)))) (fun _ s9 _ => len - (intOf s9).toNat)
  case atStart => exact ⟨0, rfl, by omega, Lib.hid (Below.refl _ _), Lib.hid (World.ownsRow_nil _ _ _ _)⟩
  case round =>
    obtain ⟨j, rfl, hj, HL, HO⟩ := hrel
    obtain ⟨ub, ucp, rfl, _⟩ := own_slice HO.out
    by_cases hlt : j < len
    · obtain ⟨ba, off, x, rfl, hbl, hx, hwx, hc⟩ := HI.out.at HL.out (j := j) hlt
      have htk : ns.take (j + 1) = ns.take j ++ [x] := by
        rw [List.take_succ_eq_append_getElem (by omega), hx, List.getD_eq_getElem?_getD, List.getElem?_eq_getElem (by omega)]; rfl
      have HTK := Lib.hid htk
      clear hx htk
      go_wp2_with fail
      refine Calls.mono (bytes_any wr x) ?_
      rintro e w5 ⟨rfl, hb5⟩
      have hwy := wf_bytes x
      obtain ⟨y0, y1, y2, y3, y4, y5, y6, y7, ey⟩ : ∃ y0 y1 y2 y3 y4 y5 y6 y7, bytesM x = [y0, y1, y2, y3, y4, y5, y6, y7] := ⟨_, _, _, _, _, _, _, _, rfl⟩
      rw [ey] at hwy ⊢
      simp only [List.map_cons, List.map_nil]
      have HEY := Lib.hid ey; have HWY := Lib.hid hwy
      have HBA := Lib.hid (bl_next HL.out HL.out.size (hb5.trans (((Below.refl w5.heap.size w5).alloc (Nat.le_refl _) (.cells ([y0, y1, y2, y3, y4, y5, y6, y7].map (Value.int .u8)).toArray 29)).mono hb5.size)))
      have HOW := Lib.hid (own_below (own_below HO.out hb5) ((Below.refl w5.heap.size w5).alloc (Nat.le_refl _) (.cells ([y0, y1, y2, y3, y4, y5, y6, y7].map (Value.int .u8)).toArray 29)))
      have HIA := Lib.hid (ints_made8 w5 [y0, y1, y2, y3, y4, y5, y6, y7] 29 rfl hwy)
      clear ey hwy hb5 hwx hc
      go_upto_region 6 with fail
      change Code.wp _ _ _ _ (w5.alloc (.cells ([y0, y1, y2, y3, y4, y5, y6, y7].map (Value.int .u8)).toArray 29))
      obtain ⟨g, eg⟩ : ∃ g, w5.heap.size = g := ⟨_, rfl⟩
      have hs6 : w.heap.size ≤ (w5.alloc (.cells ([y0, y1, y2, y3, y4, y5, y6, y7].map (Value.int .u8)).toArray 29)).heap.size := HBA.out.size
      generalize w5.alloc (.cells ([y0, y1, y2, y3, y4, y5, y6, y7].map (Value.int .u8)).toArray 29) = W6 at HBA HOW HIA hs6 ⊢
      rw [eg] at HIA
      go_wp2_with (first | (at_builtin; refine wpList_append_bytes rfl _ _ rfl w.heap.size _ _ _ rfl HOW.out _ _ _ _ rfl HIA.out (by omega) hs6 ?_; intro v7 w7 hown hgrow; have HO7 := Lib.hid hown; have HL7 := Lib.hid (HBA.out.grown hgrow hs6 (own_base HOW.out)); clear hown hgrow) | fail)
      have HO8 : Hid (w7.ownsRow w.heap.size 5 1 v7 (8 * (j + 1)) ((rowM (ns.take (j + 1))).map (Value.int .u8))) := Lib.hid (by
        have h := HO7.out
        rw [← HEY.out, ← rowM_snoc, ← HTK.out] at h
        exact h)
      clear HO7 HOW HIA HBA HO HL
      go_roundw
      case rel => exact ⟨j + 1, by go_num, by omega, HL7, HO8⟩
      case measure => simp [intOf]; omega
    · obtain rfl : j = len := by omega
      go_wp2_with fail
      go_ret
      refine ⟨_, rfl, HL.out, ?_⟩
      have h := HO.out
      rw [List.take_of_length_le (by omega)] at h
      exact h
end Go.Proofs.Ythofbckkjcidmaa
namespace Go.Proofs.Ythofbckkjcidmaa
open Go.RowKit
set_option linter.unusedVariables false

set_option maxRecDepth 100000 in
theorem lockof_any (w : World) (secret : Int) : Makes Try.prog 7 #[.int .u64 secret] w (.agg #[.int .u64 (keyedM secret [115, 101, 97, 108]), .int .u64 (keyedM secret [109, 97, 115, 107])]) := by
  have HD1 := Lib.hid (fun w => derive_any w secret ⟨#[115, 101, 97, 108]⟩ (by decide))
  have HD2 := Lib.hid (fun w => derive_any w secret ⟨#[109, 97, 115, 107]⟩ (by decide))
  go_enter Try.func7, Try.ntmps7
  go_wp2_with fail
  refine Calls.mono (HD1.out _) ?_
  rintro e w2 ⟨rfl, hb⟩
  have HB := Lib.hid hb
  have hs := hb.size
  simp at hs
  have hrow := bl_row hb (by simp) (heap_alloc_new w _)
  have HROW := Lib.hid hrow
  have H2 := Lib.hid (((Below.refl w.heap.size w).alloc (Nat.le_refl _) (.cells #[.int .u64 0, .int .u64 0] 27)).trans (hb.mono (by simp)))
  clear hb hrow
  go_wp2_with fail
  refine Calls.mono (HD2.out _) ?_
  rintro e w3 ⟨rfl, hb3⟩
  have H3 := Lib.hid (bl_next H2.out (by omega) hb3)
  have hrow3 := bl_row hb3 (by omega) HROW.out
  have f0 := row_free hrow3 0
  have f1 := row_free hrow3 1
  have c0 : w3.cell? ⟨w.heap.size, 0, none⟩ = some (.int .u64 0) := row_cell hrow3 0 _ rfl
  have c1 : w3.cell? ⟨w.heap.size, 1, none⟩ = some (.int .u64 0) := row_cell hrow3 1 _ rfl
  have HROW3 := Lib.hid hrow3
  clear hb3 hrow3
  go_wp2_with fail
  have hA := ((At.base HROW3.out).set 0 (.int .u64 (keyedM secret (natsOf ⟨#[115, 101, 97, 108]⟩)))).set 1 (.int .u64 (keyedM secret (natsOf ⟨#[109, 97, 115, 107]⟩)))
  have hbl : Below w.heap.size w _ := (H3.out.setCell (p := ⟨w.heap.size, 0, none⟩) (Nat.le_refl _) (.int .u64 (keyedM secret (natsOf ⟨#[115, 101, 97, 108]⟩)))).setCell (p := ⟨w.heap.size, 1, none⟩) (Nat.le_refl _) (.int .u64 (keyedM secret (natsOf ⟨#[109, 97, 115, 107]⟩)))
  have hrow := hA.row
  generalize ((w3.setCell ⟨w.heap.size, 0, none⟩ (.int .u64 (keyedM secret (natsOf ⟨#[115, 101, 97, 108]⟩)))).setCell ⟨w.heap.size, 1, none⟩ (.int .u64 (keyedM secret (natsOf ⟨#[109, 97, 115, 107]⟩)))) = W at hrow hbl ⊢
  have d0 : W.cell? ⟨w.heap.size, 0, none⟩ = some (.int .u64 (keyedM secret (natsOf ⟨#[115, 101, 97, 108]⟩))) := row_cell hrow 0 _ rfl
  have d1 : W.cell? ⟨w.heap.size, 1, none⟩ = some (.int .u64 (keyedM secret (natsOf ⟨#[109, 97, 115, 107]⟩))) := row_cell hrow 1 _ rfl
  exact bodyPost_ret (v := .agg #[.int .u64 (keyedM secret (natsOf ⟨#[115, 101, 97, 108]⟩)), .int .u64 (keyedM secret (natsOf ⟨#[109, 97, 115, 107]⟩))]) (by simp [results, Try.results7, go_sem, d0, d1]) rfl ⟨rfl, hbl⟩
end Go.Proofs.Ythofbckkjcidmaa
namespace Go.Proofs.Ythofbckkjcidmaa
open Go.RowKit
set_option linter.unusedVariables false

def keyRow (key n : Int) (q : Nat) : List Int := bytesM (keyedM key (rowM [n, (q : Int)]))
theorem keyRow_len (key n : Int) (q : Nat) : (keyRow key n q).length = 8 := by unfold keyRow bytesM; simp
theorem keyRow_wf (key n : Int) (q : Nat) : ∀ x ∈ keyRow key n q, (Lit.int .u8 x).wf = true := wf_bytes _
def turnAt (key n : Int) (bs : List Int) (i : Nat) : Int := bits .xor .u8 (bs.getD i 0) ((keyRow key n (i / 8)).getD (i % 8) 0)
def mixM (key n : Int) (bs : List Int) : Nat → List Int
  | 0 => bs
  | j + 1 => (mixM key n bs j).set j (turnAt key n bs j)
def turnedM (key n : Int) (bs : List Int) : List Int := mixM key n bs bs.length
theorem mixM_len (key n : Int) (bs : List Int) : ∀ j, (mixM key n bs j).length = bs.length
  | 0 => rfl
  | j + 1 => by simp [mixM, mixM_len key n bs j]
theorem mixM_at (key n : Int) (bs : List Int) : ∀ j i, j ≤ i → (mixM key n bs j)[i]? = bs[i]?
  | 0, i, _ => rfl
  | j + 1, i, h => by
    simp only [mixM]
    rw [List.getElem?_set_ne (by omega), mixM_at key n bs j i (by omega)]
theorem mixM_wf (key n : Int) (bs : List Int) (h : ∀ x ∈ bs, (Lit.int .u8 x).wf = true) : ∀ j, ∀ x ∈ mixM key n bs j, (Lit.int .u8 x).wf = true
  | 0, x, hx => h x hx
  | j + 1, x, hx => by
    rcases List.mem_or_eq_of_mem_set hx with h1 | h1
    · exact mixM_wf key n bs h j x h1
    · rw [h1]; exact wf_bits _ _ _ _
theorem ints_made2u (w : World) (x y : Int) (hx : (Lit.int .u64 x).wf = true) (hy : (Lit.int .u64 y).wf = true) : IntsK .u64 (w.alloc (.cells #[.int .u64 x, .int .u64 y] 22)) (some ⟨w.heap.size, 0, none⟩) 2 [x, y] := by
  have h := IntsK.of_row (k := .u64) (zs := [x, y]) (heap_alloc_new w (.cells #[.int .u64 x, .int .u64 y] 22)) (by simp [hx, hy])
  exact h

theorem set8 {w : World} {b : Nat} {u0 u1 u2 u3 u4 u5 u6 u7 : Value} {t : TypeId} (h : w.heap[b]? = some (.cells #[u0, u1, u2, u3, u4, u5, u6, u7] t (0, 0))) (x0 x1 x2 x3 x4 x5 x6 x7 : Value) :
    At ((((((((w.setCell ⟨b, 0, none⟩ x0).setCell ⟨b, 1, none⟩ x1).setCell ⟨b, 2, none⟩ x2).setCell ⟨b, 3, none⟩ x3).setCell ⟨b, 4, none⟩ x4).setCell ⟨b, 5, none⟩ x5).setCell ⟨b, 6, none⟩ x6).setCell ⟨b, 7, none⟩ x7)
      b #[x0, x1, x2, x3, x4, x5, x6, x7] t w := by
  have h0 := At.base h
  have h1 : At _ b #[x0, u1, u2, u3, u4, u5, u6, u7] t w := (h0.set 0 x0).conv (by rfl)
  have h2 : At _ b #[x0, x1, u2, u3, u4, u5, u6, u7] t w := (h1.set 1 x1).conv (by rfl)
  have h3 : At _ b #[x0, x1, x2, u3, u4, u5, u6, u7] t w := (h2.set 2 x2).conv (by rfl)
  have h4 : At _ b #[x0, x1, x2, x3, u4, u5, u6, u7] t w := (h3.set 3 x3).conv (by rfl)
  have h5 : At _ b #[x0, x1, x2, x3, x4, u5, u6, u7] t w := (h4.set 4 x4).conv (by rfl)
  have h6 : At _ b #[x0, x1, x2, x3, x4, x5, u6, u7] t w := (h5.set 5 x5).conv (by rfl)
  have h7 : At _ b #[x0, x1, x2, x3, x4, x5, x6, u7] t w := (h6.set 6 x6).conv (by rfl)
  have h8 : At _ b #[x0, x1, x2, x3, x4, x5, x6, x7] t w := (h7.set 7 x7).conv (by rfl)
  exact h8

theorem own_ch8 {w w' : World} {base e size n : Nat} {v : Value} {xs : List Value} (h : w.ownsRow base e size v n xs) (hk : ∀ k, v.ownBlock = some k → k < w.heap.size → w'.heap[k]? = w.heap[k]?) : w'.ownsRow base e size v n xs := by
  refine ⟨h.1, ?_⟩
  rcases h.2 with ⟨rfl, rfl⟩ | ⟨g, cap, cur, rfl, hg, hrow, hn, hc, hsz, htk⟩
  · exact .inl ⟨rfl, rfl⟩
  · exact .inr ⟨g, cap, cur, rfl, hg, (hk g (by simp [Value.ownBlock]) (lt_of_block hrow)).trans hrow, hn, hc, hsz, htk⟩

set_option maxRecDepth 100000 in
set_option maxHeartbeats 2000000 in
theorem turned_any (w : World) (key n : Int) (a : Option Addr) (len cap : Nat) (bs : List Int) (hlen : len ≤ 1000000) (hn : (Lit.int .u64 n).wf = true) (hI : IntsK .u8 w a len bs) :
    Calls Try.prog 52 #[.int .u64 key, .int .u64 n, .slice a len cap] w fun e w' => ∃ v, e = .returned v ∧ Below w.heap.size w w' ∧ w'.ownsRow w.heap.size 5 1 v len ((turnedM key n bs).map (Value.int .u8)) := by
  have HI := Lib.hid hI
  have hl := hI.1
  have HN := Lib.hid hn
  clear hI hn
  go_enter Try.func52, Try.ntmps52
  go_wp2_with fail
  refine Calls.mono (clone_any8 w a len cap bs (by omega) HI.out) ?_
  rintro e w1 ⟨v, rfl, hb1, ho1⟩
  obtain ⟨b, cp, rfl, hcp⟩ := own_slice ho1
  have hx0 := heap_alloc_new w1 (.cells #[.int .u8 0, .int .u8 0, .int .u8 0, .int .u8 0, .int .u8 0, .int .u8 0, .int .u8 0, .int .u8 0] 29)
  have hb2 := (Below.refl w1.heap.size w1).alloc (Nat.le_refl _) (.cells #[.int .u8 0, .int .u8 0, .int .u8 0, .int .u8 0, .int .u8 0, .int .u8 0, .int .u8 0, .int .u8 0] 29)
  have hnb : ∀ k, (Value.slice b len cp).ownBlock = some k → w.heap.size ≤ k ∧ k < w1.heap.size := ho1.lt
  have HO0 : Hid (_) := Lib.hid (own_below ho1 hb2)
  have HL0 := Lib.hid (bl_next hb1 hb1.size hb2)
  have HX0 : Hid (∃ xs : List Int, xs.length = 8 ∧ (∀ x ∈ xs, (Lit.int .u8 x).wf = true) ∧ (0 % 8 ≠ 0 → xs = keyRow key n (0 / 8)) ∧ _ = some (Obj.cells (xs.map (Value.int .u8)).toArray 29 (0, 0))) := Lib.hid ⟨[0, 0, 0, 0, 0, 0, 0, 0], rfl, by decide, by omega, hx0⟩
  obtain ⟨gx, hgx⟩ : ∃ gx, w1.heap.size = gx := ⟨_, rfl⟩
  have hgw := hb1.size
  clear ho1 hb1 hb2 hx0
  go_wp2_with fail
  generalize w1.alloc (.cells #[.int .u8 0, .int .u8 0, .int .u8 0, .int .u8 0, .int .u8 0, .int .u8 0, .int .u8 0, .int .u8 0] 29) = W2 at HO0 HL0 HX0 ⊢
  rw [hgx] at HX0 hgw hnb
  clear hgx
  go_loopg [14] len (fun g s14 wr => ∃ j : Nat, s14 = .int .i64 j ∧ j ≤ len ∧ g = len - j ∧ Hid (Below w.heap.size w wr) ∧ Hid (wr.ownsRow w.heap.size 5 1 (.slice b len cp) len ((mixM key n bs j).map (Value.int .u8))) ∧
    Hid (∃ xs : List Int, xs.length = 8 ∧ (∀ x ∈ xs, (Lit.int .u8 x).wf = true) ∧ (j % 8 ≠ 0 → xs = keyRow key n (j / 8)) ∧ wr.heap[gx]? = some (Obj.cells (xs.map (Value.int .u8)).toArray 29 (0, 0))))
  case atStart => exact ⟨0, rfl, by omega, rfl, HL0, HO0, HX0⟩
  case round =>
    clear HL0 HO0 HX0
    obtain ⟨j, rfl, hj, rfl, HL, HO, HX⟩ := hrel
    by_cases hlt : j < len
    · go_upto_if 19 with fail
      go_cut [] (fun wc => Hid (Below w.heap.size w wc) ∧ Hid (wc.ownsRow w.heap.size 5 1 (.slice b len cp) len ((mixM key n bs j).map (Value.int .u8))) ∧ Hid (wc.heap[gx]? = some (Obj.cells ((keyRow key n (j / 8)).map (Value.int .u8)).toArray 29 (0, 0))))
      case first =>
        by_cases h8 : j % 8 = 0
        · obtain ⟨xs, hxl, hxw, _, hxr⟩ := HX.out
          have hsz := HL.out.size
          have hq : (Lit.int .u64 ((j : Int) / 8)).wf = true := wf_u64_of (by omega) (by omega)
          have HIN := Lib.hid (ints_made2u wr n ((j : Int) / 8) HN.out hq)
          have hba := (Below.refl wr.heap.size wr).alloc (Nat.le_refl _) (.cells #[.int .u64 n, .int .u64 ((j : Int) / 8)] 22)
          have HBA := Lib.hid hba
          clear hba hq
          have hkr : keyRow key n (j / 8) = bytesM (keyedM key (rowM [n, (j : Int) / 8])) := by unfold keyRow; rw [show ((j / 8 : Nat) : Int) = (j : Int) / 8 by omega]
          have HKR := Lib.hid hkr; clear hkr
          go_wp2_with fail
          refine Calls.mono (row_any _ _ 2 2 [n, (j : Int) / 8] (by omega) HIN.out) ?_
          rintro e w5 ⟨v5, rfl, hb5, ho5⟩
          have hwf5 : ∀ x ∈ rowM [n, (j : Int) / 8], (Lit.int .u8 x).wf = true := by
            intro x hx
            simp only [rowM, List.flatMap_cons, List.flatMap_nil, List.append_nil, List.mem_append] at hx
            rcases hx with h | h
            · exact wf_bytes _ x h
            · exact wf_bytes _ x h
          obtain ⟨b5, cp5, rfl, _, hi5, _⟩ := ints_of_own ho5 hwf5
          have HI5 := Lib.hid hi5
          have hbw5 := HBA.out.trans (hb5.mono HBA.out.size)
          have HB5 := Lib.hid hbw5
          clear hb5 ho5 hwf5 hi5 hbw5
          go_wp2_with fail
          refine Calls.mono (keyed_any _ key b5 16 cp5 _ (by omega) HI5.out) ?_
          rintro e w6 ⟨rfl, q6, rfl⟩
          go_wp2_with fail
          refine Calls.mono (bytes_any _ _) ?_
          rintro e w7 ⟨rfl, hb7⟩
          have hwy := wf_bytes (keyedM key (rowM [n, (j : Int) / 8]))
          have hkr := HKR.out
          obtain ⟨y0, y1, y2, y3, y4, y5, y6, y7, ey⟩ : ∃ y0 y1 y2 y3 y4 y5 y6 y7, bytesM (keyedM key (rowM [n, (j : Int) / 8])) = [y0, y1, y2, y3, y4, y5, y6, y7] := ⟨_, _, _, _, _, _, _, _, rfl⟩
          rw [ey] at hwy hkr ⊢
          simp only [List.map_cons, List.map_nil]
          have HKY := Lib.hid hkr
          obtain ⟨x0, x1, x2, x3, x4, x5, x6, x7, rfl⟩ : ∃ x0 x1 x2 x3 x4 x5 x6 x7, xs = [x0, x1, x2, x3, x4, x5, x6, x7] := by
            match xs, hxl with
            | [x0, x1, x2, x3, x4, x5, x6, x7], _ => exact ⟨x0, x1, x2, x3, x4, x5, x6, x7, rfl⟩
          have hbw7 : Below wr.heap.size wr w7 := (bl_drewN HB5.out q6).trans (hb7.mono (by simpa using HB5.out.size))
          have hx7 := bl_row hbw7 (lt_of_block hxr) hxr
          have HB7 := Lib.hid hbw7; have HX7 := Lib.hid hx7
          have e0 := row_free hx7 0
          have e1 := row_free hx7 1
          have e2 := row_free hx7 2
          have e3 := row_free hx7 3
          have e4 := row_free hx7 4
          have e5 := row_free hx7 5
          have e6 := row_free hx7 6
          have e7 := row_free hx7 7
          have d0 : w7.cell? ⟨gx, 0, none⟩ = some (.int .u8 x0) := row_cell hx7 0 _ rfl
          have d1 : w7.cell? ⟨gx, 1, none⟩ = some (.int .u8 x1) := row_cell hx7 1 _ rfl
          have d2 : w7.cell? ⟨gx, 2, none⟩ = some (.int .u8 x2) := row_cell hx7 2 _ rfl
          have d3 : w7.cell? ⟨gx, 3, none⟩ = some (.int .u8 x3) := row_cell hx7 3 _ rfl
          have d4 : w7.cell? ⟨gx, 4, none⟩ = some (.int .u8 x4) := row_cell hx7 4 _ rfl
          have d5 : w7.cell? ⟨gx, 5, none⟩ = some (.int .u8 x5) := row_cell hx7 5 _ rfl
          have d6 : w7.cell? ⟨gx, 6, none⟩ = some (.int .u8 x6) := row_cell hx7 6 _ rfl
          have d7 : w7.cell? ⟨gx, 7, none⟩ = some (.int .u8 x7) := row_cell hx7 7 _ rfl
          have hA := set8 hx7 (.int .u8 y0) (.int .u8 y1) (.int .u8 y2) (.int .u8 y3) (.int .u8 y4) (.int .u8 y5) (.int .u8 y6) (.int .u8 y7)
          have HAS := Lib.hid hA
          clear ey hwy hkr hxl hxw hxr hb7 hbw7 hx7 hA
          go_wp2_with fail
          have hAZ := HAS.out
          generalize ((((((((w7.setCell ⟨gx, 0, none⟩ (.int .u8 y0)).setCell ⟨gx, 1, none⟩ (.int .u8 y1)).setCell ⟨gx, 2, none⟩ (.int .u8 y2)).setCell ⟨gx, 3, none⟩ (.int .u8 y3)).setCell ⟨gx, 4, none⟩ (.int .u8 y4)).setCell ⟨gx, 5, none⟩ (.int .u8 y5)).setCell ⟨gx, 6, none⟩ (.int .u8 y6)).setCell ⟨gx, 7, none⟩ (.int .u8 y7)) = W9 at hAZ ⊢
          have hrowZ := hAZ.row
          have hgrZ := hAZ.rest
          have hLZ := (bl_next HL.out hsz HB7.out).grown hgrZ (Nat.le_trans hsz HB7.out.size) (by intro k hk; injection hk with hk; omega)
          have hOZ := own_ch8 (own_below HO.out HB7.out) (fun k hk hlt2 => hgrZ.block k hlt2 (by intro e; injection e with e; subst e; exact absurd (hnb _ hk).2 (Nat.lt_irrefl _)))
          have HLZ := Lib.hid hLZ; have HOZ := Lib.hid hOZ
          have HXZ : Hid (W9.heap[gx]? = some (Obj.cells ((keyRow key n (j / 8)).map (Value.int .u8)).toArray 29 (0, 0))) := Lib.hid (by rw [HKY.out]; exact hrowZ)
          clear hrowZ hgrZ hLZ hOZ e0 e1 e2 e3 e4 e5 e6 e7 d0 d1 d2 d3 d4 d5 d6 d7
          go_meet
          case rel => exact ⟨HLZ, HOZ, HXZ⟩
        · obtain ⟨xs, hxl, hxw, hxk, hxr⟩ := HX.out
          obtain rfl := hxk h8
          have HXZ := Lib.hid hxr
          clear hxl hxw hxr hxk
          go_wp2_with fail
          go_meet
          case rel => exact ⟨HL, HO, HXZ⟩
      case rest =>
        clear HL HO HX
        obtain ⟨HL, HO, HX⟩ := hcut
        obtain ⟨g, rfl, hg, hgl, hfz, hcells, _⟩ := own_set HO.out (Below.refl _ _) (i := j) hlt (.int .u8 0) rfl
        obtain ⟨x, hx⟩ : ∃ x, bs[j]? = some x := ⟨_, List.getElem?_eq_getElem (by omega)⟩
        have hc : wc.cell? ⟨g, j, none⟩ = some (.int .u8 x) := hcells _ _ (by rw [List.getElem?_map, mixM_at key n bs j j (Nat.le_refl _), hx]; rfl)
        obtain ⟨ks, hks⟩ : ∃ ks, keyRow key n (j / 8) = ks := ⟨_, rfl⟩
        have hkl : ks.length = 8 := by rw [← hks]; exact keyRow_len key n (j / 8)
        rw [hks] at HX
        obtain ⟨y, hy⟩ : ∃ y, ks[j % 8]? = some y := ⟨_, List.getElem?_eq_getElem (by omega)⟩
        have hd : wc.cell? ⟨gx, j % 8, none⟩ = some (.int .u8 y) := by
          rw [cell_of_row _ _ _ _ _ _ HX.out, List.getElem?_toArray, List.getElem?_map, hy]; rfl
        have hta : turnAt key n bs j = bits .xor .u8 x y := by
          unfold turnAt
          rw [List.getD_eq_getElem?_getD, hx, List.getD_eq_getElem?_getD, hks, hy]; rfl
        have HTA := Lib.hid hta
        have hgx2 := lt_of_block HX.out
        have hgne : g ≠ gx := by have := (hnb g rfl).2; omega
        have hds : ∀ s : In (fun y => wc.grownBy y (some g)), s.w.cell? ⟨gx, j % 8, none⟩ = some (.int .u8 y) := fun s => by
          rw [cell_of_row _ _ _ _ _ _ (grown_row s.h (by intro e; injection e with e; omega) HX.out), List.getElem?_toArray, List.getElem?_map, hy]; rfl
        have HKS := Lib.hid (And.intro hkl hks)
        clear hcells hx hy hta hkl hks hd
        go_wp2_with fail
        refine wp_plan (.t 0 (.t 1 (.t 2 (.t 4 (.t 5 (.t 6 (.t 7 (.u 3 (.t 8 (.t 9 (.u 10 .done)))))))))))
          (fun y => wc.grownBy y (some g)) (by kernel_rfl) (by kernel_rfl) (by kernel_rfl) (fun c a d v w h => by cases d <;> exact h) (grown_drew _ _) ?_
        have hS : wc.grownBy wc.drew (some g) := grown_drew _ _
        have HO1 := Lib.hid (own_below HO.out (Below.refl wc.heap.size wc).drew)
        have HL1 := Lib.hid (bl_next HL.out HL.out.size (Below.refl wc.heap.size wc).drew)
        have HX1 := Lib.hid (bl_row (Below.refl wc.heap.size wc).drew hgx2 HX.out)
        have hc1 : wc.drew.cell? ⟨g, j, none⟩ = some (.int .u8 x) := hc
        have hf1 : wc.drew.frozen? ⟨g, j, none⟩ = false := hfz
        have hgl1 : g < wc.drew.heap.size := hgl
        generalize wc.drew = W1 at hS HO1 HL1 HX1 hc1 hf1 hgl1 ⊢
        clear hc hfz hgl hgx2 HO HL HX
        haveI hne : Nonempty (In fun y => wc.grownBy y (some g)) := ⟨⟨wc, grown_refl _ _⟩⟩
        repeat (refine plan_t (by rfl) ?_; (first | go_big_quiet_skip | (go_big_quiet_want; go_big_quiet_op; go_big_quiet_on)); refine wpQuiet_nil ?_)
        refine plan_us (by rfl) (by kernel_rfl) ?_
        intro K hK
        go_wp2_with fail
        refine ⟨hS, ?_⟩
        repeat (refine plan_t (by rfl) ?_; (first | go_big_quiet_skip | (go_big_quiet_want; go_big_quiet_op; go_big_quiet_on)); refine wpQuiet_nil ?_)
        refine plan_un (by rfl) (by kernel_rfl) ?_
        intro K2 hK2
        go_wp2_with fail
        have hHO := own_put HO1.out (i := j) hlt (.int .u8 (bits .xor .u8 x y)) rfl
        have hHL := (HL1.out.setCell (p := ⟨g, j, none⟩) hg (.int .u8 (bits .xor .u8 x y)))
        have hHX := grown_row (grown_setCell W1 g j (.int .u8 (bits .xor .u8 x y))) (b := gx) (by intro e; injection e with e; omega) HX1.out
        refine ⟨fun y => wc.grownBy y (some g), fun _ h => h, grown_trans hS (grown_setCell _ _ _ _), ?_⟩
        have hset : mixM key n bs (j + 1) = (mixM key n bs j).set j (bits .xor .u8 x y) := by rw [← HTA.out]; rfl
        rw [← List.map_set, ← hset] at hHO
        have HO2 := Lib.hid hHO; have HL2 := Lib.hid hHL
        have HX2 : Hid (∃ xs : List Int, xs.length = 8 ∧ (∀ x ∈ xs, (Lit.int .u8 x).wf = true) ∧ ((j + 1) % 8 ≠ 0 → xs = keyRow key n ((j + 1) / 8)) ∧ _ = some (Obj.cells (xs.map (Value.int .u8)).toArray 29 (0, 0))) := Lib.hid ⟨ks, HKS.out.1, by rw [← HKS.out.2]; exact keyRow_wf key n _, fun h => by rw [← HKS.out.2, show (j + 1) / 8 = j / 8 by omega], hHX⟩
        clear hHO hHL hHX hset hS hc1 hf1 HO1 HL1 HX1
        show Exit.inBlock _ _ _ _ _
        go_wp2_with fail
        go_roundg (len - (j + 1))
        case rel => exact ⟨j + 1, by go_num, by omega, rfl, HL2, HO2, HX2⟩
        case measure => omega
    · obtain rfl : j = len := by omega
      go_wp2_with fail
      go_ret
      exact ⟨_, rfl, HL.out, by unfold turnedM; rw [hl]; exact HO.out⟩
end Go.Proofs.Ythofbckkjcidmaa
namespace Go.Proofs.Ythofbckkjcidmaa
open Go.RowKit
set_option linter.unusedVariables false

theorem zc_size (n : Nat) : (Builtin.zeroCells #[Value.int .u8 0] n).size = n := by simp [Builtin.zeroCells]
set_option maxRecDepth 100000 in
set_option maxHeartbeats 1000000 in
theorem grow_any (w : World) (n : Nat) (h0 : 0 < n) (hn : n ≤ 140737488355328) :
    Calls Try.prog 94 #[.slice none 0 0, .int .i64 n] w fun e w' => ∃ v, e = .returned v ∧ Below w.heap.size w w' ∧ w'.ownsRow w.heap.size 5 1 v 0 [] := by
  have ht : Try.t5.bytes = 1 := by rfl
  have h1 : ¬ (281474976710656 < (n : Int) * (Try.t5.bytes : Int)) := by rw [ht]; omega
  have h2 : ¬ (281474976710656 < Builtin.nextslicecap n 0 * Try.t5.bytes) := by rw [nextslicecap_zero (by omega), ht]; omega
  have h3 : n ≤ (Question.appendCap n 0 5).cut (w.tape w.drawn (Question.appendCap n 0 5)) := Nat.le_add_right _ _
  have h4 : (Question.appendCap n 0 5).cut (w.tape w.drawn (Question.appendCap n 0 5)) ≤ maxLen := by
    have h := Nat.mod_lt (w.tape w.drawn (Question.appendCap n 0 5)) (show 0 < 2 ^ 63 - n by omega)
    show n + _ % (2 ^ 63 - n) ≤ maxLen
    unfold maxLen; omega
  clear ht
  go_enter Try.func94, Try.ntmps94
  go_wp2_with fail
  go_ret
  generalize (Question.appendCap n 0 5).cut (w.tape w.drawn (Question.appendCap n 0 5)) = c at *
  refine ⟨_, rfl, ?_, ?_⟩
  · exact bl_drewN ((Below.refl _ _).alloc (Nat.le_refl _) _) 1
  · refine ⟨rfl, .inr ⟨_, _, _, rfl, Nat.le_refl _, heap_alloc_new w _, Nat.zero_le _, h4, ?_, by simp⟩⟩
    simp only [Array.size_append, zc_size, Nat.mul_one]; first | omega | simp [zc_size]

/-- rows of bytes: where each lies, and its bytes -/
abbrev Rw := Option Addr × Nat × Nat × List Int
def catM (rs : List Rw) : List Int := rs.flatMap fun r => r.2.2.2
theorem catM_take (rs : List Rw) (j : Nat) (r : Rw) (h : rs[j]? = some r) : catM (rs.take (j + 1)) = catM (rs.take j) ++ r.2.2.2 := by
  rw [List.take_add_one, h]; simp [catM]
theorem catM_le (rs : List Rw) (j : Nat) : (catM (rs.take j)).length ≤ (catM rs).length := by
  have h : catM rs = catM (rs.take j) ++ catM (rs.drop j) := by unfold catM; rw [← List.flatMap_append, List.take_append_drop]
  rw [h, List.length_append]; omega

set_option maxRecDepth 100000 in
set_option maxHeartbeats 1000000 in
theorem concat_any (w : World) (b cap : Nat) (rs : List Rw) (hb : b < w.heap.size) (hc : ∀ (j : Nat) (r : Rw), rs[j]? = some r → w.cell? ⟨b, j, none⟩ = some (.slice r.1 r.2.1 r.2.2.1)) (hI : ∀ (j : Nat) (r : Rw), rs[j]? = some r → IntsK .u8 w r.1 r.2.1 r.2.2.2)
    (h0 : 0 < (catM rs).length) (hn : (catM rs).length ≤ 140737488355328) (hl : rs.length ≤ 1000) :
    Calls Try.prog 83 #[.slice (some ⟨b, 0, none⟩) rs.length cap] w fun e w' => ∃ v, e = .returned v ∧ Below w.heap.size w w' ∧ w'.ownsRow w.heap.size 5 1 v (catM rs).length ((catM rs).map (Value.int .u8)) := by
  have HC := Lib.hid hc; have HI := Lib.hid hI
  clear hc hI
  go_enter Try.func83, Try.ntmps83
  go_wp2_with fail
  go_loopw [3, 5, 11] (fun s3 s5 s11 wr => ∃ j : Nat, s11 = .int .i64 j ∧ j ≤ rs.length ∧ s3 = .int .i64 ((catM (rs.take j)).length) ∧ w = wr) (fun _ _ s11 _ => rs.length - (intOf s11).toNat)
  case atStart => exact ⟨0, rfl, by omega, rfl, rfl⟩
  case round =>
    obtain ⟨j, rfl, hj, rfl, rfl⟩ := hrel
    by_cases hlt : j < rs.length
    · obtain ⟨r, hr⟩ : ∃ r, rs[j]? = some r := ⟨_, List.getElem?_eq_getElem hlt⟩
      have hcj := HC.out j r hr
      have hln := (HI.out j r hr).1
      have htk := catM_take rs j r hr
      have hle := catM_le rs (j + 1)
      have hsum : ((catM (rs.take (j + 1))).length : Int) = (catM (rs.take j)).length + r.2.1 := by rw [htk, List.length_append, hln]; omega
      have hb1 : (catM (rs.take j)).length ≤ 140737488355328 := Nat.le_trans (catM_le rs j) hn
      have hb2 : (catM (rs.take j)).length + r.2.1 ≤ 140737488355328 := by rw [htk, List.length_append] at hle; omega
      have HS := Lib.hid hsum
      clear hr hln htk hle hsum
      obtain ⟨ra, rl, rc, rb⟩ := r
      simp only at hcj hb2 HS
      generalize hT : (catM (rs.take j)).length = T at *
      go_wp2_with fail
      go_roundw
      case rel => exact ⟨j + 1, by go_num, by omega, by rw [HS.out], by first | rfl | trivial⟩
      case measure => simp [intOf]; omega
    · obtain rfl : j = rs.length := by omega
      rw [List.take_length]
      go_wp2_with fail
      refine Calls.mono (grow_any _ _ h0 hn) ?_
      rintro e w2 ⟨v2, rfl, hb2, ho2⟩
      have HL2 := Lib.hid hb2; have HO2 := Lib.hid ho2
      clear hb2 ho2
      go_wp2_with fail
      go_loopw [6, 8, 27] (fun s6 s8 s27 wx => ∃ j : Nat, s27 = .int .i64 j ∧ j ≤ rs.length ∧ Hid (Below w.heap.size w wx) ∧ Hid (wx.ownsRow w.heap.size 5 1 s6 (catM (rs.take j)).length ((catM (rs.take j)).map (Value.int .u8)))) (fun _ _ s27 _ => rs.length - (intOf s27).toNat)
      case atStart => exact ⟨0, rfl, by omega, HL2, HO2⟩
      case round =>
        clear HL2 HO2
        obtain ⟨j, rfl, hj, HL, HO⟩ := hrel
        by_cases hlt : j < rs.length
        · obtain ⟨r, hr⟩ : ∃ r, rs[j]? = some r := ⟨_, List.getElem?_eq_getElem hlt⟩
          have hsx := HL.out.size
          have hcj := bl_cell HL.out (p := ⟨b, j, none⟩) hb (HC.out j r hr)
          have HIJ := Lib.hid ((HI.out j r hr).below HL.out)
          have hln := (HI.out j r hr).1
          have htk := catM_take rs j r hr
          have hle := catM_le rs (j + 1)
          have hsum : (catM (rs.take (j + 1))).length = (catM (rs.take j)).length + r.2.1 := by rw [htk, List.length_append, hln]
          have hb2 : (catM (rs.take j)).length + r.2.1 ≤ 140737488355328 := by rw [htk, List.length_append] at hle; omega
          have HS := Lib.hid (And.intro hsum htk)
          clear hr hln htk hle hsum
          obtain ⟨ra, rl, rc, rb⟩ := r
          simp only at hcj hb2 HS HIJ
          obtain ⟨ub, ucp, rfl, _⟩ := own_slice HO.out
          go_wp2_with (first | (at_builtin; refine wpList_append_bytes rfl _ _ rfl w.heap.size _ _ _ rfl HO.out _ _ _ _ rfl HIJ.out hb2 hsx ?_; intro v7 w7 hown hgrow; have HO7 := Lib.hid hown; have HL7 := Lib.hid (HL.out.grown hgrow hsx (own_base HO.out)); clear hown hgrow) | fail)
          rw [← HS.out.1, ← HS.out.2] at HO7
          go_roundw
          case rel => exact ⟨j + 1, by go_num, by omega, HL7, HO7⟩
          case measure => simp [intOf]; omega
        · obtain rfl : j = rs.length := by omega
          rw [List.take_length] at HO
          go_wp2_with fail
          go_ret
          exact ⟨_, rfl, HL.out, HO.out⟩
end Go.Proofs.Ythofbckkjcidmaa
namespace Go.Proofs.Ythofbckkjcidmaa
open Go.RowKit
set_option linter.unusedVariables false

def tagM (key n : Int) (head sealed : List Int) : List Int := bytesM (keyedM (keyedM key [116, 97, 103]) (rowM [n, (head.length : Int)] ++ (head ++ sealed)))
theorem tagM_len (key n : Int) (head sealed : List Int) : (tagM key n head sealed).length = 8 := by unfold tagM bytesM; simp
theorem tagM_wf (key n : Int) (head sealed : List Int) : ∀ x ∈ tagM key n head sealed, (Lit.int .u8 x).wf = true := wf_bytes _
theorem row2_wf (n q : Int) : ∀ x ∈ rowM [n, q], (Lit.int .u8 x).wf = true := by
  intro x hx
  simp only [rowM, List.flatMap_cons, List.flatMap_nil, List.append_nil, List.mem_append] at hx
  rcases hx with h | h
  · exact wf_bytes _ x h
  · exact wf_bytes _ x h

theorem concat3_any (w : World) (a1 : Option Addr) (l1 c1 : Nat) (z1 : List Int) (a2 : Option Addr) (l2 c2 : Nat) (z2 : List Int) (a3 : Option Addr) (l3 c3 : Nat) (z3 : List Int)
    (h1 : IntsK .u8 w a1 l1 z1) (h2 : IntsK .u8 w a2 l2 z2) (h3 : IntsK .u8 w a3 l3 z3) (h0 : 0 < l1) (hn : l1 + l2 + l3 ≤ 140737488355328) :
    Calls Try.prog 83 #[.slice (some ⟨w.heap.size, 0, none⟩) 3 3] (w.alloc (.cells #[.slice a1 l1 c1, .slice a2 l2 c2, .slice a3 l3 c3] 23)) fun e w' => ∃ v, e = .returned v ∧ Below w.heap.size w w' ∧ w'.ownsRow w.heap.size 5 1 v (l1 + l2 + l3) ((z1 ++ (z2 ++ z3)).map (Value.int .u8)) := by
  have hB := (Below.refl w.heap.size w).alloc (Nat.le_refl _) (.cells #[.slice a1 l1 c1, .slice a2 l2 c2, .slice a3 l3 c3] 23)
  have hrow := heap_alloc_new w (.cells #[.slice a1 l1 c1, .slice a2 l2 c2, .slice a3 l3 c3] 23)
  have hcat : catM [(a1, l1, c1, z1), (a2, l2, c2, z2), (a3, l3, c3, z3)] = z1 ++ (z2 ++ z3) := by simp [catM]
  have hlc : (z1 ++ (z2 ++ z3)).length = l1 + l2 + l3 := by rw [List.length_append, List.length_append, h1.1, h2.1, h3.1]; omega
  have h := concat_any (w.alloc (.cells #[.slice a1 l1 c1, .slice a2 l2 c2, .slice a3 l3 c3] 23)) w.heap.size 3 [(a1, l1, c1, z1), (a2, l2, c2, z2), (a3, l3, c3, z3)] (by simp)
    (fun j r hr => by
      rw [cell_of_row _ _ _ _ _ _ hrow]
      match j, hr with
      | 0, hr => injection hr with hr; subst hr; rfl
      | 1, hr => injection hr with hr; subst hr; rfl
      | 2, hr => injection hr with hr; subst hr; rfl)
    (fun j r hr => by
      match j, hr with
      | 0, hr => injection hr with hr; subst hr; exact h1.below hB
      | 1, hr => injection hr with hr; subst hr; exact h2.below hB
      | 2, hr => injection hr with hr; subst hr; exact h3.below hB)
    (by rw [hcat, hlc]; omega) (by rw [hcat, hlc]; omega) (by simp)
  rw [hcat, hlc] at h
  refine Calls.mono h ?_
  rintro e w' ⟨v, rfl, hb, ho⟩
  exact ⟨v, rfl, bl_next hB hB.size hb, ho.mono hB.size⟩

set_option maxRecDepth 100000 in
set_option maxHeartbeats 2000000 in
theorem tag_any (w : World) (key n : Int) (ha : Option Addr) (hl hc : Nat) (hs : List Int) (sa : Option Addr) (sl sc : Nat) (ss : List Int) (hn : (Lit.int .u64 n).wf = true) (hlen : hl + sl + 16 ≤ 140737488355328) (hH : IntsK .u8 w ha hl hs) (hS : IntsK .u8 w sa sl ss) :
    Calls Try.prog 53 #[.int .u64 key, .int .u64 n, .slice ha hl hc, .slice sa sl sc] w fun e w' => e = .returned (.agg ((tagM key n hs ss).map (Value.int .u8)).toArray) ∧ Below w.heap.size w w' := by
  have HH := Lib.hid hH; have HS := Lib.hid hS; have HN := Lib.hid hn
  have hhl := hH.1
  have hsl := hS.1
  have HD := Lib.hid (fun w => derive_any w key ⟨#[116, 97, 103]⟩ (by decide))
  have hq : (Lit.int .u64 (hl : Int)).wf = true := wf_u64_of (by omega) (by omega)
  have HQ := Lib.hid hq
  clear hH hS hn hq
  go_enter Try.func53, Try.ntmps53
  go_wp2_with fail
  refine Calls.mono (HD.out _) ?_
  rintro e w2 ⟨rfl, hb2⟩
  have hrow2 := bl_row hb2 (by simp) (heap_alloc_new w _)
  have HL2 := Lib.hid (((Below.refl w.heap.size w).alloc (Nat.le_refl _) (.cells #[.int .u8 0, .int .u8 0, .int .u8 0, .int .u8 0, .int .u8 0, .int .u8 0, .int .u8 0, .int .u8 0] 29)).trans (hb2.mono (by simp)))
  have HROW2 := Lib.hid hrow2
  have hsz2 : w.heap.size < w2.heap.size := by have := hb2.size; simp at this; omega
  clear hb2 hrow2
  have HIN := Lib.hid (ints_made2u w2 n (hl : Int) HN.out HQ.out)
  have HB3 := Lib.hid ((Below.refl w2.heap.size w2).alloc (Nat.le_refl _) (.cells #[.int .u64 n, .int .u64 (hl : Int)] 22))
  go_wp2_with fail
  refine Calls.mono (row_any _ _ 2 2 [n, (hl : Int)] (by omega) HIN.out) ?_
  rintro e w4 ⟨v4, rfl, hb4, ho4⟩
  obtain ⟨b4, cp4, rfl, _, hi4, _⟩ := ints_of_own ho4 (row2_wf n hl)
  have HB4 := Lib.hid (HB3.out.trans (hb4.mono HB3.out.size))
  have HI4 := Lib.hid hi4
  have HL4 := Lib.hid (bl_next HL2.out (by omega) HB4.out)
  have HROW4 := Lib.hid (bl_row HB4.out hsz2 HROW2.out)
  have hsz4 : w.heap.size < w4.heap.size := Nat.lt_of_lt_of_le hsz2 HB4.out.size
  clear hb4 ho4 hi4 HB3 HIN HB4 HROW2 HL2
  go_wp2_with fail
  refine Calls.mono (concat3_any w4 _ _ _ _ _ _ _ _ _ _ _ _ HI4.out (HH.out.below HL4.out) (HS.out.below HL4.out) (by omega) (by omega)) ?_
  rintro e w5 ⟨v5, rfl, hb5, ho5⟩
  obtain ⟨b5, cp5, rfl, _, hi5, _⟩ := ints_of_own ho5 (by
    intro y hy
    rcases List.mem_append.1 hy with h | h
    · exact row2_wf _ _ y h
    · rcases List.mem_append.1 h with h | h
      · exact HH.out.2.1 y h
      · exact HS.out.2.1 y h)
  have HI5 := Lib.hid hi5
  have HL5 := Lib.hid (bl_next HL4.out (by omega) hb5)
  have HROW5 := Lib.hid (bl_row hb5 hsz4 HROW4.out)
  have hsz5 : w.heap.size < w5.heap.size := Nat.lt_of_lt_of_le hsz4 hb5.size
  clear hb5 ho5 hi5 HI4 HL4 HROW4
  go_wp2_with fail
  refine Calls.mono (keyed_any _ _ b5 _ cp5 _ (by omega) HI5.out) ?_
  rintro e w6 ⟨rfl, q6, rfl⟩
  go_wp2_with fail
  refine Calls.mono (bytes_any _ _) ?_
  rintro e w7 ⟨rfl, hb7⟩
  have hkr : tagM key n hs ss = bytesM (keyedM (keyedM key (natsOf ⟨#[116, 97, 103]⟩)) (rowM [n, (hl : Int)] ++ (hs ++ ss))) := by unfold tagM; rw [hhl]; rfl
  obtain ⟨y0, y1, y2, y3, y4, y5, y6, y7, ey⟩ : ∃ y0 y1 y2 y3 y4 y5 y6 y7, bytesM (keyedM (keyedM key (natsOf ⟨#[116, 97, 103]⟩)) (rowM [n, (hl : Int)] ++ (hs ++ ss))) = [y0, y1, y2, y3, y4, y5, y6, y7] := ⟨_, _, _, _, _, _, _, _, rfl⟩
  rw [ey] at hkr ⊢
  simp only [List.map_cons, List.map_nil]
  have HKY := Lib.hid hkr
  have hB7 : Below w5.heap.size w5 w7 := (bl_drewN (Below.refl _ _) q6).trans hb7
  have hx7 := bl_row hB7 hsz5 HROW5.out
  have hL7 := bl_next HL5.out (by omega) hB7
  have e0 := row_free hx7 0
  have e1 := row_free hx7 1
  have e2 := row_free hx7 2
  have e3 := row_free hx7 3
  have e4 := row_free hx7 4
  have e5 := row_free hx7 5
  have e6 := row_free hx7 6
  have e7 := row_free hx7 7
  have d0 : w7.cell? ⟨w.heap.size, 0, none⟩ = some (.int .u8 0) := row_cell hx7 0 _ rfl
  have d1 : w7.cell? ⟨w.heap.size, 1, none⟩ = some (.int .u8 0) := row_cell hx7 1 _ rfl
  have d2 : w7.cell? ⟨w.heap.size, 2, none⟩ = some (.int .u8 0) := row_cell hx7 2 _ rfl
  have d3 : w7.cell? ⟨w.heap.size, 3, none⟩ = some (.int .u8 0) := row_cell hx7 3 _ rfl
  have d4 : w7.cell? ⟨w.heap.size, 4, none⟩ = some (.int .u8 0) := row_cell hx7 4 _ rfl
  have d5 : w7.cell? ⟨w.heap.size, 5, none⟩ = some (.int .u8 0) := row_cell hx7 5 _ rfl
  have d6 : w7.cell? ⟨w.heap.size, 6, none⟩ = some (.int .u8 0) := row_cell hx7 6 _ rfl
  have d7 : w7.cell? ⟨w.heap.size, 7, none⟩ = some (.int .u8 0) := row_cell hx7 7 _ rfl
  have HAS := Lib.hid (set8 hx7 (.int .u8 y0) (.int .u8 y1) (.int .u8 y2) (.int .u8 y3) (.int .u8 y4) (.int .u8 y5) (.int .u8 y6) (.int .u8 y7))
  have HL7 := Lib.hid hL7
  clear ey hkr hb7 hB7 hx7 hL7 HROW5 HI5 HL5
  go_wp2_with fail
  have hAZ := HAS.out
  have hBZ := HL7.out
  generalize ((((((((w7.setCell ⟨w.heap.size, 0, none⟩ (.int .u8 y0)).setCell ⟨w.heap.size, 1, none⟩ (.int .u8 y1)).setCell ⟨w.heap.size, 2, none⟩ (.int .u8 y2)).setCell ⟨w.heap.size, 3, none⟩ (.int .u8 y3)).setCell ⟨w.heap.size, 4, none⟩ (.int .u8 y4)).setCell ⟨w.heap.size, 5, none⟩ (.int .u8 y5)).setCell ⟨w.heap.size, 6, none⟩ (.int .u8 y6)).setCell ⟨w.heap.size, 7, none⟩ (.int .u8 y7)) = W9 at hAZ ⊢
  have hrow := hAZ.row
  have hLZ : Below w.heap.size w W9 := hBZ.grown hAZ.rest hBZ.size (by intro k hk; injection hk with hk; omega)
  have c0 : W9.cell? ⟨w.heap.size, 0, none⟩ = some (.int .u8 y0) := row_cell hrow 0 _ rfl
  have c1 : W9.cell? ⟨w.heap.size, 1, none⟩ = some (.int .u8 y1) := row_cell hrow 1 _ rfl
  have c2 : W9.cell? ⟨w.heap.size, 2, none⟩ = some (.int .u8 y2) := row_cell hrow 2 _ rfl
  have c3 : W9.cell? ⟨w.heap.size, 3, none⟩ = some (.int .u8 y3) := row_cell hrow 3 _ rfl
  have c4 : W9.cell? ⟨w.heap.size, 4, none⟩ = some (.int .u8 y4) := row_cell hrow 4 _ rfl
  have c5 : W9.cell? ⟨w.heap.size, 5, none⟩ = some (.int .u8 y5) := row_cell hrow 5 _ rfl
  have c6 : W9.cell? ⟨w.heap.size, 6, none⟩ = some (.int .u8 y6) := row_cell hrow 6 _ rfl
  have c7 : W9.cell? ⟨w.heap.size, 7, none⟩ = some (.int .u8 y7) := row_cell hrow 7 _ rfl
  exact bodyPost_ret (v := .agg #[.int .u8 y0, .int .u8 y1, .int .u8 y2, .int .u8 y3, .int .u8 y4, .int .u8 y5, .int .u8 y6, .int .u8 y7]) (by simp [results, Try.results53, go_sem, c0, c1, c2, c3, c4, c5, c6, c7]) rfl ⟨by rw [HKY.out]; rfl, hLZ⟩
end Go.Proofs.Ythofbckkjcidmaa
namespace Go.Proofs.Ythofbckkjcidmaa
open Go.RowKit
set_option linter.unusedVariables false

theorem turnedM_len (key n : Int) (bs : List Int) : (turnedM key n bs).length = bs.length := mixM_len _ _ _ _
theorem turnedM_wf (key n : Int) (bs : List Int) (h : ∀ x ∈ bs, (Lit.int .u8 x).wf = true) : ∀ x ∈ turnedM key n bs, (Lit.int .u8 x).wf = true := mixM_wf _ _ _ h _
def sealM (key n : Int) (head body : List Int) : List Int := turnedM key n body ++ tagM key n head (turnedM key n body)
theorem sealM_len (key n : Int) (head body : List Int) : (sealM key n head body).length = body.length + 8 := by unfold sealM; rw [List.length_append, turnedM_len, tagM_len]
theorem sealM_wf (key n : Int) (head body : List Int) (h : ∀ x ∈ body, (Lit.int .u8 x).wf = true) : ∀ x ∈ sealM key n head body, (Lit.int .u8 x).wf = true := by
  intro x hx
  rcases List.mem_append.1 hx with h1 | h1
  · exact turnedM_wf _ _ _ h x h1
  · exact tagM_wf _ _ _ _ x h1

set_option maxRecDepth 100000 in
set_option maxHeartbeats 2000000 in
theorem seal_any (w : World) (key n : Int) (ha : Option Addr) (hl hc : Nat) (hs : List Int) (sa : Option Addr) (sl sc : Nat) (ss : List Int) (hn : (Lit.int .u64 n).wf = true) (hlen : hl + sl + 24 ≤ 140737488355328) (hs1 : sl ≤ 1000000) (hH : IntsK .u8 w ha hl hs) (hS : IntsK .u8 w sa sl ss) :
    Calls Try.prog 27 #[.int .u64 key, .int .u64 n, .slice ha hl hc, .slice sa sl sc] w fun e w' => ∃ v, e = .returned v ∧ Below w.heap.size w w' ∧ w'.ownsRow w.heap.size 5 1 v (sl + 8) ((sealM key n hs ss).map (Value.int .u8)) := by
  have HH := Lib.hid hH; have HS := Lib.hid hS; have HN := Lib.hid hn
  clear hH hS hn
  go_enter Try.func27, Try.ntmps27
  go_wp2_with fail
  refine Calls.mono (turned_any w key n sa sl sc ss hs1 HN.out HS.out) ?_
  rintro e w2 ⟨v2, rfl, hb2, ho2⟩
  obtain ⟨b2, cp2, rfl, _, hi2, _⟩ := ints_of_own ho2 (turnedM_wf _ _ _ HS.out.2.1)
  have HL2 := Lib.hid hb2; have HO2 := Lib.hid ho2; have HI2 := Lib.hid hi2
  clear hb2 ho2 hi2
  go_wp2_with fail
  refine Calls.mono (tag_any w2 key n ha hl hc hs b2 sl cp2 _ HN.out (by omega) (HH.out.below HL2.out) HI2.out) ?_
  rintro e w5 ⟨rfl, hb5⟩
  have hwy := tagM_wf key n hs (turnedM key n ss)
  have hsm : sealM key n hs ss = turnedM key n ss ++ tagM key n hs (turnedM key n ss) := rfl
  have hty := tagM_len key n hs (turnedM key n ss)
  generalize tagM key n hs (turnedM key n ss) = ys at hwy hsm hty ⊢
  obtain ⟨y0, y1, y2, y3, y4, y5, y6, y7, rfl⟩ : ∃ y0 y1 y2 y3 y4 y5 y6 y7, ys = [y0, y1, y2, y3, y4, y5, y6, y7] := by
    match ys, hty with
    | [y0, y1, y2, y3, y4, y5, y6, y7], _ => exact ⟨y0, y1, y2, y3, y4, y5, y6, y7, rfl⟩
  simp only [List.map_cons, List.map_nil]
  have HSM := Lib.hid hsm
  have HBA := Lib.hid (bl_next HL2.out HL2.out.size (hb5.trans (((Below.refl w5.heap.size w5).alloc (Nat.le_refl _) (.cells ([y0, y1, y2, y3, y4, y5, y6, y7].map (Value.int .u8)).toArray 29)).mono hb5.size)))
  have HOW := Lib.hid (own_below (own_below HO2.out hb5) ((Below.refl w5.heap.size w5).alloc (Nat.le_refl _) (.cells ([y0, y1, y2, y3, y4, y5, y6, y7].map (Value.int .u8)).toArray 29)))
  have HIA := Lib.hid (ints_made8 w5 [y0, y1, y2, y3, y4, y5, y6, y7] 29 rfl hwy)
  clear hwy hb5 hsm hty
  go_upto_region 3 with fail
  change Code.wp _ _ _ _ (w5.alloc (.cells ([y0, y1, y2, y3, y4, y5, y6, y7].map (Value.int .u8)).toArray 29))
  obtain ⟨g, eg⟩ : ∃ g, w5.heap.size = g := ⟨_, rfl⟩
  have hs6 : w.heap.size ≤ (w5.alloc (.cells ([y0, y1, y2, y3, y4, y5, y6, y7].map (Value.int .u8)).toArray 29)).heap.size := HBA.out.size
  generalize w5.alloc (.cells ([y0, y1, y2, y3, y4, y5, y6, y7].map (Value.int .u8)).toArray 29) = W6 at HBA HOW HIA hs6 ⊢
  rw [eg] at HIA
  go_wp2_with (first | (at_builtin; refine wpList_append_bytes rfl _ _ rfl w.heap.size _ _ _ rfl HOW.out _ _ _ _ rfl HIA.out (by omega) hs6 ?_; intro v7 w7 hown hgrow; have HO7 := Lib.hid hown; have HL7 := Lib.hid (HBA.out.grown hgrow hs6 (own_base HOW.out)); clear hown hgrow) | fail)
  go_ret
  refine ⟨_, rfl, HL7.out, ?_⟩
  rw [HSM.out]; exact HO7.out
end Go.Proofs.Ythofbckkjcidmaa
namespace Go.Proofs.Ythofbckkjcidmaa
open Go.RowKit
set_option linter.unusedVariables false

theorem bytesOf_inj8 : ∀ (l m : List Int), (∀ x ∈ l, 0 ≤ x ∧ x ≤ 255) → (∀ x ∈ m, 0 ≤ x ∧ x ≤ 255) → Lib.bytesOf l = Lib.bytesOf m → l = m
  | [], [], _, _, _ => rfl
  | [], _ :: _, _, _, h => by simp [Lib.bytesOf] at h
  | _ :: _, [], _, _, h => by simp [Lib.bytesOf] at h
  | x :: l, y :: m, hl, hm, h => by
    simp only [Lib.bytesOf, List.map_cons, List.cons.injEq] at h
    obtain ⟨h1, h2⟩ := h
    have hx := hl x (by simp)
    have hy := hm y (by simp)
    have e1 := congrArg UInt8.toNat h1
    rw [UInt8.toNat_ofNat_of_lt' (by show x.toNat < 256; omega), UInt8.toNat_ofNat_of_lt' (by show y.toNat < 256; omega)] at e1
    rw [bytesOf_inj8 l m (fun z hz => hl z (by simp [hz])) (fun z hz => hm z (by simp [hz])) h2, show x = y by omega]
theorem strOfNums_inj8 (l m : List Int) (hl : ∀ x ∈ l, (Lit.int .u8 x).wf = true) (hm : ∀ x ∈ m, (Lit.int .u8 x).wf = true) (h : strOfNums l = strOfNums m) : l = m := by
  have h2 := congrArg ByteArray.toList h
  rw [Lib.strOfNums_toList, Lib.strOfNums_toList] at h2
  exact bytesOf_inj8 l m (fun x hx => bounds_u8 (hl x hx)) (fun x hx => bounds_u8 (hm x hx)) h2

theorem str_ne8 (l m : List Int) (hl : ∀ x ∈ l, (Lit.int .u8 x).wf = true) (hm : ∀ x ∈ m, (Lit.int .u8 x).wf = true) (h : ¬ l = m) : ((strOfNums l).toList == (strOfNums m).toList) = false := by
  rw [Lib.strOfNums_toList, Lib.strOfNums_toList, beq_eq_false_iff_ne]
  exact fun e => h (bytesOf_inj8 l m (fun x hx => bounds_u8 (hl x hx)) (fun x hx => bounds_u8 (hm x hx)) e)

def openM (key n : Int) (head sealed : List Int) : List Int × Bool :=
  if sealed.length < 8 then ([], false)
  else if tagM key n head (sealed.take (sealed.length - 8)) = sealed.drop (sealed.length - 8) then (turnedM key n (sealed.take (sealed.length - 8)), true)
  else ([], false)

set_option maxRecDepth 100000 in
set_option maxHeartbeats 2000000 in
theorem open_any (w : World) (key n : Int) (ha : Option Addr) (hl hc : Nat) (hs : List Int) (sa : Option Addr) (sl sc : Nat) (ss : List Int) (hn : (Lit.int .u64 n).wf = true) (hlen : hl + sl + 24 ≤ 140737488355328) (hs1 : sl ≤ 1000000) (hsc : sl ≤ sc) (hsm : sc ≤ 9223372036854775807) (hH : IntsK .u8 w ha hl hs) (hS : IntsK .u8 w sa sl ss) :
    Calls Try.prog 33 #[.int .u64 key, .int .u64 n, .slice ha hl hc, .slice sa sl sc] w fun e w' => ∃ v, e = .returned (.tuple #[v, .bool (openM key n hs ss).2]) ∧ Below w.heap.size w w' ∧ w'.ownsRow w.heap.size 5 1 v (openM key n hs ss).1.length ((openM key n hs ss).1.map (Value.int .u8)) := by
  have HH := Lib.hid hH; have HS := Lib.hid hS; have HN := Lib.hid hn
  have hsl := hS.1
  clear hH hS hn
  by_cases h8 : sl < 8
  · have hom : openM key n hs ss = ([], false) := by unfold openM; rw [if_pos (by omega)]
    rw [hom]
    go_enter Try.func33, Try.ntmps33
    go_wp2_with fail
    go_ret2
    exact ⟨_, rfl, Below.refl _ _, World.ownsRow_nil _ _ _ _⟩
  · obtain ⟨k, rfl⟩ : ∃ k, sl = k + 8 := ⟨sl - 8, by omega⟩
    obtain ⟨ad, rfl, hadl, _⟩ := HS.out.src (by omega)
    obtain ⟨sb, off, hpa⟩ : ∃ sb off, ad = ⟨sb, off, none⟩ := by
      rcases HS.out.2.2 with h | ⟨b, off, e, _⟩
      · omega
      · injection e with e; exact ⟨b, off, e⟩
    subst hpa
    have hk : ss.length - 8 = k := by omega
    have HT := Lib.hid (HS.out.pre k (by omega))
    have HD := Lib.hid (HS.out.suf k (by omega))
    rw [show k + 8 - k = 8 by omega] at HD
    go_enter Try.func33, Try.ntmps33
    go_wp2_with fail
    refine Calls.mono (tag_any w key n ha hl hc hs _ k sc _ HN.out (by omega) HH.out HT.out) ?_
    rintro e w5 ⟨rfl, hb5⟩
    have hwy := tagM_wf key n hs (ss.take k)
    have hom : openM key n hs ss = if tagM key n hs (ss.take k) = ss.drop k then (turnedM key n (ss.take k), true) else ([], false) := by unfold openM; rw [if_neg (by omega), hk]
    have hty := tagM_len key n hs (ss.take k)
    generalize tagM key n hs (ss.take k) = ys at hwy hom hty ⊢
    obtain ⟨y0, y1, y2, y3, y4, y5, y6, y7, rfl⟩ : ∃ y0 y1 y2 y3 y4 y5 y6 y7, ys = [y0, y1, y2, y3, y4, y5, y6, y7] := by
      match ys, hty with
      | [y0, y1, y2, y3, y4, y5, y6, y7], _ => exact ⟨y0, y1, y2, y3, y4, y5, y6, y7, rfl⟩
    simp only [List.map_cons, List.map_nil]
    have HOM := Lib.hid hom
    have HBA := Lib.hid (hb5.trans (((Below.refl w5.heap.size w5).alloc (Nat.le_refl _) (.cells ([y0, y1, y2, y3, y4, y5, y6, y7].map (Value.int .u8)).toArray 29)).mono hb5.size))
    have HIA := Lib.hid (ints_made8 w5 [y0, y1, y2, y3, y4, y5, y6, y7] 29 rfl hwy)
    have HWY := Lib.hid hwy
    clear hwy hb5 hom hty
    go_upto_region 5 with fail
    change Code.wp _ _ _ _ (w5.alloc (.cells ([y0, y1, y2, y3, y4, y5, y6, y7].map (Value.int .u8)).toArray 29))
    obtain ⟨g, eg⟩ : ∃ g, w5.heap.size = g := ⟨_, rfl⟩
    generalize w5.alloc (.cells ([y0, y1, y2, y3, y4, y5, y6, y7].map (Value.int .u8)).toArray 29) = W6 at HBA HIA ⊢
    rw [eg] at HIA ⊢
    have hconv1 : ∀ s : In (fun y => Below W6.heap.size W6 y), (convert 23 9 (.slice (some ⟨g, 0, none⟩) 8 8)).run Try.prog s.w = .ok (.string (strOfNums [y0, y1, y2, y3, y4, y5, y6, y7])) s.w := fun s =>
      conv_ints _ 5 _ _ Try.underlying23 Try.underlying5 Try.underlying9 (HIA.out.below s.h)
    have hconv2 : ∀ s : In (fun y => Below W6.heap.size W6 y), (convert 23 9 (.slice (some ⟨sb, off + k, none⟩) 8 (sc - k))).run Try.prog s.w = .ok (.string (strOfNums (ss.drop k))) s.w := fun s =>
      conv_ints _ 5 _ _ Try.underlying23 Try.underlying5 Try.underlying9 (HD.out.below (bl_next HBA.out HBA.out.size s.h))
    refine wp_plan (.t 0 (.t 1 (.t 2 (.t 3 (.t 4 (.t 5 (.t 6 .done))))))) (fun y => Below W6.heap.size W6 y) (by kernel_rfl) (by kernel_rfl) (by kernel_rfl) (fun c a d v w h => by cases d <;> exact h) (Below.refl _ _).drew ?_
    have hS : Below W6.heap.size W6 W6.drew := (Below.refl _ _).drew
    have HL := Lib.hid (bl_next HBA.out HBA.out.size hS)
    generalize W6.drew = W1 at hS HL ⊢
    haveI hne : Nonempty (In fun y => Below W6.heap.size W6 y) := ⟨⟨W6, Below.refl _ _⟩⟩
    repeat (refine plan_t (by rfl) ?_; (first | go_big_quiet_skip | (go_big_quiet_want; go_big_quiet_op; go_big_quiet_on)); refine wpQuiet_nil ?_)
    clear hconv1 hconv2 hne hS
    show Exit.then _ _ _ _ _
    by_cases heq : [y0, y1, y2, y3, y4, y5, y6, y7] = ss.drop k
    · have e1 := HOM.out
      rw [if_pos heq] at e1
      rw [← heq, beq_self_eq_true]
      have E1 := Lib.hid e1
      clear HOM heq e1
      go_wp2_with fail
      refine Calls.mono (turned_any W1 key n _ k sc _ (by omega) HN.out (HT.out.below HL.out)) ?_
      rintro e w7 ⟨v7, rfl, hb7, ho7⟩
      have HL7 := Lib.hid (bl_next HL.out HL.out.size hb7)
      have HO7 := Lib.hid (ho7.mono HL.out.size)
      clear hb7 ho7
      go_wp2_with fail
      go_ret2
      rw [E1.out]
      refine ⟨_, rfl, HL7.out, ?_⟩
      rw [turnedM_len, List.length_take, show min k ss.length = k by omega]
      exact HO7.out
    · have e1 := HOM.out
      rw [if_neg heq] at e1
      rw [str_ne8 _ _ HWY.out HD.out.2.1 heq]
      have E1 := Lib.hid e1
      clear HOM heq e1
      go_wp2_with fail
      go_ret2
      rw [E1.out]
      exact ⟨_, rfl, HL.out, World.ownsRow_nil _ _ _ _⟩
end Go.Proofs.Ythofbckkjcidmaa
namespace Go.Proofs.Ythofbckkjcidmaa
open Go.RowKit
set_option linter.unusedVariables false

theorem xor8_nat (a b : Nat) (ha : a < 256) (hb : b < 256) : bits .xor .u8 (a : Int) (b : Int) = ((a ^^^ b : Nat) : Int) := by
  have hx : a ^^^ b < 2 ^ 8 := Nat.xor_lt_two_pow (by omega) (by omega)
  have h1 : (BitVec.ofInt 8 (a : Int)).toNat = a := by
    rw [BitVec.ofInt_natCast, BitVec.toNat_ofNat]; exact Nat.mod_eq_of_lt (by omega)
  have h2 : (BitVec.ofInt 8 (b : Int)).toNat = b := by
    rw [BitVec.ofInt_natCast, BitVec.toNat_ofNat]; exact Nat.mod_eq_of_lt (by omega)
  show IntKind.u8.wrap ((BitVec.ofInt 8 (a : Int) ^^^ BitVec.ofInt 8 (b : Int)).toNat : Int) = _
  rw [BitVec.toNat_xor, h1, h2]
  simp [IntKind.wrap, IntKind.bits, IntKind.signed]
  omega
theorem u8_nat {x : Int} (h : (Lit.int .u8 x).wf = true) : ∃ a : Nat, x = a ∧ a < 256 := by
  have := bounds_u8 h
  exact ⟨x.toNat, by omega, by omega⟩
theorem xor8_back {x k : Int} (hx : (Lit.int .u8 x).wf = true) (hk : (Lit.int .u8 k).wf = true) : bits .xor .u8 (bits .xor .u8 x k) k = x := by
  obtain ⟨a, rfl, ha⟩ := u8_nat hx
  obtain ⟨b, rfl, hb⟩ := u8_nat hk
  have hxl : a ^^^ b < 2 ^ 8 := Nat.xor_lt_two_pow (by omega) (by omega)
  rw [xor8_nat a b ha hb, xor8_nat _ b (by omega) hb, Nat.xor_assoc, Nat.xor_self, Nat.xor_zero]
theorem xor8_both {x y k : Int} (hx : (Lit.int .u8 x).wf = true) (hy : (Lit.int .u8 y).wf = true) (hk : (Lit.int .u8 k).wf = true) : bits .xor .u8 (bits .xor .u8 x k) (bits .xor .u8 y k) = bits .xor .u8 x y := by
  obtain ⟨a, rfl, ha⟩ := u8_nat hx
  obtain ⟨b, rfl, hb⟩ := u8_nat hy
  obtain ⟨c, rfl, hc⟩ := u8_nat hk
  have h1 : a ^^^ c < 2 ^ 8 := Nat.xor_lt_two_pow (by omega) (by omega)
  have h2 : b ^^^ c < 2 ^ 8 := Nat.xor_lt_two_pow (by omega) (by omega)
  rw [xor8_nat a c ha hc, xor8_nat b c hb hc, xor8_nat _ _ (by omega) (by omega), xor8_nat a b ha hb]
  congr 1
  rw [Nat.xor_comm b c, Nat.xor_assoc, ← Nat.xor_assoc c c b, Nat.xor_self, Nat.zero_xor]

theorem mixM_hit (key n : Int) (bs : List Int) : ∀ j i, i < j → i < bs.length → (mixM key n bs j)[i]? = some (turnAt key n bs i)
  | 0, i, h, _ => by omega
  | j + 1, i, h, hl => by
    simp only [mixM]
    by_cases e : j = i
    · subst e; rw [List.getElem?_set_self (by rw [mixM_len]; exact hl)]
    · rw [List.getElem?_set_ne e, mixM_hit key n bs j i (by omega) hl]
theorem turnedM_at (key n : Int) (bs : List Int) (i : Nat) (h : i < bs.length) : (turnedM key n bs)[i]? = some (turnAt key n bs i) := mixM_hit _ _ _ _ _ h h
theorem keyAt_wf (key n : Int) (i : Nat) : (Lit.int .u8 ((keyRow key n (i / 8)).getD (i % 8) 0)).wf = true := by
  have hl := keyRow_len key n (i / 8)
  rw [List.getD_eq_getElem?_getD, List.getElem?_eq_getElem (by omega)]
  exact keyRow_wf key n (i / 8) _ (List.getElem_mem _)
theorem getD_wf (bs : List Int) (h : ∀ x ∈ bs, (Lit.int .u8 x).wf = true) (i : Nat) (hi : i < bs.length) : (Lit.int .u8 (bs.getD i 0)).wf = true := by
  rw [List.getD_eq_getElem?_getD, List.getElem?_eq_getElem hi]
  exact h _ (List.getElem_mem _)
theorem turnedM_back (key n : Int) (bs : List Int) (h : ∀ x ∈ bs, (Lit.int .u8 x).wf = true) : turnedM key n (turnedM key n bs) = bs := by
  refine List.ext_getElem? fun i => ?_
  by_cases hi : i < bs.length
  · rw [turnedM_at _ _ _ i (by rw [turnedM_len]; exact hi)]
    have e : (turnedM key n bs).getD i 0 = turnAt key n bs i := by rw [List.getD_eq_getElem?_getD, turnedM_at _ _ _ i hi]; rfl
    unfold turnAt
    rw [e, show turnAt key n bs i = bits .xor .u8 (bs.getD i 0) ((keyRow key n (i / 8)).getD (i % 8) 0) from rfl, xor8_back (getD_wf bs h i hi) (keyAt_wf key n i), List.getD_eq_getElem?_getD, List.getElem?_eq_getElem hi]
    rfl
  · rw [List.getElem?_eq_none (by rw [turnedM_len, turnedM_len]; omega), List.getElem?_eq_none (by omega)]
theorem turnedM_take (key n : Int) (bs : List Int) (k : Nat) : turnedM key n (bs.take k) = (turnedM key n bs).take k := by
  refine List.ext_getElem? fun i => ?_
  by_cases hi : i < bs.length ∧ i < k
  · rw [turnedM_at _ _ _ i (by rw [List.length_take]; omega), List.getElem?_take_of_lt hi.2, turnedM_at _ _ _ i hi.1]
    have e : (bs.take k).getD i 0 = bs.getD i 0 := by rw [List.getD_eq_getElem?_getD, List.getElem?_take_of_lt hi.2, List.getD_eq_getElem?_getD]
    unfold turnAt
    rw [e]
  · rw [List.getElem?_eq_none (by rw [turnedM_len, List.length_take]; omega), List.getElem?_eq_none (by rw [List.length_take, turnedM_len]; omega)]
theorem turned_both (key n : Int) (a b : List Int) (ha : ∀ x ∈ a, (Lit.int .u8 x).wf = true) (hb : ∀ x ∈ b, (Lit.int .u8 x).wf = true) (i : Nat) (hia : i < a.length) (hib : i < b.length) :
    bits .xor .u8 (turnAt key n a i) (turnAt key n b i) = bits .xor .u8 (a.getD i 0) (b.getD i 0) :=
  xor8_both (getD_wf a ha i hia) (getD_wf b hb i hib) (keyAt_wf key n i)
theorem sealM_at (key n : Int) (head body : List Int) (i : Nat) (h : i < body.length) : (sealM key n head body)[i]? = some (turnAt key n body i) := by
  unfold sealM
  rw [List.getElem?_append_left (by rw [turnedM_len]; exact h), turnedM_at _ _ _ i h]
theorem sealM_take (key n : Int) (head body : List Int) (k : Nat) (h : k ≤ body.length) : (sealM key n head body).take k = turnedM key n (body.take k) := by
  unfold sealM
  rw [List.take_append_of_le_length (by rw [turnedM_len]; exact h), turnedM_take]
theorem open_seal (key n : Int) (head body : List Int) (h : ∀ x ∈ body, (Lit.int .u8 x).wf = true) : openM key n head (sealM key n head body) = (body, true) := by
  have hl := sealM_len key n head body
  have ht : (sealM key n head body).take body.length = turnedM key n body := by rw [sealM_take _ _ _ _ _ (Nat.le_refl _), List.take_length]
  have hd : (sealM key n head body).drop body.length = tagM key n head (turnedM key n body) := by
    unfold sealM
    rw [List.drop_append_of_le_length (by rw [turnedM_len]; exact Nat.le_refl _), List.drop_of_length_le (by rw [turnedM_len]; exact Nat.le_refl _), List.nil_append]
  unfold openM
  rw [if_neg (by omega), hl, show body.length + 8 - 8 = body.length by omega, ht, hd, if_pos rfl, turnedM_back _ _ _ h]
theorem open_short (key n : Int) (head s : List Int) (h : s.length < 8) : openM key n head s = ([], false) := by unfold openM; rw [if_pos h]
end Go.Proofs.Ythofbckkjcidmaa
namespace Go.Proofs.Ythofbckkjcidmaa
open Go.RowKit
set_option linter.unusedVariables false

theorem ints_of_mark {k : IntKind} {w : World} {b : Nat} {zs : List Int} {t : TypeId} {fr : Nat × Nat} (h : w.heap[b]? = some (.cells (zs.map (Value.int k)).toArray t fr)) (hw : ∀ n ∈ zs, (Lit.int k n).wf = true) : IntsK k w (some ⟨b, 0, none⟩) zs.length zs := by
  refine ⟨rfl, hw, .inr ⟨b, 0, rfl, lt_of_block h, fun i hi => ?_⟩⟩
  rw [show w.cell? ⟨b, 0 + i, none⟩ = ((zs.map (Value.int k)).toArray)[i]? by simp [World.cell?, h]]
  simp [List.getD_eq_getElem?_getD, List.getElem?_eq_getElem hi]
theorem ints_lit4 (w : World) (t : TypeId) (fr : Nat × Nat) (x0 x1 x2 x3 : Int) (h : ∀ x ∈ [x0, x1, x2, x3], (Lit.int .u8 x).wf = true) : IntsK .u8 (w.alloc (.cells #[.int .u8 x0, .int .u8 x1, .int .u8 x2, .int .u8 x3] t fr)) (some ⟨w.heap.size, 0, none⟩) 4 [x0, x1, x2, x3] :=
  ints_of_mark (k := .u8) (zs := [x0, x1, x2, x3]) (heap_alloc_new w (.cells #[.int .u8 x0, .int .u8 x1, .int .u8 x2, .int .u8 x3] t fr)) h
theorem ints_lit7 (w : World) (t : TypeId) : IntsK .u8 (w.alloc (.cells #[.int .u8 0, .int .u8 0, .int .u8 0, .int .u8 0, .int .u8 0, .int .u8 0, .int .u8 0] t)) (some ⟨w.heap.size, 0, none⟩) 7 [0, 0, 0, 0, 0, 0, 0] :=
  IntsK.of_row (k := .u8) (zs := [0, 0, 0, 0, 0, 0, 0]) (heap_alloc_new w (.cells #[.int .u8 0, .int .u8 0, .int .u8 0, .int .u8 0, .int .u8 0, .int .u8 0, .int .u8 0] t)) (by decide)

theorem own_cap8 {w : World} {base e n size : Nat} {v : Value} {xs : List Value} (h : w.ownsRow base e size v n xs) : ∀ b l c, v = .slice b l c → c ≤ 9223372036854775807 := by
  intro b l c hv
  rcases h.2 with ⟨h1, _⟩ | ⟨g, cap, cur, h1, hg, hrow, hn, hc, _⟩
  · rw [hv] at h1; injection h1 with _ _ h3; omega
  · rw [hv] at h1; injection h1 with _ _ h3; unfold maxLen at hc; omega

end Go.Proofs.Ythofbckkjcidmaa
namespace Go.Proofs.Ythofbckkjcidmaa
open Go.RowKit
set_option linter.unusedVariables false

theorem plan_b8 {P : Program} {l : List Oper} {Q : Exit → Act → World → Prop} {k j : Nat} {p q : Plan} {S : World → Prop} {a : Act} {w : World} (h1 : (Plan.u k p).wp P l.toArray Q S a w) (h2 : (Plan.u j q).wp P l.toArray Q S a w) : (Plan.b k p j q).wp P l.toArray Q S a w := ⟨h1, h2⟩

theorem own_of_row8 {w : World} {base g e n : Nat} {xs : List Value} (h : w.heap[g]? = some (.cells xs.toArray e (0, 0))) (hb : base ≤ g) (hl : xs.length = n) (hm : n ≤ maxLen) : w.ownsRow base e 1 (.slice (some ⟨g, 0, none⟩) n n) n xs :=
  ⟨by rw [hl, Nat.mul_one], .inr ⟨g, n, xs.toArray, rfl, hb, h, Nat.le_refl _, hm, by simp [hl], by rw [Nat.mul_one, ← hl]; simp⟩⟩

/-- rbytes: a row of its own. -/
theorem rbytes_own (w : World) (n : Int) : Calls Try.prog 91 #[.int .u64 n] w fun e w' => e = .returned (.slice (some ⟨w.heap.size, 0, none⟩) 8 8) ∧ Below w.heap.size w w' ∧ w'.heap.size = w.heap.size + 1 ∧
    IntsK .u8 w' (some ⟨w.heap.size, 0, none⟩) 8 (bytesM n) ∧ w'.ownsRow w.heap.size 5 1 (.slice (some ⟨w.heap.size, 0, none⟩) 8 8) 8 ((bytesM n).map (Value.int .u8)) := by
  refine Calls.mono (rbytes_any w n) ?_
  rintro e w' ⟨rfl, hF⟩
  exact ⟨rfl, hF.below, hF.size, IntsK.of_row (zs := bytesM n) hF.row (wf_bytes n), own_of_row8 hF.row (Nat.le_refl _) (by simp [bytesM]) (by unfold maxLen; omega)⟩

set_option maxRecDepth 100000 in
set_option maxHeartbeats 2000000 in
theorem rturned_any (w : World) (key n : Int) (a : Option Addr) (len cap : Nat) (bs : List Int) (hlen : len ≤ 1000000) (hn : (Lit.int .u64 n).wf = true) (hI : IntsK .u8 w a len bs) :
    Calls Try.prog 64 #[.int .u64 key, .int .u64 n, .slice a len cap] w fun e w' => ∃ v, e = .returned v ∧ Below w.heap.size w w' ∧ w'.ownsRow w.heap.size 5 1 v len ((turnedM key n bs).map (Value.int .u8)) := by
  have HI := Lib.hid hI
  have hl := hI.1
  have HN := Lib.hid hn
  clear hI hn
  go_enter Try.func64, Try.ntmps64
  go_upto_region 2 with (first | (at_builtin; refine wpList_append_bytes rfl _ _ rfl w.heap.size 0 (.slice (some ⟨w.heap.size, 0, none⟩) 0 0) [] rfl (World.ownsRow_made _ _ _ (Nat.le_refl _) (by unfold maxLen; omega) (by rfl)) _ _ _ _ rfl (HI.out.below ((Below.refl _ _).alloc (Nat.le_refl _) _)) (by omega) (by simp) ?_; intro v1 w1 hown1 hgrow1; rw [Nat.zero_add, List.nil_append] at hown1; have HO0 := Lib.hid hown1; have HL0 := Lib.hid (((Below.refl w.heap.size w).alloc (Nat.le_refl _) _).grown hgrow1 (by simp) (by intro k hk; simp [Value.ownBlock] at hk; omega)); clear hown1 hgrow1) | fail)
  obtain ⟨b, cp, rfl, hcp⟩ := own_slice HO0.out
  go_wp2_with fail
  go_loopw [8] (fun s8 wr => ∃ j : Nat, s8 = .int .i64 j ∧ j ≤ len ∧ Hid (Below w.heap.size w wr) ∧ Hid (wr.ownsRow w.heap.size 5 1 (.slice b len cp) len ((mixM key n bs j).map (Value.int .u8)))) (fun s8 _ => len - (intOf s8).toNat)
  case atStart => exact ⟨0, rfl, by omega, HL0, HO0⟩
  case round =>
    clear HL0 HO0
    obtain ⟨j, rfl, hj, HL, HO⟩ := hrel
    by_cases hlt : j < len
    · have hsz := HL.out.size
      go_wp2_with fail
      refine Calls.mono (rbytes_own wr n) ?_
      rintro e w2 ⟨rfl, hb2, -, hi2, ho2⟩
      have HB2 := Lib.hid hb2; have HO2 := Lib.hid ho2
      clear hb2 hi2 ho2
      go_wp2_with fail
      refine Calls.mono (rbytes_own w2 ((j : Int) / 8)) ?_
      rintro e w3 ⟨rfl, hb3, -, hi3, -⟩
      have HB3 := Lib.hid (bl_next HB2.out HB2.out.size hb3); have HO3 := Lib.hid (own_below HO2.out hb3); have HI3 := Lib.hid hi3
      have hsz3 := HB3.out.size
      clear hb3 hi3 HB2 HO2
      go_wp2_with (first | (at_builtin; refine wpList_append_bytes rfl _ _ rfl wr.heap.size _ _ _ rfl HO3.out _ _ _ _ rfl HI3.out (by omega) hsz3 ?_; intro v4 w4 hown hgrow; have HO4 := Lib.hid hown; have HB4 := Lib.hid (HB3.out.grown hgrow hsz3 (own_base HO3.out)); clear hown hgrow) | fail)
      obtain ⟨b4, cp4, rfl, _, hi4, _⟩ := ints_of_own HO4.out (by
        intro y hy
        rcases List.mem_append.1 hy with h | h
        · exact wf_bytes _ y h
        · exact wf_bytes _ y h)
      have HI4 := Lib.hid hi4
      clear hi4 HB3 HO3 HI3 HO4
      refine Calls.mono (rkeyed_any _ key b4 16 cp4 _ (by omega) HI4.out) ?_
      rintro e w5 ⟨rfl, q5, rfl⟩
      rw [show bytesM n ++ bytesM ((j : Int) / 8) = rowM [n, (j : Int) / 8] by simp [rowM]]
      have HL5 := Lib.hid (bl_next HL.out hsz (bl_drewN HB4.out q5))
      have HO5 := Lib.hid (own_below HO.out (bl_drewN HB4.out q5))
      clear HL HO HI4 HB4
      go_upto_region 6 with fail
      generalize w4.drewN q5 = W5 at HL5 HO5 ⊢
      obtain ⟨g, rfl, hg, hgl, hfz, hcells, _⟩ := own_set HO5.out (Below.refl _ _) (i := j) hlt (.int .u8 0) rfl
      obtain ⟨x, hx⟩ : ∃ x, bs[j]? = some x := ⟨_, List.getElem?_eq_getElem (by omega)⟩
      have hc : W5.cell? ⟨g, j, none⟩ = some (.int .u8 x) := hcells _ _ (by rw [List.getElem?_map, mixM_at key n bs j j (Nat.le_refl _), hx]; rfl)
      obtain ⟨ks, hks⟩ : ∃ ks, keyRow key n (j / 8) = ks := ⟨_, rfl⟩
      have hkl : ks.length = 8 := by rw [← hks]; exact keyRow_len key n (j / 8)
      obtain ⟨y, hy⟩ : ∃ y, ks[j % 8]? = some y := ⟨_, List.getElem?_eq_getElem (by omega)⟩
      have hta : turnAt key n bs j = bits .xor .u8 x y := by
        unfold turnAt
        rw [List.getD_eq_getElem?_getD, hx, List.getD_eq_getElem?_getD, hks, hy]; rfl
      have HTA := Lib.hid hta
      have HKS := Lib.hid (And.intro hkl hks)
      clear hcells hx hta hkl hks
      have HY := Lib.hid hy
      refine wp_plan (.t 0 (.t 1 (.t 2 (.t 3 (.t 4 (.t 6 (.t 8 (.t 9 (.b 5 (.u 7 (.t 10 (.t 11 (.t 12 (.t 13 (.u 14 .done)))))) 7 (.t 10 (.t 11 (.u 5 (.t 12 (.t 13 (.u 14 .done)))))))))))))))
        (fun y => W5.grownBy y (some g)) (by kernel_rfl) (by kernel_rfl) (by kernel_rfl) (fun c a d v w h => by cases d <;> exact h) (grown_drew _ _) ?_
      have hS : W5.grownBy W5.drew (some g) := grown_drew _ _
      have HO1 := Lib.hid (own_below HO5.out (Below.refl W5.heap.size W5).drew)
      have HL1 := Lib.hid (bl_next HL5.out HL5.out.size (Below.refl W5.heap.size W5).drew)
      have hc1 : W5.drew.cell? ⟨g, j, none⟩ = some (.int .u8 x) := hc
      have hf1 : W5.drew.frozen? ⟨g, j, none⟩ = false := hfz
      have hgl1 : g < W5.drew.heap.size := hgl
      generalize W5.drew = W1 at hS HO1 HL1 hc1 hf1 hgl1 ⊢
      clear hc hfz hgl HO5 HL5 hy
      haveI hne : Nonempty (In fun y => W5.grownBy y (some g)) := ⟨⟨W5, grown_refl _ _⟩⟩
      repeat (refine plan_t (by rfl) ?_; (first | go_big_quiet_skip | (go_big_quiet_want; go_big_quiet_op; go_big_quiet_on)); refine wpQuiet_nil ?_)
      refine plan_b8 ?_ ?_
      · refine plan_us (by rfl) (by kernel_rfl) ?_
        intro K hK
        go_wp2_with fail
        refine ⟨hS, ?_⟩
        have hy := HY.out
        refine plan_un (by rfl) (by kernel_rfl) ?_
        intro K hK
        go_wp2_with fail
        refine Calls.mono (rbytes_own W1 (keyedM key (rowM [n, (j : Int) / 8]))) ?_
        rintro e W7 ⟨rfl, hb7, -, hi7, -⟩
        have hS7 : W5.grownBy W7 (some g) := grown_trans hS (grown_below hb7 _)
        have HO7 := Lib.hid (own_below HO1.out hb7)
        have HL7 := Lib.hid (bl_next HL1.out HL1.out.size hb7)
        have hc7 : W7.cell? ⟨g, j, none⟩ = some (.int .u8 x) := bl_cell hb7 (p := ⟨g, j, none⟩) hgl1 hc1
        have hf7 : W7.frozen? ⟨g, j, none⟩ = false := (hb7.frozen (p := ⟨g, j, none⟩) hgl1).trans hf1
        have hds : ∀ s : In (fun y => W7.grownBy y (some g)), s.w.cell? ⟨W1.heap.size, j % 8, none⟩ = some (.int .u8 y) := fun s => by
          obtain ⟨b9, o9, x9, e9, hbl9, hx9, _, hc9⟩ := hi7.at (Below.refl _ _) (j := j % 8) (by omega)
          injection e9 with e9; injection e9 with e91 e92
          subst e91 e92
          rw [Nat.zero_add] at hc9
          rw [show y = x9 by rw [hx9, List.getD_eq_getElem?_getD]; have h := HKS.out.2; unfold keyRow at h; rw [show ((j / 8 : Nat) : Int) = (j : Int) / 8 by omega] at h; rw [h, hy]; rfl]
          exact s.h.cell hc9 (by intro e; injection e with e; have e' : W1.heap.size = g := e; omega)
        haveI hne7 : Nonempty (In fun y => W7.grownBy y (some g)) := ⟨⟨W7, grown_refl _ _⟩⟩
        clear HO1 HL1 hb7 hi7
        generalize hg7 : W1.heap.size = g7 at *
        go_wp2_with fail
        refine ⟨fun y => W7.grownBy y (some g), fun x hx => grown_trans hS7 hx, grown_refl _ _, ?_⟩
        repeat (refine plan_t (by rfl) ?_; (first | go_big_quiet_skip | (go_big_quiet_want; go_big_quiet_op; go_big_quiet_on)); refine wpQuiet_nil ?_)
        refine plan_un (by rfl) (by kernel_rfl) ?_
        intro K2 hK2
        go_wp2_with fail
        have hHO := own_put HO7.out (i := j) hlt (.int .u8 (bits .xor .u8 x y)) rfl
        have hHL := (HL7.out.setCell (p := ⟨g, j, none⟩) hg (.int .u8 (bits .xor .u8 x y)))
        refine ⟨fun y => W7.grownBy y (some g), fun _ h => h, grown_setCell _ _ _ _, ?_⟩
        have hset : mixM key n bs (j + 1) = (mixM key n bs j).set j (bits .xor .u8 x y) := by rw [← HTA.out]; rfl
        rw [← List.map_set, ← hset] at hHO
        have HO8 := Lib.hid hHO; have HL8 := Lib.hid hHL
        clear hHO hHL hset HO7 HL7 hc7 hf7
        show Exit.inBlock _ _ _ _ _
        go_wp2_with fail
        go_roundw
        case rel => exact ⟨j + 1, by go_num, by omega, HL8, HO8⟩
        case measure => simp [intOf]; omega
      · have hy := HY.out
        refine plan_un (by rfl) (by kernel_rfl) ?_
        intro K hK
        go_wp2_with fail
        refine Calls.mono (rbytes_own W1 (keyedM key (rowM [n, (j : Int) / 8]))) ?_
        rintro e W7 ⟨rfl, hb7, -, hi7, -⟩
        have hS7 : W5.grownBy W7 (some g) := grown_trans hS (grown_below hb7 _)
        have HO7 := Lib.hid (own_below HO1.out hb7)
        have HL7 := Lib.hid (bl_next HL1.out HL1.out.size hb7)
        have hc7 : W7.cell? ⟨g, j, none⟩ = some (.int .u8 x) := bl_cell hb7 (p := ⟨g, j, none⟩) hgl1 hc1
        have hf7 : W7.frozen? ⟨g, j, none⟩ = false := (hb7.frozen (p := ⟨g, j, none⟩) hgl1).trans hf1
        have hds : ∀ s : In (fun y => W7.grownBy y (some g)), s.w.cell? ⟨W1.heap.size, j % 8, none⟩ = some (.int .u8 y) := fun s => by
          obtain ⟨b9, o9, x9, e9, hbl9, hx9, _, hc9⟩ := hi7.at (Below.refl _ _) (j := j % 8) (by omega)
          injection e9 with e9; injection e9 with e91 e92
          subst e91 e92
          rw [Nat.zero_add] at hc9
          rw [show y = x9 by rw [hx9, List.getD_eq_getElem?_getD]; have h := HKS.out.2; unfold keyRow at h; rw [show ((j / 8 : Nat) : Int) = (j : Int) / 8 by omega] at h; rw [h, hy]; rfl]
          exact s.h.cell hc9 (by intro e; injection e with e; have e' : W1.heap.size = g := e; omega)
        haveI hne7 : Nonempty (In fun y => W7.grownBy y (some g)) := ⟨⟨W7, grown_refl _ _⟩⟩
        clear HO1 HL1 hb7 hi7
        generalize hg7 : W1.heap.size = g7 at *
        go_wp2_with fail
        refine ⟨fun y => W7.grownBy y (some g), fun x hx => grown_trans hS7 hx, grown_refl _ _, ?_⟩
        repeat (refine plan_t (by rfl) ?_; (first | go_big_quiet_skip | (go_big_quiet_want; go_big_quiet_op; go_big_quiet_on)); refine wpQuiet_nil ?_)
        refine plan_us (by rfl) (by kernel_rfl) ?_
        intro K1 hK1
        go_wp2_with fail
        refine ⟨grown_refl _ _, ?_⟩
        repeat (refine plan_t (by rfl) ?_; (first | go_big_quiet_skip | (go_big_quiet_want; go_big_quiet_op; go_big_quiet_on)); refine wpQuiet_nil ?_)
        refine plan_un (by rfl) (by kernel_rfl) ?_
        intro K2 hK2
        go_wp2_with fail
        have hHO := own_put HO7.out (i := j) hlt (.int .u8 (bits .xor .u8 x y)) rfl
        have hHL := (HL7.out.setCell (p := ⟨g, j, none⟩) hg (.int .u8 (bits .xor .u8 x y)))
        refine ⟨fun y => W7.grownBy y (some g), fun _ h => h, grown_setCell _ _ _ _, ?_⟩
        have hset : mixM key n bs (j + 1) = (mixM key n bs j).set j (bits .xor .u8 x y) := by rw [← HTA.out]; rfl
        rw [← List.map_set, ← hset] at hHO
        have HO8 := Lib.hid hHO; have HL8 := Lib.hid hHL
        clear hHO hHL hset HO7 HL7 hc7 hf7
        show Exit.inBlock _ _ _ _ _
        go_wp2_with fail
        go_roundw
        case rel => exact ⟨j + 1, by go_num, by omega, HL8, HO8⟩
        case measure => simp [intOf]; omega
    · obtain rfl : j = len := by omega
      go_wp2_with fail
      go_ret
      exact ⟨_, rfl, HL.out, by unfold turnedM; rw [hl]; exact HO.out⟩
end Go.Proofs.Ythofbckkjcidmaa
namespace Go.Proofs.Ythofbckkjcidmaa
open Go.RowKit
set_option linter.unusedVariables false

set_option maxRecDepth 100000 in
set_option maxHeartbeats 2000000 in
theorem rtag_any (w : World) (key n : Int) (ha : Option Addr) (hl hc : Nat) (hs : List Int) (sa : Option Addr) (sl sc : Nat) (ss : List Int) (hn : (Lit.int .u64 n).wf = true) (hlen : hl + sl + 16 ≤ 140737488355328) (hH : IntsK .u8 w ha hl hs) (hS : IntsK .u8 w sa sl ss) :
    Calls Try.prog 65 #[.int .u64 key, .int .u64 n, .slice ha hl hc, .slice sa sl sc] w fun e w' => ∃ b : Option Addr, e = .returned (.slice b 8 8) ∧ Below w.heap.size w w' ∧ w'.ownsRow w.heap.size 5 1 (.slice b 8 8) 8 ((tagM key n hs ss).map (Value.int .u8)) := by
  have HH := Lib.hid hH; have HS := Lib.hid hS; have HN := Lib.hid hn
  have hhl := hH.1
  have hsl := hS.1
  have HD := Lib.hid (fun w => rderive_any w key ⟨#[116, 97, 103]⟩ (by decide))
  clear hH hS hn
  go_enter Try.func65, Try.ntmps65
  go_wp2_with fail
  refine Calls.mono (rbytes_own w n) ?_
  rintro e w2 ⟨rfl, hb2, -, hi2, ho2⟩
  have HB2 := Lib.hid hb2; have HO2 := Lib.hid ho2
  clear hb2 hi2 ho2
  go_wp2_with fail
  refine Calls.mono (rbytes_own w2 (hl : Int)) ?_
  rintro e w3 ⟨rfl, hb3, -, hi3, -⟩
  have HB3 := Lib.hid (bl_next HB2.out HB2.out.size hb3); have HO3 := Lib.hid (own_below HO2.out hb3); have HI3 := Lib.hid hi3
  have hsz3 := HB3.out.size
  clear hb3 hi3 HB2 HO2
  go_upto_region 2 with (first | (at_builtin; refine wpList_append_bytes rfl _ _ rfl w.heap.size _ _ _ rfl HO3.out _ _ _ _ rfl HI3.out (by omega) hsz3 ?_; intro v4 w4 hown hgrow; have HO4 := Lib.hid hown; have HB4 := Lib.hid (HB3.out.grown hgrow hsz3 (own_base HO3.out)); clear hown hgrow) | fail)
  clear HO3 HB3 HI3
  go_wp2_with fail
  refine Calls.mono (HD.out _) ?_
  rintro e w5 ⟨rfl, hb5⟩
  have HB5 := Lib.hid (bl_next HB4.out HB4.out.size hb5); have HO5 := Lib.hid (own_below HO4.out hb5)
  have hsz5 := HB5.out.size
  clear hb5 HB4 HO4
  obtain ⟨b5, cp5, rfl, _⟩ := own_slice HO5.out
  go_wp2_with (first
    | (at_builtin; refine wpList_append_bytes rfl _ _ rfl w.heap.size (8 + 8) (.slice b5 (8 + 8) cp5) _ rfl HO5.out _ _ _ _ rfl (HH.out.below HB5.out) (by omega) hsz5 ?_; intro v6 w6 hown hgrow; have HO6 := Lib.hid hown; have HB6 := Lib.hid (HB5.out.grown hgrow hsz5 (own_base HO5.out)); have hsz6 := HB6.out.size; clear hown hgrow HO5 HB5)
    | (at_builtin; refine wpList_append_bytes rfl _ _ rfl w.heap.size (8 + 8 + hl) _ _ rfl HO6.out _ _ _ _ rfl (HS.out.below HB6.out) (by omega) hsz6 ?_; intro v7 w7 hown hgrow; have HO7 := Lib.hid hown; have HB7 := Lib.hid (HB6.out.grown hgrow hsz6 (own_base HO6.out)); have hsz7 := HB7.out.size; clear hown hgrow HO6 HB6)
    | fail)
  have hM : bytesM n ++ bytesM (hl : Int) ++ hs ++ ss = rowM [n, (hl : Int)] ++ (hs ++ ss) := by simp [rowM]
  have hwM : ∀ x ∈ bytesM n ++ bytesM (hl : Int) ++ hs ++ ss, (Lit.int .u8 x).wf = true := by
    intro y hy
    rw [hM] at hy
    rcases List.mem_append.1 hy with h | h
    · exact row2_wf _ _ y h
    · rcases List.mem_append.1 h with h | h
      · exact HH.out.2.1 y h
      · exact HS.out.2.1 y h
  obtain ⟨b7, cp7, rfl, _, hi7, _⟩ := ints_of_own HO7.out hwM
  rw [hM] at hi7
  have HI7 := Lib.hid hi7
  clear hM hwM hi7 HO7
  refine Calls.mono (rkeyed_any _ _ b7 _ cp7 _ (by omega) HI7.out) ?_
  rintro e w8 ⟨rfl, q8, rfl⟩
  go_wp2_with fail
  refine Calls.mono (rbytes_own _ _) ?_
  rintro e w9 ⟨rfl, hb9, -, -, ho9⟩
  have HB9 := Lib.hid (bl_next (bl_drewN HB7.out q8) (by simpa using hsz7) hb9)
  have HO9 := Lib.hid (ho9.mono (show w.heap.size ≤ (w7.drewN q8).heap.size by simpa using hsz7))
  clear hb9 ho9 HB7
  go_wp2_with fail
  go_ret
  refine ⟨_, rfl, HB9.out, ?_⟩
  have h := HO9.out
  unfold tagM
  rw [hhl]
  exact h

set_option maxRecDepth 100000 in
set_option maxHeartbeats 2000000 in
theorem rseal_any (w : World) (key n : Int) (ha : Option Addr) (hl hc : Nat) (hs : List Int) (sa : Option Addr) (sl sc : Nat) (ss : List Int) (hn : (Lit.int .u64 n).wf = true) (hlen : hl + sl + 24 ≤ 140737488355328) (hs1 : sl ≤ 1000000) (hH : IntsK .u8 w ha hl hs) (hS : IntsK .u8 w sa sl ss) :
    Calls Try.prog 40 #[.int .u64 key, .int .u64 n, .slice ha hl hc, .slice sa sl sc] w fun e w' => ∃ v, e = .returned v ∧ Below w.heap.size w w' ∧ w'.ownsRow w.heap.size 5 1 v (sl + 8) ((sealM key n hs ss).map (Value.int .u8)) := by
  have HH := Lib.hid hH; have HS := Lib.hid hS; have HN := Lib.hid hn
  clear hH hS hn
  go_enter Try.func40, Try.ntmps40
  go_wp2_with fail
  refine Calls.mono (rturned_any w key n sa sl sc ss hs1 HN.out HS.out) ?_
  rintro e w2 ⟨v2, rfl, hb2, ho2⟩
  obtain ⟨b2, cp2, rfl, _, hi2, _⟩ := ints_of_own ho2 (turnedM_wf _ _ _ HS.out.2.1)
  have HL2 := Lib.hid hb2; have HO2 := Lib.hid ho2; have HI2 := Lib.hid hi2
  clear hb2 ho2 hi2
  go_wp2_with fail
  refine Calls.mono (rtag_any w2 key n ha hl hc hs b2 sl cp2 _ HN.out (by omega) (HH.out.below HL2.out) HI2.out) ?_
  rintro e w5 ⟨b5, rfl, hb5, ho5⟩
  obtain ⟨_, _, e5, _, hi5, _⟩ := ints_of_own ho5 (tagM_wf key n hs (turnedM key n ss))
  injection e5 with e51 e52 e53
  subst e51 e53
  have HL5 := Lib.hid (bl_next HL2.out HL2.out.size hb5)
  have HO5 := Lib.hid (own_below HO2.out hb5)
  have HI5 := Lib.hid hi5
  have hsz5 := HL5.out.size
  clear hb5 ho5 hi5 HO2 HI2 HL2 e52
  go_wp2_with (first | (at_builtin; refine wpList_append_bytes rfl _ _ rfl w.heap.size _ _ _ rfl HO5.out _ _ _ _ rfl HI5.out (by omega) hsz5 ?_; intro v7 w7 hown hgrow; have HO7 := Lib.hid hown; have HL7 := Lib.hid (HL5.out.grown hgrow hsz5 (own_base HO5.out)); clear hown hgrow) | fail)
  go_ret
  exact ⟨_, rfl, HL7.out, HO7.out⟩

set_option maxRecDepth 100000 in
set_option maxHeartbeats 2000000 in
theorem ropen_any (w : World) (key n : Int) (ha : Option Addr) (hl hc : Nat) (hs : List Int) (sa : Option Addr) (sl sc : Nat) (ss : List Int) (hn : (Lit.int .u64 n).wf = true) (hlen : hl + sl + 24 ≤ 140737488355328) (hs1 : sl ≤ 1000000) (hsc : sl ≤ sc) (hsm : sc ≤ 9223372036854775807) (hH : IntsK .u8 w ha hl hs) (hS : IntsK .u8 w sa sl ss) :
    Calls Try.prog 68 #[.int .u64 key, .int .u64 n, .slice ha hl hc, .slice sa sl sc] w fun e w' => ∃ v, e = .returned (.tuple #[v, .bool (openM key n hs ss).2]) ∧ Below w.heap.size w w' ∧ w'.ownsRow w.heap.size 5 1 v (openM key n hs ss).1.length ((openM key n hs ss).1.map (Value.int .u8)) := by
  have HH := Lib.hid hH; have HS := Lib.hid hS; have HN := Lib.hid hn
  have hsl := hS.1
  clear hH hS hn
  by_cases h8 : sl < 8
  · have hom : openM key n hs ss = ([], false) := by unfold openM; rw [if_pos (by omega)]
    rw [hom]
    go_enter Try.func68, Try.ntmps68
    go_wp2_with fail
    go_ret2
    exact ⟨_, rfl, Below.refl _ _, World.ownsRow_nil _ _ _ _⟩
  · obtain ⟨k, rfl⟩ : ∃ k, sl = k + 8 := ⟨sl - 8, by omega⟩
    obtain ⟨ad, rfl, hadl, _⟩ := HS.out.src (by omega)
    obtain ⟨sb, off, hpa⟩ : ∃ sb off, ad = ⟨sb, off, none⟩ := by
      rcases HS.out.2.2 with h | ⟨b, off, e, _⟩
      · omega
      · injection e with e; exact ⟨b, off, e⟩
    subst hpa
    have hk : ss.length - 8 = k := by omega
    have HT := Lib.hid (HS.out.pre k (by omega))
    have HD := Lib.hid (HS.out.suf k (by omega))
    rw [show k + 8 - k = 8 by omega] at HD
    go_enter Try.func68, Try.ntmps68
    go_upto_region 4 with fail
    have hconv2 : ∀ s : In (fun y => Below w.heap.size w y), (convert 23 9 (.slice (some ⟨sb, off + k, none⟩) 8 (sc - k))).run Try.prog s.w = .ok (.string (strOfNums (ss.drop k))) s.w := fun s =>
      conv_ints _ 5 _ _ Try.underlying23 Try.underlying5 Try.underlying9 (HD.out.below s.h)
    refine wp_plan (.t 0 (.t 1 (.t 2 (.t 3 (.t 6 (.t 7 (.t 8 (.t 9 (.t 10 (.u 4 (.t 5 (.t 11 .done)))))))))))) (fun y => Below w.heap.size w y) (by kernel_rfl) (by kernel_rfl) (by kernel_rfl) (fun c a d v w h => by cases d <;> exact h) (Below.refl _ _).drew ?_
    have hS : Below w.heap.size w w.drew := (Below.refl _ _).drew
    generalize w.drew = W1 at hS ⊢
    haveI hne : Nonempty (In fun y => Below w.heap.size w y) := ⟨⟨w, Below.refl _ _⟩⟩
    repeat (refine plan_t (by rfl) ?_; (first | go_big_quiet_skip | (go_big_quiet_want; go_big_quiet_op; go_big_quiet_on)); refine wpQuiet_nil ?_)
    refine plan_un (by rfl) (by kernel_rfl) ?_
    intro K hK
    go_wp2_with fail
    refine Calls.mono (rtag_any W1 key n ha hl hc hs _ k sc _ HN.out (by omega) (HH.out.below hS) (HT.out.below hS)) ?_
    rintro e w5 ⟨b5, rfl, hb5, ho5⟩
    obtain ⟨_, _, e5, _, hi5, _⟩ := ints_of_own ho5 (tagM_wf key n hs (ss.take k))
    injection e5 with e51 e52 e53
    subst e51 e53
    have hS5 := bl_next hS hS.size hb5
    have hconv1 : ∀ s : In (fun y => Below w5.heap.size w5 y), (convert 23 9 (.slice b5 8 8)).run Try.prog s.w = .ok (.string (strOfNums (tagM key n hs (ss.take k)))) s.w := fun s =>
      conv_ints _ 5 _ _ Try.underlying23 Try.underlying5 Try.underlying9 (hi5.below s.h)
    clear hb5 ho5 hi5 e52 hconv2 hne
    go_wp2_with fail
    refine ⟨fun y => Below w5.heap.size w5 y, fun x hx => bl_next hS5 hS5.size hx, Below.refl _ _, ?_⟩
    haveI hne5 : Nonempty (In fun y => Below w5.heap.size w5 y) := ⟨⟨w5, Below.refl _ _⟩⟩
    repeat (refine plan_t (by rfl) ?_; (first | go_big_quiet_skip | (go_big_quiet_want; go_big_quiet_op; go_big_quiet_on)); refine wpQuiet_nil ?_)
    clear hconv1 hne5
    have hom : openM key n hs ss = if tagM key n hs (ss.take k) = ss.drop k then (turnedM key n (ss.take k), true) else ([], false) := by unfold openM; rw [if_neg (by omega), hk]
    have HOM := Lib.hid hom
    have HL := Lib.hid hS5
    clear hom hS5
    show Exit.then _ _ _ _ _
    by_cases heq : tagM key n hs (ss.take k) = ss.drop k
    · have e1 := HOM.out
      rw [if_pos heq] at e1
      rw [← heq, beq_self_eq_true]
      have E1 := Lib.hid e1
      clear HOM heq e1
      go_wp2_with fail
      refine Calls.mono (rturned_any w5 key n _ k sc _ (by omega) HN.out (HT.out.below HL.out)) ?_
      rintro e w7 ⟨v7, rfl, hb7, ho7⟩
      have HL7 := Lib.hid (bl_next HL.out HL.out.size hb7)
      have HO7 := Lib.hid (ho7.mono HL.out.size)
      clear hb7 ho7
      go_wp2_with fail
      go_ret2
      rw [E1.out]
      refine ⟨_, rfl, HL7.out, ?_⟩
      rw [turnedM_len, List.length_take, show min k ss.length = k by omega]
      exact HO7.out
    · have e1 := HOM.out
      rw [if_neg heq] at e1
      rw [str_ne8 _ _ (tagM_wf _ _ _ _) HD.out.2.1 heq]
      have E1 := Lib.hid e1
      clear HOM heq e1
      go_wp2_with fail
      go_ret2
      rw [E1.out]
      exact ⟨_, rfl, HL.out, World.ownsRow_nil _ _ _ _⟩
end Go.Proofs.Ythofbckkjcidmaa
namespace Go.Proofs.Ythofbckkjcidmaa
open Go.RowKit
set_option linter.unusedVariables false

theorem openM_wf (key n : Int) (head s : List Int) (h : ∀ x ∈ s, (Lit.int .u8 x).wf = true) : ∀ x ∈ (openM key n head s).1, (Lit.int .u8 x).wf = true := by
  unfold openM
  split
  · simp
  · split
    · exact turnedM_wf _ _ _ (fun x hx => h x (List.mem_of_mem_take hx))
    · simp

theorem set5 {w : World} {b : Nat} {u0 u1 u2 u3 u4 : Value} {t : TypeId} (h : w.heap[b]? = some (.cells #[u0, u1, u2, u3, u4] t (0, 0))) (x0 x1 x2 x3 x4 : Value) :
    At (((((w.setCell ⟨b, 0, none⟩ x0).setCell ⟨b, 1, none⟩ x1).setCell ⟨b, 2, none⟩ x2).setCell ⟨b, 3, none⟩ x3).setCell ⟨b, 4, none⟩ x4)
      b #[x0, x1, x2, x3, x4] t w := by
  have h0 := At.base h
  have h1 : At _ b #[x0, u1, u2, u3, u4] t w := (h0.set 0 x0).conv (by rfl)
  have h2 : At _ b #[x0, x1, u2, u3, u4] t w := (h1.set 1 x1).conv (by rfl)
  have h3 : At _ b #[x0, x1, x2, u3, u4] t w := (h2.set 2 x2).conv (by rfl)
  have h4 : At _ b #[x0, x1, x2, x3, u4] t w := (h3.set 3 x3).conv (by rfl)
  have h5 : At _ b #[x0, x1, x2, x3, x4] t w := (h4.set 4 x4).conv (by rfl)
  exact h5

set_option maxRecDepth 100000 in
set_option maxHeartbeats 2000000 in
theorem mask_any (w : World) (key : Int) (xs : List Int) (hl : xs.length = 8) (hw : ∀ x ∈ xs, (Lit.int .u8 x).wf = true) :
    Makes Try.prog 54 #[.int .u64 key, .agg (xs.map (Value.int .u8)).toArray] w (.agg (((bytesM (keyedM key xs)).take 5).map (Value.int .u8)).toArray) := by
  obtain ⟨x0, x1, x2, x3, x4, x5, x6, x7, rfl⟩ : ∃ x0 x1 x2 x3 x4 x5 x6 x7, xs = [x0, x1, x2, x3, x4, x5, x6, x7] := by
    match xs, hl with
    | [x0, x1, x2, x3, x4, x5, x6, x7], _ => exact ⟨x0, x1, x2, x3, x4, x5, x6, x7, rfl⟩
  have HIA := Lib.hid (ints_made8 w [x0, x1, x2, x3, x4, x5, x6, x7] 29 rfl hw)
  clear hw hl
  simp only [List.map_cons, List.map_nil]
  go_enter Try.func54, Try.ntmps54
  go_wp2_with fail
  have hr4 := heap_alloc_new (w.alloc (.cells #[.int .u8 x0, .int .u8 x1, .int .u8 x2, .int .u8 x3, .int .u8 x4, .int .u8 x5, .int .u8 x6, .int .u8 x7] 29)) (.cells #[.int .u8 0, .int .u8 0, .int .u8 0, .int .u8 0, .int .u8 0] 69)
  have hB2 := ((Below.refl w.heap.size w).alloc (Nat.le_refl _) (.cells #[.int .u8 x0, .int .u8 x1, .int .u8 x2, .int .u8 x3, .int .u8 x4, .int .u8 x5, .int .u8 x6, .int .u8 x7] 29)).alloc (by simp) (.cells #[.int .u8 0, .int .u8 0, .int .u8 0, .int .u8 0, .int .u8 0] 69)
  have hI2 := HIA.out.below ((Below.refl (w.alloc (.cells #[.int .u8 x0, .int .u8 x1, .int .u8 x2, .int .u8 x3, .int .u8 x4, .int .u8 x5, .int .u8 x6, .int .u8 x7] 29)).heap.size _).alloc (Nat.le_refl _) (.cells #[.int .u8 0, .int .u8 0, .int .u8 0, .int .u8 0, .int .u8 0] 69))
  rw [show (w.alloc (.cells #[.int .u8 x0, .int .u8 x1, .int .u8 x2, .int .u8 x3, .int .u8 x4, .int .u8 x5, .int .u8 x6, .int .u8 x7] 29)).heap.size = w.heap.size + 1 by simp] at hr4
  refine Calls.mono (keyed_any _ _ _ 8 8 _ (by omega) hI2) ?_
  generalize ((w.alloc (.cells #[.int .u8 x0, .int .u8 x1, .int .u8 x2, .int .u8 x3, .int .u8 x4, .int .u8 x5, .int .u8 x6, .int .u8 x7] 29)).alloc (.cells #[.int .u8 0, .int .u8 0, .int .u8 0, .int .u8 0, .int .u8 0] 69)) = W2 at hr4 hB2 hI2 ⊢
  have HR := Lib.hid hr4; have HB2 := Lib.hid hB2
  clear hr4 hB2 hI2 HIA
  rintro e w6 ⟨rfl, q6, rfl⟩
  go_wp2_with fail
  refine Calls.mono (bytes_any _ _) ?_
  rintro e w7 ⟨rfl, hb7⟩
  obtain ⟨y0, y1, y2, y3, y4, y5, y6, y7, ey⟩ : ∃ y0 y1 y2 y3 y4 y5 y6 y7, bytesM (keyedM key [x0, x1, x2, x3, x4, x5, x6, x7]) = [y0, y1, y2, y3, y4, y5, y6, y7] := ⟨_, _, _, _, _, _, _, _, rfl⟩
  have EY := Lib.hid ey
  rw [ey]
  simp only [List.map_cons, List.map_nil]
  have hB7 : Below W2.heap.size W2 w7 := (bl_drewN (Below.refl _ _) q6).trans hb7
  have hx7 := bl_row hB7 (lt_of_block HR.out) HR.out
  have hs7 := Nat.lt_of_lt_of_le (lt_of_block HR.out) hB7.size
  have hL7 := bl_next HB2.out HB2.out.size hB7
  have hxA := bl_row ((Below.refl w7.heap.size w7).alloc (Nat.le_refl _) (.cells #[.int .u8 y0, .int .u8 y1, .int .u8 y2, .int .u8 y3, .int .u8 y4, .int .u8 y5, .int .u8 y6, .int .u8 y7] 29)) hs7 hx7
  have hLA := hL7.alloc hL7.size (.cells #[.int .u8 y0, .int .u8 y1, .int .u8 y2, .int .u8 y3, .int .u8 y4, .int .u8 y5, .int .u8 y6, .int .u8 y7] 29)
  have hrA := heap_alloc_new w7 (.cells #[.int .u8 y0, .int .u8 y1, .int .u8 y2, .int .u8 y3, .int .u8 y4, .int .u8 y5, .int .u8 y6, .int .u8 y7] 29)
  have HXA := Lib.hid hxA; have HLA := Lib.hid hLA; have HRA := Lib.hid hrA
  clear ey hB7 hx7 hL7 hxA hLA hb7 hrA
  go_upto_region 2 with fail
  generalize w7.alloc (.cells #[.int .u8 y0, .int .u8 y1, .int .u8 y2, .int .u8 y3, .int .u8 y4, .int .u8 y5, .int .u8 y6, .int .u8 y7] 29) = W8 at HXA HLA HRA ⊢
  obtain ⟨g, hg⟩ : ∃ g, w7.heap.size = g := ⟨_, rfl⟩
  obtain ⟨h, hh⟩ : ∃ h, w.heap.size + 1 = h := ⟨_, rfl⟩
  rw [hg] at HRA hs7 ⊢
  rw [hh] at HXA hs7 ⊢
  have c0 : W8.cell? ⟨g, 0, none⟩ = some (.int .u8 y0) := row_cell HRA.out 0 _ rfl
  have c1 : W8.cell? ⟨g, 1, none⟩ = some (.int .u8 y1) := row_cell HRA.out 1 _ rfl
  have c2 : W8.cell? ⟨g, 2, none⟩ = some (.int .u8 y2) := row_cell HRA.out 2 _ rfl
  have c3 : W8.cell? ⟨g, 3, none⟩ = some (.int .u8 y3) := row_cell HRA.out 3 _ rfl
  have c4 : W8.cell? ⟨g, 4, none⟩ = some (.int .u8 y4) := row_cell HRA.out 4 _ rfl
  have d0 : W8.cell? ⟨h, 0, none⟩ = some (.int .u8 0) := row_cell HXA.out 0 _ rfl
  have d1 : W8.cell? ⟨h, 1, none⟩ = some (.int .u8 0) := row_cell HXA.out 1 _ rfl
  have d2 : W8.cell? ⟨h, 2, none⟩ = some (.int .u8 0) := row_cell HXA.out 2 _ rfl
  have d3 : W8.cell? ⟨h, 3, none⟩ = some (.int .u8 0) := row_cell HXA.out 3 _ rfl
  have d4 : W8.cell? ⟨h, 4, none⟩ = some (.int .u8 0) := row_cell HXA.out 4 _ rfl
  have f0 := row_free HXA.out 0
  have f1 := row_free HXA.out 1
  have f2 := row_free HXA.out 2
  have f3 := row_free HXA.out 3
  have f4 := row_free HXA.out 4
  have HG := Lib.hid hg; have HHH := Lib.hid hh
  clear hg hh
  have hta : ∀ w, (Instr.arrayAt 69 (.slice (some ⟨g, 0, none⟩) 5 8)).run Try.prog w = .ok (.pointer (some ⟨g, 0, none⟩)) w := fun w => by kernel_rfl
  go_wp2_with fail
  have hA := set5 HXA.out (.int .u8 y0) (.int .u8 y1) (.int .u8 y2) (.int .u8 y3) (.int .u8 y4)
  have hhw : w.heap.size ≤ h := by have := HHH.out; omega
  generalize (((((W8.setCell ⟨h, 0, none⟩ (.int .u8 y0)).setCell ⟨h, 1, none⟩ (.int .u8 y1)).setCell ⟨h, 2, none⟩ (.int .u8 y2)).setCell ⟨h, 3, none⟩ (.int .u8 y3)).setCell ⟨h, 4, none⟩ (.int .u8 y4)) = W9 at hA ⊢
  have hrow := hA.row
  have hLZ : Below w.heap.size w W9 := HLA.out.grown hA.rest HLA.out.size (by intro k hk; injection hk with hk; omega)
  have e0 : W9.cell? ⟨h, 0, none⟩ = some (.int .u8 y0) := row_cell hrow 0 _ rfl
  have e1 : W9.cell? ⟨h, 1, none⟩ = some (.int .u8 y1) := row_cell hrow 1 _ rfl
  have e2 : W9.cell? ⟨h, 2, none⟩ = some (.int .u8 y2) := row_cell hrow 2 _ rfl
  have e3 : W9.cell? ⟨h, 3, none⟩ = some (.int .u8 y3) := row_cell hrow 3 _ rfl
  have e4 : W9.cell? ⟨h, 4, none⟩ = some (.int .u8 y4) := row_cell hrow 4 _ rfl
  rw [EY.out]
  exact bodyPost_ret (v := .agg #[.int .u8 y0, .int .u8 y1, .int .u8 y2, .int .u8 y3, .int .u8 y4]) (by simp [results, Try.results54, go_sem, e0, e1, e2, e3, e4]) rfl ⟨rfl, hLZ⟩

set_option maxRecDepth 100000 in
theorem rmask_any (w : World) (key : Int) (a : Option Addr) (len cap : Nat) (bs : List Int) (hlen : len ≤ 9223372036854775807) (hb : IntsK .u8 w a len bs) :
    Calls Try.prog 66 #[.int .u64 key, .slice a len cap] w fun e w' => ∃ b : Option Addr, e = .returned (.slice b 5 8) ∧ Below w.heap.size w w' ∧ IntsK .u8 w' b 5 ((bytesM (keyedM key bs)).take 5) := by
  have HB := Lib.hid hb; clear hb
  go_enter Try.func66, Try.ntmps66
  go_wp2_with fail
  refine Calls.mono (rkeyed_any _ key a len cap _ hlen HB.out) ?_
  rintro e w6 ⟨rfl, q6, rfl⟩
  go_wp2_with fail
  refine Calls.mono (rbytes_own _ _) ?_
  rintro e w9 ⟨rfl, hb9, -, hi9, -⟩
  have HB9 := Lib.hid ((bl_drewN (Below.refl w.heap.size w) q6).trans hb9)
  have HI9 := Lib.hid (hi9.pre 5 (by omega))
  clear hb9 hi9
  go_wp2_with fail
  go_ret
  exact ⟨_, rfl, HB9.out, HI9.out⟩
end Go.Proofs.Ythofbckkjcidmaa
