/- chapter 1's walks: BitsNumbers -/
import Derived.Test.YtdchcclcjoaogaaBitsLaw3
namespace Go.Proofs.Ytdchcclcjoaogaa
open Go.RowKit
set_option linter.unusedVariables false

def fours (i : Nat) : List Int := [IntKind.u64.wrap (2 ^ i), IntKind.u64.wrap (IntKind.u64.wrap (2 ^ i) - 1), IntKind.u64.wrap (-(IntKind.u64.wrap (2 ^ i))), 11400714819323198485 / 2 ^ i]
theorem fours_wf (i : Nat) : ∀ x ∈ fours i, (Lit.int .u64 x).wf = true := by
  intro x hx
  simp only [fours, List.mem_cons, List.not_mem_nil, or_false] at hx
  rcases hx with rfl | rfl | rfl | rfl
  · exact wf_wrap _ _
  · exact wf_wrap _ _
  · exact wf_wrap _ _
  · have h1 := Int.ediv_le_self (a := 11400714819323198485) (2 ^ i) (by decide)
    have h2 : (0 : Int) ≤ 11400714819323198485 / 2 ^ i := Int.ediv_nonneg (by decide) (Int.le_of_lt (Int.pow_pos (by decide)))
    exact wf_u64_of h2 (by omega)

theorem zc_size (n : Nat) : (Builtin.zeroCells #[Value.int .u8 0] n).size = n := by simp [Builtin.zeroCells]
theorem zc_get (n i : Nat) (h : i < n) : (Builtin.zeroCells #[Value.int .u8 0] n)[i]? = some (.int .u8 0) := by
  rw [Array.getElem?_eq_getElem (by rw [zc_size]; exact h)]
  simp [Builtin.zeroCells, Nat.mod_one]
def zrow (w : World) (x : Int) (m : Nat) : World :=
  ((w.alloc (.cells #[.int .u8 x] 5)).alloc (.cells (#[.int .u8 x] ++ (Builtin.zeroCells #[.int .u8 0] 9 ++ Builtin.zeroCells #[.int .u8 0] m)) 5)).drew
theorem zrow_below (w : World) (x : Int) (m : Nat) : Below w.heap.size w (zrow w x m) := bl_drewN (((Below.refl _ _).alloc (Nat.le_refl _) _).alloc (by simp) _) 1
theorem zrow_ints (w : World) (x : Nat) (hx : x < 256) (m : Nat) : IntsK .u8 (zrow w x m) (some ⟨w.heap.size + 1, 0, none⟩) 10 [(x : Int), 0, 0, 0, 0, 0, 0, 0, 0, 0] := by
  have hrow : (zrow w x m).heap[w.heap.size + 1]? = some (.cells (#[.int .u8 x] ++ (Builtin.zeroCells #[.int .u8 0] 9 ++ Builtin.zeroCells #[.int .u8 0] m)) 5 (0, 0)) := by
    have h := heap_alloc_new (w.alloc (.cells #[.int .u8 x] 5)) (.cells (#[.int .u8 x] ++ (Builtin.zeroCells #[.int .u8 0] 9 ++ Builtin.zeroCells #[.int .u8 0] m)) 5)
    rw [show (w.alloc (.cells #[.int .u8 x] 5)).heap.size = w.heap.size + 1 by simp] at h
    exact h
  refine ⟨rfl, ?_, .inr ⟨_, 0, rfl, lt_of_block hrow, fun i hi => ?_⟩⟩
  · intro y hy
    have hb : 0 ≤ y ∧ y < 256 := by simp only [List.mem_cons, List.not_mem_nil, or_false] at hy; omega
    exact wf_u8_of hb.1 hb.2
  · rw [cell_of_row _ _ _ _ _ _ hrow, Nat.zero_add]
    match i, hi with
    | 0, _ => rw [Array.getElem?_append_left (by simp)]; rfl
    | i + 1, hi =>
      rw [Array.getElem?_append_right (by simp), Array.getElem?_append_left (by rw [zc_size]; simp; omega), zc_get _ _ (by simp; omega)]
      match i, hi with
      | 0, _ => rfl
      | 1, _ => rfl
      | 2, _ => rfl
      | 3, _ => rfl
      | 4, _ => rfl
      | 5, _ => rfl
      | 6, _ => rfl
      | 7, _ => rfl
      | 8, _ => rfl

set_option maxRecDepth 100000 in
set_option maxHeartbeats 4000000 in
theorem numbers1_any (w : World) : Makes Try.prog 5 #[] w (.bool true) := by
  go_enter Try.func5, Try.ntmps5
  go_wp2_with fail
  go_loopw [1] (fun s1 wr => ∃ i : Nat, s1 = .int .i64 i ∧ i ≤ 64 ∧ Hid (Below w.heap.size w wr)) (fun s1 _ => 64 - (intOf s1).toNat)
  case atStart => exact ⟨0, rfl, by omega, Lib.hid (Below.refl _ _)⟩
  case round =>
    obtain ⟨i, rfl, hi, HB1⟩ := hrel
    by_cases hlt : i < 64
    · have HR := Lib.hid (heap_alloc_new wr (.cells ((fours i).map (Value.int .u64)).toArray 25))
      have HB4 := Lib.hid (HB1.out.alloc HB1.out.size (.cells ((fours i).map (Value.int .u64)).toArray 25))
      go_upto_region 5 with fail
      change Code.wp _ _ _ _ (wr.alloc (.cells ((fours i).map (Value.int .u64)).toArray 25))
      generalize wr.alloc (.cells ((fours i).map (Value.int .u64)).toArray 25) = W1 at HR HB4 ⊢
      have HI := Lib.hid (IntsK.of_row HR.out (fours_wf i))
      clear HR HB1
      generalize decide ((i : Int) < 64) = q8
      go_loopw [27] (fun s27 wr' => ∃ j : Nat, s27 = .int .i64 j ∧ j ≤ 4 ∧ Hid (Below W1.heap.size W1 wr')) (fun s27 _ => 4 - (intOf s27).toNat)
      case atStart => exact ⟨0, rfl, by omega, Lib.hid (Below.refl _ _)⟩
      case round =>
        obtain ⟨j, rfl, hj, HB5⟩ := hrel
        by_cases hltj : j < 4
        · obtain ⟨b, off, x, e, hbl, hx, hwx, hc⟩ := HI.out.at HB5.out (j := j) hltj
          injection e with e; injection e with e1 e2 e3; subst e1; subst e2
          rw [Nat.zero_add] at hc
          have hx2 := u64_bounds hwx
          clear hx hwx e3
          go_wp2_with fail
          refine Calls.mono (vars_any _ x hx2) ?_
          rintro e w2 ⟨rfl, h2⟩
          have HC := Lib.hid (bl_next HB5.out HB5.out.size h2); clear h2 hc
          go_wp2_with fail
          generalize decide ((j : Int) < 4) = q28
          go_loopw [4] (fun s4 wr => ∃ k : Int, s4 = .int .i64 k ∧ -66 ≤ k ∧ k ≤ 70 ∧ Hid (Below W1.heap.size W1 wr)) (fun s4 _ => (70 - (intOf s4)).toNat)
          case atStart => exact ⟨-66, rfl, by omega, by omega, HC⟩
          case round =>
            obtain ⟨k, rfl, hk0, hk1, HB6⟩ := hrel
            by_cases hltk : k < 70
            · go_wp2_with fail
              refine Calls.mono (turns_any _ x k hx2) ?_
              rintro e w3 ⟨rfl, h3⟩
              have HD := Lib.hid (bl_next HB6.out HB6.out.size h3); clear h3
              go_wp2_with fail
              go_roundw
              case rel => exact ⟨k + 1, rfl, by omega, by omega, HD⟩
              case measure => simp [intOf]; omega
            · go_wp2_with fail
              go_roundw
              case rel => exact ⟨j + 1, by go_num, by omega, HB6⟩
              case measure => simp [intOf]; omega
        · go_wp2_with fail
          go_roundw
          case rel => exact ⟨i + 1, by go_num, by omega, Lib.hid (HB4.out.trans (HB5.out.mono HB4.out.size))⟩
          case measure => simp [intOf]; omega
    · go_wp2_with fail
      go_loopw [5] (fun s5 wr => ∃ x : Nat, s5 = .int .i64 x ∧ x ≤ 256 ∧ Hid (Below w.heap.size w wr)) (fun s5 _ => 256 - (intOf s5).toNat)
      case atStart => exact ⟨0, rfl, by omega, HB1⟩
      case round =>
        obtain ⟨x, rfl, hx, HB2⟩ := hrel
        by_cases hltx : x < 256
        · go_wp2_with fail
          generalize decide ((x : Int) < 256) = q44
          go_loopw [6] (fun s6 wr => ∃ n : Nat, s6 = .int .i64 n ∧ n ≤ 9 ∧ Hid (Below w.heap.size w wr)) (fun s6 _ => 9 - (intOf s6).toNat)
          case atStart => exact ⟨0, rfl, by omega, HB2⟩
          case round =>
            obtain ⟨n, rfl, hn, HB3⟩ := hrel
            by_cases hltn : n < 9
            · have hcap : 10 ≤ (Question.appendCap 10 1 5).cut (wr.tape wr.drawn (Question.appendCap 10 1 5)) := Nat.le_add_right _ _
              have HI := Lib.hid (zrow_ints wr x (by omega) ((Question.appendCap 10 1 5).cut (wr.tape wr.drawn (Question.appendCap 10 1 5)) - 10))
              have HL := Lib.hid (zrow_below wr x ((Question.appendCap 10 1 5).cut (wr.tape wr.drawn (Question.appendCap 10 1 5)) - 10))
              go_wp2_with fail
              change Calls _ _ _ (zrow wr x _) _
              generalize (Question.appendCap 10 1 5).cut (wr.tape wr.drawn (Question.appendCap 10 1 5)) = c at hcap HI HL ⊢
              generalize zrow wr x (c - 10) = W1 at HI HL ⊢
              refine Calls.mono (gets_any _ _ n c _ (by omega) (by omega) (HI.out.pre n (by omega))) ?_
              rintro e w5 ⟨rfl, rfl⟩
              have HB5 := Lib.hid (HB3.out.trans (HL.out.mono HB3.out.size))
              clear HI HL
              go_wp2_with fail
              go_roundw
              case rel => exact ⟨n + 1, by go_num, by omega, HB5⟩
              case measure => simp [intOf]; omega
            · go_wp2_with fail
              go_roundw
              case rel => exact ⟨x + 1, by go_num, by omega, HB3⟩
              case measure => simp [intOf]; omega
        · go_wp2_with fail
          refine Calls.mono (known1_any _) ?_
          rintro e w5 ⟨rfl, h5⟩
          have H5 := Lib.hid (bl_next HB2.out HB2.out.size h5); clear h5
          go_wp2_with fail
          go_ret
          exact ⟨rfl, H5.out⟩
end Go.Proofs.Ytdchcclcjoaogaa
