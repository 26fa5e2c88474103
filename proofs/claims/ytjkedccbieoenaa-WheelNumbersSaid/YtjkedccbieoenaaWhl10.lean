/- wheel: Clone, all. -/
import Derived.Test.YtjkedccbieoenaaWhl9
namespace Go.Proofs.Ytjkedccbieoenaa
open Go.RowKit
set_option linter.unusedVariables false
set_option linter.unusedSimpArgs false

set_option maxRecDepth 100000 in
set_option maxHeartbeats 2000000 in
theorem clone_any (w : World) (a : Option Addr) (n cap : Nat) (l : List Tm) (hI : Tms w a n l) (hn : n ≤ 100000) :
    Calls Try.prog 32 #[.slice a n cap] w fun e w' => ∃ v, e = .returned v ∧ Below w.heap.size w w' ∧ w'.ownsRow w.heap.size 53 2 v n (rowV l) := by
  cases a with
  | none =>
    have h0 : n = 0 := by
      rcases hI.2.2 with h | ⟨b, off, h, _⟩
      · exact h
      · cases h
    subst h0
    obtain rfl : l = [] := List.eq_nil_of_length_eq_zero hI.1.symm
    clear hI hn
    have hq : (binOp .eql 46 (.slice none 0 cap) (.slice none 0 0)).run Try.prog w = .ok (.bool true) w := by kernel_rfl
    go_enter Try.func32, Try.ntmps32
    go_wp2_with fail
    go_ret
    exact ⟨_, rfl, Below.refl _ _, World.ownsRow_nil _ _ _ _⟩
  | some ad =>
    have HI := Lib.hid hI
    clear hI
    have hq : (binOp .eql 46 (.slice (some ad) n cap) (.slice none 0 0)).run Try.prog w = .ok (.bool false) w := by kernel_rfl
    go_enter Try.func32, Try.ntmps32
    go_upto_region 3 with fail
    have hb0 := (Below.refl w.heap.size w).alloc (Nat.le_refl _) (.cells #[] 53)
    have hown0 := World.ownsRow_made (base := w.heap.size) (e := 53) (size := 2) w #[] 0 (Nat.le_refl _) (by unfold maxLen; omega) rfl
    have HB0 := Lib.hid hb0; have HO0 := Lib.hid hown0; have HI0 := Lib.hid (HI.out.below hb0)
    clear hb0 hown0
    go_wp2_with (first | (at_builtin; refine wpList_append_tm tmW rfl _ _ rfl w.heap.size 0 (.slice (some ⟨w.heap.size, 0, none⟩) 0 0) [] rfl HO0.out (some ad) n cap l rfl HI0.out (by omega) HB0.out.size ?_; intro v w1 ho1 hg1 _; have HO1 := Lib.hid ho1; have HB1 := Lib.hid (HB0.out.grown hg1 HB0.out.size (fun k hk => by simp [Value.ownBlock] at hk; omega)); clear ho1 hg1) | fail)
    go_ret
    exact ⟨_, rfl, HB1.out, by have h := HO1.out; rw [Nat.zero_add, List.nil_append] at h; exact h⟩
/-- the rows ahead of row m, behind what is due later. -/
def preM (now : Int) (T : List Tm) (m : Nat) : List Tm := rowsM now T 256 ++ (List.range m).flatMap (rowsM now T)
theorem preM_succ (now : Int) (T : List Tm) (m : Nat) : preM now T (m + 1) = preM now T m ++ rowsM now T m := by
  unfold preM; rw [List.range_succ, List.flatMap_append]; simp
theorem preM_len (now : Int) (T : List Tm) : ∀ m, (preM now T m).length ≤ (m + 1) * T.length
  | 0 => by
    have := List.length_filter_le (fun x => decide (placeM now x.2 = 256)) T
    unfold preM rowsM; simp; simpa using this
  | m + 1 => by
    have h1 := preM_len now T m
    have h2 := List.length_filter_le (fun x => decide (placeM now x.2 = m)) T
    rw [preM_succ, List.length_append, Nat.succ_mul]
    unfold rowsM at *
    omega
theorem flat_one (x : Tm) (j0 : Nat) (F : Nat → List Tm) : ∀ L : List Nat, L.Nodup → j0 ∈ L → (L.flatMap (fun j => if j0 = j then x :: F j else F j)).Perm (x :: L.flatMap F)
  | [], _, h => by cases h
  | a :: L, hn, h => by
    rw [List.nodup_cons] at hn
    rw [List.flatMap_cons, List.flatMap_cons]
    by_cases e : j0 = a
    · subst e
      rw [if_pos rfl]
      have e2 : L.flatMap (fun j => if j0 = j then x :: F j else F j) = L.flatMap F := by
        rw [List.flatMap_def, List.flatMap_def]
        congr 1
        exact List.map_congr_left (fun j hj => if_neg (fun e => hn.1 (by rw [e]; exact hj)))
      rw [e2]
      exact List.Perm.refl _
    · rw [if_neg e]
      have ih := flat_one x j0 F L hn.2 ((List.mem_cons.1 h).resolve_left e)
      exact (List.Perm.append_left _ ih).trans List.perm_middle
theorem rowsM_cons (now : Int) (x : Tm) (T : List Tm) (j : Nat) : rowsM now (x :: T) j = if placeM now x.2 = j then x :: rowsM now T j else rowsM now T j := by
  unfold rowsM
  by_cases h : placeM now x.2 = j
  · rw [if_pos h, List.filter_cons_of_pos (by simpa using h)]
  · rw [if_neg h, List.filter_cons_of_neg (by simpa using h)]
theorem allM_flat (now : Int) (T : List Tm) : preM now T 256 = (256 :: List.range 256).flatMap (rowsM now T) := by
  rw [List.flatMap_cons]; rfl
theorem allM_perm (now : Int) : ∀ T : List Tm, (preM now T 256).Perm T
  | [] => by
    rw [allM_flat]
    have : (256 :: List.range 256).flatMap (rowsM now []) = [] := List.flatMap_eq_nil_iff.2 (fun j _ => rfl)
    rw [this]
  | x :: T => by
    have ih := allM_perm now T
    rw [allM_flat] at ih ⊢
    have e : (256 :: List.range 256).flatMap (rowsM now (x :: T)) = (256 :: List.range 256).flatMap (fun j => if placeM now x.2 = j then x :: rowsM now T j else rowsM now T j) := by
      congr 1; funext j; exact rowsM_cons now x T j
    rw [e]
    refine (flat_one x (placeM now x.2) (rowsM now T) _ ?_ ?_).trans (List.Perm.cons x ih)
    · rw [List.nodup_cons]; exact ⟨by simp, List.nodup_range⟩
    · have := placeM_lt now x.2
      rw [List.mem_cons, List.mem_range]; omega
set_option maxRecDepth 100000 in
set_option maxHeartbeats 4000000 in
theorem all_any (w : World) (p : Nat) (M : List Nat) (now : Int) (T : List Tm) (vs : List Value) (b n : Nat) (h : WhAt w p M now T vs b n) (hT : T.length ≤ 1000) :
    Calls Try.prog 19 #[.pointer (some ⟨p, 0, none⟩)] w fun e w' => ∃ v L, e = .returned v ∧ Below w.heap.size w w' ∧ w'.ownsRow w.heap.size 53 2 v L.length (rowV L) ∧ L.Perm T := by
  have H := Lib.hid h
  obtain ⟨v, hv, hc, _⟩ := h.rs.vat (show 256 < 257 by omega)
  obtain ⟨a, cap, rfl, _⟩ := own_slice (h.rs.own 256 v hv)
  have hok : ∀ j, ∀ x ∈ rowsM now T j, tmwf x := fun j x hx => (h.rs.ok x (List.mem_filter.1 hx).1).1
  have HOK := Lib.hid hok
  have HCL := Lib.hid (clone_any w a (rowsM now T 256).length cap (rowsM now T 256) (Tms.of_own (h.rs.own 256 _ hv) (hok 256)) (by have := List.length_filter_le (fun x => decide (placeM now x.2 = 256)) T; unfold rowsM; omega))
  have HPL := Lib.hid (preM_len now T)
  have hP0 : preM now T 0 = rowsM now T 256 := by unfold preM; simp
  have HP0 := Lib.hid hP0
  clear h hv hok hP0
  go_enter Try.func19, Try.ntmps19
  go_wp2_with fail
  refine Calls.mono HCL.out ?_
  rintro e w1 ⟨v1, rfl, hb1, ho1⟩
  rw [← HP0.out] at ho1
  have HB := Lib.hid hb1; have HO := Lib.hid ho1
  clear hc hb1 ho1 HCL
  go_wp2_with fail
  go_loopw [3, 11] (fun s u wr => ∃ (k : Nat), u = .int .i64 k ∧ k ≤ 4 ∧ Hid (Below w.heap.size w wr) ∧ Hid (wr.ownsRow w.heap.size 53 2 s (preM now T (64 * k)).length (rowV (preM now T (64 * k))))) (fun _ u _ => 4 - (intOf u).toNat)
  case atStart => exact ⟨0, rfl, by omega, HB, HO⟩
  case round =>
    clear HB HO
    obtain ⟨k, rfl, hk, HB, HO⟩ := hrel
    by_cases hlt : k < 4
    · go_wp2_with fail
      generalize decide ((k : Int) < 4) = q4
      go_loopw [3, 14] (fun s u wr => ∃ (i : Nat), u = .int .i64 i ∧ i ≤ 64 ∧ Hid (Below w.heap.size w wr) ∧ Hid (wr.ownsRow w.heap.size 53 2 s (preM now T (64 * k + i)).length (rowV (preM now T (64 * k + i))))) (fun _ u _ => 64 - (intOf u).toNat)
      case atStart => exact ⟨0, rfl, by omega, HB, HO⟩
      case round =>
        clear HB HO
        obtain ⟨i, rfl, hi, HB, HO⟩ := hrel
        by_cases hil : i < 64
        · obtain ⟨v4, hv4, c4, _⟩ := (H.out.rs.off (N := []) (Off.of_below HB.out) (fun g hg => by cases hg)).vat (show 64 * k + i < 257 by omega)
          have hown4 := (H.out.rs.off (N := []) (Off.of_below HB.out) (fun g hg => by cases hg)).own _ v4 hv4
          obtain ⟨a4, cap4, rfl, _⟩ := own_slice hown4
          have HT4 := Lib.hid (Tms.of_own hown4 (HOK.out (64 * k + i)))
          have hl4 := HPL.out (64 * k + i + 1)
          rw [preM_succ, List.length_append] at hl4
          have HL4 : Hid ((preM now T (64 * k + i)).length + (rowsM now T (64 * k + i)).length ≤ 1000000) := Lib.hid (Nat.le_trans hl4 (Nat.le_trans (Nat.mul_le_mul (show 64 * k + i + 1 + 1 ≤ 258 by omega) hT) (by decide)))
          have HSC : Hid (preM now T (64 * k + (i + 1)) = preM now T (64 * k + i) ++ rowsM now T (64 * k + i)) := Lib.hid (by rw [← Nat.add_assoc, preM_succ])
          rw [show 1 + (64 * k + i) = 1 + k * 64 + i by omega] at c4
          generalize rowsM now T (64 * k + i) = R at c4 HT4 HL4 HSC
          clear hl4 hown4 hv4
          go_wp2_with (first | (at_builtin; refine wpList_append_tm tmW rfl _ _ rfl w.heap.size _ _ (preM now T (64 * k + i)) rfl HO.out a4 R.length cap4 R rfl HT4.out HL4.out HB.out.size ?_; intro v5 w5 ho5 hg5 _; have HO5 := Lib.hid ho5; have HB5 := Lib.hid (HB.out.grown hg5 HB.out.size (fun k hk => (HO.out.lt k hk).1)); clear ho5 hg5) | fail)
          go_roundw
          case rel => exact ⟨i + 1, by go_num, by omega, HB5, Lib.hid (by rw [HSC.out, List.length_append]; exact HO5.out)⟩
          case measure => simp [intOf]; omega
        · obtain rfl : i = 64 := by omega
          go_wp2_with fail
          go_roundw
          case rel => exact ⟨k + 1, by go_num, by omega, HB, HO⟩
          case measure => simp [intOf]; omega
    · obtain rfl : k = 4 := by omega
      go_wp2_with fail
      go_ret
      exact ⟨_, _, rfl, HB.out, HO.out, allM_perm now T⟩
end Go.Proofs.Ytjkedccbieoenaa
