/- wheel: Set, At, Now, Len. -/
import Derived.Test.YtjkedccbieoenaaWhl8
namespace Go.Proofs.Ytjkedccbieoenaa
open Go.RowKit
set_option linter.unusedVariables false
set_option linter.unusedSimpArgs false

theorem WhR.trans {w y z : World} {p : Nat} {M : List Nat} {now : Int} {T : List Tm} {n : Nat} {M1 : List Nat} (ho : Off M w y) (hM : ∀ g ∈ M1, g ∈ M ∨ w.heap.size ≤ g) (h : WhR y p M1 now T n z) : WhR w p M now T n z := by
  obtain ⟨M2, vs, b, hw, ho2, hM2⟩ := h
  refine ⟨M2, vs, b, hw, ho.trans ho2 hM, fun g hg => ?_⟩
  rcases hM2 g hg with h1 | h1
  · exact hM g h1
  · exact .inr (Nat.le_trans ho.size h1)
theorem wf_i64_of {n : Int} (h0 : -9223372036854775808 ≤ n) (h1 : n ≤ 9223372036854775807) : (Lit.int .i64 n).wf = true := by
  simp [Lit.wf, IntKind.min, IntKind.max, IntKind.signed, IntKind.bits]; omega
def dueM (now t : Int) : Int := if t < now then now else t
set_option maxRecDepth 100000 in
theorem set_bad (w : World) (p : Nat) (id t : Int) (ht : t < 0 ∨ 1125899906842624 < t) :
    Calls Try.prog 10 #[.pointer (some ⟨p, 0, none⟩), .int .i64 id, .int .i64 t] w fun e w' => e = .returned (.bool false) ∧ w = w' := by
  rcases ht with ht | ht
  · go_enter Try.func10, Try.ntmps10
    go_wp2_with fail
    go_ret
    exact ⟨rfl, rfl⟩
  · have h0 : ¬ t < 0 := by omega
    go_enter Try.func10, Try.ntmps10
    go_wp2_with fail
    go_ret
    exact ⟨rfl, rfl⟩
theorem len_dropT (T : List Tm) (id : Int) : (dropT T id).length ≤ T.length := List.length_filter_le _ _
theorem not_dropT (T : List Tm) (id : Int) : id ∉ (dropT T id).map Prod.fst := by
  unfold dropT
  simp
set_option maxRecDepth 100000 in
set_option maxHeartbeats 8000000 in
theorem set_any (w : World) (p : Nat) (M : List Nat) (now : Int) (T : List Tm) (vs : List Value) (b n : Nat) (h : WhAt w p M now T vs b n) (id t : Int) (hid : (Lit.int .i64 id).wf = true) (ht : 0 ≤ t ∧ t ≤ 1125899906842624) (hn : n ≤ 100000) (hT : T.length ≤ 100000) :
    Calls Try.prog 10 #[.pointer (some ⟨p, 0, none⟩), .int .i64 id, .int .i64 t] w fun e w' => e = .returned (.bool true) ∧ WhR w p M now (dropT T id ++ [(id, dueM now t)]) (n + 1) w' := by
  have HD := Lib.hid (drop_any w p M now T vs b n h id hid hT)
  have hnow := h.rs.now0
  have HP := Lib.hid (fun W M1 vs1 b1 h1 => put_any W p M1 now (dropT T id) vs1 b1 n h1 (id, dueM now t) ⟨hid, wf_i64_of (by unfold dueM; split <;> simp only <;> omega) (by unfold dueM; split <;> simp only <;> omega)⟩ (not_dropT T id) (by unfold dueM; split <;> simp only <;> omega) hn (Nat.le_trans (len_dropT T id) hT))
  obtain ⟨T2, hT2⟩ : ∃ T2, dropT T id = T2 := ⟨_, rfl⟩
  rw [hT2] at HD HP ⊢
  generalize decide (id ∈ T.map Prod.fst) = q at HD
  obtain ⟨h00, h01⟩ := ht
  have h0 : ¬ t < 0 := by omega
  have h1 : ¬ 1125899906842624 < t := by omega
  obtain ⟨d, hd⟩ : ∃ d, dueM now t = d := ⟨_, rfl⟩
  rw [hd] at HP ⊢
  unfold dueM at hd
  clear h hid hn hT hT2
  by_cases hc : t < now
  all_goals
    first | rw [if_pos hc] at hd | rw [if_neg hc] at hd
    subst hd
    go_enter Try.func10, Try.ntmps10
    go_wp2_with fail
    refine Calls.mono HD.out ?_
    rintro e w1 ⟨rfl, M1, vs1, b1, hw1, ho1, hM1⟩
    have HW1 := Lib.hid hw1; have HO1 := Lib.hid ho1; have HM1 := Lib.hid hM1
    have c0 := cell_row hw1.rs.row 0 _ rfl
    clear hw1 ho1 hM1 HD
    go_wp2_with fail
    refine Calls.mono (HP.out _ _ _ _ HW1.out) ?_
    rintro e w2 ⟨rfl, hR⟩
    have HR := Lib.hid (WhR.trans HO1.out HM1.out hR)
    clear hR c0
    go_wp2_with fail
    go_ret
    exact ⟨rfl, HR.out⟩
set_option maxRecDepth 100000 in
theorem now_any (w : World) (p : Nat) (M : List Nat) (now : Int) (T : List Tm) (vs : List Value) (b n : Nat) (h : WhAt w p M now T vs b n) :
    Calls Try.prog 31 #[.pointer (some ⟨p, 0, none⟩)] w fun e w' => e = .returned (.int .i64 now) ∧ w = w' := by
  have c0 := cell_row h.rs.row 0 _ rfl
  clear h
  go_enter Try.func31, Try.ntmps31
  go_wp2_with fail
  go_ret
  exact ⟨rfl, rfl⟩
set_option maxRecDepth 100000 in
set_option maxHeartbeats 1000000 in
theorem len_any (w : World) (p : Nat) (M : List Nat) (now : Int) (T : List Tm) (vs : List Value) (b n : Nat) (h : WhAt w p M now T vs b n) :
    Calls Try.prog 13 #[.pointer (some ⟨p, 0, none⟩)] w fun e w' => e = .returned (.int .i64 (T.length : Nat)) ∧ w = w' := by
  have c1 := cell_row h.rs.row 258 _ (whCells_map h.rs.len)
  obtain ⟨D, hm, hd⟩ := h.map
  have HM := Lib.hid hm; have HS := Lib.hid hd.size
  clear h hm hd
  go_enter Try.func13, Try.ntmps13
  go_wp2_with (first | (refine wpList_len_own _ rfl _ _ rfl 3 2 Try.underlying45 (plainElem (H := Unit) Try.prog 2) b n D rfl HM.out ?_) | fail)
  go_ret
  exact ⟨by rw [← HS.out]; rfl, rfl⟩
set_option maxRecDepth 100000 in
set_option maxHeartbeats 1000000 in
theorem at_any (w : World) (p : Nat) (M : List Nat) (now : Int) (T : List Tm) (vs : List Value) (b n : Nat) (h : WhAt w p M now T vs b n) (x : Tm) (hx : x ∈ T) :
    Calls Try.prog 30 #[.pointer (some ⟨p, 0, none⟩), .int .i64 x.1] w fun e w' => e = .returned (.tuple #[.int .i64 x.2, .bool true]) ∧ w = w' := by
  have c1 := cell_row h.rs.row 258 _ (whCells_map h.rs.len)
  have HXW := Lib.hid (h.rs.ok x hx).1.1
  obtain ⟨D, hm, hd⟩ := h.map
  have HM := Lib.hid hm
  have HS : Hid (Maps.has D (kL x.1) = true) := Lib.hid (by rw [hd.has]; exact decide_eq_true (List.mem_map_of_mem hx))
  have HA := Lib.hid (hd.at' x hx)
  clear h hm hd hx
  go_enter Try.func30, Try.ntmps30
  go_wp2_with (first | (at_lookup; refine wpList_lookup_own_ok_int _ rfl _ _ _ rfl 3 2 .i64 keyI Try.underlying45 Try.underlying2 (by kernel_rfl) b n D rfl HM.out _ (kL x.1) rfl (keyIof HXW.out) ?_; rw [HS.out]; intro c hc _; have HC := Lib.hid hc; clear hc) | fail)
  go_ret2
  have e : c = x.2 := by have h1 := HC.out; rw [HA.out] at h1; injection h1 with h1; injection h1 with _ h1; exact h1.symm
  rw [e]
  exact ⟨rfl, rfl⟩
end Go.Proofs.Ytjkedccbieoenaa
