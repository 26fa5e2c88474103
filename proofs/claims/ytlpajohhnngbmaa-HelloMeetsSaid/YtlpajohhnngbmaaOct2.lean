/- contracts of octet's reader. -/
import Derived.Test.YtlpajohhnngbmaaOct
namespace Go.Proofs.Ytlpajohhnngbmaa
open Go.RowKit
set_option linter.unusedVariables false

set_option maxRecDepth 100000 in
theorem clone_any (w : World) (a : Option Addr) (len cap : Nat) (bs : List Int) (hlen : len ≤ 140737488355328) (hI : IntsK .u8 w a len bs) :
    Calls Try.prog 26 #[.slice a len cap] w fun e w' => ∃ v, e = .returned v ∧ Below w.heap.size w w' ∧ w'.ownsRow w.heap.size 5 1 v len (bs.map (Value.int .u8)) := by
  have HI := Lib.hid hI; clear hI
  cases a with
  | none =>
    have hl : len = 0 := by
      rcases HI.out.2.2 with h | ⟨b, off, h, _⟩
      · exact h
      · cases h
    subst hl
    obtain rfl : bs = [] := List.eq_nil_of_length_eq_zero HI.out.1
    go_enter Try.func26, Try.ntmps26
    have hq : (binOp .eql 31 (.slice none 0 cap) (.slice none 0 0)).run Try.prog w = .ok (.bool true) w := by kernel_rfl
    go_wp2_with fail
    go_ret
    exact ⟨_, rfl, Below.refl _ _, World.ownsRow_nil _ _ _ _⟩
  | some ad =>
    have hq : (binOp .eql 31 (.slice (some ad) len cap) (.slice none 0 0)).run Try.prog w = .ok (.bool false) w := by kernel_rfl
    go_enter Try.func26, Try.ntmps26
    go_wp2_with (first | (at_builtin; refine wpList_append_bytes rfl _ _ rfl w.heap.size 0 (.slice (some ⟨w.heap.size, 0, none⟩) 0 0) [] rfl (World.ownsRow_made _ _ _ (Nat.le_refl _) (by unfold maxLen; omega) (by rfl)) _ _ _ _ rfl (HI.out.below ((Below.refl _ _).alloc (Nat.le_refl _) _)) (by omega) (by simp) ?_; intro v1 w1 hown1 hgrow1; have HO := Lib.hid hown1; have HL := Lib.hid (((Below.refl w.heap.size w).alloc (Nat.le_refl _) _).grown hgrow1 (by simp) (by intro k hk; simp [Value.ownBlock] at hk; omega)); clear hown1 hgrow1) | fail)
    go_ret
    exact ⟨_, rfl, HL.out, by simpa using HO.out⟩

set_option maxRecDepth 100000 in
theorem fail_any (W0 w : World) (L p : Nat) (bs : List Int) (bad : Bool) (h : Rd W0 w L p 124 bs bad) :
    Calls Try.prog 81 #[.pointer (some ⟨p, 0, none⟩)] w fun e w' => e = .returned (.tuple #[]) ∧ Rd W0 w' L p 124 [] true ∧ w.grownBy w' (some p) := by
  obtain ⟨a, n, cap, hr, h1, h2, h3, h4⟩ := h.ex
  have c0 : w.cell? ⟨p, 0, none⟩ = some (.slice a n cap) := row_cell hr 0 _ rfl
  have c1 : w.cell? ⟨p, 1, none⟩ = some (.bool bad) := row_cell hr 1 _ rfl
  have f0 := row_free hr 0
  have f1 := row_free hr 1
  have hA := ((At.base hr).set 0 (.slice none 0 0)).set 1 (.bool true)
  have HA := Lib.hid hA; have HR := Lib.hid h
  clear hA h hr
  go_enter Try.func81, Try.ntmps81
  go_wp2_with fail
  go_end0
  exact ⟨rfl, HR.out.set HA.out.rest HA.out.row (Nat.le_refl _) (by omega) (by simp) (IntsK.nil _ _ _) (by simp), HA.out.rest⟩

set_option maxRecDepth 100000 in
theorem raw_any (W0 w : World) (L p : Nat) (bs : List Int) (bad : Bool) (n : Int) (hn : -9223372036854775808 ≤ n ∧ n ≤ 9223372036854775807) (h : Rd W0 w L p 124 bs bad) :
    Calls Try.prog 82 #[.pointer (some ⟨p, 0, none⟩), .int .i64 n] w fun e w' => ∃ a m cap, e = .returned (.slice a m cap) ∧ m ≤ cap ∧ IntsK .u8 w' a m (rdM bs bad n).1 ∧ Rd W0 w' L p 124 (rdM bs bad n).2.1 (rdM bs bad n).2.2 ∧ w.grownBy w' (some p) ∧ (∀ x, a = some x → w.heap.size ≤ x.block) := by
  obtain ⟨a, len, cap, hr, h1, h2, h3, h4⟩ := h.ex
  have c0 : w.cell? ⟨p, 0, none⟩ = some (.slice a len cap) := row_cell hr 0 _ rfl
  have c1 : w.cell? ⟨p, 1, none⟩ = some (.bool bad) := row_cell hr 1 _ rfl
  have hl := h3.1
  have hsm := h.small
  have HR := Lib.hid h; have H3 := Lib.hid h3
  clear h h3
  by_cases hb : bad = true ∨ n < 0 ∨ (bs.length : Int) < n
  · have HM := Lib.hid (rdM_bad hb)
    have HF := Lib.hid (fail_any W0 w L p bs bad HR.out)
    clear hr
    rw [hl] at hb
    have hb2 : bad = true ∨ (bad = false ∧ n < 0) ∨ (bad = false ∧ ¬ n < 0 ∧ (len : Int) < n) := by cases bad <;> simp at hb ⊢; omega
    clear hb
    go_enter Try.func82, Try.ntmps82
    rcases hb2 with rfl | ⟨rfl, h⟩ | ⟨rfl, h, h'⟩
    all_goals
      go_wp2_with fail
      refine Calls.mono HF.out ?_
      rintro e w' ⟨rfl, hR, hg⟩
      have HR2 := Lib.hid hR; have HG := Lib.hid hg
      clear hR hg
      go_wp2_with fail
      go_ret
      refine ⟨none, 0, 0, rfl, Nat.le_refl _, ?_, ?_, HG.out, by simp⟩
      · rw [HM.out]; exact IntsK.nil _ _ _
      · rw [HM.out]; exact HR2.out
  · have hb1 : bad = false := by cases bad <;> simp_all
    subst hb1
    obtain ⟨m, rfl⟩ : ∃ m : Nat, n = m := ⟨n.toNat, by omega⟩
    have hm : m ≤ len := by omega
    have HM := Lib.hid (rdM_ok (bs := bs) (n := m) (by omega))
    clear hb
    go_enter Try.func82, Try.ntmps82
    go_wp2_with fail
    have hw := (HR.out.ints H3.out h4).pre m hm
    refine Calls.mono (clone_any w a m cap _ (by omega) hw) ?_
    rintro e w' ⟨v, rfl, hbw, ho⟩
    obtain ⟨a1, cap1, rfl, hc1, hi1, hlow⟩ := ints_of_own ho hw.2.1
    have hrow := bl_row hbw (lt_of_block hr) hr
    have c0' : w'.cell? ⟨p, 0, none⟩ = some (.slice a len cap) := row_cell hrow 0 _ rfl
    have f0 := row_free hrow 0
    have HROW := Lib.hid hrow; have HI1 := Lib.hid hi1; have HB := Lib.hid hbw
    clear hrow hi1 ho hw hbw hr c0
    have hpa : ∀ x, a1 = some x → some x.block ≠ some p := fun x hx => by
      have h := hlow x hx
      have h2 := HR.out.lt
      simp; omega
    by_cases hlt : m < len
    · rcases H3.out.2.2 with h0 | ⟨ba, off, rfl, _, _⟩
      · omega
      · go_wp2_with fail
        go_ret
        refine ⟨_, _, _, rfl, hc1, ?_, ?_, grown_trans (grown_below HB.out _) (grown_setCell _ _ _ _), hlow⟩
        · rw [HM.out]; exact HI1.out.grown (grown_setCell _ _ _ _) hpa
        · rw [HM.out]
          exact HR.out.set (grown_trans (grown_below HB.out _) (grown_setCell _ _ _ _)) ((At.base HROW.out).set 0 _).row (by omega) (by omega) (by simp) (H3.out.rest m hm _ fun _ => ⟨ba, off, rfl, rfl⟩) (fun x hx => by injection hx with hx; subst hx; exact h4 ⟨ba, off, none⟩ rfl)
    · obtain rfl : m = len := by omega
      go_wp2_with fail
      all_goals
        go_ret
        refine ⟨_, _, _, rfl, hc1, ?_, ?_, grown_trans (grown_below HB.out _) (grown_setCell _ _ _ _), hlow⟩
        · rw [HM.out]; exact HI1.out.grown (grown_setCell _ _ _ _) hpa
        · rw [HM.out]
          exact HR.out.set (grown_trans (grown_below HB.out _) (grown_setCell _ _ _ _)) ((At.base HROW.out).set 0 _).row (by omega) (by omega) (by simp) (by rw [show (bs.take m, bs.drop m, false).2.1 = [] from List.drop_of_length_le (by omega)]; exact IntsK.nil _ _ _) (by first | exact h4 | exact low_rest h4)
end Go.Proofs.Ytlpajohhnngbmaa
