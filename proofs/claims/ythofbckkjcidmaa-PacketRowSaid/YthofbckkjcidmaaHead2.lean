/- heads: contracts of Right. -/
import Derived.Test.YthofbckkjcidmaaHead
namespace Go.Proofs.Ythofbckkjcidmaa
open Go.RowKit
set_option linter.unusedVariables false

theorem eqin_two (w : World) (d t n : Nat) (ht : Try.prog.underlying t = some (.array n 5)) (xs ys : List Int) (hx : xs.length = n) (hy : ys.length = n) (wx : ∀ x ∈ xs, (Lit.int .u8 x).wf = true) (wy : ∀ x ∈ ys, (Lit.int .u8 x).wf = true) :
    (Op.equalIn (d + 2) t (.agg (xs.map (Value.int .u8)).toArray) (.agg (ys.map (Value.int .u8)).toArray)).run Try.prog w = .ok (xs == ys) w := by
  have h := run_equalIn_bytes (P := Try.prog) w d t 5 n ht Try.underlying5 sizeU8 (xs.map toU) (ys.map toU) (by simp [hx]) (by simp [hy])
  rw [map_toU wx, map_toU wy, toU_inj wx wy] at h
  exact h
theorem z8_wf : ∀ x ∈ z8, (Lit.int .u8 x).wf = true := by decide
def hrM (s : Int) (f : List Int) (tl : Nat) (wd : Int) (p : Bool) : Bool := decide (1 ≤ wd ∧ wd ≤ 4 ∧ ((s = 0 ∧ tl ≤ 32 ∧ p = false) ∨ (s = 1 ∧ tl = 0 ∧ p = false) ∨ (s = 2 ∧ tl = 0 ∧ f = z8)))
theorem hrM_eq (h : Hd) : hrM h.s h.f h.k.length h.w h.p = hrightM h := rfl
theorem hrM_no {s : Int} {f : List Int} {tl : Nat} {wd : Int} {p : Bool} (h : ¬ (1 ≤ wd ∧ wd ≤ 4 ∧ ((s = 0 ∧ tl ≤ 32 ∧ p = false) ∨ (s = 1 ∧ tl = 0 ∧ p = false) ∨ (s = 2 ∧ tl = 0 ∧ f = z8)))) : hrM s f tl wd p = false := decide_eq_false h
theorem hrM_yes {s : Int} {f : List Int} {tl : Nat} {wd : Int} {p : Bool} (h : 1 ≤ wd ∧ wd ≤ 4 ∧ ((s = 0 ∧ tl ≤ 32 ∧ p = false) ∨ (s = 1 ∧ tl = 0 ∧ p = false) ∨ (s = 2 ∧ tl = 0 ∧ f = z8))) : hrM s f tl wd p = true := decide_eq_true h

set_option maxRecDepth 100000 in
set_option maxHeartbeats 2000000 in
theorem hright_core (w : World) (s t0 t1 t2 t3 t4 t5 t6 t7 f0 f1 f2 f3 f4 f5 f6 f7 wd : Int) (a : Option Addr) (tl tc : Nat) (p : Bool) (htl : tl ≤ 4611686018427387904) (hwf : ∀ x ∈ [f0, f1, f2, f3, f4, f5, f6, f7], (Lit.int .u8 x).wf = true) :
    Makes Try.prog 48 #[.agg #[.int .i64 s, .int .u8 t0, .int .u8 t1, .int .u8 t2, .int .u8 t3, .int .u8 t4, .int .u8 t5, .int .u8 t6, .int .u8 t7, .int .u8 f0, .int .u8 f1, .int .u8 f2, .int .u8 f3, .int .u8 f4, .int .u8 f5, .int .u8 f6, .int .u8 f7, .slice a tl tc, .int .i64 wd, .bool p]] w (.bool (hrM s [f0, f1, f2, f3, f4, f5, f6, f7] tl wd p)) := by
  have HQ : Hid (∀ w, (Op.equalIn 10000 30 (.agg #[.int .u8 f0, .int .u8 f1, .int .u8 f2, .int .u8 f3, .int .u8 f4, .int .u8 f5, .int .u8 f6, .int .u8 f7]) (.agg #[.int .u8 0, .int .u8 0, .int .u8 0, .int .u8 0, .int .u8 0, .int .u8 0, .int .u8 0, .int .u8 0])).run Try.prog w = .ok ([f0, f1, f2, f3, f4, f5, f6, f7] == z8) w) := Lib.hid (fun w => eqin_two w 9998 30 8 Try.underlying30 [f0, f1, f2, f3, f4, f5, f6, f7] z8 rfl rfl hwf z8_wf)
  clear hwf
  by_cases h1 : wd < 1
  · rw [hrM_no (by omega)]
    go_enter Try.func48, Try.ntmps48; go_wp2_with fail; all_goals (go_ret; exact ⟨rfl, (Below.refl _ _).alloc (Nat.le_refl _) _⟩)
  by_cases h4 : 4 < wd
  · rw [hrM_no (by omega)]
    go_enter Try.func48, Try.ntmps48; go_wp2_with fail; all_goals (go_ret; exact ⟨rfl, (Below.refl _ _).alloc (Nat.le_refl _) _⟩)
  by_cases h0 : s = 0
  · subst h0
    by_cases hk : tl ≤ 32
    · cases p
      · rw [hrM_yes ⟨by omega, by omega, .inl ⟨rfl, hk, rfl⟩⟩]
        go_enter Try.func48, Try.ntmps48; go_wp2_with fail; all_goals (go_ret; exact ⟨rfl, (Below.refl _ _).alloc (Nat.le_refl _) _⟩)
      · rw [hrM_no (by simp)]
        go_enter Try.func48, Try.ntmps48; go_wp2_with fail; all_goals (go_ret; exact ⟨rfl, (Below.refl _ _).alloc (Nat.le_refl _) _⟩)
    · rw [hrM_no (by omega)]
      go_enter Try.func48, Try.ntmps48; go_wp2_with fail; all_goals (go_ret; exact ⟨rfl, (Below.refl _ _).alloc (Nat.le_refl _) _⟩)
  by_cases h10 : s = 1
  · subst h10
    by_cases hk : tl = 0
    · subst hk
      cases p
      · rw [hrM_yes ⟨by omega, by omega, .inr (.inl ⟨rfl, rfl, rfl⟩)⟩]
        go_enter Try.func48, Try.ntmps48; go_wp2_with fail; all_goals (go_ret; exact ⟨rfl, (Below.refl _ _).alloc (Nat.le_refl _) _⟩)
      · rw [hrM_no (by simp)]
        go_enter Try.func48, Try.ntmps48; go_wp2_with fail; all_goals (go_ret; exact ⟨rfl, (Below.refl _ _).alloc (Nat.le_refl _) _⟩)
    · rw [hrM_no (by omega)]
      have hk2 : ¬ ((tl : Int) = 0) := by omega
      have hk3 : 0 < tl := by omega
      go_enter Try.func48, Try.ntmps48; go_wp2_with fail; all_goals (go_ret; exact ⟨rfl, (Below.refl _ _).alloc (Nat.le_refl _) _⟩)
  by_cases h20 : s = 2
  · subst h20
    by_cases hk : tl = 0
    · subst hk
      have hq := HQ.out
      by_cases hf : [f0, f1, f2, f3, f4, f5, f6, f7] = z8
      · have hb : ([f0, f1, f2, f3, f4, f5, f6, f7] == z8) = true := by rw [beq_iff_eq]; exact hf
        rw [hb] at hq
        rw [hrM_yes ⟨by omega, by omega, .inr (.inr ⟨rfl, rfl, hf⟩)⟩]
        clear hf hb
        cases p
        all_goals (go_enter Try.func48, Try.ntmps48; go_wp2_with fail; all_goals (go_ret; exact ⟨rfl, (Below.refl _ _).alloc (Nat.le_refl _) _⟩))
      · have hb : ([f0, f1, f2, f3, f4, f5, f6, f7] == z8) = false := by rw [beq_eq_false_iff_ne]; exact hf
        rw [hb] at hq
        rw [hrM_no (fun h => by rcases h.2.2 with h | h | h; exact absurd h.1 (by omega); exact absurd h.1 (by omega); exact hf h.2.2)]
        clear hf hb
        cases p
        all_goals (go_enter Try.func48, Try.ntmps48; go_wp2_with fail; all_goals (go_ret; exact ⟨rfl, (Below.refl _ _).alloc (Nat.le_refl _) _⟩))
    · rw [hrM_no (by omega)]
      have hk2 : ¬ ((tl : Int) = 0) := by omega
      have hk3 : 0 < tl := by omega
      cases p
      all_goals (go_enter Try.func48, Try.ntmps48; go_wp2_with fail; all_goals (go_ret; exact ⟨rfl, (Below.refl _ _).alloc (Nat.le_refl _) _⟩))
  · rw [hrM_no (by omega)]
    by_cases hneg : s < 0
    · go_enter Try.func48, Try.ntmps48; go_wp2_with fail; all_goals (go_ret; exact ⟨rfl, (Below.refl _ _).alloc (Nat.le_refl _) _⟩)
    · have hbig : 2 < s := by omega
      go_enter Try.func48, Try.ntmps48; go_wp2_with fail; all_goals (go_ret; exact ⟨rfl, (Below.refl _ _).alloc (Nat.le_refl _) _⟩)

set_option maxRecDepth 100000 in
set_option maxHeartbeats 2000000 in
theorem hrright_core (w : World) (s t0 t1 t2 t3 t4 t5 t6 t7 f0 f1 f2 f3 f4 f5 f6 f7 wd : Int) (a : Option Addr) (tl tc : Nat) (p : Bool) (htl : tl ≤ 4611686018427387904) (hwf : ∀ x ∈ [f0, f1, f2, f3, f4, f5, f6, f7], (Lit.int .u8 x).wf = true) :
    Makes Try.prog 37 #[.agg #[.int .i64 s, .int .u8 t0, .int .u8 t1, .int .u8 t2, .int .u8 t3, .int .u8 t4, .int .u8 t5, .int .u8 t6, .int .u8 t7, .int .u8 f0, .int .u8 f1, .int .u8 f2, .int .u8 f3, .int .u8 f4, .int .u8 f5, .int .u8 f6, .int .u8 f7, .slice a tl tc, .int .i64 wd, .bool p]] w (.bool (hrM s [f0, f1, f2, f3, f4, f5, f6, f7] tl wd p)) := by
  have HQ : Hid (∀ w, (Op.equalIn 10000 30 (.agg #[.int .u8 f0, .int .u8 f1, .int .u8 f2, .int .u8 f3, .int .u8 f4, .int .u8 f5, .int .u8 f6, .int .u8 f7]) (.agg #[.int .u8 0, .int .u8 0, .int .u8 0, .int .u8 0, .int .u8 0, .int .u8 0, .int .u8 0, .int .u8 0])).run Try.prog w = .ok ([f0, f1, f2, f3, f4, f5, f6, f7] == z8) w) := Lib.hid (fun w => eqin_two w 9998 30 8 Try.underlying30 [f0, f1, f2, f3, f4, f5, f6, f7] z8 rfl rfl hwf z8_wf)
  clear hwf
  by_cases h1 : wd < 1
  · rw [hrM_no (by omega)]
    go_enter Try.func37, Try.ntmps37; go_wp2_with fail; all_goals (go_ret; exact ⟨rfl, (Below.refl _ _).alloc (Nat.le_refl _) _⟩)
  by_cases h4 : 4 < wd
  · rw [hrM_no (by omega)]
    go_enter Try.func37, Try.ntmps37; go_wp2_with fail; all_goals (go_ret; exact ⟨rfl, (Below.refl _ _).alloc (Nat.le_refl _) _⟩)
  by_cases h0 : s = 0
  · subst h0
    by_cases hk : tl ≤ 32
    · cases p
      · rw [hrM_yes ⟨by omega, by omega, .inl ⟨rfl, hk, rfl⟩⟩]
        go_enter Try.func37, Try.ntmps37; go_wp2_with fail; all_goals (go_ret; exact ⟨rfl, (Below.refl _ _).alloc (Nat.le_refl _) _⟩)
      · rw [hrM_no (by simp)]
        go_enter Try.func37, Try.ntmps37; go_wp2_with fail; all_goals (go_ret; exact ⟨rfl, (Below.refl _ _).alloc (Nat.le_refl _) _⟩)
    · rw [hrM_no (by omega)]
      go_enter Try.func37, Try.ntmps37; go_wp2_with fail; all_goals (go_ret; exact ⟨rfl, (Below.refl _ _).alloc (Nat.le_refl _) _⟩)
  by_cases h10 : s = 1
  · subst h10
    by_cases hk : tl = 0
    · subst hk
      cases p
      · rw [hrM_yes ⟨by omega, by omega, .inr (.inl ⟨rfl, rfl, rfl⟩)⟩]
        go_enter Try.func37, Try.ntmps37; go_wp2_with fail; all_goals (go_ret; exact ⟨rfl, (Below.refl _ _).alloc (Nat.le_refl _) _⟩)
      · rw [hrM_no (by simp)]
        go_enter Try.func37, Try.ntmps37; go_wp2_with fail; all_goals (go_ret; exact ⟨rfl, (Below.refl _ _).alloc (Nat.le_refl _) _⟩)
    · rw [hrM_no (by omega)]
      have hk2 : ¬ ((tl : Int) = 0) := by omega
      have hk3 : 0 < tl := by omega
      go_enter Try.func37, Try.ntmps37; go_wp2_with fail; all_goals (go_ret; exact ⟨rfl, (Below.refl _ _).alloc (Nat.le_refl _) _⟩)
  by_cases h20 : s = 2
  · subst h20
    by_cases hk : tl = 0
    · subst hk
      have hq := HQ.out
      by_cases hf : [f0, f1, f2, f3, f4, f5, f6, f7] = z8
      · have hb : ([f0, f1, f2, f3, f4, f5, f6, f7] == z8) = true := by rw [beq_iff_eq]; exact hf
        rw [hb] at hq
        rw [hrM_yes ⟨by omega, by omega, .inr (.inr ⟨rfl, rfl, hf⟩)⟩]
        clear hf hb
        cases p
        all_goals (go_enter Try.func37, Try.ntmps37; go_wp2_with fail; all_goals (go_ret; exact ⟨rfl, (Below.refl _ _).alloc (Nat.le_refl _) _⟩))
      · have hb : ([f0, f1, f2, f3, f4, f5, f6, f7] == z8) = false := by rw [beq_eq_false_iff_ne]; exact hf
        rw [hb] at hq
        rw [hrM_no (fun h => by rcases h.2.2 with h | h | h; exact absurd h.1 (by omega); exact absurd h.1 (by omega); exact hf h.2.2)]
        clear hf hb
        cases p
        all_goals (go_enter Try.func37, Try.ntmps37; go_wp2_with fail; all_goals (go_ret; exact ⟨rfl, (Below.refl _ _).alloc (Nat.le_refl _) _⟩))
    · rw [hrM_no (by omega)]
      have hk2 : ¬ ((tl : Int) = 0) := by omega
      have hk3 : 0 < tl := by omega
      cases p
      all_goals (go_enter Try.func37, Try.ntmps37; go_wp2_with fail; all_goals (go_ret; exact ⟨rfl, (Below.refl _ _).alloc (Nat.le_refl _) _⟩))
  · rw [hrM_no (by omega)]
    by_cases hneg : s < 0
    · go_enter Try.func37, Try.ntmps37; go_wp2_with fail; all_goals (go_ret; exact ⟨rfl, (Below.refl _ _).alloc (Nat.le_refl _) _⟩)
    · have hbig : 2 < s := by omega
      go_enter Try.func37, Try.ntmps37; go_wp2_with fail; all_goals (go_ret; exact ⟨rfl, (Below.refl _ _).alloc (Nat.le_refl _) _⟩)
theorem hright_any (w : World) (h : Hd) (a : Option Addr) (tc : Nat) (hk : h.ok) (hl : h.k.length ≤ 4611686018427387904) : Makes Try.prog 48 #[h.val a tc] w (.bool (hrightM h)) := by
  obtain ⟨s, t, f, k, wd, p⟩ := h
  obtain ⟨t0, t1, t2, t3, t4, t5, t6, t7, rfl⟩ := len8 hk.lt
  obtain ⟨f0, f1, f2, f3, f4, f5, f6, f7, rfl⟩ := len8 hk.lf
  exact hright_core w s t0 t1 t2 t3 t4 t5 t6 t7 f0 f1 f2 f3 f4 f5 f6 f7 wd a k.length tc p hl hk.wf
theorem hrright_any (w : World) (h : Hd) (a : Option Addr) (tc : Nat) (hk : h.ok) (hl : h.k.length ≤ 4611686018427387904) : Makes Try.prog 37 #[h.val a tc] w (.bool (hrightM h)) := by
  obtain ⟨s, t, f, k, wd, p⟩ := h
  obtain ⟨t0, t1, t2, t3, t4, t5, t6, t7, rfl⟩ := len8 hk.lt
  obtain ⟨f0, f1, f2, f3, f4, f5, f6, f7, rfl⟩ := len8 hk.lf
  exact hrright_core w s t0 t1 t2 t3 t4 t5 t6 t7 f0 f1 f2 f3 f4 f5 f6 f7 wd a k.length tc p hl hk.wf
end Go.Proofs.Ythofbckkjcidmaa
