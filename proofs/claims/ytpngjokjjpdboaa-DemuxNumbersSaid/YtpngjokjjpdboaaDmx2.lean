/- demux: the plain law: a table that is built anew without some names. -/
import Derived.Test.YtpngjokjjpdboaaDmx
namespace Go.Proofs.Ytpngjokjjpdboaa
open Go.RowKit
set_option linter.unusedVariables false

structure Reb (hm : List Int → Nat) (N : Nat) (keep : Pl → Bool) (l T : List Pl) (k : Nat) : Prop where
  inv : TInv hm N T
  has : ∀ c n, Has T c n ↔ ∃ q : Nat, q < k ∧ l[q]? = some (Pl.mk c n true) ∧ keep (Pl.mk c n true) = true
  cnt : T.countP (·.u) = (l.take k).countP (fun p => p.u && keep p)
theorem take_countP_succ {l : List Pl} {k : Nat} {p : Pl} (hk : l[k]? = some p) (f : Pl → Bool) : (l.take (k + 1)).countP f = (l.take k).countP f + (if f p = true then 1 else 0) := by
  rw [List.take_add_one, hk, List.countP_append]
  simp [List.countP_cons]
theorem countP_take_le {l : List Pl} (k : Nat) (keep : Pl → Bool) : (l.take k).countP (fun p => p.u && keep p) ≤ l.countP (·.u) := by
  have h1 : (l.take k).countP (fun p => p.u && keep p) ≤ (l.take k).countP (·.u) := List.countP_mono_left (fun x _ hx => by simp only [Bool.and_eq_true] at hx; exact hx.1)
  have h2 : (l.take k).countP (·.u) ≤ l.countP (·.u) := (List.take_sublist k l).countP_le
  omega
variable {hm : List Int → Nat} {N : Nat} {keep : Pl → Bool} {l T : List Pl} {k : Nat}
theorem Reb.start (h : 8 ≤ N) : Reb hm N keep l (List.replicate N zPl) 0 :=
  ⟨TInv.new N h, fun c n => ⟨fun ⟨q, hq⟩ => by
    have := List.mem_of_getElem? hq
    have := (List.mem_replicate.1 this).2
    simp [zPl] at this, fun ⟨q, hq, _⟩ => by omega⟩, by
    rw [show (List.replicate N zPl).countP (·.u) = 0 by rw [List.countP_eq_zero]; intro p hp; rw [(List.mem_replicate.1 hp).2]; decide]
    simp⟩
theorem Reb.skip (h : Reb hm N keep l T k) {p : Pl} (hk : l[k]? = some p) (hp : (p.u && keep p) = false) : Reb hm N keep l T (k + 1) := by
  refine ⟨h.inv, fun c n => ?_, ?_⟩
  · rw [h.has]
    constructor
    · rintro ⟨q, hq, h1, h2⟩; exact ⟨q, by omega, h1, h2⟩
    · rintro ⟨q, hq, h1, h2⟩
      by_cases he : q = k
      · subst he
        rw [hk] at h1; injection h1 with h1; subst h1
        simp [h2] at hp
      · exact ⟨q, by omega, h1, h2⟩
  · rw [take_countP_succ hk, h.cnt, hp]; simp
theorem Reb.put (hl : TInv hm N l) (h : Reb hm N keep l T k) {p : Pl} (hk : l[k]? = some p) (hp : (p.u && keep p) = true) {i : Nat} {x : Pl} (hs : Stop hm N T p.c i x) :
    x.u = false ∧ 4 * T.countP (·.u) + 4 ≤ 3 * N ∧ Reb hm N keep l (T.set (ps hm N p.c i) ⟨p.c, p.n, true⟩) (k + 1) := by
  simp only [Bool.and_eq_true] at hp
  have hpe : p = ⟨p.c, p.n, true⟩ := by obtain ⟨a, b, d⟩ := p; simp only at hp ⊢; rw [hp.1]
  have hno : ∀ n, ¬ Has T p.c n := by
    intro n hh
    obtain ⟨q, hq, h1, _⟩ := (h.has _ _).1 hh
    have := hl.once h1 hk rfl hp.1 rfl
    omega
  have hxu : x.u = false := by
    cases hu : x.u with
    | false => rfl
    | true => exact absurd (hs.used h.inv hu).2.1 (hno _)
  have hroom : 4 * T.countP (·.u) + 4 ≤ 3 * N := by
    have h1 := countP_take_le (l := l) (k + 1) keep
    rw [take_countP_succ hk] at h1
    have h2 : (p.u && keep p) = true := by simp [hp.1, hp.2]
    rw [if_pos h2, ← h.cnt] at h1
    have := hl.room
    omega
  have hput := h.inv.put hs p.n (.inr hroom)
  refine ⟨hxu, hroom, hput.1, fun c n => ?_, ?_⟩
  · rw [hput.2.2]
    by_cases hc : c = p.c
    · rw [if_pos hc]
      constructor
      · rintro rfl; exact ⟨k, by omega, by rw [hk, hc]; exact congrArg some hpe, by rw [hc, ← hpe]; exact hp.2⟩
      · rintro ⟨q, hq, h1, h2⟩
        have := hl.once h1 hk rfl hp.1 hc
        subst this
        rw [hk] at h1; injection h1 with h1
        rw [h1]
    · rw [if_neg hc, h.has]
      constructor
      · rintro ⟨q, hq, h1, h2⟩; exact ⟨q, by omega, h1, h2⟩
      · rintro ⟨q, hq, h1, h2⟩
        by_cases he : q = k
        · subst he
          rw [hk] at h1; injection h1 with h1
          rw [h1] at hc; exact absurd rfl hc
        · exact ⟨q, by omega, h1, h2⟩
  · rw [hput.2.1, if_neg (by rw [hxu]; simp), take_countP_succ hk, h.cnt]
    have h2 : (p.u && keep p) = true := by simp [hp.1, hp.2]
    rw [if_pos h2]
theorem Reb.all (hl : TInv hm N l) (h : Reb hm N keep l T N) : TInv hm N T ∧ (∀ c n, Has T c n ↔ Has l c n ∧ keep (Pl.mk c n true) = true) ∧ T.countP (·.u) = l.countP (fun p => p.u && keep p) := by
  refine ⟨h.inv, fun c n => ?_, ?_⟩
  · rw [h.has]
    constructor
    · rintro ⟨q, _, h1, h2⟩; exact ⟨⟨q, h1⟩, h2⟩
    · rintro ⟨⟨q, h1⟩, h2⟩
      refine ⟨q, ?_, h1, h2⟩
      rcases Nat.lt_or_ge q l.length with h3 | h3
      · rw [← hl.len]; exact h3
      · rw [List.getElem?_eq_none h3] at h1; cases h1
  · rw [h.cnt, List.take_of_length_le (by rw [hl.len]; exact Nat.le_refl _)]
end Go.Proofs.Ytpngjokjjpdboaa
