/- demux: the plain law: a table of open addresses is a map. -/
import Derived.Test.YtpngjokjjpdboaaBase
namespace Go.Proofs.Ytpngjokjjpdboaa
open Go.RowKit
set_option linter.unusedVariables false

/-- one place. -/
structure Pl where
  c : List Int
  n : Int
  u : Bool
def zPl : Pl := ⟨[0, 0, 0, 0, 0, 0, 0, 0], 0, false⟩
section
variable (hm : List Int → Nat)   -- a name's home, in a table of any size: taken modulo it
/-- the place that is looked at i-th. -/
def ps (N : Nat) (c : List Int) (i : Nat) : Nat := (hm c + i) % N
structure TInv (N : Nat) (l : List Pl) : Prop where
  len : l.length = N
  pos : 8 ≤ N
  room : 4 * l.countP (·.u) ≤ 3 * N
  zero : ∀ (q : Nat) (p : Pl), l[q]? = some p → p.u = false → p = zPl
  reach : ∀ (q : Nat) (p : Pl), l[q]? = some p → p.u = true → ∃ d, d < N ∧ q = ps hm N p.c d ∧ ∀ i, i < d → ∃ p', l[ps hm N p.c i]? = some p' ∧ p'.u = true ∧ p'.c ≠ p.c
variable {hm}
theorem ps_lt {N : Nat} (h : 8 ≤ N) (c : List Int) (i : Nat) : ps hm N c i < N := Nat.mod_lt _ (by omega)
theorem ps_inj {N : Nat} (h : 8 ≤ N) {c : List Int} {i j : Nat} (hi : i < N) (hj : j < N) (he : ps hm N c i = ps hm N c j) : i = j := by
  unfold ps at he
  have h1 := Nat.mod_lt (hm c) (show 0 < N by omega)
  have e1 : (hm c + i) % N = (hm c % N + i) % N := by rw [Nat.mod_add_mod]
  have e2 : (hm c + j) % N = (hm c % N + j) % N := by rw [Nat.mod_add_mod]
  rw [e1, e2] at he
  generalize hm c % N = r at *
  rcases Nat.lt_or_ge (r + i) N with hi' | hi' <;> rcases Nat.lt_or_ge (r + j) N with hj' | hj'
  · rw [Nat.mod_eq_of_lt hi', Nat.mod_eq_of_lt hj'] at he; omega
  · rw [Nat.mod_eq_of_lt hi', Nat.mod_eq_sub_mod hj', Nat.mod_eq_of_lt (by omega)] at he; omega
  · rw [Nat.mod_eq_sub_mod hi', Nat.mod_eq_of_lt (show r + i - N < N by omega), Nat.mod_eq_of_lt hj'] at he; omega
  · rw [Nat.mod_eq_sub_mod hi', Nat.mod_eq_of_lt (show r + i - N < N by omega), Nat.mod_eq_sub_mod hj', Nat.mod_eq_of_lt (show r + j - N < N by omega)] at he; omega
theorem ps_onto {N : Nat} (h : 8 ≤ N) (c : List Int) {q : Nat} (hq : q < N) : ∃ i, i < N ∧ ps hm N c i = q := by
  have h1 := Nat.mod_lt (hm c) (show 0 < N by omega)
  rcases Nat.lt_or_ge q (hm c % N) with h2 | h2
  · refine ⟨q + N - hm c % N, by omega, ?_⟩
    unfold ps
    rw [← Nat.mod_add_mod, show hm c % N + (q + N - hm c % N) = q + N by omega, Nat.add_mod_right, Nat.mod_eq_of_lt hq]
  · refine ⟨q - hm c % N, by omega, ?_⟩
    unfold ps
    rw [← Nat.mod_add_mod, show hm c % N + (q - hm c % N) = q by omega, Nat.mod_eq_of_lt hq]

/-- where the search stops. -/
structure Stop (hm : List Int → Nat) (N : Nat) (l : List Pl) (c : List Int) (i : Nat) (p : Pl) : Prop where
  lt : i < N
  at' : l[ps hm N c i]? = some p
  stop : p.u = false ∨ p.c = c
  before : ∀ j, j < i → ∃ p', l[ps hm N c j]? = some p' ∧ p'.u = true ∧ p'.c ≠ c
theorem countP_le_len (l : List Pl) : l.countP (·.u) ≤ l.length := List.countP_le_length
/-- there is a place that is free. -/
theorem TInv.free {N : Nat} {l : List Pl} (h : TInv hm N l) : ∃ q p, l[q]? = some p ∧ q < N ∧ p.u = false := by
  by_cases hall : ∀ p ∈ l, p.u = true
  · have this : l.countP (·.u) = l.length := List.countP_eq_length.2 hall
    have h1 := h.room; have h2 := h.len; have h3 := h.pos
    omega
  · simp only [Classical.not_forall] at hall
    obtain ⟨p, hp, hu⟩ := hall
    obtain ⟨q, hq⟩ := List.getElem?_of_mem hp
    have hlt : q < l.length := by
      rcases Nat.lt_or_ge q l.length with h1 | h1
      · exact h1
      · rw [List.getElem?_eq_none h1] at hq; cases hq
    exact ⟨q, p, hq, by rw [← h.len]; exact hlt, by simpa using hu⟩
theorem first_stop {N : Nat} {l : List Pl} (hl : l.length = N) (hN : 8 ≤ N) (c : List Int) : ∀ (m : Nat), m ≤ N → (∀ j, j < m → ∃ p', l[ps hm N c j]? = some p' ∧ p'.u = true ∧ p'.c ≠ c) ∨ ∃ i p, i < m ∧ Stop hm N l c i p
  | 0, _ => .inl fun j hj => by omega
  | m + 1, hm1 => by
    rcases first_stop hl hN c m (by omega) with h | ⟨i, p, hi, hs⟩
    · have hlt : ps hm N c m < l.length := by rw [hl]; exact ps_lt hN c m
      have hg := List.getElem?_eq_getElem hlt
      by_cases hst : (l[ps hm N c m]).u = false ∨ (l[ps hm N c m]).c = c
      · exact .inr ⟨m, _, by omega, ⟨by omega, hg, hst, h⟩⟩
      · simp only [not_or] at hst
        refine .inl fun j hj => ?_
        by_cases hjm : j = m
        · subst hjm; exact ⟨_, hg, by simpa using hst.1, hst.2⟩
        · exact h j (by omega)
    · exact .inr ⟨i, p, by omega, hs⟩
theorem TInv.find {N : Nat} {l : List Pl} (h : TInv hm N l) (c : List Int) : ∃ i p, Stop hm N l c i p := by
  rcases first_stop h.len h.pos c N (Nat.le_refl _) with h1 | ⟨i, p, _, hs⟩
  · obtain ⟨q, p, hq, hqN, hu⟩ := h.free
    obtain ⟨i, hi, he⟩ := ps_onto (hm := hm) h.pos c hqN
    obtain ⟨p', hp', hu', _⟩ := h1 i hi
    rw [he, hq] at hp'
    injection hp' with hp'
    subst hp'
    rw [hu] at hu'; cases hu'
  · exact ⟨i, p, hs⟩
theorem Stop.uniq {N : Nat} {l : List Pl} {c : List Int} {i j : Nat} {p q : Pl} (h : Stop hm N l c i p) (k : Stop hm N l c j q) : i = j ∧ p = q := by
  have e : i = j := by
    rcases Nat.lt_trichotomy i j with hl | he | hl
    · obtain ⟨p', h1, h2, h3⟩ := k.before i hl
      rw [h.at'] at h1; injection h1 with h1; subst h1
      rcases h.stop with h4 | h4
      · rw [h4] at h2; cases h2
      · exact absurd h4 h3
    · exact he
    · obtain ⟨p', h1, h2, h3⟩ := h.before j hl
      rw [k.at'] at h1; injection h1 with h1; subst h1
      rcases k.stop with h4 | h4
      · rw [h4] at h2; cases h2
      · exact absurd h4 h3
  subst e
  have := h.at'
  rw [k.at'] at this
  injection this with this
  exact ⟨rfl, this.symm⟩
/-- a name that is there is where the search stops. -/
theorem TInv.there {N : Nat} {l : List Pl} (h : TInv hm N l) {c : List Int} {i : Nat} {p : Pl} (hs : Stop hm N l c i p) {q : Nat} {x : Pl} (hx : l[q]? = some x) (hu : x.u = true) (hc : x.c = c) : q = ps hm N c i ∧ x = p := by
  obtain ⟨d, hd, hq, hb⟩ := h.reach q x hx hu
  rw [hc] at hq hb
  have k : Stop hm N l c d x := ⟨hd, by rw [← hq]; exact hx, .inr hc, hb⟩
  obtain ⟨e1, e2⟩ := hs.uniq k
  exact ⟨by rw [e1]; exact hq, e2.symm⟩
/-- what the table tells of a name. -/
def Has (l : List Pl) (c : List Int) (n : Int) : Prop := ∃ q : Nat, l[q]? = some (Pl.mk c n true)
theorem Stop.used {N : Nat} {l : List Pl} (h : TInv hm N l) {c : List Int} {i : Nat} {p : Pl} (hs : Stop hm N l c i p) (hu : p.u = true) : p = ⟨c, p.n, true⟩ ∧ Has l c p.n ∧ ∀ n, Has l c n → n = p.n := by
  have hc : p.c = c := by
    rcases hs.stop with h1 | h1
    · rw [hu] at h1; cases h1
    · exact h1
  have e : p = ⟨c, p.n, true⟩ := by obtain ⟨a, b, d⟩ := p; simp only at hc hu; subst hc; subst hu; rfl
  refine ⟨e, ⟨_, by rw [hs.at']; exact congrArg some e⟩, fun n ⟨q, hq⟩ => ?_⟩
  have := (h.there hs hq rfl rfl).2
  rw [← this]
theorem Stop.none {N : Nat} {l : List Pl} (h : TInv hm N l) {c : List Int} {i : Nat} {p : Pl} (hs : Stop hm N l c i p) (hu : p.u = false) : p = zPl ∧ ∀ n, ¬ Has l c n := by
  refine ⟨h.zero _ _ hs.at' hu, fun n ⟨q, hq⟩ => ?_⟩
  have := (h.there hs hq rfl rfl).2
  rw [← this] at hu; cases hu
theorem countP_set_same {l : List Pl} {q : Nat} {p x : Pl} (hq : l[q]? = some p) (hu : x.u = p.u) : (l.set q x).countP (·.u) = l.countP (·.u) := by
  induction l generalizing q with
  | nil => cases hq
  | cons y l ih =>
    cases q with
    | zero => injection hq with hq; subst hq; simp [List.countP_cons, hu]
    | succ q => simp only [List.set_cons_succ, List.countP_cons]; rw [ih (by simpa using hq)]
theorem countP_set_new {l : List Pl} {q : Nat} {p x : Pl} (hq : l[q]? = some p) (hp : p.u = false) (hu : x.u = true) : (l.set q x).countP (·.u) = l.countP (·.u) + 1 := by
  induction l generalizing q with
  | nil => cases hq
  | cons y l ih =>
    cases q with
    | zero => injection hq with hq; subst hq; simp [hu, hp]
    | succ q => simp only [List.set_cons_succ, List.countP_cons]; rw [ih (by simpa using hq)]; omega
/-- a name is put. -/
theorem TInv.put {N : Nat} {l : List Pl} (h : TInv hm N l) {c : List Int} {i : Nat} {p : Pl} (hs : Stop hm N l c i p) (n : Int) (hr : p.u = true ∨ 4 * l.countP (·.u) + 4 ≤ 3 * N) :
    TInv hm N (l.set (ps hm N c i) ⟨c, n, true⟩) ∧ (l.set (ps hm N c i) ⟨c, n, true⟩).countP (·.u) = l.countP (·.u) + (if p.u = true then 0 else 1) ∧
      ∀ c' n', Has (l.set (ps hm N c i) ⟨c, n, true⟩) c' n' ↔ (if c' = c then n' = n else Has l c' n') := by
  have hlt : ps hm N c i < l.length := by rw [h.len]; exact ps_lt h.pos c i
  have hcnt : (l.set (ps hm N c i) ⟨c, n, true⟩).countP (·.u) = l.countP (·.u) + (if p.u = true then 0 else 1) := by
    by_cases hu : p.u = true
    · rw [if_pos hu, countP_set_same hs.at' (by rw [hu]), Nat.add_zero]
    · rw [if_neg hu, countP_set_new hs.at' (by simpa using hu) rfl]
  have hgs : ∀ q, (l.set (ps hm N c i) ⟨c, n, true⟩)[q]? = if ps hm N c i = q then some ⟨c, n, true⟩ else l[q]? := by
    intro q
    rw [List.getElem?_set]
    by_cases he : ps hm N c i = q
    · rw [if_pos he, if_pos he, if_pos (by omega)]
    · rw [if_neg he, if_neg he]
  refine ⟨⟨by rw [List.length_set]; exact h.len, h.pos, ?_, ?_, ?_⟩, hcnt, ?_⟩
  · rw [hcnt]
    have := h.room
    split
    · omega
    · rcases hr with hr | hr
      · contradiction
      · omega
  · intro q x hx hu
    rw [hgs] at hx
    split at hx
    · injection hx with hx; subst hx; cases hu
    · exact h.zero q x hx hu
  · intro q x hx hu
    rw [hgs] at hx
    split at hx
    · rename_i he
      injection hx with hx; subst hx
      refine ⟨i, hs.lt, he.symm, fun j hj => ?_⟩
      obtain ⟨p', h1, h2, h3⟩ := hs.before j hj
      refine ⟨p', ?_, h2, h3⟩
      rw [hgs, if_neg]
      · exact h1
      · intro e
        have := ps_inj h.pos hs.lt (by have := hs.lt; omega) e
        omega
    · rename_i he
      obtain ⟨d, hd, hq, hb⟩ := h.reach q x hx hu
      refine ⟨d, hd, hq, fun j hj => ?_⟩
      obtain ⟨p', h1, h2, h3⟩ := hb j hj
      by_cases e : ps hm N c i = ps hm N x.c j
      · refine ⟨⟨c, n, true⟩, by rw [hgs, if_pos e], rfl, fun hcx => ?_⟩
        simp only at hcx
        rw [← e, hs.at'] at h1
        injection h1 with h1
        subst h1
        -- the place held another name that is used: c is not x's
        rcases hs.stop with h4 | h4
        · rw [h4] at h2; cases h2
        · exact h3 (h4.trans hcx)
      · exact ⟨p', by rw [hgs, if_neg e]; exact h1, h2, h3⟩
  · intro c' n'
    by_cases hcc : c' = c
    · subst hcc
      rw [if_pos rfl]
      constructor
      · rintro ⟨q, hq⟩
        rw [hgs] at hq
        split at hq
        · injection hq with hq; injection hq with _ h2 _; exact h2.symm
        · rename_i he
          have := (h.there hs hq rfl rfl).1
          exact absurd this.symm he
      · rintro rfl
        exact ⟨_, by rw [hgs, if_pos rfl]⟩
    · rw [if_neg hcc]
      constructor
      · rintro ⟨q, hq⟩
        rw [hgs] at hq
        split at hq
        · injection hq with hq; injection hq with h1 _ _; exact absurd h1.symm hcc
        · exact ⟨q, hq⟩
      · rintro ⟨q, hq⟩
        refine ⟨q, ?_⟩
        rw [hgs, if_neg]
        · exact hq
        · intro e
          rw [← e, hs.at'] at hq
          injection hq with hq
          subst hq
          rcases hs.stop with h4 | h4
          · cases h4
          · exact hcc h4
theorem TInv.new (N : Nat) (h : 8 ≤ N) : TInv hm N (List.replicate N zPl) := by
  refine ⟨by simp, h, ?_, ?_, ?_⟩
  · rw [show (List.replicate N zPl).countP (·.u) = 0 by rw [List.countP_eq_zero]; intro p hp; rw [(List.mem_replicate.1 hp).2]; decide]
    omega
  · intro q p hp _
    have := List.mem_of_getElem? hp
    exact (List.mem_replicate.1 this).2
  · intro q p hp hu
    have := List.mem_of_getElem? hp
    rw [(List.mem_replicate.1 this).2] at hu
    cases hu
/-- no name twice. -/
theorem TInv.once {N : Nat} {l : List Pl} (h : TInv hm N l) {q r : Nat} {x y : Pl} (hx : l[q]? = some x) (hy : l[r]? = some y) (hu : x.u = true) (hv : y.u = true) (hc : x.c = y.c) : q = r := by
  obtain ⟨i, p, hs⟩ := h.find x.c
  rw [(h.there hs hx hu rfl).1, (h.there hs hy hv hc.symm).1]
end
end Go.Proofs.Ytpngjokjjpdboaa
