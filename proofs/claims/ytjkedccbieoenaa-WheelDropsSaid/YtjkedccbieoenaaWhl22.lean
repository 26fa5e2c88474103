/- wheel: a wheel and a row of times. -/
import Derived.Test.YtjkedccbieoenaaWhl21
namespace Go.Proofs.Ytjkedccbieoenaa
open Go.RowKit
set_option linter.unusedVariables false
set_option linter.unusedSimpArgs false

/-- a wheel above a base, and a row of twenty times. -/
def DrW (bse : Nat) (w : World) (p : Nat) (now : Int) (T : List Tm) (n : Nat) (g : Nat) (A : List Int) : Prop :=
  ∃ M vs b, WhAt w p M now T vs b n ∧ (∀ q ∈ M, bse ≤ q) ∧ g ∉ M ∧ w.heap[g]? = some (.cells (A.map (Value.int .i64)).toArray 35 (0, 0)) ∧ bse ≤ g ∧ bse ≤ w.heap.size
section
variable {bse : Nat} {w y : World} {p n g : Nat} {now : Int} {T : List Tm} {A : List Int}
theorem dr_core {M : List Nat} (h1 : ∀ q ∈ M, bse ≤ q) (h2 : g ∉ M) (h3 : w.heap[g]? = some (.cells (A.map (Value.int .i64)).toArray 35 (0, 0))) (h4 : bse ≤ g) (h5 : bse ≤ w.heap.size)
    {M2 : List Nat} {v2 : List Value} {b2 n2 : Nat} {nw2 : Int} {T2 : List Tm} (hA2 : WhAt y p M2 nw2 T2 v2 b2 n2) (hO : Off M w y) (hM2 : ∀ q ∈ M2, q ∈ M ∨ w.heap.size ≤ q) : DrW bse y p nw2 T2 n2 g A ∧ Below bse w y := by
  have hl := lt_of_block h3
  refine ⟨⟨M2, v2, b2, hA2, fun q hq => ?_, fun hm => ?_, (hO.block g hl h2).trans h3, h4, Nat.le_trans h5 hO.size⟩, hO.below h5 h1⟩
  · rcases hM2 q hq with h | h
    · exact h1 q h
    · omega
  · rcases hM2 g hm with h | h
    · exact h2 h
    · omega
theorem DrW.below (h : DrW bse w p now T n g A) (hb : Below w.heap.size w y) : DrW bse y p now T n g A := by
  obtain ⟨M, vs, b, hw, h1, h2, h3, h4, h5⟩ := h
  exact ⟨M, vs, b, hw.below hb, h1, h2, bl_row hb (lt_of_block h3) h3, h4, Nat.le_trans h5 hb.size⟩
theorem DrW.row (h : DrW bse w p now T n g A) : w.heap[g]? = some (.cells (A.map (Value.int .i64)).toArray 35 (0, 0)) := by
  obtain ⟨M, vs, b, hw, h1, h2, h3, h4, h5⟩ := h; exact h3
theorem DrW.nd (h : DrW bse w p now T n g A) : (T.map Prod.fst).Nodup := by obtain ⟨M, vs, b, hw, _⟩ := h; exact hw.nd
theorem DrW.cell (h : DrW bse w p now T n g A) {k : Nat} {v : Int} (hk : A[k]? = some v) : w.cell? ⟨g, k, none⟩ = some (.int .i64 v) := cell_row h.row k _ (by rw [List.getElem?_map, hk]; rfl)
theorem DrW.free (h : DrW bse w p now T n g A) (k : Nat) : w.frozen? ⟨g, k, none⟩ = false := row_free h.row k
theorem DrW.put (h : DrW bse w p now T n g A) (k : Nat) (v : Int) : DrW bse (w.setCell ⟨g, k, none⟩ (.int .i64 v)) p now T n g (A.set k v) ∧ Below bse w (w.setCell ⟨g, k, none⟩ (.int .i64 v)) ∧ Off [g] w (w.setCell ⟨g, k, none⟩ (.int .i64 v)) := by
  obtain ⟨M, vs, b, hw, h1, h2, h3, h4, h5⟩ := h
  have hO : Off [g] w (w.setCell ⟨g, k, none⟩ (.int .i64 v)) := (Off.refl [g] w).setCell (List.mem_singleton.2 rfl) _
  refine ⟨⟨M, vs, b, hw.off hO (fun q hq => by rw [List.mem_singleton.1 hq]; exact h2), h1, h2, ?_, h4, Nat.le_trans h5 hO.size⟩, hO.below h5 (fun q hq => by rw [List.mem_singleton.1 hq]; exact h4), hO⟩
  rw [List.map_set]
  exact row_set h3 k _
theorem DrW.set (h : DrW bse w p now T n g A) (id t : Int) (hid : (Lit.int .i64 id).wf = true) (ht : 0 ≤ t ∧ t ≤ 1125899906842624) (hn : n ≤ 100000) (hT : T.length ≤ 100000) :
    Calls Try.prog 10 #[.pointer (some ⟨p, 0, none⟩), .int .i64 id, .int .i64 t] w fun e w' => e = .returned (.bool true) ∧ DrW bse w' p now (dropT T id ++ [(id, dueM now t)]) (n + 1) g A ∧ Below bse w w' := by
  obtain ⟨M, vs, b, hw, h1, h2, h3, h4, h5⟩ := h
  refine (set_any w p M now T vs b n hw id t hid ht hn hT).mono fun e w' ⟨he, M2, vs2, b2, hw2, ho, hm⟩ => ?_
  exact ⟨he, dr_core h1 h2 h3 h4 h5 hw2 ho hm⟩
theorem DrW.drop (h : DrW bse w p now T n g A) (id : Int) (hid : (Lit.int .i64 id).wf = true) (hT : T.length ≤ 100000) :
    Calls Try.prog 15 #[.pointer (some ⟨p, 0, none⟩), .int .i64 id] w fun e w' => e = .returned (.bool (decide (id ∈ T.map Prod.fst))) ∧ DrW bse w' p now (dropT T id) n g A ∧ Below bse w w' := by
  obtain ⟨M, vs, b, hw, h1, h2, h3, h4, h5⟩ := h
  refine (drop_any w p M now T vs b n hw id hid hT).mono fun e w' ⟨he, M2, vs2, b2, hw2, ho, hm⟩ => ?_
  exact ⟨he, dr_core h1 h2 h3 h4 h5 hw2 ho hm⟩
theorem DrW.len (h : DrW bse w p now T n g A) : Calls Try.prog 13 #[.pointer (some ⟨p, 0, none⟩)] w fun e w' => e = .returned (.int .i64 (T.length : Nat)) ∧ w = w' := by
  obtain ⟨M, vs, b, hw, h1, h2, h3, h4, h5⟩ := h
  exact len_any w p M now T vs b n hw
theorem DrW.next (h : DrW bse w p now T n g A) (hT : T.length ≤ 1000) : Calls Try.prog 16 #[.pointer (some ⟨p, 0, none⟩)] w fun e w' => ∃ a s, e = .returned (.tuple #[.int .i64 a, .bool s]) ∧ Below w.heap.size w w' ∧ LeastOf (T.map Prod.snd) a s := by
  obtain ⟨M, vs, b, hw, h1, h2, h3, h4, h5⟩ := h
  exact next_any w p M now T vs b n hw hT
theorem DrW.go (h : DrW bse w p now T n g A) (t : Int) (hT : T.length ≤ 1000) :
    Calls Try.prog 11 #[.pointer (some ⟨p, 0, none⟩), .int .i64 t] w fun e w' => ∃ a cap S n2, e = .returned (.slice a (duL (goN now t) S).length cap) ∧ IntsK .i64 w' a (duL (goN now t) S).length (duL (goN now t) S) ∧ S.Perm T ∧ S.Pairwise (fun x y => leT x y = true) ∧
      (∀ x, a = some x → x.block ≠ g) ∧ n2 ≤ T.length ∧ DrW bse w' p (goN now t) (S.filter (ndM (goN now t))) n2 g A ∧ Below bse w w' := by
  obtain ⟨M, vs, b, hw, h1, h2, h3, h4, h5⟩ := h
  refine (go_any w p M now T vs b n hw t hT).mono fun e w' hg => ?_
  obtain ⟨a, cap, S, he, hi, _, _, hp, hss, M2, vs2, b2, n2, hw2, hn2, ho, hm, hx⟩ := hg
  exact ⟨a, cap, S, n2, he, hi, hp, hss, fun x hxa e => by have := (hx x hxa).1; have := lt_of_block h3; omega, hn2, dr_core h1 h2 h3 h4 h5 hw2 ho hm⟩
theorem ints_off {k : IntKind} {M : List Nat} {a : Option Addr} {n : Nat} {xs : List Int} (h : IntsK k w a n xs) (ho : Off M w y) (ha : ∀ x, a = some x → x.block ∉ M) : IntsK k y a n xs := by
  refine ⟨h.1, h.2.1, ?_⟩
  rcases h.2.2 with h0 | ⟨b, off, rfl, hb, hc⟩
  · exact .inl h0
  · have hm := ha _ rfl
    refine .inr ⟨b, off, rfl, Nat.lt_of_lt_of_le hb ho.size, fun i hi => ?_⟩
    have h2 := hc i hi
    unfold World.cell? at h2 ⊢
    rw [ho.block b hb hm]; exact h2
end
/-- the row tells what is due when. -/
structure AtI (A : List Int) (T : List Tm) : Prop where
  len : A.length = 20
  ok : ∀ x ∈ T, 0 ≤ x.1 ∧ x.1 < 20 ∧ 1 ≤ x.2 ∧ x.2 ≤ 100000 ∧ A[x.1.toNat]? = some x.2
  no : ∀ k : Nat, k < 20 → (k : Int) ∉ T.map Prod.fst → A[k]? = some (-1)
theorem AtI.at {A : List Int} {T : List Tm} (h : AtI A T) {k : Nat} (hk : k < 20) : ∃ v, A[k]? = some v ∧ -1 ≤ v ∧ v ≤ 100000 ∧ decide (0 ≤ v) = decide ((k : Int) ∈ T.map Prod.fst) := by
  by_cases hm : (k : Int) ∈ T.map Prod.fst
  · obtain ⟨x, hx, e⟩ := List.mem_map.1 hm
    obtain ⟨_, _, h3, h4, h5⟩ := h.ok x hx
    rw [e] at h5
    exact ⟨x.2, h5, by omega, h4, by rw [decide_eq_true hm, decide_eq_true (by omega)]⟩
  · exact ⟨-1, h.no k hk hm, by omega, by omega, by rw [decide_eq_false hm, decide_eq_false (by omega)]⟩
theorem AtI.drop {A : List Int} {T : List Tm} (h : AtI A T) {k : Nat} (hk : k < 20) : AtI (A.set k (-1)) (dropT T k) := by
  refine ⟨by rw [List.length_set, h.len], fun x hx => ?_, fun j hj hm => ?_⟩
  · obtain ⟨hx1, hx2⟩ := List.mem_filter.1 hx
    obtain ⟨h1, h2, h3, h4, h5⟩ := h.ok x hx1
    simp only [decide_eq_true_eq] at hx2
    exact ⟨h1, h2, h3, h4, by rw [List.getElem?_set_ne (by omega)]; exact h5⟩
  · by_cases e : k = j
    · subst e; rw [List.getElem?_set_self (by rw [h.len]; exact hk)]
    · rw [List.getElem?_set_ne e]
      refine h.no j hj (fun hm2 => hm ?_)
      obtain ⟨x, hx, ex⟩ := List.mem_map.1 hm2
      exact List.mem_map.2 ⟨x, List.mem_filter.2 ⟨hx, by simp only [decide_eq_true_eq]; omega⟩, ex⟩
theorem AtI.put {A : List Int} {T : List Tm} (h : AtI A T) {k : Nat} (hk : k < 20) {t : Int} (ht : 1 ≤ t ∧ t ≤ 100000) : AtI (A.set k t) (dropT T k ++ [((k : Int), t)]) := by
  refine ⟨by rw [List.length_set, h.len], fun x hx => ?_, fun j hj hm => ?_⟩
  · rcases List.mem_append.1 hx with hx | hx
    · obtain ⟨hx1, hx2⟩ := List.mem_filter.1 hx
      obtain ⟨h1, h2, h3, h4, h5⟩ := h.ok x hx1
      simp only [decide_eq_true_eq] at hx2
      exact ⟨h1, h2, h3, h4, by rw [List.getElem?_set_ne (by omega)]; exact h5⟩
    · rw [List.mem_singleton.1 hx]
      refine ⟨by simp only; omega, by simp only; omega, ht.1, ht.2, ?_⟩
      rw [show ((k : Int), t).1.toNat = k from Int.toNat_natCast k, List.getElem?_set_self (by rw [h.len]; exact hk)]
  · rw [List.map_append, List.mem_append] at hm
    by_cases e : k = j
    · subst e; exact absurd (.inr (by simp)) hm
    · rw [List.getElem?_set_ne e]
      refine h.no j hj (fun hm2 => hm (.inl ?_))
      obtain ⟨x, hx, ex⟩ := List.mem_map.1 hm2
      exact List.mem_map.2 ⟨x, List.mem_filter.2 ⟨hx, by simp only [decide_eq_true_eq]; omega⟩, ex⟩
theorem AtI.perm {A : List Int} {T S : List Tm} (h : AtI A T) (hp : S.Perm T) : AtI A S :=
  ⟨h.len, fun x hx => h.ok x (hp.mem_iff.1 hx), fun k hk hm => h.no k hk (fun h2 => hm ((hp.map _).mem_iff.2 h2))⟩
theorem nodup_le : ∀ (N : Nat) (l : List Int), l.Nodup → (∀ x ∈ l, 0 ≤ x ∧ x < (N : Int)) → l.length ≤ N
  | 0, l, _, h => by
    cases l with
    | nil => exact Nat.le_refl _
    | cons x l => have := h x (List.mem_cons_self ..); omega
  | N + 1, l, hn, h => by
    have h2 := nodup_le N (l.erase (N : Int)) (hn.erase _) (fun x hx => by
      have := (hn.mem_erase_iff).1 hx
      have := h x this.2; omega)
    by_cases hm : (N : Int) ∈ l
    · rw [List.length_erase_of_mem hm] at h2; omega
    · rw [List.erase_of_not_mem hm] at h2; omega
theorem AtI.le {A : List Int} {T : List Tm} (h : AtI A T) (hn : (T.map Prod.fst).Nodup) : T.length ≤ 20 := by
  have := nodup_le 20 (T.map Prod.fst) hn (fun x hx => by obtain ⟨y, hy, rfl⟩ := List.mem_map.1 hx; have := h.ok y hy; omega)
  rwa [List.length_map] at this
/-- what stands yet as the row of those that went off is gone through. -/
def remT (S : List Tm) (L : List Int) (i : Nat) : List Tm := S.filter (fun x => decide (x.1 ∉ L.take i))
theorem remT_zero (S : List Tm) (L : List Int) : remT S L 0 = S := by
  unfold remT; rw [List.filter_eq_self]; intro x _; simp
theorem remT_succ {S : List Tm} {L : List Int} {i : Nat} {id : Int} (h : L[i]? = some id) : dropT (remT S L i) id = remT S L (i + 1) := by
  unfold dropT remT
  rw [List.filter_filter]
  apply List.filter_congr
  intro x _
  rw [List.take_add_one, h]
  simp only [Option.toList_some, List.mem_append, List.mem_singleton, not_or, Bool.decide_and]
  rw [Bool.and_comm]
theorem fst_inj {S : List Tm} (hn : (S.map Prod.fst).Nodup) {x y : Tm} (hx : x ∈ S) (hy : y ∈ S) (e : x.1 = y.1) : x = y := by
  induction S with
  | nil => cases hx
  | cons z S ih =>
    rw [List.map_cons, List.nodup_cons] at hn
    rcases List.mem_cons.1 hx with h1 | h1 <;> rcases List.mem_cons.1 hy with h2 | h2
    · rw [h1, h2]
    · exact absurd (List.mem_map.2 ⟨y, h2, by rw [← h1]; exact e.symm⟩) hn.1
    · exact absurd (List.mem_map.2 ⟨x, h1, by rw [← h2]; exact e⟩) hn.1
    · exact ih hn.2 h1 h2
theorem remT_last {S : List Tm} {n : Int} (hn : (S.map Prod.fst).Nodup) : remT S (duL n S) (duL n S).length = S.filter (ndM n) := by
  unfold remT
  apply List.filter_congr
  intro x hx
  rw [List.take_length]
  unfold ndM duL
  congr 1
  simp only [eq_iff_iff, List.mem_map, not_exists, not_and, List.mem_filter, duM, decide_eq_true_eq]
  constructor
  · intro h h2; exact h x ⟨hx, h2⟩ rfl
  · intro h y hy e
    rw [fst_inj hn hy.1 hx e] at hy
    exact h hy.2
theorem duL_nodup {S : List Tm} {n : Int} (hn : (S.map Prod.fst).Nodup) : (duL n S).Nodup := by
  unfold duL; exact hn.sublist ((List.filter_sublist ..).map _)
theorem remT_at {S : List Tm} {n : Int} (hn : (S.map Prod.fst).Nodup) (hlo : ∀ x ∈ S, n ≤ x.2) {A : List Int} {i : Nat} {id : Int} (h : AtI A (remT S (duL n S) i)) (hi : (duL n S)[i]? = some id) :
    ∃ k : Nat, id = k ∧ k < 20 ∧ A[k]? = some n := by
  have hm : id ∈ duL n S := List.mem_of_getElem? hi
  unfold duL at hm
  obtain ⟨x, hx, e⟩ := List.mem_map.1 hm
  obtain ⟨hx1, hx2⟩ := List.mem_filter.1 hx
  have hxn : x.2 = n := by have := hlo x hx1; simp [duM] at hx2; omega
  have hnt : x.1 ∉ (duL n S).take i := fun hc => by
    have hnd := duL_nodup (n := n) hn
    obtain ⟨j, hj, ej⟩ := List.mem_iff_getElem.1 hc
    rw [List.length_take] at hj
    rw [List.getElem_take] at ej
    obtain ⟨hi2, ei⟩ := List.getElem?_eq_some_iff.1 hi
    exact List.pairwise_iff_getElem.1 hnd j i (by omega) hi2 (by omega) (ej.trans (e.trans ei.symm))
  obtain ⟨h1, h2, _, _, h5⟩ := h.ok x (List.mem_filter.2 ⟨hx1, by simpa using hnt⟩)
  rw [e] at h1 h2 h5
  exact ⟨id.toNat, by omega, by omega, by rw [h5, hxn]⟩
theorem LeastOf.yes {l : List Int} {a : Int} (h : LeastOf l a true) : a ∈ l ∧ ∀ t ∈ l, a ≤ t := by
  rcases h with ⟨_, _, h⟩ | ⟨_, h⟩
  · cases h
  · exact h
theorem LeastOf.none {l : List Int} {a : Int} (h : LeastOf l a false) : l = [] := by
  rcases h with ⟨h, _⟩ | ⟨h, _⟩
  · exact h
  · cases h
/-- between two steps. -/
structure DrI (T : List Tm) (now : Int) (j : Nat) : Prop where
  cnt : T.length + j ≤ 20
  gt : ∀ x ∈ T, now < x.2
  n0 : 0 ≤ now
theorem DrI.go {T S : List Tm} {now n : Int} {j : Nat} (h : DrI T now j) (hl : LeastOf (T.map Prod.snd) n true) (hp : S.Perm T) : DrI (S.filter (ndM n)) n (j + 1) ∧ (∀ x ∈ S, n ≤ x.2) ∧ now < n := by
  obtain ⟨h1, h2⟩ := hl.yes
  obtain ⟨x, hx, e⟩ := List.mem_map.1 h1
  have hlt := h.gt x hx
  have hxS := hp.mem_iff.2 hx
  refine ⟨⟨?_, fun y hy => ?_, by have := h.n0; omega⟩, fun y hy => h2 _ (List.mem_map_of_mem (hp.mem_iff.1 hy)), by omega⟩
  · have h3 : (S.filter (ndM n)).length < S.length := by
      rcases Nat.lt_or_ge (S.filter (ndM n)).length S.length with h4 | h4
      · exact h4
      · have h5 := List.length_filter_eq_length_iff.1 (Nat.le_antisymm (List.length_filter_le _ _) h4) x hxS
        simp [ndM] at h5; omega
    have := hp.length_eq
    have := h.cnt
    omega
  · have := (List.mem_filter.1 hy).2
    simp [ndM] at this; exact this
end Go.Proofs.Ytjkedccbieoenaa
