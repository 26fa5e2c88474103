/- wheel: how it lies in memory. -/
import Derived.Test.YtjkedccbieoenaaWhl2
import Derived.Maps.OwnSet
import Derived.Maps.Views
namespace Go.Proofs.Ytjkedccbieoenaa
open Go.RowKit
set_option linter.unusedVariables false
set_option linter.unusedSimpArgs false

def rowsM (now : Int) (T : List Tm) (j : Nat) : List Tm := T.filter (fun x => decide (placeM now x.2 = j))
def whCells (now : Int) (vs : List Value) (b : Nat) : List Value := .int .i64 now :: (vs ++ [.map (some b)])
def kL (id : Int) : Lit := .int .i64 id
/-- the map tells of each timer when it is due. -/
structure MapOf (D : DataW Unit) (T : List Tm) : Prop where
  has : ∀ id, Maps.has D (kL id) = decide (id ∈ T.map Prod.fst)
  at' : ∀ x ∈ T, ∀ z, D.atKey (kL x.1) z = .lit (.int .i64 x.2)
  size : Maps.size D = T.length
theorem isKeyI (id : Int) : WideAt.IsKeyLit (kL id) := by unfold kL; simp [WideAt.IsKeyLit]
theorem kL_ne {a b : Int} (h : a ≠ b) : kL a ≠ kL b := fun e => h (by injection e)
theorem MapOf.put {D : DataW Unit} {T : List Tm} (h : MapOf D T) (ht : Maps.Tidy D) (x : Tm) (hn : x.1 ∉ T.map Prod.fst) : MapOf (D.put (kL x.1) (.lit (.int .i64 x.2))) (T ++ [x]) := by
  have hh : Maps.has D (kL x.1) = false := by rw [h.has]; exact decide_eq_false hn
  refine ⟨fun id => ?_, fun y hy z => ?_, ?_⟩
  · by_cases e : id = x.1
    · subst e
      rw [Maps.has_put_same ht.isMap (isKeyI _)]
      symm
      exact decide_eq_true (by simp)
    · rw [Maps.has_put_other (kL_ne e), h.has]
      simp [e]
  · rcases List.mem_append.1 hy with hy | hy
    · have : y.1 ≠ x.1 := fun e => hn (by rw [← e]; exact List.mem_map_of_mem hy)
      rw [Maps.atKey_put_other (kL_ne this)]
      exact h.at' y hy z
    · rw [List.mem_singleton.1 hy]
      exact Maps.atKey_put_same ht.isMap (isKeyI _) _ _
  · rw [Maps.size_put ht, if_neg (by rw [hh]; decide), h.size]; simp
theorem filter_ne_len {T : List Tm} (hnd : (T.map Prod.fst).Nodup) (id : Int) : (T.filter (fun x => decide (x.1 ≠ id))).length + (if id ∈ T.map Prod.fst then 1 else 0) = T.length := by
  induction T with
  | nil => simp
  | cons x T ih =>
    rw [List.map_cons, List.nodup_cons] at hnd
    have ih := ih hnd.2
    by_cases e : x.1 = id
    · subst e
      rw [List.filter_cons_of_neg (by simp), if_pos (by simp)]
      rw [if_neg hnd.1] at ih
      simp only [List.length_cons]
      omega
    · rw [List.filter_cons_of_pos (by simpa using e)]
      have e2 : (id ∈ (x :: T).map Prod.fst) ↔ (id ∈ T.map Prod.fst) := by
        rw [List.map_cons, List.mem_cons]
        exact ⟨fun h => h.elim (fun h => absurd h.symm e) (fun h => h), .inr⟩
      simp only [e2, List.length_cons]
      omega
theorem MapOf.del {D : DataW Unit} {T : List Tm} (h : MapOf D T) (ht : Maps.Tidy D) (id : Int) (hnd : (T.map Prod.fst).Nodup) : MapOf (D.del (kL id)) (T.filter (fun x => decide (x.1 ≠ id))) := by
  refine ⟨fun k => ?_, fun y hy z => ?_, ?_⟩
  · by_cases e : k = id
    · subst e
      rw [Maps.has_del_same]
      symm
      exact decide_eq_false (by simp)
    · rw [Maps.has_del_other (kL_ne e), h.has]
      congr 1
      simp only [List.mem_map, List.mem_filter, eq_iff_iff]
      constructor
      · rintro ⟨x, hx, rfl⟩; exact ⟨x, ⟨hx, by simpa using e⟩, rfl⟩
      · rintro ⟨x, ⟨hx, _⟩, rfl⟩; exact ⟨x, hx, rfl⟩
  · have hy2 := List.mem_filter.1 hy
    have : y.1 ≠ id := by simpa using hy2.2
    rw [Maps.atKey_del_other (kL_ne this)]
    exact h.at' y hy2.1 z
  · have h1 := Maps.size_del ht (k := kL id)
    have h2 := filter_ne_len hnd id
    rw [h.has, h.size] at h1
    by_cases hm : id ∈ T.map Prod.fst
    · rw [if_pos hm] at h2
      rw [if_pos (decide_eq_true hm)] at h1
      omega
    · rw [if_neg hm] at h2
      rw [if_neg (by rw [decide_eq_false hm]; decide)] at h1
      omega
theorem MapOf.nil : MapOf (.map []) [] := ⟨fun id => rfl, (fun x hx => by cases hx), rfl⟩

theorem own_row_ne' {w : World} {B e s n g : Nat} {t : TypeId} {v : Value} {xs : List Value} {cs : Array Value} {fr : Nat × Nat} (h1 : w.ownsRow B e s v n xs) (h2 : w.heap[g]? = some (.cells cs t fr)) (hne : e ≠ t) : v.ownBlock ≠ some g := by
  intro he
  rcases h1.2 with ⟨rfl, _⟩ | ⟨g2, cap2, cur2, rfl, _, hg2, _⟩
  · simp [Value.ownBlock] at he
  · simp only [Value.ownBlock, Option.some.injEq] at he
    subst he
    rw [h2] at hg2
    injection hg2 with hg2
    injection hg2 with _ ht
    exact hne ht.symm
def blkV (v : Value) : List Nat := match v.ownBlock with
  | none => []
  | some g => [g]
theorem blkV_mem {v : Value} {g : Nat} : g ∈ blkV v ↔ v.ownBlock = some g := by
  unfold blkV; split
  · rename_i h; rw [h]; simp
  · rename_i k h; rw [h]; simp [eq_comm]
/-- the rows of a wheel. -/
structure WhRows (w : World) (p : Nat) (M : List Nat) (now : Int) (T : List Tm) (vs : List Value) (b : Nat) : Prop where
  row : w.heap[p]? = some (.cells (whCells now vs b).toArray 50 (0, 0))
  len : vs.length = 257
  own : ∀ j v, vs[j]? = some v → w.ownsRow 0 53 2 v (rowsM now T j).length (rowV (rowsM now T j))
  dis : ∀ (i j : Nat) (u v : Value) (g : Nat), i ≠ j → vs[i]? = some u → vs[j]? = some v → u.ownBlock = some g → v.ownBlock ≠ some g
  blk : ∀ v ∈ vs, ∀ g, v.ownBlock = some g → g ∈ M
  pm : p ∈ M
  bm : b ∈ M
  isM : ∃ es c, w.heap[b]? = some (.map es c)
  now0 : 0 ≤ now ∧ now ≤ 1099511627776
  ok : ∀ x ∈ T, tmwf x ∧ 0 ≤ x.2 ∧ x.2 ≤ 1125899906842624
  lt : ∀ g ∈ M, g < w.heap.size
structure WhAt (w : World) (p : Nat) (M : List Nat) (now : Int) (T : List Tm) (vs : List Value) (b n : Nat) : Prop where
  rs : WhRows w p M now T vs b
  map : ∃ D, w.ownsMap Try.prog 3 (plainElem Try.prog 2) b n D ∧ MapOf D T
  nd : (T.map Prod.fst).Nodup
theorem whCells_vs {now : Int} {vs : List Value} {b j : Nat} {v : Value} (h : vs[j]? = some v) : (whCells now vs b)[1 + j]? = some v := by
  unfold whCells
  rw [Nat.add_comm, List.getElem?_cons_succ, List.getElem?_append_left (List.getElem?_eq_some_iff.1 h).1]
  exact h
theorem whCells_map {now : Int} {vs : List Value} {b : Nat} (h : vs.length = 257) : (whCells now vs b)[258]? = some (.map (some b)) := by
  unfold whCells
  rw [List.getElem?_cons_succ, List.getElem?_append_right (by omega), h]; rfl
theorem whCells_set {now : Int} {vs : List Value} {b j : Nat} (h : j < vs.length) (v : Value) : (whCells now vs b).set (1 + j) v = whCells now (vs.set j v) b := by
  unfold whCells
  rw [Nat.add_comm, List.set_cons_succ, List.set_append_left _ _ h]
section
variable {w y : World} {p : Nat} {M N : List Nat} {now : Int} {T : List Tm} {vs : List Value} {b n : Nat} {D : DataW Unit}
theorem WhRows.vat (h : WhRows w p M now T vs b) {j : Nat} (hj : j < 257) : ∃ v, vs[j]? = some v ∧ w.cell? ⟨p, 1 + j, none⟩ = some v ∧ w.frozen? ⟨p, 1 + j, none⟩ = false :=
  ⟨vs[j]'(by rw [h.len]; exact hj), List.getElem?_eq_getElem _, cell_row h.row _ _ (whCells_vs (List.getElem?_eq_getElem _)), row_free h.row _⟩
theorem map_off (hm : w.ownsMap Try.prog 3 (plainElem (H := Unit) Try.prog 2) b n D) (ho : Off N w y) (hN : b ∉ N) : y.ownsMap Try.prog 3 (plainElem (H := Unit) Try.prog 2) b n D := by
  have hl := hm.lt
  obtain ⟨es, c, hb, rest⟩ := hm
  exact ⟨es, c, (ho.block b hl hN).trans hb, rest⟩
theorem WhRows.off (h : WhRows w p M now T vs b) (ho : Off N w y) (hN : ∀ g ∈ N, g ∉ M) : WhRows y p M now T vs b := by
  have hM : ∀ g ∈ M, g ∉ N := fun g hg hn => hN g hn hg
  obtain ⟨es, c, hb⟩ := h.isM
  exact ⟨(ho.block p (h.lt p h.pm) (hM p h.pm)).trans h.row, h.len, fun j v hv => own_off (h.own j v hv) ho (fun g hg => hM g (h.blk v (List.mem_of_getElem? hv) g hg)), h.dis, h.blk, h.pm, h.bm, ⟨es, c, (ho.block b (h.lt b h.bm) (hM b h.bm)).trans hb⟩, h.now0, h.ok, fun g hg => Nat.lt_of_lt_of_le (h.lt g hg) ho.size⟩
theorem WhAt.off (h : WhAt w p M now T vs b n) (ho : Off N w y) (hN : ∀ g ∈ N, g ∉ M) : WhAt y p M now T vs b n := by
  obtain ⟨D, hm, hd⟩ := h.map
  exact ⟨h.rs.off ho hN, ⟨D, map_off hm ho (fun hn => hN b hn h.rs.bm), hd⟩, h.nd⟩
theorem WhAt.below (h : WhAt w p M now T vs b n) (hb : Below w.heap.size w y) : WhAt y p M now T vs b n :=
  h.off (N := []) (Off.of_below hb) (fun g hg => by cases hg)
/-- one row is another one. -/
theorem WhRows.turn (h : WhRows w p M now T vs b) {T' : List Tm} {j : Nat} {v v' : Value} (hv : vs[j]? = some v) (ho : Off (p :: blkV v) w y) (hr : y.heap[p]? = some (.cells (whCells now (vs.set j v') b).toArray 50 (0, 0)))
    (hj : y.ownsRow 0 53 2 v' (rowsM now T' j).length (rowV (rowsM now T' j))) (hsame : ∀ i, i ≠ j → rowsM now T' i = rowsM now T i) (hok : ∀ x ∈ T', tmwf x ∧ 0 ≤ x.2 ∧ x.2 ≤ 1125899906842624)
    (hb : ∀ g, v'.ownBlock = some g → (v.ownBlock = some g ∨ w.heap.size ≤ g)) : WhRows y p (M ++ blkV v') now T' (vs.set j v') b := by
  have hjl : j < vs.length := (List.getElem?_eq_some_iff.1 hv).1
  have hvm := List.mem_of_getElem? hv
  obtain ⟨es, c, hbm⟩ := h.isM
  have hbp : b ≠ p := fun e => by rw [e, h.row] at hbm; cases hbm
  have hbv : b ∉ blkV v := fun hm => by
    have := blkV_mem.1 hm
    rcases (h.own j v hv).2 with ⟨rfl, _⟩ | ⟨g, cap, cur, rfl, _, hg, _⟩
    · cases this
    · injection this with this; rw [show g = b from this, hbm] at hg; cases hg
  have hnew : ∀ i u g, i ≠ j → vs[i]? = some u → u.ownBlock = some g → v'.ownBlock ≠ some g := by
    intro i u g hij hu hg hv'
    rcases hb g hv' with h1 | h1
    · exact h.dis i j u v g hij hu hv hg h1
    · have := h.lt g (h.blk u (List.mem_of_getElem? hu) g hg); omega
  have hset : ∀ i u, (vs.set j v')[i]? = some u → (i = j ∧ u = v') ∨ (i ≠ j ∧ vs[i]? = some u) := by
    intro i u hu
    by_cases e : i = j
    · subst e; rw [List.getElem?_set_self hjl] at hu; injection hu with hu; exact .inl ⟨rfl, hu.symm⟩
    · rw [List.getElem?_set_ne (Ne.symm e)] at hu; exact .inr ⟨e, hu⟩
  refine ⟨hr, by rw [List.length_set]; exact h.len, fun i u hu => ?_, fun i k u t g hik hu ht hg => ?_, fun u hu g hg => ?_, List.mem_append_left _ h.pm, List.mem_append_left _ h.bm, ⟨es, c, (ho.block b (h.lt b h.bm) (fun hm => by rcases List.mem_cons.1 hm with hm | hm; exact hbp hm; exact hbv hm)).trans hbm⟩, h.now0, hok, fun g hg => ?_⟩
  · rcases hset i u hu with ⟨rfl, rfl⟩ | ⟨hij, hu⟩
    · exact hj
    · rw [hsame i hij]
      refine own_off (h.own i u hu) ho (fun g hg hm => ?_)
      rcases List.mem_cons.1 hm with hm | hm
      · exact own_row_ne' (h.own i u hu) h.row (by decide) (by rw [hg, hm])
      · exact h.dis i j u v g hij hu hv hg (blkV_mem.1 hm)
  · rcases hset i u hu with ⟨e1, e2⟩ | ⟨hij, hu2⟩
    · subst e1; subst e2
      rcases hset k t ht with ⟨e1, e2⟩ | ⟨hkj, ht2⟩
      · exact absurd e1.symm hik
      · intro hg2; exact hnew k t g hkj ht2 hg2 hg
    · rcases hset k t ht with ⟨e1, e2⟩ | ⟨hkj, ht2⟩
      · rw [e2]; exact hnew i u g hij hu2 hg
      · exact h.dis i k u t g hik hu2 ht2 hg
  · obtain ⟨i, hi⟩ := List.mem_iff_getElem?.1 hu
    rcases hset i u hi with ⟨rfl, rfl⟩ | ⟨hij, hi⟩
    · exact List.mem_append_right _ (blkV_mem.2 hg)
    · exact List.mem_append_left _ (h.blk u (List.mem_of_getElem? hi) g hg)
  · rcases List.mem_append.1 hg with hg | hg
    · exact Nat.lt_of_lt_of_le (h.lt g hg) ho.size
    · exact (hj.lt g (blkV_mem.1 hg)).2
/-- the map's block turns. -/
theorem WhRows.mapped (h : WhRows w p M now T vs b) (hg : w.grownBy y (some b)) (hm : ∃ es c, y.heap[b]? = some (.map es c)) : WhRows y p M now T vs b := by
  obtain ⟨es, c, hbm⟩ := h.isM
  have hbp : some p ≠ some b := fun e => by injection e with e; rw [← e, h.row] at hbm; cases hbm
  refine ⟨(hg.block p (h.lt p h.pm) hbp).trans h.row, h.len, fun j v hv => (h.own j v hv).kept hg ?_, h.dis, h.blk, h.pm, h.bm, hm, h.now0, h.ok, fun g hg' => Nat.lt_of_lt_of_le (h.lt g hg') hg.size⟩
  rcases (h.own j v hv).2 with ⟨rfl, _⟩ | ⟨g, cap, cur, rfl, _, hgg, _⟩
  · exact .inl rfl
  · refine .inr (fun e => ?_)
    injection e with e
    rw [show g = b from e, hbm] at hgg; cases hgg
end
/-- what a call that turns a wheel leaves. -/
def WhR (w : World) (p : Nat) (M : List Nat) (now : Int) (T : List Tm) (n : Nat) (w' : World) : Prop :=
  ∃ M' vs b, WhAt w' p M' now T vs b n ∧ Off M w w' ∧ ∀ g ∈ M', g ∈ M ∨ w.heap.size ≤ g
theorem rowsM_app (now : Int) (T : List Tm) (x : Tm) (j : Nat) : rowsM now (T ++ [x]) j = if placeM now x.2 = j then rowsM now T j ++ [x] else rowsM now T j := by
  unfold rowsM
  rw [List.filter_append]
  by_cases h : placeM now x.2 = j
  · rw [if_pos h, List.filter_cons_of_pos (by simpa using h)]; rfl
  · rw [if_neg h, List.filter_cons_of_neg (by simpa using h)]; simp
end Go.Proofs.Ytjkedccbieoenaa
