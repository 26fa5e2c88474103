/- heads: whole structs stored and returned. -/
import Derived.Test.YthofbckkjcidmaaHead7
namespace Go.Proofs.Ythofbckkjcidmaa
open Go.RowKit
set_option linter.unusedVariables false

theorem setCells_row {g : Nat} {t : TypeId} : ∀ (vs pre rest : List Value) (w : World), w.heap[g]? = some (.cells (pre ++ rest).toArray t (0, 0)) → rest.length = vs.length →
    (w.setCells g pre.length vs).heap[g]? = some (.cells (pre ++ vs).toArray t (0, 0)) ∧ w.grownBy (w.setCells g pre.length vs) (some g)
  | [], pre, rest, w, h, hl => by
    obtain rfl : rest = [] := List.eq_nil_of_length_eq_zero hl
    rw [World.setCells]
    exact ⟨h, grown_refl _ _⟩
  | v :: vs, pre, [], w, h, hl => by cases hl
  | v :: vs, pre, r :: rest, w, h, hl => by
    have hA := ((At.base h).set pre.length v).conv (cs' := ((pre ++ [v]) ++ rest).toArray) (by rw [List.setIfInBounds_toArray]; simp)
    have ih := setCells_row vs (pre ++ [v]) rest _ hA.row (by simpa using hl)
    rw [List.length_append] at ih
    rw [World.setCells]
    refine ⟨?_, grown_trans hA.rest ih.2⟩
    have h2 := ih.1
    rw [List.append_assoc] at h2
    exact h2
theorem wpList_store_row {P : Program} {ops : Array Oper} {rest : List Oper} {op : Oper} {a : Act} {w : World} {Q : Exit → Act → World → Prop} (hgd : op.guard = none) (ty : TypeId) (x y : Operand) (ho : op.op = .store ty x y)
    (g : Nat) (hx : a.eval x = .pointer (some ⟨g, 0, none⟩)) (cs cs0 : List Value) (hy : a.eval y = .agg cs.toArray) (t : TypeId) (hr : w.heap[g]? = some (.cells cs0.toArray t (0, 0))) (hl : cs0.length = cs.length)
    (hi : (P.info? ty).map (·.size) = some cs.length) (h1 : ∀ v ∈ cs, v.oneCell' = true)
    (h : ∀ w', w'.heap[g]? = some (.cells cs.toArray t (0, 0)) → w.grownBy w' (some g) → wpList P ops Q rest (a.put op.dst undef) w') : wpList P ops Q (op :: rest) a w := by
  refine wpList_store_mid hgd ty x y ho g 0 cs.toArray hx hy ?_ (by simpa using hi) (all_oneCell_toArray h1) ?_
  · intro j hj
    rw [Nat.zero_add]
    have hj2 : j < cs0.length := by rw [hl]; simpa using hj
    rw [row_cell hr j cs0[j] (by simp [hj2]), row_free hr j]
    exact ⟨rfl, rfl⟩
  · have := setCells_row (g := g) (t := t) cs [] cs0 w hr hl
    exact h _ (by simpa using this.1) (by simpa using this.2)
theorem results_cell4 {P : Program} {fn : Func} {r t u v : Tmp} {ty : TypeId} (h : fn.results = #[.cell r ty, .tmp t, .tmp u, .tmp v]) (tmps : Array Value) (w : World) (g : Nat) (hp : tmps.getD r undef = .pointer (some ⟨g, 0, none⟩))
    (cs : List Value) (d : TypeDesc) (e : TypeId) (hr : w.heap[g]? = some (.cells cs.toArray e (0, 0))) (hu : P.underlying ty = some d) (hd : d.isRow = true) (hi : (P.info? ty).map (·.size) = some cs.length) :
    (results fn tmps).run P w = .ok (.tuple #[.agg cs.toArray, tmps.getD t undef, tmps.getD u undef, tmps.getD v undef]) w := by
  have hl := run_loadVar_mid (P := P) w g 0 ty cs d (fun j v hv => by rw [Nat.zero_add]; exact row_cell hr j v (by simpa using hv)) hu hd hi
  have hp2 : tmps[r]?.getD undef = .pointer (some ⟨g, 0, none⟩) := by simpa using hp
  simp [results, h, hp2, asAddr, hl]
theorem results_cell2 {P : Program} {fn : Func} {r t : Tmp} {ty : TypeId} (h : fn.results = #[.cell r ty, .tmp t]) (tmps : Array Value) (w : World) (g : Nat) (hp : tmps.getD r undef = .pointer (some ⟨g, 0, none⟩))
    (cs : List Value) (d : TypeDesc) (e : TypeId) (hr : w.heap[g]? = some (.cells cs.toArray e (0, 0))) (hu : P.underlying ty = some d) (hd : d.isRow = true) (hi : (P.info? ty).map (·.size) = some cs.length) :
    (results fn tmps).run P w = .ok (.tuple #[.agg cs.toArray, tmps.getD t undef]) w := by
  have hl := run_loadVar_mid (P := P) w g 0 ty cs d (fun j v hv => by rw [Nat.zero_add]; exact row_cell hr j v (by simpa using hv)) hu hd hi
  have hp2 : tmps[r]?.getD undef = .pointer (some ⟨g, 0, none⟩) := by simpa using hp
  simp [results, h, hp2, asAddr, hl]
end Go.Proofs.Ythofbckkjcidmaa
