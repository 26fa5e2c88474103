/- whole structs stored, read and returned; lemmas that the generated walks use. -/
import Derived.Test.YtjkedccbieoenaaOwn
import Derived.Test.YtjkedccbieoenaaRegion
import Derived.Deep.MidRow
namespace Go.Proofs.Ytjkedccbieoenaa
open Go.RowKit
set_option linter.unusedVariables false

theorem setCells_row {g : Nat} {t : TypeId} : ∀ (vs pre rest : List Value) (w : World), w.heap[g]? = some (.cells (pre ++ rest).toArray t (0, 0)) → rest.length = vs.length →
    (w.setCells g pre.length vs).heap[g]? = some (.cells (pre ++ vs).toArray t (0, 0)) ∧ w.grownBy (w.setCells g pre.length vs) (some g)
  | [], pre, rest, w, h, hl => by
    obtain rfl : rest = [] := List.eq_nil_of_length_eq_zero hl
    rw [World.setCells]
    exact ⟨h, grown_refl _ _⟩
  | v :: vs, pre, [], w, h, hl => by cases hl
  | v :: vs, pre, r :: rest, w, h, hl => by
    have hA := ((At.base h).set pre.length v).conv (cs' := ((pre ++ [v]) ++ rest).toArray) (by rw [List.setIfInBounds_toArray]; simp)
    have ih := setCells_row vs (pre ++ [v]) rest _ hA.row (by simpa using hl)
    rw [List.length_append] at ih
    rw [World.setCells]
    refine ⟨?_, grown_trans hA.rest ih.2⟩
    have h2 := ih.1
    rw [List.append_assoc] at h2
    exact h2
theorem wpList_store_row {P : Program} {ops : Array Oper} {rest : List Oper} {op : Oper} {a : Act} {w : World} {Q : Exit → Act → World → Prop} (hgd : op.guard = none) (ty : TypeId) (x y : Operand) (ho : op.op = .store ty x y)
    (g : Nat) (hx : a.eval x = .pointer (some ⟨g, 0, none⟩)) (cs cs0 : List Value) (hy : a.eval y = .agg cs.toArray) (t : TypeId) (hr : w.heap[g]? = some (.cells cs0.toArray t (0, 0))) (hl : cs0.length = cs.length)
    (hi : (P.info? ty).map (·.size) = some cs.length) (h1 : ∀ v ∈ cs, v.oneCell' = true)
    (h : ∀ w', w'.heap[g]? = some (.cells cs.toArray t (0, 0)) → w.grownBy w' (some g) → wpList P ops Q rest (a.put op.dst undef) w') : wpList P ops Q (op :: rest) a w := by
  refine wpList_store_mid hgd ty x y ho g 0 cs.toArray hx hy ?_ (by simpa using hi) (all_oneCell_toArray h1) ?_
  · intro j hj
    rw [Nat.zero_add]
    have hj2 : j < cs0.length := by rw [hl]; simpa using hj
    rw [row_cell hr j cs0[j] (by simp [hj2]), row_free hr j]
    exact ⟨rfl, rfl⟩
  · have := setCells_row (g := g) (t := t) cs [] cs0 w hr hl
    exact h _ (by simpa using this.1) (by simpa using this.2)
theorem results_cell4 {P : Program} {fn : Func} {r t u v : Tmp} {ty : TypeId} (h : fn.results = #[.cell r ty, .tmp t, .tmp u, .tmp v]) (tmps : Array Value) (w : World) (g : Nat) (hp : tmps.getD r undef = .pointer (some ⟨g, 0, none⟩))
    (cs : List Value) (d : TypeDesc) (e : TypeId) (hr : w.heap[g]? = some (.cells cs.toArray e (0, 0))) (hu : P.underlying ty = some d) (hd : d.isRow = true) (hi : (P.info? ty).map (·.size) = some cs.length) :
    (results fn tmps).run P w = .ok (.tuple #[.agg cs.toArray, tmps.getD t undef, tmps.getD u undef, tmps.getD v undef]) w := by
  have hl := run_loadVar_mid (P := P) w g 0 ty cs d (fun j v hv => by rw [Nat.zero_add]; exact row_cell hr j v (by simpa using hv)) hu hd hi
  have hp2 : tmps[r]?.getD undef = .pointer (some ⟨g, 0, none⟩) := by simpa using hp
  simp [results, h, hp2, asAddr, hl]
theorem results_cell2 {P : Program} {fn : Func} {r t : Tmp} {ty : TypeId} (h : fn.results = #[.cell r ty, .tmp t]) (tmps : Array Value) (w : World) (g : Nat) (hp : tmps.getD r undef = .pointer (some ⟨g, 0, none⟩))
    (cs : List Value) (d : TypeDesc) (e : TypeId) (hr : w.heap[g]? = some (.cells cs.toArray e (0, 0))) (hu : P.underlying ty = some d) (hd : d.isRow = true) (hi : (P.info? ty).map (·.size) = some cs.length) :
    (results fn tmps).run P w = .ok (.tuple #[.agg cs.toArray, tmps.getD t undef]) w := by
  have hl := run_loadVar_mid (P := P) w g 0 ty cs d (fun j v hv => by rw [Nat.zero_add]; exact row_cell hr j v (by simpa using hv)) hu hd hi
  have hp2 : tmps[r]?.getD undef = .pointer (some ⟨g, 0, none⟩) := by simpa using hp
  simp [results, h, hp2, asAddr, hl]
theorem setCells_part {g : Nat} {t : TypeId} (suf : List Value) : ∀ (vs pre rest : List Value) (w : World), w.heap[g]? = some (.cells (pre ++ (rest ++ suf)).toArray t (0, 0)) → rest.length = vs.length →
    (w.setCells g pre.length vs).heap[g]? = some (.cells (pre ++ (vs ++ suf)).toArray t (0, 0)) ∧ w.grownBy (w.setCells g pre.length vs) (some g)
  | [], pre, rest, w, h, hl => by
    obtain rfl : rest = [] := List.eq_nil_of_length_eq_zero hl
    rw [World.setCells]
    exact ⟨h, grown_refl _ _⟩
  | v :: vs, pre, [], w, h, hl => by cases hl
  | v :: vs, pre, r :: rest, w, h, hl => by
    have hA := ((At.base h).set pre.length v).conv (cs' := ((pre ++ [v]) ++ (rest ++ suf)).toArray) (by rw [List.setIfInBounds_toArray]; simp)
    have ih := setCells_part suf vs (pre ++ [v]) rest _ hA.row (by simpa using hl)
    rw [List.length_append] at ih
    rw [World.setCells]
    refine ⟨?_, grown_trans hA.rest ih.2⟩
    have h2 := ih.1
    rw [List.append_assoc] at h2
    exact h2
theorem wpList_store_part {P : Program} {ops : Array Oper} {rest : List Oper} {op : Oper} {a : Act} {w : World} {Q : Exit → Act → World → Prop} (hgd : op.guard = none) (ty : TypeId) (x y : Operand) (ho : op.op = .store ty x y)
    (g o : Nat) (hx : a.eval x = .pointer (some ⟨g, o, none⟩)) (cs : List Value) (t : TypeId) (pre mid suf : List Value) (hy : a.eval y = .agg cs.toArray) (hr : w.heap[g]? = some (.cells (pre ++ (mid ++ suf)).toArray t (0, 0))) (hp : pre.length = o) (hl : mid.length = cs.length)
    (hi : (P.info? ty).map (·.size) = some cs.length) (h1 : ∀ v ∈ cs, v.oneCell' = true)
    (h : ∀ w', w'.heap[g]? = some (.cells (pre ++ (cs ++ suf)).toArray t (0, 0)) → w.grownBy w' (some g) → wpList P ops Q rest (a.put op.dst undef) w') : wpList P ops Q (op :: rest) a w := by
  refine wpList_store_mid hgd ty x y ho g o cs.toArray hx hy ?_ (by simpa using hi) (all_oneCell_toArray h1) ?_
  · intro j hj
    have hj2 : j < mid.length := by rw [hl]; simpa using hj
    have hv : (pre ++ (mid ++ suf))[o + j]? = some mid[j] := by
      rw [List.getElem?_append_right (by omega), hp, show o + j - o = j by omega, List.getElem?_append_left hj2]
      exact List.getElem?_eq_getElem hj2
    rw [row_cell hr (o + j) mid[j] (by rw [List.getElem?_toArray]; exact hv), row_free hr (o + j)]
    exact ⟨rfl, rfl⟩
  · have := setCells_part (g := g) (t := t) suf cs pre mid w hr hl
    rw [hp] at this
    exact h _ (by simpa using this.1) (by simpa using this.2)
theorem wp_store_row {P : Program} {op : Oper} {a : Act} {w : World} {K : Act → World → Prop} {Q : Exit → Act → World → Prop} (ty : TypeId) (x y : Operand) (ho : op.op = .store ty x y)
    (g : Nat) (hx : a.eval x = .pointer (some ⟨g, 0, none⟩)) (cs cs0 : List Value) (hy : a.eval y = .agg cs.toArray) (t : TypeId) (hr : w.heap[g]? = some (.cells cs0.toArray t (0, 0))) (hl : cs0.length = cs.length)
    (hi : (P.info? ty).map (·.size) = some cs.length) (h1 : ∀ v ∈ cs, v.oneCell' = true)
    (h : ∀ w', w'.heap[g]? = some (.cells cs.toArray t (0, 0)) → w.grownBy w' (some g) → K (a.put op.dst undef) w') : Oper.wp P op a w K Q := by
  refine wp_store_mid ty x y ho g 0 cs.toArray hx hy ?_ (by simpa using hi) (all_oneCell_toArray h1) ?_
  · intro j hj
    rw [Nat.zero_add]
    have hj2 : j < cs0.length := by rw [hl]; simpa using hj
    rw [row_cell hr j cs0[j] (by simp [hj2]), row_free hr j]
    exact ⟨rfl, rfl⟩
  · have := setCells_row (g := g) (t := t) cs [] cs0 w hr hl
    exact h _ (by simpa using this.1) (by simpa using this.2)
theorem results_cell1 {P : Program} {fn : Func} {r : Tmp} {ty : TypeId} (h : fn.results = #[.cell r ty]) (tmps : Array Value) (w : World) (g : Nat) (hp : tmps.getD r undef = .pointer (some ⟨g, 0, none⟩))
    (cs : List Value) (d : TypeDesc) (e : TypeId) (hr : w.heap[g]? = some (.cells cs.toArray e (0, 0))) (hu : P.underlying ty = some d) (hd : d.isRow = true) (hi : (P.info? ty).map (·.size) = some cs.length) :
    (results fn tmps).run P w = .ok (.agg cs.toArray) w := by
  have hl := run_loadVar_mid (P := P) w g 0 ty cs d (fun j v hv => by rw [Nat.zero_add]; exact row_cell hr j v (by simpa using hv)) hu hd hi
  have hp2 : tmps[r]?.getD undef = .pointer (some ⟨g, 0, none⟩) := by simpa using hp
  simp [results, h, hp2, asAddr, hl]
section
variable {P : Program} {Q : Exit → Act → World → Prop}
theorem plan_t_load {l : List Oper} {k : Nat} {p : Plan} {S : World → Prop} {a : Act} {w : World} {o : Oper} (ho : l[k]? = some o) (hw : Region.wanted o (yielded l.toArray a.tmps) = true) (ty : TypeId) (x : Operand) (hop : o.op = .load ty x)
    (g off : Nat) (hx : a.eval x = .pointer (some ⟨g, off, none⟩)) (cs : List Value) (d : TypeDesc) (hS : ∀ w, S w → w.rangeAt g off cs) (hu : P.underlying ty = some d) (hd : d.isRow = true) (hi : (P.info? ty).map (·.size) = some cs.length)
    (h : p.wp P l.toArray Q S (a.put o.dst (.agg cs.toArray)) w) : (Plan.t k p).wp P l.toArray Q S a w := by
  refine ⟨o, by simpa using ho, wpQuiet_step fun K hK => ?_⟩
  rw [if_pos hw]
  refine ⟨.agg cs.toArray, fun y hy => ?_, hK _ (wpQuiet_nil h)⟩
  obtain ⟨s, rfl⟩ := hy
  unfold Oper.quietAt execOp
  simp only [hop, hx, Instr.loadAt, Instr.sureAddr, Sem.run_bind, Sem.run_pure, Result.andThen_ok, run_loadVar_mid s.w g off ty cs d (hS s.w s.h) hu hd hi]
  exact ⟨rfl, rfl⟩
theorem plan_b {l : List Oper} {k j : Nat} {p q : Plan} {S : World → Prop} {a : Act} {w : World}
    (h1 : wpOp P l.toArray Q k (fun a' w' => ∃ S' : World → Prop, (∀ x, S' x → S x) ∧ S' w' ∧ p.wp P l.toArray Q S' a' w') a w)
    (h2 : wpOp P l.toArray Q j (fun a' w' => ∃ S' : World → Prop, (∀ x, S' x → S x) ∧ S' w' ∧ q.wp P l.toArray Q S' a' w') a w) : (Plan.b k p j q).wp P l.toArray Q S a w := ⟨h1, h2⟩
theorem plan_half {l : List Oper} {k : Nat} {p : Plan} {S : World → Prop} {a : Act} {w : World} {o : Oper} (ho : l[k]? = some o) (hw : Region.wanted o (yielded l.toArray a.tmps) = true)
    (h : ∀ K' : Act → World → Prop, (∀ a' w', S w' ∧ p.wp P l.toArray Q S a' w' → K' a' w') → Oper.wp P o a w K' Q) : wpOp P l.toArray Q k (fun a' w' => ∃ S' : World → Prop, (∀ x, S' x → S x) ∧ S' w' ∧ p.wp P l.toArray Q S' a' w') a w :=
  wpOp_step (by simpa using ho) fun K' hK => by rw [if_pos hw]; exact h K' fun a' w' ⟨h2, h3⟩ => hK a' w' ⟨S, fun _ h => h, h2, h3⟩
theorem plan_half_n {l : List Oper} {k : Nat} {p : Plan} {S : World → Prop} {a : Act} {w : World} {o : Oper} (ho : l[k]? = some o) (hw : Region.wanted o (yielded l.toArray a.tmps) = true)
    (h : ∀ K' : Act → World → Prop, (∀ a' w', (∃ S' : World → Prop, (∀ x, S' x → S x) ∧ S' w' ∧ p.wp P l.toArray Q S' a' w') → K' a' w') → Oper.wp P o a w K' Q) : wpOp P l.toArray Q k (fun a' w' => ∃ S' : World → Prop, (∀ x, S' x → S x) ∧ S' w' ∧ p.wp P l.toArray Q S' a' w') a w :=
  wpOp_step (by simpa using ho) fun K' hK => by rw [if_pos hw]; exact h K' hK
theorem plan_half_x {l : List Oper} {k : Nat} {p : Plan} {S : World → Prop} {a : Act} {w : World} {o : Oper} (ho : l[k]? = some o) (hw : Region.wanted o (yielded l.toArray a.tmps) = false) (hS : S w)
    (h : p.wp P l.toArray Q S (a.put o.dst undef) w) : wpOp P l.toArray Q k (fun a' w' => ∃ S' : World → Prop, (∀ x, S' x → S x) ∧ S' w' ∧ p.wp P l.toArray Q S' a' w') a w :=
  wpOp_step (by simpa using ho) fun K' hK => by rw [if_neg (by rw [hw]; decide)]; exact hK _ _ ⟨S, fun _ h => h, hS, h⟩
theorem plan_ux {l : List Oper} {k : Nat} {p : Plan} {S : World → Prop} {a : Act} {w : World} {o : Oper} (ho : l[k]? = some o) (hw : Region.wanted o (yielded l.toArray a.tmps) = false) (hS : S w)
    (h : p.wp P l.toArray Q S (a.put o.dst undef) w) : (Plan.u k p).wp P l.toArray Q S a w :=
  plan_half_x ho hw hS h
end
theorem wpList_load_g {P : Program} {ops : Array Oper} {rest : List Oper} {op : Oper} {a : Act} {w : World} {Q : Exit → Act → World → Prop} (ty : TypeId) (x : Operand) (ho : op.op = .load ty x) (hw : Region.wanted op (yielded ops a.tmps) = true)
    (b o : Nat) (hx : a.eval x = .pointer (some ⟨b, o, none⟩)) (cs : List Value) (d : TypeDesc) (hc : w.rangeAt b o cs)
    (hu : P.underlying ty = some d) (hd : d.isRow = true) (hi : (P.info? ty).map (·.size) = some cs.length)
    (h : wpList P ops Q rest (a.put op.dst (.agg cs.toArray)) w) : wpList P ops Q (op :: rest) a w :=
  wpList_step fun K hK => by rw [if_pos hw]; exact wp_load_mid ty x ho b o hx cs d hc hu hd hi (hK _ _ h)
theorem rngL {w : World} {g : Nat} {t : TypeId} {cs : List Value} (h : w.heap[g]? = some (.cells cs.toArray t (0, 0))) : w.rangeAt g 0 cs :=
  fun j v hv => by rw [Nat.zero_add]; exact row_cell h j v (by simpa using hv)
theorem cell_row {w : World} {g : Nat} {cs : List Value} {t : TypeId} (h : w.heap[g]? = some (.cells cs.toArray t (0, 0))) (i : Nat) (v : Value) (hv : cs[i]? = some v) : w.cell? ⟨g, i, none⟩ = some v := row_cell h i v (by rw [List.getElem?_toArray]; exact hv)
theorem rng_row {w : World} {g : Nat} {cs : List Value} {t : TypeId} (h : w.heap[g]? = some (.cells cs.toArray t (0, 0))) (off : Nat) (C : List Value) (hv : ∀ (j : Nat) (v : Value), C[j]? = some v → cs[off + j]? = some v) : w.rangeAt g off C :=
  fun j v hj => cell_row h _ v (hv j v hj)
theorem IntsK.setOther {k : IntKind} {w : World} {a : Option Addr} {len : Nat} {zs : List Int} (h : IntsK k w a len zs) {p : Addr} {x : Value} (hp : w.cell? p = some x) (hx : ∀ n, x ≠ .int k n) (u : Value) : IntsK k (w.setCell p u) a len zs := by
  refine ⟨h.1, h.2.1, ?_⟩
  rcases h.2.2 with h0 | ⟨b, off, ha, hb, hc⟩
  · exact .inl h0
  · refine .inr ⟨b, off, ha, by simpa using hb, fun i hi => ?_⟩
    rw [World.cell?_setCell_other]
    · exact hc i hi
    · intro e
      rw [e, hc i hi] at hp
      injection hp with hp
      exact hx _ hp.symm
theorem own_capm {w : World} {base e n size : Nat} {v : Value} {xs : List Value} (h : w.ownsRow base e size v n xs) : ∀ b l c, v = .slice b l c → c ≤ 9223372036854775807 := by
  intro b l c hv
  rcases h.2 with ⟨h1, _⟩ | ⟨g, cap, cur, h1, hg, hrow, hn, hc, hsz, htk⟩
  · rw [h1] at hv; injection hv with h1 h2 h3; omega
  · rw [h1] at hv; injection hv with h1 h2 h3; subst h3; unfold maxLen at hc; omega
theorem set_wf {xs : List Int} (h : ∀ x ∈ xs, (Lit.int .u8 x).wf = true) (i : Nat) (y : Int) (hy : (Lit.int .u8 y).wf = true) : ∀ x ∈ xs.set i y, (Lit.int .u8 x).wf = true := by
  intro x hx
  rcases List.mem_or_eq_of_mem_set hx with h' | h'
  · exact h x h'
  · rw [h']; exact hy
theorem zeros_wf {xs : List Int} (h : ∀ x ∈ xs, (Lit.int .u8 x).wf = true) (k : Nat) : ∀ x ∈ xs ++ List.replicate k 0, (Lit.int .u8 x).wf = true := by
  intro x hx
  rw [List.mem_append] at hx
  rcases hx with hx | hx
  · exact h x hx
  · rw [(List.mem_replicate.1 hx).2]; decide
theorem take_drop_at {α : Type} {cs : List α} {i n k : Nat} {r : List α} (h : (cs.drop i).take n = r) (hk : k < n) : cs[i + k]? = r[k]? := by
  rw [← h, List.getElem?_take_of_lt hk, List.getElem?_drop]
theorem bdU8 {n : Int} (h : (Lit.int .u8 n).wf = true) : 0 ≤ n ∧ n ≤ 255 := by
  simp [Lit.wf, IntKind.min, IntKind.max, IntKind.signed, IntKind.bits] at h; omega
theorem own_of_row {w : World} {base g e n : Nat} {xs : List Value} (h : w.heap[g]? = some (.cells xs.toArray e (0, 0))) (hb : base ≤ g) (hl : xs.length = n) (hm : n ≤ maxLen) : w.ownsRow base e 1 (.slice (some ⟨g, 0, none⟩) n n) n xs :=
  ⟨by rw [hl, Nat.mul_one], .inr ⟨g, n, xs.toArray, rfl, hb, h, Nat.le_refl _, hm, by simp [hl], by rw [Nat.mul_one, ← hl]; simp⟩⟩
end Go.Proofs.Ytjkedccbieoenaa
