/- demux: the rows that play keeps. -/
import Derived.Test.YtpngjokjjpdboaaDmx9
import Derived.Maps.AppendAt
import Derived.Great.BuildSlice
namespace Go.Proofs.Ytpngjokjjpdboaa
open Go.RowKit
set_option linter.unusedVariables false

def cC (ps : List (List Int × Int)) : List Value := ps.flatMap fun q => q.1.map (Value.int .u8)
def nC (ps : List (List Int × Int)) : List Value := ps.map fun q => .int .i64 q.2
def PsOk (ps : List (List Int × Int)) : Prop := ∀ q ∈ ps, q.1.length = 8 ∧ (∀ x ∈ q.1, (Lit.int .u8 x).wf = true) ∧ (-9223372036854775808 ≤ q.2 ∧ q.2 ≤ 9223372036854775807)
theorem PsOk.tail {q : List Int × Int} {ps : List (List Int × Int)} (h : PsOk (q :: ps)) : PsOk ps := fun x hx => h x (List.mem_cons_of_mem _ hx)
theorem PsOk.app {ps qs : List (List Int × Int)} (h : PsOk ps) (k : PsOk qs) : PsOk (ps ++ qs) := fun x hx => (List.mem_append.1 hx).elim (h x) (k x)
theorem PsOk.take {ps : List (List Int × Int)} (h : PsOk ps) (n : Nat) : PsOk (ps.take n) := fun x hx => h x (List.mem_of_mem_take hx)
theorem PsOk.drop {ps : List (List Int × Int)} (h : PsOk ps) (n : Nat) : PsOk (ps.drop n) := fun x hx => h x (List.mem_of_mem_drop hx)
theorem cC_cons (q : List Int × Int) (ps : List (List Int × Int)) : cC (q :: ps) = q.1.map (Value.int .u8) ++ cC ps := by unfold cC; rw [List.flatMap_cons]
theorem cC_app (ps qs : List (List Int × Int)) : cC (ps ++ qs) = cC ps ++ cC qs := by unfold cC; rw [List.flatMap_append]
theorem nC_app (ps qs : List (List Int × Int)) : nC (ps ++ qs) = nC ps ++ nC qs := by unfold nC; rw [List.map_append]
theorem nC_len (ps : List (List Int × Int)) : (nC ps).length = ps.length := by unfold nC; rw [List.length_map]
theorem cC_len : ∀ {ps : List (List Int × Int)}, PsOk ps → (cC ps).length = ps.length * 8
  | [], _ => rfl
  | q :: ps, h => by
    rw [cC_cons, List.length_append, cC_len h.tail, List.length_map, (h q (List.mem_cons_self ..)).1, List.length_cons]; omega
theorem cC_get : ∀ {ps : List (List Int × Int)} {k : Nat} {q : List Int × Int}, PsOk ps → ps[k]? = some q → ∀ (j : Nat) (v : Value), (q.1.map (Value.int .u8))[j]? = some v → (cC ps)[k * 8 + j]? = some v
  | [], _, _, _, hk, _, _, _ => by simp at hk
  | q :: ps, 0, x, h, hk, j, v, hv => by
    simp only [List.getElem?_cons_zero, Option.some.injEq] at hk
    subst hk
    rw [cC_cons, Nat.zero_mul, Nat.zero_add, List.getElem?_append_left (lt_of_get hv)]; exact hv
  | q :: ps, k + 1, x, h, hk, j, v, hv => by
    rw [List.getElem?_cons_succ] at hk
    have hl : (q.1.map (Value.int .u8)).length = 8 := by rw [List.length_map]; exact (h q (List.mem_cons_self ..)).1
    rw [cC_cons, List.getElem?_append_right (by rw [hl]; omega), hl, show (k + 1) * 8 + j - 8 = k * 8 + j by omega]
    exact cC_get h.tail hk j v hv
theorem cC_one (c : List Int) (n : Int) : cC [(c, n)] = c.map (Value.int .u8) := by rw [cC_cons]; simp [cC]
theorem nC_one (c : List Int) (n : Int) : nC [(c, n)] = [.int .i64 n] := rfl
theorem cC_split {ps : List (List Int × Int)} (h : PsOk ps) (n : Nat) (hn : n ≤ ps.length) : cC ps = cC (ps.take n) ++ cC (ps.drop n) ∧ (cC (ps.take n)).length = n * 8 := by
  refine ⟨by rw [← cC_app, List.take_append_drop], ?_⟩
  rw [cC_len (h.take n), List.length_take, Nat.min_eq_left hn]
theorem cC_drop {ps : List (List Int × Int)} (h : PsOk ps) (n : Nat) (hn : n ≤ ps.length) (j : Nat) (v : Value) (hv : (cC (ps.drop n))[j]? = some v) : (cC ps)[n * 8 + j]? = some v := by
  obtain ⟨h1, h2⟩ := cC_split h n hn
  rw [h1, List.getElem?_append_right (by omega), h2, Nat.add_sub_cancel_left]; exact hv
theorem cC_take {ps : List (List Int × Int)} (h : PsOk ps) (n : Nat) (hn : n ≤ ps.length) (j : Nat) (v : Value) (hv : (cC (ps.take n))[j]? = some v) : (cC ps)[j]? = some v := by
  obtain ⟨h1, h2⟩ := cC_split h n hn
  rw [h1, List.getElem?_append_left (lt_of_get hv)]; exact hv
theorem nC_drop (ps : List (List Int × Int)) (n j : Nat) (v : Value) (hv : (nC (ps.drop n))[j]? = some v) : (nC ps)[n + j]? = some v := by
  unfold nC at *; rw [List.getElem?_map, List.getElem?_drop] at hv; rw [List.getElem?_map]; exact hv
theorem nC_take (ps : List (List Int × Int)) (n j : Nat) (v : Value) (hv : (nC (ps.take n))[j]? = some v) : (nC ps)[j]? = some v := by
  have hl := lt_of_get hv
  rw [nC_len, List.length_take] at hl
  unfold nC at *; rw [List.getElem?_map, List.getElem?_take_of_lt (by omega)] at hv; rw [List.getElem?_map]; exact hv
theorem nC_get {ps : List (List Int × Int)} {k : Nat} {q : List Int × Int} (h : ps[k]? = some q) : (nC ps)[k]? = some (.int .i64 q.2) := by unfold nC; rw [List.getElem?_map, h]; rfl
theorem cC_cell {ps : List (List Int × Int)} : ∀ v ∈ cC ps, v.oneCell' = true := by
  intro v hv
  unfold cC at hv
  obtain ⟨q, _, h⟩ := List.mem_flatMap.1 hv
  obtain ⟨n, _, rfl⟩ := List.mem_map.1 h
  rfl
theorem nC_cell {ps : List (List Int × Int)} : ∀ v ∈ nC ps, v.oneCell' = true := by
  intro v hv
  obtain ⟨q, _, rfl⟩ := List.mem_map.1 hv
  rfl

/-- own rows stay where only blocks of D may turn. -/
theorem own_keep {w w' : World} {B e s : Nat} {a : Option Addr} {n l cap : Nat} {xs : List Value} (h : w.ownsRow B e s (.slice a l cap) n xs) (hk : ∀ x, a = some x → x.block < w.heap.size → w'.heap[x.block]? = w.heap[x.block]?) : w'.ownsRow B e s (.slice a l cap) n xs := by
  refine ⟨h.1, ?_⟩
  rcases h.2 with ⟨h1, h2⟩ | ⟨g, cap', cur, h1, hg, hrow, hn, hc, hsz, htk⟩
  · exact .inl ⟨h1, h2⟩
  · injection h1 with e1 e2 e3
    subst e1; subst e2; subst e3
    exact .inr ⟨g, _, cur, rfl, hg, (hk _ rfl (lt_of_block hrow)).trans hrow, hn, hc, hsz, htk⟩
theorem own_addr {w : World} {B e s : Nat} {a : Option Addr} {n l cap : Nat} {xs : List Value} (h : w.ownsRow B e s (.slice a l cap) n xs) : l = n ∧ n ≤ cap ∧ cap ≤ maxLen ∧ ((a = none ∧ n = 0) ∨ ∃ b, a = some ⟨b, 0, none⟩ ∧ B ≤ b ∧ b < w.heap.size ∧ ∀ j v, xs[j]? = some v → w.cell? ⟨b, j, none⟩ = some v) := by
  rcases h.2 with ⟨h1, h2⟩ | ⟨g, cap', cur, h1, hg, hrow, hn, hc, hsz, htk⟩
  · injection h1 with e1 e2 e3
    exact ⟨by omega, by omega, by rw [e3]; unfold maxLen; omega, .inl ⟨e1, h2⟩⟩
  · injection h1 with e1 e2 e3
    subst e3
    refine ⟨e2, hn, hc, .inr ⟨g, e1, hg, lt_of_block hrow, fun j v hv => ?_⟩⟩
    rw [cell_of_row _ _ _ _ _ _ hrow]
    have hj := lt_of_get hv
    rw [← htk, List.getElem?_take] at hv
    split at hv
    · rw [← Array.getElem?_toList]; exact hv
    · cases hv

structure PRows (w : World) (B : Nat) (D : List Nat) (ac : Option Addr) (kc : Nat) (an : Option Addr) (kn : Nat) (ps : List (List Int × Int)) : Prop where
  oc : w.ownsRow B 30 8 (.slice ac ps.length kc) ps.length (cC ps)
  on : w.ownsRow B 3 1 (.slice an ps.length kn) ps.length (nC ps)
  ok : PsOk ps
  d1 : ∀ x, ac = some x → x.block ∉ D
  d2 : ∀ x, an = some x → x.block ∉ D
  d3 : ∀ x y, ac = some x → an = some y → x.block ≠ y.block

section
variable {w w' : World} {B : Nat} {D : List Nat} {ac : Option Addr} {kc : Nat} {an : Option Addr} {kn : Nat} {ps : List (List Int × Int)}
theorem PRows.keep (h : PRows w B D ac kc an kn ps) (hk : ∀ i, i < w.heap.size → i ∉ D → w'.heap[i]? = w.heap[i]?) : PRows w' B D ac kc an kn ps :=
  ⟨own_keep h.oc fun x hx hl => hk _ hl (h.d1 x hx), own_keep h.on fun x hx hl => hk _ hl (h.d2 x hx), h.ok, h.d1, h.d2, h.d3⟩
theorem PRows.below (h : PRows w B D ac kc an kn ps) (hb : Below w.heap.size w w') : PRows w' B D ac kc an kn ps := h.keep fun i hi _ => hb.block i hi
theorem PRows.two {p g : Nat} (h : PRows w B D ac kc an kn ps) (hb : Two w w' p g) (hp : p ∈ D) (hg : g ∈ D) : PRows w' B D ac kc an kn ps :=
  h.keep fun i hi hn => hb.block i hi (fun e => hn (e ▸ hp)) (fun e => hn (e ▸ hg))
theorem PRows.grown {k : Nat} (h : PRows w B D ac kc an kn ps) (hb : w.grownBy w' (some k)) (hd : k ∈ D) : PRows w' B D ac kc an kn ps :=
  h.keep fun i hi hn => hb.block i hi (fun e => hn (by injection e with e; exact e ▸ hd))
theorem PRows.lt1 (h : PRows w B D ac kc an kn ps) : ∀ x, ac = some x → B ≤ x.block ∧ x.block < w.heap.size := by
  intro x hx
  obtain ⟨_, _, _, h1 | ⟨b, h1, h2, h3, _⟩⟩ := own_addr h.oc
  · rw [h1.1] at hx; cases hx
  · rw [h1] at hx; injection hx with hx; subst hx; exact ⟨h2, h3⟩
theorem PRows.lt2 (h : PRows w B D ac kc an kn ps) : ∀ x, an = some x → B ≤ x.block ∧ x.block < w.heap.size := by
  intro x hx
  obtain ⟨_, _, _, h1 | ⟨b, h1, h2, h3, _⟩⟩ := own_addr h.on
  · rw [h1.1] at hx; cases hx
  · rw [h1] at hx; injection hx with hx; subst hx; exact ⟨h2, h3⟩
theorem PRows.more (h : PRows w B D ac kc an kn ps) {k : Nat} (hk : w.heap.size ≤ k) : PRows w B (k :: D) ac kc an kn ps :=
  ⟨h.oc, h.on, h.ok, fun x hx hm => (List.mem_cons.1 hm).elim (fun e => by have := (h.lt1 x hx).2; omega) (h.d1 x hx), fun x hx hm => (List.mem_cons.1 hm).elim (fun e => by have := (h.lt2 x hx).2; omega) (h.d2 x hx), h.d3⟩
theorem PRows.less (h : PRows w B D ac kc an kn ps) {D' : List Nat} (hd : ∀ x ∈ D', x ∈ D) : PRows w B D' ac kc an kn ps :=
  ⟨h.oc, h.on, h.ok, fun x hx hm => h.d1 x hx (hd _ hm), fun x hx hm => h.d2 x hx (hd _ hm), h.d3⟩
theorem PRows.empty (w : World) (B : Nat) (D : List Nat) : PRows w B D none 0 none 0 [] :=
  ⟨World.ownsRow_nil w B _ _, World.ownsRow_nil w B _ _, fun x hx => (by simp at hx), fun x hx => (by cases hx), fun x hx => (by cases hx), fun x y hx => (by cases hx)⟩
theorem PRows.cap (h : PRows w B D ac kc an kn ps) : ps.length ≤ kc ∧ ps.length ≤ kn ∧ kc ≤ 9223372036854775807 ∧ kn ≤ 9223372036854775807 := by
  obtain ⟨_, h1, h2, _⟩ := own_addr h.oc
  obtain ⟨_, h3, h4, _⟩ := own_addr h.on
  unfold maxLen at h2 h4
  omega
theorem PRows.at {k : Nat} {q : List Int × Int} (h : PRows w B D ac kc an kn ps) (hk : ps[k]? = some q) :
    ∃ bc bn, ac = some ⟨bc, 0, none⟩ ∧ an = some ⟨bn, 0, none⟩ ∧ w.rangeAt bc (k * 8) (q.1.map (Value.int .u8)) ∧ w.cell? ⟨bn, k, none⟩ = some (.int .i64 q.2) ∧ B ≤ bc ∧ bc < w.heap.size ∧ B ≤ bn ∧ bn < w.heap.size := by
  have hl := lt_of_get hk
  obtain ⟨_, _, _, h1 | ⟨bc, h1, h2, h3, h4⟩⟩ := own_addr h.oc
  · omega
  obtain ⟨_, _, _, k1 | ⟨bn, k1, k2, k3, k4⟩⟩ := own_addr h.on
  · omega
  exact ⟨bc, bn, h1, k1, fun j v hv => h4 _ _ (cC_get h.ok hk j v hv), k4 _ _ (nC_get hk), h2, h3, k2, k3⟩
theorem PRows.set {k bn : Nat} {q : List Int × Int} (h : PRows w B D ac kc (some ⟨bn, 0, none⟩) kn ps) (hk : ps[k]? = some q) (n : Int) (hn : -9223372036854775808 ≤ n ∧ n ≤ 9223372036854775807) :
    PRows (w.setCell ⟨bn, k, none⟩ (.int .i64 n)) B D ac kc (some ⟨bn, 0, none⟩) kn (ps.set k (q.1, n)) := by
  have hl := lt_of_get hk
  have hq := h.ok q (List.mem_of_getElem? hk)
  have hgr := grown_setCell w bn k (.int .i64 n)
  have e1 : cC (ps.set k (q.1, n)) = cC ps := by
    unfold cC
    rw [List.flatMap_def, List.flatMap_def, List.map_set]
    congr 1
    refine List.ext_getElem? fun i => ?_
    rw [List.getElem?_set]
    split
    · rename_i e
      subst e
      rw [if_pos (by simpa using hl), List.getElem?_map, hk]; rfl
    · rfl
  have e2 : nC (ps.set k (q.1, n)) = (nC ps).set k (.int .i64 n) := by unfold nC; rw [List.map_set]
  refine ⟨?_, ?_, ?_, h.d1, h.d2, h.d3⟩
  · rw [List.length_set, e1]
    refine own_keep h.oc fun x hx hl => hgr.block _ hl fun e => ?_
    injection e with e
    exact h.d3 x _ hx rfl e
  · rw [List.length_set, e2]
    obtain ⟨h1, h2⟩ := h.on
    refine ⟨by rw [List.length_set]; exact h1, ?_⟩
    rcases h2 with ⟨h1, h2⟩ | ⟨g, cap', cur, h1, hg, hrow, hnn, hc, hsz, htk⟩
    · cases h1
    · injection h1 with e1 e2 e3
      injection e1 with e1; injection e1 with e1
      subst e1; subst e3
      refine .inr ⟨_, _, cur.setIfInBounds k (.int .i64 n), rfl, hg, heap_setCell_same _ _ _ _ _ _ hrow, hnn, hc, by rw [Array.size_setIfInBounds]; exact hsz, ?_⟩
      rw [Array.toList_setIfInBounds, ← htk, List.take_set]
  · intro x hx
    rcases List.mem_or_eq_of_mem_set hx with h1 | h1
    · exact h.ok x h1
    · rw [h1]; exact ⟨hq.1, hq.2.1, hn⟩
end

set_option maxRecDepth 100000 in
theorem infoCid : (Try.prog.info? 30).map (fun i => (i.zero, i.size, i.bytes)) = some (some (.agg #[.int .u8 0, .int .u8 0, .int .u8 0, .int .u8 0, .int .u8 0, .int .u8 0, .int .u8 0, .int .u8 0]), 8, 8) := by kernel_rfl
set_option maxRecDepth 100000 in
theorem infoInt : (Try.prog.info? 3).map (fun i => (i.zero, i.size, i.bytes)) = some (some (.int .i64 0), 1, 8) := by kernel_rfl

section
variable {o : Oper} {a : Act} {w : World} {K : Act → World → Prop} {Q : Exit → Act → World → Prop}
/-- append of a run of names. -/
theorem wp_app_cid (s x : Operand) (ho : o.op = .call { callee := .builtin .append, args := #[s, x], argTypes := #[61, 61] })
    (B n : Nat) (v : Value) (ps qs : List (List Int × Int)) (hs : a.eval s = v) (hown : w.ownsRow B 30 8 v n (cC ps)) (ad : Addr) (m c : Nat) (hx : a.eval x = .slice (some ad) m c)
    (hq : PsOk qs) (hm : qs.length = m) (hnews : ∀ j u, (cC qs)[j]? = some u → w.cell? (ad.add j) = some u) (hb : n + m ≤ 100000) (hB : B ≤ w.heap.size)
    (h : ∀ v' w', w'.ownsRow B 30 8 v' (n + m) (cC (ps ++ qs)) → w.grownBy w' v.ownBlock → (v'.ownBlock = v.ownBlock ∨ v'.ownBlock = some w.heap.size) → K (a.put o.dst v') w') : Oper.wp Try.prog o a w K Q := by
  obtain ⟨i0, hi, hz0, hz1, hz2⟩ := info_parts infoCid
  obtain ⟨v', w', hr, h2, h3, h4, h5⟩ := run_append_own_at (P := Try.prog) w B 61 o.type 30 i0 _ 8 8 Try.underlying61 hi hz0 hz1 hz2 rfl (by omega) v n _ hown ad m c (cC qs) (by rw [cC_len hq, hm]) hnews cC_cell (by unfold maxLen; omega) (by omega) hB
  unfold Oper.wp execOp
  simp only [ho, resolve, invoke, builtin, Sem.run_bind, Sem.run_pure, Result.andThen_ok, List.map_toArray, List.map_cons, List.map_nil, hs, hx, hr]
  exact h v' w' (by rw [cC_app]; exact h2) h3 h5
/-- append of a run of numbers. -/
theorem wp_app_num (s x : Operand) (ho : o.op = .call { callee := .builtin .append, args := #[s, x], argTypes := #[38, 38] })
    (B n : Nat) (v : Value) (ps qs : List (List Int × Int)) (hs : a.eval s = v) (hown : w.ownsRow B 3 1 v n (nC ps)) (ad : Addr) (m c : Nat) (hx : a.eval x = .slice (some ad) m c)
    (hm : qs.length = m) (hnews : ∀ j u, (nC qs)[j]? = some u → w.cell? (ad.add j) = some u) (hb : n + m ≤ 100000) (hB : B ≤ w.heap.size)
    (h : ∀ v' w', w'.ownsRow B 3 1 v' (n + m) (nC (ps ++ qs)) → w.grownBy w' v.ownBlock → (v'.ownBlock = v.ownBlock ∨ v'.ownBlock = some w.heap.size) → K (a.put o.dst v') w') : Oper.wp Try.prog o a w K Q := by
  obtain ⟨i0, hi, hz0, hz1, hz2⟩ := info_parts infoInt
  obtain ⟨v', w', hr, h2, h3, h4, h5⟩ := run_append_own_at (P := Try.prog) w B 38 o.type 3 i0 _ 1 8 Try.underlying38 hi hz0 hz1 hz2 rfl (by omega) v n _ hown ad m c (nC qs) (by rw [nC_len, hm, Nat.mul_one]) hnews nC_cell (by unfold maxLen; omega) (by omega) hB
  unfold Oper.wp execOp
  simp only [ho, resolve, invoke, builtin, Sem.run_bind, Sem.run_pure, Result.andThen_ok, List.map_toArray, List.map_cons, List.map_nil, hs, hx, hr]
  exact h v' w' (by rw [nC_app]; exact h2) h3 h5
/-- a slice literal of one name. -/
theorem wp_build_cid (x : Operand) (ho : o.op = .buildSlice 61 1 #[(0, x)]) (C : List Value) (hx : a.eval x = .agg C.toArray) (hl : C.length = 8)
    (h : K (a.put o.dst (.slice (some ⟨w.heap.size, 0, none⟩) 1 1)) (w.alloc (.cells C.toArray 30))) : Oper.wp Try.prog o a w K Q := by
  obtain ⟨i0, hi, hz0, hz1, hz2⟩ := info_parts infoCid
  refine wp_buildSlice 61 30 1 _ ho C.toArray i0 _ Try.underlying61 hi hz0 (by rw [hz1]; decide) (by rw [hz1]; decide) ?_ h
  rw [hz1]
  have hf := Great.fill_whole (s := 8) (by omega) [.agg C.toArray] ((Array.range (1 * 8)).map fun x => (Value.agg #[.int .u8 0, .int .u8 0, .int .u8 0, .int .u8 0, .int .u8 0, .int .u8 0, .int .u8 0, .int .u8 0]).cells[x % (Value.agg #[.int .u8 0, .int .u8 0, .int .u8 0, .int .u8 0, .int .u8 0, .int .u8 0, .int .u8 0, .int .u8 0]).cells.size]!) (by simp [Value.cells, hl]) (by simp)
  simp only [List.map_toArray, List.map_cons, List.map_nil, hx]
  simpa [Value.cells] using hf
end
end Go.Proofs.Ytpngjokjjpdboaa
