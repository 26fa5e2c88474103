/- wheel: rows of timers (two cells each), read and appended; where Off M says what is as it was. -/
import Derived.Test.YtjkedccbieoenaaWhl
import Derived.Maps.AppendAt
import Derived.Deep.AppendSrc
import Derived.Deep.Upon
import Derived.Great.BuildSlice
namespace Go.Proofs.Ytjkedccbieoenaa
open Go.RowKit
set_option linter.unusedVariables false
set_option linter.unusedSimpArgs false

abbrev Tm := Int × Int
def tmV (x : Tm) : List Value := [.int .i64 x.1, .int .i64 x.2]
def rowV : List Tm → List Value
  | [] => []
  | x :: l => .int .i64 x.1 :: .int .i64 x.2 :: rowV l
theorem rowV_len : ∀ l : List Tm, (rowV l).length = 2 * l.length
  | [] => rfl
  | x :: l => by simp only [rowV, List.length_cons, rowV_len l]; omega
theorem rowV_app : ∀ l m : List Tm, rowV (l ++ m) = rowV l ++ rowV m
  | [], _ => rfl
  | x :: l, m => by simp only [List.cons_append, rowV, rowV_app l m]
theorem rowV_one : ∀ l : List Tm, ∀ v ∈ rowV l, v.oneCell' = true
  | [], v, h => by cases h
  | x :: l, v, h => by
    simp only [rowV, List.mem_cons] at h
    rcases h with rfl | rfl | h
    · rfl
    · rfl
    · exact rowV_one l v h
theorem rowV_at : ∀ (l : List Tm) (j : Nat) (x : Tm), l[j]? = some x → (rowV l)[2 * j]? = some (.int .i64 x.1) ∧ (rowV l)[2 * j + 1]? = some (.int .i64 x.2)
  | [], j, x, h => by simp at h
  | y :: l, 0, x, h => by simp at h; subst h; exact ⟨rfl, rfl⟩
  | y :: l, j + 1, x, h => by
    have ih := rowV_at l j x (by simpa using h)
    have e : 2 * (j + 1) = 2 * j + 1 + 1 := by omega
    rw [e]
    exact ⟨by simpa [rowV] using ih.1, by simpa [rowV] using ih.2⟩
theorem rowV_take : ∀ (l : List Tm) (k : Nat), rowV (l.take k) = (rowV l).take (2 * k)
  | [], k => by simp [rowV]
  | x :: l, 0 => by simp [rowV]
  | x :: l, k + 1 => by
    have e : 2 * (k + 1) = 2 * k + 1 + 1 := by omega
    rw [e, List.take_succ_cons, rowV, rowV, List.take_succ_cons, List.take_succ_cons, rowV_take l k]
theorem rowV_drop : ∀ (l : List Tm) (k : Nat), rowV (l.drop k) = (rowV l).drop (2 * k)
  | [], k => by simp [rowV]
  | x :: l, 0 => by simp
  | x :: l, k + 1 => by
    have e : 2 * (k + 1) = 2 * k + 1 + 1 := by omega
    rw [e, List.drop_succ_cons, rowV, List.drop_succ_cons, List.drop_succ_cons, rowV_drop l k]
def tmwf (x : Tm) : Prop := (Lit.int .i64 x.1).wf = true ∧ (Lit.int .i64 x.2).wf = true

/-- what is as it was: all but the blocks M. -/
structure Off (M : List Nat) (w y : World) : Prop where
  os : y.os = w.os
  tape : y.tape = w.tape
  output : y.output = w.output
  size : w.heap.size ≤ y.heap.size
  block : ∀ i, i < w.heap.size → i ∉ M → y.heap[i]? = w.heap[i]?
theorem Off.refl (M : List Nat) (w : World) : Off M w w := ⟨rfl, rfl, rfl, Nat.le_refl _, fun _ _ _ => rfl⟩
theorem Off.of_below {M : List Nat} {w y : World} (h : Below w.heap.size w y) : Off M w y := ⟨h.os, h.tape, h.output, h.size, fun i hi _ => h.block i hi⟩
theorem Off.of_grown {M : List Nat} {w y : World} {r : Option Nat} (h : w.grownBy y r) (hr : ∀ g, r = some g → g ∈ M) : Off M w y :=
  ⟨h.os, h.tape, h.output, h.size, fun i hi hm => h.block i hi (fun e => hm (hr i e.symm))⟩
theorem Off.trans {M N : List Nat} {w y z : World} (h : Off M w y) (k : Off N y z) (hN : ∀ x ∈ N, x ∈ M ∨ w.heap.size ≤ x) : Off M w z :=
  ⟨k.os.trans h.os, k.tape.trans h.tape, k.output.trans h.output, Nat.le_trans h.size k.size, fun i hi hm => (k.block i (Nat.lt_of_lt_of_le hi h.size) (fun hn => by rcases hN i hn with h1 | h1; exact hm h1; omega)).trans (h.block i hi hm)⟩
theorem Off.next {M : List Nat} {w y z : World} (h : Off M w y) (k : Below y.heap.size y z) : Off M w z := h.trans (N := []) (Off.of_below k) (fun x hx => by cases hx)
theorem Off.below {M : List Nat} {B : Nat} {w y : World} (h : Off M w y) (hB : B ≤ w.heap.size) (hM : ∀ x ∈ M, B ≤ x) : Below B w y :=
  ⟨h.os, h.tape, h.output, h.size, fun i hi => h.block i (by omega) (fun hm => by have := hM i hm; omega)⟩
theorem Off.setCell {M : List Nat} {w y : World} (h : Off M w y) {g k : Nat} (hg : g ∈ M) (v : Value) : Off M w (y.setCell ⟨g, k, none⟩ v) := by
  refine ⟨h.os, h.tape, h.output, by have := h.size; simpa using this, fun i hi hm => ?_⟩
  rw [Below.heap_setCell _ _ _ _ (fun e => hm (by rw [e]; exact hg))]
  exact h.block i hi hm
theorem own_off {w y : World} {M : List Nat} {B e n s : Nat} {v : Value} {xs : List Value} (h : w.ownsRow B e s v n xs) (ho : Off M w y) (hm : ∀ g, v.ownBlock = some g → g ∉ M) : y.ownsRow B e s v n xs := by
  refine ⟨h.1, ?_⟩
  rcases h.2 with ⟨rfl, rfl⟩ | ⟨g, cap, cur, rfl, hg, hrow, hn, hc, hsz, htk⟩
  · exact .inl ⟨rfl, rfl⟩
  · exact .inr ⟨g, cap, cur, rfl, hg, (ho.block g (lt_of_block hrow) (hm g rfl)).trans hrow, hn, hc, hsz, htk⟩

/-- a slice reads as these timers. -/
def Tms (w : World) (a : Option Addr) (n : Nat) (l : List Tm) : Prop :=
  n = l.length ∧ (∀ x ∈ l, tmwf x) ∧ (n = 0 ∨ ∃ b off, a = some ⟨b, off, none⟩ ∧ b < w.heap.size ∧ ∀ j u, (rowV l)[j]? = some u → w.cell? ⟨b, off + j, none⟩ = some u)
section
variable {w y : World} {a : Option Addr} {n : Nat} {l : List Tm}
theorem Tms.nil (w : World) (a : Option Addr) : Tms w a 0 [] := ⟨rfl, (fun x hx => by cases hx), .inl rfl⟩
theorem Tms.below (h : Tms w a n l) (hb : Below w.heap.size w y) : Tms y a n l := by
  refine ⟨h.1, h.2.1, ?_⟩
  rcases h.2.2 with h0 | ⟨b, off, rfl, hl, hc⟩
  · exact .inl h0
  · exact .inr ⟨b, off, rfl, Nat.lt_of_lt_of_le hl hb.size, fun j u hu => bl_cell hb (p := ⟨b, off + j, none⟩) hl (hc j u hu)⟩
theorem Tms.off {M : List Nat} (h : Tms w a n l) (ho : Off M w y) (ha : ∀ x, a = some x → x.block ∉ M) : Tms y a n l := by
  refine ⟨h.1, h.2.1, ?_⟩
  rcases h.2.2 with h0 | ⟨b, off, rfl, hl, hc⟩
  · exact .inl h0
  · refine .inr ⟨b, off, rfl, Nat.lt_of_lt_of_le hl ho.size, fun j u hu => ?_⟩
    rw [← hc j u hu]
    simp only [World.cell?, ho.block b hl (ha _ rfl)]
theorem Tms.of_own {B e : Nat} {c : Nat} (h : w.ownsRow B e 2 (.slice a n c) n (rowV l)) (hw : ∀ x ∈ l, tmwf x) : Tms w a n l := by
  have hl := h.1
  rw [rowV_len] at hl
  refine ⟨by omega, hw, ?_⟩
  rcases h.2 with ⟨_, h0⟩ | ⟨g, cap, cur, e1, hg, hrow, hn, hc, hsz, htk⟩
  · exact .inl h0
  · injection e1 with e1 e2 e3
    subst e1
    refine .inr ⟨g, 0, rfl, lt_of_block hrow, fun j u hu => ?_⟩
    rw [Nat.zero_add, cell_of_row w g j cur e (0, 0) hrow]
    rw [← htk, List.getElem?_take] at hu
    split at hu
    · simpa using hu
    · cases hu
theorem Tms.at (h : Tms w a n l) {j : Nat} (hj : j < n) : ∃ b off x, a = some ⟨b, off, none⟩ ∧ b < w.heap.size ∧ l[j]? = some x ∧ tmwf x ∧ w.cell? ⟨b, off + 2 * j, none⟩ = some (.int .i64 x.1) ∧ w.cell? ⟨b, off + (2 * j + 1), none⟩ = some (.int .i64 x.2) := by
  rcases h.2.2 with h0 | ⟨b, off, rfl, hl, hc⟩
  · omega
  · have hx : l[j]? = some (l[j]'(by have := h.1; omega)) := List.getElem?_eq_getElem (by have := h.1; omega)
    have := rowV_at l j _ hx
    exact ⟨b, off, _, rfl, hl, hx, h.2.1 _ (List.getElem_mem _), hc _ _ this.1, hc _ _ this.2⟩
theorem Tms.pre (h : Tms w a n l) (k : Nat) (hk : k ≤ n) : Tms w a k (l.take k) := by
  refine ⟨by rw [List.length_take]; have := h.1; omega, fun x hx => h.2.1 x (List.mem_of_mem_take hx), ?_⟩
  rcases h.2.2 with h0 | ⟨b, off, rfl, hl, hc⟩
  · exact .inl (by omega)
  · refine .inr ⟨b, off, rfl, hl, fun j u hu => hc j u ?_⟩
    rw [rowV_take, List.getElem?_take] at hu
    split at hu
    · exact hu
    · cases hu
theorem Tms.suf {b off : Nat} (h : Tms w (some ⟨b, off, none⟩) n l) (k : Nat) (hk : k ≤ n) : Tms w (some ⟨b, off + 2 * k, none⟩) (n - k) (l.drop k) := by
  refine ⟨by rw [List.length_drop]; have := h.1; omega, fun x hx => h.2.1 x (List.mem_of_mem_drop hx), ?_⟩
  rcases h.2.2 with h0 | ⟨b, off, e, hl, hc⟩
  · exact .inl (by omega)
  · injection e with e; injection e with e1 e2; subst e1; subst e2
    refine .inr ⟨_, _, rfl, hl, fun j u hu => ?_⟩
    rw [rowV_drop, List.getElem?_drop] at hu
    rw [Nat.add_assoc]
    exact hc _ u hu
end
/-- a type of two numbers, and its slices. -/
structure TmTy (E T : TypeId) : Prop where
  u : Try.prog.underlying T = some (.slice E)
  i : (Try.prog.info? E).map (fun i => (i.zero, i.size, i.bytes)) = some (some (.agg #[.int .i64 0, .int .i64 0]), 2, 16)
set_option maxRecDepth 100000 in
theorem tmW : TmTy 53 46 := ⟨Try.underlying46, by kernel_rfl⟩
theorem append_tm {E T : TypeId} (hT : TmTy E T) (w : World) (ty : TypeId) (B n : Nat) (v : Value) (xs : List Tm) (hown : w.ownsRow B E 2 v n (rowV xs)) (a : Option Addr) (m c : Nat) (l : List Tm) (hI : Tms w a m l) (hb : n + m ≤ 1000000) (hB : B ≤ w.heap.size) :
    ∃ v' w', (Builtin.append_ #[T, T] ty #[v, .slice a m c]).run Try.prog w = .ok v' w' ∧ w'.ownsRow B E 2 v' (n + m) (rowV (xs ++ l)) ∧ w.grownBy w' v.ownBlock ∧ (v'.ownBlock = v.ownBlock ∨ v'.ownBlock = some w.heap.size) := by
  obtain ⟨i0, hi, hz0, hz1, hz2⟩ := info_parts hT.i
  rw [rowV_app]
  cases a with
  | none =>
    have hm : m = 0 := by
      rcases hI.2.2 with h | ⟨b, off, h, _⟩
      · exact h
      · cases h
    subst hm
    obtain rfl : l = [] := List.eq_nil_of_length_eq_zero hI.1.symm
    have hsrc : Src Try.prog i0.size T (.slice none 0 c) 0 [] w := Src.ofNil w hT.u c
    obtain ⟨b, l, cp, rfl, hle⟩ : ∃ b l cp, v = .slice b l cp ∧ l ≤ cp := by
      rcases hown.2 with ⟨rfl, rfl⟩ | ⟨g, cap, cur, rfl, hg, hrow, hn, hc, hsz, htk⟩
      · exact ⟨_, _, _, rfl, Nat.le_refl _⟩
      · exact ⟨_, _, _, rfl, hn⟩
    exact ⟨_, w, run_append_nothing w T T ty E i0 hT.u hi b l cp hle _ hsrc, by simpa [rowV] using hown, grown_refl _ _, .inl rfl⟩
  | some ad =>
    have hnews : ∀ j u, (rowV l)[j]? = some u → w.cell? (ad.add j) = some u := by
      rcases hI.2.2 with h0 | ⟨b, off, e, _, hc⟩
      · intro j u hu
        have : l = [] := List.eq_nil_of_length_eq_zero (by have := hI.1; omega)
        subst this
        simp [rowV] at hu
      · injection e with e; subst e
        intro j u hu
        have e2 : ((⟨b, off, none⟩ : Addr).add j) = ⟨b, off + j, none⟩ := by unfold Addr.add; split <;> simp_all
        rw [e2]; exact hc j u hu
    obtain ⟨v', w', h1, h2, h3, _, h4⟩ := run_append_own_at (P := Try.prog) w B T ty E i0 _ 2 16 hT.u hi hz0 hz1 hz2 rfl (by omega) v n (rowV xs) hown ad m c (rowV l) (by rw [rowV_len, hI.1]; omega) hnews (rowV_one l) (by unfold maxLen; omega) (by omega) hB
    exact ⟨v', w', h1, h2, h3, h4⟩
section
variable {E T : TypeId} {ops : Array Oper} {rest : List Oper} {o : Oper} {a : Act} {w : World} {Q : Exit → Act → World → Prop} {K : Act → World → Prop}
theorem wp_append_tm (hT : TmTy E T) (s x : Operand) (ho : o.op = .call { callee := .builtin .append, args := #[s, x], argTypes := #[T, T] })
    (B n : Nat) (v : Value) (xs : List Tm) (hs : a.eval s = v) (hown : w.ownsRow B E 2 v n (rowV xs)) (xa : Option Addr) (m c : Nat) (l : List Tm) (hx : a.eval x = .slice xa m c) (hI : Tms w xa m l) (hb : n + m ≤ 1000000) (hB : B ≤ w.heap.size)
    (h : ∀ v' w', w'.ownsRow B E 2 v' (n + m) (rowV (xs ++ l)) → w.grownBy w' v.ownBlock → (v'.ownBlock = v.ownBlock ∨ v'.ownBlock = some w.heap.size) → K (a.put o.dst v') w') : Oper.wp Try.prog o a w K Q := by
  obtain ⟨v', w', hr, h2, h3, h4⟩ := append_tm hT w o.type B n v xs hown xa m c l hI hb hB
  unfold Oper.wp execOp
  simp only [ho, resolve, invoke, builtin, Sem.run_bind, Sem.run_pure, Result.andThen_ok, List.map_toArray, List.map_cons, List.map_nil, hs, hx, hr]
  exact h v' w' h2 h3 h4
theorem wpList_append_tm (hT : TmTy E T) (hgd : o.guard = none) (s x : Operand) (ho : o.op = .call { callee := .builtin .append, args := #[s, x], argTypes := #[T, T] })
    (B n : Nat) (v : Value) (xs : List Tm) (hs : a.eval s = v) (hown : w.ownsRow B E 2 v n (rowV xs)) (xa : Option Addr) (m c : Nat) (l : List Tm) (hx : a.eval x = .slice xa m c) (hI : Tms w xa m l) (hb : n + m ≤ 1000000) (hB : B ≤ w.heap.size)
    (h : ∀ v' w', w'.ownsRow B E 2 v' (n + m) (rowV (xs ++ l)) → w.grownBy w' v.ownBlock → (v'.ownBlock = v.ownBlock ∨ v'.ownBlock = some w.heap.size) → wpList Try.prog ops Q rest (a.put o.dst v') w') : wpList Try.prog ops Q (o :: rest) a w :=
  wpList_plain hgd fun K hK => wp_append_tm hT s x ho B n v xs hs hown xa m c l hx hI hb hB fun v' w' h1 h2 h3 => hK _ _ (h v' w' h1 h2 h3)
/-- a slice literal of one timer. -/
theorem wp_build_tm (hT : TmTy E T) (x : Operand) (ho : o.op = .buildSlice T 1 #[(0, x)]) (t : Tm) (hx : a.eval x = .agg (tmV t).toArray)
    (h : K (a.put o.dst (.slice (some ⟨w.heap.size, 0, none⟩) 1 1)) (w.alloc (.cells (tmV t).toArray E))) : Oper.wp Try.prog o a w K Q := by
  obtain ⟨i0, hi, hz0, hz1, hz2⟩ := info_parts hT.i
  refine wp_buildSlice T E 1 _ ho (tmV t).toArray i0 _ hT.u hi hz0 (by rw [hz1]; decide) (by rw [hz1]; decide) ?_ h
  rw [hz1]
  have hf := Great.fill_whole (s := 2) (by omega) [.agg (tmV t).toArray] ((Array.range (1 * 2)).map fun x => (Value.agg #[.int .i64 0, .int .i64 0]).cells[x % (Value.agg #[.int .i64 0, .int .i64 0]).cells.size]!) (by simp [Value.cells, tmV]) (by simp)
  simp only [List.map_toArray, List.map_cons, List.map_nil, hx]
  simpa [Value.cells] using hf
end
theorem tms_made (w : World) (t : Tm) (ht : tmwf t) (E : TypeId) : Tms (w.alloc (.cells (tmV t).toArray E)) (some ⟨w.heap.size, 0, none⟩) 1 [t] := by
  refine ⟨rfl, fun x hx => by rw [List.mem_singleton.1 hx]; exact ht, .inr ⟨_, 0, rfl, by simp, fun j u hu => ?_⟩⟩
  rw [Nat.zero_add]
  exact cell_row (cs := tmV t) (heap_alloc_new w _) j u hu
end Go.Proofs.Ytjkedccbieoenaa
