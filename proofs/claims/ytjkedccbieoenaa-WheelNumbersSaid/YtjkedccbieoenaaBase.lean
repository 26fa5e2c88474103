/- general words: blocks, worlds, slices, quiet calls. They speak of no function. -/
import Derived.Test.YtjkedccbieoenaaRows
import Derived.WalkKit
import Derived.ProofKit
import Derived.OpenShut
import Derived.Deep.QuietTactic
import Derived.BigQuiet
import Derived.Lib.Hide
import Derived.WalkSpells
import Derived.Laws.BytesArg
namespace Go.Proofs.Ytjkedccbieoenaa
open Go.RowKit
set_option linter.unusedVariables false

theorem grown_refl (w : World) (r : Option Nat) : w.grownBy w r := ⟨rfl, rfl, rfl, Nat.le_refl _, fun _ _ _ => rfl⟩
theorem grown_trans {a b c : World} {r : Option Nat} (h : a.grownBy b r) (k : b.grownBy c r) : a.grownBy c r :=
  ⟨k.os.trans h.os, k.tape.trans h.tape, k.output.trans h.output, Nat.le_trans h.size k.size,
   fun i hi hr => (k.block i (Nat.lt_of_lt_of_le hi h.size) hr).trans (h.block i hi hr)⟩
theorem grown_of_none {a b : World} {r : Option Nat} (h : a.grownBy b none) : a.grownBy b r :=
  ⟨h.os, h.tape, h.output, h.size, fun i hi _ => h.block i hi (by simp)⟩
theorem grown_drewN (w : World) (n : Nat) (r : Option Nat) : w.grownBy (w.drewN n) r := ⟨rfl, rfl, rfl, Nat.le_refl _, fun _ _ _ => rfl⟩
theorem grown_drew (w : World) (r : Option Nat) : w.grownBy w.drew r := ⟨rfl, rfl, rfl, Nat.le_refl _, fun _ _ _ => rfl⟩
theorem grown_setCell (w : World) (b i : Nat) (u : Value) : w.grownBy (w.setCell ⟨b, i, none⟩ u) (some b) :=
  ⟨rfl, rfl, rfl, by simp, fun k hk hr => Below.heap_setCell _ _ _ _ (fun e => hr (by simp [e]))⟩
theorem grown_below {w w' : World} (h : Below w.heap.size w w') (r : Option Nat) : w.grownBy w' r := ⟨h.os, h.tape, h.output, h.size, fun i hi _ => h.block i hi⟩
theorem grown_alloc (w : World) (o : Obj) (r : Option Nat) : w.grownBy (w.alloc o) r := grown_below ((Below.refl _ _).alloc (Nat.le_refl _) _) r
theorem below_of_none {w w' : World} (h : w.grownBy w' none) : Below w.heap.size w w' := ⟨h.os, h.tape, h.output, h.size, fun k hk => h.block k hk (by simp)⟩
theorem bl_drewN {B : Nat} {a w : World} (h : Below B a w) (n : Nat) : Below B a (w.drewN n) := ⟨h.os, h.tape, h.output, h.size, h.block⟩
theorem bl_row {B : Nat} {a w : World} (h : Below B a w) {b : Nat} {o : Obj} (hb : b < B) (e : a.heap[b]? = some o) : w.heap[b]? = some o := (h.block b hb).trans e
theorem bl_cell {B : Nat} {a w : World} (h : Below B a w) {p : Addr} {v : Value} (hb : p.block < B) (e : a.cell? p = some v) : w.cell? p = some v := (h.cell hb).trans e
theorem bl_next {B : Nat} {a w w' : World} (h : Below B a w) (hB : B ≤ w.heap.size) (k : Below w.heap.size w w') : Below B a w' := h.trans (k.mono hB)
theorem grown_row {a w : World} {r : Option Nat} (h : a.grownBy w r) {b : Nat} {o : Obj} (hr : some b ≠ r) (e : a.heap[b]? = some o) : w.heap[b]? = some o :=
  (h.block b (lt_of_block e) hr).trans e

/-- block b of w is a row of cells, and of what was there in w0 nothing but block b has turned. -/
structure At (w : World) (b : Nat) (cs : Array Value) (t : TypeId) (w0 : World) : Prop where
  row : w.heap[b]? = some (.cells cs t (0, 0))
  rest : w0.grownBy w (some b)
theorem At.base {w : World} {b : Nat} {cs : Array Value} {t : TypeId} (h : w.heap[b]? = some (.cells cs t (0, 0))) : At w b cs t w := ⟨h, grown_refl _ _⟩
theorem At.set {w w0 : World} {b : Nat} {cs : Array Value} {t : TypeId} (h : At w b cs t w0) (i : Nat) (u : Value) : At (w.setCell ⟨b, i, none⟩ u) b (cs.setIfInBounds i u) t w0 :=
  ⟨heap_setCell_same _ _ _ _ _ _ h.row, grown_trans h.rest (grown_setCell _ _ _ _)⟩
theorem At.drewN {w w0 : World} {b : Nat} {cs : Array Value} {t : TypeId} (h : At w b cs t w0) (n : Nat) : At (w.drewN n) b cs t w0 :=
  ⟨h.row, grown_trans h.rest (grown_drewN _ _ _)⟩
theorem At.alloc {w w0 : World} {b : Nat} {cs : Array Value} {t : TypeId} (h : At w b cs t w0) (o : Obj) : At (w.alloc o) b cs t w0 :=
  ⟨grown_row (grown_alloc w o none) (by simp) h.row, grown_trans h.rest (grown_alloc _ _ _)⟩
theorem At.conv {w w0 : World} {b : Nat} {cs cs' : Array Value} {t : TypeId} (h : At w b cs t w0) (e : cs = cs') : At w b cs' t w0 := e ▸ h
theorem At.cell {w w0 : World} {b : Nat} {cs : Array Value} {t : TypeId} (h : At w b cs t w0) (i : Nat) (v : Value) (hv : cs[i]? = some v) : w.cell? ⟨b, i, none⟩ = some v := by
  rw [cell_of_row _ _ _ _ _ _ h.row]; exact hv
theorem row_cell {w : World} {b : Nat} {cs : Array Value} {t : TypeId} (h : w.heap[b]? = some (.cells cs t (0, 0))) (i : Nat) (v : Value) (hv : cs[i]? = some v) : w.cell? ⟨b, i, none⟩ = some v := by
  rw [cell_of_row _ _ _ _ _ _ h]; exact hv
theorem row_free {w : World} {b : Nat} {cs : Array Value} {t : TypeId} (h : w.heap[b]? = some (.cells cs t (0, 0))) (i : Nat) : w.frozen? ⟨b, i, none⟩ = false := frozen_of_row _ _ _ _ _ h
/-- what a draw does not turn -/
theorem row_drewN {w : World} {b : Nat} {o : Obj} (n : Nat) (h : w.heap[b]? = some o) : (w.drewN n).heap[b]? = some o := h

/-- w' is w with one block more. -/
structure Fresh (w w' : World) (o : Obj) : Prop where
  row : w'.heap[w.heap.size]? = some o
  size : w'.heap.size = w.heap.size + 1
  below : Below w.heap.size w w'
theorem Fresh.of_alloc (w : World) (o : Obj) : Fresh w (w.alloc o) o := ⟨heap_alloc_new _ _, by simp, (Below.refl _ _).alloc (Nat.le_refl _) _⟩

theorem ret_int {k : IntKind} {a b : Int} (h : a = b) : Ending.returned (.int k a) = .returned (.int k b) := by rw [h]

/-- A call that only reads: it hands back v, and draws. -/
def Quiet (P : Program) (f : FuncId) (args : Array Value) (w : World) (v : Value) : Prop :=
  Calls P f args w fun e w' => e = .returned v ∧ ∃ n, w' = w.drewN n
theorem Quiet.same {P : Program} {f : FuncId} {args : Array Value} {w : World} {v : Value} (h : Calls P f args w fun e w' => e = .returned v ∧ w' = w) : Quiet P f args w v :=
  h.mono fun _ _ ⟨he, hw⟩ => ⟨he, 0, hw⟩
theorem Quiet.same' {P : Program} {f : FuncId} {args : Array Value} {w : World} {v : Value} (h : Calls P f args w fun e w' => e = .returned v ∧ w = w') : Quiet P f args w v :=
  h.mono fun _ _ ⟨he, hw⟩ => ⟨he, 0, hw.symm⟩
theorem Quiet.in1 {P : Program} {f : FuncId} {args : Array Value} {w : World} {n : Nat} {v : Value} (h : Quiet P f args (w.drewN n) v) :
    Calls P f args (w.drewN n) fun e w'' => e = .returned v ∧ ∃ m, w'' = w.drewN m :=
  Calls.mono h fun _ _ ⟨he, m, hm⟩ => ⟨he, n + m, by rw [hm, World.drewN_drewN]⟩
theorem Quiet.in2 {P : Program} {f : FuncId} {args : Array Value} {w : World} {a n : Nat} {v : Value} (h : Quiet P f args (w.drewN (a + n)) v) :
    Calls P f args (w.drewN (a + n)) fun e w'' => e = .returned v ∧ ∃ m, w'' = w.drewN (a + m) :=
  Calls.mono h fun _ _ ⟨he, m, hm⟩ => ⟨he, n + m, by rw [hm, World.drewN_drewN, Nat.add_assoc]⟩

/-- A call that makes memory of its own at most: it hands back v, and nothing that was there has turned. -/
def Makes (P : Program) (f : FuncId) (args : Array Value) (w : World) (v : Value) : Prop :=
  Calls P f args w fun e w' => e = .returned v ∧ Below w.heap.size w w'
theorem Quiet.makes {P : Program} {f : FuncId} {args : Array Value} {w : World} {v : Value} (h : Quiet P f args w v) : Makes P f args w v :=
  Calls.mono h fun _ _ ⟨he, n, hw⟩ => ⟨he, by subst hw; exact bl_drewN (Below.refl _ _) n⟩

/-- A slice of len integers of kind k, zs, that came in, or was made: it lies below the heap's end. -/
def IntsK (k : IntKind) (w : World) (a : Option Addr) (len : Nat) (zs : List Int) : Prop :=
  zs.length = len ∧ (∀ n ∈ zs, (Lit.int k n).wf = true) ∧
    (len = 0 ∨ ∃ b off, a = some ⟨b, off, none⟩ ∧ b < w.heap.size ∧ ∀ i, i < len → w.cell? ⟨b, off + i, none⟩ = some (.int k (zs.getD i 0)))
theorem IntsK.nil (k : IntKind) (w : World) (a : Option Addr) : IntsK k w a 0 [] := ⟨rfl, by simp, .inl rfl⟩
theorem IntsK.of_cells {k : IntKind} {w : World} {x : Addr} {len cap : Nat} {zs : List Int} (hl : len ≤ cap) (hz : zs.length = cap)
    (hc : ∀ i, i < zs.length → w.cell? (x.add i) = some (.int k (zs.getD i 0))) (hw : ∀ n ∈ zs, (Lit.int k n).wf = true) : IntsK k w (some x) len (zs.take len) := by
  refine ⟨by simp; omega, fun n hn => hw n (List.mem_of_mem_take hn), ?_⟩
  by_cases h0 : len = 0
  · exact .inl h0
  · obtain ⟨b, off, spot⟩ := x
    have hc0 := hc 0 (by omega)
    have hspot : spot = none := by simpa [Addr.add] using World.cell?_spot hc0
    subst hspot
    refine .inr ⟨b, off, rfl, ?_, fun i hi => ?_⟩
    · have := block_lt_of_cell hc0
      simpa [Addr.add] using this
    · have h := hc i (by omega)
      have e : (⟨b, off, none⟩ : Addr).add i = ⟨b, off + i, none⟩ := by
        by_cases hi0 : i = 0
        · subst hi0; rfl
        · simp [Addr.add, hi0]
      rw [e] at h
      rw [h]
      simp [List.getD_eq_getElem?_getD, hi]
theorem IntsK.below {k : IntKind} {w w' : World} {a : Option Addr} {len : Nat} {zs : List Int} (h : IntsK k w a len zs) (hb : Below w.heap.size w w') : IntsK k w' a len zs := by
  refine ⟨h.1, h.2.1, ?_⟩
  rcases h.2.2 with h0 | ⟨b, off, rfl, hbl, hc⟩
  · exact .inl h0
  · exact .inr ⟨b, off, rfl, Nat.lt_of_lt_of_le hbl hb.size, fun i hi => bl_cell hb (p := ⟨b, off + i, none⟩) hbl (hc i hi)⟩
theorem IntsK.grown {k : IntKind} {w w' : World} {a : Option Addr} {len : Nat} {zs : List Int} {r : Option Nat} (h : IntsK k w a len zs) (hb : w.grownBy w' r) (hr : ∀ x, a = some x → some x.block ≠ r) : IntsK k w' a len zs := by
  refine ⟨h.1, h.2.1, ?_⟩
  rcases h.2.2 with h0 | ⟨b, off, rfl, hbl, hc⟩
  · exact .inl h0
  · exact .inr ⟨b, off, rfl, Nat.lt_of_lt_of_le hbl hb.size, fun i hi => hb.cell (hc i hi) (by have := hr ⟨b, off, none⟩ rfl; exact this)⟩
theorem IntsK.drewN {k : IntKind} {w : World} {a : Option Addr} {len : Nat} {zs : List Int} (h : IntsK k w a len zs) (n : Nat) : IntsK k (w.drewN n) a len zs := h
/-- the cell at j, in a later world. -/
theorem IntsK.at {k : IntKind} {w w' : World} {a : Option Addr} {len : Nat} {zs : List Int} (h : IntsK k w a len zs) (hb : Below w.heap.size w w') {j : Nat} (hj : j < len) :
    ∃ b off x, a = some ⟨b, off, none⟩ ∧ b < w.heap.size ∧ x = zs.getD j 0 ∧ (Lit.int k x).wf = true ∧ w'.cell? ⟨b, off + j, none⟩ = some (.int k x) := by
  rcases h.2.2 with h0 | ⟨b, off, rfl, hbl, hc⟩
  · omega
  · refine ⟨b, off, _, rfl, hbl, rfl, h.2.1 _ ?_, bl_cell hb (p := ⟨b, off + j, none⟩) hbl (hc j hj)⟩
    have hj' : j < zs.length := by rw [h.1]; exact hj
    rw [List.getD_eq_getElem?_getD, List.getElem?_eq_getElem hj']
    exact List.getElem_mem hj'

theorem add_none (b off j : Nat) : (⟨b, off, none⟩ : Addr).add j = ⟨b, off + j, none⟩ := by
  by_cases hi0 : j = 0
  · subst hi0; rfl
  · simp [Addr.add, hi0]
theorem lt_of_get {α : Type} {l : List α} {j : Nat} {v : α} (h : l[j]? = some v) : j < l.length := by
  rcases Nat.lt_or_ge j l.length with h3 | h3
  · exact h3
  · rw [List.getElem?_eq_none h3] at h; cases h
/-- as a source of copy, append: its cells, one by one. -/
theorem IntsK.src {k : IntKind} {w : World} {a : Option Addr} {len : Nat} {zs : List Int} (h : IntsK k w a len zs) (h0 : 0 < len) :
    ∃ ad, a = some ad ∧ ad.block < w.heap.size ∧ ∀ j v, (zs.map (Value.int k))[j]? = some v → w.cell? (ad.add j) = some v := by
  rcases h.2.2 with h1 | ⟨b, off, rfl, hbl, hc⟩
  · omega
  · refine ⟨_, rfl, hbl, fun j v hj => ?_⟩
    have hj1 : j < zs.length := by simpa using lt_of_get hj
    have e1 := hc j (by rw [← h.1]; exact hj1)
    rw [List.getElem?_map, List.getElem?_eq_getElem hj1] at hj
    rw [List.getD_eq_getElem?_getD, List.getElem?_eq_getElem hj1] at e1
    injection hj with hj; subst hj
    rw [add_none]; exact e1
theorem ints_one {k : IntKind} {zs : List Int} : ∀ v ∈ zs.map (Value.int k), v.oneCell' = true := by
  intro v hv; simp at hv; obtain ⟨x, _, rfl⟩ := hv; rfl
theorem set_zero {α : Type} (A : List α) (n : Nat) (z v : α) : (A ++ List.replicate (n + 1) z).set A.length v = (A ++ [v]) ++ List.replicate n z := by
  rw [List.set_append_right _ _ (Nat.le_refl _), Nat.sub_self, List.replicate_succ]; simp

/-- string(b): the text of the bytes. -/
theorem conv_ints {P : Program} {w : World} {a : Option Addr} {len : Nat} {bs : List Int} (src e dst cap : Nat) (hs : P.underlying src = some (.slice e)) (he : P.underlying e = some (.int .u8)) (hd : P.underlying dst = some .string)
    (h : IntsK .u8 w a len bs) : (convert src dst (.slice a len cap)).run P w = .ok (.string (strOfNums bs)) w := by
  rcases h.2.2 with h0 | ⟨b, off, rfl, hbl, hc⟩
  · have hb : bs = [] := List.eq_nil_of_length_eq_zero (h.1.trans h0)
    subst hb; subst h0
    cases a with
    | none => exact run_convert_bytes_nil w src e hs he 0 cap dst hd
    | some ad =>
      have hl : (loadCells ad 0).run P w = .ok (([] : List Int).map (Value.int .u8)).toArray w := by
        have := run_loadCells_list (P := P) w ad [] (fun j v hj => by simp at hj)
        simpa using this
      rw [run_convert_bytes_string w src dst e _ 0 cap hs he hd, run_bytesToString w ad 0 cap [] hl]; rfl
  · exact run_convert_bytes_arg w src e hs he b off len cap bs h.1 hc dst hd
/-- a row of bytes from its beginning. -/
theorem IntsK.of_row {k : IntKind} {w : World} {b : Nat} {zs : List Int} {t : TypeId} (h : w.heap[b]? = some (.cells (zs.map (Value.int k)).toArray t (0, 0))) (hw : ∀ n ∈ zs, (Lit.int k n).wf = true) :
    IntsK k w (some ⟨b, 0, none⟩) zs.length zs := by
  refine ⟨rfl, hw, .inr ⟨b, 0, rfl, lt_of_block h, fun i hi => ?_⟩⟩
  rw [cell_of_row _ _ _ _ _ _ h]
  simp [hi, List.getD_eq_getElem?_getD]

theorem IntsK.pre {k : IntKind} {w : World} {a : Option Addr} {len : Nat} {zs : List Int} (h : IntsK k w a len zs) (n : Nat) (hn : n ≤ len) : IntsK k w a n (zs.take n) := by
  refine ⟨by rw [List.length_take, h.1]; omega, fun x hx => h.2.1 x (List.mem_of_mem_take hx), ?_⟩
  rcases h.2.2 with h0 | ⟨b, off, rfl, hbl, hc⟩
  · exact .inl (by omega)
  · refine .inr ⟨b, off, rfl, hbl, fun i hi => ?_⟩
    rw [hc i (by omega)]
    simp [List.getD_eq_getElem?_getD, hi]
theorem IntsK.suf {k : IntKind} {w : World} {b off : Nat} {len : Nat} {zs : List Int} (h : IntsK k w (some ⟨b, off, none⟩) len zs) (n : Nat) (hn : n ≤ len) : IntsK k w (some ⟨b, off + n, none⟩) (len - n) (zs.drop n) := by
  refine ⟨by rw [List.length_drop, h.1], fun x hx => h.2.1 x (List.mem_of_mem_drop hx), ?_⟩
  rcases h.2.2 with h0 | ⟨b', off', e, hbl, hc⟩
  · exact .inl (by omega)
  · injection e with e; injection e with e1 e2; subst e1; subst e2
    refine .inr ⟨b, off + n, rfl, hbl, fun i hi => ?_⟩
    rw [Nat.add_assoc, hc (n + i) (by omega)]
    simp [List.getD_eq_getElem?_getD]
theorem set_row {w : World} {b : Nat} {k : IntKind} {zs : List Int} {t : TypeId} (h : w.heap[b]? = some (.cells (zs.map (Value.int k)).toArray t (0, 0))) (i : Nat) (x : Int) :
    (w.setCell ⟨b, i, none⟩ (.int k x)).heap[b]? = some (.cells ((zs.set i x).map (Value.int k)).toArray t (0, 0)) := by
  rw [heap_setCell_same _ _ _ _ _ _ h, List.setIfInBounds_toArray, List.map_set]

theorem own_base {w : World} {base e size n : Nat} {v : Value} {xs : List Value} (h : w.ownsRow base e size v n xs) : ∀ k, v.ownBlock = some k → base ≤ k := by
  intro k hk
  rcases h.2 with ⟨rfl, rfl⟩ | ⟨g, cap, cur, rfl, hg, _⟩
  · simp [Value.ownBlock] at hk
  · simp [Value.ownBlock] at hk; omega

/-- a row of integers that the call owns is a slice of them. -/
theorem ints_of_own {k : IntKind} {w : World} {base e : Nat} {v : Value} {n : Nat} {ys : List Int} (h : w.ownsRow base e 1 v n (ys.map (Value.int k))) (hy : ∀ n ∈ ys, (Lit.int k n).wf = true) :
    ∃ a cap, v = .slice a n cap ∧ n ≤ cap ∧ IntsK k w a n ys ∧ (∀ x, a = some x → base ≤ x.block) := by
  have hl : ys.length = n := by have := h.1; simpa using this
  rcases h.2 with ⟨rfl, rfl⟩ | ⟨g, cap, cur, rfl, hg, hh, hn, hc, hcs, ht⟩
  · exact ⟨none, 0, rfl, Nat.le_refl _, ⟨hl, hy, .inl rfl⟩, by simp⟩
  · refine ⟨_, cap, rfl, hn, ⟨hl, hy, .inr ⟨g, 0, rfl, lt_of_block hh, fun i hi => ?_⟩⟩, by rintro x ⟨⟩; exact hg⟩
    rw [cell_of_row _ _ _ _ _ _ hh]
    have e : (ys.map (Value.int k))[i]? = some (.int k (ys.getD i 0)) := by
      rw [List.getElem?_map, List.getElem?_eq_getElem (by omega), List.getD_eq_getElem?_getD, List.getElem?_eq_getElem (by omega)]; rfl
    rw [← ht, List.getElem?_take, if_pos (by omega)] at e
    simpa using e
end Go.Proofs.Ytjkedccbieoenaa
