/- texts of the proof, laid together: Base, Own, Region, Rowst, Rk, Off, Book, MixM, Kc, Fr, Arr, Mix. -/
import Derived.Test.YtjdcmhclamjcjaaRows
import Derived.WalkKit
import Derived.ProofKit
import Derived.OpenShut
import Derived.Deep.QuietTactic
import Derived.BigQuiet
import Derived.Lib.Hide
import Derived.WalkSpells
import Derived.Laws.BytesArg
import Derived.OrdersHeld
import Derived.Deep.Quiet
import Derived.Deep.MidRow
import Derived.Maps.AppendAt
import Derived.Deep.AppendSrc
import Derived.Deep.Upon
import Derived.Great.BuildSlice
import Derived.Deep.DeepCutAuto
import Derived.Deep.CutBlock
import Derived.Laws.CopyOwn
import Derived.Laws.BitsAllLaws
import Derived.Stop.BytesEq
namespace Go.Proofs.Ytjdcmhclamjcjaa
open Go.RowKit
set_option linter.unusedVariables false

theorem grown_refl (w : World) (r : Option Nat) : w.grownBy w r := ⟨rfl, rfl, rfl, Nat.le_refl _, fun _ _ _ => rfl⟩
theorem grown_trans {a b c : World} {r : Option Nat} (h : a.grownBy b r) (k : b.grownBy c r) : a.grownBy c r :=
  ⟨k.os.trans h.os, k.tape.trans h.tape, k.output.trans h.output, Nat.le_trans h.size k.size,
   fun i hi hr => (k.block i (Nat.lt_of_lt_of_le hi h.size) hr).trans (h.block i hi hr)⟩
theorem grown_of_none {a b : World} {r : Option Nat} (h : a.grownBy b none) : a.grownBy b r :=
  ⟨h.os, h.tape, h.output, h.size, fun i hi _ => h.block i hi (by simp)⟩
theorem grown_drewN (w : World) (n : Nat) (r : Option Nat) : w.grownBy (w.drewN n) r := ⟨rfl, rfl, rfl, Nat.le_refl _, fun _ _ _ => rfl⟩
theorem grown_drew (w : World) (r : Option Nat) : w.grownBy w.drew r := ⟨rfl, rfl, rfl, Nat.le_refl _, fun _ _ _ => rfl⟩
theorem grown_setCell (w : World) (b i : Nat) (u : Value) : w.grownBy (w.setCell ⟨b, i, none⟩ u) (some b) :=
  ⟨rfl, rfl, rfl, by simp, fun k hk hr => Below.heap_setCell _ _ _ _ (fun e => hr (by simp [e]))⟩
theorem grown_below {w w' : World} (h : Below w.heap.size w w') (r : Option Nat) : w.grownBy w' r := ⟨h.os, h.tape, h.output, h.size, fun i hi _ => h.block i hi⟩
theorem grown_alloc (w : World) (o : Obj) (r : Option Nat) : w.grownBy (w.alloc o) r := grown_below ((Below.refl _ _).alloc (Nat.le_refl _) _) r
theorem below_of_none {w w' : World} (h : w.grownBy w' none) : Below w.heap.size w w' := ⟨h.os, h.tape, h.output, h.size, fun k hk => h.block k hk (by simp)⟩
theorem bl_drewN {B : Nat} {a w : World} (h : Below B a w) (n : Nat) : Below B a (w.drewN n) := ⟨h.os, h.tape, h.output, h.size, h.block⟩
theorem bl_row {B : Nat} {a w : World} (h : Below B a w) {b : Nat} {o : Obj} (hb : b < B) (e : a.heap[b]? = some o) : w.heap[b]? = some o := (h.block b hb).trans e
theorem bl_cell {B : Nat} {a w : World} (h : Below B a w) {p : Addr} {v : Value} (hb : p.block < B) (e : a.cell? p = some v) : w.cell? p = some v := (h.cell hb).trans e
theorem bl_next {B : Nat} {a w w' : World} (h : Below B a w) (hB : B ≤ w.heap.size) (k : Below w.heap.size w w') : Below B a w' := h.trans (k.mono hB)
theorem grown_row {a w : World} {r : Option Nat} (h : a.grownBy w r) {b : Nat} {o : Obj} (hr : some b ≠ r) (e : a.heap[b]? = some o) : w.heap[b]? = some o :=
  (h.block b (lt_of_block e) hr).trans e

/-- block b of w is a row of cells, and of what was there in w0 nothing but block b has turned. -/
structure At (w : World) (b : Nat) (cs : Array Value) (t : TypeId) (w0 : World) : Prop where
  row : w.heap[b]? = some (.cells cs t (0, 0))
  rest : w0.grownBy w (some b)
theorem At.base {w : World} {b : Nat} {cs : Array Value} {t : TypeId} (h : w.heap[b]? = some (.cells cs t (0, 0))) : At w b cs t w := ⟨h, grown_refl _ _⟩
theorem At.set {w w0 : World} {b : Nat} {cs : Array Value} {t : TypeId} (h : At w b cs t w0) (i : Nat) (u : Value) : At (w.setCell ⟨b, i, none⟩ u) b (cs.setIfInBounds i u) t w0 :=
  ⟨heap_setCell_same _ _ _ _ _ _ h.row, grown_trans h.rest (grown_setCell _ _ _ _)⟩
theorem At.drewN {w w0 : World} {b : Nat} {cs : Array Value} {t : TypeId} (h : At w b cs t w0) (n : Nat) : At (w.drewN n) b cs t w0 :=
  ⟨h.row, grown_trans h.rest (grown_drewN _ _ _)⟩
theorem At.alloc {w w0 : World} {b : Nat} {cs : Array Value} {t : TypeId} (h : At w b cs t w0) (o : Obj) : At (w.alloc o) b cs t w0 :=
  ⟨grown_row (grown_alloc w o none) (by simp) h.row, grown_trans h.rest (grown_alloc _ _ _)⟩
theorem At.conv {w w0 : World} {b : Nat} {cs cs' : Array Value} {t : TypeId} (h : At w b cs t w0) (e : cs = cs') : At w b cs' t w0 := e ▸ h
theorem At.cell {w w0 : World} {b : Nat} {cs : Array Value} {t : TypeId} (h : At w b cs t w0) (i : Nat) (v : Value) (hv : cs[i]? = some v) : w.cell? ⟨b, i, none⟩ = some v := by
  rw [cell_of_row _ _ _ _ _ _ h.row]; exact hv
theorem row_cell {w : World} {b : Nat} {cs : Array Value} {t : TypeId} (h : w.heap[b]? = some (.cells cs t (0, 0))) (i : Nat) (v : Value) (hv : cs[i]? = some v) : w.cell? ⟨b, i, none⟩ = some v := by
  rw [cell_of_row _ _ _ _ _ _ h]; exact hv
theorem row_free {w : World} {b : Nat} {cs : Array Value} {t : TypeId} (h : w.heap[b]? = some (.cells cs t (0, 0))) (i : Nat) : w.frozen? ⟨b, i, none⟩ = false := frozen_of_row _ _ _ _ _ h
/-- what a draw does not turn -/
theorem row_drewN {w : World} {b : Nat} {o : Obj} (n : Nat) (h : w.heap[b]? = some o) : (w.drewN n).heap[b]? = some o := h

/-- w' is w with one block more. -/
structure Fresh (w w' : World) (o : Obj) : Prop where
  row : w'.heap[w.heap.size]? = some o
  size : w'.heap.size = w.heap.size + 1
  below : Below w.heap.size w w'
theorem Fresh.of_alloc (w : World) (o : Obj) : Fresh w (w.alloc o) o := ⟨heap_alloc_new _ _, by simp, (Below.refl _ _).alloc (Nat.le_refl _) _⟩

theorem ret_int {k : IntKind} {a b : Int} (h : a = b) : Ending.returned (.int k a) = .returned (.int k b) := by rw [h]

/-- A call that only reads: it hands back v, and draws. -/
def Quiet (P : Program) (f : FuncId) (args : Array Value) (w : World) (v : Value) : Prop :=
  Calls P f args w fun e w' => e = .returned v ∧ ∃ n, w' = w.drewN n
theorem Quiet.same {P : Program} {f : FuncId} {args : Array Value} {w : World} {v : Value} (h : Calls P f args w fun e w' => e = .returned v ∧ w' = w) : Quiet P f args w v :=
  h.mono fun _ _ ⟨he, hw⟩ => ⟨he, 0, hw⟩
theorem Quiet.same' {P : Program} {f : FuncId} {args : Array Value} {w : World} {v : Value} (h : Calls P f args w fun e w' => e = .returned v ∧ w = w') : Quiet P f args w v :=
  h.mono fun _ _ ⟨he, hw⟩ => ⟨he, 0, hw.symm⟩
theorem Quiet.in1 {P : Program} {f : FuncId} {args : Array Value} {w : World} {n : Nat} {v : Value} (h : Quiet P f args (w.drewN n) v) :
    Calls P f args (w.drewN n) fun e w'' => e = .returned v ∧ ∃ m, w'' = w.drewN m :=
  Calls.mono h fun _ _ ⟨he, m, hm⟩ => ⟨he, n + m, by rw [hm, World.drewN_drewN]⟩
theorem Quiet.in2 {P : Program} {f : FuncId} {args : Array Value} {w : World} {a n : Nat} {v : Value} (h : Quiet P f args (w.drewN (a + n)) v) :
    Calls P f args (w.drewN (a + n)) fun e w'' => e = .returned v ∧ ∃ m, w'' = w.drewN (a + m) :=
  Calls.mono h fun _ _ ⟨he, m, hm⟩ => ⟨he, n + m, by rw [hm, World.drewN_drewN, Nat.add_assoc]⟩

/-- A call that makes memory of its own at most: it hands back v, and nothing that was there has turned. -/
def Makes (P : Program) (f : FuncId) (args : Array Value) (w : World) (v : Value) : Prop :=
  Calls P f args w fun e w' => e = .returned v ∧ Below w.heap.size w w'
theorem Quiet.makes {P : Program} {f : FuncId} {args : Array Value} {w : World} {v : Value} (h : Quiet P f args w v) : Makes P f args w v :=
  Calls.mono h fun _ _ ⟨he, n, hw⟩ => ⟨he, by subst hw; exact bl_drewN (Below.refl _ _) n⟩

/-- A slice of len integers of kind k, zs, that came in, or was made: it lies below the heap's end. -/
def IntsK (k : IntKind) (w : World) (a : Option Addr) (len : Nat) (zs : List Int) : Prop :=
  zs.length = len ∧ (∀ n ∈ zs, (Lit.int k n).wf = true) ∧
    (len = 0 ∨ ∃ b off, a = some ⟨b, off, none⟩ ∧ b < w.heap.size ∧ ∀ i, i < len → w.cell? ⟨b, off + i, none⟩ = some (.int k (zs.getD i 0)))
theorem IntsK.nil (k : IntKind) (w : World) (a : Option Addr) : IntsK k w a 0 [] := ⟨rfl, by simp, .inl rfl⟩
theorem IntsK.of_cells {k : IntKind} {w : World} {x : Addr} {len cap : Nat} {zs : List Int} (hl : len ≤ cap) (hz : zs.length = cap)
    (hc : ∀ i, i < zs.length → w.cell? (x.add i) = some (.int k (zs.getD i 0))) (hw : ∀ n ∈ zs, (Lit.int k n).wf = true) : IntsK k w (some x) len (zs.take len) := by
  refine ⟨by simp; omega, fun n hn => hw n (List.mem_of_mem_take hn), ?_⟩
  by_cases h0 : len = 0
  · exact .inl h0
  · obtain ⟨b, off, spot⟩ := x
    have hc0 := hc 0 (by omega)
    have hspot : spot = none := by simpa [Addr.add] using World.cell?_spot hc0
    subst hspot
    refine .inr ⟨b, off, rfl, ?_, fun i hi => ?_⟩
    · have := block_lt_of_cell hc0
      simpa [Addr.add] using this
    · have h := hc i (by omega)
      have e : (⟨b, off, none⟩ : Addr).add i = ⟨b, off + i, none⟩ := by
        by_cases hi0 : i = 0
        · subst hi0; rfl
        · simp [Addr.add, hi0]
      rw [e] at h
      rw [h]
      simp [List.getD_eq_getElem?_getD, hi]
theorem IntsK.below {k : IntKind} {w w' : World} {a : Option Addr} {len : Nat} {zs : List Int} (h : IntsK k w a len zs) (hb : Below w.heap.size w w') : IntsK k w' a len zs := by
  refine ⟨h.1, h.2.1, ?_⟩
  rcases h.2.2 with h0 | ⟨b, off, rfl, hbl, hc⟩
  · exact .inl h0
  · exact .inr ⟨b, off, rfl, Nat.lt_of_lt_of_le hbl hb.size, fun i hi => bl_cell hb (p := ⟨b, off + i, none⟩) hbl (hc i hi)⟩
theorem IntsK.grown {k : IntKind} {w w' : World} {a : Option Addr} {len : Nat} {zs : List Int} {r : Option Nat} (h : IntsK k w a len zs) (hb : w.grownBy w' r) (hr : ∀ x, a = some x → some x.block ≠ r) : IntsK k w' a len zs := by
  refine ⟨h.1, h.2.1, ?_⟩
  rcases h.2.2 with h0 | ⟨b, off, rfl, hbl, hc⟩
  · exact .inl h0
  · exact .inr ⟨b, off, rfl, Nat.lt_of_lt_of_le hbl hb.size, fun i hi => hb.cell (hc i hi) (by have := hr ⟨b, off, none⟩ rfl; exact this)⟩
theorem IntsK.drewN {k : IntKind} {w : World} {a : Option Addr} {len : Nat} {zs : List Int} (h : IntsK k w a len zs) (n : Nat) : IntsK k (w.drewN n) a len zs := h
/-- the cell at j, in a later world. -/
theorem IntsK.at {k : IntKind} {w w' : World} {a : Option Addr} {len : Nat} {zs : List Int} (h : IntsK k w a len zs) (hb : Below w.heap.size w w') {j : Nat} (hj : j < len) :
    ∃ b off x, a = some ⟨b, off, none⟩ ∧ b < w.heap.size ∧ x = zs.getD j 0 ∧ (Lit.int k x).wf = true ∧ w'.cell? ⟨b, off + j, none⟩ = some (.int k x) := by
  rcases h.2.2 with h0 | ⟨b, off, rfl, hbl, hc⟩
  · omega
  · refine ⟨b, off, _, rfl, hbl, rfl, h.2.1 _ ?_, bl_cell hb (p := ⟨b, off + j, none⟩) hbl (hc j hj)⟩
    have hj' : j < zs.length := by rw [h.1]; exact hj
    rw [List.getD_eq_getElem?_getD, List.getElem?_eq_getElem hj']
    exact List.getElem_mem hj'

theorem add_none (b off j : Nat) : (⟨b, off, none⟩ : Addr).add j = ⟨b, off + j, none⟩ := by
  by_cases hi0 : j = 0
  · subst hi0; rfl
  · simp [Addr.add, hi0]
theorem lt_of_get {α : Type} {l : List α} {j : Nat} {v : α} (h : l[j]? = some v) : j < l.length := by
  rcases Nat.lt_or_ge j l.length with h3 | h3
  · exact h3
  · rw [List.getElem?_eq_none h3] at h; cases h
/-- as a source of copy, append: its cells, one by one. -/
theorem IntsK.src {k : IntKind} {w : World} {a : Option Addr} {len : Nat} {zs : List Int} (h : IntsK k w a len zs) (h0 : 0 < len) :
    ∃ ad, a = some ad ∧ ad.block < w.heap.size ∧ ∀ j v, (zs.map (Value.int k))[j]? = some v → w.cell? (ad.add j) = some v := by
  rcases h.2.2 with h1 | ⟨b, off, rfl, hbl, hc⟩
  · omega
  · refine ⟨_, rfl, hbl, fun j v hj => ?_⟩
    have hj1 : j < zs.length := by simpa using lt_of_get hj
    have e1 := hc j (by rw [← h.1]; exact hj1)
    rw [List.getElem?_map, List.getElem?_eq_getElem hj1] at hj
    rw [List.getD_eq_getElem?_getD, List.getElem?_eq_getElem hj1] at e1
    injection hj with hj; subst hj
    rw [add_none]; exact e1
theorem ints_one {k : IntKind} {zs : List Int} : ∀ v ∈ zs.map (Value.int k), v.oneCell' = true := by
  intro v hv; simp at hv; obtain ⟨x, _, rfl⟩ := hv; rfl
theorem set_zero {α : Type} (A : List α) (n : Nat) (z v : α) : (A ++ List.replicate (n + 1) z).set A.length v = (A ++ [v]) ++ List.replicate n z := by
  rw [List.set_append_right _ _ (Nat.le_refl _), Nat.sub_self, List.replicate_succ]; simp

/-- string(b): the text of the bytes. -/
theorem conv_ints {P : Program} {w : World} {a : Option Addr} {len : Nat} {bs : List Int} (src e dst cap : Nat) (hs : P.underlying src = some (.slice e)) (he : P.underlying e = some (.int .u8)) (hd : P.underlying dst = some .string)
    (h : IntsK .u8 w a len bs) : (convert src dst (.slice a len cap)).run P w = .ok (.string (strOfNums bs)) w := by
  rcases h.2.2 with h0 | ⟨b, off, rfl, hbl, hc⟩
  · have hb : bs = [] := List.eq_nil_of_length_eq_zero (h.1.trans h0)
    subst hb; subst h0
    cases a with
    | none => exact run_convert_bytes_nil w src e hs he 0 cap dst hd
    | some ad =>
      have hl : (loadCells ad 0).run P w = .ok (([] : List Int).map (Value.int .u8)).toArray w := by
        have := run_loadCells_list (P := P) w ad [] (fun j v hj => by simp at hj)
        simpa using this
      rw [run_convert_bytes_string w src dst e _ 0 cap hs he hd, run_bytesToString w ad 0 cap [] hl]; rfl
  · exact run_convert_bytes_arg w src e hs he b off len cap bs h.1 hc dst hd
/-- a row of bytes from its beginning. -/
theorem IntsK.of_row {k : IntKind} {w : World} {b : Nat} {zs : List Int} {t : TypeId} (h : w.heap[b]? = some (.cells (zs.map (Value.int k)).toArray t (0, 0))) (hw : ∀ n ∈ zs, (Lit.int k n).wf = true) :
    IntsK k w (some ⟨b, 0, none⟩) zs.length zs := by
  refine ⟨rfl, hw, .inr ⟨b, 0, rfl, lt_of_block h, fun i hi => ?_⟩⟩
  rw [cell_of_row _ _ _ _ _ _ h]
  simp [hi, List.getD_eq_getElem?_getD]

theorem IntsK.pre {k : IntKind} {w : World} {a : Option Addr} {len : Nat} {zs : List Int} (h : IntsK k w a len zs) (n : Nat) (hn : n ≤ len) : IntsK k w a n (zs.take n) := by
  refine ⟨by rw [List.length_take, h.1]; omega, fun x hx => h.2.1 x (List.mem_of_mem_take hx), ?_⟩
  rcases h.2.2 with h0 | ⟨b, off, rfl, hbl, hc⟩
  · exact .inl (by omega)
  · refine .inr ⟨b, off, rfl, hbl, fun i hi => ?_⟩
    rw [hc i (by omega)]
    simp [List.getD_eq_getElem?_getD, hi]
theorem IntsK.suf {k : IntKind} {w : World} {b off : Nat} {len : Nat} {zs : List Int} (h : IntsK k w (some ⟨b, off, none⟩) len zs) (n : Nat) (hn : n ≤ len) : IntsK k w (some ⟨b, off + n, none⟩) (len - n) (zs.drop n) := by
  refine ⟨by rw [List.length_drop, h.1], fun x hx => h.2.1 x (List.mem_of_mem_drop hx), ?_⟩
  rcases h.2.2 with h0 | ⟨b', off', e, hbl, hc⟩
  · exact .inl (by omega)
  · injection e with e; injection e with e1 e2; subst e1; subst e2
    refine .inr ⟨b, off + n, rfl, hbl, fun i hi => ?_⟩
    rw [Nat.add_assoc, hc (n + i) (by omega)]
    simp [List.getD_eq_getElem?_getD]
theorem set_row {w : World} {b : Nat} {k : IntKind} {zs : List Int} {t : TypeId} (h : w.heap[b]? = some (.cells (zs.map (Value.int k)).toArray t (0, 0))) (i : Nat) (x : Int) :
    (w.setCell ⟨b, i, none⟩ (.int k x)).heap[b]? = some (.cells ((zs.set i x).map (Value.int k)).toArray t (0, 0)) := by
  rw [heap_setCell_same _ _ _ _ _ _ h, List.setIfInBounds_toArray, List.map_set]

theorem own_base {w : World} {base e size n : Nat} {v : Value} {xs : List Value} (h : w.ownsRow base e size v n xs) : ∀ k, v.ownBlock = some k → base ≤ k := by
  intro k hk
  rcases h.2 with ⟨rfl, rfl⟩ | ⟨g, cap, cur, rfl, hg, _⟩
  · simp [Value.ownBlock] at hk
  · simp [Value.ownBlock] at hk; omega

/-- a row of integers that the call owns is a slice of them. -/
theorem ints_of_own {k : IntKind} {w : World} {base e : Nat} {v : Value} {n : Nat} {ys : List Int} (h : w.ownsRow base e 1 v n (ys.map (Value.int k))) (hy : ∀ n ∈ ys, (Lit.int k n).wf = true) :
    ∃ a cap, v = .slice a n cap ∧ n ≤ cap ∧ IntsK k w a n ys ∧ (∀ x, a = some x → base ≤ x.block) := by
  have hl : ys.length = n := by have := h.1; simpa using this
  rcases h.2 with ⟨rfl, rfl⟩ | ⟨g, cap, cur, rfl, hg, hh, hn, hc, hcs, ht⟩
  · exact ⟨none, 0, rfl, Nat.le_refl _, ⟨hl, hy, .inl rfl⟩, by simp⟩
  · refine ⟨_, cap, rfl, hn, ⟨hl, hy, .inr ⟨g, 0, rfl, lt_of_block hh, fun i hi => ?_⟩⟩, by rintro x ⟨⟩; exact hg⟩
    rw [cell_of_row _ _ _ _ _ _ hh]
    have e : (ys.map (Value.int k))[i]? = some (.int k (ys.getD i 0)) := by
      rw [List.getElem?_map, List.getElem?_eq_getElem (by omega), List.getD_eq_getElem?_getD, List.getElem?_eq_getElem (by omega)]; rfl
    rw [← ht, List.getElem?_take, if_pos (by omega)] at e
    simpa using e
end Go.Proofs.Ytjdcmhclamjcjaa
namespace Go.Proofs.Ytjdcmhclamjcjaa
open Go.RowKit
set_option linter.unusedVariables false

theorem own_below {w w' : World} {base e size n : Nat} {v : Value} {xs : List Value} (h : w.ownsRow base e size v n xs) (hb : Below w.heap.size w w') : w'.ownsRow base e size v n xs := by
  refine ⟨h.1, ?_⟩
  rcases h.2 with ⟨rfl, rfl⟩ | ⟨g, cap, cur, rfl, hg, hrow, hn, hc, hsz, htk⟩
  · exact .inl ⟨rfl, rfl⟩
  · exact .inr ⟨g, cap, cur, rfl, hg, bl_row hb (lt_of_block hrow) hrow, hn, hc, hsz, htk⟩
theorem bdI64 {n : Int} (h : (Lit.int .i64 n).wf = true) : -9223372036854775808 ≤ n ∧ n ≤ 9223372036854775807 := by
  simp [Lit.wf, IntKind.min, IntKind.max, IntKind.signed, IntKind.bits] at h; omega
theorem bdU64 {n : Int} (h : (Lit.int .u64 n).wf = true) : 0 ≤ n ∧ n < 18446744073709551616 := by
  simp [Lit.wf, IntKind.min, IntKind.max, IntKind.signed, IntKind.bits] at h; omega
end Go.Proofs.Ytjdcmhclamjcjaa
namespace Go.Proofs.Ytjdcmhclamjcjaa
open Go.RowKit
set_option linter.unusedVariables false

section
variable {P : Program} {ops : Array Oper} {Q : Exit → Act → World → Prop} {md : Region.Mode}

def wpAnyG (P : Program) (md : Region.Mode) (ops : Array Oper) (Q : Exit → Act → World → Prop) : Nat → Array Bool → (World → Prop) → Act → World → Prop
  | 0, listed, _, a, w => Region.ready md ops listed = [] ∧ Q .normal a w
  | fuel + 1, listed, S, a, w =>
    (Region.ready md ops listed = [] → Q .normal a w) ∧
    ∀ i ∈ Region.ready md ops listed, wpOp P ops Q i (fun a' w' => ∃ S' : World → Prop, (∀ x, S' x → S x) ∧ S' w' ∧ wpAnyG P md ops Q fuel (listed.setIfInBounds i true) S' a' w') a w

theorem wpAny_of_G : ∀ (fuel : Nat) (listed : Array Bool) (S : World → Prop) (a : Act) (w : World), wpAnyG P md ops Q fuel listed S a w → wpAny P md ops Q fuel listed a w
  | 0, _, _, _, _, h => h
  | fuel + 1, _, _, _, _, h => ⟨h.1, fun i hi => wpOp_mono (fun a' w' ⟨S', _, _, h'⟩ => wpAny_of_G fuel _ S' a' w' h') (h.2 i hi)⟩

theorem YieldsIf.less {S S' : World → Prop} {o : Oper} {v : Value} {a : Act} (h : YieldsIf P ops S o v a) (hs : ∀ x, S' x → S x) : YieldsIf P ops S' o v a :=
  h.imp (fun ⟨h1, h2⟩ => ⟨h1, fun w hw => h2 w (hs w hw)⟩) id

theorem wpAnyG_first {i : Nat} {oi : Oper} {v : Value} (hi : ops[i]? = some oi) (hsel : ∀ (j : Nat) (o : Oper) cs b, ops[j]? = some o → o.op ≠ .select cs b)
    (hQ : ∀ c a w, Q (.panic c) (a.put oi.dst v) w → Q (.panic c) a w) :
    ∀ (fuel : Nat) (listed : Array Bool) (S : World → Prop) (a : Act) (w : World),
      (∀ j oj, ops[j]? = some oj → j ≠ i → listed.getD j true = false → (∀ e ∈ oj.after, Region.binds md e = true → e.on ≠ i) → oi.apart ops oj = true) →
      i ∈ Region.ready md ops listed → YieldsIf P ops S oi v a → S w →
      wpAnyG P md ops Q fuel (listed.setIfInBounds i true) S (a.put oi.dst v) w → wpAnyG P md ops Q (fuel + 1) listed S a w := by
  intro fuel
  induction fuel with
  | zero =>
    intro listed S a w _ hr hy hS H
    refine ⟨fun h => (by rw [h] at hr; cases hr), fun j hj => ?_⟩
    by_cases hji : j = i
    · subst hji; exact hy.wpOp hi hS ⟨S, fun _ h => h, hS, H⟩
    · have := ready_mono hj hji
      rw [H.1] at this
      cases this
  | succ fuel ih =>
    intro listed S a w hfree hr hy hS H
    refine ⟨fun h => (by rw [h] at hr; cases hr), fun j hj => ?_⟩
    by_cases hji : j = i
    · subst hji; exact hy.wpOp hi hS ⟨S, fun _ h => h, hS, H⟩
    · have h1 := H.2 j (ready_mono hj hji)
      obtain ⟨hjun, oj, hoj, hall⟩ := mem_ready.1 hj
      have hnot : ∀ e ∈ oj.after, Region.binds md e = true → e.on ≠ i := fun e he hb heq => by
        have h1 := hall e he hb
        have h0 := (mem_ready.1 hr).1
        rw [heq] at h1
        rcases Nat.lt_or_ge i listed.size with h' | h'
        · simp [h'] at h0 h1; rw [h0] at h1; cases h1
        · simp [Array.getElem?_eq_none h'] at h1
      have h2 := wpOp_putIf hoj (hfree j oj hoj hji hjun hnot) (fun cs b => hsel i oi cs b hi) (fun cs b => hsel j oj cs b hoj) hQ hy h1
      have hfree' : ∀ k ok, ops[k]? = some ok → k ≠ i → (listed.setIfInBounds j true).getD k true = false →
          (∀ e ∈ ok.after, Region.binds md e = true → e.on ≠ i) → oi.apart ops ok = true := fun k ok hk hki hun hno => by
        refine hfree k ok hk hki ?_ hno
        by_cases hjk : j = k
        · subst hjk; exact hjun
        · rw [getD_set_ne true hjk] at hun; exact hun
      refine wpOp_mono (fun a' w' h3 => ?_) h2
      obtain ⟨h4, S', hsub, hS', h5⟩ := h3
      refine ⟨S', hsub, hS', ih (listed.setIfInBounds j true) S' a' w' hfree' (ready_mono hr (Ne.symm hji)) (YieldsIf.less h4 hsub) hS' ?_⟩
      rw [Array.setIfInBounds_comm _ _ hji]
      exact h5
end

/-- An operation that yields a value, or dies: no call of a Go function, no store. -/
def isVal (o : Oper) : Bool :=
  match o.op with
  | .move _ | .assign _ | .pick .. | .load .. | .binOp .. | .unOp .. | .convert .. | .fieldAddr .. | .field .. | .indexAddr .. | .index .. | .extract .. | .slice .. | .build .. | .nilCheck _ | .lookup .. => true
  | .call { callee := .builtin .len, .. } | .call { callee := .builtin .cap, .. } | .call { callee := .builtin .min, .. } | .call { callee := .builtin .max, .. } => true
  | _ => false

theorem val_bind {P : Program} {w w' : World} {s : Sem Value} {n : Next} (h : Sem.run P (do pure (Next.value (← s))) w = .ok n w') : ∃ u, n = .value u := by
  rw [Sem.run_bind] at h
  cases hs : Sem.run P s w with
  | ok v w2 => rw [hs] at h; simp only [Result.andThen, Sem.run_pure] at h; injection h with h1 h2; exact ⟨v, h1.symm⟩
  | halt x w2 => rw [hs] at h; simp only [Result.andThen] at h; cases h

theorem val_then {P : Program} {w w' : World} {α : Type} {s : Sem α} {f : α → Sem Next} {n : Next} (hf : ∀ a w n w', Sem.run P (f a) w = .ok n w' → ∃ u, n = .value u) (h : Sem.run P (s >>= f) w = .ok n w') : ∃ u, n = .value u := by
  rw [Sem.run_bind] at h
  cases hs : Sem.run P s w with
  | ok v w2 => rw [hs] at h; exact hf _ _ _ _ h
  | halt x w2 => rw [hs] at h; simp only [Result.andThen] at h; cases h

theorem isVal_spec {P : Program} {o : Oper} {ρ : Operand → Value} {w w' : World} {n : Next} (hv : isVal o = true) (h : (execOp ρ o).run P w = .ok n w') : ∃ u, n = .value u := by
  obtain ⟨dst, op, type, pos, after, guard⟩ := o
  cases op
  case move x => simp only [execOp, Sem.run_pure] at h; injection h with h1 h2; exact ⟨_, h1.symm⟩
  case assign x => simp only [execOp, Sem.run_pure] at h; injection h with h1 h2; exact ⟨_, h1.symm⟩
  case pick c a b =>
    simp only [execOp, Sem.run_bind] at h
    cases hs : Sem.run P (asBool (ρ c)) w with
    | ok v w2 => rw [hs] at h; simp only [Result.andThen, Sem.run_pure] at h; injection h with h1 h2; exact ⟨_, h1.symm⟩
    | halt x w2 => rw [hs] at h; simp only [Result.andThen] at h; cases h
  case nilCheck x =>
    simp only [execOp] at h
    split at h
    all_goals first
      | (simp only [Sem.run_pure] at h; injection h with h1 h2; exact ⟨_, h1.symm⟩)
      | (simp [runtimePanic] at h; done)
      | skip
    split at h
    · simp [runtimePanic] at h
    · refine val_then ?_ h
      intro p w1 n1 w1' h1
      refine val_then ?_ h1
      intro r w2 n2 w2' h2
      split at h2
      · refine val_then ?_ h2
        intro r w2 n2 w2' h3
        simp only [Sem.run_pure] at h3; injection h3 with h4 h5; exact ⟨_, h4.symm⟩
      · simp only [Sem.run_pure] at h2; injection h2 with h4 h5; exact ⟨_, h4.symm⟩
    · simp only [Sem.run_pure] at h; injection h with h1 h2; exact ⟨_, h1.symm⟩
  case call c =>
    obtain ⟨callee, args, argTypes⟩ := c
    cases callee
    case builtin b =>
      cases b
      all_goals first
        | (simp [isVal] at hv; done)
        | exact val_bind h
    all_goals (simp [isVal] at hv; done)
  all_goals first | (simp [isVal] at hv; done) | exact val_bind h

/-- a world of the class S. -/
structure In (S : World → Prop) where
  w : World
  h : S w

inductive Plan where
  | done
  | t (k : Nat) (p : Plan)
  | u (k : Nat) (p : Plan)
  | b (k : Nat) (p : Plan) (j : Nat) (q : Plan)

def Plan.ok (md : Region.Mode) (ops : Array Oper) : Plan → Nat → Array Bool → Bool
  | .done, _, l => (Region.ready md ops l).isEmpty
  | .t _ _, 0, _ => false
  | .t k p, n + 1, l => (Region.ready md ops l).contains k && Region.free md ops l k && ((ops[k]?).map isVal).getD false && p.ok md ops n (l.setIfInBounds k true)
  | .u _ _, 0, _ => false
  | .u k p, n + 1, l => Region.ready md ops l == [k] && p.ok md ops n (l.setIfInBounds k true)
  | .b _ _ _ _, 0, _ => false
  | .b k p j q, n + 1, l => Region.ready md ops l == [k, j] && p.ok md ops n (l.setIfInBounds k true) && q.ok md ops n (l.setIfInBounds j true)

section
variable {P : Program} {ops : Array Oper} {Q : Exit → Act → World → Prop} {md : Region.Mode}

def Plan.wp (P : Program) (ops : Array Oper) (Q : Exit → Act → World → Prop) : Plan → (World → Prop) → Act → World → Prop
  | .done, _, a, w => Q .normal a w
  | .t k p, S, a, w => ∃ o, ops[k]? = some o ∧ wpQuiet P ops (fun w' => ∃ s : In S, w' = s.w) (fun a' => p.wp P ops Q S a' w) [o] a
  | .u k p, S, a, w => wpOp P ops Q k (fun a' w' => ∃ S' : World → Prop, (∀ x, S' x → S x) ∧ S' w' ∧ p.wp P ops Q S' a' w') a w
  | .b k p j q, S, a, w =>
    wpOp P ops Q k (fun a' w' => ∃ S' : World → Prop, (∀ x, S' x → S x) ∧ S' w' ∧ p.wp P ops Q S' a' w') a w ∧
    wpOp P ops Q j (fun a' w' => ∃ S' : World → Prop, (∀ x, S' x → S x) ∧ S' w' ∧ q.wp P ops Q S' a' w') a w

theorem yieldsIf_of_quiet {S : World → Prop} {o : Oper} {a : Act} {K : Act → Prop} (hv : isVal o = true) {w : World} (hw : S w) (h : wpQuiet P ops (fun w' => ∃ s : In S, w' = s.w) K [o] a) :
    ∃ v, YieldsIf P ops S o v a ∧ K (a.put o.dst v) := by
  unfold wpQuiet at h
  split at h
  · rename_i hwant
    obtain ⟨v, h1, h2⟩ := h
    refine ⟨v, .inl ⟨hwant, fun x hx => ?_⟩, h2⟩
    have h3 := h1 x ⟨⟨x, hx⟩, rfl⟩
    unfold Oper.quietAt at h3
    cases hr : (execOp a.eval o).run P x with
    | halt y z => rw [hr] at h3; simp [Oper.quietUpon] at h3
    | ok n z =>
      obtain ⟨u, rfl⟩ := isVal_spec hv hr
      rw [hr] at h3
      simp only [Oper.quietUpon] at h3
      rw [h3.1, h3.2]
  · rename_i hwant
    exact ⟨undef, .inr ⟨by simpa using hwant, rfl⟩, h⟩

theorem wpAnyG_of_plan (hs : Region.noSelect ops = true) (hQ : ∀ c a d v w, Q (.panic c) (a.put d v) w → Q (.panic c) a w) :
    ∀ (p : Plan) (n : Nat) (l : Array Bool) (S : World → Prop) (a : Act) (w : World), p.ok md ops n l = true → S w → p.wp P ops Q S a w → wpAnyG P md ops Q n l S a w := by
  intro p
  induction p with
  | done =>
    intro n l S a w hok hS h
    have hr : Region.ready md ops l = [] := by simpa [Plan.ok] using hok
    cases n with
    | zero => exact ⟨hr, h⟩
    | succ n => exact ⟨fun _ => h, by rw [hr]; simp⟩
  | t k p ih =>
    intro n l S a w hok hS h
    cases n with
    | zero => simp [Plan.ok] at hok
    | succ n =>
      simp only [Plan.ok, Bool.and_eq_true] at hok
      obtain ⟨⟨⟨h1, h2⟩, h3⟩, h4⟩ := hok
      obtain ⟨o, ho, hq⟩ := h
      rw [ho] at h3
      obtain ⟨v, hy, hk⟩ := yieldsIf_of_quiet (by simpa using h3) hS hq
      exact wpAnyG_first ho (Region.noSelect_spec hs) (fun c a w => hQ c a _ _ w) n l S a w (Region.free_spec ho h2) (by simpa using h1) hy hS (ih n _ S _ w h4 hS hk)
  | u k p ih =>
    intro n l S a w hok hS h
    cases n with
    | zero => simp [Plan.ok] at hok
    | succ n =>
      simp only [Plan.ok, Bool.and_eq_true] at hok
      obtain ⟨h1, h4⟩ := hok
      have hr : Region.ready md ops l = [k] := by simpa using h1
      refine ⟨fun h0 => (by rw [hr] at h0; cases h0), fun i hi => ?_⟩
      rw [hr] at hi
      obtain rfl : i = k := by simpa using hi
      exact wpOp_mono (fun a' w' ⟨S', h5, h6, h7⟩ => ⟨S', h5, h6, ih n _ S' a' w' h4 h6 h7⟩) h
  | b k p j q ihp ihq =>
    intro n l S a w hok hS h
    cases n with
    | zero => simp [Plan.ok] at hok
    | succ n =>
      simp only [Plan.ok, Bool.and_eq_true] at hok
      obtain ⟨⟨h1, h4⟩, h4'⟩ := hok
      have hr : Region.ready md ops l = [k, j] := by simpa using h1
      refine ⟨fun h0 => (by rw [hr] at h0; cases h0), fun i hi => ?_⟩
      rw [hr] at hi
      rcases (by simpa using hi : i = k ∨ i = j) with rfl | rfl
      · exact wpOp_mono (fun a' w' ⟨S', h5, h6, h7⟩ => ⟨S', h5, h6, ihp n _ S' a' w' h4 h6 h7⟩) h.1
      · exact wpOp_mono (fun a' w' ⟨S', h5, h6, h7⟩ => ⟨S', h5, h6, ihq n _ S' a' w' h4' h6 h7⟩) h.2

/-- A REGION THAT DRAWS, BY A PLAN. -/
theorem wp_plan {id : Nat} {l : List Oper} {a : Act} {w : World} (p : Plan) (S : World → Prop) (hm : P.follows .mixedOrders = true) (hs : Region.noSelect l.toArray = true)
    (hok : p.ok .any l.toArray l.length (Array.replicate l.length false) = true) (hQ : ∀ c a d v w, Q (.panic c) (a.put d v) w → Q (.panic c) a w) (hS : S w.drew)
    (h : p.wp P l.toArray Q S a w.drew) : (Code.region id l.toArray true).wp P Q a w :=
  wp_region_any hm (wpAny_of_G _ _ S _ _ (by simpa using wpAnyG_of_plan hs hQ p l.length (Array.replicate l.length false) S a w.drew hok hS h))

theorem plan_t {l : List Oper} {k : Nat} {p : Plan} {S : World → Prop} {a : Act} {w : World} {o : Oper} (ho : l[k]? = some o)
    (h : wpQuiet P l.toArray (fun w' => ∃ s : In S, w' = s.w) (fun a' => p.wp P l.toArray Q S a' w) [o] a) : (Plan.t k p).wp P l.toArray Q S a w := ⟨o, by simpa using ho, h⟩
theorem plan_u {l : List Oper} {k : Nat} {p : Plan} {S : World → Prop} {a : Act} {w : World} {o : Oper} (ho : l[k]? = some o)
    (h : ∀ K' : Act → World → Prop, (∀ a' w' S', (∀ x, S' x → S x) → S' w' → p.wp P l.toArray Q S' a' w' → K' a' w') →
      if Region.wanted o (yielded l.toArray a.tmps) = true then Oper.wp P o a w K' Q else K' (a.put o.dst undef) w) : (Plan.u k p).wp P l.toArray Q S a w :=
  wpOp_step (by simpa using ho) fun K' hK => h K' fun a' w' S' h1 h2 h3 => hK a' w' ⟨S', h1, h2, h3⟩
/-- the class stays as it is. -/
theorem plan_us {l : List Oper} {k : Nat} {p : Plan} {S : World → Prop} {a : Act} {w : World} {o : Oper} (ho : l[k]? = some o) (hw : Region.wanted o (yielded l.toArray a.tmps) = true)
    (h : ∀ K' : Act → World → Prop, (∀ a' w', S w' ∧ p.wp P l.toArray Q S a' w' → K' a' w') → Oper.wp P o a w K' Q) : (Plan.u k p).wp P l.toArray Q S a w :=
  wpOp_step (by simpa using ho) fun K' hK => by rw [if_pos hw]; exact h K' fun a' w' ⟨h2, h3⟩ => hK a' w' ⟨S, fun _ h => h, h2, h3⟩
/-- the class grows narrower. -/
theorem plan_un {l : List Oper} {k : Nat} {p : Plan} {S : World → Prop} {a : Act} {w : World} {o : Oper} (ho : l[k]? = some o) (hw : Region.wanted o (yielded l.toArray a.tmps) = true)
    (h : ∀ K' : Act → World → Prop, (∀ a' w', (∃ S' : World → Prop, (∀ x, S' x → S x) ∧ S' w' ∧ p.wp P l.toArray Q S' a' w') → K' a' w') → Oper.wp P o a w K' Q) : (Plan.u k p).wp P l.toArray Q S a w :=
  wpOp_step (by simpa using ho) fun K' hK => by rw [if_pos hw]; exact h K' hK
end
end Go.Proofs.Ytjdcmhclamjcjaa
namespace Go.Proofs.Ytjdcmhclamjcjaa
open Go.RowKit
set_option linter.unusedVariables false

theorem setCells_row {g : Nat} {t : TypeId} : ∀ (vs pre rest : List Value) (w : World), w.heap[g]? = some (.cells (pre ++ rest).toArray t (0, 0)) → rest.length = vs.length →
    (w.setCells g pre.length vs).heap[g]? = some (.cells (pre ++ vs).toArray t (0, 0)) ∧ w.grownBy (w.setCells g pre.length vs) (some g)
  | [], pre, rest, w, h, hl => by
    obtain rfl : rest = [] := List.eq_nil_of_length_eq_zero hl
    rw [World.setCells]
    exact ⟨h, grown_refl _ _⟩
  | v :: vs, pre, [], w, h, hl => by cases hl
  | v :: vs, pre, r :: rest, w, h, hl => by
    have hA := ((At.base h).set pre.length v).conv (cs' := ((pre ++ [v]) ++ rest).toArray) (by rw [List.setIfInBounds_toArray]; simp)
    have ih := setCells_row vs (pre ++ [v]) rest _ hA.row (by simpa using hl)
    rw [List.length_append] at ih
    rw [World.setCells]
    refine ⟨?_, grown_trans hA.rest ih.2⟩
    have h2 := ih.1
    rw [List.append_assoc] at h2
    exact h2
theorem wpList_store_row {P : Program} {ops : Array Oper} {rest : List Oper} {op : Oper} {a : Act} {w : World} {Q : Exit → Act → World → Prop} (hgd : op.guard = none) (ty : TypeId) (x y : Operand) (ho : op.op = .store ty x y)
    (g : Nat) (hx : a.eval x = .pointer (some ⟨g, 0, none⟩)) (cs cs0 : List Value) (hy : a.eval y = .agg cs.toArray) (t : TypeId) (hr : w.heap[g]? = some (.cells cs0.toArray t (0, 0))) (hl : cs0.length = cs.length)
    (hi : (P.info? ty).map (·.size) = some cs.length) (h1 : ∀ v ∈ cs, v.oneCell' = true)
    (h : ∀ w', w'.heap[g]? = some (.cells cs.toArray t (0, 0)) → w.grownBy w' (some g) → wpList P ops Q rest (a.put op.dst undef) w') : wpList P ops Q (op :: rest) a w := by
  refine wpList_store_mid hgd ty x y ho g 0 cs.toArray hx hy ?_ (by simpa using hi) (all_oneCell_toArray h1) ?_
  · intro j hj
    rw [Nat.zero_add]
    have hj2 : j < cs0.length := by rw [hl]; simpa using hj
    rw [row_cell hr j cs0[j] (by simp [hj2]), row_free hr j]
    exact ⟨rfl, rfl⟩
  · have := setCells_row (g := g) (t := t) cs [] cs0 w hr hl
    exact h _ (by simpa using this.1) (by simpa using this.2)
theorem results_cell4 {P : Program} {fn : Func} {r t u v : Tmp} {ty : TypeId} (h : fn.results = #[.cell r ty, .tmp t, .tmp u, .tmp v]) (tmps : Array Value) (w : World) (g : Nat) (hp : tmps.getD r undef = .pointer (some ⟨g, 0, none⟩))
    (cs : List Value) (d : TypeDesc) (e : TypeId) (hr : w.heap[g]? = some (.cells cs.toArray e (0, 0))) (hu : P.underlying ty = some d) (hd : d.isRow = true) (hi : (P.info? ty).map (·.size) = some cs.length) :
    (results fn tmps).run P w = .ok (.tuple #[.agg cs.toArray, tmps.getD t undef, tmps.getD u undef, tmps.getD v undef]) w := by
  have hl := run_loadVar_mid (P := P) w g 0 ty cs d (fun j v hv => by rw [Nat.zero_add]; exact row_cell hr j v (by simpa using hv)) hu hd hi
  have hp2 : tmps[r]?.getD undef = .pointer (some ⟨g, 0, none⟩) := by simpa using hp
  simp [results, h, hp2, asAddr, hl]
theorem results_cell2 {P : Program} {fn : Func} {r t : Tmp} {ty : TypeId} (h : fn.results = #[.cell r ty, .tmp t]) (tmps : Array Value) (w : World) (g : Nat) (hp : tmps.getD r undef = .pointer (some ⟨g, 0, none⟩))
    (cs : List Value) (d : TypeDesc) (e : TypeId) (hr : w.heap[g]? = some (.cells cs.toArray e (0, 0))) (hu : P.underlying ty = some d) (hd : d.isRow = true) (hi : (P.info? ty).map (·.size) = some cs.length) :
    (results fn tmps).run P w = .ok (.tuple #[.agg cs.toArray, tmps.getD t undef]) w := by
  have hl := run_loadVar_mid (P := P) w g 0 ty cs d (fun j v hv => by rw [Nat.zero_add]; exact row_cell hr j v (by simpa using hv)) hu hd hi
  have hp2 : tmps[r]?.getD undef = .pointer (some ⟨g, 0, none⟩) := by simpa using hp
  simp [results, h, hp2, asAddr, hl]
theorem setCells_part {g : Nat} {t : TypeId} (suf : List Value) : ∀ (vs pre rest : List Value) (w : World), w.heap[g]? = some (.cells (pre ++ (rest ++ suf)).toArray t (0, 0)) → rest.length = vs.length →
    (w.setCells g pre.length vs).heap[g]? = some (.cells (pre ++ (vs ++ suf)).toArray t (0, 0)) ∧ w.grownBy (w.setCells g pre.length vs) (some g)
  | [], pre, rest, w, h, hl => by
    obtain rfl : rest = [] := List.eq_nil_of_length_eq_zero hl
    rw [World.setCells]
    exact ⟨h, grown_refl _ _⟩
  | v :: vs, pre, [], w, h, hl => by cases hl
  | v :: vs, pre, r :: rest, w, h, hl => by
    have hA := ((At.base h).set pre.length v).conv (cs' := ((pre ++ [v]) ++ (rest ++ suf)).toArray) (by rw [List.setIfInBounds_toArray]; simp)
    have ih := setCells_part suf vs (pre ++ [v]) rest _ hA.row (by simpa using hl)
    rw [List.length_append] at ih
    rw [World.setCells]
    refine ⟨?_, grown_trans hA.rest ih.2⟩
    have h2 := ih.1
    rw [List.append_assoc] at h2
    exact h2
theorem wpList_store_part {P : Program} {ops : Array Oper} {rest : List Oper} {op : Oper} {a : Act} {w : World} {Q : Exit → Act → World → Prop} (hgd : op.guard = none) (ty : TypeId) (x y : Operand) (ho : op.op = .store ty x y)
    (g o : Nat) (hx : a.eval x = .pointer (some ⟨g, o, none⟩)) (cs : List Value) (t : TypeId) (pre mid suf : List Value) (hy : a.eval y = .agg cs.toArray) (hr : w.heap[g]? = some (.cells (pre ++ (mid ++ suf)).toArray t (0, 0))) (hp : pre.length = o) (hl : mid.length = cs.length)
    (hi : (P.info? ty).map (·.size) = some cs.length) (h1 : ∀ v ∈ cs, v.oneCell' = true)
    (h : ∀ w', w'.heap[g]? = some (.cells (pre ++ (cs ++ suf)).toArray t (0, 0)) → w.grownBy w' (some g) → wpList P ops Q rest (a.put op.dst undef) w') : wpList P ops Q (op :: rest) a w := by
  refine wpList_store_mid hgd ty x y ho g o cs.toArray hx hy ?_ (by simpa using hi) (all_oneCell_toArray h1) ?_
  · intro j hj
    have hj2 : j < mid.length := by rw [hl]; simpa using hj
    have hv : (pre ++ (mid ++ suf))[o + j]? = some mid[j] := by
      rw [List.getElem?_append_right (by omega), hp, show o + j - o = j by omega, List.getElem?_append_left hj2]
      exact List.getElem?_eq_getElem hj2
    rw [row_cell hr (o + j) mid[j] (by rw [List.getElem?_toArray]; exact hv), row_free hr (o + j)]
    exact ⟨rfl, rfl⟩
  · have := setCells_part (g := g) (t := t) suf cs pre mid w hr hl
    rw [hp] at this
    exact h _ (by simpa using this.1) (by simpa using this.2)
theorem wp_store_row {P : Program} {op : Oper} {a : Act} {w : World} {K : Act → World → Prop} {Q : Exit → Act → World → Prop} (ty : TypeId) (x y : Operand) (ho : op.op = .store ty x y)
    (g : Nat) (hx : a.eval x = .pointer (some ⟨g, 0, none⟩)) (cs cs0 : List Value) (hy : a.eval y = .agg cs.toArray) (t : TypeId) (hr : w.heap[g]? = some (.cells cs0.toArray t (0, 0))) (hl : cs0.length = cs.length)
    (hi : (P.info? ty).map (·.size) = some cs.length) (h1 : ∀ v ∈ cs, v.oneCell' = true)
    (h : ∀ w', w'.heap[g]? = some (.cells cs.toArray t (0, 0)) → w.grownBy w' (some g) → K (a.put op.dst undef) w') : Oper.wp P op a w K Q := by
  refine wp_store_mid ty x y ho g 0 cs.toArray hx hy ?_ (by simpa using hi) (all_oneCell_toArray h1) ?_
  · intro j hj
    rw [Nat.zero_add]
    have hj2 : j < cs0.length := by rw [hl]; simpa using hj
    rw [row_cell hr j cs0[j] (by simp [hj2]), row_free hr j]
    exact ⟨rfl, rfl⟩
  · have := setCells_row (g := g) (t := t) cs [] cs0 w hr hl
    exact h _ (by simpa using this.1) (by simpa using this.2)
theorem results_cell1 {P : Program} {fn : Func} {r : Tmp} {ty : TypeId} (h : fn.results = #[.cell r ty]) (tmps : Array Value) (w : World) (g : Nat) (hp : tmps.getD r undef = .pointer (some ⟨g, 0, none⟩))
    (cs : List Value) (d : TypeDesc) (e : TypeId) (hr : w.heap[g]? = some (.cells cs.toArray e (0, 0))) (hu : P.underlying ty = some d) (hd : d.isRow = true) (hi : (P.info? ty).map (·.size) = some cs.length) :
    (results fn tmps).run P w = .ok (.agg cs.toArray) w := by
  have hl := run_loadVar_mid (P := P) w g 0 ty cs d (fun j v hv => by rw [Nat.zero_add]; exact row_cell hr j v (by simpa using hv)) hu hd hi
  have hp2 : tmps[r]?.getD undef = .pointer (some ⟨g, 0, none⟩) := by simpa using hp
  simp [results, h, hp2, asAddr, hl]
section
variable {P : Program} {Q : Exit → Act → World → Prop}
theorem plan_t_load {l : List Oper} {k : Nat} {p : Plan} {S : World → Prop} {a : Act} {w : World} {o : Oper} (ho : l[k]? = some o) (hw : Region.wanted o (yielded l.toArray a.tmps) = true) (ty : TypeId) (x : Operand) (hop : o.op = .load ty x)
    (g off : Nat) (hx : a.eval x = .pointer (some ⟨g, off, none⟩)) (cs : List Value) (d : TypeDesc) (hS : ∀ w, S w → w.rangeAt g off cs) (hu : P.underlying ty = some d) (hd : d.isRow = true) (hi : (P.info? ty).map (·.size) = some cs.length)
    (h : p.wp P l.toArray Q S (a.put o.dst (.agg cs.toArray)) w) : (Plan.t k p).wp P l.toArray Q S a w := by
  refine ⟨o, by simpa using ho, wpQuiet_step fun K hK => ?_⟩
  rw [if_pos hw]
  refine ⟨.agg cs.toArray, fun y hy => ?_, hK _ (wpQuiet_nil h)⟩
  obtain ⟨s, rfl⟩ := hy
  unfold Oper.quietAt execOp
  simp only [hop, hx, Instr.loadAt, Instr.sureAddr, Sem.run_bind, Sem.run_pure, Result.andThen_ok, run_loadVar_mid s.w g off ty cs d (hS s.w s.h) hu hd hi]
  exact ⟨rfl, rfl⟩
theorem plan_b {l : List Oper} {k j : Nat} {p q : Plan} {S : World → Prop} {a : Act} {w : World}
    (h1 : wpOp P l.toArray Q k (fun a' w' => ∃ S' : World → Prop, (∀ x, S' x → S x) ∧ S' w' ∧ p.wp P l.toArray Q S' a' w') a w)
    (h2 : wpOp P l.toArray Q j (fun a' w' => ∃ S' : World → Prop, (∀ x, S' x → S x) ∧ S' w' ∧ q.wp P l.toArray Q S' a' w') a w) : (Plan.b k p j q).wp P l.toArray Q S a w := ⟨h1, h2⟩
theorem plan_half {l : List Oper} {k : Nat} {p : Plan} {S : World → Prop} {a : Act} {w : World} {o : Oper} (ho : l[k]? = some o) (hw : Region.wanted o (yielded l.toArray a.tmps) = true)
    (h : ∀ K' : Act → World → Prop, (∀ a' w', S w' ∧ p.wp P l.toArray Q S a' w' → K' a' w') → Oper.wp P o a w K' Q) : wpOp P l.toArray Q k (fun a' w' => ∃ S' : World → Prop, (∀ x, S' x → S x) ∧ S' w' ∧ p.wp P l.toArray Q S' a' w') a w :=
  wpOp_step (by simpa using ho) fun K' hK => by rw [if_pos hw]; exact h K' fun a' w' ⟨h2, h3⟩ => hK a' w' ⟨S, fun _ h => h, h2, h3⟩
theorem plan_half_n {l : List Oper} {k : Nat} {p : Plan} {S : World → Prop} {a : Act} {w : World} {o : Oper} (ho : l[k]? = some o) (hw : Region.wanted o (yielded l.toArray a.tmps) = true)
    (h : ∀ K' : Act → World → Prop, (∀ a' w', (∃ S' : World → Prop, (∀ x, S' x → S x) ∧ S' w' ∧ p.wp P l.toArray Q S' a' w') → K' a' w') → Oper.wp P o a w K' Q) : wpOp P l.toArray Q k (fun a' w' => ∃ S' : World → Prop, (∀ x, S' x → S x) ∧ S' w' ∧ p.wp P l.toArray Q S' a' w') a w :=
  wpOp_step (by simpa using ho) fun K' hK => by rw [if_pos hw]; exact h K' hK
theorem plan_half_x {l : List Oper} {k : Nat} {p : Plan} {S : World → Prop} {a : Act} {w : World} {o : Oper} (ho : l[k]? = some o) (hw : Region.wanted o (yielded l.toArray a.tmps) = false) (hS : S w)
    (h : p.wp P l.toArray Q S (a.put o.dst undef) w) : wpOp P l.toArray Q k (fun a' w' => ∃ S' : World → Prop, (∀ x, S' x → S x) ∧ S' w' ∧ p.wp P l.toArray Q S' a' w') a w :=
  wpOp_step (by simpa using ho) fun K' hK => by rw [if_neg (by rw [hw]; decide)]; exact hK _ _ ⟨S, fun _ h => h, hS, h⟩
theorem plan_ux {l : List Oper} {k : Nat} {p : Plan} {S : World → Prop} {a : Act} {w : World} {o : Oper} (ho : l[k]? = some o) (hw : Region.wanted o (yielded l.toArray a.tmps) = false) (hS : S w)
    (h : p.wp P l.toArray Q S (a.put o.dst undef) w) : (Plan.u k p).wp P l.toArray Q S a w :=
  plan_half_x ho hw hS h
end
theorem wpList_load_g {P : Program} {ops : Array Oper} {rest : List Oper} {op : Oper} {a : Act} {w : World} {Q : Exit → Act → World → Prop} (ty : TypeId) (x : Operand) (ho : op.op = .load ty x) (hw : Region.wanted op (yielded ops a.tmps) = true)
    (b o : Nat) (hx : a.eval x = .pointer (some ⟨b, o, none⟩)) (cs : List Value) (d : TypeDesc) (hc : w.rangeAt b o cs)
    (hu : P.underlying ty = some d) (hd : d.isRow = true) (hi : (P.info? ty).map (·.size) = some cs.length)
    (h : wpList P ops Q rest (a.put op.dst (.agg cs.toArray)) w) : wpList P ops Q (op :: rest) a w :=
  wpList_step fun K hK => by rw [if_pos hw]; exact wp_load_mid ty x ho b o hx cs d hc hu hd hi (hK _ _ h)
theorem rngL {w : World} {g : Nat} {t : TypeId} {cs : List Value} (h : w.heap[g]? = some (.cells cs.toArray t (0, 0))) : w.rangeAt g 0 cs :=
  fun j v hv => by rw [Nat.zero_add]; exact row_cell h j v (by simpa using hv)
theorem cell_row {w : World} {g : Nat} {cs : List Value} {t : TypeId} (h : w.heap[g]? = some (.cells cs.toArray t (0, 0))) (i : Nat) (v : Value) (hv : cs[i]? = some v) : w.cell? ⟨g, i, none⟩ = some v := row_cell h i v (by rw [List.getElem?_toArray]; exact hv)
theorem rng_row {w : World} {g : Nat} {cs : List Value} {t : TypeId} (h : w.heap[g]? = some (.cells cs.toArray t (0, 0))) (off : Nat) (C : List Value) (hv : ∀ (j : Nat) (v : Value), C[j]? = some v → cs[off + j]? = some v) : w.rangeAt g off C :=
  fun j v hj => cell_row h _ v (hv j v hj)
theorem IntsK.setOther {k : IntKind} {w : World} {a : Option Addr} {len : Nat} {zs : List Int} (h : IntsK k w a len zs) {p : Addr} {x : Value} (hp : w.cell? p = some x) (hx : ∀ n, x ≠ .int k n) (u : Value) : IntsK k (w.setCell p u) a len zs := by
  refine ⟨h.1, h.2.1, ?_⟩
  rcases h.2.2 with h0 | ⟨b, off, ha, hb, hc⟩
  · exact .inl h0
  · refine .inr ⟨b, off, ha, by simpa using hb, fun i hi => ?_⟩
    rw [World.cell?_setCell_other]
    · exact hc i hi
    · intro e
      rw [e, hc i hi] at hp
      injection hp with hp
      exact hx _ hp.symm
theorem own_capm {w : World} {base e n size : Nat} {v : Value} {xs : List Value} (h : w.ownsRow base e size v n xs) : ∀ b l c, v = .slice b l c → c ≤ 9223372036854775807 := by
  intro b l c hv
  rcases h.2 with ⟨h1, _⟩ | ⟨g, cap, cur, h1, hg, hrow, hn, hc, hsz, htk⟩
  · rw [h1] at hv; injection hv with h1 h2 h3; omega
  · rw [h1] at hv; injection hv with h1 h2 h3; subst h3; unfold maxLen at hc; omega
theorem set_wf {xs : List Int} (h : ∀ x ∈ xs, (Lit.int .u8 x).wf = true) (i : Nat) (y : Int) (hy : (Lit.int .u8 y).wf = true) : ∀ x ∈ xs.set i y, (Lit.int .u8 x).wf = true := by
  intro x hx
  rcases List.mem_or_eq_of_mem_set hx with h' | h'
  · exact h x h'
  · rw [h']; exact hy
theorem zeros_wf {xs : List Int} (h : ∀ x ∈ xs, (Lit.int .u8 x).wf = true) (k : Nat) : ∀ x ∈ xs ++ List.replicate k 0, (Lit.int .u8 x).wf = true := by
  intro x hx
  rw [List.mem_append] at hx
  rcases hx with hx | hx
  · exact h x hx
  · rw [(List.mem_replicate.1 hx).2]; decide
theorem take_drop_at {α : Type} {cs : List α} {i n k : Nat} {r : List α} (h : (cs.drop i).take n = r) (hk : k < n) : cs[i + k]? = r[k]? := by
  rw [← h, List.getElem?_take_of_lt hk, List.getElem?_drop]
theorem bdU8 {n : Int} (h : (Lit.int .u8 n).wf = true) : 0 ≤ n ∧ n ≤ 255 := by
  simp [Lit.wf, IntKind.min, IntKind.max, IntKind.signed, IntKind.bits] at h; omega
theorem own_of_row {w : World} {base g e n : Nat} {xs : List Value} (h : w.heap[g]? = some (.cells xs.toArray e (0, 0))) (hb : base ≤ g) (hl : xs.length = n) (hm : n ≤ maxLen) : w.ownsRow base e 1 (.slice (some ⟨g, 0, none⟩) n n) n xs :=
  ⟨by rw [hl, Nat.mul_one], .inr ⟨g, n, xs.toArray, rfl, hb, h, Nat.le_refl _, hm, by simp [hl], by rw [Nat.mul_one, ← hl]; simp⟩⟩
end Go.Proofs.Ytjdcmhclamjcjaa
namespace Go.Proofs.Ytjdcmhclamjcjaa
open Go.RowKit
set_option linter.unusedVariables false
set_option linter.unusedSimpArgs false

/-- how a thing lies in cells. -/
structure RK (α : Type) where
  N : Nat
  enc : α → List Value
  ok : α → Prop
  pos : 0 < N
  small : N ≤ 1000
  len : ∀ x, ok x → (enc x).length = N
  one : ∀ x, ok x → ∀ v ∈ enc x, v.oneCell' = true
section
variable {α : Type} (K : RK α)
def RK.flat (l : List α) : List Value := l.flatMap K.enc
theorem RK.flat_nil : K.flat [] = [] := rfl
theorem RK.flat_cons (x : α) (l : List α) : K.flat (x :: l) = K.enc x ++ K.flat l := by simp [RK.flat]
theorem RK.flat_app (l m : List α) : K.flat (l ++ m) = K.flat l ++ K.flat m := by simp [RK.flat]
theorem RK.flat_len : ∀ l : List α, (∀ x ∈ l, K.ok x) → (K.flat l).length = l.length * K.N
  | [], _ => by simp [RK.flat]
  | x :: l, h => by
    rw [RK.flat_cons, List.length_append, K.len x (h x (List.mem_cons_self ..)), RK.flat_len l (fun y hy => h y (List.mem_cons_of_mem _ hy)), List.length_cons, Nat.add_mul]; omega
theorem RK.flat_one (l : List α) (h : ∀ x ∈ l, K.ok x) : ∀ v ∈ K.flat l, v.oneCell' = true := by
  intro v hv
  obtain ⟨x, hx, hv⟩ := List.mem_flatMap.1 hv
  exact K.one x (h x hx) v hv
theorem RK.flat_at : ∀ (l : List α), (∀ x ∈ l, K.ok x) → ∀ (j i : Nat) (x : α) (v : Value), l[j]? = some x → (K.enc x)[i]? = some v → (K.flat l)[j * K.N + i]? = some v
  | [], _, j, i, x, v, h, _ => by simp at h
  | y :: l, ho, 0, i, x, v, h, hv => by
    simp at h; subst h
    have hl := K.len y (ho y (List.mem_cons_self ..))
    have := lt_of_get hv
    rw [RK.flat_cons, Nat.zero_mul, Nat.zero_add, List.getElem?_append_left (by omega)]
    exact hv
  | y :: l, ho, j + 1, i, x, v, h, hv => by
    have hl := K.len y (ho y (List.mem_cons_self ..))
    have ih := RK.flat_at l (fun z hz => ho z (List.mem_cons_of_mem _ hz)) j i x v (by simpa using h) hv
    have e : (j + 1) * K.N + i = (K.enc y).length + (j * K.N + i) := by rw [hl, Nat.add_mul]; omega
    rw [e, RK.flat_cons, List.getElem?_append_right (by omega), Nat.add_sub_cancel_left]
    exact ih
theorem RK.flat_take : ∀ (l : List α), (∀ x ∈ l, K.ok x) → ∀ (k : Nat), K.flat (l.take k) = (K.flat l).take (k * K.N)
  | [], _, k => by simp [RK.flat]
  | x :: l, h, 0 => by simp [RK.flat]
  | x :: l, h, k + 1 => by
    have hl := K.len x (h x (List.mem_cons_self ..))
    rw [List.take_succ_cons, RK.flat_cons, RK.flat_cons, RK.flat_take l (fun y hy => h y (List.mem_cons_of_mem _ hy)) k, show (k + 1) * K.N = (K.enc x).length + k * K.N by rw [hl, Nat.add_mul]; omega, List.take_length_add_append]
theorem RK.flat_drop : ∀ (l : List α), (∀ x ∈ l, K.ok x) → ∀ (k : Nat), K.flat (l.drop k) = (K.flat l).drop (k * K.N)
  | [], _, k => by simp [RK.flat]
  | x :: l, h, 0 => by simp
  | x :: l, h, k + 1 => by
    have hl := K.len x (h x (List.mem_cons_self ..))
    rw [List.drop_succ_cons, RK.flat_cons, RK.flat_drop l (fun y hy => h y (List.mem_cons_of_mem _ hy)) k, show (k + 1) * K.N = (K.enc x).length + k * K.N by rw [hl, Nat.add_mul]; omega, List.drop_length_add_append]
/-- a slice reads as these things. -/
def RK.At (w : World) (a : Option Addr) (n : Nat) (l : List α) : Prop :=
  n = l.length ∧ (∀ x ∈ l, K.ok x) ∧ (n = 0 ∨ ∃ b off, a = some ⟨b, off, none⟩ ∧ b < w.heap.size ∧ ∀ j u, (K.flat l)[j]? = some u → w.cell? ⟨b, off + j, none⟩ = some u)
end
section
variable {α : Type} {K : RK α} {w y : World} {a : Option Addr} {n : Nat} {l : List α}
theorem RK.At.nil (w : World) (a : Option Addr) : K.At w a 0 [] := ⟨rfl, (fun x hx => by cases hx), .inl rfl⟩
theorem RK.At.below (h : K.At w a n l) (hb : Below w.heap.size w y) : K.At y a n l := by
  refine ⟨h.1, h.2.1, ?_⟩
  rcases h.2.2 with h0 | ⟨b, off, rfl, hl, hc⟩
  · exact .inl h0
  · exact .inr ⟨b, off, rfl, Nat.lt_of_lt_of_le hl hb.size, fun j u hu => bl_cell hb (p := ⟨b, off + j, none⟩) hl (hc j u hu)⟩
theorem RK.At.grown {r : Option Nat} (h : K.At w a n l) (hg : w.grownBy y r) (hr : ∀ x, a = some x → some x.block ≠ r) : K.At y a n l := by
  refine ⟨h.1, h.2.1, ?_⟩
  rcases h.2.2 with h0 | ⟨b, off, rfl, hl, hc⟩
  · exact .inl h0
  · refine .inr ⟨b, off, rfl, Nat.lt_of_lt_of_le hl hg.size, fun j u hu => ?_⟩
    rw [← hc j u hu]
    simp only [World.cell?, hg.block b hl (hr _ rfl)]
theorem RK.At.of_own {B e : Nat} {c : Nat} (h : w.ownsRow B e K.N (.slice a n c) n (K.flat l)) (hw : ∀ x ∈ l, K.ok x) : K.At w a n l := by
  have hl := h.1
  rw [K.flat_len l hw] at hl
  have hn : n = l.length := (Nat.eq_of_mul_eq_mul_right K.pos hl).symm
  refine ⟨hn, hw, ?_⟩
  rcases h.2 with ⟨_, h0⟩ | ⟨g, cap, cur, e1, hg, hrow, hn, hc, hsz, htk⟩
  · exact .inl h0
  · injection e1 with e1 e2 e3
    subst e1
    refine .inr ⟨g, 0, rfl, lt_of_block hrow, fun j u hu => ?_⟩
    rw [Nat.zero_add, cell_of_row w g j cur e (0, 0) hrow]
    rw [← htk, List.getElem?_take] at hu
    split at hu
    · simpa using hu
    · cases hu
theorem RK.At.of_row {t : TypeId} {g : Nat} (h : w.heap[g]? = some (.cells (K.flat l).toArray t (0, 0))) (hw : ∀ x ∈ l, K.ok x) : K.At w (some ⟨g, 0, none⟩) l.length l :=
  ⟨rfl, hw, .inr ⟨g, 0, rfl, lt_of_block h, fun j u hu => by rw [Nat.zero_add]; exact cell_row h j u hu⟩⟩
theorem RK.At.at (h : K.At w a n l) {j : Nat} (hj : j < n) : ∃ b off x, a = some ⟨b, off, none⟩ ∧ b < w.heap.size ∧ l[j]? = some x ∧ K.ok x ∧ w.rangeAt b (off + j * K.N) (K.enc x) := by
  rcases h.2.2 with h0 | ⟨b, off, rfl, hl, hc⟩
  · omega
  · have hx : l[j]? = some (l[j]'(by have := h.1; omega)) := List.getElem?_eq_getElem (by have := h.1; omega)
    exact ⟨b, off, _, rfl, hl, hx, h.2.1 _ (List.getElem_mem _), fun i v hv => by rw [Nat.add_assoc]; exact hc _ _ (K.flat_at l h.2.1 j i _ v hx hv)⟩
theorem RK.At.pre (h : K.At w a n l) (k : Nat) (hk : k ≤ n) : K.At w a k (l.take k) := by
  refine ⟨by rw [List.length_take]; have := h.1; omega, fun x hx => h.2.1 x (List.mem_of_mem_take hx), ?_⟩
  rcases h.2.2 with h0 | ⟨b, off, rfl, hl, hc⟩
  · exact .inl (by omega)
  · refine .inr ⟨b, off, rfl, hl, fun j u hu => hc j u ?_⟩
    rw [K.flat_take l h.2.1, List.getElem?_take] at hu
    split at hu
    · exact hu
    · cases hu
theorem RK.At.suf {b off : Nat} (h : K.At w (some ⟨b, off, none⟩) n l) (k : Nat) (hk : k ≤ n) : K.At w (some ⟨b, off + k * K.N, none⟩) (n - k) (l.drop k) := by
  refine ⟨by rw [List.length_drop]; have := h.1; omega, fun x hx => h.2.1 x (List.mem_of_mem_drop hx), ?_⟩
  rcases h.2.2 with h0 | ⟨b, off, e, hl, hc⟩
  · exact .inl (by omega)
  · injection e with e; injection e with e1 e2; subst e1; subst e2
    refine .inr ⟨_, _, rfl, hl, fun j u hu => ?_⟩
    rw [K.flat_drop l h.2.1, List.getElem?_drop] at hu
    rw [Nat.add_assoc]
    exact hc _ u hu
theorem RK.At.sufC {b off : Nat} (h : K.At w (some ⟨b, off, none⟩) n l) (k c : Nat) (hk : k ≤ n) (hc : n ≤ c) : K.At w (if c = k then some ⟨b, off, none⟩ else some ⟨b, off + k * K.N, none⟩) (n - k) (l.drop k) := by
  split
  · have h2 := h.suf k hk
    refine ⟨h2.1, h2.2.1, .inl (by omega)⟩
  · exact h.suf k hk
theorem RK.At.lt (h : K.At w a n l) : ∀ x, a = some x → n ≠ 0 → x.block < w.heap.size := by
  intro x hx hn
  rcases h.2.2 with h0 | ⟨b, off, rfl, hl, hc⟩
  · exact absurd h0 hn
  · injection hx with hx; subst hx; exact hl
end
/-- a thing's type, its slices' type. -/
structure RT {α : Type} (K : RK α) (E T : TypeId) (z : Value) (by_ : Nat) : Prop where
  u : Try.prog.underlying T = some (.slice E)
  i : (Try.prog.info? E).map (fun i => (i.zero, i.size, i.bytes)) = some (some z, K.N, by_)
  z : z.cells.size = K.N
  b : by_ ≤ 1000
section
variable {α : Type} {K : RK α} {E T : TypeId} {z : Value} {by_ : Nat}
theorem append_rk (hT : RT K E T z by_) (w : World) (ty : TypeId) (B n : Nat) (v : Value) (xs : List α) (hown : w.ownsRow B E K.N v n (K.flat xs)) (a : Option Addr) (m c : Nat) (l : List α) (hI : K.At w a m l) (hb : n + m ≤ 1000000) (hB : B ≤ w.heap.size) :
    ∃ v' w', (Builtin.append_ #[T, T] ty #[v, .slice a m c]).run Try.prog w = .ok v' w' ∧ w'.ownsRow B E K.N v' (n + m) (K.flat (xs ++ l)) ∧ w.grownBy w' v.ownBlock ∧ (v'.ownBlock = v.ownBlock ∨ v'.ownBlock = some w.heap.size) := by
  obtain ⟨i0, hi, hz0, hz1, hz2⟩ := info_parts hT.i
  rw [K.flat_app]
  cases a with
  | none =>
    have hm : m = 0 := by
      rcases hI.2.2 with h | ⟨b, off, h, _⟩
      · exact h
      · cases h
    subst hm
    obtain rfl : l = [] := List.eq_nil_of_length_eq_zero hI.1.symm
    have hsrc : Src Try.prog i0.size T (.slice none 0 c) 0 [] w := Src.ofNil w hT.u c
    obtain ⟨b, l, cp, rfl, hle⟩ : ∃ b l cp, v = .slice b l cp ∧ l ≤ cp := by
      rcases hown.2 with ⟨rfl, rfl⟩ | ⟨g, cap, cur, rfl, hg, hrow, hn, hc, hsz, htk⟩
      · exact ⟨_, _, _, rfl, Nat.le_refl _⟩
      · exact ⟨_, _, _, rfl, hn⟩
    exact ⟨_, w, run_append_nothing w T T ty E i0 hT.u hi b l cp hle _ hsrc, by simpa [RK.flat] using hown, grown_refl _ _, .inl rfl⟩
  | some ad =>
    have hnews : ∀ j u, (K.flat l)[j]? = some u → w.cell? (ad.add j) = some u := by
      rcases hI.2.2 with h0 | ⟨b, off, e, _, hc⟩
      · intro j u hu
        have : l = [] := List.eq_nil_of_length_eq_zero (by have := hI.1; omega)
        subst this
        simp [RK.flat] at hu
      · injection e with e; subst e
        intro j u hu
        rw [add_none]
        exact hc j u hu
    have hby : (n + m) * by_ ≤ 1000000 * 1000 := Nat.mul_le_mul hb hT.b
    obtain ⟨v', w', h1, h2, h3, _, h4⟩ := run_append_own_at (P := Try.prog) w B T ty E i0 _ K.N by_ hT.u hi hz0 hz1 hz2 hT.z K.pos v n (K.flat xs) hown ad m c (K.flat l) (by rw [K.flat_len l hI.2.1, hI.1]) hnews (K.flat_one l hI.2.1) (by unfold maxLen; omega) (by omega) hB
    exact ⟨v', w', h1, h2, h3, h4⟩
variable {ops : Array Oper} {rest : List Oper} {o : Oper} {a : Act} {w : World} {Q : Exit → Act → World → Prop} {J : Act → World → Prop}
theorem wp_append_rk (hT : RT K E T z by_) (s x : Operand) (ho : o.op = .call { callee := .builtin .append, args := #[s, x], argTypes := #[T, T] })
    (B n : Nat) (v : Value) (xs : List α) (hs : a.eval s = v) (hown : w.ownsRow B E K.N v n (K.flat xs)) (xa : Option Addr) (m c : Nat) (l : List α) (hx : a.eval x = .slice xa m c) (hI : K.At w xa m l) (hb : n + m ≤ 1000000) (hB : B ≤ w.heap.size)
    (h : ∀ v' w', w'.ownsRow B E K.N v' (n + m) (K.flat (xs ++ l)) → w.grownBy w' v.ownBlock → (v'.ownBlock = v.ownBlock ∨ v'.ownBlock = some w.heap.size) → J (a.put o.dst v') w') : Oper.wp Try.prog o a w J Q := by
  obtain ⟨v', w', hr, h2, h3, h4⟩ := append_rk hT w o.type B n v xs hown xa m c l hI hb hB
  unfold Oper.wp execOp
  simp only [ho, resolve, invoke, builtin, Sem.run_bind, Sem.run_pure, Result.andThen_ok, List.map_toArray, List.map_cons, List.map_nil, hs, hx, hr]
  exact h v' w' h2 h3 h4
theorem wpList_append_rk (hT : RT K E T z by_) (hgd : o.guard = none) (s x : Operand) (ho : o.op = .call { callee := .builtin .append, args := #[s, x], argTypes := #[T, T] })
    (B n : Nat) (v : Value) (xs : List α) (hs : a.eval s = v) (hown : w.ownsRow B E K.N v n (K.flat xs)) (xa : Option Addr) (m c : Nat) (l : List α) (hx : a.eval x = .slice xa m c) (hI : K.At w xa m l) (hb : n + m ≤ 1000000) (hB : B ≤ w.heap.size)
    (h : ∀ v' w', w'.ownsRow B E K.N v' (n + m) (K.flat (xs ++ l)) → w.grownBy w' v.ownBlock → (v'.ownBlock = v.ownBlock ∨ v'.ownBlock = some w.heap.size) → wpList Try.prog ops Q rest (a.put o.dst v') w') : wpList Try.prog ops Q (o :: rest) a w :=
  wpList_plain hgd fun J hK => wp_append_rk hT s x ho B n v xs hs hown xa m c l hx hI hb hB fun v' w' h1 h2 h3 => hK _ _ (h v' w' h1 h2 h3)
/-- append to what has no room: a block of its own. -/
theorem append_full_rk (hT : RT K E T z by_) (w : World) (ty : TypeId) (a : Option Addr) (n : Nat) (xs : List α) (hA : K.At w a n xs) (xa : Option Addr) (m c : Nat) (l : List α) (hI : K.At w xa m l) (hm : 0 < m) (hb : n + m ≤ 1000000) :
    ∃ c' w', (Builtin.append_ #[T, T] ty #[.slice a n n, .slice xa m c]).run Try.prog w = .ok (.slice (some ⟨w.heap.size, 0, none⟩) (n + m) c') w' ∧ w'.ownsRow 0 E K.N (.slice (some ⟨w.heap.size, 0, none⟩) (n + m) c') (n + m) (K.flat (xs ++ l)) ∧ Below w.heap.size w w' := by
  obtain ⟨i0, hi, hz0, hz1, hz2⟩ := info_parts hT.i
  have hxl : (K.flat xs).length = n * K.N := by rw [K.flat_len xs hA.2.1, hA.1]
  have hll : (K.flat l).length = m * K.N := by rw [K.flat_len l hI.2.1, hI.1]
  have hby : (n + m) * by_ ≤ 1000000 * 1000 := Nat.mul_le_mul hb hT.b
  obtain ⟨ad, rfl, hnews⟩ : ∃ ad, xa = some ad ∧ ∀ j u, (K.flat l)[j]? = some u → w.cell? (ad.add j) = some u := by
    rcases hI.2.2 with h0 | ⟨b, off, e, _, hc⟩
    · omega
    · exact ⟨_, e, fun j u hu => by rw [add_none]; exact hc j u hu⟩
  have fin : ∀ (c' : Nat), n + m ≤ c' → c' ≤ maxLen → (w.drew.alloc (.cells ((K.flat xs).toArray ++ (K.flat l).toArray ++ Builtin.zeroCells z.cells (c' - (n + m))) E)).ownsRow 0 E K.N (.slice (some ⟨w.heap.size, 0, none⟩) (n + m) c') (n + m) (K.flat (xs ++ l)) ∧ Below w.heap.size w (w.drew.alloc (.cells ((K.flat xs).toArray ++ (K.flat l).toArray ++ Builtin.zeroCells z.cells (c' - (n + m))) E)) := by
    intro c' h1 h2
    have hlen : (K.flat (xs ++ l)).length = (n + m) * K.N := by rw [K.flat_app, List.length_append, hxl, hll, Nat.add_mul]
    refine ⟨⟨hlen, .inr ⟨w.heap.size, _, _, rfl, Nat.zero_le _, heap_alloc_new w.drew _, h1, h2, ?_, ?_⟩⟩, ((Below.refl _ _).drew).alloc (Nat.le_refl _) _⟩
    · simp only [Array.size_append, List.size_toArray, size_zeroCells, hT.z, hxl, hll, ← Nat.add_mul]
      congr 1; omega
    · simp only [Array.toList_append, List.append_assoc]
      rw [← List.append_assoc, ← K.flat_app, ← hlen]
      exact List.take_left
  cases a with
  | none =>
    have hn : n = 0 := by
      rcases hA.2.2 with h | ⟨b, off, h, _⟩
      · exact h
      · cases h
    subst hn
    obtain rfl : xs = [] := List.eq_nil_of_length_eq_zero hA.1.symm
    have hr := run_append_nil (P := Try.prog) w T ty E i0 z hT.u hi hz0 ad m c (K.flat l) (by rw [hz1]; exact hll) hnews (by omega) (by omega) (by rw [hz2]; simp only [Nat.zero_add] at hby; omega)
    have hf := fin (grownCap w (0 + m) 0 E) (grownCap_ge w (0 + m) 0 E) (grownCap_le_maxLen w (0 + m) 0 E (by unfold maxLen; omega))
    simp only [Nat.zero_add, RK.flat_nil, List.nil_append, Array.empty_append] at hf hr ⊢
    exact ⟨_, _, hr, hf.1, hf.2⟩
  | some a2 =>
    have holds : ∀ j u, (K.flat xs)[j]? = some u → w.cell? (a2.add j) = some u := by
      rcases hA.2.2 with h0 | ⟨b, off, e, _, hc⟩
      · intro j u hu
        have : xs = [] := List.eq_nil_of_length_eq_zero (by have := hA.1; omega)
        subst this
        simp [RK.flat] at hu
      · injection e with e; subst e
        intro j u hu; rw [add_none]; exact hc j u hu
    have hr := run_append_grow (P := Try.prog) w T ty E i0 z hT.u hi hz0 a2 n n (K.flat xs) (by rw [hz1]; exact hxl) holds ad m c (K.flat l) (by rw [hz1]; exact hll) hnews (by omega) (by omega) (by rw [hz2]; exact growslice_fits (by omega) (by omega))
    have hf := fin (grownCap w (n + m) n E) (grownCap_ge w (n + m) n E) (grownCap_le_maxLen w (n + m) n E (by unfold maxLen; omega))
    exact ⟨_, _, hr, hf.1, hf.2⟩
theorem wp_append_full_rk {ops : Array Oper} {rest : List Oper} {o : Oper} {a : Act} {w : World} {Q : Exit → Act → World → Prop} {J : Act → World → Prop} (hT : RT K E T z by_) (s x : Operand) (ho : o.op = .call { callee := .builtin .append, args := #[s, x], argTypes := #[T, T] })
    (da : Option Addr) (n : Nat) (xs : List α) (hs : a.eval s = .slice da n n) (hA : K.At w da n xs) (xa : Option Addr) (m c : Nat) (l : List α) (hx : a.eval x = .slice xa m c) (hI : K.At w xa m l) (hm : 0 < m) (hb : n + m ≤ 1000000)
    (h : ∀ c' w', w'.ownsRow 0 E K.N (.slice (some ⟨w.heap.size, 0, none⟩) (n + m) c') (n + m) (K.flat (xs ++ l)) → Below w.heap.size w w' → J (a.put o.dst (.slice (some ⟨w.heap.size, 0, none⟩) (n + m) c')) w') : Oper.wp Try.prog o a w J Q := by
  obtain ⟨c', w', hr, h2, h3⟩ := append_full_rk hT w o.type da n xs hA xa m c l hI hm hb
  unfold Oper.wp execOp
  simp only [ho, resolve, invoke, builtin, Sem.run_bind, Sem.run_pure, Result.andThen_ok, List.map_toArray, List.map_cons, List.map_nil, hs, hx, hr]
  exact h c' w' h2 h3
/-- a slice literal of one. -/
theorem wp_build_rk (hT : RT K E T z by_) (x : Operand) (ho : o.op = .buildSlice T 1 #[(0, x)]) (t : α) (ht : K.ok t) (hx : a.eval x = .agg (K.enc t).toArray)
    (h : J (a.put o.dst (.slice (some ⟨w.heap.size, 0, none⟩) 1 1)) (w.alloc (.cells (K.flat [t]).toArray E))) : Oper.wp Try.prog o a w J Q := by
  obtain ⟨i0, hi, hz0, hz1, hz2⟩ := info_parts hT.i
  have hl := K.len t ht
  have hz := hT.z
  have hp := K.pos
  have hby := hT.b
  have hf := Great.fill_whole (s := K.N) K.pos [.agg (K.enc t).toArray] ((Array.range (1 * K.N)).map fun x => z.cells[x % z.cells.size]!) (by simp [Value.cells, hl]) (by simp)
  refine wp_buildSlice T E 1 _ ho (K.flat [t]).toArray i0 _ hT.u hi hz0 ?_ (by rw [hz1]; omega) ?_ h
  · have := K.small
    rw [hz1]; omega
  rw [hz1]
  simp only [List.map_toArray, List.map_cons, List.map_nil, hx]
  simpa [Value.cells, RK.flat] using hf
theorem wpList_build_rk (hT : RT K E T z by_) (hgd : o.guard = none) (x : Operand) (ho : o.op = .buildSlice T 1 #[(0, x)]) (t : α) (ht : K.ok t) (hx : a.eval x = .agg (K.enc t).toArray)
    (h : wpList Try.prog ops Q rest (a.put o.dst (.slice (some ⟨w.heap.size, 0, none⟩) 1 1)) (w.alloc (.cells (K.flat [t]).toArray E))) : wpList Try.prog ops Q (o :: rest) a w :=
  wpList_plain hgd fun J hK => wp_build_rk hT x ho t ht hx (hK _ _ h)
end
theorem sl_own {w : World} {base e n : Nat} {v : Value} {xs : List Value} {size : Nat} (h : w.ownsRow base e size v n xs) : ∃ b cp, v = .slice b n cp ∧ n ≤ cp ∧ cp ≤ 9223372036854775807 := by
  have hm := own_capm h
  rcases h.2 with ⟨rfl, rfl⟩ | ⟨g, cap, cur, rfl, hg, hrow, hn, hc, hsz, htk⟩
  · exact ⟨_, _, rfl, Nat.le_refl _, by omega⟩
  · exact ⟨_, _, rfl, hn, hm _ _ _ rfl⟩
theorem u64_one {x : Int} {v : Value} (h : v ∈ [Value.int .u64 x]) : v.oneCell' = true := by rw [List.mem_singleton.1 h]; rfl
theorem wf_u64r {n : Int} (h0 : 0 ≤ n) (h1 : n < 18446744073709551616) : (Lit.int .u64 n).wf = true := by
  simp [Lit.wf, IntKind.min, IntKind.max, IntKind.signed, IntKind.bits]; omega
end Go.Proofs.Ytjdcmhclamjcjaa
namespace Go.Proofs.Ytjdcmhclamjcjaa
open Go.RowKit
set_option linter.unusedVariables false
set_option linter.unusedSimpArgs false

/-- what is as it was: all but the blocks M. -/
structure Off (M : List Nat) (w y : World) : Prop where
  os : y.os = w.os
  tape : y.tape = w.tape
  output : y.output = w.output
  size : w.heap.size ≤ y.heap.size
  block : ∀ i, i < w.heap.size → i ∉ M → y.heap[i]? = w.heap[i]?
theorem Off.refl (M : List Nat) (w : World) : Off M w w := ⟨rfl, rfl, rfl, Nat.le_refl _, fun _ _ _ => rfl⟩
theorem Off.of_below {M : List Nat} {w y : World} (h : Below w.heap.size w y) : Off M w y := ⟨h.os, h.tape, h.output, h.size, fun i hi _ => h.block i hi⟩
theorem Off.of_grown {M : List Nat} {w y : World} {r : Option Nat} (h : w.grownBy y r) (hr : ∀ g, r = some g → g ∈ M) : Off M w y :=
  ⟨h.os, h.tape, h.output, h.size, fun i hi hm => h.block i hi (fun e => hm (hr i e.symm))⟩
theorem Off.trans {M N : List Nat} {w y z : World} (h : Off M w y) (k : Off N y z) (hN : ∀ x ∈ N, x ∈ M ∨ w.heap.size ≤ x) : Off M w z :=
  ⟨k.os.trans h.os, k.tape.trans h.tape, k.output.trans h.output, Nat.le_trans h.size k.size, fun i hi hm => (k.block i (Nat.lt_of_lt_of_le hi h.size) (fun hn => by rcases hN i hn with h1 | h1; exact hm h1; omega)).trans (h.block i hi hm)⟩
theorem Off.next {M : List Nat} {w y z : World} (h : Off M w y) (k : Below y.heap.size y z) : Off M w z := h.trans (N := []) (Off.of_below k) (fun x hx => by cases hx)
theorem Off.below {M : List Nat} {B : Nat} {w y : World} (h : Off M w y) (hB : B ≤ w.heap.size) (hM : ∀ x ∈ M, B ≤ x) : Below B w y :=
  ⟨h.os, h.tape, h.output, h.size, fun i hi => h.block i (by omega) (fun hm => by have := hM i hm; omega)⟩
theorem Off.setCell {M : List Nat} {w y : World} (h : Off M w y) {g k : Nat} (hg : g ∈ M) (v : Value) : Off M w (y.setCell ⟨g, k, none⟩ v) := by
  refine ⟨h.os, h.tape, h.output, by have := h.size; simpa using this, fun i hi hm => ?_⟩
  rw [Below.heap_setCell _ _ _ _ (fun e => hm (by rw [e]; exact hg))]
  exact h.block i hi hm
theorem own_off {w y : World} {M : List Nat} {B e n s : Nat} {v : Value} {xs : List Value} (h : w.ownsRow B e s v n xs) (ho : Off M w y) (hm : ∀ g, v.ownBlock = some g → g ∉ M) : y.ownsRow B e s v n xs := by
  refine ⟨h.1, ?_⟩
  rcases h.2 with ⟨rfl, rfl⟩ | ⟨g, cap, cur, rfl, hg, hrow, hn, hc, hsz, htk⟩
  · exact .inl ⟨rfl, rfl⟩
  · exact .inr ⟨g, cap, cur, rfl, hg, (ho.block g (lt_of_block hrow) (hm g rfl)).trans hrow, hn, hc, hsz, htk⟩

section
variable {M : List Nat} {w y : World}
theorem Off.row (h : Off M w y) {g : Nat} {o : Obj} (hr : w.heap[g]? = some o) (hg : g ∉ M) : y.heap[g]? = some o := (h.block g (lt_of_block hr) hg).trans hr
theorem Off.rk {α : Type} {K : RK α} {a : Option Addr} {n : Nat} {l : List α} (h : Off M w y) (hr : K.At w a n l) (ha : ∀ x, a = some x → x.block ∉ M) : K.At y a n l := by
  refine ⟨hr.1, hr.2.1, ?_⟩
  rcases hr.2.2 with h0 | ⟨b, off, rfl, hl, hc⟩
  · exact .inl h0
  · refine .inr ⟨b, off, rfl, Nat.lt_of_lt_of_le hl h.size, fun j u hu => ?_⟩
    rw [← hc j u hu]
    simp only [World.cell?, h.block b hl (ha _ rfl)]
theorem Off.ints {k : IntKind} {a : Option Addr} {n : Nat} {l : List Int} (h : Off M w y) (hr : IntsK k w a n l) (ha : ∀ x, a = some x → x.block ∉ M) : IntsK k y a n l := by
  refine ⟨hr.1, hr.2.1, ?_⟩
  rcases hr.2.2 with h0 | ⟨b, off, rfl, hl, hc⟩
  · exact .inl h0
  · refine .inr ⟨b, off, rfl, Nat.lt_of_lt_of_le hl h.size, fun j hj => ?_⟩
    rw [← hc j hj]
    simp only [World.cell?, h.block b hl (ha _ rfl)]
/-- an object of the blocks B is of the blocks N now; nothing else has turned. -/
structure UpdO (B : List Nat) (w y : World) (N : List Nat) : Prop where
  off : Off B w y
  new : ∀ g ∈ N, g ∈ B ∨ w.heap.size ≤ g
theorem UpdO.refl (B : List Nat) (w : World) : UpdO B w w B := ⟨Off.refl B w, fun g h => .inl h⟩
theorem UpdO.of_below {B : List Nat} {w y : World} (h : Below w.heap.size w y) : UpdO B w y B := ⟨Off.of_below h, fun g h => .inl h⟩
theorem UpdO.trans {B N O : List Nat} {w y z : World} (h : UpdO B w y N) (k : UpdO N y z O) : UpdO B w z O :=
  ⟨h.off.trans k.off h.new, fun g hg => by rcases k.new g hg with h1 | h1; exact h.new g h1; exact .inr (Nat.le_trans h.off.size h1)⟩
theorem UpdO.next {B N : List Nat} {w y z : World} (h : UpdO B w y N) (k : Below y.heap.size y z) : UpdO B w z N := h.trans (UpdO.of_below k)
end
end Go.Proofs.Ytjdcmhclamjcjaa
namespace Go.Proofs.Ytjdcmhclamjcjaa
open Go.RowKit
set_option linter.unusedVariables false

def within (n lo hi : Int) : Int := if lo ≤ n ∧ n ≤ hi then n else lo + n % (hi - lo + 1)
theorem within_in (n lo hi : Int) (h : lo ≤ hi) : lo ≤ within n lo hi ∧ within n lo hi ≤ hi := by
  unfold within
  split
  · omega
  · have := Int.emod_nonneg n (show hi - lo + 1 ≠ 0 by omega)
    have := Int.emod_lt_of_pos n (show 0 < hi - lo + 1 by omega)
    omega
theorem tmod_emod (n d : Int) (hd : 0 < d) : (if n.tmod d < 0 then n.tmod d + d else n.tmod d) = n % d := by
  rcases Int.lt_or_le n 0 with h | h
  · by_cases hz : n.tmod d = 0
    · rw [hz]; simp
      have : d ∣ n := Int.dvd_of_tmod_eq_zero hz
      exact (Int.emod_eq_zero_of_dvd this).symm
    · have hn : n.tmod d < 0 := by
        have h2 := Int.neg_tmod n d
        have h3 := Int.tmod_nonneg d (show 0 ≤ -n by omega)
        omega
      rw [if_pos hn]
      have e := Int.tmod_add_mul_tdiv n d
      have hl : -d < n.tmod d := by
        have := Int.lt_tmod_of_pos n hd
        omega
      have : (n.tmod d + d) % d = n % d := by
        rw [Int.add_emod_right]
        conv => rhs; rw [← e]
        simp
      rw [← this, Int.emod_eq_of_lt (by omega) (by omega)]
  · rw [Int.tmod_eq_emod_of_nonneg h, if_neg]
    have := Int.emod_nonneg n (show d ≠ 0 by omega)
    omega

set_option maxRecDepth 100000 in
set_option maxHeartbeats 400000 in
theorem within_any (w : World) (n lo hi : Int) (h : lo ≤ hi) (hlo : -1125899906842624 ≤ lo) (hhi : hi ≤ 1125899906842624) (hn : -9223372036854775808 ≤ n ∧ n ≤ 9223372036854775807) :
    Calls Try.prog 14 #[.int .i64 n, .int .i64 lo, .int .i64 hi] w fun e w' => e = .returned (.int .i64 (within n lo hi)) ∧ w = w' := by
  by_cases h1 : lo ≤ n ∧ n ≤ hi
  · have e : within n lo hi = n := by unfold within; rw [if_pos h1]
    have E := Lib.hid e; clear e
    obtain ⟨h1, h2⟩ := h1
    go_enter Try.func14, Try.ntmps14
    go_wp2
    go_ret
    exact ⟨by rw [E.out]; rfl, rfl⟩
  · have hm := tmod_emod n (hi - lo + 1) (by omega)
    have hb1 := Int.tmod_lt_of_pos n (show 0 < hi - lo + 1 by omega)
    have hb2 := Int.lt_tmod_of_pos n (show 0 < hi - lo + 1 by omega)
    obtain ⟨r, hr⟩ : ∃ r, n.tmod (hi - lo + 1) = r := ⟨_, rfl⟩
    rw [hr] at hm hb1 hb2
    have e : within n lo hi = lo + (if r < 0 then r + (hi - lo + 1) else r) := by unfold within; rw [if_neg h1, hm]
    have E := Lib.hid e; clear e hm
    by_cases hlt : r < 0
    all_goals
      by_cases h3 : lo ≤ n
      · have h4 : hi < n := by omega
        clear h1
        go_enter Try.func14, Try.ntmps14
        go_wp2
        go_ret
        refine ⟨ret_int ?_, rfl⟩
        rw [E.out]
        first | (rw [if_pos hlt]; omega) | (rw [if_neg (by omega)])
      · clear h1
        go_enter Try.func14, Try.ntmps14
        go_wp2
        go_ret
        refine ⟨ret_int ?_, rfl⟩
        rw [E.out]
        first | (rw [if_pos hlt]; omega) | (rw [if_neg (by omega)])
theorem IntsK.take {k : IntKind} {w : World} {a : Option Addr} {len : Nat} {zs : List Int} (h : IntsK k w a len zs) (n : Nat) (hn : n ≤ len) : IntsK k w a n (zs.take n) := by
  refine ⟨by rw [List.length_take, h.1]; omega, fun x hx => h.2.1 x (List.mem_of_mem_take hx), ?_⟩
  rcases h.2.2 with h0 | ⟨b, off, rfl, hbl, hc⟩
  · exact .inl (by omega)
  · refine .inr ⟨b, off, rfl, hbl, fun i hi => ?_⟩
    rw [hc i (by omega)]
    simp [List.getD_eq_getElem?_getD, hi]
set_option maxRecDepth 100000 in
theorem cut_any (w : World) (a : Option Addr) (len cap : Nat) (n : Nat) (hl : len ≤ cap) (hc : cap ≤ 9223372036854775807) :
    Calls Try.prog 34 #[.slice a len cap, .int .i64 n] w fun e w' => e = .returned (.slice a (min len n) cap) ∧ w = w' := by
  by_cases h : n < len
  · have e : min len n = n := by omega
    have E := Lib.hid e; clear e
    go_enter Try.func34, Try.ntmps34
    go_wp2
    go_ret
    exact ⟨by rw [E.out]; rfl, rfl⟩
  · have e : min len n = len := by omega
    have E := Lib.hid e; clear e
    go_enter Try.func34, Try.ntmps34
    go_wp2
    go_ret
    exact ⟨by rw [E.out]; rfl, rfl⟩
set_option maxRecDepth 100000 in
theorem infoU8 : (Try.prog.info? 5).map (fun i => (i.zero, i.size, i.bytes)) = some (some (.int .u8 0), 1, 1) := by kernel_rfl
set_option maxRecDepth 100000 in
theorem infoU8s : (Try.prog.info? 5).map (·.size) = some 1 := by kernel_rfl
theorem own_full {w : World} {base e g n : Nat} {xs : List Value} (h : w.ownsRow base e 1 (.slice (some ⟨g, 0, none⟩) n n) n xs) : w.heap[g]? = some (.cells xs.toArray e (0, 0)) := by
  rcases h.2 with ⟨h1, _⟩ | ⟨g', cap, cur, hv, hg, hh, hn, hc, hcs, ht⟩
  · cases h1
  · injection hv with h1 h2 h3
    injection h1 with h1
    injection h1 with h1
    subst h1; subst h3
    rw [hh, ← ht]
    rw [List.take_of_length_le (by simp; omega)]
end Go.Proofs.Ytjdcmhclamjcjaa
namespace Go.Proofs.Ytjdcmhclamjcjaa
open Go.RowKit
set_option linter.unusedVariables false

def rotM (n k : Int) : Int := bits .or .u64 (IntKind.u64.wrap (n * 2 ^ (k % 64).toNat)) (n / 2 ^ (64 - k % 64).toNat)
def endM (h : Int) : Int :=
  bits .xor .u64 (IntKind.u64.wrap (bits .xor .u64 h (h / 536870912) * 13787848793156543929)) (IntKind.u64.wrap (bits .xor .u64 h (h / 536870912) * 13787848793156543929) / 4294967296)
def stepM (h c : Int) : Int := rotM (IntKind.u64.wrap (bits .xor .u64 h c * 1099511628211)) 23
def startM (key : Int) (len : Nat) : Int := IntKind.u64.wrap (bits .xor .u64 key 11400714819323198485 + len)
def keyedM (key : Int) (bs : List Int) : Int := endM (bs.foldl stepM (startM key bs.length))
def nextM (n : Int) : Int := endM (IntKind.u64.wrap (n + 11400714819323198485))
def bytesM (n : Int) : List Int :=
  [n / 72057594037927936 % 256, n / 281474976710656 % 256, n / 1099511627776 % 256, n / 4294967296 % 256, n / 16777216 % 256, n / 65536 % 256, n / 256 % 256, n % 256]
def numStep (n c : Int) : Int := bits .or .u64 (IntKind.u64.wrap (n * 256)) c
def numberM (bs : List Int) : Int := bs.foldl numStep 0

theorem and63 (k : Int) : bits .and .i64 k 63 = k % 64 := by
  show IntKind.i64.wrap ((BitVec.ofInt 64 k &&& BitVec.ofInt 64 63).toNat : Int) = _
  have h1 : (BitVec.ofInt 64 k &&& BitVec.ofInt 64 63).toNat = (BitVec.ofInt 64 k).toNat % 64 := by
    rw [BitVec.toNat_and]; exact Nat.and_two_pow_sub_one_eq_mod _ 6
  rw [h1, BitVec.toNat_ofInt]
  have h2 := Int.emod_nonneg k (show (64 : Int) ≠ 0 by omega)
  have h3 := Int.emod_lt_of_pos k (show (0 : Int) < 64 by omega)
  rw [IntKind.wrap_i64]
  have h4 : ((k % ((2 ^ 64 : Nat) : Int)).toNat : Int) = k % 18446744073709551616 := by
    rw [Int.toNat_of_nonneg (Int.emod_nonneg _ (by decide))]; rfl
  omega
theorem wf_u64_of {n : Int} (h0 : 0 ≤ n) (h1 : n < 18446744073709551616) : (Lit.int .u64 n).wf = true := by
  simp [Lit.wf, IntKind.min, IntKind.max, IntKind.signed, IntKind.bits]; omega
theorem wf_rot (n k : Int) : (Lit.int .u64 (rotM n k)).wf = true := wf_bits _ _ _ _
theorem wf_end (n : Int) : (Lit.int .u64 (endM n)).wf = true := wf_bits _ _ _ _
theorem wf_step (h c : Int) : (Lit.int .u64 (stepM h c)).wf = true := wf_rot _ _
theorem wf_start (k : Int) (n : Nat) : (Lit.int .u64 (startM k n)).wf = true := wf_wrap _ _
theorem wf_keyed (k : Int) (bs : List Int) : (Lit.int .u64 (keyedM k bs)).wf = true := wf_end _
theorem wf_next (n : Int) : (Lit.int .u64 (nextM n)).wf = true := wf_end _
theorem wf_u8_of {n : Int} (h0 : 0 ≤ n) (h1 : n < 256) : (Lit.int .u8 n).wf = true := by
  simp [Lit.wf, IntKind.min, IntKind.max, IntKind.signed, IntKind.bits]; omega
theorem wf_bytes (n : Int) : ∀ x ∈ bytesM n, (Lit.int .u8 x).wf = true := by
  intro x hx
  have h : ∃ y : Int, x = y % 256 := by
    simp [bytesM] at hx
    rcases hx with rfl | rfl | rfl | rfl | rfl | rfl | rfl | rfl <;> exact ⟨_, rfl⟩
  obtain ⟨y, rfl⟩ := h
  exact wf_u8_of (Int.emod_nonneg _ (by decide)) (Int.emod_lt_of_pos _ (by decide))
theorem foldl_take {f : Int → Int → Int} {s : Int} {l : List Int} {j : Nat} (h : j < l.length) : (l.take (j + 1)).foldl f s = f ((l.take j).foldl f s) (l.getD j 0) := by
  rw [List.take_succ_eq_append_getElem h, List.foldl_append, List.getD_eq_getElem?_getD, List.getElem?_eq_getElem h]; rfl

theorem numStep_add {n c : Int} (h0 : 0 ≤ n) (h1 : n < 72057594037927936) (c0 : 0 ≤ c) (c1 : c < 256) : numStep n c = n * 256 + c := by
  unfold numStep
  rw [IntWalk.u64_in _ ⟨by omega, by omega⟩, u64_or _ _ (by omega) (by omega) c0 (by omega)]
  have hj := nat_join 8 (n * 256).toNat c.toNat (by omega) (by omega)
  rw [hj]; omega
theorem num8 (x0 x1 x2 x3 x4 x5 x6 x7 : Int) (h : ∀ x ∈ [x0, x1, x2, x3, x4, x5, x6, x7], 0 ≤ x ∧ x ≤ 255) :
    numberM [x0, x1, x2, x3, x4, x5, x6, x7] = ((((((x0 * 256 + x1) * 256 + x2) * 256 + x3) * 256 + x4) * 256 + x5) * 256 + x6) * 256 + x7 := by
  have h0 := h x0 (by simp)
  have h1 := h x1 (by simp)
  have h2 := h x2 (by simp)
  have h3 := h x3 (by simp)
  have h4 := h x4 (by simp)
  have h5 := h x5 (by simp)
  have h6 := h x6 (by simp)
  have h7 := h x7 (by simp)
  simp only [numberM, List.foldl]
  rw [numStep_add (by omega) (by omega) h0.1 (by omega), Int.zero_mul, Int.zero_add]
  rw [numStep_add (n := x0) (by omega) (by omega) h1.1 (by omega)]
  rw [numStep_add (n := x0 * 256 + x1) (by omega) (by omega) h2.1 (by omega)]
  rw [numStep_add (c := x3) (by omega) (by omega) h3.1 (by omega)]
  rw [numStep_add (c := x4) (by omega) (by omega) h4.1 (by omega)]
  rw [numStep_add (c := x5) (by omega) (by omega) h5.1 (by omega)]
  rw [numStep_add (c := x6) (by omega) (by omega) h6.1 (by omega)]
  rw [numStep_add (c := x7) (by omega) (by omega) h7.1 (by omega)]
theorem number_bytes (n : Int) (hw : (Lit.int .u64 n).wf = true) : numberM (bytesM n) = n := by
  have hb : 0 ≤ n ∧ n < 18446744073709551616 := by
    have h := hw
    simp [Lit.wf, IntKind.min, IntKind.max, IntKind.signed, IntKind.bits] at h; omega
  have h := num8 (n / 72057594037927936 % 256) (n / 281474976710656 % 256) (n / 1099511627776 % 256) (n / 4294967296 % 256) (n / 16777216 % 256) (n / 65536 % 256) (n / 256 % 256) (n % 256)
    (by intro x hx; have := bounds_u8 (wf_bytes n x (by simpa [bytesM] using hx)); omega)
  have e2 : n / 65536 = n / 256 / 256 := by omega
  have e3 : n / 16777216 = n / 65536 / 256 := by omega
  have e4 : n / 4294967296 = n / 16777216 / 256 := by omega
  have e5 : n / 1099511627776 = n / 4294967296 / 256 := by omega
  have e6 : n / 281474976710656 = n / 1099511627776 / 256 := by omega
  have e7 : n / 72057594037927936 = n / 281474976710656 / 256 := by omega
  have e8 : 0 ≤ n / 72057594037927936 ∧ n / 72057594037927936 < 256 := by omega
  unfold bytesM
  rw [h]
  clear h hw
  generalize n / 72057594037927936 = q7 at *
  generalize n / 281474976710656 = q6 at *
  generalize n / 1099511627776 = q5 at *
  generalize n / 4294967296 = q4 at *
  generalize n / 16777216 = q3 at *
  generalize n / 65536 = q2 at *
  omega
theorem bytes_number (xs : List Int) (hl : xs.length = 8) (hw : ∀ x ∈ xs, (Lit.int .u8 x).wf = true) : bytesM (numberM xs) = xs := by
  match xs, hl with
  | [x0, x1, x2, x3, x4, x5, x6, x7], _ =>
    have b : ∀ x ∈ [x0, x1, x2, x3, x4, x5, x6, x7], 0 ≤ x ∧ x ≤ 255 := fun x hx => bounds_u8 (hw x hx)
    rw [num8 _ _ _ _ _ _ _ _ b]
    have h0 := b x0 (by simp)
    have h1 := b x1 (by simp)
    have h2 := b x2 (by simp)
    have h3 := b x3 (by simp)
    have h4 := b x4 (by simp)
    have h5 := b x5 (by simp)
    have h6 := b x6 (by simp)
    have h7 := b x7 (by simp)
    simp only [bytesM, List.cons.injEq, and_true]
    refine ⟨?_, ?_, ?_, ?_, ?_, ?_, ?_, ?_⟩ <;> omega
theorem wf_number (xs : List Int) (hl : xs.length = 8) (hw : ∀ x ∈ xs, (Lit.int .u8 x).wf = true) : (Lit.int .u64 (numberM xs)).wf = true := by
  match xs, hl with
  | [x0, x1, x2, x3, x4, x5, x6, x7], _ =>
    have b : ∀ x ∈ [x0, x1, x2, x3, x4, x5, x6, x7], 0 ≤ x ∧ x ≤ 255 := fun x hx => bounds_u8 (hw x hx)
    rw [num8 _ _ _ _ _ _ _ _ b]
    have h0 := b x0 (by simp)
    have h1 := b x1 (by simp)
    have h2 := b x2 (by simp)
    have h3 := b x3 (by simp)
    have h4 := b x4 (by simp)
    have h5 := b x5 (by simp)
    have h6 := b x6 (by simp)
    have h7 := b x7 (by simp)
    exact wf_u64_of (by omega) (by omega)
end Go.Proofs.Ytjdcmhclamjcjaa
namespace Go.Proofs.Ytjdcmhclamjcjaa.Kc
open Go.RowKit
set_option linter.unusedVariables false
set_option linter.unusedSimpArgs false

theorem len8 {xs : List Int} (h : xs.length = 8) : ∃ x0 x1 x2 x3 x4 x5 x6 x7, xs = [x0, x1, x2, x3, x4, x5, x6, x7] := by
  match xs, h with
  | [x0, x1, x2, x3, x4, x5, x6, x7], _ => exact ⟨x0, x1, x2, x3, x4, x5, x6, x7, rfl⟩
theorem set8c {w : World} {b : Nat} {u0 u1 u2 u3 u4 u5 u6 u7 : Value} {t : TypeId} (h : w.heap[b]? = some (.cells #[u0, u1, u2, u3, u4, u5, u6, u7] t (0, 0))) (x0 x1 x2 x3 x4 x5 x6 x7 : Value) :
    At ((((((((w.setCell ⟨b, 0, none⟩ (x0)).setCell ⟨b, 1, none⟩ (x1)).setCell ⟨b, 2, none⟩ (x2)).setCell ⟨b, 3, none⟩ (x3)).setCell ⟨b, 4, none⟩ (x4)).setCell ⟨b, 5, none⟩ (x5)).setCell ⟨b, 6, none⟩ (x6)).setCell ⟨b, 7, none⟩ (x7)) b #[x0, x1, x2, x3, x4, x5, x6, x7] t w := by
  have h0 := At.base h
  have k0 : At _ b #[x0, u1, u2, u3, u4, u5, u6, u7] t w := (h0.set 0 x0).conv (by rfl)
  have k1 : At _ b #[x0, x1, u2, u3, u4, u5, u6, u7] t w := (k0.set 1 x1).conv (by rfl)
  have k2 : At _ b #[x0, x1, x2, u3, u4, u5, u6, u7] t w := (k1.set 2 x2).conv (by rfl)
  have k3 : At _ b #[x0, x1, x2, x3, u4, u5, u6, u7] t w := (k2.set 3 x3).conv (by rfl)
  have k4 : At _ b #[x0, x1, x2, x3, x4, u5, u6, u7] t w := (k3.set 4 x4).conv (by rfl)
  have k5 : At _ b #[x0, x1, x2, x3, x4, x5, u6, u7] t w := (k4.set 5 x5).conv (by rfl)
  have k6 : At _ b #[x0, x1, x2, x3, x4, x5, x6, u7] t w := (k5.set 6 x6).conv (by rfl)
  have k7 : At _ b #[x0, x1, x2, x3, x4, x5, x6, x7] t w := (k6.set 7 x7).conv (by rfl)
  exact k7
theorem row8 {w : World} {b : Nat} {u0 u1 u2 u3 u4 u5 u6 u7 : Value} {t : TypeId} (h : w.heap[b]? = some (.cells #[u0, u1, u2, u3, u4, u5, u6, u7] t (0, 0))) :
    w.cell? ⟨b, 0, none⟩ = some u0 ∧ w.cell? ⟨b, 1, none⟩ = some u1 ∧ w.cell? ⟨b, 2, none⟩ = some u2 ∧ w.cell? ⟨b, 3, none⟩ = some u3 ∧ w.cell? ⟨b, 4, none⟩ = some u4 ∧ w.cell? ⟨b, 5, none⟩ = some u5 ∧ w.cell? ⟨b, 6, none⟩ = some u6 ∧ w.cell? ⟨b, 7, none⟩ = some u7 :=
  ⟨row_cell h 0 _ rfl, row_cell h 1 _ rfl, row_cell h 2 _ rfl, row_cell h 3 _ rfl, row_cell h 4 _ rfl, row_cell h 5 _ rfl, row_cell h 6 _ rfl, row_cell h 7 _ rfl⟩
theorem free8 {w : World} {b : Nat} {cs : Array Value} {t : TypeId} (h : w.heap[b]? = some (.cells cs t (0, 0))) :
    w.frozen? ⟨b, 0, none⟩ = false ∧ w.frozen? ⟨b, 1, none⟩ = false ∧ w.frozen? ⟨b, 2, none⟩ = false ∧ w.frozen? ⟨b, 3, none⟩ = false ∧ w.frozen? ⟨b, 4, none⟩ = false ∧ w.frozen? ⟨b, 5, none⟩ = false ∧ w.frozen? ⟨b, 6, none⟩ = false ∧ w.frozen? ⟨b, 7, none⟩ = false :=
  ⟨row_free h 0, row_free h 1, row_free h 2, row_free h 3, row_free h 4, row_free h 5, row_free h 6, row_free h 7⟩
def cidM (n : Int) : List Int := [1, within n 0 1048576 % 5, 7, 0, 0, 0, 0, 0]
theorem cidM_wf (n : Int) : ∀ x ∈ cidM n, (Lit.int .u8 x).wf = true := by
  intro x hx
  simp only [cidM, List.mem_cons, List.not_mem_nil, or_false] at hx
  rcases hx with rfl | rfl | rfl | rfl | rfl | rfl | rfl | rfl
  case inr.inl => exact wf_u8_of (by omega) (by omega)
  all_goals decide
set_option maxRecDepth 100000 in
theorem kcid_any (w : World) (n : Int) (hn : -9223372036854775808 ≤ n ∧ n ≤ 9223372036854775807) : Makes Try.prog 35 #[.int .i64 n] w (.agg ((cidM n).map (Value.int .u8)).toArray) := by
  have hwi := within_in n 0 1048576 (by omega)
  have HW := Lib.hid (fun w => within_any w n 0 1048576 (by omega) (by omega) (by omega) hn)
  have HE : Hid ((cidM n).map (Value.int .u8) = [.int .u8 1, .int .u8 (within n 0 1048576 % 5), .int .u8 7, .int .u8 0, .int .u8 0, .int .u8 0, .int .u8 0, .int .u8 0]) := Lib.hid rfl
  obtain ⟨k, hk⟩ : ∃ k, within n 0 1048576 = k := ⟨_, rfl⟩
  rw [hk] at HW hwi HE
  clear hk
  go_enter Try.func35, Try.ntmps35
  go_wp2_with fail
  refine Calls.mono (HW.out _) ?_
  have hrow := heap_alloc_new w (.cells #[.int .u8 0, .int .u8 0, .int .u8 0, .int .u8 0, .int .u8 0, .int .u8 0, .int .u8 0, .int .u8 0] 38)
  have hbW := (Below.refl w.heap.size w).alloc (Nat.le_refl _) (.cells #[.int .u8 0, .int .u8 0, .int .u8 0, .int .u8 0, .int .u8 0, .int .u8 0, .int .u8 0, .int .u8 0] 38)
  generalize w.alloc (.cells #[.int .u8 0, .int .u8 0, .int .u8 0, .int .u8 0, .int .u8 0, .int .u8 0, .int .u8 0, .int .u8 0] 38) = W at hrow hbW ⊢
  rintro e w1 ⟨rfl, rfl⟩
  obtain ⟨g, hg⟩ : ∃ g, w.heap.size = g := ⟨_, rfl⟩
  rw [hg] at hrow ⊢
  have HG := Lib.hid hg
  clear hg
  obtain ⟨z0, z1, z2, z3, z4, z5, z6, z7⟩ := row8 hrow
  obtain ⟨f0, f1, f2, f3, f4, f5, f6, f7⟩ := free8 hrow
  have HR := Lib.hid hrow; have HB := Lib.hid hbW
  clear hrow hbW
  obtain ⟨x, hx⟩ : ∃ x, k % 5 = x := ⟨_, rfl⟩
  have hxb : 0 ≤ x ∧ x < 5 := by omega
  go_wp2_with fail
  simp only [hx]
  have hA := set8c HR.out (.int .u8 1) (.int .u8 x) (.int .u8 7) (.int .u8 0) (.int .u8 0) (.int .u8 0) (.int .u8 0) (.int .u8 0)
  generalize ((((((((W.setCell ⟨g, 0, none⟩ (.int .u8 1)).setCell ⟨g, 1, none⟩ (.int .u8 x)).setCell ⟨g, 2, none⟩ (.int .u8 7)).setCell ⟨g, 3, none⟩ (.int .u8 0)).setCell ⟨g, 4, none⟩ (.int .u8 0)).setCell ⟨g, 5, none⟩ (.int .u8 0)).setCell ⟨g, 6, none⟩ (.int .u8 0)).setCell ⟨g, 7, none⟩ (.int .u8 0)) = W9 at hA ⊢
  have hLZ : Below w.heap.size w W9 := HB.out.grown hA.rest HB.out.size (by intro k hk; injection hk with hk; have := HG.out; omega)
  obtain ⟨e0, e1, e2, e3, e4, e5, e6, e7⟩ := row8 hA.row
  rw [HE.out, hx]
  exact bodyPost_ret (v := .agg #[.int .u8 1, .int .u8 x, .int .u8 7, .int .u8 0, .int .u8 0, .int .u8 0, .int .u8 0, .int .u8 0]) (by simp [results, Try.results35, go_sem, e0, e1, e2, e3, e4, e5, e6, e7]) rfl ⟨rfl, hLZ⟩
end Go.Proofs.Ytjdcmhclamjcjaa.Kc
namespace Go.Proofs.Ytjdcmhclamjcjaa
open Go.RowKit
set_option linter.unusedVariables false
set_option linter.unusedSimpArgs false

structure Fr where
  kind : Int
  st : Int
  of_ : Int
  data : List Int
  fin : Bool
  li : Int
  co : Int
  fi : Int
  se : Int
  de : Int
  rg : List (Int × Int)
  cid : List Int
def U64 (n : Int) : Prop := 0 ≤ n ∧ n < 18446744073709551616
def rgK : RK (Int × Int) := ⟨2, fun x => [.int .u64 x.1, .int .u64 x.2], fun x => U64 x.1 ∧ U64 x.2, by omega, by omega, fun _ _ => rfl, fun x _ v hv => by
  simp only [List.mem_cons, List.not_mem_nil, or_false] at hv; rcases hv with rfl | rfl <;> rfl⟩
/-- numbers that may be. -/
structure Fr.Wf (f : Fr) : Prop where
  kind : -9223372036854775808 ≤ f.kind ∧ f.kind ≤ 9223372036854775807
  st : U64 f.st
  of_ : U64 f.of_
  li : U64 f.li
  co : U64 f.co
  fi : U64 f.fi
  se : U64 f.se
  de : U64 f.de
  cidl : f.cid.length = 8
  cid : ∀ x ∈ f.cid, (Lit.int .u8 x).wf = true
def Fr.cells (f : Fr) (dv rv : Value) : List Value :=
  [.int .i64 f.kind, .int .u64 f.st, .int .u64 f.of_, dv, .bool f.fin, .int .u64 f.li, .int .u64 f.co, .int .u64 f.fi, .int .u64 f.se, .int .u64 f.de, rv] ++ f.cid.map (Value.int .u8)
/-- a frame in memory: its bytes and its ranges lie somewhere. -/
structure FrAt (w : World) (f : Fr) (dv rv : Value) : Prop where
  wf : f.Wf
  d : ∃ a n c, dv = .slice a n c ∧ n ≤ c ∧ c ≤ 9223372036854775807 ∧ IntsK .u8 w a n f.data
  r : ∃ a n c, rv = .slice a n c ∧ n ≤ c ∧ c ≤ 9223372036854775807 ∧ rgK.At w a n f.rg
theorem FrAt.below {w y : World} {f : Fr} {dv rv : Value} (h : FrAt w f dv rv) (hb : Below w.heap.size w y) : FrAt y f dv rv := by
  obtain ⟨wf, ⟨a, n, c, e, h1, h2, h3⟩, ⟨a', n', c', e', h1', h2', h3'⟩⟩ := h
  exact ⟨wf, ⟨a, n, c, e, h1, h2, h3.below hb⟩, ⟨a', n', c', e', h1', h2', h3'.below hb⟩⟩
def zeroF (k : Int) : Fr := ⟨k, 0, 0, [], false, 0, 0, 0, 0, 0, [], [0, 0, 0, 0, 0, 0, 0, 0]⟩
theorem FrAt.zero (w : World) (k : Int) (hk : -9223372036854775808 ≤ k ∧ k ≤ 9223372036854775807) : FrAt w (zeroF k) (.slice none 0 0) (.slice none 0 0) :=
  ⟨⟨hk, by simp [zeroF, U64], by simp [zeroF, U64], by simp [zeroF, U64], by simp [zeroF, U64], by simp [zeroF, U64], by simp [zeroF, U64], by simp [zeroF, U64], rfl, by intro x hx; simp [zeroF] at hx; subst hx; rfl⟩,
    ⟨none, 0, 0, rfl, Nat.le_refl _, by omega, IntsK.nil _ _ _⟩, ⟨none, 0, 0, rfl, Nat.le_refl _, by omega, RK.At.nil _ _⟩⟩
/-- ranges that rise: each has numbers, and the next one begins behind it. -/
def risesB : List (Int × Int) → Bool
  | [] => true
  | [x] => decide (x.1 < x.2)
  | x :: y :: l => decide (x.1 < x.2) && decide (x.2 < y.1) && risesB (y :: l)
def ackB (l : List (Int × Int)) : Bool := decide (1 ≤ l.length) && decide (l.length ≤ 16) && decide ((l.getLast?.getD (0, 0)).2 ≤ 4611686018427387904) && risesB l
def inB (n : Int) : Bool := decide (n ≤ 4611686018427387903)
def atB (off : Int) (n : Nat) : Bool := decide (n ≤ 512) && decide (off ≤ 1099511627776) && decide (off + n ≤ 1099511627776)
/-- may a frame be? -/
def rightB (f : Fr) : Bool :=
  if f.kind = 0 ∨ f.kind = 1 ∨ f.kind = 30 ∨ f.kind = 26 ∨ f.kind = 27 then true
  else if f.kind = 2 then ackB f.rg && inB f.de
  else if f.kind = 4 then inB f.st && inB f.co && decide (f.fi ≤ 1099511627776)
  else if f.kind = 5 then inB f.st && inB f.co
  else if f.kind = 6 then atB f.of_ f.data.length
  else if f.kind = 8 then inB f.st && atB f.of_ f.data.length
  else if f.kind = 16 then decide (f.li ≤ 1099511627776)
  else if f.kind = 17 then inB f.st && decide (f.li ≤ 1099511627776)
  else if f.kind = 18 then decide (f.li ≤ 1048576)
  else if f.kind = 20 then inB f.li
  else if f.kind = 24 then inB f.se && decide (f.li ≤ f.se)
  else if f.kind = 25 then inB f.se
  else if f.kind = 28 then inB f.co && decide (f.data.length ≤ 32)
  else false
end Go.Proofs.Ytjdcmhclamjcjaa
namespace Go.Proofs.Ytjdcmhclamjcjaa
open Go.RowKit
set_option linter.unusedVariables false

def toU (n : Int) : UInt8 := UInt8.ofNat n.toNat
theorem cell_toU {n : Int} (h : (Lit.int .u8 n).wf = true) : Extern.Stop.cell (toU n) = .int .u8 n := by
  have hb := bounds_u8 h
  have e : (toU n).toNat = n.toNat := by
    unfold toU; rw [UInt8.toNat_ofNat']; exact Nat.mod_eq_of_lt (by omega)
  unfold Extern.Stop.cell
  rw [e]; exact congrArg _ (Int.toNat_of_nonneg hb.1)
theorem map_toU {xs : List Int} (h : ∀ x ∈ xs, (Lit.int .u8 x).wf = true) : (xs.map toU).map Extern.Stop.cell = xs.map (Value.int .u8) := by
  rw [List.map_map]
  exact List.map_congr_left fun x hx => cell_toU (h x hx)
theorem toU_inj : ∀ {xs ys : List Int}, (∀ x ∈ xs, (Lit.int .u8 x).wf = true) → (∀ x ∈ ys, (Lit.int .u8 x).wf = true) → (xs.map toU == ys.map toU) = (xs == ys) := by
  intro xs ys hx hy
  rw [Bool.eq_iff_iff, beq_iff_eq, beq_iff_eq]
  constructor
  · intro h
    have h1 := congrArg (List.map Extern.Stop.cell) h
    rw [map_toU hx, map_toU hy] at h1
    exact List.map_inj_right (f := Value.int .u8) (by intro a b hab; injection hab) |>.1 h1
  · intro h; rw [h]
set_option maxRecDepth 100000 in
theorem sizeU8 (w : World) : (sizeOf 5).run Try.prog w = .ok 1 w := by kernel_rfl
theorem eqin_bytes (w : World) (t n : Nat) (ht : Try.prog.underlying t = some (.array n 5)) (xs ys : List Int) (hx : xs.length = n) (hy : ys.length = n)
    (wx : ∀ x ∈ xs, (Lit.int .u8 x).wf = true) (wy : ∀ x ∈ ys, (Lit.int .u8 x).wf = true) :
    (Op.equalIn 10000 t (.agg (xs.map (Value.int .u8)).toArray) (.agg (ys.map (Value.int .u8)).toArray)).run Try.prog w = .ok (xs == ys) w := by
  have h := run_equalIn_bytes (P := Try.prog) w 9998 t 5 n ht Try.underlying5 sizeU8 (xs.map toU) (ys.map toU) (by simp [hx]) (by simp [hy])
  rw [map_toU wx, map_toU wy, toU_inj wx wy] at h
  exact h
/-- a == b at [n]byte. -/
theorem eql_bytes (w : World) (t n : Nat) (ht : Try.prog.underlying t = some (.array n 5)) (xs ys : List Int) (hx : xs.length = n) (hy : ys.length = n)
    (wx : ∀ x ∈ xs, (Lit.int .u8 x).wf = true) (wy : ∀ x ∈ ys, (Lit.int .u8 x).wf = true) :
    (binOp .eql t (.agg (xs.map (Value.int .u8)).toArray) (.agg (ys.map (Value.int .u8)).toArray)).run Try.prog w = .ok (.bool (xs == ys)) w := by
  have h := run_eql_bytes (P := Try.prog) w t 5 n ht Try.underlying5 sizeU8 (xs.map toU) (ys.map toU) (by simp [hx]) (by simp [hy])
  rw [map_toU wx, map_toU wy, toU_inj wx wy] at h
  exact h
theorem neq_bytes (w : World) (t n : Nat) (ht : Try.prog.underlying t = some (.array n 5)) (xs ys : List Int) (hx : xs.length = n) (hy : ys.length = n)
    (wx : ∀ x ∈ xs, (Lit.int .u8 x).wf = true) (wy : ∀ x ∈ ys, (Lit.int .u8 x).wf = true) :
    (binOp .neq t (.agg (xs.map (Value.int .u8)).toArray) (.agg (ys.map (Value.int .u8)).toArray)).run Try.prog w = .ok (.bool (!(xs == ys))) w := by
  have h := run_equalIn_bytes (P := Try.prog) w 9998 t 5 n ht Try.underlying5 sizeU8 (xs.map toU) (ys.map toU) (by simp [hx]) (by simp [hy])
  rw [map_toU wx, map_toU wy, toU_inj wx wy] at h
  rw [run_neq_struct, h]
  rfl
end Go.Proofs.Ytjdcmhclamjcjaa
namespace Go.Proofs.Ytjdcmhclamjcjaa
open Go.RowKit
set_option linter.unusedVariables false

set_option maxRecDepth 100000 in
theorem end_any (w : World) (h : Int) : Quiet Try.prog 50 #[.int .u64 h] w (.int .u64 (endM h)) := by
  refine Quiet.same ?_
  go_enter Try.func50, Try.ntmps50
  go_wp2
  go_ret
  exact ⟨rfl, rfl⟩
set_option maxRecDepth 100000 in
theorem rend_any (w : World) (h : Int) : Quiet Try.prog 51 #[.int .u64 h] w (.int .u64 (endM h)) := by
  refine Quiet.same ?_
  go_enter Try.func51, Try.ntmps51
  go_wp2
  go_ret
  exact ⟨rfl, rfl⟩
set_option maxRecDepth 100000 in
theorem next_any (w : World) (n : Int) : Quiet Try.prog 43 #[.int .u64 n] w (.int .u64 (nextM n)) := by
  go_enter Try.func43, Try.ntmps43
  go_wp2_with fail
  refine Calls.mono (end_any _ _) ?_
  rintro e w' ⟨rfl, m, rfl⟩
  go_wp2_with fail
  go_ret
  exact ⟨rfl, _, rfl⟩
set_option maxRecDepth 100000 in
theorem rnext_any (w : World) (n : Int) : Quiet Try.prog 45 #[.int .u64 n] w (.int .u64 (nextM n)) := by
  go_enter Try.func45, Try.ntmps45
  go_wp2_with fail
  refine Calls.mono (rend_any _ _) ?_
  rintro e w' ⟨rfl, m, rfl⟩
  go_wp2_with fail
  go_ret
  exact ⟨rfl, _, rfl⟩
set_option maxRecDepth 100000 in
theorem bytes_any (w : World) (n : Int) : Calls Try.prog 44 #[.int .u64 n] w fun e w' => e = .returned (.agg ((bytesM n).map (Value.int .u8)).toArray) ∧ Below w.heap.size w w' := by
  go_enter Try.func44, Try.ntmps44
  go_wp2_with fail
  refine wp_loop_rounds 9 ?_
  repeat any_goals (rw [rounds_succ]; go_wp2_with fail)
  exact bodyPost_ret (v := .agg ((bytesM n).map (Value.int .u8)).toArray) (by simp [results, Try.results44, go_sem, bytesM]) rfl ⟨rfl, ((Below.refl _ _).alloc (Nat.le_refl _) _).alloc (by simp) _⟩
set_option maxRecDepth 100000 in
theorem rbytes_any (w : World) (n : Int) : Calls Try.prog 46 #[.int .u64 n] w fun e w' => e = .returned (.slice (some ⟨w.heap.size, 0, none⟩) 8 8) ∧
    Fresh w w' (.cells ((bytesM n).map (Value.int .u8)).toArray 5) := by
  have hmk : ∀ w, (Instr.makeSlice 25 (.int .i64 8) (.int .i64 8)).run Try.prog w = .ok (.slice (some ⟨w.heap.size, 0, none⟩) 8 8) (w.alloc (.cells #[.int .u8 0, .int .u8 0, .int .u8 0, .int .u8 0, .int .u8 0, .int .u8 0, .int .u8 0, .int .u8 0] 5)) := fun _ => by kernel_rfl
  go_enter Try.func46, Try.ntmps46
  go_wp2_with fail
  refine wp_loop_rounds 9 ?_
  repeat any_goals (rw [rounds_succ]; go_wp2_with fail)
  go_ret
  exact ⟨rfl, Fresh.of_alloc _ _⟩
end Go.Proofs.Ytjdcmhclamjcjaa
