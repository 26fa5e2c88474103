/- texts of the proof, laid together: Frx, Fry. -/
import Derived.Test.YtmbjepcbokbemaaU17
import Derived.Test.YtmbjepcbokbemaaU6
import Derived.Test.YtmbjepcbokbemaaU2
set_option linter.unusedVariables false
set_option linter.unusedSimpArgs false
set_option maxRecDepth 100000
set_option maxHeartbeats 16000000
namespace Go.Proofs.Ytmbjepcbokbemaa
open Go.RowKit
def regOps (c : Code) : List Oper := match c with
 | .region _ ops _ => ops.toList
 | _ => []
def regF (f : Func) : List Oper := regOps ((f.body.bind (subRegion 2)).getD .skip)
def dstS (i : Nat) : Nat := if i = 77 then 0 else i + 2
def kdS (i : Nat) : Nat := ([0, 0, 1, 1, 3, 3, 4, 1, 2, 0, 1, 2, 0, 1, 1, 2, 0, 0, 1, 2, 0, 3, 4, 1, 2, 0, 7, 2, 0, 3, 0, 0, 3, 4, 0, 3, 0, 3, 4, 0, 0, 5, 0, 5, 0, 5, 0, 0, 6, 5, 0, 0, 0, 0, 0, 0, 0, 3, 0, 8, 0, 0, 3, 0, 8, 0, 0, 5, 0, 5, 0, 0, 0, 0, 0, 0, 9, 9] : List Nat).getD i 0
structure Kin (w0 w w' : World) : Prop where
 os : w'.os = w.os
 tape : w'.tape = w.tape
 output : w'.output = w.output
 size : w.heap.size ≤ w'.heap.size
 low : ∀ i, i < w0.heap.size → w'.heap[i]? = w.heap[i]?
 row : ∀ (g : Nat) (cs : Array Value) (t : TypeId) (fr : Nat × Nat), w.heap[g]? = some (.cells cs t fr) → ∃ fr', w'.heap[g]? = some (.cells cs t fr')
 cell : ∀ (x : Addr) (v : Value), w.cell? x = some v → w'.cell? x = some v
theorem Kin.refl (w0 w : World) : Kin w0 w w := ⟨rfl, rfl, rfl, Nat.le_refl _, fun _ _ => rfl, fun _ _ _ fr h => ⟨fr, h⟩, fun _ _ h => h⟩
theorem cell_lt {w : World} {x : Addr} {v : Value} (h : w.cell? x = some v) : x.block < w.heap.size := by
 by_cases hb : x.block < w.heap.size
 ·
  exact hb
 ·
  unfold World.cell? at h; simp [Array.getElem?_eq_none (Nat.le_of_not_lt hb)] at h
theorem Kin.of {w0 w w' : World} (hs : w0.heap.size ≤ w.heap.size) (h : Below w.heap.size w w') : Kin w0 w w' :=
 ⟨h.os, h.tape, h.output, h.size, fun i hi => h.block i (by omega), fun g cs t fr hg => ⟨fr, bl_row h (lt_of_block hg) hg⟩, fun x v hx => bl_cell h (cell_lt hx) hx⟩
theorem Kin.trans {w0 w w' w2 : World} (h : Kin w0 w w') (k : Kin w0 w' w2) : Kin w0 w w2 :=
 ⟨k.os.trans h.os, k.tape.trans h.tape, k.output.trans h.output, Nat.le_trans h.size k.size, fun i hi => (k.low i hi).trans (h.low i hi), fun g cs t fr hg => by obtain ⟨f1, h1⟩ := h.row g cs t fr hg; exact k.row g cs t f1 h1, fun x v hx => k.cell x v (h.cell x v hx)⟩
theorem IntsK.kin {k : IntKind} {w0 w y : World} {a : Option Addr} {n : Nat} {zs : List Int} (h : IntsK k w a n zs) (hk : Kin w0 w y) : IntsK k y a n zs := by
 refine ⟨h.1, h.2.1, ?_⟩
 rcases h.2.2 with h0 | ⟨b, off, ha, hl, hc⟩
 ·
  exact .inl h0
 ·
  exact .inr ⟨b, off, ha, Nat.lt_of_lt_of_le hl hk.size, fun i hi => hk.cell _ _ (hc i hi)⟩
theorem RK.At.kin {α : Type} {K : RK α} {w0 w y : World} {a : Option Addr} {n : Nat} {l : List α} (h : K.At w a n l) (hk : Kin w0 w y) : K.At y a n l := by
 refine ⟨h.1, h.2.1, ?_⟩
 rcases h.2.2 with h0 | ⟨b, off, ha, hl, hc⟩
 ·
  exact .inl h0
 ·
  exact .inr ⟨b, off, ha, Nat.lt_of_lt_of_le hl hk.size, fun i v hi => hk.cell _ _ (hc i v hi)⟩
theorem FrAt.kin {w0 w y : World} {f : Fr} {dv rv : Value} (h : FrAt w f dv rv) (hk : Kin w0 w y) : FrAt y f dv rv := by
 obtain ⟨wf, ⟨a, n, c, rfl, h1, h2, h3⟩, ⟨a', n', c', rfl, h1', h2', h3'⟩⟩ := h
 exact ⟨wf, ⟨a, n, c, rfl, h1, h2, h3.kin hk⟩, ⟨a', n', c', rfl, h1', h2', h3'.kin hk⟩⟩
def GS (w0 : World) (k : Nat) (v : Value) (w : World) : Prop := match k with
 | 0 => ∃ (f : Fr) (dv rv : Value), v = .agg (f.cells dv rv).toArray ∧ FrAt w f dv rv ∧ f.data.length ≤ 1000 ∧ f.rg.length ≤ 1000
 | 1 => ∃ x : Int × Int, v = .agg (rgK.enc x).toArray ∧ rgK.ok x
 | 2 => ∃ a n c l, v = .slice a n c ∧ n ≤ c ∧ c ≤ 9223372036854775807 ∧ rgK.At w a n l ∧ n ≤ 1000
 | 3 => ∃ n, v = .int .u64 n ∧ 0 ≤ n ∧ n ≤ 4611686018427387903
 | 4 => ∃ n, v = .int .u64 n ∧ 0 ≤ n ∧ n ≤ 4611686018427387905
 | 5 => ∃ a n c l, v = .slice a n c ∧ n ≤ c ∧ c ≤ 9223372036854775807 ∧ IntsK .u8 w a n l ∧ n ≤ 1000
 | 6 => ∃ g fr, v = .slice (some ⟨g, 0, none⟩) 3 3 ∧ w0.heap.size ≤ g ∧ w.heap[g]? = some (.cells #[.int .u8 97, .int .u8 98, .int .u8 99] 5 fr)
 | 7 => ∃ a l, v = .slice a 32 32 ∧ IntsK .u64 w a 32 l
 | 8 => ∃ c : List Int, v = .agg (c.map (Value.int .u8)).toArray ∧ c.length = 8 ∧ ∀ x ∈ c, (Lit.int .u8 x).wf = true
 | _ => ∃ a X, v = .slice a 39 39 ∧ FrsAt w a 39 X ∧ ∀ x ∈ X, x.f.data.length ≤ 1000 ∧ x.f.rg.length ≤ 1000
theorem GS.kin {w0 w y : World} {k : Nat} {v : Value} (h : GS w0 k v w) (hk : Kin w0 w y) : GS w0 k v y := by
 unfold GS at h ⊢
 split at h
 ·
  obtain ⟨f, dv, rv, e, h1, h2⟩ := h; exact ⟨f, dv, rv, e, h1.kin hk, h2⟩
 ·
  exact h
 ·
  obtain ⟨a, n, c, l, e, h1, h2, h3, h4⟩ := h; exact ⟨a, n, c, l, e, h1, h2, h3.kin hk, h4⟩
 ·
  exact h
 ·
  exact h
 ·
  obtain ⟨a, n, c, l, e, h1, h2, h3, h4⟩ := h; exact ⟨a, n, c, l, e, h1, h2, h3.kin hk, h4⟩
 ·
  obtain ⟨g, fr, e, h1, h2⟩ := h; obtain ⟨f2, h3⟩ := hk.row _ _ _ _ h2; exact ⟨g, f2, e, h1, h3⟩
 ·
  obtain ⟨a, l, e, h1⟩ := h; exact ⟨a, l, e, h1.kin hk⟩
 ·
  exact h
 ·
  obtain ⟨a, X, e, h1, h2⟩ := h; exact ⟨a, X, e, ⟨h1.row.kin hk, fun x hx => (h1.fr x hx).kin hk⟩, h2⟩
def StepS (w0 : World) (i : Nat) : Prop := ∀ (o : Oper) (a : Act) (w : World) (K : Act → World → Prop) (Q : Exit → Act → World → Prop), (regF Try.f15)[i]? = some o → w0.heap.size ≤ w.heap.size → a.tmps.getD 1 undef = .int .u64 4611686018427387903 →
 (∀ j, (o.after.any fun e => Region.binds .any e && e.on == j) = true → GS w0 (kdS j) (a.tmps.getD (dstS j) undef) w) → (∀ v w', GS w0 (kdS i) v w' → Kin w0 w w' → K (a.put o.dst v) w') → Oper.wp Try.prog o a w K Q
theorem op_at {i : Nat} {o : Oper} {α : Type} {f : Oper → α} {x : α} (ho : (regF Try.f15)[i]? = some o) (h : ((regF Try.f15)[i]?).map f = some x) : f o = x := by
 rw [ho] at h; exact Option.some.inj h
theorem frGS {w0 w : World} {f : Fr} {dv rv : Value} (hw : f.Wf) (hd : ∃ a n c, dv = .slice a n c ∧ n ≤ c ∧ c ≤ 9223372036854775807 ∧ IntsK .u8 w a n f.data ∧ n ≤ 1000) (hr : ∃ a n c, rv = .slice a n c ∧ n ≤ c ∧ c ≤ 9223372036854775807 ∧ rgK.At w a n f.rg ∧ n ≤ 1000) : GS w0 0 (.agg (f.cells dv rv).toArray) w := by
 obtain ⟨a, n, c, rfl, h1, h2, h3, h4⟩ := hd
 obtain ⟨a', n', c', rfl, h1', h2', h3', h4'⟩ := hr
 exact ⟨f, _, _, rfl, ⟨hw, ⟨a, n, c, rfl, h1, h2, h3⟩, ⟨a', n', c', rfl, h1', h2', h3'⟩⟩, by rw [h3.1]; exact h4, by have := h3'.1; omega⟩
theorem noD {w : World} : ∃ a n c, (Value.slice none 0 0) = .slice a n c ∧ n ≤ c ∧ c ≤ 9223372036854775807 ∧ IntsK .u8 w a n [] ∧ n ≤ 1000 := ⟨none, 0, 0, rfl, Nat.le_refl _, by omega, IntsK.nil _ _ _, by omega⟩
theorem noR {w : World} : ∃ a n c, (Value.slice none 0 0) = .slice a n c ∧ n ≤ c ∧ c ≤ 9223372036854775807 ∧ rgK.At w a n [] ∧ n ≤ 1000 := ⟨none, 0, 0, rfl, Nat.le_refl _, by omega, RK.At.nil _ _, by omega⟩
theorem conv_markF (W : World) (g : Nat) (cs : Array Value) (l c : Nat) (fr : Nat × Nat) (h : W.heap[g]? = some (.cells cs 5 fr)) :
  (convert 25 25 (.slice (some ⟨g, 0, none⟩) l c)).run Try.prog W = .ok (.slice (some ⟨g, 0, none⟩) l c) (W.freeze ⟨g, cs.size, none⟩ 1) := by
 have hg := lt_of_block h
 simp [convert, run_underlying Try.underlying25, run_underlying Try.underlying5, markStringish, World.shape?, h]
theorem ranges_row {w0 w : World} (hs : w0.heap.size ≤ w.heap.size) (l : List (Int × Int)) (n : Nat) (hn : l.length = n) (ho : ∀ x ∈ l, rgK.ok x) (hk : n ≤ 1000) : GS w0 2 (.slice (some ⟨w.heap.size, 0, none⟩) n n) (w.alloc (.cells (rgK.flat l).toArray 71)) ∧ Kin w0 w (w.alloc (.cells (rgK.flat l).toArray 71)) := by
 subst hn
 exact ⟨⟨_, _, _, l, rfl, Nat.le_refl _, by omega, RK.At.of_row (K := rgK) (heap_alloc_new w _) ho, hk⟩, Kin.of hs ((Below.refl _ _).alloc (Nat.le_refl _) _)⟩
theorem wp_build_many {α : Type} {K : RK α} {E T : TypeId} {z : Value} {by_ : Nat} {o : Oper} {a : Act} {w : World} {J : Act → World → Prop} {Q : Exit → Act → World → Prop} (hT : RT K E T z by_) (parts : Array (Nat × Operand)) (l : List α) (n : Nat) (hn : l.length = n) (hn0 : 0 < n ∧ n ≤ 100) (ho : o.op = .buildSlice T n parts) (ht : ∀ x ∈ l, K.ok x) (hp : (parts.map fun (i, x) => (i, a.eval x)).toList = ((l.map fun x => Value.agg (K.enc x).toArray).zipIdx 0).map fun x => (x.2, x.1))
  (h : J (a.put o.dst (.slice (some ⟨w.heap.size, 0, none⟩) n n)) (w.alloc (.cells (K.flat l).toArray E))) : Oper.wp Try.prog o a w J Q := by
 obtain ⟨i0, hi, hz0, hz1, hz2⟩ := info_parts hT.i
 have hzl := hT.z
 have hpos := K.pos; have hsm := K.small
 have hb1 : n * K.N ≤ 100 * 1000 := Nat.mul_le_mul hn0.2 hsm
 have hb2 : 0 < n * K.N := Nat.mul_pos hn0.1 hpos
 refine wp_buildSlice T E n _ ho (K.flat l).toArray i0 _ hT.u hi hz0 (by rw [hz1]; omega) (by rw [hz1]; omega) ?_ h
 rw [hz1, hp]
 have hf := Great.fill_whole (s := K.N) K.pos (l.map fun x => Value.agg (K.enc x).toArray) ((Array.range (n * K.N)).map fun x => z.cells[x % z.cells.size]!) (by intro x hx; obtain ⟨y, hy, rfl⟩ := List.mem_map.1 hx; simp [Value.cells, K.len y (ht y hy)]) (by simp [hn])
 rw [List.flatMap_map] at hf
 simpa [Value.cells, RK.flat] using hf
theorem eight {c : List Int} (h : c.length = 8) : ∃ y0 y1 y2 y3 y4 y5 y6 y7, c = [y0, y1, y2, y3, y4, y5, y6, y7] := by
 match c, h with
 | [y0, y1, y2, y3, y4, y5, y6, y7], _ => exact ⟨_, _, _, _, _, _, _, _, rfl⟩
theorem kin_freeze {w0 w : World} {g n : Nat} (hg : w0.heap.size ≤ g) : Kin w0 w (w.freeze ⟨g, n, none⟩ 1) := by
 have hh : ∀ (i : Nat) (cs : Array Value) (t : TypeId) (fr : Nat × Nat), w.heap[i]? = some (Obj.cells cs t fr) → ∃ fr', (w.freeze ⟨g, n, none⟩ 1).heap[i]? = some (Obj.cells cs t fr') := by
  intro i cs t fr h
  by_cases hi : g = i
  ·
   subst hi; simp [World.freeze, Array.getElem?_modify, h]
  ·
   exact ⟨fr, by simp [World.freeze, Array.getElem?_modify, hi, h]⟩
 refine ⟨rfl, rfl, rfl, by simp [World.freeze], fun i hi => ?_, hh, fun x v hx => ?_⟩
 ·
  have hne : ¬ g = i := by omega
  simp [World.freeze, Array.getElem?_modify, hne]
 ·
  by_cases hi : g = x.block
  ·
   unfold World.cell? at hx ⊢
   cases ho : w.heap[x.block]? with
   | none => rw [ho] at hx; simp at hx
   | some ob =>
    rw [ho] at hx
    cases ob
    case cells c e fr => obtain ⟨f2, h2⟩ := hh _ _ _ _ ho; rw [h2]; exact hx
    all_goals (simp at hx; done)
  ·
   have : (w.freeze ⟨g, n, none⟩ 1).heap[x.block]? = w.heap[x.block]? := by simp [World.freeze, Array.getElem?_modify, hi]
   rw [World.cell?_of_block this]; exact hx
theorem mk_u8 (w : World) (n : Nat) (hn : n ≤ 1000) : ∃ w', (Instr.makeSlice 25 (.int .i64 (n : Int)) (.int .i64 (n : Int))).run Try.prog w = .ok (.slice (some ⟨w.heap.size, 0, none⟩) n n) w' ∧ IntsK .u8 w' (some ⟨w.heap.size, 0, none⟩) n (List.replicate n 0) ∧ Below w.heap.size w w' := by
 obtain ⟨i0, hi, hz0, hz1, hz2⟩ := info_parts (P := Try.prog) (e := 5) (z := .int .u8 0) (size := 1) (bytes := 1) (by kernel_rfl)
 obtain ⟨w', h1, h2, h3⟩ := run_makeSlice_full (P := Try.prog) w w.heap.size 25 5 i0 (.int .u8 0) 1 Try.underlying25 hi hz0 hz1 .i64 .i64 n (by omega) (by rw [hz2]; omega) (by unfold maxLen; omega) (Nat.le_refl _)
 rw [show (Value.int .u8 0).cells = #[Value.int .u8 0] from rfl, toList_madeCells_one, Nat.mul_one] at h2
 have h4 : w'.ownsRow w.heap.size 5 1 (.slice (some ⟨w.heap.size, 0, none⟩) n n) n ((List.replicate n 0).map (Value.int .u8)) := by rw [List.map_replicate]; exact h2
 obtain ⟨a, c, e, _, h5, _⟩ := ints_of_own h4 (fun x hx => by rw [(List.mem_replicate.1 hx).2]; rfl)
 injection e with e1 e2 e3
 subst e1
 exact ⟨w', h1, h5, (Below.refl w.heap.size w).grown h3 (Nat.le_refl _) (fun k hk => by cases hk)⟩
theorem mk_u64 (w : World) (n : Nat) (hn : n ≤ 1000) : ∃ w', (Instr.makeSlice 53 (.int .i64 (n : Int)) (.int .i64 (n : Int))).run Try.prog w = .ok (.slice (some ⟨w.heap.size, 0, none⟩) n n) w' ∧ IntsK .u64 w' (some ⟨w.heap.size, 0, none⟩) n (List.replicate n 0) ∧ Below w.heap.size w w' := by
 obtain ⟨i0, hi, hz0, hz1, hz2⟩ := info_parts (P := Try.prog) (e := 34) (z := .int .u64 0) (size := 1) (bytes := 8) (by kernel_rfl)
 obtain ⟨w', h1, h2, h3⟩ := run_makeSlice_full (P := Try.prog) w w.heap.size 53 34 i0 (.int .u64 0) 1 Try.underlying53 hi hz0 hz1 .i64 .i64 n (by omega) (by rw [hz2]; omega) (by unfold maxLen; omega) (Nat.le_refl _)
 rw [show (Value.int .u64 0).cells = #[Value.int .u64 0] from rfl, toList_madeCells_one, Nat.mul_one] at h2
 have h4 : w'.ownsRow w.heap.size 34 1 (.slice (some ⟨w.heap.size, 0, none⟩) n n) n ((List.replicate n 0).map (Value.int .u64)) := by rw [List.map_replicate]; exact h2
 obtain ⟨a, c, e, _, h5, _⟩ := ints_of_own h4 (fun x hx => by rw [(List.mem_replicate.1 hx).2]; rfl)
 injection e with e1 e2 e3
 subst e1
 exact ⟨w', h1, h5, (Below.refl w.heap.size w).grown h3 (Nat.le_refl _) (fun k hk => by cases hk)⟩
set_option maxRecDepth 100000
theorem som_0 (w0 : World) : StepS w0 0 := by
 intro o a w K Q ho hs h1 hG hK
 have hop := op_at (f := fun o => o.op) (x := .build 39 #[]) ho (by kernel_rfl)
 have hr : (execOp a.eval o).run Try.prog w = .ok (.value (.agg ((zeroF 0).cells (.slice none 0 0) (.slice none 0 0)).toArray)) w := by
  unfold execOp; rw [hop]; simp only [List.map_toArray, List.map_cons, List.map_nil, Act.eval]; kernel_rfl
 unfold Oper.wp; rw [hr]
 have hz := zero_wf 0 (by omega)
 exact hK _ _ (frGS (f := (zeroF 0)) ⟨hz.kind, hz.st, hz.of_, hz.li, hz.co, hz.fi, hz.se, hz.de, hz.cidl, hz.cid⟩ noD noR) (Kin.refl _ _)
theorem som_1 (w0 : World) : StepS w0 1 := by
 intro o a w K Q ho hs h1 hG hK
 have hop := op_at (f := fun o => o.op) (x := .build 39 #[(0, .const (.int .i64 1))]) ho (by kernel_rfl)
 have hr : (execOp a.eval o).run Try.prog w = .ok (.value (.agg ((zeroF 1).cells (.slice none 0 0) (.slice none 0 0)).toArray)) w := by
  unfold execOp; rw [hop]; simp only [List.map_toArray, List.map_cons, List.map_nil, Act.eval]; kernel_rfl
 unfold Oper.wp; rw [hr]
 have hz := zero_wf 1 (by omega)
 exact hK _ _ (frGS (f := (zeroF 1)) ⟨hz.kind, hz.st, hz.of_, hz.li, hz.co, hz.fi, hz.se, hz.de, hz.cidl, hz.cid⟩ noD noR) (Kin.refl _ _)
theorem som_2 (w0 : World) : StepS w0 2 := by
 intro o a w K Q ho hs h1 hG hK
 have hop := op_at (f := fun o => o.op) (x := .build 71 #[(0, .const (.int .u64 1)), (1, .const (.int .u64 2))]) ho (by kernel_rfl)
 have hr : (execOp a.eval o).run Try.prog w = .ok (.value (.agg (rgK.enc (1, 2)).toArray)) w := by
  unfold execOp; rw [hop]; simp only [List.map_toArray, List.map_cons, List.map_nil, Act.eval]; kernel_rfl
 unfold Oper.wp; rw [hr]
 exact hK _ _ ⟨(1, 2), rfl, ⟨by simp only; omega, by simp only; omega⟩, ⟨by simp only; omega, by simp only; omega⟩⟩ (Kin.refl _ _)
theorem som_3 (w0 : World) : StepS w0 3 := by
 intro o a w K Q ho hs h1 hG hK
 have hop := op_at (f := fun o => o.op) (x := .build 71 #[(0, .const (.int .u64 3)), (1, .const (.int .u64 9))]) ho (by kernel_rfl)
 have hr : (execOp a.eval o).run Try.prog w = .ok (.value (.agg (rgK.enc (3, 9)).toArray)) w := by
  unfold execOp; rw [hop]; simp only [List.map_toArray, List.map_cons, List.map_nil, Act.eval]; kernel_rfl
 unfold Oper.wp; rw [hr]
 exact hK _ _ ⟨(3, 9), rfl, ⟨by simp only; omega, by simp only; omega⟩, ⟨by simp only; omega, by simp only; omega⟩⟩ (Kin.refl _ _)
theorem som_4 (w0 : World) : StepS w0 4 := by
 intro o a w K Q ho hs h1 hG hK
 have hop := op_at (f := fun o => o.op) (x := .move (.tmp 1)) ho (by kernel_rfl)
 have hr : (execOp a.eval o).run Try.prog w = .ok (.value (.int .u64 4611686018427387903)) w := by
  unfold execOp; rw [hop]; simp only [List.map_toArray, List.map_cons, List.map_nil, Act.eval, h1]; rfl
 unfold Oper.wp; rw [hr]
 exact hK _ _ ⟨_, rfl, by omega, by omega⟩ (Kin.refl _ _)
theorem som_5 (w0 : World) : StepS w0 5 := by
 intro o a w K Q ho hs h1 hG hK
 have hop := op_at (f := fun o => o.op) (x := .move (.tmp 1)) ho (by kernel_rfl)
 have hr : (execOp a.eval o).run Try.prog w = .ok (.value (.int .u64 4611686018427387903)) w := by
  unfold execOp; rw [hop]; simp only [List.map_toArray, List.map_cons, List.map_nil, Act.eval, h1]; rfl
 unfold Oper.wp; rw [hr]
 exact hK _ _ ⟨_, rfl, by omega, by omega⟩ (Kin.refl _ _)
theorem som_6 (w0 : World) : StepS w0 6 := by
 intro o a w K Q ho hs h1 hG hK
 have hop := op_at (f := fun o => o.op) (x := .binOp .add 34 (.tmp 7) (.const (.int .u64 1)) 34) ho (by kernel_rfl)
 have g7 : GS w0 3 (a.tmps.getD 7 undef) w := hG 5 (op_at (f := fun o => o.after.any fun e => Region.binds .any e && e.on == 5) ho (by kernel_rfl))
 obtain ⟨x7, e7, p7, q7⟩ := g7
 have hr : (execOp a.eval o).run Try.prog w = .ok (.value (.int .u64 (x7 + 1))) w := by
  unfold execOp; rw [hop]; simp only [Act.eval, e7]
  have hw : (binOp .add 34 (.int .u64 x7) (.int .u64 1)).run Try.prog w = .ok (.int .u64 (x7 + 1)) w := by
   go_simp
   first | omega | (simp only [IntKind.wrap_u64]; omega) | (simp [IntKind.wrap, IntKind.signed, IntKind.bits]; omega)
  have hg : (eqGuard .add 34 (.tmp 7) (.const (.int .u64 1)) (.int .u64 x7) (.int .u64 1)).run Try.prog w = .ok () w := by kernel_rfl
  simp only [Sem.run_bind, hg, hw, Result.andThen_ok, Sem.run_pure]
 unfold Oper.wp; rw [hr]
 exact hK _ _ ⟨_, rfl, by omega, by omega⟩ (Kin.refl _ _)
theorem som_7 (w0 : World) : StepS w0 7 := by
 intro o a w K Q ho hs h1 hG hK
 have hop := op_at (f := fun o => o.op) (x := .build 71 #[(0, .tmp 6), (1, .tmp 8)]) ho (by kernel_rfl)
 have g6 : GS w0 3 (a.tmps.getD 6 undef) w := hG 4 (op_at (f := fun o => o.after.any fun e => Region.binds .any e && e.on == 4) ho (by kernel_rfl))
 obtain ⟨x6, e6, p6, q6⟩ := g6
 have g8 : GS w0 4 (a.tmps.getD 8 undef) w := hG 6 (op_at (f := fun o => o.after.any fun e => Region.binds .any e && e.on == 6) ho (by kernel_rfl))
 obtain ⟨x8, e8, p8, q8⟩ := g8
 have hr : (execOp a.eval o).run Try.prog w = .ok (.value (.agg (rgK.enc (x6, x8)).toArray)) w := by
  unfold execOp; rw [hop]; simp only [List.map_toArray, List.map_cons, List.map_nil, Act.eval, e6, e8]; kernel_rfl
 unfold Oper.wp; rw [hr]
 exact hK _ _ ⟨(x6, x8), rfl, ⟨by simp only; omega, by simp only; omega⟩, ⟨by simp only; omega, by simp only; omega⟩⟩ (Kin.refl _ _)
theorem som_8 (w0 : World) : StepS w0 8 := by
 intro o a w K Q ho hs h1 hG hK
 have hop := op_at (f := fun o => o.op) (x := .buildSlice 35 3 #[(0, .tmp 4), (1, .tmp 5), (2, .tmp 9)]) ho (by kernel_rfl)
 have g4 : GS w0 1 (a.tmps.getD 4 undef) w := hG 2 (op_at (f := fun o => o.after.any fun e => Region.binds .any e && e.on == 2) ho (by kernel_rfl))
 obtain ⟨x4, e4, ok4⟩ := g4
 have g5 : GS w0 1 (a.tmps.getD 5 undef) w := hG 3 (op_at (f := fun o => o.after.any fun e => Region.binds .any e && e.on == 3) ho (by kernel_rfl))
 obtain ⟨x5, e5, ok5⟩ := g5
 have g9 : GS w0 1 (a.tmps.getD 9 undef) w := hG 7 (op_at (f := fun o => o.after.any fun e => Region.binds .any e && e.on == 7) ho (by kernel_rfl))
 obtain ⟨x9, e9, ok9⟩ := g9
 have hrow := ranges_row hs [x4, x5, x9] 3 rfl (fun x hx => by simp only [List.mem_cons, List.not_mem_nil, or_false] at hx; rcases hx with rfl | rfl | rfl <;> assumption) (by omega)
 exact wp_build_many rgT _ [x4, x5, x9] 3 rfl (by omega) hop (fun x hx => by simp only [List.mem_cons, List.not_mem_nil, or_false] at hx; rcases hx with rfl | rfl | rfl <;> assumption) (by simp only [List.map_toArray, List.map_cons, List.map_nil, Act.eval, e4, e5, e9]; rfl) (hK _ _ hrow.1 hrow.2)
theorem som_9 (w0 : World) : StepS w0 9 := by
 intro o a w K Q ho hs h1 hG hK
 have hop := op_at (f := fun o => o.op) (x := .build 39 #[(0, .const (.int .i64 2)), (10, .tmp 10), (9, .const (.int .u64 5))]) ho (by kernel_rfl)
 have g10 : GS w0 2 (a.tmps.getD 10 undef) w := hG 8 (op_at (f := fun o => o.after.any fun e => Region.binds .any e && e.on == 8) ho (by kernel_rfl))
 obtain ⟨a10, n10, c10, l10, e10, p10, q10, I10, s10⟩ := g10
 have hr : (execOp a.eval o).run Try.prog w = .ok (.value (.agg (({ zeroF 2 with rg := l10, de := 5 } : Fr).cells (.slice none 0 0) (.slice a10 n10 c10)).toArray)) w := by
  unfold execOp; rw [hop]; simp only [List.map_toArray, List.map_cons, List.map_nil, Act.eval, e10]; kernel_rfl
 unfold Oper.wp; rw [hr]
 have hz := zero_wf 2 (by omega)
 exact hK _ _ (frGS (f := ({ zeroF 2 with rg := l10, de := 5 } : Fr)) ⟨hz.kind, hz.st, hz.of_, hz.li, hz.co, hz.fi, hz.se, (⟨by decide, by decide⟩ : (0 : Int) ≤ 5 ∧ (5 : Int) < 18446744073709551616), hz.cidl, hz.cid⟩ noD ⟨_, _, _, rfl, p10, q10, I10, s10⟩) (Kin.refl _ _)
theorem som_10 (w0 : World) : StepS w0 10 := by
 intro o a w K Q ho hs h1 hG hK
 have hop := op_at (f := fun o => o.op) (x := .build 71 #[(0, .const (.int .u64 0)), (1, .const (.int .u64 1))]) ho (by kernel_rfl)
 have hr : (execOp a.eval o).run Try.prog w = .ok (.value (.agg (rgK.enc (0, 1)).toArray)) w := by
  unfold execOp; rw [hop]; simp only [List.map_toArray, List.map_cons, List.map_nil, Act.eval]; kernel_rfl
 unfold Oper.wp; rw [hr]
 exact hK _ _ ⟨(0, 1), rfl, ⟨by simp only; omega, by simp only; omega⟩, ⟨by simp only; omega, by simp only; omega⟩⟩ (Kin.refl _ _)
theorem som_11 (w0 : World) : StepS w0 11 := by
 intro o a w K Q ho hs h1 hG hK
 have hop := op_at (f := fun o => o.op) (x := .buildSlice 35 1 #[(0, .tmp 12)]) ho (by kernel_rfl)
 have g12 : GS w0 1 (a.tmps.getD 12 undef) w := hG 10 (op_at (f := fun o => o.after.any fun e => Region.binds .any e && e.on == 10) ho (by kernel_rfl))
 obtain ⟨x12, e12, ok12⟩ := g12
 have hrow := ranges_row hs [x12] 1 rfl (fun x hx => by simp only [List.mem_cons, List.not_mem_nil, or_false] at hx; subst hx <;> assumption) (by omega)
 exact wp_build_many rgT _ [x12] 1 rfl (by omega) hop (fun x hx => by simp only [List.mem_cons, List.not_mem_nil, or_false] at hx; subst hx <;> assumption) (by simp only [List.map_toArray, List.map_cons, List.map_nil, Act.eval, e12]; rfl) (hK _ _ hrow.1 hrow.2)
theorem som_12 (w0 : World) : StepS w0 12 := by
 intro o a w K Q ho hs h1 hG hK
 have hop := op_at (f := fun o => o.op) (x := .build 39 #[(0, .const (.int .i64 2)), (10, .tmp 13)]) ho (by kernel_rfl)
 have g13 : GS w0 2 (a.tmps.getD 13 undef) w := hG 11 (op_at (f := fun o => o.after.any fun e => Region.binds .any e && e.on == 11) ho (by kernel_rfl))
 obtain ⟨a13, n13, c13, l13, e13, p13, q13, I13, s13⟩ := g13
 have hr : (execOp a.eval o).run Try.prog w = .ok (.value (.agg (({ zeroF 2 with rg := l13 } : Fr).cells (.slice none 0 0) (.slice a13 n13 c13)).toArray)) w := by
  unfold execOp; rw [hop]; simp only [List.map_toArray, List.map_cons, List.map_nil, Act.eval, e13]; kernel_rfl
 unfold Oper.wp; rw [hr]
 have hz := zero_wf 2 (by omega)
 exact hK _ _ (frGS (f := ({ zeroF 2 with rg := l13 } : Fr)) ⟨hz.kind, hz.st, hz.of_, hz.li, hz.co, hz.fi, hz.se, hz.de, hz.cidl, hz.cid⟩ noD ⟨_, _, _, rfl, p13, q13, I13, s13⟩) (Kin.refl _ _)
theorem som_13 (w0 : World) : StepS w0 13 := by
 intro o a w K Q ho hs h1 hG hK
 have hop := op_at (f := fun o => o.op) (x := .build 71 #[(0, .const (.int .u64 1)), (1, .const (.int .u64 2))]) ho (by kernel_rfl)
 have hr : (execOp a.eval o).run Try.prog w = .ok (.value (.agg (rgK.enc (1, 2)).toArray)) w := by
  unfold execOp; rw [hop]; simp only [List.map_toArray, List.map_cons, List.map_nil, Act.eval]; kernel_rfl
 unfold Oper.wp; rw [hr]
 exact hK _ _ ⟨(1, 2), rfl, ⟨by simp only; omega, by simp only; omega⟩, ⟨by simp only; omega, by simp only; omega⟩⟩ (Kin.refl _ _)
theorem som_14 (w0 : World) : StepS w0 14 := by
 intro o a w K Q ho hs h1 hG hK
 have hop := op_at (f := fun o => o.op) (x := .build 71 #[(0, .const (.int .u64 2)), (1, .const (.int .u64 9))]) ho (by kernel_rfl)
 have hr : (execOp a.eval o).run Try.prog w = .ok (.value (.agg (rgK.enc (2, 9)).toArray)) w := by
  unfold execOp; rw [hop]; simp only [List.map_toArray, List.map_cons, List.map_nil, Act.eval]; kernel_rfl
 unfold Oper.wp; rw [hr]
 exact hK _ _ ⟨(2, 9), rfl, ⟨by simp only; omega, by simp only; omega⟩, ⟨by simp only; omega, by simp only; omega⟩⟩ (Kin.refl _ _)
theorem som_15 (w0 : World) : StepS w0 15 := by
 intro o a w K Q ho hs h1 hG hK
 have hop := op_at (f := fun o => o.op) (x := .buildSlice 35 2 #[(0, .tmp 15), (1, .tmp 16)]) ho (by kernel_rfl)
 have g15 : GS w0 1 (a.tmps.getD 15 undef) w := hG 13 (op_at (f := fun o => o.after.any fun e => Region.binds .any e && e.on == 13) ho (by kernel_rfl))
 obtain ⟨x15, e15, ok15⟩ := g15
 have g16 : GS w0 1 (a.tmps.getD 16 undef) w := hG 14 (op_at (f := fun o => o.after.any fun e => Region.binds .any e && e.on == 14) ho (by kernel_rfl))
 obtain ⟨x16, e16, ok16⟩ := g16
 have hrow := ranges_row hs [x15, x16] 2 rfl (fun x hx => by simp only [List.mem_cons, List.not_mem_nil, or_false] at hx; rcases hx with rfl | rfl <;> assumption) (by omega)
 exact wp_build_many rgT _ [x15, x16] 2 rfl (by omega) hop (fun x hx => by simp only [List.mem_cons, List.not_mem_nil, or_false] at hx; rcases hx with rfl | rfl <;> assumption) (by simp only [List.map_toArray, List.map_cons, List.map_nil, Act.eval, e15, e16]; rfl) (hK _ _ hrow.1 hrow.2)
theorem som_16 (w0 : World) : StepS w0 16 := by
 intro o a w K Q ho hs h1 hG hK
 have hop := op_at (f := fun o => o.op) (x := .build 39 #[(0, .const (.int .i64 2)), (10, .tmp 17)]) ho (by kernel_rfl)
 have g17 : GS w0 2 (a.tmps.getD 17 undef) w := hG 15 (op_at (f := fun o => o.after.any fun e => Region.binds .any e && e.on == 15) ho (by kernel_rfl))
 obtain ⟨a17, n17, c17, l17, e17, p17, q17, I17, s17⟩ := g17
 have hr : (execOp a.eval o).run Try.prog w = .ok (.value (.agg (({ zeroF 2 with rg := l17 } : Fr).cells (.slice none 0 0) (.slice a17 n17 c17)).toArray)) w := by
  unfold execOp; rw [hop]; simp only [List.map_toArray, List.map_cons, List.map_nil, Act.eval, e17]; kernel_rfl
 unfold Oper.wp; rw [hr]
 have hz := zero_wf 2 (by omega)
 exact hK _ _ (frGS (f := ({ zeroF 2 with rg := l17 } : Fr)) ⟨hz.kind, hz.st, hz.of_, hz.li, hz.co, hz.fi, hz.se, hz.de, hz.cidl, hz.cid⟩ noD ⟨_, _, _, rfl, p17, q17, I17, s17⟩) (Kin.refl _ _)
theorem som_17 (w0 : World) : StepS w0 17 := by
 intro o a w K Q ho hs h1 hG hK
 have hop := op_at (f := fun o => o.op) (x := .build 39 #[(0, .const (.int .i64 2))]) ho (by kernel_rfl)
 have hr : (execOp a.eval o).run Try.prog w = .ok (.value (.agg ((zeroF 2).cells (.slice none 0 0) (.slice none 0 0)).toArray)) w := by
  unfold execOp; rw [hop]; simp only [List.map_toArray, List.map_cons, List.map_nil, Act.eval]; kernel_rfl
 unfold Oper.wp; rw [hr]
 have hz := zero_wf 2 (by omega)
 exact hK _ _ (frGS (f := (zeroF 2)) ⟨hz.kind, hz.st, hz.of_, hz.li, hz.co, hz.fi, hz.se, hz.de, hz.cidl, hz.cid⟩ noD noR) (Kin.refl _ _)
theorem som_18 (w0 : World) : StepS w0 18 := by
 intro o a w K Q ho hs h1 hG hK
 have hop := op_at (f := fun o => o.op) (x := .build 71 #[(0, .const (.int .u64 5)), (1, .const (.int .u64 5))]) ho (by kernel_rfl)
 have hr : (execOp a.eval o).run Try.prog w = .ok (.value (.agg (rgK.enc (5, 5)).toArray)) w := by
  unfold execOp; rw [hop]; simp only [List.map_toArray, List.map_cons, List.map_nil, Act.eval]; kernel_rfl
 unfold Oper.wp; rw [hr]
 exact hK _ _ ⟨(5, 5), rfl, ⟨by simp only; omega, by simp only; omega⟩, ⟨by simp only; omega, by simp only; omega⟩⟩ (Kin.refl _ _)
theorem som_19 (w0 : World) : StepS w0 19 := by
 intro o a w K Q ho hs h1 hG hK
 have hop := op_at (f := fun o => o.op) (x := .buildSlice 35 1 #[(0, .tmp 20)]) ho (by kernel_rfl)
 have g20 : GS w0 1 (a.tmps.getD 20 undef) w := hG 18 (op_at (f := fun o => o.after.any fun e => Region.binds .any e && e.on == 18) ho (by kernel_rfl))
 obtain ⟨x20, e20, ok20⟩ := g20
 have hrow := ranges_row hs [x20] 1 rfl (fun x hx => by simp only [List.mem_cons, List.not_mem_nil, or_false] at hx; subst hx <;> assumption) (by omega)
 exact wp_build_many rgT _ [x20] 1 rfl (by omega) hop (fun x hx => by simp only [List.mem_cons, List.not_mem_nil, or_false] at hx; subst hx <;> assumption) (by simp only [List.map_toArray, List.map_cons, List.map_nil, Act.eval, e20]; rfl) (hK _ _ hrow.1 hrow.2)
theorem som_20 (w0 : World) : StepS w0 20 := by
 intro o a w K Q ho hs h1 hG hK
 have hop := op_at (f := fun o => o.op) (x := .build 39 #[(0, .const (.int .i64 2)), (10, .tmp 21)]) ho (by kernel_rfl)
 have g21 : GS w0 2 (a.tmps.getD 21 undef) w := hG 19 (op_at (f := fun o => o.after.any fun e => Region.binds .any e && e.on == 19) ho (by kernel_rfl))
 obtain ⟨a21, n21, c21, l21, e21, p21, q21, I21, s21⟩ := g21
 have hr : (execOp a.eval o).run Try.prog w = .ok (.value (.agg (({ zeroF 2 with rg := l21 } : Fr).cells (.slice none 0 0) (.slice a21 n21 c21)).toArray)) w := by
  unfold execOp; rw [hop]; simp only [List.map_toArray, List.map_cons, List.map_nil, Act.eval, e21]; kernel_rfl
 unfold Oper.wp; rw [hr]
 have hz := zero_wf 2 (by omega)
 exact hK _ _ (frGS (f := ({ zeroF 2 with rg := l21 } : Fr)) ⟨hz.kind, hz.st, hz.of_, hz.li, hz.co, hz.fi, hz.se, hz.de, hz.cidl, hz.cid⟩ noD ⟨_, _, _, rfl, p21, q21, I21, s21⟩) (Kin.refl _ _)
theorem som_21 (w0 : World) : StepS w0 21 := by
 intro o a w K Q ho hs h1 hG hK
 have hop := op_at (f := fun o => o.op) (x := .move (.tmp 1)) ho (by kernel_rfl)
 have hr : (execOp a.eval o).run Try.prog w = .ok (.value (.int .u64 4611686018427387903)) w := by
  unfold execOp; rw [hop]; simp only [List.map_toArray, List.map_cons, List.map_nil, Act.eval, h1]; rfl
 unfold Oper.wp; rw [hr]
 exact hK _ _ ⟨_, rfl, by omega, by omega⟩ (Kin.refl _ _)
theorem som_22 (w0 : World) : StepS w0 22 := by
 intro o a w K Q ho hs h1 hG hK
 have hop := op_at (f := fun o => o.op) (x := .binOp .add 34 (.tmp 23) (.const (.int .u64 2)) 34) ho (by kernel_rfl)
 have g23 : GS w0 3 (a.tmps.getD 23 undef) w := hG 21 (op_at (f := fun o => o.after.any fun e => Region.binds .any e && e.on == 21) ho (by kernel_rfl))
 obtain ⟨x23, e23, p23, q23⟩ := g23
 have hr : (execOp a.eval o).run Try.prog w = .ok (.value (.int .u64 (x23 + 2))) w := by
  unfold execOp; rw [hop]; simp only [Act.eval, e23]
  have hw : (binOp .add 34 (.int .u64 x23) (.int .u64 2)).run Try.prog w = .ok (.int .u64 (x23 + 2)) w := by
   go_simp
   first | omega | (simp only [IntKind.wrap_u64]; omega) | (simp [IntKind.wrap, IntKind.signed, IntKind.bits]; omega)
  have hg : (eqGuard .add 34 (.tmp 23) (.const (.int .u64 2)) (.int .u64 x23) (.int .u64 2)).run Try.prog w = .ok () w := by kernel_rfl
  simp only [Sem.run_bind, hg, hw, Result.andThen_ok, Sem.run_pure]
 unfold Oper.wp; rw [hr]
 exact hK _ _ ⟨_, rfl, by omega, by omega⟩ (Kin.refl _ _)
theorem som_23 (w0 : World) : StepS w0 23 := by
 intro o a w K Q ho hs h1 hG hK
 have hop := op_at (f := fun o => o.op) (x := .build 71 #[(0, .const (.int .u64 0)), (1, .tmp 24)]) ho (by kernel_rfl)
 have g24 : GS w0 4 (a.tmps.getD 24 undef) w := hG 22 (op_at (f := fun o => o.after.any fun e => Region.binds .any e && e.on == 22) ho (by kernel_rfl))
 obtain ⟨x24, e24, p24, q24⟩ := g24
 have hr : (execOp a.eval o).run Try.prog w = .ok (.value (.agg (rgK.enc (0, x24)).toArray)) w := by
  unfold execOp; rw [hop]; simp only [List.map_toArray, List.map_cons, List.map_nil, Act.eval, e24]; kernel_rfl
 unfold Oper.wp; rw [hr]
 exact hK _ _ ⟨(0, x24), rfl, ⟨by simp only; omega, by simp only; omega⟩, ⟨by simp only; omega, by simp only; omega⟩⟩ (Kin.refl _ _)
theorem som_24 (w0 : World) : StepS w0 24 := by
 intro o a w K Q ho hs h1 hG hK
 have hop := op_at (f := fun o => o.op) (x := .buildSlice 35 1 #[(0, .tmp 25)]) ho (by kernel_rfl)
 have g25 : GS w0 1 (a.tmps.getD 25 undef) w := hG 23 (op_at (f := fun o => o.after.any fun e => Region.binds .any e && e.on == 23) ho (by kernel_rfl))
 obtain ⟨x25, e25, ok25⟩ := g25
 have hrow := ranges_row hs [x25] 1 rfl (fun x hx => by simp only [List.mem_cons, List.not_mem_nil, or_false] at hx; subst hx <;> assumption) (by omega)
 exact wp_build_many rgT _ [x25] 1 rfl (by omega) hop (fun x hx => by simp only [List.mem_cons, List.not_mem_nil, or_false] at hx; subst hx <;> assumption) (by simp only [List.map_toArray, List.map_cons, List.map_nil, Act.eval, e25]; rfl) (hK _ _ hrow.1 hrow.2)
theorem som_25 (w0 : World) : StepS w0 25 := by
 intro o a w K Q ho hs h1 hG hK
 have hop := op_at (f := fun o => o.op) (x := .build 39 #[(0, .const (.int .i64 2)), (10, .tmp 26)]) ho (by kernel_rfl)
 have g26 : GS w0 2 (a.tmps.getD 26 undef) w := hG 24 (op_at (f := fun o => o.after.any fun e => Region.binds .any e && e.on == 24) ho (by kernel_rfl))
 obtain ⟨a26, n26, c26, l26, e26, p26, q26, I26, s26⟩ := g26
 have hr : (execOp a.eval o).run Try.prog w = .ok (.value (.agg (({ zeroF 2 with rg := l26 } : Fr).cells (.slice none 0 0) (.slice a26 n26 c26)).toArray)) w := by
  unfold execOp; rw [hop]; simp only [List.map_toArray, List.map_cons, List.map_nil, Act.eval, e26]; kernel_rfl
 unfold Oper.wp; rw [hr]
 have hz := zero_wf 2 (by omega)
 exact hK _ _ (frGS (f := ({ zeroF 2 with rg := l26 } : Fr)) ⟨hz.kind, hz.st, hz.of_, hz.li, hz.co, hz.fi, hz.se, hz.de, hz.cidl, hz.cid⟩ noD ⟨_, _, _, rfl, p26, q26, I26, s26⟩) (Kin.refl _ _)
theorem som_26 (w0 : World) : StepS w0 26 := by
 intro o a w K Q ho hs h1 hG hK
 have hop := op_at (f := fun o => o.op) (x := .makeSlice 53 (.const (.int .i64 32)) (.const (.int .i64 32))) ho (by kernel_rfl)
 obtain ⟨w', hm, hO, hB⟩ := mk_u64 w 32 (by omega)
 have hr : (execOp a.eval o).run Try.prog w = .ok (.value (.slice (some ⟨w.heap.size, 0, none⟩) 32 32)) w' := by
  unfold execOp; rw [hop]; simp only [Act.eval, Sem.run_bind]; rw [show ((.int .i64 32 : Value)) = .int .i64 ((32 : Nat) : Int) from rfl, hm]; rfl
 unfold Oper.wp; rw [hr]
 exact hK _ _ ⟨_, _, rfl, hO⟩ (Kin.of hs hB)
theorem som_27 (w0 : World) : StepS w0 27 := by
 intro o a w K Q ho hs h1 hG hK
 have hop := op_at (f := fun o => o.op) (x := .call { callee := .value (.func 37), args := #[.tmp 28, .const (.int .u64 7)], argTypes := #[53, 34] }) ho (by kernel_rfl)
 have g28 : GS w0 7 (a.tmps.getD 28 undef) w := hG 26 (op_at (f := fun o => o.after.any fun e => Region.binds .any e && e.on == 26) ho (by kernel_rfl))
 obtain ⟨a28, l28, e28, I28⟩ := g28
 have hr : (execOp a.eval o).run Try.prog w = .ok (.enter 37 #[.slice a28 32 32, .int .u64 7]) w := by
  unfold execOp; rw [hop]; simp only [resolve, invoke, Sem.run_bind, Sem.run_pure, Result.andThen_ok, List.map_toArray, List.map_cons, List.map_nil, Act.eval, e28]; first | rfl | kernel_rfl | trace_state
 unfold Oper.wp; rw [hr, Oper.upon_enter]
 refine Calls.mono (kranges_any w a28 32 32 l28 7 I28 (by omega) (by omega)) ?_
 rintro e w' ⟨b, m, c, rs, rfl, q1, q2, q3, q4, _, hb⟩
 exact hK _ _ ⟨b, m, c, rs, rfl, q1, q2, q3, by have h9 := (ackB_iff.1 q4).2.1; have := q3.1; omega⟩ (Kin.of hs hb)
theorem som_28 (w0 : World) : StepS w0 28 := by
 intro o a w K Q ho hs h1 hG hK
 have hop := op_at (f := fun o => o.op) (x := .build 39 #[(0, .const (.int .i64 2)), (10, .tmp 29)]) ho (by kernel_rfl)
 have g29 : GS w0 2 (a.tmps.getD 29 undef) w := hG 27 (op_at (f := fun o => o.after.any fun e => Region.binds .any e && e.on == 27) ho (by kernel_rfl))
 obtain ⟨a29, n29, c29, l29, e29, p29, q29, I29, s29⟩ := g29
 have hr : (execOp a.eval o).run Try.prog w = .ok (.value (.agg (({ zeroF 2 with rg := l29 } : Fr).cells (.slice none 0 0) (.slice a29 n29 c29)).toArray)) w := by
  unfold execOp; rw [hop]; simp only [List.map_toArray, List.map_cons, List.map_nil, Act.eval, e29]; kernel_rfl
 unfold Oper.wp; rw [hr]
 have hz := zero_wf 2 (by omega)
 exact hK _ _ (frGS (f := ({ zeroF 2 with rg := l29 } : Fr)) ⟨hz.kind, hz.st, hz.of_, hz.li, hz.co, hz.fi, hz.se, hz.de, hz.cidl, hz.cid⟩ noD ⟨_, _, _, rfl, p29, q29, I29, s29⟩) (Kin.refl _ _)
theorem som_29 (w0 : World) : StepS w0 29 := by
 intro o a w K Q ho hs h1 hG hK
 have hop := op_at (f := fun o => o.op) (x := .move (.tmp 1)) ho (by kernel_rfl)
 have hr : (execOp a.eval o).run Try.prog w = .ok (.value (.int .u64 4611686018427387903)) w := by
  unfold execOp; rw [hop]; simp only [List.map_toArray, List.map_cons, List.map_nil, Act.eval, h1]; rfl
 unfold Oper.wp; rw [hr]
 exact hK _ _ ⟨_, rfl, by omega, by omega⟩ (Kin.refl _ _)
theorem som_30 (w0 : World) : StepS w0 30 := by
 intro o a w K Q ho hs h1 hG hK
 have hop := op_at (f := fun o => o.op) (x := .build 39 #[(0, .const (.int .i64 4)), (1, .const (.int .u64 4)), (6, .tmp 31), (7, .const (.int .u64 1099511627776))]) ho (by kernel_rfl)
 have g31 : GS w0 3 (a.tmps.getD 31 undef) w := hG 29 (op_at (f := fun o => o.after.any fun e => Region.binds .any e && e.on == 29) ho (by kernel_rfl))
 obtain ⟨x31, e31, p31, q31⟩ := g31
 have hr : (execOp a.eval o).run Try.prog w = .ok (.value (.agg (({ zeroF 4 with st := 4, co := x31, fi := 1099511627776 } : Fr).cells (.slice none 0 0) (.slice none 0 0)).toArray)) w := by
  unfold execOp; rw [hop]; simp only [List.map_toArray, List.map_cons, List.map_nil, Act.eval, e31]; kernel_rfl
 unfold Oper.wp; rw [hr]
 have hz := zero_wf 4 (by omega)
 exact hK _ _ (frGS (f := ({ zeroF 4 with st := 4, co := x31, fi := 1099511627776 } : Fr)) ⟨hz.kind, (⟨by decide, by decide⟩ : (0 : Int) ≤ 4 ∧ (4 : Int) < 18446744073709551616), hz.of_, hz.li, (⟨by omega, by omega⟩ : (0 : Int) ≤ x31 ∧ (x31 : Int) < 18446744073709551616), (⟨by decide, by decide⟩ : (0 : Int) ≤ 1099511627776 ∧ (1099511627776 : Int) < 18446744073709551616), hz.se, hz.de, hz.cidl, hz.cid⟩ noD noR) (Kin.refl _ _)
theorem som_31 (w0 : World) : StepS w0 31 := by
 intro o a w K Q ho hs h1 hG hK
 have hop := op_at (f := fun o => o.op) (x := .build 39 #[(0, .const (.int .i64 4)), (7, .const (.int .u64 1099511627777))]) ho (by kernel_rfl)
 have hr : (execOp a.eval o).run Try.prog w = .ok (.value (.agg (({ zeroF 4 with fi := 1099511627777 } : Fr).cells (.slice none 0 0) (.slice none 0 0)).toArray)) w := by
  unfold execOp; rw [hop]; simp only [List.map_toArray, List.map_cons, List.map_nil, Act.eval]; kernel_rfl
 unfold Oper.wp; rw [hr]
 have hz := zero_wf 4 (by omega)
 exact hK _ _ (frGS (f := ({ zeroF 4 with fi := 1099511627777 } : Fr)) ⟨hz.kind, hz.st, hz.of_, hz.li, hz.co, (⟨by decide, by decide⟩ : (0 : Int) ≤ 1099511627777 ∧ (1099511627777 : Int) < 18446744073709551616), hz.se, hz.de, hz.cidl, hz.cid⟩ noD noR) (Kin.refl _ _)
theorem som_32 (w0 : World) : StepS w0 32 := by
 intro o a w K Q ho hs h1 hG hK
 have hop := op_at (f := fun o => o.op) (x := .move (.tmp 1)) ho (by kernel_rfl)
 have hr : (execOp a.eval o).run Try.prog w = .ok (.value (.int .u64 4611686018427387903)) w := by
  unfold execOp; rw [hop]; simp only [List.map_toArray, List.map_cons, List.map_nil, Act.eval, h1]; rfl
 unfold Oper.wp; rw [hr]
 exact hK _ _ ⟨_, rfl, by omega, by omega⟩ (Kin.refl _ _)
theorem som_33 (w0 : World) : StepS w0 33 := by
 intro o a w K Q ho hs h1 hG hK
 have hop := op_at (f := fun o => o.op) (x := .binOp .add 34 (.tmp 34) (.const (.int .u64 1)) 34) ho (by kernel_rfl)
 have g34 : GS w0 3 (a.tmps.getD 34 undef) w := hG 32 (op_at (f := fun o => o.after.any fun e => Region.binds .any e && e.on == 32) ho (by kernel_rfl))
 obtain ⟨x34, e34, p34, q34⟩ := g34
 have hr : (execOp a.eval o).run Try.prog w = .ok (.value (.int .u64 (x34 + 1))) w := by
  unfold execOp; rw [hop]; simp only [Act.eval, e34]
  have hw : (binOp .add 34 (.int .u64 x34) (.int .u64 1)).run Try.prog w = .ok (.int .u64 (x34 + 1)) w := by
   go_simp
   first | omega | (simp only [IntKind.wrap_u64]; omega) | (simp [IntKind.wrap, IntKind.signed, IntKind.bits]; omega)
  have hg : (eqGuard .add 34 (.tmp 34) (.const (.int .u64 1)) (.int .u64 x34) (.int .u64 1)).run Try.prog w = .ok () w := by kernel_rfl
  simp only [Sem.run_bind, hg, hw, Result.andThen_ok, Sem.run_pure]
 unfold Oper.wp; rw [hr]
 exact hK _ _ ⟨_, rfl, by omega, by omega⟩ (Kin.refl _ _)
theorem som_34 (w0 : World) : StepS w0 34 := by
 intro o a w K Q ho hs h1 hG hK
 have hop := op_at (f := fun o => o.op) (x := .build 39 #[(0, .const (.int .i64 4)), (6, .tmp 35)]) ho (by kernel_rfl)
 have g35 : GS w0 4 (a.tmps.getD 35 undef) w := hG 33 (op_at (f := fun o => o.after.any fun e => Region.binds .any e && e.on == 33) ho (by kernel_rfl))
 obtain ⟨x35, e35, p35, q35⟩ := g35
 have hr : (execOp a.eval o).run Try.prog w = .ok (.value (.agg (({ zeroF 4 with co := x35 } : Fr).cells (.slice none 0 0) (.slice none 0 0)).toArray)) w := by
  unfold execOp; rw [hop]; simp only [List.map_toArray, List.map_cons, List.map_nil, Act.eval, e35]; kernel_rfl
 unfold Oper.wp; rw [hr]
 have hz := zero_wf 4 (by omega)
 exact hK _ _ (frGS (f := ({ zeroF 4 with co := x35 } : Fr)) ⟨hz.kind, hz.st, hz.of_, hz.li, (⟨by omega, by omega⟩ : (0 : Int) ≤ x35 ∧ (x35 : Int) < 18446744073709551616), hz.fi, hz.se, hz.de, hz.cidl, hz.cid⟩ noD noR) (Kin.refl _ _)
theorem som_35 (w0 : World) : StepS w0 35 := by
 intro o a w K Q ho hs h1 hG hK
 have hop := op_at (f := fun o => o.op) (x := .move (.tmp 1)) ho (by kernel_rfl)
 have hr : (execOp a.eval o).run Try.prog w = .ok (.value (.int .u64 4611686018427387903)) w := by
  unfold execOp; rw [hop]; simp only [List.map_toArray, List.map_cons, List.map_nil, Act.eval, h1]; rfl
 unfold Oper.wp; rw [hr]
 exact hK _ _ ⟨_, rfl, by omega, by omega⟩ (Kin.refl _ _)
theorem som_36 (w0 : World) : StepS w0 36 := by
 intro o a w K Q ho hs h1 hG hK
 have hop := op_at (f := fun o => o.op) (x := .build 39 #[(0, .const (.int .i64 5)), (1, .tmp 37)]) ho (by kernel_rfl)
 have g37 : GS w0 3 (a.tmps.getD 37 undef) w := hG 35 (op_at (f := fun o => o.after.any fun e => Region.binds .any e && e.on == 35) ho (by kernel_rfl))
 obtain ⟨x37, e37, p37, q37⟩ := g37
 have hr : (execOp a.eval o).run Try.prog w = .ok (.value (.agg (({ zeroF 5 with st := x37 } : Fr).cells (.slice none 0 0) (.slice none 0 0)).toArray)) w := by
  unfold execOp; rw [hop]; simp only [List.map_toArray, List.map_cons, List.map_nil, Act.eval, e37]; kernel_rfl
 unfold Oper.wp; rw [hr]
 have hz := zero_wf 5 (by omega)
 exact hK _ _ (frGS (f := ({ zeroF 5 with st := x37 } : Fr)) ⟨hz.kind, (⟨by omega, by omega⟩ : (0 : Int) ≤ x37 ∧ (x37 : Int) < 18446744073709551616), hz.of_, hz.li, hz.co, hz.fi, hz.se, hz.de, hz.cidl, hz.cid⟩ noD noR) (Kin.refl _ _)
theorem som_37 (w0 : World) : StepS w0 37 := by
 intro o a w K Q ho hs h1 hG hK
 have hop := op_at (f := fun o => o.op) (x := .move (.tmp 1)) ho (by kernel_rfl)
 have hr : (execOp a.eval o).run Try.prog w = .ok (.value (.int .u64 4611686018427387903)) w := by
  unfold execOp; rw [hop]; simp only [List.map_toArray, List.map_cons, List.map_nil, Act.eval, h1]; rfl
 unfold Oper.wp; rw [hr]
 exact hK _ _ ⟨_, rfl, by omega, by omega⟩ (Kin.refl _ _)
theorem som_38 (w0 : World) : StepS w0 38 := by
 intro o a w K Q ho hs h1 hG hK
 have hop := op_at (f := fun o => o.op) (x := .binOp .add 34 (.tmp 39) (.const (.int .u64 1)) 34) ho (by kernel_rfl)
 have g39 : GS w0 3 (a.tmps.getD 39 undef) w := hG 37 (op_at (f := fun o => o.after.any fun e => Region.binds .any e && e.on == 37) ho (by kernel_rfl))
 obtain ⟨x39, e39, p39, q39⟩ := g39
 have hr : (execOp a.eval o).run Try.prog w = .ok (.value (.int .u64 (x39 + 1))) w := by
  unfold execOp; rw [hop]; simp only [Act.eval, e39]
  have hw : (binOp .add 34 (.int .u64 x39) (.int .u64 1)).run Try.prog w = .ok (.int .u64 (x39 + 1)) w := by
   go_simp
   first | omega | (simp only [IntKind.wrap_u64]; omega) | (simp [IntKind.wrap, IntKind.signed, IntKind.bits]; omega)
  have hg : (eqGuard .add 34 (.tmp 39) (.const (.int .u64 1)) (.int .u64 x39) (.int .u64 1)).run Try.prog w = .ok () w := by kernel_rfl
  simp only [Sem.run_bind, hg, hw, Result.andThen_ok, Sem.run_pure]
 unfold Oper.wp; rw [hr]
 exact hK _ _ ⟨_, rfl, by omega, by omega⟩ (Kin.refl _ _)
theorem som_39 (w0 : World) : StepS w0 39 := by
 intro o a w K Q ho hs h1 hG hK
 have hop := op_at (f := fun o => o.op) (x := .build 39 #[(0, .const (.int .i64 5)), (1, .tmp 40)]) ho (by kernel_rfl)
 have g40 : GS w0 4 (a.tmps.getD 40 undef) w := hG 38 (op_at (f := fun o => o.after.any fun e => Region.binds .any e && e.on == 38) ho (by kernel_rfl))
 obtain ⟨x40, e40, p40, q40⟩ := g40
 have hr : (execOp a.eval o).run Try.prog w = .ok (.value (.agg (({ zeroF 5 with st := x40 } : Fr).cells (.slice none 0 0) (.slice none 0 0)).toArray)) w := by
  unfold execOp; rw [hop]; simp only [List.map_toArray, List.map_cons, List.map_nil, Act.eval, e40]; kernel_rfl
 unfold Oper.wp; rw [hr]
 have hz := zero_wf 5 (by omega)
 exact hK _ _ (frGS (f := ({ zeroF 5 with st := x40 } : Fr)) ⟨hz.kind, (⟨by omega, by omega⟩ : (0 : Int) ≤ x40 ∧ (x40 : Int) < 18446744073709551616), hz.of_, hz.li, hz.co, hz.fi, hz.se, hz.de, hz.cidl, hz.cid⟩ noD noR) (Kin.refl _ _)
theorem som_40 (w0 : World) : StepS w0 40 := by
 intro o a w K Q ho hs h1 hG hK
 have hop := op_at (f := fun o => o.op) (x := .build 39 #[(0, .const (.int .i64 6)), (2, .const (.int .u64 1099511627776))]) ho (by kernel_rfl)
 have hr : (execOp a.eval o).run Try.prog w = .ok (.value (.agg (({ zeroF 6 with of_ := 1099511627776 } : Fr).cells (.slice none 0 0) (.slice none 0 0)).toArray)) w := by
  unfold execOp; rw [hop]; simp only [List.map_toArray, List.map_cons, List.map_nil, Act.eval]; kernel_rfl
 unfold Oper.wp; rw [hr]
 have hz := zero_wf 6 (by omega)
 exact hK _ _ (frGS (f := ({ zeroF 6 with of_ := 1099511627776 } : Fr)) ⟨hz.kind, hz.st, (⟨by decide, by decide⟩ : (0 : Int) ≤ 1099511627776 ∧ (1099511627776 : Int) < 18446744073709551616), hz.li, hz.co, hz.fi, hz.se, hz.de, hz.cidl, hz.cid⟩ noD noR) (Kin.refl _ _)
theorem som_41 (w0 : World) : StepS w0 41 := by
 intro o a w K Q ho hs h1 hG hK
 have hop := op_at (f := fun o => o.op) (x := .buildSlice 25 1 #[(0, .const (.int .u8 1))]) ho (by kernel_rfl)
 have hr : (execOp a.eval o).run Try.prog w = .ok (.value (.slice (some ⟨w.heap.size, 0, none⟩) 1 1)) (w.alloc (.cells #[.int .u8 1] 5)) := by
  unfold execOp; rw [hop]; simp only [List.map_toArray, List.map_cons, List.map_nil, Act.eval]; kernel_rfl
 unfold Oper.wp; rw [hr]
 exact hK _ _ ⟨_, _, _, [1], rfl, Nat.le_refl _, by omega, IntsK.of_row (zs := [1]) (heap_alloc_new w _) (by decide), by omega⟩ (Kin.of hs ((Below.refl _ _).alloc (Nat.le_refl _) _))
theorem som_42 (w0 : World) : StepS w0 42 := by
 intro o a w K Q ho hs h1 hG hK
 have hop := op_at (f := fun o => o.op) (x := .build 39 #[(0, .const (.int .i64 6)), (2, .const (.int .u64 1099511627776)), (3, .tmp 43)]) ho (by kernel_rfl)
 have g43 : GS w0 5 (a.tmps.getD 43 undef) w := hG 41 (op_at (f := fun o => o.after.any fun e => Region.binds .any e && e.on == 41) ho (by kernel_rfl))
 obtain ⟨a43, n43, c43, l43, e43, p43, q43, I43, s43⟩ := g43
 have hr : (execOp a.eval o).run Try.prog w = .ok (.value (.agg (({ zeroF 6 with of_ := 1099511627776, data := l43 } : Fr).cells (.slice a43 n43 c43) (.slice none 0 0)).toArray)) w := by
  unfold execOp; rw [hop]; simp only [List.map_toArray, List.map_cons, List.map_nil, Act.eval, e43]; kernel_rfl
 unfold Oper.wp; rw [hr]
 have hz := zero_wf 6 (by omega)
 exact hK _ _ (frGS (f := ({ zeroF 6 with of_ := 1099511627776, data := l43 } : Fr)) ⟨hz.kind, hz.st, (⟨by decide, by decide⟩ : (0 : Int) ≤ 1099511627776 ∧ (1099511627776 : Int) < 18446744073709551616), hz.li, hz.co, hz.fi, hz.se, hz.de, hz.cidl, hz.cid⟩ ⟨_, _, _, rfl, p43, q43, I43, s43⟩ noR) (Kin.refl _ _)
theorem som_43 (w0 : World) : StepS w0 43 := by
 intro o a w K Q ho hs h1 hG hK
 have hop := op_at (f := fun o => o.op) (x := .makeSlice 25 (.const (.int .i64 512)) (.const (.int .i64 512))) ho (by kernel_rfl)
 obtain ⟨w', hm, hO, hB⟩ := mk_u8 w 512 (by omega)
 have hr : (execOp a.eval o).run Try.prog w = .ok (.value (.slice (some ⟨w.heap.size, 0, none⟩) 512 512)) w' := by
  unfold execOp; rw [hop]; simp only [Act.eval, Sem.run_bind]; rw [show ((.int .i64 512 : Value)) = .int .i64 ((512 : Nat) : Int) from rfl, hm]; rfl
 unfold Oper.wp; rw [hr]
 exact hK _ _ ⟨_, _, _, _, rfl, Nat.le_refl _, by omega, hO, by omega⟩ (Kin.of hs hB)
theorem som_44 (w0 : World) : StepS w0 44 := by
 intro o a w K Q ho hs h1 hG hK
 have hop := op_at (f := fun o => o.op) (x := .build 39 #[(0, .const (.int .i64 6)), (3, .tmp 45)]) ho (by kernel_rfl)
 have g45 : GS w0 5 (a.tmps.getD 45 undef) w := hG 43 (op_at (f := fun o => o.after.any fun e => Region.binds .any e && e.on == 43) ho (by kernel_rfl))
 obtain ⟨a45, n45, c45, l45, e45, p45, q45, I45, s45⟩ := g45
 have hr : (execOp a.eval o).run Try.prog w = .ok (.value (.agg (({ zeroF 6 with data := l45 } : Fr).cells (.slice a45 n45 c45) (.slice none 0 0)).toArray)) w := by
  unfold execOp; rw [hop]; simp only [List.map_toArray, List.map_cons, List.map_nil, Act.eval, e45]; kernel_rfl
 unfold Oper.wp; rw [hr]
 have hz := zero_wf 6 (by omega)
 exact hK _ _ (frGS (f := ({ zeroF 6 with data := l45 } : Fr)) ⟨hz.kind, hz.st, hz.of_, hz.li, hz.co, hz.fi, hz.se, hz.de, hz.cidl, hz.cid⟩ ⟨_, _, _, rfl, p45, q45, I45, s45⟩ noR) (Kin.refl _ _)
theorem som_45 (w0 : World) : StepS w0 45 := by
 intro o a w K Q ho hs h1 hG hK
 have hop := op_at (f := fun o => o.op) (x := .makeSlice 25 (.const (.int .i64 513)) (.const (.int .i64 513))) ho (by kernel_rfl)
 obtain ⟨w', hm, hO, hB⟩ := mk_u8 w 513 (by omega)
 have hr : (execOp a.eval o).run Try.prog w = .ok (.value (.slice (some ⟨w.heap.size, 0, none⟩) 513 513)) w' := by
  unfold execOp; rw [hop]; simp only [Act.eval, Sem.run_bind]; rw [show ((.int .i64 513 : Value)) = .int .i64 ((513 : Nat) : Int) from rfl, hm]; rfl
 unfold Oper.wp; rw [hr]
 exact hK _ _ ⟨_, _, _, _, rfl, Nat.le_refl _, by omega, hO, by omega⟩ (Kin.of hs hB)
theorem som_46 (w0 : World) : StepS w0 46 := by
 intro o a w K Q ho hs h1 hG hK
 have hop := op_at (f := fun o => o.op) (x := .build 39 #[(0, .const (.int .i64 6)), (3, .tmp 47)]) ho (by kernel_rfl)
 have g47 : GS w0 5 (a.tmps.getD 47 undef) w := hG 45 (op_at (f := fun o => o.after.any fun e => Region.binds .any e && e.on == 45) ho (by kernel_rfl))
 obtain ⟨a47, n47, c47, l47, e47, p47, q47, I47, s47⟩ := g47
 have hr : (execOp a.eval o).run Try.prog w = .ok (.value (.agg (({ zeroF 6 with data := l47 } : Fr).cells (.slice a47 n47 c47) (.slice none 0 0)).toArray)) w := by
  unfold execOp; rw [hop]; simp only [List.map_toArray, List.map_cons, List.map_nil, Act.eval, e47]; kernel_rfl
 unfold Oper.wp; rw [hr]
 have hz := zero_wf 6 (by omega)
 exact hK _ _ (frGS (f := ({ zeroF 6 with data := l47 } : Fr)) ⟨hz.kind, hz.st, hz.of_, hz.li, hz.co, hz.fi, hz.se, hz.de, hz.cidl, hz.cid⟩ ⟨_, _, _, rfl, p47, q47, I47, s47⟩ noR) (Kin.refl _ _)
theorem som_47 (w0 : World) : StepS w0 47 := by
 intro o a w K Q ho hs h1 hG hK
 have hop := op_at (f := fun o => o.op) (x := .build 39 #[(0, .const (.int .i64 8))]) ho (by kernel_rfl)
 have hr : (execOp a.eval o).run Try.prog w = .ok (.value (.agg ((zeroF 8).cells (.slice none 0 0) (.slice none 0 0)).toArray)) w := by
  unfold execOp; rw [hop]; simp only [List.map_toArray, List.map_cons, List.map_nil, Act.eval]; kernel_rfl
 unfold Oper.wp; rw [hr]
 have hz := zero_wf 8 (by omega)
 exact hK _ _ (frGS (f := (zeroF 8)) ⟨hz.kind, hz.st, hz.of_, hz.li, hz.co, hz.fi, hz.se, hz.de, hz.cidl, hz.cid⟩ noD noR) (Kin.refl _ _)
theorem som_48 (w0 : World) : StepS w0 48 := by
 intro o a w K Q ho hs h1 hG hK
 have hop := op_at (f := fun o => o.op) (x := .buildSlice 25 3 #[(0, .const (.int .u8 97)), (1, .const (.int .u8 98)), (2, .const (.int .u8 99))]) ho (by kernel_rfl)
 have hr : (execOp a.eval o).run Try.prog w = .ok (.value (.slice (some ⟨w.heap.size, 0, none⟩) 3 3)) (w.alloc (.cells #[.int .u8 97, .int .u8 98, .int .u8 99] 5)) := by
  unfold execOp; rw [hop]; simp only [List.map_toArray, List.map_cons, List.map_nil, Act.eval]; kernel_rfl
 unfold Oper.wp; rw [hr]
 exact hK _ _ ⟨_, (0, 0), rfl, hs, heap_alloc_new w _⟩ (Kin.of hs ((Below.refl _ _).alloc (Nat.le_refl _) _))
theorem som_49 (w0 : World) : StepS w0 49 := by
 intro o a w K Q ho hs h1 hG hK
 have hop := op_at (f := fun o => o.op) (x := .convert 25 25 (.tmp 50)) ho (by kernel_rfl)
 have g50 : GS w0 6 (a.tmps.getD 50 undef) w := hG 48 (op_at (f := fun o => o.after.any fun e => Region.binds .any e && e.on == 48) ho (by kernel_rfl))
 obtain ⟨b50, fr50, e50, p50, q50⟩ := g50
 have hr : (execOp a.eval o).run Try.prog w = .ok (.value (.slice (some ⟨b50, 0, none⟩) 3 3)) (w.freeze ⟨b50, 3, none⟩ 1) := by
  unfold execOp; rw [hop]; simp only [Act.eval, e50, Sem.run_bind, conv_markF w b50 _ 3 3 fr50 q50]; rfl
 unfold Oper.wp; rw [hr]
 refine hK _ _ ?_ (kin_freeze p50)
 obtain ⟨f9, h9⟩ := (kin_freeze (w0 := w0) (w := w) (n := 3) p50).row _ _ _ _ q50
 exact ⟨_, _, _, [97, 98, 99], rfl, Nat.le_refl _, by omega, IntsK.of_rowF (zs := [97, 98, 99]) h9 (by decide), by omega⟩
theorem som_50 (w0 : World) : StepS w0 50 := by
 intro o a w K Q ho hs h1 hG hK
 have hop := op_at (f := fun o => o.op) (x := .build 39 #[(0, .const (.int .i64 8)), (1, .const (.int .u64 64)), (2, .const (.int .u64 64)), (3, .tmp 51), (4, .const (.bool true))]) ho (by kernel_rfl)
 have g51 : GS w0 5 (a.tmps.getD 51 undef) w := hG 49 (op_at (f := fun o => o.after.any fun e => Region.binds .any e && e.on == 49) ho (by kernel_rfl))
 obtain ⟨a51, n51, c51, l51, e51, p51, q51, I51, s51⟩ := g51
 have hr : (execOp a.eval o).run Try.prog w = .ok (.value (.agg (({ zeroF 8 with st := 64, of_ := 64, data := l51, fin := true } : Fr).cells (.slice a51 n51 c51) (.slice none 0 0)).toArray)) w := by
  unfold execOp; rw [hop]; simp only [List.map_toArray, List.map_cons, List.map_nil, Act.eval, e51]; kernel_rfl
 unfold Oper.wp; rw [hr]
 have hz := zero_wf 8 (by omega)
 exact hK _ _ (frGS (f := ({ zeroF 8 with st := 64, of_ := 64, data := l51, fin := true } : Fr)) ⟨hz.kind, (⟨by decide, by decide⟩ : (0 : Int) ≤ 64 ∧ (64 : Int) < 18446744073709551616), (⟨by decide, by decide⟩ : (0 : Int) ≤ 64 ∧ (64 : Int) < 18446744073709551616), hz.li, hz.co, hz.fi, hz.se, hz.de, hz.cidl, hz.cid⟩ ⟨_, _, _, rfl, p51, q51, I51, s51⟩ noR) (Kin.refl _ _)
theorem som_51 (w0 : World) : StepS w0 51 := by
 intro o a w K Q ho hs h1 hG hK
 have hop := op_at (f := fun o => o.op) (x := .build 39 #[(0, .const (.int .i64 8)), (2, .const (.int .u64 9223372036854775808))]) ho (by kernel_rfl)
 have hr : (execOp a.eval o).run Try.prog w = .ok (.value (.agg (({ zeroF 8 with of_ := 9223372036854775808 } : Fr).cells (.slice none 0 0) (.slice none 0 0)).toArray)) w := by
  unfold execOp; rw [hop]; simp only [List.map_toArray, List.map_cons, List.map_nil, Act.eval]; kernel_rfl
 unfold Oper.wp; rw [hr]
 have hz := zero_wf 8 (by omega)
 exact hK _ _ (frGS (f := ({ zeroF 8 with of_ := 9223372036854775808 } : Fr)) ⟨hz.kind, hz.st, (⟨by decide, by decide⟩ : (0 : Int) ≤ 9223372036854775808 ∧ (9223372036854775808 : Int) < 18446744073709551616), hz.li, hz.co, hz.fi, hz.se, hz.de, hz.cidl, hz.cid⟩ noD noR) (Kin.refl _ _)
theorem som_52 (w0 : World) : StepS w0 52 := by
 intro o a w K Q ho hs h1 hG hK
 have hop := op_at (f := fun o => o.op) (x := .build 39 #[(0, .const (.int .i64 16)), (5, .const (.int .u64 1099511627776))]) ho (by kernel_rfl)
 have hr : (execOp a.eval o).run Try.prog w = .ok (.value (.agg (({ zeroF 16 with li := 1099511627776 } : Fr).cells (.slice none 0 0) (.slice none 0 0)).toArray)) w := by
  unfold execOp; rw [hop]; simp only [List.map_toArray, List.map_cons, List.map_nil, Act.eval]; kernel_rfl
 unfold Oper.wp; rw [hr]
 have hz := zero_wf 16 (by omega)
 exact hK _ _ (frGS (f := ({ zeroF 16 with li := 1099511627776 } : Fr)) ⟨hz.kind, hz.st, hz.of_, (⟨by decide, by decide⟩ : (0 : Int) ≤ 1099511627776 ∧ (1099511627776 : Int) < 18446744073709551616), hz.co, hz.fi, hz.se, hz.de, hz.cidl, hz.cid⟩ noD noR) (Kin.refl _ _)
theorem som_53 (w0 : World) : StepS w0 53 := by
 intro o a w K Q ho hs h1 hG hK
 have hop := op_at (f := fun o => o.op) (x := .build 39 #[(0, .const (.int .i64 16)), (5, .const (.int .u64 1099511627777))]) ho (by kernel_rfl)
 have hr : (execOp a.eval o).run Try.prog w = .ok (.value (.agg (({ zeroF 16 with li := 1099511627777 } : Fr).cells (.slice none 0 0) (.slice none 0 0)).toArray)) w := by
  unfold execOp; rw [hop]; simp only [List.map_toArray, List.map_cons, List.map_nil, Act.eval]; kernel_rfl
 unfold Oper.wp; rw [hr]
 have hz := zero_wf 16 (by omega)
 exact hK _ _ (frGS (f := ({ zeroF 16 with li := 1099511627777 } : Fr)) ⟨hz.kind, hz.st, hz.of_, (⟨by decide, by decide⟩ : (0 : Int) ≤ 1099511627777 ∧ (1099511627777 : Int) < 18446744073709551616), hz.co, hz.fi, hz.se, hz.de, hz.cidl, hz.cid⟩ noD noR) (Kin.refl _ _)
theorem som_54 (w0 : World) : StepS w0 54 := by
 intro o a w K Q ho hs h1 hG hK
 have hop := op_at (f := fun o => o.op) (x := .build 39 #[(0, .const (.int .i64 17)), (1, .const (.int .u64 3)), (5, .const (.int .u64 5))]) ho (by kernel_rfl)
 have hr : (execOp a.eval o).run Try.prog w = .ok (.value (.agg (({ zeroF 17 with st := 3, li := 5 } : Fr).cells (.slice none 0 0) (.slice none 0 0)).toArray)) w := by
  unfold execOp; rw [hop]; simp only [List.map_toArray, List.map_cons, List.map_nil, Act.eval]; kernel_rfl
 unfold Oper.wp; rw [hr]
 have hz := zero_wf 17 (by omega)
 exact hK _ _ (frGS (f := ({ zeroF 17 with st := 3, li := 5 } : Fr)) ⟨hz.kind, (⟨by decide, by decide⟩ : (0 : Int) ≤ 3 ∧ (3 : Int) < 18446744073709551616), hz.of_, (⟨by decide, by decide⟩ : (0 : Int) ≤ 5 ∧ (5 : Int) < 18446744073709551616), hz.co, hz.fi, hz.se, hz.de, hz.cidl, hz.cid⟩ noD noR) (Kin.refl _ _)
theorem som_55 (w0 : World) : StepS w0 55 := by
 intro o a w K Q ho hs h1 hG hK
 have hop := op_at (f := fun o => o.op) (x := .build 39 #[(0, .const (.int .i64 18)), (5, .const (.int .u64 1048576))]) ho (by kernel_rfl)
 have hr : (execOp a.eval o).run Try.prog w = .ok (.value (.agg (({ zeroF 18 with li := 1048576 } : Fr).cells (.slice none 0 0) (.slice none 0 0)).toArray)) w := by
  unfold execOp; rw [hop]; simp only [List.map_toArray, List.map_cons, List.map_nil, Act.eval]; kernel_rfl
 unfold Oper.wp; rw [hr]
 have hz := zero_wf 18 (by omega)
 exact hK _ _ (frGS (f := ({ zeroF 18 with li := 1048576 } : Fr)) ⟨hz.kind, hz.st, hz.of_, (⟨by decide, by decide⟩ : (0 : Int) ≤ 1048576 ∧ (1048576 : Int) < 18446744073709551616), hz.co, hz.fi, hz.se, hz.de, hz.cidl, hz.cid⟩ noD noR) (Kin.refl _ _)
theorem som_56 (w0 : World) : StepS w0 56 := by
 intro o a w K Q ho hs h1 hG hK
 have hop := op_at (f := fun o => o.op) (x := .build 39 #[(0, .const (.int .i64 18)), (5, .const (.int .u64 1048577))]) ho (by kernel_rfl)
 have hr : (execOp a.eval o).run Try.prog w = .ok (.value (.agg (({ zeroF 18 with li := 1048577 } : Fr).cells (.slice none 0 0) (.slice none 0 0)).toArray)) w := by
  unfold execOp; rw [hop]; simp only [List.map_toArray, List.map_cons, List.map_nil, Act.eval]; kernel_rfl
 unfold Oper.wp; rw [hr]
 have hz := zero_wf 18 (by omega)
 exact hK _ _ (frGS (f := ({ zeroF 18 with li := 1048577 } : Fr)) ⟨hz.kind, hz.st, hz.of_, (⟨by decide, by decide⟩ : (0 : Int) ≤ 1048577 ∧ (1048577 : Int) < 18446744073709551616), hz.co, hz.fi, hz.se, hz.de, hz.cidl, hz.cid⟩ noD noR) (Kin.refl _ _)
theorem som_57 (w0 : World) : StepS w0 57 := by
 intro o a w K Q ho hs h1 hG hK
 have hop := op_at (f := fun o => o.op) (x := .move (.tmp 1)) ho (by kernel_rfl)
 have hr : (execOp a.eval o).run Try.prog w = .ok (.value (.int .u64 4611686018427387903)) w := by
  unfold execOp; rw [hop]; simp only [List.map_toArray, List.map_cons, List.map_nil, Act.eval, h1]; rfl
 unfold Oper.wp; rw [hr]
 exact hK _ _ ⟨_, rfl, by omega, by omega⟩ (Kin.refl _ _)
theorem som_58 (w0 : World) : StepS w0 58 := by
 intro o a w K Q ho hs h1 hG hK
 have hop := op_at (f := fun o => o.op) (x := .build 39 #[(0, .const (.int .i64 20)), (5, .tmp 59)]) ho (by kernel_rfl)
 have g59 : GS w0 3 (a.tmps.getD 59 undef) w := hG 57 (op_at (f := fun o => o.after.any fun e => Region.binds .any e && e.on == 57) ho (by kernel_rfl))
 obtain ⟨x59, e59, p59, q59⟩ := g59
 have hr : (execOp a.eval o).run Try.prog w = .ok (.value (.agg (({ zeroF 20 with li := x59 } : Fr).cells (.slice none 0 0) (.slice none 0 0)).toArray)) w := by
  unfold execOp; rw [hop]; simp only [List.map_toArray, List.map_cons, List.map_nil, Act.eval, e59]; kernel_rfl
 unfold Oper.wp; rw [hr]
 have hz := zero_wf 20 (by omega)
 exact hK _ _ (frGS (f := ({ zeroF 20 with li := x59 } : Fr)) ⟨hz.kind, hz.st, hz.of_, (⟨by omega, by omega⟩ : (0 : Int) ≤ x59 ∧ (x59 : Int) < 18446744073709551616), hz.co, hz.fi, hz.se, hz.de, hz.cidl, hz.cid⟩ noD noR) (Kin.refl _ _)
theorem som_59 (w0 : World) : StepS w0 59 := by
 intro o a w K Q ho hs h1 hG hK
 have hop := op_at (f := fun o => o.op) (x := .build 37 #[(0, .const (.int .u8 1))]) ho (by kernel_rfl)
 have hr : (execOp a.eval o).run Try.prog w = .ok (.value (.agg (([1, 0, 0, 0, 0, 0, 0, 0] : List Int).map (Value.int .u8)).toArray)) w := by
  unfold execOp; rw [hop]; simp only [List.map_toArray, List.map_cons, List.map_nil, Act.eval]; kernel_rfl
 unfold Oper.wp; rw [hr]
 exact hK _ _ ⟨[1, 0, 0, 0, 0, 0, 0, 0], rfl, rfl, by decide⟩ (Kin.refl _ _)
theorem som_60 (w0 : World) : StepS w0 60 := by
 intro o a w K Q ho hs h1 hG hK
 have hop := op_at (f := fun o => o.op) (x := .build 39 #[(0, .const (.int .i64 24)), (8, .const (.int .u64 5)), (5, .const (.int .u64 5)), (11, .tmp 61)]) ho (by kernel_rfl)
 have g61 : GS w0 8 (a.tmps.getD 61 undef) w := hG 59 (op_at (f := fun o => o.after.any fun e => Region.binds .any e && e.on == 59) ho (by kernel_rfl))
 obtain ⟨c61, e61, p61, q61⟩ := g61
 obtain ⟨y0, y1, y2, y3, y4, y5, y6, y7, rfl⟩ : ∃ y0 y1 y2 y3 y4 y5 y6 y7, c61 = [y0, y1, y2, y3, y4, y5, y6, y7] := eight p61
 simp only [List.map_cons, List.map_nil] at e61
 have hr : (execOp a.eval o).run Try.prog w = .ok (.value (.agg (({ zeroF 24 with se := 5, li := 5, cid := [y0, y1, y2, y3, y4, y5, y6, y7] } : Fr).cells (.slice none 0 0) (.slice none 0 0)).toArray)) w := by
  unfold execOp; rw [hop]; simp only [List.map_toArray, List.map_cons, List.map_nil, Act.eval, e61]; kernel_rfl
 unfold Oper.wp; rw [hr]
 have hz := zero_wf 24 (by omega)
 exact hK _ _ (frGS (f := ({ zeroF 24 with se := 5, li := 5, cid := [y0, y1, y2, y3, y4, y5, y6, y7] } : Fr)) ⟨hz.kind, hz.st, hz.of_, (⟨by decide, by decide⟩ : (0 : Int) ≤ 5 ∧ (5 : Int) < 18446744073709551616), hz.co, hz.fi, (⟨by decide, by decide⟩ : (0 : Int) ≤ 5 ∧ (5 : Int) < 18446744073709551616), hz.de, p61, q61⟩ noD noR) (Kin.refl _ _)
theorem som_61 (w0 : World) : StepS w0 61 := by
 intro o a w K Q ho hs h1 hG hK
 have hop := op_at (f := fun o => o.op) (x := .build 39 #[(0, .const (.int .i64 24)), (8, .const (.int .u64 5)), (5, .const (.int .u64 6))]) ho (by kernel_rfl)
 have hr : (execOp a.eval o).run Try.prog w = .ok (.value (.agg (({ zeroF 24 with se := 5, li := 6 } : Fr).cells (.slice none 0 0) (.slice none 0 0)).toArray)) w := by
  unfold execOp; rw [hop]; simp only [List.map_toArray, List.map_cons, List.map_nil, Act.eval]; kernel_rfl
 unfold Oper.wp; rw [hr]
 have hz := zero_wf 24 (by omega)
 exact hK _ _ (frGS (f := ({ zeroF 24 with se := 5, li := 6 } : Fr)) ⟨hz.kind, hz.st, hz.of_, (⟨by decide, by decide⟩ : (0 : Int) ≤ 6 ∧ (6 : Int) < 18446744073709551616), hz.co, hz.fi, (⟨by decide, by decide⟩ : (0 : Int) ≤ 5 ∧ (5 : Int) < 18446744073709551616), hz.de, hz.cidl, hz.cid⟩ noD noR) (Kin.refl _ _)
theorem som_62 (w0 : World) : StepS w0 62 := by
 intro o a w K Q ho hs h1 hG hK
 have hop := op_at (f := fun o => o.op) (x := .move (.tmp 1)) ho (by kernel_rfl)
 have hr : (execOp a.eval o).run Try.prog w = .ok (.value (.int .u64 4611686018427387903)) w := by
  unfold execOp; rw [hop]; simp only [List.map_toArray, List.map_cons, List.map_nil, Act.eval, h1]; rfl
 unfold Oper.wp; rw [hr]
 exact hK _ _ ⟨_, rfl, by omega, by omega⟩ (Kin.refl _ _)
theorem som_63 (w0 : World) : StepS w0 63 := by
 intro o a w K Q ho hs h1 hG hK
 have hop := op_at (f := fun o => o.op) (x := .build 39 #[(0, .const (.int .i64 25)), (8, .tmp 64)]) ho (by kernel_rfl)
 have g64 : GS w0 3 (a.tmps.getD 64 undef) w := hG 62 (op_at (f := fun o => o.after.any fun e => Region.binds .any e && e.on == 62) ho (by kernel_rfl))
 obtain ⟨x64, e64, p64, q64⟩ := g64
 have hr : (execOp a.eval o).run Try.prog w = .ok (.value (.agg (({ zeroF 25 with se := x64 } : Fr).cells (.slice none 0 0) (.slice none 0 0)).toArray)) w := by
  unfold execOp; rw [hop]; simp only [List.map_toArray, List.map_cons, List.map_nil, Act.eval, e64]; kernel_rfl
 unfold Oper.wp; rw [hr]
 have hz := zero_wf 25 (by omega)
 exact hK _ _ (frGS (f := ({ zeroF 25 with se := x64 } : Fr)) ⟨hz.kind, hz.st, hz.of_, hz.li, hz.co, hz.fi, (⟨by omega, by omega⟩ : (0 : Int) ≤ x64 ∧ (x64 : Int) < 18446744073709551616), hz.de, hz.cidl, hz.cid⟩ noD noR) (Kin.refl _ _)
theorem som_64 (w0 : World) : StepS w0 64 := by
 intro o a w K Q ho hs h1 hG hK
 have hop := op_at (f := fun o => o.op) (x := .build 37 #[(0, .const (.int .u8 9)), (1, .const (.int .u8 8))]) ho (by kernel_rfl)
 have hr : (execOp a.eval o).run Try.prog w = .ok (.value (.agg (([9, 8, 0, 0, 0, 0, 0, 0] : List Int).map (Value.int .u8)).toArray)) w := by
  unfold execOp; rw [hop]; simp only [List.map_toArray, List.map_cons, List.map_nil, Act.eval]; kernel_rfl
 unfold Oper.wp; rw [hr]
 exact hK _ _ ⟨[9, 8, 0, 0, 0, 0, 0, 0], rfl, rfl, by decide⟩ (Kin.refl _ _)
theorem som_65 (w0 : World) : StepS w0 65 := by
 intro o a w K Q ho hs h1 hG hK
 have hop := op_at (f := fun o => o.op) (x := .build 39 #[(0, .const (.int .i64 26)), (11, .tmp 66)]) ho (by kernel_rfl)
 have g66 : GS w0 8 (a.tmps.getD 66 undef) w := hG 64 (op_at (f := fun o => o.after.any fun e => Region.binds .any e && e.on == 64) ho (by kernel_rfl))
 obtain ⟨c66, e66, p66, q66⟩ := g66
 obtain ⟨y0, y1, y2, y3, y4, y5, y6, y7, rfl⟩ : ∃ y0 y1 y2 y3 y4 y5 y6 y7, c66 = [y0, y1, y2, y3, y4, y5, y6, y7] := eight p66
 simp only [List.map_cons, List.map_nil] at e66
 have hr : (execOp a.eval o).run Try.prog w = .ok (.value (.agg (({ zeroF 26 with cid := [y0, y1, y2, y3, y4, y5, y6, y7] } : Fr).cells (.slice none 0 0) (.slice none 0 0)).toArray)) w := by
  unfold execOp; rw [hop]; simp only [List.map_toArray, List.map_cons, List.map_nil, Act.eval, e66]; kernel_rfl
 unfold Oper.wp; rw [hr]
 have hz := zero_wf 26 (by omega)
 exact hK _ _ (frGS (f := ({ zeroF 26 with cid := [y0, y1, y2, y3, y4, y5, y6, y7] } : Fr)) ⟨hz.kind, hz.st, hz.of_, hz.li, hz.co, hz.fi, hz.se, hz.de, p66, q66⟩ noD noR) (Kin.refl _ _)
theorem som_66 (w0 : World) : StepS w0 66 := by
 intro o a w K Q ho hs h1 hG hK
 have hop := op_at (f := fun o => o.op) (x := .build 39 #[(0, .const (.int .i64 27))]) ho (by kernel_rfl)
 have hr : (execOp a.eval o).run Try.prog w = .ok (.value (.agg ((zeroF 27).cells (.slice none 0 0) (.slice none 0 0)).toArray)) w := by
  unfold execOp; rw [hop]; simp only [List.map_toArray, List.map_cons, List.map_nil, Act.eval]; kernel_rfl
 unfold Oper.wp; rw [hr]
 have hz := zero_wf 27 (by omega)
 exact hK _ _ (frGS (f := (zeroF 27)) ⟨hz.kind, hz.st, hz.of_, hz.li, hz.co, hz.fi, hz.se, hz.de, hz.cidl, hz.cid⟩ noD noR) (Kin.refl _ _)
theorem som_67 (w0 : World) : StepS w0 67 := by
 intro o a w K Q ho hs h1 hG hK
 have hop := op_at (f := fun o => o.op) (x := .makeSlice 25 (.const (.int .i64 32)) (.const (.int .i64 32))) ho (by kernel_rfl)
 obtain ⟨w', hm, hO, hB⟩ := mk_u8 w 32 (by omega)
 have hr : (execOp a.eval o).run Try.prog w = .ok (.value (.slice (some ⟨w.heap.size, 0, none⟩) 32 32)) w' := by
  unfold execOp; rw [hop]; simp only [Act.eval, Sem.run_bind]; rw [show ((.int .i64 32 : Value)) = .int .i64 ((32 : Nat) : Int) from rfl, hm]; rfl
 unfold Oper.wp; rw [hr]
 exact hK _ _ ⟨_, _, _, _, rfl, Nat.le_refl _, by omega, hO, by omega⟩ (Kin.of hs hB)
theorem som_68 (w0 : World) : StepS w0 68 := by
 intro o a w K Q ho hs h1 hG hK
 have hop := op_at (f := fun o => o.op) (x := .build 39 #[(0, .const (.int .i64 28)), (6, .const (.int .u64 5)), (3, .tmp 69)]) ho (by kernel_rfl)
 have g69 : GS w0 5 (a.tmps.getD 69 undef) w := hG 67 (op_at (f := fun o => o.after.any fun e => Region.binds .any e && e.on == 67) ho (by kernel_rfl))
 obtain ⟨a69, n69, c69, l69, e69, p69, q69, I69, s69⟩ := g69
 have hr : (execOp a.eval o).run Try.prog w = .ok (.value (.agg (({ zeroF 28 with co := 5, data := l69 } : Fr).cells (.slice a69 n69 c69) (.slice none 0 0)).toArray)) w := by
  unfold execOp; rw [hop]; simp only [List.map_toArray, List.map_cons, List.map_nil, Act.eval, e69]; kernel_rfl
 unfold Oper.wp; rw [hr]
 have hz := zero_wf 28 (by omega)
 exact hK _ _ (frGS (f := ({ zeroF 28 with co := 5, data := l69 } : Fr)) ⟨hz.kind, hz.st, hz.of_, hz.li, (⟨by decide, by decide⟩ : (0 : Int) ≤ 5 ∧ (5 : Int) < 18446744073709551616), hz.fi, hz.se, hz.de, hz.cidl, hz.cid⟩ ⟨_, _, _, rfl, p69, q69, I69, s69⟩ noR) (Kin.refl _ _)
theorem som_69 (w0 : World) : StepS w0 69 := by
 intro o a w K Q ho hs h1 hG hK
 have hop := op_at (f := fun o => o.op) (x := .makeSlice 25 (.const (.int .i64 33)) (.const (.int .i64 33))) ho (by kernel_rfl)
 obtain ⟨w', hm, hO, hB⟩ := mk_u8 w 33 (by omega)
 have hr : (execOp a.eval o).run Try.prog w = .ok (.value (.slice (some ⟨w.heap.size, 0, none⟩) 33 33)) w' := by
  unfold execOp; rw [hop]; simp only [Act.eval, Sem.run_bind]; rw [show ((.int .i64 33 : Value)) = .int .i64 ((33 : Nat) : Int) from rfl, hm]; rfl
 unfold Oper.wp; rw [hr]
 exact hK _ _ ⟨_, _, _, _, rfl, Nat.le_refl _, by omega, hO, by omega⟩ (Kin.of hs hB)
theorem som_70 (w0 : World) : StepS w0 70 := by
 intro o a w K Q ho hs h1 hG hK
 have hop := op_at (f := fun o => o.op) (x := .build 39 #[(0, .const (.int .i64 28)), (3, .tmp 71)]) ho (by kernel_rfl)
 have g71 : GS w0 5 (a.tmps.getD 71 undef) w := hG 69 (op_at (f := fun o => o.after.any fun e => Region.binds .any e && e.on == 69) ho (by kernel_rfl))
 obtain ⟨a71, n71, c71, l71, e71, p71, q71, I71, s71⟩ := g71
 have hr : (execOp a.eval o).run Try.prog w = .ok (.value (.agg (({ zeroF 28 with data := l71 } : Fr).cells (.slice a71 n71 c71) (.slice none 0 0)).toArray)) w := by
  unfold execOp; rw [hop]; simp only [List.map_toArray, List.map_cons, List.map_nil, Act.eval, e71]; kernel_rfl
 unfold Oper.wp; rw [hr]
 have hz := zero_wf 28 (by omega)
 exact hK _ _ (frGS (f := ({ zeroF 28 with data := l71 } : Fr)) ⟨hz.kind, hz.st, hz.of_, hz.li, hz.co, hz.fi, hz.se, hz.de, hz.cidl, hz.cid⟩ ⟨_, _, _, rfl, p71, q71, I71, s71⟩ noR) (Kin.refl _ _)
theorem som_71 (w0 : World) : StepS w0 71 := by
 intro o a w K Q ho hs h1 hG hK
 have hop := op_at (f := fun o => o.op) (x := .build 39 #[(0, .const (.int .i64 30))]) ho (by kernel_rfl)
 have hr : (execOp a.eval o).run Try.prog w = .ok (.value (.agg ((zeroF 30).cells (.slice none 0 0) (.slice none 0 0)).toArray)) w := by
  unfold execOp; rw [hop]; simp only [List.map_toArray, List.map_cons, List.map_nil, Act.eval]; kernel_rfl
 unfold Oper.wp; rw [hr]
 have hz := zero_wf 30 (by omega)
 exact hK _ _ (frGS (f := (zeroF 30)) ⟨hz.kind, hz.st, hz.of_, hz.li, hz.co, hz.fi, hz.se, hz.de, hz.cidl, hz.cid⟩ noD noR) (Kin.refl _ _)
theorem som_72 (w0 : World) : StepS w0 72 := by
 intro o a w K Q ho hs h1 hG hK
 have hop := op_at (f := fun o => o.op) (x := .build 39 #[(0, .const (.int .i64 3))]) ho (by kernel_rfl)
 have hr : (execOp a.eval o).run Try.prog w = .ok (.value (.agg ((zeroF 3).cells (.slice none 0 0) (.slice none 0 0)).toArray)) w := by
  unfold execOp; rw [hop]; simp only [List.map_toArray, List.map_cons, List.map_nil, Act.eval]; kernel_rfl
 unfold Oper.wp; rw [hr]
 have hz := zero_wf 3 (by omega)
 exact hK _ _ (frGS (f := (zeroF 3)) ⟨hz.kind, hz.st, hz.of_, hz.li, hz.co, hz.fi, hz.se, hz.de, hz.cidl, hz.cid⟩ noD noR) (Kin.refl _ _)
theorem som_73 (w0 : World) : StepS w0 73 := by
 intro o a w K Q ho hs h1 hG hK
 have hop := op_at (f := fun o => o.op) (x := .build 39 #[(0, .const (.int .i64 31))]) ho (by kernel_rfl)
 have hr : (execOp a.eval o).run Try.prog w = .ok (.value (.agg ((zeroF 31).cells (.slice none 0 0) (.slice none 0 0)).toArray)) w := by
  unfold execOp; rw [hop]; simp only [List.map_toArray, List.map_cons, List.map_nil, Act.eval]; kernel_rfl
 unfold Oper.wp; rw [hr]
 have hz := zero_wf 31 (by omega)
 exact hK _ _ (frGS (f := (zeroF 31)) ⟨hz.kind, hz.st, hz.of_, hz.li, hz.co, hz.fi, hz.se, hz.de, hz.cidl, hz.cid⟩ noD noR) (Kin.refl _ _)
theorem som_74 (w0 : World) : StepS w0 74 := by
 intro o a w K Q ho hs h1 hG hK
 have hop := op_at (f := fun o => o.op) (x := .build 39 #[(0, .const (.int .i64 (-1)))]) ho (by kernel_rfl)
 have hr : (execOp a.eval o).run Try.prog w = .ok (.value (.agg ((zeroF (-1)).cells (.slice none 0 0) (.slice none 0 0)).toArray)) w := by
  unfold execOp; rw [hop]; simp only [List.map_toArray, List.map_cons, List.map_nil, Act.eval]; kernel_rfl
 unfold Oper.wp; rw [hr]
 have hz := zero_wf (-1) (by omega)
 exact hK _ _ (frGS (f := (zeroF (-1))) ⟨hz.kind, hz.st, hz.of_, hz.li, hz.co, hz.fi, hz.se, hz.de, hz.cidl, hz.cid⟩ noD noR) (Kin.refl _ _)
theorem som_75 (w0 : World) : StepS w0 75 := by
 intro o a w K Q ho hs h1 hG hK
 have hop := op_at (f := fun o => o.op) (x := .build 39 #[(0, .const (.int .i64 14))]) ho (by kernel_rfl)
 have hr : (execOp a.eval o).run Try.prog w = .ok (.value (.agg ((zeroF 14).cells (.slice none 0 0) (.slice none 0 0)).toArray)) w := by
  unfold execOp; rw [hop]; simp only [List.map_toArray, List.map_cons, List.map_nil, Act.eval]; kernel_rfl
 unfold Oper.wp; rw [hr]
 have hz := zero_wf 14 (by omega)
 exact hK _ _ (frGS (f := (zeroF 14)) ⟨hz.kind, hz.st, hz.of_, hz.li, hz.co, hz.fi, hz.se, hz.de, hz.cidl, hz.cid⟩ noD noR) (Kin.refl _ _)
theorem som_76 (w0 : World) : StepS w0 76 := by
 intro o a w K Q ho hs h1 hG hK
 have hop := op_at (f := fun o => o.op) (x := .buildSlice 23 39 (List.toArray [(0, .tmp 2), (1, .tmp 3), (2, .tmp 11), (3, .tmp 14), (4, .tmp 18), (5, .tmp 19), (6, .tmp 22), (7, .tmp 27), (8, .tmp 30), (9, .tmp 32), (10, .tmp 33), (11, .tmp 36), (12, .tmp 38), (13, .tmp 41), (14, .tmp 42), (15, .tmp 44), (16, .tmp 46), (17, .tmp 48), (18, .tmp 49), (19, .tmp 52), (20, .tmp 53), (21, .tmp 54), (22, .tmp 55), (23, .tmp 56), (24, .tmp 57), (25, .tmp 58), (26, .tmp 60), (27, .tmp 62), (28, .tmp 63), (29, .tmp 65), (30, .tmp 67), (31, .tmp 68), (32, .tmp 70), (33, .tmp 72), (34, .tmp 73), (35, .tmp 74), (36, .tmp 75), (37, .tmp 76), (38, .tmp 77)])) ho (by kernel_rfl)
 have g2 : GS w0 0 (a.tmps.getD 2 undef) w := hG 0 (op_at (f := fun o => o.after.any fun e => Region.binds .any e && e.on == 0) ho (by kernel_rfl))
 obtain ⟨f2, d2, r2, e2, A2, B2, C2⟩ := g2
 have g3 : GS w0 0 (a.tmps.getD 3 undef) w := hG 1 (op_at (f := fun o => o.after.any fun e => Region.binds .any e && e.on == 1) ho (by kernel_rfl))
 obtain ⟨f3, d3, r3, e3, A3, B3, C3⟩ := g3
 have g11 : GS w0 0 (a.tmps.getD 11 undef) w := hG 9 (op_at (f := fun o => o.after.any fun e => Region.binds .any e && e.on == 9) ho (by kernel_rfl))
 obtain ⟨f11, d11, r11, e11, A11, B11, C11⟩ := g11
 have g14 : GS w0 0 (a.tmps.getD 14 undef) w := hG 12 (op_at (f := fun o => o.after.any fun e => Region.binds .any e && e.on == 12) ho (by kernel_rfl))
 obtain ⟨f14, d14, r14, e14, A14, B14, C14⟩ := g14
 have g18 : GS w0 0 (a.tmps.getD 18 undef) w := hG 16 (op_at (f := fun o => o.after.any fun e => Region.binds .any e && e.on == 16) ho (by kernel_rfl))
 obtain ⟨f18, d18, r18, e18, A18, B18, C18⟩ := g18
 have g19 : GS w0 0 (a.tmps.getD 19 undef) w := hG 17 (op_at (f := fun o => o.after.any fun e => Region.binds .any e && e.on == 17) ho (by kernel_rfl))
 obtain ⟨f19, d19, r19, e19, A19, B19, C19⟩ := g19
 have g22 : GS w0 0 (a.tmps.getD 22 undef) w := hG 20 (op_at (f := fun o => o.after.any fun e => Region.binds .any e && e.on == 20) ho (by kernel_rfl))
 obtain ⟨f22, d22, r22, e22, A22, B22, C22⟩ := g22
 have g27 : GS w0 0 (a.tmps.getD 27 undef) w := hG 25 (op_at (f := fun o => o.after.any fun e => Region.binds .any e && e.on == 25) ho (by kernel_rfl))
 obtain ⟨f27, d27, r27, e27, A27, B27, C27⟩ := g27
 have g30 : GS w0 0 (a.tmps.getD 30 undef) w := hG 28 (op_at (f := fun o => o.after.any fun e => Region.binds .any e && e.on == 28) ho (by kernel_rfl))
 obtain ⟨f30, d30, r30, e30, A30, B30, C30⟩ := g30
 have g32 : GS w0 0 (a.tmps.getD 32 undef) w := hG 30 (op_at (f := fun o => o.after.any fun e => Region.binds .any e && e.on == 30) ho (by kernel_rfl))
 obtain ⟨f32, d32, r32, e32, A32, B32, C32⟩ := g32
 have g33 : GS w0 0 (a.tmps.getD 33 undef) w := hG 31 (op_at (f := fun o => o.after.any fun e => Region.binds .any e && e.on == 31) ho (by kernel_rfl))
 obtain ⟨f33, d33, r33, e33, A33, B33, C33⟩ := g33
 have g36 : GS w0 0 (a.tmps.getD 36 undef) w := hG 34 (op_at (f := fun o => o.after.any fun e => Region.binds .any e && e.on == 34) ho (by kernel_rfl))
 obtain ⟨f36, d36, r36, e36, A36, B36, C36⟩ := g36
 have g38 : GS w0 0 (a.tmps.getD 38 undef) w := hG 36 (op_at (f := fun o => o.after.any fun e => Region.binds .any e && e.on == 36) ho (by kernel_rfl))
 obtain ⟨f38, d38, r38, e38, A38, B38, C38⟩ := g38
 have g41 : GS w0 0 (a.tmps.getD 41 undef) w := hG 39 (op_at (f := fun o => o.after.any fun e => Region.binds .any e && e.on == 39) ho (by kernel_rfl))
 obtain ⟨f41, d41, r41, e41, A41, B41, C41⟩ := g41
 have g42 : GS w0 0 (a.tmps.getD 42 undef) w := hG 40 (op_at (f := fun o => o.after.any fun e => Region.binds .any e && e.on == 40) ho (by kernel_rfl))
 obtain ⟨f42, d42, r42, e42, A42, B42, C42⟩ := g42
 have g44 : GS w0 0 (a.tmps.getD 44 undef) w := hG 42 (op_at (f := fun o => o.after.any fun e => Region.binds .any e && e.on == 42) ho (by kernel_rfl))
 obtain ⟨f44, d44, r44, e44, A44, B44, C44⟩ := g44
 have g46 : GS w0 0 (a.tmps.getD 46 undef) w := hG 44 (op_at (f := fun o => o.after.any fun e => Region.binds .any e && e.on == 44) ho (by kernel_rfl))
 obtain ⟨f46, d46, r46, e46, A46, B46, C46⟩ := g46
 have g48 : GS w0 0 (a.tmps.getD 48 undef) w := hG 46 (op_at (f := fun o => o.after.any fun e => Region.binds .any e && e.on == 46) ho (by kernel_rfl))
 obtain ⟨f48, d48, r48, e48, A48, B48, C48⟩ := g48
 have g49 : GS w0 0 (a.tmps.getD 49 undef) w := hG 47 (op_at (f := fun o => o.after.any fun e => Region.binds .any e && e.on == 47) ho (by kernel_rfl))
 obtain ⟨f49, d49, r49, e49, A49, B49, C49⟩ := g49
 have g52 : GS w0 0 (a.tmps.getD 52 undef) w := hG 50 (op_at (f := fun o => o.after.any fun e => Region.binds .any e && e.on == 50) ho (by kernel_rfl))
 obtain ⟨f52, d52, r52, e52, A52, B52, C52⟩ := g52
 have g53 : GS w0 0 (a.tmps.getD 53 undef) w := hG 51 (op_at (f := fun o => o.after.any fun e => Region.binds .any e && e.on == 51) ho (by kernel_rfl))
 obtain ⟨f53, d53, r53, e53, A53, B53, C53⟩ := g53
 have g54 : GS w0 0 (a.tmps.getD 54 undef) w := hG 52 (op_at (f := fun o => o.after.any fun e => Region.binds .any e && e.on == 52) ho (by kernel_rfl))
 obtain ⟨f54, d54, r54, e54, A54, B54, C54⟩ := g54
 have g55 : GS w0 0 (a.tmps.getD 55 undef) w := hG 53 (op_at (f := fun o => o.after.any fun e => Region.binds .any e && e.on == 53) ho (by kernel_rfl))
 obtain ⟨f55, d55, r55, e55, A55, B55, C55⟩ := g55
 have g56 : GS w0 0 (a.tmps.getD 56 undef) w := hG 54 (op_at (f := fun o => o.after.any fun e => Region.binds .any e && e.on == 54) ho (by kernel_rfl))
 obtain ⟨f56, d56, r56, e56, A56, B56, C56⟩ := g56
 have g57 : GS w0 0 (a.tmps.getD 57 undef) w := hG 55 (op_at (f := fun o => o.after.any fun e => Region.binds .any e && e.on == 55) ho (by kernel_rfl))
 obtain ⟨f57, d57, r57, e57, A57, B57, C57⟩ := g57
 have g58 : GS w0 0 (a.tmps.getD 58 undef) w := hG 56 (op_at (f := fun o => o.after.any fun e => Region.binds .any e && e.on == 56) ho (by kernel_rfl))
 obtain ⟨f58, d58, r58, e58, A58, B58, C58⟩ := g58
 have g60 : GS w0 0 (a.tmps.getD 60 undef) w := hG 58 (op_at (f := fun o => o.after.any fun e => Region.binds .any e && e.on == 58) ho (by kernel_rfl))
 obtain ⟨f60, d60, r60, e60, A60, B60, C60⟩ := g60
 have g62 : GS w0 0 (a.tmps.getD 62 undef) w := hG 60 (op_at (f := fun o => o.after.any fun e => Region.binds .any e && e.on == 60) ho (by kernel_rfl))
 obtain ⟨f62, d62, r62, e62, A62, B62, C62⟩ := g62
 have g63 : GS w0 0 (a.tmps.getD 63 undef) w := hG 61 (op_at (f := fun o => o.after.any fun e => Region.binds .any e && e.on == 61) ho (by kernel_rfl))
 obtain ⟨f63, d63, r63, e63, A63, B63, C63⟩ := g63
 have g65 : GS w0 0 (a.tmps.getD 65 undef) w := hG 63 (op_at (f := fun o => o.after.any fun e => Region.binds .any e && e.on == 63) ho (by kernel_rfl))
 obtain ⟨f65, d65, r65, e65, A65, B65, C65⟩ := g65
 have g67 : GS w0 0 (a.tmps.getD 67 undef) w := hG 65 (op_at (f := fun o => o.after.any fun e => Region.binds .any e && e.on == 65) ho (by kernel_rfl))
 obtain ⟨f67, d67, r67, e67, A67, B67, C67⟩ := g67
 have g68 : GS w0 0 (a.tmps.getD 68 undef) w := hG 66 (op_at (f := fun o => o.after.any fun e => Region.binds .any e && e.on == 66) ho (by kernel_rfl))
 obtain ⟨f68, d68, r68, e68, A68, B68, C68⟩ := g68
 have g70 : GS w0 0 (a.tmps.getD 70 undef) w := hG 68 (op_at (f := fun o => o.after.any fun e => Region.binds .any e && e.on == 68) ho (by kernel_rfl))
 obtain ⟨f70, d70, r70, e70, A70, B70, C70⟩ := g70
 have g72 : GS w0 0 (a.tmps.getD 72 undef) w := hG 70 (op_at (f := fun o => o.after.any fun e => Region.binds .any e && e.on == 70) ho (by kernel_rfl))
 obtain ⟨f72, d72, r72, e72, A72, B72, C72⟩ := g72
 have g73 : GS w0 0 (a.tmps.getD 73 undef) w := hG 71 (op_at (f := fun o => o.after.any fun e => Region.binds .any e && e.on == 71) ho (by kernel_rfl))
 obtain ⟨f73, d73, r73, e73, A73, B73, C73⟩ := g73
 have g74 : GS w0 0 (a.tmps.getD 74 undef) w := hG 72 (op_at (f := fun o => o.after.any fun e => Region.binds .any e && e.on == 72) ho (by kernel_rfl))
 obtain ⟨f74, d74, r74, e74, A74, B74, C74⟩ := g74
 have g75 : GS w0 0 (a.tmps.getD 75 undef) w := hG 73 (op_at (f := fun o => o.after.any fun e => Region.binds .any e && e.on == 73) ho (by kernel_rfl))
 obtain ⟨f75, d75, r75, e75, A75, B75, C75⟩ := g75
 have g76 : GS w0 0 (a.tmps.getD 76 undef) w := hG 74 (op_at (f := fun o => o.after.any fun e => Region.binds .any e && e.on == 74) ho (by kernel_rfl))
 obtain ⟨f76, d76, r76, e76, A76, B76, C76⟩ := g76
 have g77 : GS w0 0 (a.tmps.getD 77 undef) w := hG 75 (op_at (f := fun o => o.after.any fun e => Region.binds .any e && e.on == 75) ho (by kernel_rfl))
 obtain ⟨f77, d77, r77, e77, A77, B77, C77⟩ := g77
 obtain ⟨X, hX⟩ : ∃ X : List FX, X = [⟨f2, d2, r2⟩, ⟨f3, d3, r3⟩, ⟨f11, d11, r11⟩, ⟨f14, d14, r14⟩, ⟨f18, d18, r18⟩, ⟨f19, d19, r19⟩, ⟨f22, d22, r22⟩, ⟨f27, d27, r27⟩, ⟨f30, d30, r30⟩, ⟨f32, d32, r32⟩, ⟨f33, d33, r33⟩, ⟨f36, d36, r36⟩, ⟨f38, d38, r38⟩, ⟨f41, d41, r41⟩, ⟨f42, d42, r42⟩, ⟨f44, d44, r44⟩, ⟨f46, d46, r46⟩, ⟨f48, d48, r48⟩, ⟨f49, d49, r49⟩, ⟨f52, d52, r52⟩, ⟨f53, d53, r53⟩, ⟨f54, d54, r54⟩, ⟨f55, d55, r55⟩, ⟨f56, d56, r56⟩, ⟨f57, d57, r57⟩, ⟨f58, d58, r58⟩, ⟨f60, d60, r60⟩, ⟨f62, d62, r62⟩, ⟨f63, d63, r63⟩, ⟨f65, d65, r65⟩, ⟨f67, d67, r67⟩, ⟨f68, d68, r68⟩, ⟨f70, d70, r70⟩, ⟨f72, d72, r72⟩, ⟨f73, d73, r73⟩, ⟨f74, d74, r74⟩, ⟨f75, d75, r75⟩, ⟨f76, d76, r76⟩, ⟨f77, d77, r77⟩] := ⟨_, rfl⟩
 have hXL : X.length = 39 := by rw [hX]; rfl
 have hA : ∀ x ∈ X, FrAt w x.f x.dv x.rv ∧ x.f.data.length ≤ 1000 ∧ x.f.rg.length ≤ 1000 := fun x hx => by
  rw [hX] at hx; simp only [List.mem_cons, List.not_mem_nil, or_false] at hx; rcases hx with rfl | rfl | rfl | rfl | rfl | rfl | rfl | rfl | rfl | rfl | rfl | rfl | rfl | rfl | rfl | rfl | rfl | rfl | rfl | rfl | rfl | rfl | rfl | rfl | rfl | rfl | rfl | rfl | rfl | rfl | rfl | rfl | rfl | rfl | rfl | rfl | rfl | rfl | rfl
  ·
   exact ⟨A2, B2, C2⟩
  ·
   exact ⟨A3, B3, C3⟩
  ·
   exact ⟨A11, B11, C11⟩
  ·
   exact ⟨A14, B14, C14⟩
  ·
   exact ⟨A18, B18, C18⟩
  ·
   exact ⟨A19, B19, C19⟩
  ·
   exact ⟨A22, B22, C22⟩
  ·
   exact ⟨A27, B27, C27⟩
  ·
   exact ⟨A30, B30, C30⟩
  ·
   exact ⟨A32, B32, C32⟩
  ·
   exact ⟨A33, B33, C33⟩
  ·
   exact ⟨A36, B36, C36⟩
  ·
   exact ⟨A38, B38, C38⟩
  ·
   exact ⟨A41, B41, C41⟩
  ·
   exact ⟨A42, B42, C42⟩
  ·
   exact ⟨A44, B44, C44⟩
  ·
   exact ⟨A46, B46, C46⟩
  ·
   exact ⟨A48, B48, C48⟩
  ·
   exact ⟨A49, B49, C49⟩
  ·
   exact ⟨A52, B52, C52⟩
  ·
   exact ⟨A53, B53, C53⟩
  ·
   exact ⟨A54, B54, C54⟩
  ·
   exact ⟨A55, B55, C55⟩
  ·
   exact ⟨A56, B56, C56⟩
  ·
   exact ⟨A57, B57, C57⟩
  ·
   exact ⟨A58, B58, C58⟩
  ·
   exact ⟨A60, B60, C60⟩
  ·
   exact ⟨A62, B62, C62⟩
  ·
   exact ⟨A63, B63, C63⟩
  ·
   exact ⟨A65, B65, C65⟩
  ·
   exact ⟨A67, B67, C67⟩
  ·
   exact ⟨A68, B68, C68⟩
  ·
   exact ⟨A70, B70, C70⟩
  ·
   exact ⟨A72, B72, C72⟩
  ·
   exact ⟨A73, B73, C73⟩
  ·
   exact ⟨A74, B74, C74⟩
  ·
   exact ⟨A75, B75, C75⟩
  ·
   exact ⟨A76, B76, C76⟩
  ·
   exact ⟨A77, B77, C77⟩
 have hal := (Below.refl w.heap.size w).alloc (Nat.le_refl _) (.cells (frK.flat X).toArray 39)
 refine wp_build_many frT _ X 39 hXL (by omega) hop (fun x hx => (hA x hx).1.ok) (by rw [hX]; simp only [List.map_toArray, List.map_cons, List.map_nil, Act.eval, e2, e3, e11, e14, e18, e19, e22, e27, e30, e32, e33, e36, e38, e41, e42, e44, e46, e48, e49, e52, e53, e54, e55, e56, e57, e58, e60, e62, e63, e65, e67, e68, e70, e72, e73, e74, e75, e76, e77]; rfl) (hK _ _ ⟨_, X, rfl, ⟨?_, fun x hx => (hA x hx).1.below hal⟩, fun x hx => (hA x hx).2⟩ (Kin.of hs hal))
 have hrow := RK.At.of_row (K := frK) (l := X) (heap_alloc_new w (.cells (frK.flat X).toArray 39)) (fun x hx => (hA x hx).1.ok)
 rw [hXL] at hrow
 exact hrow
theorem som_77 (w0 : World) : StepS w0 77 := by
 intro o a w K Q ho hs h1 hG hK
 have hop := op_at (f := fun o => o.op) (x := .assign (.tmp 78)) ho (by kernel_rfl)
 have g78 : GS w0 9 (a.tmps.getD 78 undef) w := hG 76 (op_at (f := fun o => o.after.any fun e => Region.binds .any e && e.on == 76) ho (by kernel_rfl))
 obtain ⟨a78, X78, e78, p78, q78⟩ := g78
 have hr : (execOp a.eval o).run Try.prog w = .ok (.value (.slice a78 39 39)) w := by
  unfold execOp; rw [hop]; simp only [List.map_toArray, List.map_cons, List.map_nil, Act.eval, e78]; rfl
 unfold Oper.wp; rw [hr]
 exact hK _ _ ⟨a78, X78, rfl, p78, q78⟩ (Kin.refl _ _)
end Go.Proofs.Ytmbjepcbokbemaa
namespace Go.Proofs.Ytmbjepcbokbemaa
open Go.RowKit
set_option maxRecDepth 100000
theorem som_all (w0 : World) : ∀ i, i < 78 → StepS w0 i
 | 0, _ => som_0 w0
 | 1, _ => som_1 w0
 | 2, _ => som_2 w0
 | 3, _ => som_3 w0
 | 4, _ => som_4 w0
 | 5, _ => som_5 w0
 | 6, _ => som_6 w0
 | 7, _ => som_7 w0
 | 8, _ => som_8 w0
 | 9, _ => som_9 w0
 | 10, _ => som_10 w0
 | 11, _ => som_11 w0
 | 12, _ => som_12 w0
 | 13, _ => som_13 w0
 | 14, _ => som_14 w0
 | 15, _ => som_15 w0
 | 16, _ => som_16 w0
 | 17, _ => som_17 w0
 | 18, _ => som_18 w0
 | 19, _ => som_19 w0
 | 20, _ => som_20 w0
 | 21, _ => som_21 w0
 | 22, _ => som_22 w0
 | 23, _ => som_23 w0
 | 24, _ => som_24 w0
 | 25, _ => som_25 w0
 | 26, _ => som_26 w0
 | 27, _ => som_27 w0
 | 28, _ => som_28 w0
 | 29, _ => som_29 w0
 | 30, _ => som_30 w0
 | 31, _ => som_31 w0
 | 32, _ => som_32 w0
 | 33, _ => som_33 w0
 | 34, _ => som_34 w0
 | 35, _ => som_35 w0
 | 36, _ => som_36 w0
 | 37, _ => som_37 w0
 | 38, _ => som_38 w0
 | 39, _ => som_39 w0
 | 40, _ => som_40 w0
 | 41, _ => som_41 w0
 | 42, _ => som_42 w0
 | 43, _ => som_43 w0
 | 44, _ => som_44 w0
 | 45, _ => som_45 w0
 | 46, _ => som_46 w0
 | 47, _ => som_47 w0
 | 48, _ => som_48 w0
 | 49, _ => som_49 w0
 | 50, _ => som_50 w0
 | 51, _ => som_51 w0
 | 52, _ => som_52 w0
 | 53, _ => som_53 w0
 | 54, _ => som_54 w0
 | 55, _ => som_55 w0
 | 56, _ => som_56 w0
 | 57, _ => som_57 w0
 | 58, _ => som_58 w0
 | 59, _ => som_59 w0
 | 60, _ => som_60 w0
 | 61, _ => som_61 w0
 | 62, _ => som_62 w0
 | 63, _ => som_63 w0
 | 64, _ => som_64 w0
 | 65, _ => som_65 w0
 | 66, _ => som_66 w0
 | 67, _ => som_67 w0
 | 68, _ => som_68 w0
 | 69, _ => som_69 w0
 | 70, _ => som_70 w0
 | 71, _ => som_71 w0
 | 72, _ => som_72 w0
 | 73, _ => som_73 w0
 | 74, _ => som_74 w0
 | 75, _ => som_75 w0
 | 76, _ => som_76 w0
 | 77, _ => som_77 w0
 | n + 78, h => absurd h (by omega)
theorem reg_eq : ((Try.f15.body.bind (subRegion 2)).getD .skip) = Code.region 2 (regF Try.f15).toArray true := by kernel_rfl
theorem reg_guard : (regF Try.f15).all (fun o => o.guard.isNone) = true := by kernel_rfl
theorem reg_dst : (((regF Try.f15).zipIdx 0).all fun x => decide (x.1.dst = some (dstS x.2))) = true := by kernel_rfl
theorem reg_dep : (((regF Try.f15).zipIdx 0).all fun x => x.1.after.all fun e => !Region.binds .any e || decide (e.on < x.2)) = true := by kernel_rfl
theorem reg_len : (regF Try.f15).length = 78 := by kernel_rfl
theorem zip_at {α : Type} {l : List α} {p : α × Nat → Bool} (h : (l.zipIdx 0).all p = true) {i : Nat} {x : α} (hx : l[i]? = some x) : p (x, i) = true := by
 refine List.all_eq_true.1 h (x, i) ?_
 rw [List.mem_iff_getElem?]
 exact ⟨i, by rw [List.getElem?_zipIdx, hx]; simp⟩
def SomI (w0 : World) (listed : Array Bool) (a : Act) (w : World) : Prop := listed.size = 78 ∧ a.defers = [] ∧ a.tmps.size = 79 ∧ a.tmps.getD 1 undef = .int .u64 4611686018427387903 ∧ Below w0.heap.size w0 w ∧ ∀ i, listed.getD i false = true → GS w0 (kdS i) (a.tmps.getD (dstS i) undef) w
theorem kin_below {w0 w w' : World} (h : Below w0.heap.size w0 w) (k : Kin w0 w w') : Below w0.heap.size w0 w' := ⟨k.os.trans h.os, k.tape.trans h.tape, k.output.trans h.output, Nat.le_trans h.size k.size, fun i hi => (k.low i hi).trans (h.block i hi)⟩
theorem getD_put {t : Array Value} {d j : Nat} {v : Value} : (t.setIfInBounds d v).getD j undef = if j = d ∧ d < t.size then v else t.getD j undef := by
 by_cases h : j = d ∧ d < t.size
 ·
  rw [if_pos h, Array.getD_eq_getD_getElem?, h.1, Array.getElem?_setIfInBounds_self_of_lt h.2]; rfl
 ·
  rw [if_neg h, Array.getD_eq_getD_getElem?, Array.getD_eq_getD_getElem?]
  by_cases hj : j = d
  ·
   subst hj
   have hs : t.size ≤ j := by omega
   rw [Array.getElem?_eq_none (by rw [Array.size_setIfInBounds]; exact hs), Array.getElem?_eq_none hs]
  ·
   rw [Array.getElem?_setIfInBounds_ne (Ne.symm hj)]
theorem dst_ne {i j : Nat} (hi : i < 78) (hj : j < 78) (h : j ≠ i) : dstS j ≠ dstS i := by unfold dstS; split <;> split <;> omega
theorem some_reg {Q : Exit → Act → World → Prop} (w0 w : World) (a : Act) (ha : a.defers = [] ∧ a.tmps.size = 79 ∧ a.tmps.getD 1 undef = .int .u64 4611686018427387903) (hB : Below w0.heap.size w0 w)
  (hQ : ∀ (t : Array Value) (w' : World), Below w0.heap.size w0 w' → GS w0 9 (t.getD 0 undef) w' → Q .normal ⟨t, []⟩ w') : Code.wp Try.prog (((Try.f15.body.bind (subRegion 2)).getD .skip)) Q a w := by
 rw [reg_eq]
 refine wp_region_any (by kernel_rfl) ?_
 refine wpAny_inv (SomI w0) ?_ ?_ _ _ _ _ (by simp) ?_ ?_
 ·
  intro listed a w i hI hr
  obtain ⟨hls, hd, hsz, h1, hBl, hG⟩ := hI
  obtain ⟨hun, o, ho, hdep⟩ := mem_ready.1 hr
  have ho' : (regF Try.f15)[i]? = some o := by rw [List.getElem?_toArray] at ho; exact ho
  have hi : i < 78 := by rw [← reg_len]; exact (List.getElem?_eq_some_iff.1 ho').1
  have hgd : o.guard = none := by have h9 := List.all_eq_true.1 reg_guard o (List.mem_of_getElem? ho'); simpa using h9
  have hds : o.dst = some (dstS i) := of_decide_eq_true (zip_at reg_dst ho')
  unfold wpOp
  rw [ho]
  simp only
  rw [if_pos (by unfold Region.wanted; rw [hgd])]
  refine .inl (som_all w0 i hi o a w _ _ ho' hBl.size h1 (fun j hj => ?_) (fun v w' hv hk => ?_))
  ·
   obtain ⟨e, he, hb⟩ := Array.any_eq_true'.1 hj
   simp only [Bool.and_eq_true, beq_iff_eq] at hb
   have h9 := hdep e he hb.1
   rw [hb.2] at h9
   exact hG j h9
  ·
   refine ⟨by rw [Array.size_setIfInBounds]; exact hls, by rw [hds]; exact hd, by rw [hds]; simp only [Act.put, Array.size_setIfInBounds]; exact hsz, ?_, kin_below hBl hk, fun j hj => ?_⟩
   ·
    rw [hds]; simp only [Act.put]; rw [getD_put, if_neg (by unfold dstS; split <;> omega)]; exact h1
   ·
    rw [hds]; simp only [Act.put]
    rw [getD_put]
    rcases getD_set hj with rfl | hj
    ·
     rw [if_pos ⟨rfl, by rw [hsz]; unfold dstS; split <;> omega⟩]; exact hv
    ·
     by_cases hji : j = i
     ·
      subst hji; rw [if_pos ⟨rfl, by rw [hsz]; unfold dstS; split <;> omega⟩]; exact hv
     ·
      by_cases hj78 : j < 78
      ·
       rw [if_neg (fun h => dst_ne hi hj78 hji h.1)]; exact (hG j hj).kin hk
      ·
       rw [if_neg (fun h => by unfold dstS at h; split at h <;> split at h <;> omega)]; exact (hG j hj).kin hk
 ·
  intro listed a w hI hr
  obtain ⟨hls, hd, hsz, h1, hBl, hG⟩ := hI
  have hall := ready_all (md := .any) (ops := (regF Try.f15).toArray) (listed := listed) (fun i o ho e he hb => by
   rw [List.getElem?_toArray] at ho
   have h9 := zip_at reg_dep ho
   have h8 := Array.all_eq_true'.1 h9 e he
   simp only [hb, Bool.not_true, Bool.false_or] at h8
   exact of_decide_eq_true h8) (by rw [hls]; exact reg_len.symm) hr 77 (by show 77 < (regF Try.f15).toArray.size; rw [List.size_toArray, reg_len]; omega)
  have hg := hG 77 hall
  have hae : a = ⟨a.tmps, []⟩ := by cases a; simp only at hd; subst hd; rfl
  rw [hae]
  exact hQ a.tmps w hBl hg
 ·
  exact Nat.le_trans List.countP_le_length (by simp)
 ·
  refine ⟨by rw [Array.size_replicate]; exact reg_len, ha.1, ha.2.1, ha.2.2, hB.drew, fun i hi => ?_⟩
  rw [Array.getD_eq_getD_getElem?, Array.getElem?_replicate] at hi
  split at hi <;> simp at hi
theorem some_any (w : World) : Calls Try.prog 15 #[] w fun e w' => ∃ a X, e = .returned (.slice a 39 39) ∧ FrsAt w' a 39 X ∧ (∀ x ∈ X, x.f.data.length ≤ 1000 ∧ x.f.rg.length ≤ 1000) ∧ Below w.heap.size w w' := by
 go_enter Try.func15, Try.ntmps15
 go_upto_region 2 with fail
 refine some_reg w w _ ⟨rfl, rfl, rfl⟩ (Below.refl _ _) ?_
 intro t w' hb hg
 obtain ⟨a, X, e0, h1, h2⟩ := hg
 show Exit.then _ _ _ _ _
 (try simp only [Exit.inBlock, Exit.then])
 go_wp2_with fail
 refine bodyPost_ret (results_tmp rfl _ _ _) rfl ?_
 exact ⟨a, X, by rw [← e0], h1, h2, hb⟩
end Go.Proofs.Ytmbjepcbokbemaa
