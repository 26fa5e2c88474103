/- demux: Get, Probes, Len, Places, Put. -/
import Derived.Test.YtpngjokjjpdboaaDmx3
namespace Go.Proofs.Ytpngjokjjpdboaa
open Go.RowKit
set_option linter.unusedVariables false

/-- nothing but blocks p and g may have turned. -/
structure Two (w w' : World) (p g : Nat) : Prop where
  os : w'.os = w.os
  tape : w'.tape = w.tape
  output : w'.output = w.output
  size : w.heap.size ≤ w'.heap.size
  block : ∀ i, i < w.heap.size → i ≠ p → i ≠ g → w'.heap[i]? = w.heap[i]?
theorem Two.of {w w' : World} {p g : Nat} (h : Below w.heap.size w w') : Two w w' p g := ⟨h.os, h.tape, h.output, h.size, fun i hi _ _ => h.block i hi⟩
theorem Two.trans {w w' w2 : World} {p g : Nat} (h : Two w w' p g) (k : Two w' w2 p g) : Two w w2 p g :=
  ⟨k.os.trans h.os, k.tape.trans h.tape, k.output.trans h.output, Nat.le_trans h.size k.size, fun i hi h1 h2 => (k.block i (Nat.lt_of_lt_of_le hi h.size) h1 h2).trans (h.block i hi h1 h2)⟩
theorem Two.gp {w w' : World} {p g : Nat} (h : w.grownBy w' (some p)) : Two w w' p g := ⟨h.os, h.tape, h.output, h.size, fun i hi h1 _ => h.block i hi (by intro e; injection e with e; exact h1 e)⟩
theorem Two.gg {w w' : World} {p g : Nat} (h : w.grownBy w' (some g)) : Two w w' p g := ⟨h.os, h.tape, h.output, h.size, fun i hi _ h2 => h.block i hi (by intro e; injection e with e; exact h2 e)⟩
theorem Two.row {w w' : World} {p g b : Nat} {o : Obj} (h : Two w w' p g) (hb : w.heap[b]? = some o) (h1 : b ≠ p) (h2 : b ≠ g) : w'.heap[b]? = some o := (h.block b (lt_of_block hb) h1 h2).trans hb
theorem Two.low {w0 w w' : World} {B p g : Nat} (h : Below B w0 w) (hB : B ≤ w.heap.size) (k : Two w w' p g) (h1 : B ≤ p) (h2 : B ≤ g) : Below B w0 w' :=
  ⟨k.os.trans h.os, k.tape.trans h.tape, k.output.trans h.output, Nat.le_trans h.size k.size, fun i hi => (k.block i (by omega) (by omega) (by omega)).trans (h.block i hi)⟩
theorem wp_store_part {P : Program} {op : Oper} {a : Act} {w : World} {K : Act → World → Prop} {Q : Exit → Act → World → Prop} (ty : TypeId) (x y : Operand) (ho : op.op = .store ty x y)
    (g o : Nat) (hx : a.eval x = .pointer (some ⟨g, o, none⟩)) (cs : List Value) (t : TypeId) (pre mid suf : List Value) (hy : a.eval y = .agg cs.toArray) (hr : w.heap[g]? = some (.cells (pre ++ (mid ++ suf)).toArray t (0, 0))) (hp : pre.length = o) (hl : mid.length = cs.length)
    (hi : (P.info? ty).map (·.size) = some cs.length) (h1 : ∀ v ∈ cs, v.oneCell' = true)
    (h : ∀ w', w'.heap[g]? = some (.cells (pre ++ (cs ++ suf)).toArray t (0, 0)) → w.grownBy w' (some g) → K (a.put op.dst undef) w') : Oper.wp P op a w K Q := by
  refine wp_store_mid ty x y ho g o cs.toArray hx hy ?_ (by simpa using hi) (all_oneCell_toArray h1) ?_
  · intro j hj
    have hj2 : j < mid.length := by rw [hl]; simpa using hj
    have hv : (pre ++ (mid ++ suf))[o + j]? = some mid[j] := by
      rw [List.getElem?_append_right (by omega), hp, show o + j - o = j by omega, List.getElem?_append_left hj2]
      exact List.getElem?_eq_getElem hj2
    rw [row_cell hr (o + j) mid[j] (by rw [List.getElem?_toArray]; exact hv), row_free hr (o + j)]
    exact ⟨rfl, rfl⟩
  · have := setCells_part (g := g) (t := t) suf cs pre mid w hr hl
    rw [hp] at this
    exact h _ (by simpa using this.1) (by simpa using this.2)
theorem len8 {xs : List Int} (h : xs.length = 8) : ∃ x0 x1 x2 x3 x4 x5 x6 x7, xs = [x0, x1, x2, x3, x4, x5, x6, x7] := by
  match xs, h with
  | [x0, x1, x2, x3, x4, x5, x6, x7], _ => exact ⟨x0, x1, x2, x3, x4, x5, x6, x7, rfl⟩
theorem Stop.wf {N : Nat} {l : List Pl} {c : List Int} {i : Nat} {x : Pl} (h : Stop homeM N l c i x) (hp : ∀ y ∈ l, y.ok) : x.ok := hp x (List.mem_of_getElem? h.at')

set_option maxRecDepth 100000 in
theorem tlen_any (w : World) (N : Nat) (l : List Pl) (p g : Nat) (hT : Tab w N l p g) : Calls Try.prog 10 #[.pointer (some ⟨p, 0, none⟩)] w fun e w' => e = .returned (.int .i64 (l.countP (·.u) : Nat)) ∧ w = w' := by
  have c1 : w.cell? ⟨p, 1, none⟩ = some (.int .i64 (l.countP (·.u) : Nat)) := row_cell hT.box 1 _ rfl
  generalize l.countP (·.u) = k at c1 ⊢
  clear hT
  go_enter Try.func10, Try.ntmps10
  go_wp2
  go_ret
  exact ⟨rfl, rfl⟩
set_option maxRecDepth 100000 in
theorem tplaces_any (w : World) (N : Nat) (l : List Pl) (p g : Nat) (hT : Tab w N l p g) : Calls Try.prog 9 #[.pointer (some ⟨p, 0, none⟩)] w fun e w' => e = .returned (.int .i64 N) ∧ w = w' := by
  have c1 : w.cell? ⟨p, 0, none⟩ = some (.slice (some ⟨g, 0, none⟩) N N) := row_cell hT.box 0 _ rfl
  clear hT
  go_enter Try.func9, Try.ntmps9
  go_wp2
  go_ret
  exact ⟨rfl, rfl⟩
def GetR (N : Nat) (l : List Pl) (c : List Int) (w : World) (e : Ending) (w' : World) : Prop :=
  Below w.heap.size w w' ∧ ∃ i x, Stop homeM N l c i x ∧ e = .returned (.tuple #[.int .i64 x.n, .bool x.u])
def ProbesR (N : Nat) (l : List Pl) (c : List Int) (w : World) (e : Ending) (w' : World) : Prop :=
  Below w.heap.size w w' ∧ ∃ i x, Stop homeM N l c i x ∧ e = .returned (.int .i64 ((i : Int) + 1))
set_option maxRecDepth 100000 in
set_option maxHeartbeats 4000000 in
theorem probes_any (w : World) (N : Nat) (l : List Pl) (p g : Nat) (c : List Int) (hT : Tab w N l p g) (hc : c.length = 8) (hcw : ∀ x ∈ c, (Lit.int .u8 x).wf = true) :
    Calls Try.prog 14 #[.pointer (some ⟨p, 0, none⟩), .agg (c.map (Value.int .u8)).toArray] w (ProbesR N l c w) := by
  have HGW := Lib.hid (lt_of_block hT.row); have HPW2 := Lib.hid (lt_of_block hT.box)
  have HFI := Lib.hid (fun w hT => find_any w N l p g c hT hc hcw)
  have HT := Lib.hid hT
  have HCL : Hid ((c.map (Value.int .u8)).length = 8) := Lib.hid (by rw [List.length_map, hc])
  have hN := pow_bd hT.pow
  have HCC := Lib.hid hc; have HCW := Lib.hid hcw
  have HCO : Hid (∀ v ∈ c.map (Value.int .u8), v.oneCell' = true) := Lib.hid ints_one
  obtain ⟨C, hC⟩ : ∃ C, c.map (Value.int .u8) = C := ⟨_, rfl⟩
  rw [hC] at HFI HCL HCO ⊢
  have HC := Lib.hid hC
  clear hT hc hcw hC
  have HB := Lib.hid (Below.refl w.heap.size w)
  go_enter Try.func14, Try.ntmps14
  go_upto_region 1 with fail
  have hb := (Below.refl w.heap.size w).alloc (Nat.le_refl _) (.cells C.toArray 30)
  replace HB := Lib.hid (bl_next HB.out HB.out.size hb)
  replace HT := Lib.hid (HT.out.below hb)
  have HGC := Lib.hid (heap_alloc_new w (.cells C.toArray 30))
  clear hb
  generalize w.alloc (.cells C.toArray 30) = w1 at HB HT HGC ⊢
  obtain ⟨gc, hg⟩ : ∃ g, w.heap.size = g := ⟨_, rfl⟩
  rw [hg] at HGC ⊢
  have HGE := Lib.hid hg
  clear hg
  go_wp2_with (first | (refine wpList_load_mid rfl 30 _ rfl gc 0 rfl C _ (rngL HGC.out) Try.underlying30 rfl (by rw [HCL.out]; rfl) ?_) | fail)
  refine Calls.mono (HFI.out _ HT.out) ?_
  rintro e w2 ⟨hb, i, x, hs, rfl⟩
  clear HFI
  replace HB := Lib.hid (bl_next HB.out HB.out.size hb)
  replace HGC := Lib.hid (bl_row hb (lt_of_block HGC.out) HGC.out)
  replace HT := Lib.hid (HT.out.below hb)
  clear hb
  have HS := Lib.hid hs
  have hi := hs.lt
  clear hs
  go_wp2_with fail
  go_ret
  exact ⟨HB.out, i, x, HS.out, rfl⟩
set_option maxRecDepth 100000 in
set_option maxHeartbeats 4000000 in
theorem get_any (w : World) (N : Nat) (l : List Pl) (p g : Nat) (c : List Int) (hT : Tab w N l p g) (hc : c.length = 8) (hcw : ∀ x ∈ c, (Lit.int .u8 x).wf = true) :
    Calls Try.prog 17 #[.pointer (some ⟨p, 0, none⟩), .agg (c.map (Value.int .u8)).toArray] w (GetR N l c w) := by
  have HGW := Lib.hid (lt_of_block hT.row); have HPW2 := Lib.hid (lt_of_block hT.box)
  have HFI := Lib.hid (fun w hT => find_any w N l p g c hT hc hcw)
  have HT := Lib.hid hT
  have HCL : Hid ((c.map (Value.int .u8)).length = 8) := Lib.hid (by rw [List.length_map, hc])
  have hN := pow_bd hT.pow
  have HCC := Lib.hid hc; have HCW := Lib.hid hcw
  have HCO : Hid (∀ v ∈ c.map (Value.int .u8), v.oneCell' = true) := Lib.hid ints_one
  obtain ⟨C, hC⟩ : ∃ C, c.map (Value.int .u8) = C := ⟨_, rfl⟩
  rw [hC] at HFI HCL HCO ⊢
  have HC := Lib.hid hC
  clear hT hc hcw hC
  have HB := Lib.hid (Below.refl w.heap.size w)
  go_enter Try.func17, Try.ntmps17
  go_upto_region 1 with fail
  have hb := (Below.refl w.heap.size w).alloc (Nat.le_refl _) (.cells C.toArray 30)
  replace HB := Lib.hid (bl_next HB.out HB.out.size hb)
  replace HT := Lib.hid (HT.out.below hb)
  have HGC := Lib.hid (heap_alloc_new w (.cells C.toArray 30))
  clear hb
  generalize w.alloc (.cells C.toArray 30) = w1 at HB HT HGC ⊢
  obtain ⟨gc, hg⟩ : ∃ g, w.heap.size = g := ⟨_, rfl⟩
  rw [hg] at HGC ⊢
  have HGE := Lib.hid hg
  clear hg
  go_wp2_with (first | (refine wpList_load_mid rfl 30 _ rfl gc 0 rfl C _ (rngL HGC.out) Try.underlying30 rfl (by rw [HCL.out]; rfl) ?_) | fail)
  refine Calls.mono (HFI.out _ HT.out) ?_
  rintro e w2 ⟨hb, i, x, hs, rfl⟩
  clear HFI
  replace HB := Lib.hid (bl_next HB.out HB.out.size hb)
  replace HGC := Lib.hid (bl_row hb (lt_of_block HGC.out) HGC.out)
  replace HT := Lib.hid (HT.out.below hb)
  clear hb
  have HS := Lib.hid hs
  have hi := hs.lt
  clear hs
  go_upto_region 2 with fail
  have hx := pl_cell HT.out.pls HT.out.row HS.out.at'
  have hgl := lt_of_block HT.out.row; have hpl := lt_of_block HT.out.box; have hqN := ps_lt (hm := homeM) hN.1 c i
  obtain ⟨q, hq⟩ : ∃ q, ps homeM N c i = q := ⟨_, rfl⟩
  rw [hq] at hx hqN ⊢
  have HQI := Lib.hid hq
  clear hq
  obtain ⟨xc, xn, xu⟩ := x
  simp only at hx
  have f0 : ∀ t : In (fun y => Below w2.heap.size w2 y), t.w.cell? ⟨p, 0, none⟩ = some (.slice (some ⟨g, 0, none⟩) N N) := fun t => bl_cell t.h hpl (row_cell HT.out.box 0 _ rfl)
  have f8 : ∀ t : In (fun y => Below w2.heap.size w2 y), t.w.cell? ⟨g, q * 10 + 8, none⟩ = some (.int .i64 xn) := fun t => bl_cell t.h hgl hx.2.1
  have f9 : ∀ t : In (fun y => Below w2.heap.size w2 y), t.w.cell? ⟨g, q * 10 + 9, none⟩ = some (.bool xu) := fun t => bl_cell t.h hgl hx.2.2
  clear hx hgl hpl
  refine wp_plan (.t 0 (.t 1 (.t 2 (.t 3 (.t 4 (.t 5 (.t 6 (.t 7 (.t 8 (.t 9 (.t 10 (.t 11 (.t 12 (.t 13 (.t 14 (.t 15 (.t 16 (.t 17 .done)))))))))))))))))) (fun y => Below w2.heap.size w2 y) (by kernel_rfl) (by kernel_rfl) (by kernel_rfl) (fun c a d v w h => by cases d <;> exact h) (Below.refl _ _).drew ?_
  have hS : Below w2.heap.size w2 w2.drew := (Below.refl _ _).drew
  generalize w2.drew = Wa at hS ⊢
  haveI hne : Nonempty (In fun y => Below w2.heap.size w2 y) := ⟨⟨w2, Below.refl _ _⟩⟩
  repeat (refine plan_t (by rfl) ?_; (first | go_big_quiet_skip | (go_big_quiet_want; go_big_quiet_op; go_big_quiet_on)); refine wpQuiet_nil ?_)
  replace HB := Lib.hid (bl_next HB.out HB.out.size hS)
  clear f0 f8 f9 hS
  clear hne
  show Exit.then _ _ _ _ _
  go_wp2_with fail
  go_ret2
  exact ⟨HB.out, i, ⟨xc, xn, xu⟩, HS.out, rfl⟩
def PutR (N : Nat) (l : List Pl) (p g : Nat) (c : List Int) (n' : Int) (w : World) (e : Ending) (w' : World) : Prop :=
  Two w w' p g ∧ ∃ i x, Stop homeM N l c i x ∧ ((x.u = false ∧ 3 * N ≤ 4 * l.countP (·.u) ∧ e = .returned (.bool false) ∧ Tab w' N l p g) ∨
    ((x.u = true ∨ 4 * l.countP (·.u) + 4 ≤ 3 * N) ∧ e = .returned (.bool true) ∧ Tab w' N (l.set (ps homeM N c i) ⟨c, n', true⟩) p g))
theorem four {N : Nat} (hp : ∃ k, 3 ≤ k ∧ k ≤ 12 ∧ N = 2 ^ k) : ∃ m, N = 8 * m := by
  obtain ⟨k, h3, _, rfl⟩ := hp
  exact ⟨2 ^ (k - 3), by rw [show (8 : Nat) = 2 ^ 3 by rfl, ← Nat.pow_add]; congr 1; omega⟩
/-- the table behind a Put. -/
theorem Tab.put {w w' : World} {N : Nat} {l : List Pl} {p g : Nat} {c : List Int} {n' : Int} {i : Nat} {x : Pl} (h : Tab w N l p g) (hs : Stop homeM N l c i x) (hr : x.u = true ∨ 4 * l.countP (·.u) + 4 ≤ 3 * N) (hc : c.length = 8) (hcw : ∀ x ∈ c, (Lit.int .u8 x).wf = true) (hn : -9223372036854775808 ≤ n' ∧ n' ≤ 9223372036854775807)
    (hrow : w'.heap[g]? = some (.cells (tRow (l.set (ps homeM N c i) ⟨c, n', true⟩)).toArray 58 (0, 0))) (hbox : w'.heap[p]? = some (.cells #[.slice (some ⟨g, 0, none⟩) N N, .int .i64 ((l.countP (·.u) + (if x.u = true then 0 else 1) : Nat) : Int)] 52 (0, 0))) :
    Tab w' N (l.set (ps homeM N c i) ⟨c, n', true⟩) p g := by
  have hp := h.inv.put hs n' hr
  refine ⟨hp.1, fun y hy => ?_, h.pow, h.ne, hrow, ?_⟩
  · rcases List.mem_or_eq_of_mem_set hy with h1 | h1
    · exact h.pls y h1
    · rw [h1]; exact ⟨hc, hcw, hn⟩
  · rw [hp.2.1]; exact hbox
set_option maxRecDepth 100000 in
set_option maxHeartbeats 4000000 in
theorem put_any (w : World) (N : Nat) (l : List Pl) (p g : Nat) (c : List Int) (n' : Int) (hn' : -9223372036854775808 ≤ n' ∧ n' ≤ 9223372036854775807) (hT : Tab w N l p g) (hc : c.length = 8) (hcw : ∀ x ∈ c, (Lit.int .u8 x).wf = true) :
    Calls Try.prog 13 #[.pointer (some ⟨p, 0, none⟩), .agg (c.map (Value.int .u8)).toArray, .int .i64 n'] w (PutR N l p g c n' w) := by
  have HGW := Lib.hid (lt_of_block hT.row); have HPW2 := Lib.hid (lt_of_block hT.box)
  have HFI := Lib.hid (fun w hT => find_any w N l p g c hT hc hcw)
  have HT := Lib.hid hT
  have HCL : Hid ((c.map (Value.int .u8)).length = 8) := Lib.hid (by rw [List.length_map, hc])
  have hN := pow_bd hT.pow
  have HCC := Lib.hid hc; have HCW := Lib.hid hcw
  have HCO : Hid (∀ v ∈ c.map (Value.int .u8), v.oneCell' = true) := Lib.hid ints_one
  obtain ⟨C, hC⟩ : ∃ C, c.map (Value.int .u8) = C := ⟨_, rfl⟩
  rw [hC] at HFI HCL HCO ⊢
  have HC := Lib.hid hC
  clear hT hc hcw hC
  have HB := Lib.hid (Below.refl w.heap.size w)
  go_enter Try.func13, Try.ntmps13
  go_upto_region 1 with fail
  have hb := (Below.refl w.heap.size w).alloc (Nat.le_refl _) (.cells C.toArray 30)
  replace HB := Lib.hid (bl_next HB.out HB.out.size hb)
  replace HT := Lib.hid (HT.out.below hb)
  have HGC := Lib.hid (heap_alloc_new w (.cells C.toArray 30))
  clear hb
  generalize w.alloc (.cells C.toArray 30) = w1 at HB HT HGC ⊢
  obtain ⟨gc, hg⟩ : ∃ g, w.heap.size = g := ⟨_, rfl⟩
  rw [hg] at HGC ⊢
  have HGE := Lib.hid hg
  clear hg
  go_wp2_with (first | (refine wpList_load_mid rfl 30 _ rfl gc 0 rfl C _ (rngL HGC.out) Try.underlying30 rfl (by rw [HCL.out]; rfl) ?_) | fail)
  refine Calls.mono (HFI.out _ HT.out) ?_
  rintro e w2 ⟨hb, i, x, hs, rfl⟩
  clear HFI
  replace HB := Lib.hid (bl_next HB.out HB.out.size hb)
  replace HGC := Lib.hid (bl_row hb (lt_of_block HGC.out) HGC.out)
  replace HT := Lib.hid (HT.out.below hb)
  clear hb
  have HS := Lib.hid hs
  have hi := hs.lt
  clear hs
  have hx := pl_cell HT.out.pls HT.out.row HS.out.at'
  have hgl := Lib.hid (lt_of_block HT.out.row); have hpl := Lib.hid (lt_of_block HT.out.box); have hqN := ps_lt (hm := homeM) hN.1 c i
  have hcnt := HT.out.inv.room
  have HST := Lib.hid hx
  have hxu : x.u = true ∨ x.u = false := by cases x.u <;> simp
  have k0 := row_cell HT.out.box 0 _ rfl
  have k9 := hx.2.2
  obtain ⟨xu, hxe⟩ : ∃ xu, x.u = xu := ⟨_, rfl⟩
  rw [hxe] at k9 hxu
  have HXU := Lib.hid hxe
  obtain ⟨q, hq⟩ : ∃ q, ps homeM N c i = q := ⟨_, rfl⟩
  rw [hq] at hqN k9 ⊢
  have HQI := Lib.hid hq
  clear hq hx HST hxe
  rcases hxu with rfl | rfl
  · have HT0 := Lib.hid HT.out
    have HROW := Lib.hid HT.out.row; have HBOX := Lib.hid HT.out.box
    have HPLS := Lib.hid HT.out.pls; have HNE := Lib.hid HT.out.ne
    have HSA : Hid (l[q]? = some x) := Lib.hid (by rw [← HQI.out]; exact HS.out.at')
    have HRM : Hid (x.u = true ∨ 4 * l.countP (·.u) + 4 ≤ 3 * N) := Lib.hid (.inl HXU.out)
    have HTW : Hid (Two w _ p g) := Lib.hid (Two.of HB.out)
    go_upto_region 6 with fail
    clear k0 k9 hcnt HT HB
    obtain ⟨c0, c1, c2, c3, c4, c5, c6, c7, rfl⟩ := len8 HCC.out
    have hC := HC.out
    subst hC
    simp only [List.map_cons, List.map_nil] at HGC ⊢
    have f0 : ∀ t : In (fun y => w2.grownBy y (some g)), t.w.cell? ⟨p, 0, none⟩ = some (.slice (some ⟨g, 0, none⟩) N N) := fun t => by have h := grown_row t.h (by intro e; injection e with e; exact HNE.out e.symm) HBOX.out; exact row_cell h 0 _ rfl
    have HRC : Hid (∀ y, w2.grownBy y (some g) → y.rangeAt gc 0 [.int .u8 c0, .int .u8 c1, .int .u8 c2, .int .u8 c3, .int .u8 c4, .int .u8 c5, .int .u8 c6, .int .u8 c7]) := Lib.hid fun y hy => rngL (grown_row hy (by intro e; injection e with e; have := HGW.out; have := HGE.out; omega) HGC.out)
    refine wp_plan (.t 0 (.t 1 (.t 2 (.t 3 (.t 4 (.t 5 (.t 6 (.t 7 (.t 8 (.u 9 .done)))))))))) (fun y => w2.grownBy y (some g)) (by kernel_rfl) (by kernel_rfl) (by kernel_rfl) (fun c a d v w h => by cases d <;> exact h) (grown_drew _ _) ?_
    have hS : w2.grownBy w2.drew (some g) := grown_drew _ _
    have hD : Below w2.heap.size w2 w2.drew := (Below.refl _ _).drew
    replace HROW := Lib.hid (bl_row hD (lt_of_block HROW.out) HROW.out); replace HBOX := Lib.hid (bl_row hD (lt_of_block HBOX.out) HBOX.out)
    replace HTW := Lib.hid (HTW.out.trans (Two.of hD))
    generalize w2.drew = Wb at hS hD HROW HBOX HTW ⊢
    haveI hne : Nonempty (In (fun y => w2.grownBy y (some g))) := ⟨⟨w2, grown_refl _ _⟩⟩
    repeat (first | (refine plan_t_load (by rfl) (by kernel_rfl) 30 _ rfl gc 0 rfl [.int .u8 c0, .int .u8 c1, .int .u8 c2, .int .u8 c3, .int .u8 c4, .int .u8 c5, .int .u8 c6, .int .u8 c7] _ (fun y hy => HRC.out y hy) Try.underlying30 rfl (by rfl) ?_; simp only [Act.put, List.setIfInBounds_toArray, List.set_cons_succ, List.set_cons_zero]) | (refine plan_t (by rfl) ?_; (first | go_big_quiet_skip | (go_big_quiet_want; go_big_quiet_op; go_big_quiet_on)); refine wpQuiet_nil ?_))
    clear f0
    refine plan_us (by rfl) (by kernel_rfl) ?_
    intro K hK
    have hts := tRow_set (x := ⟨[c0, c1, c2, c3, c4, c5, c6, c7], n', true⟩) HPLS.out HSA.out
    have hrw := HROW.out
    rw [hts.1] at hrw
    refine wp_store_part 58 _ _ rfl g (q * 10) rfl (Pl.row ⟨[c0, c1, c2, c3, c4, c5, c6, c7], n', true⟩) 58 _ x.row _ rfl hrw hts.2.2 (by rw [Pl.row_len (HPLS.out x (List.mem_of_getElem? HSA.out))]; rfl) (by rfl) (Pl.row_one _) ?_
    intro Wc hr hg
    rw [← hts.2.1] at hr
    have HR2 := Lib.hid hr
    have HB2 := Lib.hid (grown_row hg (by intro e; injection e with e; exact HNE.out e.symm) HBOX.out)
    have HT2 := Lib.hid (HTW.out.trans (Two.gg (p := p) hg))
    refine hK _ _ ⟨grown_trans hS hg, ?_⟩
    clear hK hts hrw hr hg hS hD hne HROW HBOX HTW
    show Exit.then _ _ _ _ _
    go_wp2_with fail
    go_ret
    refine ⟨HT2.out, i, x, HS.out, .inr ⟨HRM.out, rfl, ?_⟩⟩
    have hqi := HQI.out
    have hr2 := HR2.out
    rw [← hqi] at hr2
    exact Tab.put HT0.out HS.out HRM.out HCC.out HCW.out hn' hr2 (by rw [HXU.out]; exact HB2.out)
  · skip
    obtain ⟨m8, hm8⟩ := four HT.out.pow
    have HPW := Lib.hid hm8
    clear hm8
    obtain ⟨cn, hcn⟩ : ∃ cn, l.countP (·.u) = cn := ⟨_, rfl⟩
    have HCN := Lib.hid hcn
    have HBX : Hid (w2.heap[p]? = some (Obj.cells #[.slice (some ⟨g, 0, none⟩) N N, .int .i64 (cn : Int)] 52 (0, 0))) := Lib.hid (by have h := HT.out.box; rw [hcn] at h; exact h)
    simp only [hcn] at hcnt
    clear hcn
    go_upto_region 3 with fail
    clear k0 k9
    have f0 : ∀ t : In (fun y => Below w2.heap.size w2 y), t.w.cell? ⟨p, 0, none⟩ = some (.slice (some ⟨g, 0, none⟩) N N) := fun t => bl_cell t.h hpl.out (row_cell HBX.out 0 _ rfl)
    have f1 : ∀ t : In (fun y => Below w2.heap.size w2 y), t.w.cell? ⟨p, 1, none⟩ = some (.int .i64 (cn : Int)) := fun t => bl_cell t.h hpl.out (row_cell HBX.out 1 _ rfl)
    refine wp_plan (.t 0 (.t 1 (.t 2 (.t 3 (.t 4 (.t 5 (.t 6 (.t 7 (.t 8 (.t 9 (.t 10 (.t 11 .done)))))))))))) (fun y => Below w2.heap.size w2 y) (by kernel_rfl) (by kernel_rfl) (by kernel_rfl) (fun c a d v w h => by cases d <;> exact h) (Below.refl _ _).drew ?_
    have hS : Below w2.heap.size w2 w2.drew := (Below.refl _ _).drew
    generalize w2.drew = Wa at hS ⊢
    haveI hne : Nonempty (In fun y => Below w2.heap.size w2 y) := ⟨⟨w2, Below.refl _ _⟩⟩
    repeat (refine plan_t (by rfl) ?_; (first | go_big_quiet_skip | (go_big_quiet_want; go_big_quiet_op; go_big_quiet_on)); refine wpQuiet_nil ?_)
    have hs2 := hS
    replace HB := Lib.hid (bl_next HB.out HB.out.size hS); replace HT := Lib.hid (HT.out.below hS); replace HGC := Lib.hid (bl_row hS (lt_of_block HGC.out) HGC.out); replace HBX := Lib.hid (bl_row hS (lt_of_block HBX.out) HBX.out)
    clear f0 f1 hS hs2 hgl hpl
    clear hne
    show Exit.then _ _ _ _ _
    by_cases hfull : 3 * N ≤ 4 * cn
    · have HF := Lib.hid hfull
      go_wp2_with fail
      go_ret
      exact ⟨Two.of HB.out, i, x, HS.out, .inl ⟨HXU.out, by rw [HCN.out]; exact HF.out, rfl, HT.out⟩⟩
    · have HRM : Hid (x.u = true ∨ 4 * l.countP (·.u) + 4 ≤ 3 * N) := Lib.hid (.inr (by rw [HCN.out]; have := HPW.out; omega))
      have HT0 := Lib.hid HT.out
      have HPLS := Lib.hid HT.out.pls; have HNE := Lib.hid HT.out.ne
      have HSA : Hid (l[q]? = some x) := Lib.hid (by rw [← HQI.out]; exact HS.out.at')
      have k1 := row_cell HBX.out 1 _ rfl
      have k2 := row_free HBX.out 1
      go_upto_region 6 with fail
      clear k1 k2
      have hst := ((At.base HBX.out).set 1 (.int .i64 ((cn : Int) + 1))).row
      have hgr := grown_setCell Wa p 1 (.int .i64 ((cn : Int) + 1))
      have HROW := Lib.hid (grown_row hgr (by intro e; injection e with e; exact HNE.out e) HT.out.row)
      replace HGC := Lib.hid (grown_row hgr (by intro e; injection e with e; have := HPW2.out; have := HGE.out; omega) HGC.out)
      have HTW := Lib.hid ((Two.of (p := p) (g := g) HB.out).trans (Two.gp hgr))
      have HBOX : Hid ((Wa.setCell ⟨p, 1, none⟩ (.int .i64 ((cn : Int) + 1))).heap[p]? = some (.cells #[.slice (some ⟨g, 0, none⟩) N N, .int .i64 ((l.countP (·.u) + (if false = true then 0 else 1) : Nat) : Int)] 52 (0, 0))) := Lib.hid (by rw [HCN.out]; exact hst)
      clear hst hgr HB HT HBX
      generalize Wa.setCell ⟨p, 1, none⟩ (.int .i64 ((cn : Int) + 1)) = Wd at HROW HGC HTW HBOX ⊢
      obtain ⟨c0, c1, c2, c3, c4, c5, c6, c7, rfl⟩ := len8 HCC.out
      have hC := HC.out
      subst hC
      simp only [List.map_cons, List.map_nil] at HGC ⊢
      have f0 : ∀ t : In (fun y => Wd.grownBy y (some g)), t.w.cell? ⟨p, 0, none⟩ = some (.slice (some ⟨g, 0, none⟩) N N) := fun t => by have h := grown_row t.h (by intro e; injection e with e; exact HNE.out e.symm) HBOX.out; exact row_cell h 0 _ rfl
      have HRC : Hid (∀ y, Wd.grownBy y (some g) → y.rangeAt gc 0 [.int .u8 c0, .int .u8 c1, .int .u8 c2, .int .u8 c3, .int .u8 c4, .int .u8 c5, .int .u8 c6, .int .u8 c7]) := Lib.hid fun y hy => rngL (grown_row hy (by intro e; injection e with e; have := HGW.out; have := HGE.out; omega) HGC.out)
      refine wp_plan (.t 0 (.t 1 (.t 2 (.t 3 (.t 4 (.t 5 (.t 6 (.t 7 (.t 8 (.u 9 .done)))))))))) (fun y => Wd.grownBy y (some g)) (by kernel_rfl) (by kernel_rfl) (by kernel_rfl) (fun c a d v w h => by cases d <;> exact h) (grown_drew _ _) ?_
      have hS : Wd.grownBy Wd.drew (some g) := grown_drew _ _
      have hD : Below Wd.heap.size Wd Wd.drew := (Below.refl _ _).drew
      replace HROW := Lib.hid (bl_row hD (lt_of_block HROW.out) HROW.out); replace HBOX := Lib.hid (bl_row hD (lt_of_block HBOX.out) HBOX.out)
      replace HTW := Lib.hid (HTW.out.trans (Two.of hD))
      generalize Wd.drew = Wb at hS hD HROW HBOX HTW ⊢
      haveI hne : Nonempty (In (fun y => Wd.grownBy y (some g))) := ⟨⟨Wd, grown_refl _ _⟩⟩
      repeat (first | (refine plan_t_load (by rfl) (by kernel_rfl) 30 _ rfl gc 0 rfl [.int .u8 c0, .int .u8 c1, .int .u8 c2, .int .u8 c3, .int .u8 c4, .int .u8 c5, .int .u8 c6, .int .u8 c7] _ (fun y hy => HRC.out y hy) Try.underlying30 rfl (by rfl) ?_; simp only [Act.put, List.setIfInBounds_toArray, List.set_cons_succ, List.set_cons_zero]) | (refine plan_t (by rfl) ?_; (first | go_big_quiet_skip | (go_big_quiet_want; go_big_quiet_op; go_big_quiet_on)); refine wpQuiet_nil ?_))
      clear f0
      refine plan_us (by rfl) (by kernel_rfl) ?_
      intro K hK
      have hts := tRow_set (x := ⟨[c0, c1, c2, c3, c4, c5, c6, c7], n', true⟩) HPLS.out HSA.out
      have hrw := HROW.out
      rw [hts.1] at hrw
      refine wp_store_part 58 _ _ rfl g (q * 10) rfl (Pl.row ⟨[c0, c1, c2, c3, c4, c5, c6, c7], n', true⟩) 58 _ x.row _ rfl hrw hts.2.2 (by rw [Pl.row_len (HPLS.out x (List.mem_of_getElem? HSA.out))]; rfl) (by rfl) (Pl.row_one _) ?_
      intro Wc hr hg
      rw [← hts.2.1] at hr
      have HR2 := Lib.hid hr
      have HB2 := Lib.hid (grown_row hg (by intro e; injection e with e; exact HNE.out e.symm) HBOX.out)
      have HT2 := Lib.hid (HTW.out.trans (Two.gg (p := p) hg))
      refine hK _ _ ⟨grown_trans hS hg, ?_⟩
      clear hK hts hrw hr hg hS hD hne HROW HBOX HTW
      show Exit.then _ _ _ _ _
      go_wp2_with fail
      go_ret
      refine ⟨HT2.out, i, x, HS.out, .inr ⟨HRM.out, rfl, ?_⟩⟩
      have hqi := HQI.out
      have hr2 := HR2.out
      rw [← hqi] at hr2
      exact Tab.put HT0.out HS.out HRM.out HCC.out HCW.out hn' hr2 (by rw [HXU.out]; exact HB2.out)
end Go.Proofs.Ytpngjokjjpdboaa
