/- heads: the keeper's Head. -/
import Derived.Test.YthofbckkjcidmaaHead11
namespace Go.Proofs.Ythofbckkjcidmaa
open Go.RowKit
set_option linter.unusedVariables false

theorem wf_i64_of {n : Int} (h0 : -9223372036854775808 ≤ n) (h1 : n ≤ 9223372036854775807) : (Lit.int .i64 n).wf = true := by
  simp [Lit.wf, IntKind.min, IntKind.max, IntKind.signed, IntKind.bits]; omega
theorem setCells_part {g : Nat} {t : TypeId} (suf : List Value) : ∀ (vs pre rest : List Value) (w : World), w.heap[g]? = some (.cells (pre ++ (rest ++ suf)).toArray t (0, 0)) → rest.length = vs.length →
    (w.setCells g pre.length vs).heap[g]? = some (.cells (pre ++ (vs ++ suf)).toArray t (0, 0)) ∧ w.grownBy (w.setCells g pre.length vs) (some g)
  | [], pre, rest, w, h, hl => by
    obtain rfl : rest = [] := List.eq_nil_of_length_eq_zero hl
    rw [World.setCells]
    exact ⟨h, grown_refl _ _⟩
  | v :: vs, pre, [], w, h, hl => by cases hl
  | v :: vs, pre, r :: rest, w, h, hl => by
    have hA := ((At.base h).set pre.length v).conv (cs' := ((pre ++ [v]) ++ (rest ++ suf)).toArray) (by rw [List.setIfInBounds_toArray]; simp)
    have ih := setCells_part suf vs (pre ++ [v]) rest _ hA.row (by simpa using hl)
    rw [List.length_append] at ih
    rw [World.setCells]
    refine ⟨?_, grown_trans hA.rest ih.2⟩
    have h2 := ih.1
    rw [List.append_assoc] at h2
    exact h2
theorem wpList_store_part {P : Program} {ops : Array Oper} {rest : List Oper} {op : Oper} {a : Act} {w : World} {Q : Exit → Act → World → Prop} (hgd : op.guard = none) (ty : TypeId) (x y : Operand) (ho : op.op = .store ty x y)
    (g o : Nat) (hx : a.eval x = .pointer (some ⟨g, o, none⟩)) (cs : List Value) (t : TypeId) (pre mid suf : List Value) (hy : a.eval y = .agg cs.toArray) (hr : w.heap[g]? = some (.cells (pre ++ (mid ++ suf)).toArray t (0, 0))) (hp : pre.length = o) (hl : mid.length = cs.length)
    (hi : (P.info? ty).map (·.size) = some cs.length) (h1 : ∀ v ∈ cs, v.oneCell' = true)
    (h : ∀ w', w'.heap[g]? = some (.cells (pre ++ (cs ++ suf)).toArray t (0, 0)) → w.grownBy w' (some g) → wpList P ops Q rest (a.put op.dst undef) w') : wpList P ops Q (op :: rest) a w := by
  refine wpList_store_mid hgd ty x y ho g o cs.toArray hx hy ?_ (by simpa using hi) (all_oneCell_toArray h1) ?_
  · intro j hj
    have hj2 : j < mid.length := by rw [hl]; simpa using hj
    have hv : (pre ++ (mid ++ suf))[o + j]? = some mid[j] := by
      rw [List.getElem?_append_right (by omega), hp, show o + j - o = j by omega, List.getElem?_append_left hj2]
      exact List.getElem?_eq_getElem hj2
    rw [row_cell hr (o + j) mid[j] (by rw [List.getElem?_toArray]; exact hv), row_free hr (o + j)]
    exact ⟨rfl, rfl⟩
  · have := setCells_part (g := g) (t := t) suf cs pre mid w hr hl
    rw [hp] at this
    exact h _ (by simpa using this.1) (by simpa using this.2)
theorem wp_store_row {P : Program} {op : Oper} {a : Act} {w : World} {K : Act → World → Prop} {Q : Exit → Act → World → Prop} (ty : TypeId) (x y : Operand) (ho : op.op = .store ty x y)
    (g : Nat) (hx : a.eval x = .pointer (some ⟨g, 0, none⟩)) (cs cs0 : List Value) (hy : a.eval y = .agg cs.toArray) (t : TypeId) (hr : w.heap[g]? = some (.cells cs0.toArray t (0, 0))) (hl : cs0.length = cs.length)
    (hi : (P.info? ty).map (·.size) = some cs.length) (h1 : ∀ v ∈ cs, v.oneCell' = true)
    (h : ∀ w', w'.heap[g]? = some (.cells cs.toArray t (0, 0)) → w.grownBy w' (some g) → K (a.put op.dst undef) w') : Oper.wp P op a w K Q := by
  refine wp_store_mid ty x y ho g 0 cs.toArray hx hy ?_ (by simpa using hi) (all_oneCell_toArray h1) ?_
  · intro j hj
    rw [Nat.zero_add]
    have hj2 : j < cs0.length := by rw [hl]; simpa using hj
    rw [row_cell hr j cs0[j] (by simp [hj2]), row_free hr j]
    exact ⟨rfl, rfl⟩
  · have := setCells_row (g := g) (t := t) cs [] cs0 w hr hl
    exact h _ (by simpa using this.1) (by simpa using this.2)
theorem results_cell1 {P : Program} {fn : Func} {r : Tmp} {ty : TypeId} (h : fn.results = #[.cell r ty]) (tmps : Array Value) (w : World) (g : Nat) (hp : tmps.getD r undef = .pointer (some ⟨g, 0, none⟩))
    (cs : List Value) (d : TypeDesc) (e : TypeId) (hr : w.heap[g]? = some (.cells cs.toArray e (0, 0))) (hu : P.underlying ty = some d) (hd : d.isRow = true) (hi : (P.info? ty).map (·.size) = some cs.length) :
    (results fn tmps).run P w = .ok (.agg cs.toArray) w := by
  have hl := run_loadVar_mid (P := P) w g 0 ty cs d (fun j v hv => by rw [Nat.zero_add]; exact row_cell hr j v (by simpa using hv)) hu hd hi
  have hp2 : tmps[r]?.getD undef = .pointer (some ⟨g, 0, none⟩) := by simpa using hp
  simp [results, h, hp2, asAddr, hl]
/-- a head that may be, out of what is drawn. -/
def keepH (xs xt xf xw : Int) (k : List Int) (p : Bool) : Hd :=
  if within xs 0 2 = 2 then ⟨2, cidM xt, z8, [], within xw 1 4, p⟩
  else if within xs 0 2 = 0 then ⟨0, cidM xt, cidM xf, k.take 32, within xw 1 4, false⟩
  else ⟨within xs 0 2, cidM xt, cidM xf, [], within xw 1 4, false⟩
theorem cidM_len (n : Int) : (cidM n).length = 8 := rfl
theorem keepH_ok (xs xt xf xw : Int) (k : List Int) (p : Bool) (hk : ∀ x ∈ k, (Lit.int .u8 x).wf = true) : (keepH xs xt xf xw k p).ok := by
  have h1 := within_in xs 0 2 (by omega)
  have h2 := within_in xw 1 4 (by omega)
  have hw : (Lit.int .i64 (within xw 1 4)).wf = true := wf_i64_of (by omega) (by omega)
  unfold keepH
  split
  · exact ⟨(by decide : (Lit.int .i64 2).wf = true), hw, rfl, rfl, cidM_wf xt, (by decide : ∀ x ∈ z8, (Lit.int .u8 x).wf = true), by simp⟩
  · split
    · exact ⟨(by decide : (Lit.int .i64 0).wf = true), hw, rfl, rfl, cidM_wf xt, cidM_wf xf, fun x hx => hk x (List.mem_of_mem_take hx)⟩
    · exact ⟨wf_i64_of (by simp only; omega) (by simp only; omega), hw, rfl, rfl, cidM_wf xt, cidM_wf xf, by simp⟩
theorem keepH_right (xs xt xf xw : Int) (k : List Int) (p : Bool) : hrightM (keepH xs xt xf xw k p) = true := by
  rw [hrightM_eq]
  have h1 := within_in xs 0 2 (by omega)
  have h2 := within_in xw 1 4 (by omega)
  unfold keepH
  split
  · exact ⟨h2.1, h2.2, .inr (.inr ⟨rfl, rfl, rfl⟩)⟩
  · split
    · exact ⟨h2.1, h2.2, .inl ⟨rfl, by simp only [List.length_take]; omega, rfl⟩⟩
    · exact ⟨h2.1, h2.2, .inr (.inl ⟨by simp only; omega, rfl, rfl⟩)⟩
theorem keepH_k (xs xt xf xw : Int) (k : List Int) (p : Bool) : (keepH xs xt xf xw k p).k.length ≤ 32 := by
  unfold keepH
  split
  · simp
  · split
    · simp only [List.length_take]; omega
    · simp

set_option maxRecDepth 100000 in
set_option maxHeartbeats 8000000 in
theorem khead_core (w : World) (xs xt xf xw sp wd nt nf : Int) (a : Option Addr) (tl tc : Nat) (xp : Bool) (htc : tl ≤ tc) (htm : tc ≤ 9223372036854775807)
    (hsp : 0 ≤ sp ∧ sp ≤ 2) (hwd : 1 ≤ wd ∧ wd ≤ 4)
    (HS : Hid (∀ w, Calls Try.prog 22 #[.int .i64 xs, .int .i64 0, .int .i64 2] w fun e w' => e = .returned (.int .i64 sp) ∧ w = w'))
    (HW : Hid (∀ w, Calls Try.prog 22 #[.int .i64 xw, .int .i64 1, .int .i64 4] w fun e w' => e = .returned (.int .i64 wd) ∧ w = w'))
    (HT : Hid (∀ w, Makes Try.prog 24 #[.int .i64 xt] w (.agg #[.int .u8 1, .int .u8 nt, .int .u8 7, .int .u8 0, .int .u8 0, .int .u8 0, .int .u8 0, .int .u8 0])))
    (HF : Hid (∀ w, Makes Try.prog 24 #[.int .i64 xf] w (.agg #[.int .u8 1, .int .u8 nf, .int .u8 7, .int .u8 0, .int .u8 0, .int .u8 0, .int .u8 0, .int .u8 0])))
    (Q : Ending → World → Prop)
    (HQ2 : Hid (sp = 2 → ∀ w', Below w.heap.size w w' → Q (.returned (.agg #[.int .i64 2, .int .u8 1, .int .u8 nt, .int .u8 7, .int .u8 0, .int .u8 0, .int .u8 0, .int .u8 0, .int .u8 0, .int .u8 0, .int .u8 0, .int .u8 0, .int .u8 0, .int .u8 0, .int .u8 0, .int .u8 0, .int .u8 0, .slice none 0 0, .int .i64 wd, .bool xp])) w'))
    (HQ1 : Hid (sp = 1 → ∀ w', Below w.heap.size w w' → Q (.returned (.agg #[.int .i64 1, .int .u8 1, .int .u8 nt, .int .u8 7, .int .u8 0, .int .u8 0, .int .u8 0, .int .u8 0, .int .u8 0, .int .u8 1, .int .u8 nf, .int .u8 7, .int .u8 0, .int .u8 0, .int .u8 0, .int .u8 0, .int .u8 0, .slice none 0 0, .int .i64 wd, .bool false])) w'))
    (HQ0 : Hid (sp = 0 → ∀ w', Below w.heap.size w w' → Q (.returned (.agg #[.int .i64 0, .int .u8 1, .int .u8 nt, .int .u8 7, .int .u8 0, .int .u8 0, .int .u8 0, .int .u8 0, .int .u8 0, .int .u8 1, .int .u8 nf, .int .u8 7, .int .u8 0, .int .u8 0, .int .u8 0, .int .u8 0, .int .u8 0, .slice a (min tl 32) tc, .int .i64 wd, .bool false])) w')) :
    Calls Try.prog 8 #[.agg #[.int .i64 xs, .int .i64 xt, .int .i64 xf, .int .i64 xw, .slice a tl tc, .bool xp]] w Q := by
  have HCUT := Lib.hid (fun w => cut_any w a tl tc 32 htc htm)
  go_enter Try.func8, Try.ntmps8
  go_upto_region 1 with fail
  have hbX := (Below.refl w.heap.size w).alloc (Nat.le_refl _) (.cells #[.int .i64 xs, .int .i64 xt, .int .i64 xf, .int .i64 xw, .slice a tl tc, .bool xp] 25)
  have hrX := heap_alloc_new w (.cells #[.int .i64 xs, .int .i64 xt, .int .i64 xf, .int .i64 xw, .slice a tl tc, .bool xp] 25)
  have hs1 : (w.alloc (.cells #[.int .i64 xs, .int .i64 xt, .int .i64 xf, .int .i64 xw, .slice a tl tc, .bool xp] 25)).heap.size = w.heap.size + 1 := by simp
  generalize w.alloc (.cells #[.int .i64 xs, .int .i64 xt, .int .i64 xf, .int .i64 xw, .slice a tl tc, .bool xp] 25) = w1 at hbX hrX hs1 ⊢
  change Code.wp _ _ _ _ (w1.alloc (.cells rowZ.toArray 32))
  have hbZ := (Below.refl w1.heap.size w1).alloc (Nat.le_refl _) (.cells rowZ.toArray 32)
  have hrZ := heap_alloc_new w1 (.cells rowZ.toArray 32)
  have HX := Lib.hid (bl_row hbZ (lt_of_block hrX) hrX); have HZ := Lib.hid hrZ; have HB := Lib.hid (bl_next hbX hbX.size hbZ)
  have hlt1 := lt_of_block hrX
  have hlt2 := lt_of_block hrZ
  clear hbX hrX hbZ hrZ
  generalize w1.alloc (.cells rowZ.toArray 32) = W at HX HZ HB hlt2 ⊢
  rw [hs1] at HZ hlt1 hlt2
  clear hs1
  obtain ⟨gz, hgz⟩ : ∃ gz, w.heap.size + 1 = gz := ⟨_, rfl⟩
  rw [hgz] at HZ hlt1 hlt2 ⊢
  have hwgz : w.heap.size ≤ gz := by omega
  clear hgz
  obtain ⟨gx, hgx⟩ : ∃ gx, w.heap.size = gx := ⟨_, rfl⟩
  have hwgx : w.heap.size ≤ gx := by omega
  rw [hgx] at HX hlt1 ⊢
  clear hgx
  have hgxW : gx < W.heap.size := by omega
  have hx0 : ∀ s : In (fun y => Below W.heap.size W y), s.w.cell? ⟨gx, 0, none⟩ = some (.int .i64 xs) := fun s => bl_cell s.h hgxW (row_cell HX.out 0 _ rfl)
  have hx1 : ∀ s : In (fun y => Below W.heap.size W y), s.w.cell? ⟨gx, 1, none⟩ = some (.int .i64 xt) := fun s => bl_cell s.h hgxW (row_cell HX.out 1 _ rfl)
  have hx3 : ∀ s : In (fun y => Below W.heap.size W y), s.w.cell? ⟨gx, 3, none⟩ = some (.int .i64 xw) := fun s => bl_cell s.h hgxW (row_cell HX.out 3 _ rfl)
  refine wp_plan (.t 0 (.t 1 (.t 3 (.t 4 (.t 6 (.t 7 (.b 2 (.b 5 (.b 8 (.t 9 (.u 10 (.u 11 .done))) 10 (.u 8 (.t 9 (.u 11 .done)))) 10 (.u 5 (.u 8 (.t 9 (.u 11 .done))))) 10 (.u 2 (.u 5 (.u 8 (.t 9 (.u 11 .done)))))))))))) (fun y => Below W.heap.size W y) (by kernel_rfl) (by kernel_rfl) (by kernel_rfl) (fun c a d v w h => by cases d <;> exact h) (Below.refl _ _).drew ?_
  have hS : Below W.heap.size W W.drew := (Below.refl _ _).drew
  generalize W.drew = Wa at hS ⊢
  haveI hne : Nonempty (In fun y => Below W.heap.size W y) := ⟨⟨W, Below.refl _ _⟩⟩
  repeat (refine plan_t (by rfl) ?_; (first | go_big_quiet_skip | (go_big_quiet_want; go_big_quiet_op; go_big_quiet_on)); refine wpQuiet_nil ?_)
  clear hx0 hx1 hx3
  refine plan_b ?_ ?_
  · skip
    refine plan_half (by rfl) (by kernel_rfl) ?_
    intro K hK
    go_wp2_with fail
    refine Calls.mono (HS.out _) ?_
    rintro e u1 ⟨rfl, rfl⟩
    go_wp2_with fail
    refine ⟨hS, ?_⟩
    refine plan_b ?_ ?_
    · skip
      refine plan_half (by rfl) (by kernel_rfl) ?_
      intro K hK
      go_wp2_with fail
      refine Calls.mono (HT.out _) ?_
      rintro e u2 ⟨rfl, hb⟩
      replace hS := bl_next hS hS.size hb
      clear hb
      go_wp2_with fail
      refine ⟨hS, ?_⟩
      refine plan_b ?_ ?_
      · skip
        refine plan_half (by rfl) (by kernel_rfl) ?_
        intro K hK
        go_wp2_with fail
        refine Calls.mono (HW.out _) ?_
        rintro e u3 ⟨rfl, rfl⟩
        go_wp2_with fail
        refine ⟨hS, ?_⟩
        repeat (refine plan_t (by rfl) ?_; (first | go_big_quiet_skip | (go_big_quiet_want; go_big_quiet_op; go_big_quiet_on)); refine wpQuiet_nil ?_)
        refine plan_us (by rfl) (by kernel_rfl) ?_
        intro K hK
        go_wp2_with fail
        have hal := (Below.refl u2.heap.size u2).alloc (Nat.le_refl _) (.cells rowZ.toArray 32)
        have HG := Lib.hid (heap_alloc_new u2 (.cells rowZ.toArray 32))
        have hgS : W.heap.size ≤ u2.heap.size := hS.size
        refine ⟨bl_next hS hS.size hal, ?_⟩
        replace hS := bl_next hS hS.size hal
        clear hal
        obtain ⟨u4, hWu4⟩ : ∃ x, u2.alloc (.cells rowZ.toArray 32) = x := ⟨_, rfl⟩
        obtain ⟨g, hg⟩ : ∃ g, u2.heap.size = g := ⟨_, rfl⟩
        rw [hWu4, hg] at HG
        rw [hWu4] at hS
        rw [hg] at hgS
        (first | rw [hg, hWu4] | (change Plan.wp _ _ _ _ _ _ (u2.alloc (.cells rowZ.toArray 32)); rw [hWu4, hg]) | (change Plan.wp _ _ _ _ _ _ (u2.alloc (.cells rowZ.toArray 32)); rw [hg, hWu4]))
        clear hWu4 hg
        repeat (refine plan_t (by rfl) ?_; (first | go_big_quiet_skip | (go_big_quiet_want; go_big_quiet_op; go_big_quiet_on)); refine wpQuiet_nil ?_)
        refine plan_us (by rfl) (by kernel_rfl) ?_
        intro K hK
        refine wp_store_row 32 _ _ rfl g rfl [.int .i64 sp, .int .u8 1, .int .u8 nt, .int .u8 7, .int .u8 0, .int .u8 0, .int .u8 0, .int .u8 0, .int .u8 0, .int .u8 0, .int .u8 0, .int .u8 0, .int .u8 0, .int .u8 0, .int .u8 0, .int .u8 0, .int .u8 0, .slice none 0 0, .int .i64 wd, .bool false] rowZ rfl 32 HG.out rfl rfl (by intro v hv; simp only [List.mem_cons, List.not_mem_nil, or_false] at hv; rcases hv with rfl | rfl | rfl | rfl | rfl | rfl | rfl | rfl | rfl | rfl | rfl | rfl | rfl | rfl | rfl | rfl | rfl | rfl | rfl | rfl <;> rfl) ?_
        intro u5 hr hg
        replace hS := hS.grown hg hS.size (by intro k hk; injection hk with hk; omega)
        replace HG := Lib.hid hr
        refine hK _ _ ⟨hS, ?_⟩
        clear hK hr hg hne
        show Exit.then _ _ _ _ _
        simp only [Act.put]
        replace HX := Lib.hid (bl_row hS hgxW HX.out)
        replace HZ := Lib.hid (bl_row hS hlt2 HZ.out)
        replace HB := Lib.hid (bl_next HB.out HB.out.size hS)
        clear hS
        rcases (by omega : sp = 2 ∨ sp = 1 ∨ sp = 0) with rfl | rfl | rfl
        · replace HQ2 := Lib.hid (HQ2.out rfl)
          clear HQ1 HQ0
          have c0 := row_cell HG.out 0 _ rfl
          have c19 := row_cell HG.out 19 _ rfl
          have f19 := row_free HG.out 19
          have x5 := row_cell HX.out 5 _ rfl
          have hA := ((At.base HG.out).set 19 (.bool xp)).conv (cs' := #[.int .i64 2, .int .u8 1, .int .u8 nt, .int .u8 7, .int .u8 0, .int .u8 0, .int .u8 0, .int .u8 0, .int .u8 0, .int .u8 0, .int .u8 0, .int .u8 0, .int .u8 0, .int .u8 0, .int .u8 0, .int .u8 0, .int .u8 0, .slice none 0 0, .int .i64 wd, .bool xp]) (by rfl)
          go_upto_region 4 with fail
          clear c0 c19 f19 x5
          replace HG := Lib.hid hA.row
          replace HZ := Lib.hid (grown_row hA.rest (by intro e; injection e with e; omega) HZ.out)
          replace HB := Lib.hid (HB.out.grown hA.rest HB.out.size (by intro k hk; injection hk with hk; omega))
          clear hA
          generalize u5.setCell ⟨g, 19, none⟩ (.bool xp) = wy at HG HZ HB ⊢
          go_wp2_with (first | (refine wpList_load_mid rfl 32 _ rfl g 0 rfl _ _ (rng20 HG.out) Try.underlying32 rfl rfl ?_) | (refine wpList_store_row rfl 32 _ _ rfl gz rfl [.int .i64 2, .int .u8 1, .int .u8 nt, .int .u8 7, .int .u8 0, .int .u8 0, .int .u8 0, .int .u8 0, .int .u8 0, .int .u8 0, .int .u8 0, .int .u8 0, .int .u8 0, .int .u8 0, .int .u8 0, .int .u8 0, .int .u8 0, .slice none 0 0, .int .i64 wd, .bool xp] rowZ rfl 32 HZ.out rfl rfl (by intro v hv; simp only [List.mem_cons, List.not_mem_nil, or_false] at hv; rcases hv with rfl | rfl | rfl | rfl | rfl | rfl | rfl | rfl | rfl | rfl | rfl | rfl | rfl | rfl | rfl | rfl | rfl | rfl | rfl | rfl <;> rfl) ?_; intro wz hz hgz) | fail)
          (try simp only [Exit.inBlock, Exit.then])
          refine bodyPost_ret (results_cell1 rfl _ _ gz rfl [.int .i64 2, .int .u8 1, .int .u8 nt, .int .u8 7, .int .u8 0, .int .u8 0, .int .u8 0, .int .u8 0, .int .u8 0, .int .u8 0, .int .u8 0, .int .u8 0, .int .u8 0, .int .u8 0, .int .u8 0, .int .u8 0, .int .u8 0, .slice none 0 0, .int .i64 wd, .bool xp] _ _ hz Try.underlying32 rfl rfl) rfl ?_
          exact HQ2.out _ (HB.out.grown hgz HB.out.size (by intro k hk; injection hk with hk; omega))
        · replace HQ1 := Lib.hid (HQ1.out rfl)
          clear HQ2 HQ0
          have c0 := row_cell HG.out 0 _ rfl
          have x2 := row_cell HX.out 2 _ rfl
          go_wp2_with fail
          clear c0 x2
          refine Calls.mono (HF.out _) ?_
          rintro e wq ⟨rfl, hb⟩
          replace HG := Lib.hid (bl_row hb (lt_of_block HG.out) HG.out)
          replace HZ := Lib.hid (bl_row hb (lt_of_block HZ.out) HZ.out)
          replace HX := Lib.hid (bl_row hb (lt_of_block HX.out) HX.out)
          replace HB := Lib.hid (bl_next HB.out HB.out.size hb)
          clear hb
          go_upto_region 6 with (first | (refine wpList_store_part rfl 30 _ _ rfl g 9 rfl [.int .u8 1, .int .u8 nf, .int .u8 7, .int .u8 0, .int .u8 0, .int .u8 0, .int .u8 0, .int .u8 0] _ (([.int .i64 1, .int .u8 1, .int .u8 nt, .int .u8 7, .int .u8 0, .int .u8 0, .int .u8 0, .int .u8 0, .int .u8 0, .int .u8 0, .int .u8 0, .int .u8 0, .int .u8 0, .int .u8 0, .int .u8 0, .int .u8 0, .int .u8 0, .slice none 0 0, .int .i64 wd, .bool false] : List Value).take 9) ((([.int .i64 1, .int .u8 1, .int .u8 nt, .int .u8 7, .int .u8 0, .int .u8 0, .int .u8 0, .int .u8 0, .int .u8 0, .int .u8 0, .int .u8 0, .int .u8 0, .int .u8 0, .int .u8 0, .int .u8 0, .int .u8 0, .int .u8 0, .slice none 0 0, .int .i64 wd, .bool false] : List Value).drop 9).take 8) (([.int .i64 1, .int .u8 1, .int .u8 nt, .int .u8 7, .int .u8 0, .int .u8 0, .int .u8 0, .int .u8 0, .int .u8 0, .int .u8 0, .int .u8 0, .int .u8 0, .int .u8 0, .int .u8 0, .int .u8 0, .int .u8 0, .int .u8 0, .slice none 0 0, .int .i64 wd, .bool false] : List Value).drop 17) rfl HG.out rfl rfl rfl (by intro v hv; simp only [List.mem_cons, List.not_mem_nil, or_false] at hv; rcases hv with rfl | rfl | rfl | rfl | rfl | rfl | rfl | rfl <;> rfl) ?_; intro wp hrp hgp) | fail)
          have HG2 : Hid (wp.heap[g]? = some (.cells #[.int .i64 1, .int .u8 1, .int .u8 nt, .int .u8 7, .int .u8 0, .int .u8 0, .int .u8 0, .int .u8 0, .int .u8 0, .int .u8 1, .int .u8 nf, .int .u8 7, .int .u8 0, .int .u8 0, .int .u8 0, .int .u8 0, .int .u8 0, .slice none 0 0, .int .i64 wd, .bool false] 32 (0, 0))) := Lib.hid hrp
          replace HZ := Lib.hid (grown_row hgp (by intro e; injection e with e; omega) HZ.out)
          replace HX := Lib.hid (grown_row hgp (by intro e; injection e with e; omega) HX.out)
          replace HB := Lib.hid (HB.out.grown hgp HB.out.size (by intro k hk; injection hk with hk; omega))
          replace HG := HG2
          clear hrp hgp HG2
          have c0 := row_cell HG.out 0 _ rfl
          go_upto_region 8 with fail
          clear c0
          go_wp2_with (first | (refine wpList_load_mid rfl 32 _ rfl g 0 rfl _ _ (rng20 HG.out) Try.underlying32 rfl rfl ?_) | (refine wpList_store_row rfl 32 _ _ rfl gz rfl [.int .i64 1, .int .u8 1, .int .u8 nt, .int .u8 7, .int .u8 0, .int .u8 0, .int .u8 0, .int .u8 0, .int .u8 0, .int .u8 1, .int .u8 nf, .int .u8 7, .int .u8 0, .int .u8 0, .int .u8 0, .int .u8 0, .int .u8 0, .slice none 0 0, .int .i64 wd, .bool false] rowZ rfl 32 HZ.out rfl rfl (by intro v hv; simp only [List.mem_cons, List.not_mem_nil, or_false] at hv; rcases hv with rfl | rfl | rfl | rfl | rfl | rfl | rfl | rfl | rfl | rfl | rfl | rfl | rfl | rfl | rfl | rfl | rfl | rfl | rfl | rfl <;> rfl) ?_; intro wz hz hgz) | fail)
          (try simp only [Exit.inBlock, Exit.then])
          refine bodyPost_ret (results_cell1 rfl _ _ gz rfl [.int .i64 1, .int .u8 1, .int .u8 nt, .int .u8 7, .int .u8 0, .int .u8 0, .int .u8 0, .int .u8 0, .int .u8 0, .int .u8 1, .int .u8 nf, .int .u8 7, .int .u8 0, .int .u8 0, .int .u8 0, .int .u8 0, .int .u8 0, .slice none 0 0, .int .i64 wd, .bool false] _ _ hz Try.underlying32 rfl rfl) rfl ?_
          exact HQ1.out _ (HB.out.grown hgz HB.out.size (by intro k hk; injection hk with hk; omega))
        · replace HQ0 := Lib.hid (HQ0.out rfl)
          clear HQ2 HQ1
          have c0 := row_cell HG.out 0 _ rfl
          have x2 := row_cell HX.out 2 _ rfl
          go_wp2_with fail
          clear c0 x2
          refine Calls.mono (HF.out _) ?_
          rintro e wq ⟨rfl, hb⟩
          replace HG := Lib.hid (bl_row hb (lt_of_block HG.out) HG.out)
          replace HZ := Lib.hid (bl_row hb (lt_of_block HZ.out) HZ.out)
          replace HX := Lib.hid (bl_row hb (lt_of_block HX.out) HX.out)
          replace HB := Lib.hid (bl_next HB.out HB.out.size hb)
          clear hb
          go_upto_region 6 with (first | (refine wpList_store_part rfl 30 _ _ rfl g 9 rfl [.int .u8 1, .int .u8 nf, .int .u8 7, .int .u8 0, .int .u8 0, .int .u8 0, .int .u8 0, .int .u8 0] _ (([.int .i64 0, .int .u8 1, .int .u8 nt, .int .u8 7, .int .u8 0, .int .u8 0, .int .u8 0, .int .u8 0, .int .u8 0, .int .u8 0, .int .u8 0, .int .u8 0, .int .u8 0, .int .u8 0, .int .u8 0, .int .u8 0, .int .u8 0, .slice none 0 0, .int .i64 wd, .bool false] : List Value).take 9) ((([.int .i64 0, .int .u8 1, .int .u8 nt, .int .u8 7, .int .u8 0, .int .u8 0, .int .u8 0, .int .u8 0, .int .u8 0, .int .u8 0, .int .u8 0, .int .u8 0, .int .u8 0, .int .u8 0, .int .u8 0, .int .u8 0, .int .u8 0, .slice none 0 0, .int .i64 wd, .bool false] : List Value).drop 9).take 8) (([.int .i64 0, .int .u8 1, .int .u8 nt, .int .u8 7, .int .u8 0, .int .u8 0, .int .u8 0, .int .u8 0, .int .u8 0, .int .u8 0, .int .u8 0, .int .u8 0, .int .u8 0, .int .u8 0, .int .u8 0, .int .u8 0, .int .u8 0, .slice none 0 0, .int .i64 wd, .bool false] : List Value).drop 17) rfl HG.out rfl rfl rfl (by intro v hv; simp only [List.mem_cons, List.not_mem_nil, or_false] at hv; rcases hv with rfl | rfl | rfl | rfl | rfl | rfl | rfl | rfl <;> rfl) ?_; intro wp hrp hgp) | fail)
          have HG2 : Hid (wp.heap[g]? = some (.cells #[.int .i64 0, .int .u8 1, .int .u8 nt, .int .u8 7, .int .u8 0, .int .u8 0, .int .u8 0, .int .u8 0, .int .u8 0, .int .u8 1, .int .u8 nf, .int .u8 7, .int .u8 0, .int .u8 0, .int .u8 0, .int .u8 0, .int .u8 0, .slice none 0 0, .int .i64 wd, .bool false] 32 (0, 0))) := Lib.hid hrp
          replace HZ := Lib.hid (grown_row hgp (by intro e; injection e with e; omega) HZ.out)
          replace HX := Lib.hid (grown_row hgp (by intro e; injection e with e; omega) HX.out)
          replace HB := Lib.hid (HB.out.grown hgp HB.out.size (by intro k hk; injection hk with hk; omega))
          replace HG := HG2
          clear hrp hgp HG2
          have c0 := row_cell HG.out 0 _ rfl
          have x4 := row_cell HX.out 4 _ rfl
          have c17 := row_cell HG.out 17 _ rfl
          have f17 := row_free HG.out 17
          go_wp2_with fail
          refine Calls.mono (HCUT.out _) ?_
          rintro e wr ⟨rfl, rfl⟩
          have hA := ((At.base HG.out).set 17 (.slice a (min tl 32) tc)).conv (cs' := #[.int .i64 0, .int .u8 1, .int .u8 nt, .int .u8 7, .int .u8 0, .int .u8 0, .int .u8 0, .int .u8 0, .int .u8 0, .int .u8 1, .int .u8 nf, .int .u8 7, .int .u8 0, .int .u8 0, .int .u8 0, .int .u8 0, .int .u8 0, .slice a (min tl 32) tc, .int .i64 wd, .bool false]) (by rfl)
          go_upto_region 8 with fail
          clear c0 x4 c17 f17
          replace HG := Lib.hid hA.row
          replace HZ := Lib.hid (grown_row hA.rest (by intro e; injection e with e; omega) HZ.out)
          replace HB := Lib.hid (HB.out.grown hA.rest HB.out.size (by intro k hk; injection hk with hk; omega))
          clear hA
          generalize wp.setCell ⟨g, 17, none⟩ (.slice a (min tl 32) tc) = wy at HG HZ HB ⊢
          go_wp2_with (first | (refine wpList_load_mid rfl 32 _ rfl g 0 rfl _ _ (rng20 HG.out) Try.underlying32 rfl rfl ?_) | (refine wpList_store_row rfl 32 _ _ rfl gz rfl [.int .i64 0, .int .u8 1, .int .u8 nt, .int .u8 7, .int .u8 0, .int .u8 0, .int .u8 0, .int .u8 0, .int .u8 0, .int .u8 1, .int .u8 nf, .int .u8 7, .int .u8 0, .int .u8 0, .int .u8 0, .int .u8 0, .int .u8 0, .slice a (min tl 32) tc, .int .i64 wd, .bool false] rowZ rfl 32 HZ.out rfl rfl (by intro v hv; simp only [List.mem_cons, List.not_mem_nil, or_false] at hv; rcases hv with rfl | rfl | rfl | rfl | rfl | rfl | rfl | rfl | rfl | rfl | rfl | rfl | rfl | rfl | rfl | rfl | rfl | rfl | rfl | rfl <;> rfl) ?_; intro wz hz hgz) | fail)
          (try simp only [Exit.inBlock, Exit.then])
          refine bodyPost_ret (results_cell1 rfl _ _ gz rfl [.int .i64 0, .int .u8 1, .int .u8 nt, .int .u8 7, .int .u8 0, .int .u8 0, .int .u8 0, .int .u8 0, .int .u8 0, .int .u8 1, .int .u8 nf, .int .u8 7, .int .u8 0, .int .u8 0, .int .u8 0, .int .u8 0, .int .u8 0, .slice a (min tl 32) tc, .int .i64 wd, .bool false] _ _ hz Try.underlying32 rfl rfl) rfl ?_
          exact HQ0.out _ (HB.out.grown hgz HB.out.size (by intro k hk; injection hk with hk; omega))
      · skip
        refine plan_half (by rfl) (by kernel_rfl) ?_
        intro K hK
        go_wp2_with fail
        have hal := (Below.refl u2.heap.size u2).alloc (Nat.le_refl _) (.cells rowZ.toArray 32)
        have HG := Lib.hid (heap_alloc_new u2 (.cells rowZ.toArray 32))
        have hgS : W.heap.size ≤ u2.heap.size := hS.size
        refine ⟨bl_next hS hS.size hal, ?_⟩
        replace hS := bl_next hS hS.size hal
        clear hal
        obtain ⟨u6, hWu6⟩ : ∃ x, u2.alloc (.cells rowZ.toArray 32) = x := ⟨_, rfl⟩
        obtain ⟨g, hg⟩ : ∃ g, u2.heap.size = g := ⟨_, rfl⟩
        rw [hWu6, hg] at HG
        rw [hWu6] at hS
        rw [hg] at hgS
        (first | rw [hg, hWu6] | (change Plan.wp _ _ _ _ _ _ (u2.alloc (.cells rowZ.toArray 32)); rw [hWu6, hg]) | (change Plan.wp _ _ _ _ _ _ (u2.alloc (.cells rowZ.toArray 32)); rw [hg, hWu6]))
        clear hWu6 hg
        refine plan_us (by rfl) (by kernel_rfl) ?_
        intro K hK
        go_wp2_with fail
        refine Calls.mono (HW.out _) ?_
        rintro e u7 ⟨rfl, rfl⟩
        go_wp2_with fail
        refine ⟨hS, ?_⟩
        repeat (refine plan_t (by rfl) ?_; (first | go_big_quiet_skip | (go_big_quiet_want; go_big_quiet_op; go_big_quiet_on)); refine wpQuiet_nil ?_)
        refine plan_us (by rfl) (by kernel_rfl) ?_
        intro K hK
        refine wp_store_row 32 _ _ rfl g rfl [.int .i64 sp, .int .u8 1, .int .u8 nt, .int .u8 7, .int .u8 0, .int .u8 0, .int .u8 0, .int .u8 0, .int .u8 0, .int .u8 0, .int .u8 0, .int .u8 0, .int .u8 0, .int .u8 0, .int .u8 0, .int .u8 0, .int .u8 0, .slice none 0 0, .int .i64 wd, .bool false] rowZ rfl 32 HG.out rfl rfl (by intro v hv; simp only [List.mem_cons, List.not_mem_nil, or_false] at hv; rcases hv with rfl | rfl | rfl | rfl | rfl | rfl | rfl | rfl | rfl | rfl | rfl | rfl | rfl | rfl | rfl | rfl | rfl | rfl | rfl | rfl <;> rfl) ?_
        intro u8 hr hg
        replace hS := hS.grown hg hS.size (by intro k hk; injection hk with hk; omega)
        replace HG := Lib.hid hr
        refine hK _ _ ⟨hS, ?_⟩
        clear hK hr hg hne
        show Exit.then _ _ _ _ _
        simp only [Act.put]
        replace HX := Lib.hid (bl_row hS hgxW HX.out)
        replace HZ := Lib.hid (bl_row hS hlt2 HZ.out)
        replace HB := Lib.hid (bl_next HB.out HB.out.size hS)
        clear hS
        rcases (by omega : sp = 2 ∨ sp = 1 ∨ sp = 0) with rfl | rfl | rfl
        · replace HQ2 := Lib.hid (HQ2.out rfl)
          clear HQ1 HQ0
          have c0 := row_cell HG.out 0 _ rfl
          have c19 := row_cell HG.out 19 _ rfl
          have f19 := row_free HG.out 19
          have x5 := row_cell HX.out 5 _ rfl
          have hA := ((At.base HG.out).set 19 (.bool xp)).conv (cs' := #[.int .i64 2, .int .u8 1, .int .u8 nt, .int .u8 7, .int .u8 0, .int .u8 0, .int .u8 0, .int .u8 0, .int .u8 0, .int .u8 0, .int .u8 0, .int .u8 0, .int .u8 0, .int .u8 0, .int .u8 0, .int .u8 0, .int .u8 0, .slice none 0 0, .int .i64 wd, .bool xp]) (by rfl)
          go_upto_region 4 with fail
          clear c0 c19 f19 x5
          replace HG := Lib.hid hA.row
          replace HZ := Lib.hid (grown_row hA.rest (by intro e; injection e with e; omega) HZ.out)
          replace HB := Lib.hid (HB.out.grown hA.rest HB.out.size (by intro k hk; injection hk with hk; omega))
          clear hA
          generalize u8.setCell ⟨g, 19, none⟩ (.bool xp) = wy at HG HZ HB ⊢
          go_wp2_with (first | (refine wpList_load_mid rfl 32 _ rfl g 0 rfl _ _ (rng20 HG.out) Try.underlying32 rfl rfl ?_) | (refine wpList_store_row rfl 32 _ _ rfl gz rfl [.int .i64 2, .int .u8 1, .int .u8 nt, .int .u8 7, .int .u8 0, .int .u8 0, .int .u8 0, .int .u8 0, .int .u8 0, .int .u8 0, .int .u8 0, .int .u8 0, .int .u8 0, .int .u8 0, .int .u8 0, .int .u8 0, .int .u8 0, .slice none 0 0, .int .i64 wd, .bool xp] rowZ rfl 32 HZ.out rfl rfl (by intro v hv; simp only [List.mem_cons, List.not_mem_nil, or_false] at hv; rcases hv with rfl | rfl | rfl | rfl | rfl | rfl | rfl | rfl | rfl | rfl | rfl | rfl | rfl | rfl | rfl | rfl | rfl | rfl | rfl | rfl <;> rfl) ?_; intro wz hz hgz) | fail)
          (try simp only [Exit.inBlock, Exit.then])
          refine bodyPost_ret (results_cell1 rfl _ _ gz rfl [.int .i64 2, .int .u8 1, .int .u8 nt, .int .u8 7, .int .u8 0, .int .u8 0, .int .u8 0, .int .u8 0, .int .u8 0, .int .u8 0, .int .u8 0, .int .u8 0, .int .u8 0, .int .u8 0, .int .u8 0, .int .u8 0, .int .u8 0, .slice none 0 0, .int .i64 wd, .bool xp] _ _ hz Try.underlying32 rfl rfl) rfl ?_
          exact HQ2.out _ (HB.out.grown hgz HB.out.size (by intro k hk; injection hk with hk; omega))
        · replace HQ1 := Lib.hid (HQ1.out rfl)
          clear HQ2 HQ0
          have c0 := row_cell HG.out 0 _ rfl
          have x2 := row_cell HX.out 2 _ rfl
          go_wp2_with fail
          clear c0 x2
          refine Calls.mono (HF.out _) ?_
          rintro e wq ⟨rfl, hb⟩
          replace HG := Lib.hid (bl_row hb (lt_of_block HG.out) HG.out)
          replace HZ := Lib.hid (bl_row hb (lt_of_block HZ.out) HZ.out)
          replace HX := Lib.hid (bl_row hb (lt_of_block HX.out) HX.out)
          replace HB := Lib.hid (bl_next HB.out HB.out.size hb)
          clear hb
          go_upto_region 6 with (first | (refine wpList_store_part rfl 30 _ _ rfl g 9 rfl [.int .u8 1, .int .u8 nf, .int .u8 7, .int .u8 0, .int .u8 0, .int .u8 0, .int .u8 0, .int .u8 0] _ (([.int .i64 1, .int .u8 1, .int .u8 nt, .int .u8 7, .int .u8 0, .int .u8 0, .int .u8 0, .int .u8 0, .int .u8 0, .int .u8 0, .int .u8 0, .int .u8 0, .int .u8 0, .int .u8 0, .int .u8 0, .int .u8 0, .int .u8 0, .slice none 0 0, .int .i64 wd, .bool false] : List Value).take 9) ((([.int .i64 1, .int .u8 1, .int .u8 nt, .int .u8 7, .int .u8 0, .int .u8 0, .int .u8 0, .int .u8 0, .int .u8 0, .int .u8 0, .int .u8 0, .int .u8 0, .int .u8 0, .int .u8 0, .int .u8 0, .int .u8 0, .int .u8 0, .slice none 0 0, .int .i64 wd, .bool false] : List Value).drop 9).take 8) (([.int .i64 1, .int .u8 1, .int .u8 nt, .int .u8 7, .int .u8 0, .int .u8 0, .int .u8 0, .int .u8 0, .int .u8 0, .int .u8 0, .int .u8 0, .int .u8 0, .int .u8 0, .int .u8 0, .int .u8 0, .int .u8 0, .int .u8 0, .slice none 0 0, .int .i64 wd, .bool false] : List Value).drop 17) rfl HG.out rfl rfl rfl (by intro v hv; simp only [List.mem_cons, List.not_mem_nil, or_false] at hv; rcases hv with rfl | rfl | rfl | rfl | rfl | rfl | rfl | rfl <;> rfl) ?_; intro wp hrp hgp) | fail)
          have HG2 : Hid (wp.heap[g]? = some (.cells #[.int .i64 1, .int .u8 1, .int .u8 nt, .int .u8 7, .int .u8 0, .int .u8 0, .int .u8 0, .int .u8 0, .int .u8 0, .int .u8 1, .int .u8 nf, .int .u8 7, .int .u8 0, .int .u8 0, .int .u8 0, .int .u8 0, .int .u8 0, .slice none 0 0, .int .i64 wd, .bool false] 32 (0, 0))) := Lib.hid hrp
          replace HZ := Lib.hid (grown_row hgp (by intro e; injection e with e; omega) HZ.out)
          replace HX := Lib.hid (grown_row hgp (by intro e; injection e with e; omega) HX.out)
          replace HB := Lib.hid (HB.out.grown hgp HB.out.size (by intro k hk; injection hk with hk; omega))
          replace HG := HG2
          clear hrp hgp HG2
          have c0 := row_cell HG.out 0 _ rfl
          go_upto_region 8 with fail
          clear c0
          go_wp2_with (first | (refine wpList_load_mid rfl 32 _ rfl g 0 rfl _ _ (rng20 HG.out) Try.underlying32 rfl rfl ?_) | (refine wpList_store_row rfl 32 _ _ rfl gz rfl [.int .i64 1, .int .u8 1, .int .u8 nt, .int .u8 7, .int .u8 0, .int .u8 0, .int .u8 0, .int .u8 0, .int .u8 0, .int .u8 1, .int .u8 nf, .int .u8 7, .int .u8 0, .int .u8 0, .int .u8 0, .int .u8 0, .int .u8 0, .slice none 0 0, .int .i64 wd, .bool false] rowZ rfl 32 HZ.out rfl rfl (by intro v hv; simp only [List.mem_cons, List.not_mem_nil, or_false] at hv; rcases hv with rfl | rfl | rfl | rfl | rfl | rfl | rfl | rfl | rfl | rfl | rfl | rfl | rfl | rfl | rfl | rfl | rfl | rfl | rfl | rfl <;> rfl) ?_; intro wz hz hgz) | fail)
          (try simp only [Exit.inBlock, Exit.then])
          refine bodyPost_ret (results_cell1 rfl _ _ gz rfl [.int .i64 1, .int .u8 1, .int .u8 nt, .int .u8 7, .int .u8 0, .int .u8 0, .int .u8 0, .int .u8 0, .int .u8 0, .int .u8 1, .int .u8 nf, .int .u8 7, .int .u8 0, .int .u8 0, .int .u8 0, .int .u8 0, .int .u8 0, .slice none 0 0, .int .i64 wd, .bool false] _ _ hz Try.underlying32 rfl rfl) rfl ?_
          exact HQ1.out _ (HB.out.grown hgz HB.out.size (by intro k hk; injection hk with hk; omega))
        · replace HQ0 := Lib.hid (HQ0.out rfl)
          clear HQ2 HQ1
          have c0 := row_cell HG.out 0 _ rfl
          have x2 := row_cell HX.out 2 _ rfl
          go_wp2_with fail
          clear c0 x2
          refine Calls.mono (HF.out _) ?_
          rintro e wq ⟨rfl, hb⟩
          replace HG := Lib.hid (bl_row hb (lt_of_block HG.out) HG.out)
          replace HZ := Lib.hid (bl_row hb (lt_of_block HZ.out) HZ.out)
          replace HX := Lib.hid (bl_row hb (lt_of_block HX.out) HX.out)
          replace HB := Lib.hid (bl_next HB.out HB.out.size hb)
          clear hb
          go_upto_region 6 with (first | (refine wpList_store_part rfl 30 _ _ rfl g 9 rfl [.int .u8 1, .int .u8 nf, .int .u8 7, .int .u8 0, .int .u8 0, .int .u8 0, .int .u8 0, .int .u8 0] _ (([.int .i64 0, .int .u8 1, .int .u8 nt, .int .u8 7, .int .u8 0, .int .u8 0, .int .u8 0, .int .u8 0, .int .u8 0, .int .u8 0, .int .u8 0, .int .u8 0, .int .u8 0, .int .u8 0, .int .u8 0, .int .u8 0, .int .u8 0, .slice none 0 0, .int .i64 wd, .bool false] : List Value).take 9) ((([.int .i64 0, .int .u8 1, .int .u8 nt, .int .u8 7, .int .u8 0, .int .u8 0, .int .u8 0, .int .u8 0, .int .u8 0, .int .u8 0, .int .u8 0, .int .u8 0, .int .u8 0, .int .u8 0, .int .u8 0, .int .u8 0, .int .u8 0, .slice none 0 0, .int .i64 wd, .bool false] : List Value).drop 9).take 8) (([.int .i64 0, .int .u8 1, .int .u8 nt, .int .u8 7, .int .u8 0, .int .u8 0, .int .u8 0, .int .u8 0, .int .u8 0, .int .u8 0, .int .u8 0, .int .u8 0, .int .u8 0, .int .u8 0, .int .u8 0, .int .u8 0, .int .u8 0, .slice none 0 0, .int .i64 wd, .bool false] : List Value).drop 17) rfl HG.out rfl rfl rfl (by intro v hv; simp only [List.mem_cons, List.not_mem_nil, or_false] at hv; rcases hv with rfl | rfl | rfl | rfl | rfl | rfl | rfl | rfl <;> rfl) ?_; intro wp hrp hgp) | fail)
          have HG2 : Hid (wp.heap[g]? = some (.cells #[.int .i64 0, .int .u8 1, .int .u8 nt, .int .u8 7, .int .u8 0, .int .u8 0, .int .u8 0, .int .u8 0, .int .u8 0, .int .u8 1, .int .u8 nf, .int .u8 7, .int .u8 0, .int .u8 0, .int .u8 0, .int .u8 0, .int .u8 0, .slice none 0 0, .int .i64 wd, .bool false] 32 (0, 0))) := Lib.hid hrp
          replace HZ := Lib.hid (grown_row hgp (by intro e; injection e with e; omega) HZ.out)
          replace HX := Lib.hid (grown_row hgp (by intro e; injection e with e; omega) HX.out)
          replace HB := Lib.hid (HB.out.grown hgp HB.out.size (by intro k hk; injection hk with hk; omega))
          replace HG := HG2
          clear hrp hgp HG2
          have c0 := row_cell HG.out 0 _ rfl
          have x4 := row_cell HX.out 4 _ rfl
          have c17 := row_cell HG.out 17 _ rfl
          have f17 := row_free HG.out 17
          go_wp2_with fail
          refine Calls.mono (HCUT.out _) ?_
          rintro e wr ⟨rfl, rfl⟩
          have hA := ((At.base HG.out).set 17 (.slice a (min tl 32) tc)).conv (cs' := #[.int .i64 0, .int .u8 1, .int .u8 nt, .int .u8 7, .int .u8 0, .int .u8 0, .int .u8 0, .int .u8 0, .int .u8 0, .int .u8 1, .int .u8 nf, .int .u8 7, .int .u8 0, .int .u8 0, .int .u8 0, .int .u8 0, .int .u8 0, .slice a (min tl 32) tc, .int .i64 wd, .bool false]) (by rfl)
          go_upto_region 8 with fail
          clear c0 x4 c17 f17
          replace HG := Lib.hid hA.row
          replace HZ := Lib.hid (grown_row hA.rest (by intro e; injection e with e; omega) HZ.out)
          replace HB := Lib.hid (HB.out.grown hA.rest HB.out.size (by intro k hk; injection hk with hk; omega))
          clear hA
          generalize wp.setCell ⟨g, 17, none⟩ (.slice a (min tl 32) tc) = wy at HG HZ HB ⊢
          go_wp2_with (first | (refine wpList_load_mid rfl 32 _ rfl g 0 rfl _ _ (rng20 HG.out) Try.underlying32 rfl rfl ?_) | (refine wpList_store_row rfl 32 _ _ rfl gz rfl [.int .i64 0, .int .u8 1, .int .u8 nt, .int .u8 7, .int .u8 0, .int .u8 0, .int .u8 0, .int .u8 0, .int .u8 0, .int .u8 1, .int .u8 nf, .int .u8 7, .int .u8 0, .int .u8 0, .int .u8 0, .int .u8 0, .int .u8 0, .slice a (min tl 32) tc, .int .i64 wd, .bool false] rowZ rfl 32 HZ.out rfl rfl (by intro v hv; simp only [List.mem_cons, List.not_mem_nil, or_false] at hv; rcases hv with rfl | rfl | rfl | rfl | rfl | rfl | rfl | rfl | rfl | rfl | rfl | rfl | rfl | rfl | rfl | rfl | rfl | rfl | rfl | rfl <;> rfl) ?_; intro wz hz hgz) | fail)
          (try simp only [Exit.inBlock, Exit.then])
          refine bodyPost_ret (results_cell1 rfl _ _ gz rfl [.int .i64 0, .int .u8 1, .int .u8 nt, .int .u8 7, .int .u8 0, .int .u8 0, .int .u8 0, .int .u8 0, .int .u8 0, .int .u8 1, .int .u8 nf, .int .u8 7, .int .u8 0, .int .u8 0, .int .u8 0, .int .u8 0, .int .u8 0, .slice a (min tl 32) tc, .int .i64 wd, .bool false] _ _ hz Try.underlying32 rfl rfl) rfl ?_
          exact HQ0.out _ (HB.out.grown hgz HB.out.size (by intro k hk; injection hk with hk; omega))
    · skip
      refine plan_half (by rfl) (by kernel_rfl) ?_
      intro K hK
      go_wp2_with fail
      have hal := (Below.refl Wa.heap.size Wa).alloc (Nat.le_refl _) (.cells rowZ.toArray 32)
      have HG := Lib.hid (heap_alloc_new Wa (.cells rowZ.toArray 32))
      have hgS : W.heap.size ≤ Wa.heap.size := hS.size
      refine ⟨bl_next hS hS.size hal, ?_⟩
      replace hS := bl_next hS hS.size hal
      clear hal
      obtain ⟨u9, hWu9⟩ : ∃ x, Wa.alloc (.cells rowZ.toArray 32) = x := ⟨_, rfl⟩
      obtain ⟨g, hg⟩ : ∃ g, Wa.heap.size = g := ⟨_, rfl⟩
      rw [hWu9, hg] at HG
      rw [hWu9] at hS
      rw [hg] at hgS
      (first | rw [hg, hWu9] | (change Plan.wp _ _ _ _ _ _ (Wa.alloc (.cells rowZ.toArray 32)); rw [hWu9, hg]) | (change Plan.wp _ _ _ _ _ _ (Wa.alloc (.cells rowZ.toArray 32)); rw [hg, hWu9]))
      clear hWu9 hg
      refine plan_us (by rfl) (by kernel_rfl) ?_
      intro K hK
      go_wp2_with fail
      refine Calls.mono (HT.out _) ?_
      rintro e u10 ⟨rfl, hb⟩
      replace hS := bl_next hS hS.size hb
      replace HG := Lib.hid (bl_row hb (lt_of_block HG.out) HG.out)
      clear hb
      go_wp2_with fail
      refine ⟨hS, ?_⟩
      refine plan_us (by rfl) (by kernel_rfl) ?_
      intro K hK
      go_wp2_with fail
      refine Calls.mono (HW.out _) ?_
      rintro e u11 ⟨rfl, rfl⟩
      go_wp2_with fail
      refine ⟨hS, ?_⟩
      repeat (refine plan_t (by rfl) ?_; (first | go_big_quiet_skip | (go_big_quiet_want; go_big_quiet_op; go_big_quiet_on)); refine wpQuiet_nil ?_)
      refine plan_us (by rfl) (by kernel_rfl) ?_
      intro K hK
      refine wp_store_row 32 _ _ rfl g rfl [.int .i64 sp, .int .u8 1, .int .u8 nt, .int .u8 7, .int .u8 0, .int .u8 0, .int .u8 0, .int .u8 0, .int .u8 0, .int .u8 0, .int .u8 0, .int .u8 0, .int .u8 0, .int .u8 0, .int .u8 0, .int .u8 0, .int .u8 0, .slice none 0 0, .int .i64 wd, .bool false] rowZ rfl 32 HG.out rfl rfl (by intro v hv; simp only [List.mem_cons, List.not_mem_nil, or_false] at hv; rcases hv with rfl | rfl | rfl | rfl | rfl | rfl | rfl | rfl | rfl | rfl | rfl | rfl | rfl | rfl | rfl | rfl | rfl | rfl | rfl | rfl <;> rfl) ?_
      intro u12 hr hg
      replace hS := hS.grown hg hS.size (by intro k hk; injection hk with hk; omega)
      replace HG := Lib.hid hr
      refine hK _ _ ⟨hS, ?_⟩
      clear hK hr hg hne
      show Exit.then _ _ _ _ _
      simp only [Act.put]
      replace HX := Lib.hid (bl_row hS hgxW HX.out)
      replace HZ := Lib.hid (bl_row hS hlt2 HZ.out)
      replace HB := Lib.hid (bl_next HB.out HB.out.size hS)
      clear hS
      rcases (by omega : sp = 2 ∨ sp = 1 ∨ sp = 0) with rfl | rfl | rfl
      · replace HQ2 := Lib.hid (HQ2.out rfl)
        clear HQ1 HQ0
        have c0 := row_cell HG.out 0 _ rfl
        have c19 := row_cell HG.out 19 _ rfl
        have f19 := row_free HG.out 19
        have x5 := row_cell HX.out 5 _ rfl
        have hA := ((At.base HG.out).set 19 (.bool xp)).conv (cs' := #[.int .i64 2, .int .u8 1, .int .u8 nt, .int .u8 7, .int .u8 0, .int .u8 0, .int .u8 0, .int .u8 0, .int .u8 0, .int .u8 0, .int .u8 0, .int .u8 0, .int .u8 0, .int .u8 0, .int .u8 0, .int .u8 0, .int .u8 0, .slice none 0 0, .int .i64 wd, .bool xp]) (by rfl)
        go_upto_region 4 with fail
        clear c0 c19 f19 x5
        replace HG := Lib.hid hA.row
        replace HZ := Lib.hid (grown_row hA.rest (by intro e; injection e with e; omega) HZ.out)
        replace HB := Lib.hid (HB.out.grown hA.rest HB.out.size (by intro k hk; injection hk with hk; omega))
        clear hA
        generalize u12.setCell ⟨g, 19, none⟩ (.bool xp) = wy at HG HZ HB ⊢
        go_wp2_with (first | (refine wpList_load_mid rfl 32 _ rfl g 0 rfl _ _ (rng20 HG.out) Try.underlying32 rfl rfl ?_) | (refine wpList_store_row rfl 32 _ _ rfl gz rfl [.int .i64 2, .int .u8 1, .int .u8 nt, .int .u8 7, .int .u8 0, .int .u8 0, .int .u8 0, .int .u8 0, .int .u8 0, .int .u8 0, .int .u8 0, .int .u8 0, .int .u8 0, .int .u8 0, .int .u8 0, .int .u8 0, .int .u8 0, .slice none 0 0, .int .i64 wd, .bool xp] rowZ rfl 32 HZ.out rfl rfl (by intro v hv; simp only [List.mem_cons, List.not_mem_nil, or_false] at hv; rcases hv with rfl | rfl | rfl | rfl | rfl | rfl | rfl | rfl | rfl | rfl | rfl | rfl | rfl | rfl | rfl | rfl | rfl | rfl | rfl | rfl <;> rfl) ?_; intro wz hz hgz) | fail)
        (try simp only [Exit.inBlock, Exit.then])
        refine bodyPost_ret (results_cell1 rfl _ _ gz rfl [.int .i64 2, .int .u8 1, .int .u8 nt, .int .u8 7, .int .u8 0, .int .u8 0, .int .u8 0, .int .u8 0, .int .u8 0, .int .u8 0, .int .u8 0, .int .u8 0, .int .u8 0, .int .u8 0, .int .u8 0, .int .u8 0, .int .u8 0, .slice none 0 0, .int .i64 wd, .bool xp] _ _ hz Try.underlying32 rfl rfl) rfl ?_
        exact HQ2.out _ (HB.out.grown hgz HB.out.size (by intro k hk; injection hk with hk; omega))
      · replace HQ1 := Lib.hid (HQ1.out rfl)
        clear HQ2 HQ0
        have c0 := row_cell HG.out 0 _ rfl
        have x2 := row_cell HX.out 2 _ rfl
        go_wp2_with fail
        clear c0 x2
        refine Calls.mono (HF.out _) ?_
        rintro e wq ⟨rfl, hb⟩
        replace HG := Lib.hid (bl_row hb (lt_of_block HG.out) HG.out)
        replace HZ := Lib.hid (bl_row hb (lt_of_block HZ.out) HZ.out)
        replace HX := Lib.hid (bl_row hb (lt_of_block HX.out) HX.out)
        replace HB := Lib.hid (bl_next HB.out HB.out.size hb)
        clear hb
        go_upto_region 6 with (first | (refine wpList_store_part rfl 30 _ _ rfl g 9 rfl [.int .u8 1, .int .u8 nf, .int .u8 7, .int .u8 0, .int .u8 0, .int .u8 0, .int .u8 0, .int .u8 0] _ (([.int .i64 1, .int .u8 1, .int .u8 nt, .int .u8 7, .int .u8 0, .int .u8 0, .int .u8 0, .int .u8 0, .int .u8 0, .int .u8 0, .int .u8 0, .int .u8 0, .int .u8 0, .int .u8 0, .int .u8 0, .int .u8 0, .int .u8 0, .slice none 0 0, .int .i64 wd, .bool false] : List Value).take 9) ((([.int .i64 1, .int .u8 1, .int .u8 nt, .int .u8 7, .int .u8 0, .int .u8 0, .int .u8 0, .int .u8 0, .int .u8 0, .int .u8 0, .int .u8 0, .int .u8 0, .int .u8 0, .int .u8 0, .int .u8 0, .int .u8 0, .int .u8 0, .slice none 0 0, .int .i64 wd, .bool false] : List Value).drop 9).take 8) (([.int .i64 1, .int .u8 1, .int .u8 nt, .int .u8 7, .int .u8 0, .int .u8 0, .int .u8 0, .int .u8 0, .int .u8 0, .int .u8 0, .int .u8 0, .int .u8 0, .int .u8 0, .int .u8 0, .int .u8 0, .int .u8 0, .int .u8 0, .slice none 0 0, .int .i64 wd, .bool false] : List Value).drop 17) rfl HG.out rfl rfl rfl (by intro v hv; simp only [List.mem_cons, List.not_mem_nil, or_false] at hv; rcases hv with rfl | rfl | rfl | rfl | rfl | rfl | rfl | rfl <;> rfl) ?_; intro wp hrp hgp) | fail)
        have HG2 : Hid (wp.heap[g]? = some (.cells #[.int .i64 1, .int .u8 1, .int .u8 nt, .int .u8 7, .int .u8 0, .int .u8 0, .int .u8 0, .int .u8 0, .int .u8 0, .int .u8 1, .int .u8 nf, .int .u8 7, .int .u8 0, .int .u8 0, .int .u8 0, .int .u8 0, .int .u8 0, .slice none 0 0, .int .i64 wd, .bool false] 32 (0, 0))) := Lib.hid hrp
        replace HZ := Lib.hid (grown_row hgp (by intro e; injection e with e; omega) HZ.out)
        replace HX := Lib.hid (grown_row hgp (by intro e; injection e with e; omega) HX.out)
        replace HB := Lib.hid (HB.out.grown hgp HB.out.size (by intro k hk; injection hk with hk; omega))
        replace HG := HG2
        clear hrp hgp HG2
        have c0 := row_cell HG.out 0 _ rfl
        go_upto_region 8 with fail
        clear c0
        go_wp2_with (first | (refine wpList_load_mid rfl 32 _ rfl g 0 rfl _ _ (rng20 HG.out) Try.underlying32 rfl rfl ?_) | (refine wpList_store_row rfl 32 _ _ rfl gz rfl [.int .i64 1, .int .u8 1, .int .u8 nt, .int .u8 7, .int .u8 0, .int .u8 0, .int .u8 0, .int .u8 0, .int .u8 0, .int .u8 1, .int .u8 nf, .int .u8 7, .int .u8 0, .int .u8 0, .int .u8 0, .int .u8 0, .int .u8 0, .slice none 0 0, .int .i64 wd, .bool false] rowZ rfl 32 HZ.out rfl rfl (by intro v hv; simp only [List.mem_cons, List.not_mem_nil, or_false] at hv; rcases hv with rfl | rfl | rfl | rfl | rfl | rfl | rfl | rfl | rfl | rfl | rfl | rfl | rfl | rfl | rfl | rfl | rfl | rfl | rfl | rfl <;> rfl) ?_; intro wz hz hgz) | fail)
        (try simp only [Exit.inBlock, Exit.then])
        refine bodyPost_ret (results_cell1 rfl _ _ gz rfl [.int .i64 1, .int .u8 1, .int .u8 nt, .int .u8 7, .int .u8 0, .int .u8 0, .int .u8 0, .int .u8 0, .int .u8 0, .int .u8 1, .int .u8 nf, .int .u8 7, .int .u8 0, .int .u8 0, .int .u8 0, .int .u8 0, .int .u8 0, .slice none 0 0, .int .i64 wd, .bool false] _ _ hz Try.underlying32 rfl rfl) rfl ?_
        exact HQ1.out _ (HB.out.grown hgz HB.out.size (by intro k hk; injection hk with hk; omega))
      · replace HQ0 := Lib.hid (HQ0.out rfl)
        clear HQ2 HQ1
        have c0 := row_cell HG.out 0 _ rfl
        have x2 := row_cell HX.out 2 _ rfl
        go_wp2_with fail
        clear c0 x2
        refine Calls.mono (HF.out _) ?_
        rintro e wq ⟨rfl, hb⟩
        replace HG := Lib.hid (bl_row hb (lt_of_block HG.out) HG.out)
        replace HZ := Lib.hid (bl_row hb (lt_of_block HZ.out) HZ.out)
        replace HX := Lib.hid (bl_row hb (lt_of_block HX.out) HX.out)
        replace HB := Lib.hid (bl_next HB.out HB.out.size hb)
        clear hb
        go_upto_region 6 with (first | (refine wpList_store_part rfl 30 _ _ rfl g 9 rfl [.int .u8 1, .int .u8 nf, .int .u8 7, .int .u8 0, .int .u8 0, .int .u8 0, .int .u8 0, .int .u8 0] _ (([.int .i64 0, .int .u8 1, .int .u8 nt, .int .u8 7, .int .u8 0, .int .u8 0, .int .u8 0, .int .u8 0, .int .u8 0, .int .u8 0, .int .u8 0, .int .u8 0, .int .u8 0, .int .u8 0, .int .u8 0, .int .u8 0, .int .u8 0, .slice none 0 0, .int .i64 wd, .bool false] : List Value).take 9) ((([.int .i64 0, .int .u8 1, .int .u8 nt, .int .u8 7, .int .u8 0, .int .u8 0, .int .u8 0, .int .u8 0, .int .u8 0, .int .u8 0, .int .u8 0, .int .u8 0, .int .u8 0, .int .u8 0, .int .u8 0, .int .u8 0, .int .u8 0, .slice none 0 0, .int .i64 wd, .bool false] : List Value).drop 9).take 8) (([.int .i64 0, .int .u8 1, .int .u8 nt, .int .u8 7, .int .u8 0, .int .u8 0, .int .u8 0, .int .u8 0, .int .u8 0, .int .u8 0, .int .u8 0, .int .u8 0, .int .u8 0, .int .u8 0, .int .u8 0, .int .u8 0, .int .u8 0, .slice none 0 0, .int .i64 wd, .bool false] : List Value).drop 17) rfl HG.out rfl rfl rfl (by intro v hv; simp only [List.mem_cons, List.not_mem_nil, or_false] at hv; rcases hv with rfl | rfl | rfl | rfl | rfl | rfl | rfl | rfl <;> rfl) ?_; intro wp hrp hgp) | fail)
        have HG2 : Hid (wp.heap[g]? = some (.cells #[.int .i64 0, .int .u8 1, .int .u8 nt, .int .u8 7, .int .u8 0, .int .u8 0, .int .u8 0, .int .u8 0, .int .u8 0, .int .u8 1, .int .u8 nf, .int .u8 7, .int .u8 0, .int .u8 0, .int .u8 0, .int .u8 0, .int .u8 0, .slice none 0 0, .int .i64 wd, .bool false] 32 (0, 0))) := Lib.hid hrp
        replace HZ := Lib.hid (grown_row hgp (by intro e; injection e with e; omega) HZ.out)
        replace HX := Lib.hid (grown_row hgp (by intro e; injection e with e; omega) HX.out)
        replace HB := Lib.hid (HB.out.grown hgp HB.out.size (by intro k hk; injection hk with hk; omega))
        replace HG := HG2
        clear hrp hgp HG2
        have c0 := row_cell HG.out 0 _ rfl
        have x4 := row_cell HX.out 4 _ rfl
        have c17 := row_cell HG.out 17 _ rfl
        have f17 := row_free HG.out 17
        go_wp2_with fail
        refine Calls.mono (HCUT.out _) ?_
        rintro e wr ⟨rfl, rfl⟩
        have hA := ((At.base HG.out).set 17 (.slice a (min tl 32) tc)).conv (cs' := #[.int .i64 0, .int .u8 1, .int .u8 nt, .int .u8 7, .int .u8 0, .int .u8 0, .int .u8 0, .int .u8 0, .int .u8 0, .int .u8 1, .int .u8 nf, .int .u8 7, .int .u8 0, .int .u8 0, .int .u8 0, .int .u8 0, .int .u8 0, .slice a (min tl 32) tc, .int .i64 wd, .bool false]) (by rfl)
        go_upto_region 8 with fail
        clear c0 x4 c17 f17
        replace HG := Lib.hid hA.row
        replace HZ := Lib.hid (grown_row hA.rest (by intro e; injection e with e; omega) HZ.out)
        replace HB := Lib.hid (HB.out.grown hA.rest HB.out.size (by intro k hk; injection hk with hk; omega))
        clear hA
        generalize wp.setCell ⟨g, 17, none⟩ (.slice a (min tl 32) tc) = wy at HG HZ HB ⊢
        go_wp2_with (first | (refine wpList_load_mid rfl 32 _ rfl g 0 rfl _ _ (rng20 HG.out) Try.underlying32 rfl rfl ?_) | (refine wpList_store_row rfl 32 _ _ rfl gz rfl [.int .i64 0, .int .u8 1, .int .u8 nt, .int .u8 7, .int .u8 0, .int .u8 0, .int .u8 0, .int .u8 0, .int .u8 0, .int .u8 1, .int .u8 nf, .int .u8 7, .int .u8 0, .int .u8 0, .int .u8 0, .int .u8 0, .int .u8 0, .slice a (min tl 32) tc, .int .i64 wd, .bool false] rowZ rfl 32 HZ.out rfl rfl (by intro v hv; simp only [List.mem_cons, List.not_mem_nil, or_false] at hv; rcases hv with rfl | rfl | rfl | rfl | rfl | rfl | rfl | rfl | rfl | rfl | rfl | rfl | rfl | rfl | rfl | rfl | rfl | rfl | rfl | rfl <;> rfl) ?_; intro wz hz hgz) | fail)
        (try simp only [Exit.inBlock, Exit.then])
        refine bodyPost_ret (results_cell1 rfl _ _ gz rfl [.int .i64 0, .int .u8 1, .int .u8 nt, .int .u8 7, .int .u8 0, .int .u8 0, .int .u8 0, .int .u8 0, .int .u8 0, .int .u8 1, .int .u8 nf, .int .u8 7, .int .u8 0, .int .u8 0, .int .u8 0, .int .u8 0, .int .u8 0, .slice a (min tl 32) tc, .int .i64 wd, .bool false] _ _ hz Try.underlying32 rfl rfl) rfl ?_
        exact HQ0.out _ (HB.out.grown hgz HB.out.size (by intro k hk; injection hk with hk; omega))
  · skip
    refine plan_half (by rfl) (by kernel_rfl) ?_
    intro K hK
    go_wp2_with fail
    have hal := (Below.refl Wa.heap.size Wa).alloc (Nat.le_refl _) (.cells rowZ.toArray 32)
    have HG := Lib.hid (heap_alloc_new Wa (.cells rowZ.toArray 32))
    have hgS : W.heap.size ≤ Wa.heap.size := hS.size
    refine ⟨bl_next hS hS.size hal, ?_⟩
    replace hS := bl_next hS hS.size hal
    clear hal
    obtain ⟨u13, hWu13⟩ : ∃ x, Wa.alloc (.cells rowZ.toArray 32) = x := ⟨_, rfl⟩
    obtain ⟨g, hg⟩ : ∃ g, Wa.heap.size = g := ⟨_, rfl⟩
    rw [hWu13, hg] at HG
    rw [hWu13] at hS
    rw [hg] at hgS
    (first | rw [hg, hWu13] | (change Plan.wp _ _ _ _ _ _ (Wa.alloc (.cells rowZ.toArray 32)); rw [hWu13, hg]) | (change Plan.wp _ _ _ _ _ _ (Wa.alloc (.cells rowZ.toArray 32)); rw [hg, hWu13]))
    clear hWu13 hg
    refine plan_us (by rfl) (by kernel_rfl) ?_
    intro K hK
    go_wp2_with fail
    refine Calls.mono (HS.out _) ?_
    rintro e u14 ⟨rfl, rfl⟩
    go_wp2_with fail
    refine ⟨hS, ?_⟩
    refine plan_us (by rfl) (by kernel_rfl) ?_
    intro K hK
    go_wp2_with fail
    refine Calls.mono (HT.out _) ?_
    rintro e u15 ⟨rfl, hb⟩
    replace hS := bl_next hS hS.size hb
    replace HG := Lib.hid (bl_row hb (lt_of_block HG.out) HG.out)
    clear hb
    go_wp2_with fail
    refine ⟨hS, ?_⟩
    refine plan_us (by rfl) (by kernel_rfl) ?_
    intro K hK
    go_wp2_with fail
    refine Calls.mono (HW.out _) ?_
    rintro e u16 ⟨rfl, rfl⟩
    go_wp2_with fail
    refine ⟨hS, ?_⟩
    repeat (refine plan_t (by rfl) ?_; (first | go_big_quiet_skip | (go_big_quiet_want; go_big_quiet_op; go_big_quiet_on)); refine wpQuiet_nil ?_)
    refine plan_us (by rfl) (by kernel_rfl) ?_
    intro K hK
    refine wp_store_row 32 _ _ rfl g rfl [.int .i64 sp, .int .u8 1, .int .u8 nt, .int .u8 7, .int .u8 0, .int .u8 0, .int .u8 0, .int .u8 0, .int .u8 0, .int .u8 0, .int .u8 0, .int .u8 0, .int .u8 0, .int .u8 0, .int .u8 0, .int .u8 0, .int .u8 0, .slice none 0 0, .int .i64 wd, .bool false] rowZ rfl 32 HG.out rfl rfl (by intro v hv; simp only [List.mem_cons, List.not_mem_nil, or_false] at hv; rcases hv with rfl | rfl | rfl | rfl | rfl | rfl | rfl | rfl | rfl | rfl | rfl | rfl | rfl | rfl | rfl | rfl | rfl | rfl | rfl | rfl <;> rfl) ?_
    intro u17 hr hg
    replace hS := hS.grown hg hS.size (by intro k hk; injection hk with hk; omega)
    replace HG := Lib.hid hr
    refine hK _ _ ⟨hS, ?_⟩
    clear hK hr hg hne
    show Exit.then _ _ _ _ _
    simp only [Act.put]
    replace HX := Lib.hid (bl_row hS hgxW HX.out)
    replace HZ := Lib.hid (bl_row hS hlt2 HZ.out)
    replace HB := Lib.hid (bl_next HB.out HB.out.size hS)
    clear hS
    rcases (by omega : sp = 2 ∨ sp = 1 ∨ sp = 0) with rfl | rfl | rfl
    · replace HQ2 := Lib.hid (HQ2.out rfl)
      clear HQ1 HQ0
      have c0 := row_cell HG.out 0 _ rfl
      have c19 := row_cell HG.out 19 _ rfl
      have f19 := row_free HG.out 19
      have x5 := row_cell HX.out 5 _ rfl
      have hA := ((At.base HG.out).set 19 (.bool xp)).conv (cs' := #[.int .i64 2, .int .u8 1, .int .u8 nt, .int .u8 7, .int .u8 0, .int .u8 0, .int .u8 0, .int .u8 0, .int .u8 0, .int .u8 0, .int .u8 0, .int .u8 0, .int .u8 0, .int .u8 0, .int .u8 0, .int .u8 0, .int .u8 0, .slice none 0 0, .int .i64 wd, .bool xp]) (by rfl)
      go_upto_region 4 with fail
      clear c0 c19 f19 x5
      replace HG := Lib.hid hA.row
      replace HZ := Lib.hid (grown_row hA.rest (by intro e; injection e with e; omega) HZ.out)
      replace HB := Lib.hid (HB.out.grown hA.rest HB.out.size (by intro k hk; injection hk with hk; omega))
      clear hA
      generalize u17.setCell ⟨g, 19, none⟩ (.bool xp) = wy at HG HZ HB ⊢
      go_wp2_with (first | (refine wpList_load_mid rfl 32 _ rfl g 0 rfl _ _ (rng20 HG.out) Try.underlying32 rfl rfl ?_) | (refine wpList_store_row rfl 32 _ _ rfl gz rfl [.int .i64 2, .int .u8 1, .int .u8 nt, .int .u8 7, .int .u8 0, .int .u8 0, .int .u8 0, .int .u8 0, .int .u8 0, .int .u8 0, .int .u8 0, .int .u8 0, .int .u8 0, .int .u8 0, .int .u8 0, .int .u8 0, .int .u8 0, .slice none 0 0, .int .i64 wd, .bool xp] rowZ rfl 32 HZ.out rfl rfl (by intro v hv; simp only [List.mem_cons, List.not_mem_nil, or_false] at hv; rcases hv with rfl | rfl | rfl | rfl | rfl | rfl | rfl | rfl | rfl | rfl | rfl | rfl | rfl | rfl | rfl | rfl | rfl | rfl | rfl | rfl <;> rfl) ?_; intro wz hz hgz) | fail)
      (try simp only [Exit.inBlock, Exit.then])
      refine bodyPost_ret (results_cell1 rfl _ _ gz rfl [.int .i64 2, .int .u8 1, .int .u8 nt, .int .u8 7, .int .u8 0, .int .u8 0, .int .u8 0, .int .u8 0, .int .u8 0, .int .u8 0, .int .u8 0, .int .u8 0, .int .u8 0, .int .u8 0, .int .u8 0, .int .u8 0, .int .u8 0, .slice none 0 0, .int .i64 wd, .bool xp] _ _ hz Try.underlying32 rfl rfl) rfl ?_
      exact HQ2.out _ (HB.out.grown hgz HB.out.size (by intro k hk; injection hk with hk; omega))
    · replace HQ1 := Lib.hid (HQ1.out rfl)
      clear HQ2 HQ0
      have c0 := row_cell HG.out 0 _ rfl
      have x2 := row_cell HX.out 2 _ rfl
      go_wp2_with fail
      clear c0 x2
      refine Calls.mono (HF.out _) ?_
      rintro e wq ⟨rfl, hb⟩
      replace HG := Lib.hid (bl_row hb (lt_of_block HG.out) HG.out)
      replace HZ := Lib.hid (bl_row hb (lt_of_block HZ.out) HZ.out)
      replace HX := Lib.hid (bl_row hb (lt_of_block HX.out) HX.out)
      replace HB := Lib.hid (bl_next HB.out HB.out.size hb)
      clear hb
      go_upto_region 6 with (first | (refine wpList_store_part rfl 30 _ _ rfl g 9 rfl [.int .u8 1, .int .u8 nf, .int .u8 7, .int .u8 0, .int .u8 0, .int .u8 0, .int .u8 0, .int .u8 0] _ (([.int .i64 1, .int .u8 1, .int .u8 nt, .int .u8 7, .int .u8 0, .int .u8 0, .int .u8 0, .int .u8 0, .int .u8 0, .int .u8 0, .int .u8 0, .int .u8 0, .int .u8 0, .int .u8 0, .int .u8 0, .int .u8 0, .int .u8 0, .slice none 0 0, .int .i64 wd, .bool false] : List Value).take 9) ((([.int .i64 1, .int .u8 1, .int .u8 nt, .int .u8 7, .int .u8 0, .int .u8 0, .int .u8 0, .int .u8 0, .int .u8 0, .int .u8 0, .int .u8 0, .int .u8 0, .int .u8 0, .int .u8 0, .int .u8 0, .int .u8 0, .int .u8 0, .slice none 0 0, .int .i64 wd, .bool false] : List Value).drop 9).take 8) (([.int .i64 1, .int .u8 1, .int .u8 nt, .int .u8 7, .int .u8 0, .int .u8 0, .int .u8 0, .int .u8 0, .int .u8 0, .int .u8 0, .int .u8 0, .int .u8 0, .int .u8 0, .int .u8 0, .int .u8 0, .int .u8 0, .int .u8 0, .slice none 0 0, .int .i64 wd, .bool false] : List Value).drop 17) rfl HG.out rfl rfl rfl (by intro v hv; simp only [List.mem_cons, List.not_mem_nil, or_false] at hv; rcases hv with rfl | rfl | rfl | rfl | rfl | rfl | rfl | rfl <;> rfl) ?_; intro wp hrp hgp) | fail)
      have HG2 : Hid (wp.heap[g]? = some (.cells #[.int .i64 1, .int .u8 1, .int .u8 nt, .int .u8 7, .int .u8 0, .int .u8 0, .int .u8 0, .int .u8 0, .int .u8 0, .int .u8 1, .int .u8 nf, .int .u8 7, .int .u8 0, .int .u8 0, .int .u8 0, .int .u8 0, .int .u8 0, .slice none 0 0, .int .i64 wd, .bool false] 32 (0, 0))) := Lib.hid hrp
      replace HZ := Lib.hid (grown_row hgp (by intro e; injection e with e; omega) HZ.out)
      replace HX := Lib.hid (grown_row hgp (by intro e; injection e with e; omega) HX.out)
      replace HB := Lib.hid (HB.out.grown hgp HB.out.size (by intro k hk; injection hk with hk; omega))
      replace HG := HG2
      clear hrp hgp HG2
      have c0 := row_cell HG.out 0 _ rfl
      go_upto_region 8 with fail
      clear c0
      go_wp2_with (first | (refine wpList_load_mid rfl 32 _ rfl g 0 rfl _ _ (rng20 HG.out) Try.underlying32 rfl rfl ?_) | (refine wpList_store_row rfl 32 _ _ rfl gz rfl [.int .i64 1, .int .u8 1, .int .u8 nt, .int .u8 7, .int .u8 0, .int .u8 0, .int .u8 0, .int .u8 0, .int .u8 0, .int .u8 1, .int .u8 nf, .int .u8 7, .int .u8 0, .int .u8 0, .int .u8 0, .int .u8 0, .int .u8 0, .slice none 0 0, .int .i64 wd, .bool false] rowZ rfl 32 HZ.out rfl rfl (by intro v hv; simp only [List.mem_cons, List.not_mem_nil, or_false] at hv; rcases hv with rfl | rfl | rfl | rfl | rfl | rfl | rfl | rfl | rfl | rfl | rfl | rfl | rfl | rfl | rfl | rfl | rfl | rfl | rfl | rfl <;> rfl) ?_; intro wz hz hgz) | fail)
      (try simp only [Exit.inBlock, Exit.then])
      refine bodyPost_ret (results_cell1 rfl _ _ gz rfl [.int .i64 1, .int .u8 1, .int .u8 nt, .int .u8 7, .int .u8 0, .int .u8 0, .int .u8 0, .int .u8 0, .int .u8 0, .int .u8 1, .int .u8 nf, .int .u8 7, .int .u8 0, .int .u8 0, .int .u8 0, .int .u8 0, .int .u8 0, .slice none 0 0, .int .i64 wd, .bool false] _ _ hz Try.underlying32 rfl rfl) rfl ?_
      exact HQ1.out _ (HB.out.grown hgz HB.out.size (by intro k hk; injection hk with hk; omega))
    · replace HQ0 := Lib.hid (HQ0.out rfl)
      clear HQ2 HQ1
      have c0 := row_cell HG.out 0 _ rfl
      have x2 := row_cell HX.out 2 _ rfl
      go_wp2_with fail
      clear c0 x2
      refine Calls.mono (HF.out _) ?_
      rintro e wq ⟨rfl, hb⟩
      replace HG := Lib.hid (bl_row hb (lt_of_block HG.out) HG.out)
      replace HZ := Lib.hid (bl_row hb (lt_of_block HZ.out) HZ.out)
      replace HX := Lib.hid (bl_row hb (lt_of_block HX.out) HX.out)
      replace HB := Lib.hid (bl_next HB.out HB.out.size hb)
      clear hb
      go_upto_region 6 with (first | (refine wpList_store_part rfl 30 _ _ rfl g 9 rfl [.int .u8 1, .int .u8 nf, .int .u8 7, .int .u8 0, .int .u8 0, .int .u8 0, .int .u8 0, .int .u8 0] _ (([.int .i64 0, .int .u8 1, .int .u8 nt, .int .u8 7, .int .u8 0, .int .u8 0, .int .u8 0, .int .u8 0, .int .u8 0, .int .u8 0, .int .u8 0, .int .u8 0, .int .u8 0, .int .u8 0, .int .u8 0, .int .u8 0, .int .u8 0, .slice none 0 0, .int .i64 wd, .bool false] : List Value).take 9) ((([.int .i64 0, .int .u8 1, .int .u8 nt, .int .u8 7, .int .u8 0, .int .u8 0, .int .u8 0, .int .u8 0, .int .u8 0, .int .u8 0, .int .u8 0, .int .u8 0, .int .u8 0, .int .u8 0, .int .u8 0, .int .u8 0, .int .u8 0, .slice none 0 0, .int .i64 wd, .bool false] : List Value).drop 9).take 8) (([.int .i64 0, .int .u8 1, .int .u8 nt, .int .u8 7, .int .u8 0, .int .u8 0, .int .u8 0, .int .u8 0, .int .u8 0, .int .u8 0, .int .u8 0, .int .u8 0, .int .u8 0, .int .u8 0, .int .u8 0, .int .u8 0, .int .u8 0, .slice none 0 0, .int .i64 wd, .bool false] : List Value).drop 17) rfl HG.out rfl rfl rfl (by intro v hv; simp only [List.mem_cons, List.not_mem_nil, or_false] at hv; rcases hv with rfl | rfl | rfl | rfl | rfl | rfl | rfl | rfl <;> rfl) ?_; intro wp hrp hgp) | fail)
      have HG2 : Hid (wp.heap[g]? = some (.cells #[.int .i64 0, .int .u8 1, .int .u8 nt, .int .u8 7, .int .u8 0, .int .u8 0, .int .u8 0, .int .u8 0, .int .u8 0, .int .u8 1, .int .u8 nf, .int .u8 7, .int .u8 0, .int .u8 0, .int .u8 0, .int .u8 0, .int .u8 0, .slice none 0 0, .int .i64 wd, .bool false] 32 (0, 0))) := Lib.hid hrp
      replace HZ := Lib.hid (grown_row hgp (by intro e; injection e with e; omega) HZ.out)
      replace HX := Lib.hid (grown_row hgp (by intro e; injection e with e; omega) HX.out)
      replace HB := Lib.hid (HB.out.grown hgp HB.out.size (by intro k hk; injection hk with hk; omega))
      replace HG := HG2
      clear hrp hgp HG2
      have c0 := row_cell HG.out 0 _ rfl
      have x4 := row_cell HX.out 4 _ rfl
      have c17 := row_cell HG.out 17 _ rfl
      have f17 := row_free HG.out 17
      go_wp2_with fail
      refine Calls.mono (HCUT.out _) ?_
      rintro e wr ⟨rfl, rfl⟩
      have hA := ((At.base HG.out).set 17 (.slice a (min tl 32) tc)).conv (cs' := #[.int .i64 0, .int .u8 1, .int .u8 nt, .int .u8 7, .int .u8 0, .int .u8 0, .int .u8 0, .int .u8 0, .int .u8 0, .int .u8 1, .int .u8 nf, .int .u8 7, .int .u8 0, .int .u8 0, .int .u8 0, .int .u8 0, .int .u8 0, .slice a (min tl 32) tc, .int .i64 wd, .bool false]) (by rfl)
      go_upto_region 8 with fail
      clear c0 x4 c17 f17
      replace HG := Lib.hid hA.row
      replace HZ := Lib.hid (grown_row hA.rest (by intro e; injection e with e; omega) HZ.out)
      replace HB := Lib.hid (HB.out.grown hA.rest HB.out.size (by intro k hk; injection hk with hk; omega))
      clear hA
      generalize wp.setCell ⟨g, 17, none⟩ (.slice a (min tl 32) tc) = wy at HG HZ HB ⊢
      go_wp2_with (first | (refine wpList_load_mid rfl 32 _ rfl g 0 rfl _ _ (rng20 HG.out) Try.underlying32 rfl rfl ?_) | (refine wpList_store_row rfl 32 _ _ rfl gz rfl [.int .i64 0, .int .u8 1, .int .u8 nt, .int .u8 7, .int .u8 0, .int .u8 0, .int .u8 0, .int .u8 0, .int .u8 0, .int .u8 1, .int .u8 nf, .int .u8 7, .int .u8 0, .int .u8 0, .int .u8 0, .int .u8 0, .int .u8 0, .slice a (min tl 32) tc, .int .i64 wd, .bool false] rowZ rfl 32 HZ.out rfl rfl (by intro v hv; simp only [List.mem_cons, List.not_mem_nil, or_false] at hv; rcases hv with rfl | rfl | rfl | rfl | rfl | rfl | rfl | rfl | rfl | rfl | rfl | rfl | rfl | rfl | rfl | rfl | rfl | rfl | rfl | rfl <;> rfl) ?_; intro wz hz hgz) | fail)
      (try simp only [Exit.inBlock, Exit.then])
      refine bodyPost_ret (results_cell1 rfl _ _ gz rfl [.int .i64 0, .int .u8 1, .int .u8 nt, .int .u8 7, .int .u8 0, .int .u8 0, .int .u8 0, .int .u8 0, .int .u8 0, .int .u8 1, .int .u8 nf, .int .u8 7, .int .u8 0, .int .u8 0, .int .u8 0, .int .u8 0, .int .u8 0, .slice a (min tl 32) tc, .int .i64 wd, .bool false] _ _ hz Try.underlying32 rfl rfl) rfl ?_
      exact HQ0.out _ (HB.out.grown hgz HB.out.size (by intro k hk; injection hk with hk; omega))

theorem khead_any (w : World) (xs xt xf xw : Int) (a : Option Addr) (tl tc : Nat) (k : List Int) (xp : Bool) (htc : tl ≤ tc) (htm : tc ≤ 9223372036854775807) (hI : IntsK .u8 w a tl k)
    (hs : -9223372036854775808 ≤ xs ∧ xs ≤ 9223372036854775807) (ht : -9223372036854775808 ≤ xt ∧ xt ≤ 9223372036854775807) (hf : -9223372036854775808 ≤ xf ∧ xf ≤ 9223372036854775807) (hw : -9223372036854775808 ≤ xw ∧ xw ≤ 9223372036854775807) :
    Calls Try.prog 8 #[.agg #[.int .i64 xs, .int .i64 xt, .int .i64 xf, .int .i64 xw, .slice a tl tc, .bool xp]] w fun e w' => ∃ b, e = .returned ((keepH xs xt xf xw k xp).val b (if (keepH xs xt xf xw k xp).s = 0 then tc else 0)) ∧ Below w.heap.size w w' ∧ IntsK .u8 w' b (keepH xs xt xf xw k xp).k.length (keepH xs xt xf xw k xp).k := by
  have h1 := within_in xs 0 2 (by omega)
  have h2 := within_in xw 1 4 (by omega)
  have HC := fun n h w => kcid_any w n h
  have hcm : ∀ n, (cidM n).map (Value.int .u8) = [.int .u8 1, .int .u8 (within n 0 1048576 % 5), .int .u8 7, .int .u8 0, .int .u8 0, .int .u8 0, .int .u8 0, .int .u8 0] := fun n => rfl
  have hkl := hI.1
  refine khead_core w xs xt xf xw (within xs 0 2) (within xw 1 4) (within xt 0 1048576 % 5) (within xf 0 1048576 % 5) a tl tc xp htc htm h1 h2
    (Lib.hid fun w => within_any w xs 0 2 (by omega) (by omega) (by omega) hs) (Lib.hid fun w => within_any w xw 1 4 (by omega) (by omega) (by omega) hw)
    (Lib.hid fun w => by have h := HC xt ht w; rw [hcm] at h; exact h) (Lib.hid fun w => by have h := HC xf hf w; rw [hcm] at h; exact h) _
    (Lib.hid fun e w' b => ?_) (Lib.hid fun e w' b => ?_) (Lib.hid fun e w' b => ?_)
  · unfold keepH; rw [if_pos e]
    exact ⟨none, rfl, b, IntsK.nil _ _ _⟩
  · unfold keepH; rw [if_neg (by omega), if_neg (by omega)]
    refine ⟨none, ?_, b, IntsK.nil _ _ _⟩
    rw [if_neg (by simp only; omega), e]; rfl
  · unfold keepH; rw [if_neg (by omega), if_pos e]
    have hm : (k.take 32).length = min tl 32 := by rw [List.length_take, hkl]; omega
    refine ⟨a, ?_, b, ?_⟩
    · rw [if_pos rfl]
      show Ending.returned _ = Ending.returned (Value.agg (Hd.row _ _ _).toArray)
      unfold Hd.row
      simp only [hm]
      rfl
    · simp only
      rw [hm]
      have h := (hI.below b).pre (min tl 32) (by omega)
      rw [show k.take 32 = k.take (min tl 32) by rcases Nat.le_total tl 32 with h | h; rw [Nat.min_eq_left h, List.take_of_length_le (by omega), List.take_of_length_le (by omega)]; rw [Nat.min_eq_right h]]
      exact h
end Go.Proofs.Ythofbckkjcidmaa
