/- wheel: Drop. -/
import Derived.Test.YtjkedccbieoenaaWhl6
namespace Go.Proofs.Ytjkedccbieoenaa
open Go.RowKit
set_option linter.unusedVariables false
set_option linter.unusedSimpArgs false

set_option maxRecDepth 100000 in
theorem wp_lookup_tm {o : Oper} {a : Act} {w : World} {K : Act → World → Prop} {Q : Exit → Act → World → Prop} (m x : Operand) (ho : o.op = .lookup 45 m x true) (b n : Nat) (D : DataW Unit) (hm : a.eval m = .map (some b))
    (hown : w.ownsMap Try.prog 3 (plainElem Try.prog 2) b n D) (id : Int) (hx : a.eval x = .int .i64 id) (hid : (Lit.int .i64 id).wf = true)
    (h : ∀ c : Int, D.atKey (kL id) (.lit (.int .i64 0)) = .lit (.int .i64 c) → K (a.put o.dst (.tuple #[.int .i64 c, .bool (Maps.has D (kL id))])) w) : Oper.wp Try.prog o a w K Q := by
  obtain ⟨v, ps, hrun, hv⟩ := hown.look_ok keyI Try.underlying45 (show (zeroValue 2).run Try.prog w = .ok (.int .i64 0) w by kernel_rfl) (plainElem_int Try.underlying2 (by decide)) (keyIof hid)
  obtain ⟨c, rfl, hc, _⟩ := plainElem_int_inv Try.underlying2 hv
  unfold Oper.wp execOp
  simp only [ho, hm, hx, Sem.run_bind, Sem.run_pure, Result.andThen_ok, hrun]
  exact h c (congrArg Prod.fst hc)
theorem wp_delete_tm {o : Oper} {a : Act} {w : World} {K : Act → World → Prop} {Q : Exit → Act → World → Prop} (m x : Operand) (ho : o.op = .call { callee := .builtin .delete, args := #[m, x], argTypes := #[45, 3] }) (b n : Nat) (D : DataW Unit) (hm : a.eval m = .map (some b))
    (hown : w.ownsMap Try.prog 3 (plainElem Try.prog 2) b n D) (id : Int) (hx : a.eval x = .int .i64 id) (hid : (Lit.int .i64 id).wf = true)
    (h : ∀ w', w'.ownsMap Try.prog 3 (plainElem Try.prog 2) b n (D.del (kL id)) → w.grownBy w' (some b) → K (a.put o.dst (.tuple #[])) w') : Oper.wp Try.prog o a w K Q := by
  obtain ⟨w', hrun, r1, r2⟩ := hown.drop keyI Try.underlying45 (keyIof hid) o.type
  unfold Oper.wp execOp
  simp only [ho, resolve, invoke, builtin, List.map_toArray, List.map_cons, List.map_nil, hm, hx, Sem.run_bind, Sem.run_pure, Result.andThen_ok, hrun]
  exact h w' r1 r2.grown
def dropT (T : List Tm) (id : Int) : List Tm := T.filter (fun x => decide (x.1 ≠ id))
theorem dropT_not {T : List Tm} {id : Int} (h : id ∉ T.map Prod.fst) : dropT T id = T := by
  unfold dropT
  rw [List.filter_eq_self]
  intro x hx
  simp only [decide_eq_true_eq]
  exact fun e => h (by rw [← e]; exact List.mem_map_of_mem hx)
theorem uniq_id {T : List Tm} (hnd : (T.map Prod.fst).Nodup) {x y : Tm} (hx : x ∈ T) (hy : y ∈ T) (h : x.1 = y.1) : x = y := by
  induction T with
  | nil => cases hx
  | cons z T ih =>
    rw [List.map_cons, List.nodup_cons] at hnd
    rcases List.mem_cons.1 hx with e1 | hx'
    · rcases List.mem_cons.1 hy with e2 | hy'
      · rw [e1, e2]
      · exact absurd (by rw [← e1, h]; exact List.mem_map_of_mem hy') hnd.1
    · rcases List.mem_cons.1 hy with e2 | hy'
      · exact absurd (by rw [← e2, ← h]; exact List.mem_map_of_mem hx') hnd.1
      · exact ih hnd.2 hx' hy'
theorem drop_row {now : Int} {T : List Tm} (hnd : (T.map Prod.fst).Nodup) {x : Tm} (hx : x ∈ T) {j : Nat} (hj : placeM now x.2 = j) :
    ∃ l1 l2, rowsM now T j = l1 ++ x :: l2 ∧ (∀ y ∈ l1, y.1 ≠ x.1) ∧ (∀ y ∈ l2, y.1 ≠ x.1) ∧ rowsM now (dropT T x.1) j = l1 ++ l2 ∧ ∀ i, i ≠ j → rowsM now (dropT T x.1) i = rowsM now T i := by
  have hm : x ∈ rowsM now T j := by unfold rowsM; exact List.mem_filter.2 ⟨hx, by simpa using hj⟩
  obtain ⟨l1, l2, he⟩ := List.append_of_mem hm
  have hnd2 : (rowsM now T j).Nodup := ((List.pairwise_map.1 hnd).imp (fun h e => h (by rw [e]))).filter _
  have hin : ∀ y, y ∈ rowsM now T j → y ∈ T := fun y hy => (List.mem_filter.1 hy).1
  have hu : ∀ y ∈ rowsM now T j, y.1 = x.1 → y = x := fun y hy e => uniq_id hnd (hin y hy) hx e
  rw [he] at hnd2
  have h1 : ∀ y ∈ l1, y.1 ≠ x.1 := fun y hy e => by
    have := hu y (by rw [he]; exact List.mem_append_left _ hy) e
    subst this
    exact (List.nodup_append.1 hnd2).2.2 y hy y (by simp) rfl
  have h2 : ∀ y ∈ l2, y.1 ≠ x.1 := fun y hy e => by
    have := hu y (by rw [he]; exact List.mem_append_right _ (List.mem_cons_of_mem _ hy)) e
    subst this
    exact (List.nodup_cons.1 (List.nodup_append.1 hnd2).2.1).1 hy
  have hcomm : ∀ i, rowsM now (dropT T x.1) i = (rowsM now T i).filter (fun y => decide (y.1 ≠ x.1)) := fun i => by
    unfold rowsM dropT; rw [List.filter_filter, List.filter_filter]; congr 1; funext y; rw [Bool.and_comm]
  refine ⟨l1, l2, he, h1, h2, ?_, fun i hi => ?_⟩
  · rw [hcomm, he, List.filter_append, List.filter_cons_of_neg (by simp)]
    rw [List.filter_eq_self.2 (fun y hy => by simpa using h1 y hy), List.filter_eq_self.2 (fun y hy => by simpa using h2 y hy)]
  · rw [hcomm, List.filter_eq_self]
    intro y hy
    simp only [decide_eq_true_eq]
    intro e
    have h3 := List.mem_filter.1 hy
    have := uniq_id hnd h3.1 hx e
    subst this
    have h4 := h3.2
    simp only [decide_eq_true_eq] at h4
    omega
theorem nodup_drop {T : List Tm} {id : Int} (h : (T.map Prod.fst).Nodup) : ((dropT T id).map Prod.fst).Nodup := List.Nodup.sublist (List.Sublist.map _ List.filter_sublist) h
set_option maxRecDepth 100000 in
set_option maxHeartbeats 8000000 in
theorem drop_any (w : World) (p : Nat) (M : List Nat) (now : Int) (T : List Tm) (vs : List Value) (b n : Nat) (h : WhAt w p M now T vs b n) (id : Int) (hid : (Lit.int .i64 id).wf = true) (hT : T.length ≤ 100000) :
    Calls Try.prog 15 #[.pointer (some ⟨p, 0, none⟩), .int .i64 id] w fun e w' => e = .returned (.bool (decide (id ∈ T.map Prod.fst))) ∧ WhR w p M now (dropT T id) n w' := by
  have H := Lib.hid h
  have HID := Lib.hid hid
  obtain ⟨D, hmap, hMD⟩ := h.map
  have HMD := Lib.hid hMD; have HTD := Lib.hid (hmap.tidy keyI); have HMP := Lib.hid hmap
  have HHA : Hid (Maps.has D (kL id) = decide (id ∈ T.map Prod.fst)) := Lib.hid (hMD.has id)
  obtain ⟨q, hq⟩ : ∃ q, decide (id ∈ T.map Prod.fst) = q := ⟨_, rfl⟩
  rw [hq] at HHA ⊢
  have HQ := Lib.hid hq
  clear h hid hmap hMD hq
  go_enter Try.func15, Try.ntmps15
  go_upto_region 1 with fail
  have hb := (Below.refl w.heap.size w).alloc (Nat.le_refl _) (.cells #[.int .i64 id] 3)
  have hgi := heap_alloc_new w (.cells #[.int .i64 id] 3)
  change Code.wp _ _ _ _ (w.alloc (.cells #[.int .i64 id] 3))
  generalize w.alloc (.cells #[.int .i64 id] 3) = w1 at hb hgi ⊢
  obtain ⟨gi, hg⟩ : ∃ g, w.heap.size = g := ⟨_, rfl⟩
  rw [hg] at hgi ⊢
  have HGI := Lib.hid hgi; have HGS := Lib.hid hg; have HB := Lib.hid hb
  have hr1 := (H.out.rs.off (N := []) (Off.of_below hb) (fun g hg => by cases hg))
  have hm1 := map_off HMP.out (Off.of_below (M := []) hb) (by intro h; cases h)
  clear hb hg
  have f1 : ∀ y : In (fun y => Below w1.heap.size w1 y), y.w.cell? ⟨p, 258, none⟩ = some (.map (some b)) := fun y => cell_row (bl_row y.h (lt_of_block hr1.row) hr1.row) 258 _ (whCells_map H.out.rs.len)
  have f2 : ∀ y : In (fun y => Below w1.heap.size w1 y), y.w.cell? ⟨gi, 0, none⟩ = some (.int .i64 id) := fun y => row_cell (bl_row y.h (lt_of_block hgi) hgi) 0 _ rfl
  refine wp_plan (.t 0 (.t 1 (.t 2 (.t 3 (.t 4 (.u 5 (.t 6 (.t 7 (.t 8 (.t 9 (.t 10 .done))))))))))) (fun y => Below w1.heap.size w1 y) (by kernel_rfl) (by kernel_rfl) (by kernel_rfl) (fun c a d v w h => by cases d <;> exact h) (Below.refl _ _).drew ?_
  have hS : (fun y => Below w1.heap.size w1 y) w1.drew := (Below.refl _ _).drew
  generalize w1.drew = W0 at hS ⊢
  haveI hne : Nonempty (In (fun y => Below w1.heap.size w1 y)) := ⟨⟨w1, Below.refl _ _⟩⟩
  repeat (first | (refine plan_t (by rfl) ?_; (first | go_big_quiet_skip | (go_big_quiet_want; go_big_quiet_op; go_big_quiet_on)); refine wpQuiet_nil ?_))
  refine plan_us (by rfl) (by kernel_rfl) ?_
  intro K hK
  refine wp_lookup_tm _ _ rfl b n D rfl (map_off hm1 (Off.of_below (M := []) hS) (by intro h; cases h)) id rfl HID.out ?_
  intro c hc
  refine hK _ _ ⟨hS, ?_⟩
  simp only [Act.put, List.setIfInBounds_toArray, List.set_cons_succ, List.set_cons_zero]
  have HCC := Lib.hid hc
  clear hc
  rw [HHA.out]
  repeat (first | (refine plan_t (by rfl) ?_; (first | go_big_quiet_skip | (go_big_quiet_want; go_big_quiet_op; go_big_quiet_on)); refine wpQuiet_nil ?_))
  clear hne f1 f2
  show Exit.then _ _ _ _ _
  replace HB := Lib.hid (bl_next HB.out HB.out.size hS)
  replace HGI := Lib.hid (bl_row hS (lt_of_block hgi) hgi)
  clear hgi hr1 hm1 hS
  cases q with
  | false =>
    go_wp2_with fail
    go_ret
    exact ⟨rfl, M, vs, b, by rw [dropT_not (of_decide_eq_false HQ.out)]; exact H.out.below HB.out, Off.of_below HB.out, fun g hg => .inl hg⟩
  | true =>
    have hmem := of_decide_eq_true HQ.out
    obtain ⟨x, hxT, hxi⟩ := List.mem_map.1 hmem
    subst hxi
    obtain rfl : c = x.2 := by have h1 := HCC.out; have h2 := HMD.out.at' x hxT (.lit (.int .i64 0)); rw [h2] at h1; injection h1 with h1; injection h1 with _ h1; exact h1.symm
    have hxo := H.out.rs.ok x hxT
    obtain ⟨j, hj⟩ : ∃ j, placeM now x.2 = j := ⟨_, rfl⟩
    have hjl := placeM_lt now x.2
    rw [hj] at hjl
    obtain ⟨l1, l2, hl, h1, h2, hl3, hoth⟩ := drop_row H.out.nd hxT hj
    have HL := Lib.hid (fun W hc => list_any W p now x.2 H.out.rs.now0 hxo.2 hc)
    rw [hj] at HL
    obtain ⟨v, hv, hvc, hvf⟩ := H.out.rs.vat hjl
    have hown := H.out.rs.own j v hv
    rw [hl] at hown
    obtain ⟨n0, hn0⟩ : ∃ n, (l1 ++ x :: l2).length = n := ⟨_, rfl⟩
    rw [hn0] at hown
    obtain ⟨g, cap, rfl⟩ : ∃ g cap, v = .slice (some ⟨g, 0, none⟩) n0 cap := by
      rcases hown.2 with ⟨_, h0⟩ | ⟨g, cap, cur, e, _⟩
      · rw [List.length_append, List.length_cons] at hn0; omega
      · exact ⟨g, cap, e⟩
    have hn9 : n0 ≤ 100000 := by have := List.length_filter_le (fun x => decide (placeM now x.2 = j)) T; unfold rowsM at hl; rw [hl, hn0] at this; omega
    have hwf : ∀ y ∈ l1 ++ x :: l2, tmwf y := fun y hy => by rw [← hl] at hy; exact (H.out.rs.ok y (List.mem_filter.1 hy).1).1
    have hgM : g ∈ M := H.out.rs.blk _ (List.mem_of_getElem? hv) g rfl
    have hgl := H.out.rs.lt g hgM
    have hgg : gi ≠ g := by have := HGS.out; omega
    have HDE := Lib.hid (fun W q1 q2 q3 => delete_any W g n0 cap l1 l2 x q1 hwf (by omega) gi x.1 rfl h1 h2 q2 hgg q3)
    have hrB := H.out.rs.off (N := []) (Off.of_below HB.out) (fun g hg => by cases hg)
    have c0 := cell_row hrB.row 0 _ rfl
    have HV := Lib.hid hv; have HOW := Lib.hid hown; have HL1 := Lib.hid hl; have HL3 := Lib.hid hl3; have HOT := Lib.hid hoth; have HXT := Lib.hid hxT; have HGM := Lib.hid hgM; have HGG := Lib.hid hgg; have HN0 := Lib.hid hn0; have HJL := Lib.hid hjl
    skip
    clear hrB hv hvc hvf hown hl hl3 hoth hxT hgM hgg h1 h2 hmem hwf hxo hj HCC HHA hgl hn0 hjl
    go_wp2_with fail
    refine Calls.mono (HL.out _ c0) ?_
    rintro e w2 ⟨rfl, n2, rfl⟩
    clear c0 HL
    replace HB := Lib.hid (bl_drewN HB.out n2)
    replace HGI := Lib.hid (row_drewN n2 HGI.out)
    generalize W0.drewN n2 = w3 at HB HGI ⊢
    have hrB := H.out.rs.off (N := []) (Off.of_below HB.out) (fun g hg => by cases hg)
    have c1 := cell_row hrB.row _ _ (whCells_vs HV.out)
    go_wp2_with fail
    refine Calls.mono (HDE.out _ (own_below HOW.out HB.out) (lt_of_block HGI.out) (row_cell HGI.out 0 _ rfl)) ?_
    rintro e w4 ⟨rfl, ho4, hf4⟩
    clear c1 HDE
    have hpg : p ≠ g := fun e => own_row_ne' HOW.out H.out.rs.row (by decide) (by rw [e]; rfl)
    have hr4 := (hf4.block p (lt_of_block hrB.row) (by simpa using hpg)).trans hrB.row
    have c1 := cell_row hr4 _ _ (whCells_vs HV.out)
    have z1 := row_free hr4 (1 + j)
    have hrs := row_set hr4 (1 + j) (.slice (some ⟨g, 0, none⟩) (n0 - 1) cap)
    rw [whCells_set (by rw [H.out.rs.len]; exact HJL.out)] at hrs
    have hO9 := ((Off.of_below (M := p :: blkV (.slice (some ⟨g, 0, none⟩) n0 cap)) HB.out).trans (N := p :: blkV (.slice (some ⟨g, 0, none⟩) n0 cap)) (hf4.wider (fun x hx => by rw [List.mem_singleton.1 hx]; exact List.mem_cons_of_mem _ (blkV_mem.2 rfl))) (fun x hx => .inl hx)).setCell (g := p) (k := 1 + j) (List.mem_cons_self ..) (.slice (some ⟨g, 0, none⟩) (n0 - 1) cap)
    have hj9 := own_off ho4 ((Off.refl [p] w4).setCell (g := p) (k := 1 + j) (List.mem_singleton.2 rfl) (.slice (some ⟨g, 0, none⟩) (n0 - 1) cap)) (fun q hq hm => by injection hq with hq; rw [List.mem_singleton.1 hm] at hq; exact hpg hq.symm)
    have hgi4 : w4.heap[gi]? = some (.cells #[.int .i64 x.1] 3) := (hf4.block gi (lt_of_block HGI.out) (by simpa using HGG.out)).trans HGI.out
    have hgi9 : (w4.setCell ⟨p, 1 + j, none⟩ (.slice (some ⟨g, 0, none⟩) (n0 - 1) cap)).heap[gi]? = some (.cells #[.int .i64 x.1] 3) := by rw [Below.heap_setCell _ _ _ _ (fun e => own_gx H.out HGS.out e.symm)]; exact hgi4
    go_upto_region 6 with fail
    clear c1 z1 hr4 hf4 ho4 hgi4 hpg
    generalize w4.setCell ⟨p, 1 + j, none⟩ (.slice (some ⟨g, 0, none⟩) (n0 - 1) cap) = w9 at hrs hO9 hj9 hgi9 ⊢
    have hn1 : n0 - 1 = (l1 ++ l2).length := by have := HN0.out; rw [List.length_append, List.length_cons] at this; rw [List.length_append]; omega
    have HR := Lib.hid (H.out.rs.turn (T' := dropT T x.1) (v' := .slice (some ⟨g, 0, none⟩) (n0 - 1) cap) HV.out hO9 hrs (by rw [HL3.out, ← hn1]; exact hj9) HOT.out (fun y hy => H.out.rs.ok y (List.mem_filter.1 hy).1) (fun q hq => .inl hq))
    have HO := Lib.hid hO9; have HG9 := Lib.hid hgi9
    have hm9 := map_off HMP.out hO9 (not_rows H.out HV.out)
    have HM9 := Lib.hid hm9
    clear hrs hO9 hj9 hgi9 hm9 HGI hn1 hrB
    have hS3 : (fun y => y.heap[p]? = some (.cells (whCells now (vs.set j (.slice (some ⟨g, 0, none⟩) (n0 - 1) cap)) b).toArray 50 (0, 0)) ∧ y.heap[gi]? = some (.cells #[.int .i64 x.1] 3)) w9 := ⟨HR.out.row, HG9.out⟩
    have f1 : ∀ y : In (fun y => y.heap[p]? = some (.cells (whCells now (vs.set j (.slice (some ⟨g, 0, none⟩) (n0 - 1) cap)) b).toArray 50 (0, 0)) ∧ y.heap[gi]? = some (.cells #[.int .i64 x.1] 3)), y.w.cell? ⟨p, 258, none⟩ = some (.map (some b)) := fun y => cell_row y.h.1 258 _ (whCells_map HR.out.len)
    have f2 : ∀ y : In (fun y => y.heap[p]? = some (.cells (whCells now (vs.set j (.slice (some ⟨g, 0, none⟩) (n0 - 1) cap)) b).toArray 50 (0, 0)) ∧ y.heap[gi]? = some (.cells #[.int .i64 x.1] 3)), y.w.cell? ⟨gi, 0, none⟩ = some (.int .i64 x.1) := fun y => row_cell y.h.2 0 _ rfl
    refine wp_plan (.t 0 (.t 1 (.t 2 (.t 3 (.t 4 (.u 5 .done)))))) (fun y => y.heap[p]? = some (.cells (whCells now (vs.set j (.slice (some ⟨g, 0, none⟩) (n0 - 1) cap)) b).toArray 50 (0, 0)) ∧ y.heap[gi]? = some (.cells #[.int .i64 x.1] 3)) (by kernel_rfl) (by kernel_rfl) (by kernel_rfl) (fun c a d v w h => by cases d <;> exact h) hS3 ?_
    haveI hne3 : Nonempty (In (fun y => y.heap[p]? = some (.cells (whCells now (vs.set j (.slice (some ⟨g, 0, none⟩) (n0 - 1) cap)) b).toArray 50 (0, 0)) ∧ y.heap[gi]? = some (.cells #[.int .i64 x.1] 3))) := ⟨⟨w9, hS3⟩⟩
    repeat (first | (refine plan_t (by rfl) ?_; (first | go_big_quiet_skip | (go_big_quiet_want; go_big_quiet_op; go_big_quiet_on)); refine wpQuiet_nil ?_))
    clear f1 f2
    refine plan_us (by rfl) (by kernel_rfl) ?_
    intro K hK
    refine wp_delete_tm _ _ rfl b n D rfl HM9.out.drew x.1 rfl HID.out ?_
    intro w10 hm10 hg10
    have hb1 : some p ≠ some b := fun e => by injection e with e; obtain ⟨es, c, hbm⟩ := HR.out.isM; rw [← e, HR.out.row] at hbm; cases hbm
    have hb2 : some gi ≠ some b := fun e => by injection e with e; obtain ⟨es, c, hbm⟩ := HR.out.isM; rw [← e, HG9.out] at hbm; cases hbm
    refine hK _ _ ⟨⟨(hg10.block p (lt_of_block HR.out.row) hb1).trans HR.out.row, (hg10.block gi (lt_of_block HG9.out) hb2).trans HG9.out⟩, ?_⟩
    clear hne3 hS3 hb1 hb2 hK K
    show Exit.then _ _ _ _ _
    have HG10 : Hid (w9.grownBy w10 (some b)) := Lib.hid ⟨hg10.os, hg10.tape, hg10.output, hg10.size, hg10.block⟩
    have HM10 := Lib.hid hm10
    clear hg10 hm10
    go_wp2_with fail
    go_ret
    refine ⟨rfl, _, _, b, ⟨HR.out.mapped HG10.out (by obtain ⟨es, c, hb, _⟩ := HM10.out; exact ⟨es, c, hb⟩), ⟨_, HM10.out, HMD.out.del HTD.out x.1 H.out.nd⟩, nodup_drop H.out.nd⟩, (HO.out.wider (rows_in H.out HV.out)).trans (N := M) (Off.of_grown HG10.out (fun g hg => by injection hg with hg; rw [← hg]; exact H.out.rs.bm)) (fun x hx => .inl hx), fun q hq => ?_⟩
    rcases List.mem_append.1 hq with hq | hq
    · exact .inl hq
    · have := blkV_mem.1 hq; injection this with this; rw [← this]; exact .inl HGM.out
end Go.Proofs.Ytjkedccbieoenaa
