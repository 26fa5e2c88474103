/- wheel: put. -/
import Derived.Test.YtjkedccbieoenaaWhl3
namespace Go.Proofs.Ytjkedccbieoenaa
open Go.RowKit
set_option linter.unusedVariables false
set_option linter.unusedSimpArgs false

theorem keyI : Maps.Keyed Try.prog 3 := Maps.int_keyed Try.underlying3
theorem keyIof {id : Int} (h : (Lit.int .i64 id).wf = true) : keyOf Try.prog 3 (.int .i64 id) = some (kL id) := Maps.keyOf_int_mk Try.underlying3 h
theorem wp_mapUpdate_tm {o : Oper} {a : Act} {w : World} {K : Act → World → Prop} {Q : Exit → Act → World → Prop} (m x v : Operand) (ho : o.op = .mapUpdate 45 m x v) (b n : Nat) (D : DataW Unit) (hm : a.eval m = .map (some b))
    (hown : w.ownsMap Try.prog 3 (plainElem Try.prog 2) b n D) (hn : n < maxLen) (id t : Int) (hx : a.eval x = .int .i64 id) (hv : a.eval v = .int .i64 t) (hid : (Lit.int .i64 id).wf = true) (ht : (Lit.int .i64 t).wf = true)
    (h : ∀ w', w'.ownsMap Try.prog 3 (plainElem Try.prog 2) b (n + 1) (D.put (kL id) (.lit (.int .i64 t))) → w.grownBy w' (some b) → K (a.put o.dst undef) w') : Oper.wp Try.prog o a w K Q := by
  obtain ⟨w', hrun, r1, r2⟩ := hown.update keyI Try.underlying45 hn (keyIof hid) (plainElem_int Try.underlying2 ht)
  unfold Oper.wp execOp
  simp only [ho, hm, hx, hv, Sem.run_bind, Sem.run_pure, Result.andThen_ok, hrun]
  exact h w' r1 r2
theorem row_set {w : World} {p : Nat} {R : List Value} {t : TypeId} (h : w.heap[p]? = some (.cells R.toArray t (0, 0))) (k : Nat) (v : Value) : (w.setCell ⟨p, k, none⟩ v).heap[p]? = some (.cells (R.set k v).toArray t (0, 0)) := by
  have h2 := ((At.base h).set k v).row
  rw [List.setIfInBounds_toArray] at h2
  exact h2
theorem own_slice {w : World} {base e n : Nat} {v : Value} {xs : List Value} {size : Nat} (h : w.ownsRow base e size v n xs) : ∃ b cp, v = .slice b n cp ∧ n ≤ cp := by
  rcases h.2 with ⟨rfl, rfl⟩ | ⟨g, cap, cur, rfl, hg, hrow, hn, hc, hsz, htk⟩
  · exact ⟨_, _, rfl, Nat.le_refl _⟩
  · exact ⟨_, _, rfl, hn⟩
theorem own_gx {w : World} {p gx : Nat} {M : List Nat} {now : Int} {T : List Tm} {vs : List Value} {b n : Nat} (h : WhAt w p M now T vs b n) (hg : w.heap.size = gx) : p ≠ gx := by
  have := h.rs.lt p h.rs.pm; omega
theorem own_row_ne2 {w W : World} {p gx j : Nat} {M : List Nat} {now : Int} {T : List Tm} {vs : List Value} {b n : Nat} {v : Value} (h : WhAt w p M now T vs b n) (hv : vs[j]? = some v) (hB : Below w.heap.size w W) (hg : w.heap.size = gx) : v.ownBlock ≠ some gx := by
  intro e
  have := h.rs.lt gx (h.rs.blk v (List.mem_of_getElem? hv) gx e)
  omega
theorem Off.wider {M N : List Nat} {w y : World} (h : Off N w y) (hN : ∀ x ∈ N, x ∈ M) : Off M w y := ⟨h.os, h.tape, h.output, h.size, fun i hi hm => h.block i hi (fun hn => hm (hN i hn))⟩
theorem rows_in {w : World} {p j : Nat} {M : List Nat} {now : Int} {T : List Tm} {vs : List Value} {b n : Nat} {v : Value} (h : WhAt w p M now T vs b n) (hv : vs[j]? = some v) : ∀ x ∈ p :: blkV v, x ∈ M := by
  intro x hx
  rcases List.mem_cons.1 hx with rfl | hx
  · exact h.rs.pm
  · exact h.rs.blk v (List.mem_of_getElem? hv) x (blkV_mem.1 hx)
theorem not_rows {w : World} {p j : Nat} {M : List Nat} {now : Int} {T : List Tm} {vs : List Value} {b n : Nat} {v : Value} (h : WhAt w p M now T vs b n) (hv : vs[j]? = some v) : b ∉ p :: blkV v := by
  obtain ⟨es, c, hbm⟩ := h.rs.isM
  intro hm
  rcases List.mem_cons.1 hm with hm | hm
  · rw [hm, h.rs.row] at hbm; cases hbm
  · have := blkV_mem.1 hm
    rcases (h.rs.own j v hv).2 with ⟨rfl, _⟩ | ⟨g, cap, cur, rfl, _, hg, _⟩
    · cases this
    · injection this with this; rw [show g = b from this, hbm] at hg; cases hg
theorem nodup_snoc {T : List Tm} {x : Tm} (h : (T.map Prod.fst).Nodup) (hx : x.1 ∉ T.map Prod.fst) : ((T ++ [x]).map Prod.fst).Nodup := by
  rw [List.map_append, List.nodup_append]
  exact ⟨h, by simp, fun a ha c hc e => hx (by simp at hc; rw [← hc, ← e]; exact ha)⟩
set_option maxRecDepth 100000 in
set_option maxHeartbeats 4000000 in
theorem put_any (w : World) (p : Nat) (M : List Nat) (now : Int) (T : List Tm) (vs : List Value) (b n : Nat) (h : WhAt w p M now T vs b n) (x : Tm) (hx : tmwf x) (hnew : x.1 ∉ T.map Prod.fst) (ht : 0 ≤ x.2 ∧ x.2 ≤ 1125899906842624) (hn : n ≤ 100000) (hT : T.length ≤ 100000) :
    Calls Try.prog 18 #[.pointer (some ⟨p, 0, none⟩), .agg (tmV x).toArray] w fun e w' => e = .returned (.tuple #[]) ∧ WhR w p M now (T ++ [x]) (n + 1) w' := by
  have H := Lib.hid h
  have HX := Lib.hid hx; have HN := Lib.hid hnew
  obtain ⟨j, hj⟩ : ∃ j, placeM now x.2 = j := ⟨_, rfl⟩
  have hjl := placeM_lt now x.2
  rw [hj] at hjl
  have HL := Lib.hid (fun W hc => list_any W p now x.2 h.rs.now0 ht hc)
  rw [hj] at HL
  have HJ := Lib.hid hj
  have hln : (rowsM now T j).length ≤ 100000 := Nat.le_trans (List.length_filter_le _ _) hT
  clear h hx hnew hj
  obtain ⟨id, t⟩ := x
  simp only [tmV] at HL ht ⊢
  go_enter Try.func18, Try.ntmps18
  go_upto_region 1 with fail
  have hb := (Below.refl w.heap.size w).alloc (Nat.le_refl _) (.cells (tmV (id, t)).toArray 53)
  have hgx := heap_alloc_new w (.cells (tmV (id, t)).toArray 53)
  change Code.wp _ _ _ _ (w.alloc (.cells (tmV (id, t)).toArray 53))
  generalize w.alloc (.cells (tmV (id, t)).toArray 53) = w1 at hb hgx ⊢
  obtain ⟨gx, hg⟩ : ∃ g, w.heap.size = g := ⟨_, rfl⟩
  rw [hg] at hgx ⊢
  have HG := Lib.hid hgx
  have x0 := cell_row hgx 0 _ rfl
  have x1 := cell_row hgx 1 _ rfl
  have c0 := cell_row (H.out.rs.off (N := []) (Off.of_below hb) (fun g hg => by cases hg)).row 0 _ rfl
  have HB := Lib.hid hb
  have HGX := Lib.hid hg
  clear hb hgx hg
  go_wp2_with fail
  refine Calls.mono (HL.out _ c0) ?_
  rintro e w2 ⟨rfl, n2, rfl⟩
  clear c0 HL
  go_upto_region 2 with fail
  obtain ⟨v, hv, hvc, hvf⟩ := H.out.rs.vat hjl
  clear hvc hvf
  have hB : Below w.heap.size w (w1.drewN n2).drew := (bl_drewN HB.out n2).drew
  have hS : (w1.drewN n2).drew.heap[gx]? = some (.cells (tmV (id, t)).toArray 53 (0, 0)) := HG.out
  refine wp_plan (.t 0 (.t 1 (.t 2 (.t 4 (.b 3 (.u 5 (.u 6 (.t 7 (.u 8 .done)))) 5 (.u 3 (.u 6 (.t 7 (.u 8 .done))))))))) (fun y => y.heap[gx]? = some (.cells (tmV (id, t)).toArray 53 (0, 0))) (by kernel_rfl) (by kernel_rfl) (by kernel_rfl) (fun c a d v w h => by cases d <;> exact h) HG.out ?_
  generalize (w1.drewN n2).drew = W0 at hB hS ⊢
  haveI hne2 : Nonempty (In (fun y => y.heap[gx]? = some (.cells (tmV (id, t)).toArray 53 (0, 0)))) := ⟨⟨W0, hS⟩⟩
  repeat (first | (refine plan_t_load (by rfl) (by kernel_rfl) 53 _ rfl gx 0 rfl (tmV (id, t)) _ (fun y hy => rngL hy) Try.underlying53 rfl rfl ?_; simp only [Act.put, List.setIfInBounds_toArray, List.set_cons_succ, List.set_cons_zero]) | (refine plan_t (by rfl) ?_; (first | go_big_quiet_skip | (go_big_quiet_want; go_big_quiet_op; go_big_quiet_on)); refine wpQuiet_nil ?_))
  refine plan_b ?_ ?_
  · refine plan_half (by rfl) (by kernel_rfl) ?_
    intro K hK
    obtain ⟨v1, hv1, c1, _⟩ := (H.out.rs.off (N := []) (Off.of_below hB) (fun g hg => by cases hg)).vat hjl
    rw [show v1 = v from Option.some.inj (hv1.symm.trans hv)] at c1
    clear hv1 v1
    go_wp2_with fail
    refine ⟨hS, ?_⟩
    clear c1
    refine plan_us (by rfl) (by kernel_rfl) ?_
    intro K hK
    refine wp_build_tm tmW _ rfl (id, t) rfl ?_
    have hal := (Below.refl W0.heap.size W0).alloc (Nat.le_refl _) (.cells (tmV (id, t)).toArray 53)
    have htm := tms_made W0 (id, t) HX.out 53
    have hS2 := bl_row hal (lt_of_block hS) hS
    refine hK _ _ ⟨hS2, ?_⟩
    simp only [Act.put, List.setIfInBounds_toArray, List.set_cons_succ, List.set_cons_zero]
    replace hB := bl_next hB hB.size hal
    replace hS := hS2
    clear hS2 hal
    generalize W0.alloc (.cells (tmV (id, t)).toArray 53) = w2 at hB hS htm ⊢
    generalize W0.heap.size = gs at htm ⊢
    refine plan_us (by rfl) (by kernel_rfl) ?_
    intro K hK
    have hown := (H.out.rs.off (N := []) (Off.of_below hB) (fun g hg => by cases hg)).own j v hv
    refine wp_append_tm tmW _ _ rfl 0 (rowsM now T j).length v (rowsM now T j) rfl hown _ 1 1 [(id, t)] rfl htm (by omega) (Nat.zero_le _) ?_
    intro v' w3 ho2 hg2 hor
    have hS2 := grown_row hg2 (fun e => own_row_ne2 H.out hv hB HGX.out e.symm) hS
    refine hK _ _ ⟨hS2, ?_⟩
    simp only [Act.put, List.setIfInBounds_toArray, List.set_cons_succ, List.set_cons_zero]
    have hOf := (Off.of_below (M := p :: blkV v) hB).trans (N := p :: blkV v) (Off.of_grown hg2 (fun g hg => List.mem_cons_of_mem _ (blkV_mem.2 hg))) (fun x hx => .inl hx)
    have hrw := grown_row hg2 (fun e => own_row_ne' hown (H.out.rs.off (N := []) (Off.of_below hB) (fun g hg => by cases hg)).row (by decide) e.symm) (H.out.rs.off (N := []) (Off.of_below hB) (fun g hg => by cases hg)).row
    have hnb : ∀ g, v'.ownBlock = some g → (v.ownBlock = some g ∨ w.heap.size ≤ g) := fun g hg => by rcases hor with h1 | h1; (rw [h1] at hg; exact .inl hg); (rw [h1] at hg; injection hg with hg; exact .inr (by rw [← hg]; exact hB.size))
    have hS := hS2
    clear hS2 hown hor htm
    obtain ⟨bv, dv, ev, _⟩ := own_slice ho2
    subst ev
    repeat (first | (refine plan_t_load (by rfl) (by kernel_rfl) 53 _ rfl gx 0 rfl (tmV (id, t)) _ (fun y hy => rngL hy) Try.underlying53 rfl rfl ?_; simp only [Act.put, List.setIfInBounds_toArray, List.set_cons_succ, List.set_cons_zero]) | (refine plan_t (by rfl) ?_; (first | go_big_quiet_skip | (go_big_quiet_want; go_big_quiet_op; go_big_quiet_on)); refine wpQuiet_nil ?_))
    refine plan_us (by rfl) (by kernel_rfl) ?_
    intro K hK
    obtain ⟨c1, z1⟩ : w3.cell? ⟨p, 1 + j, none⟩ = some v ∧ w3.frozen? ⟨p, 1 + j, none⟩ = false := ⟨cell_row hrw _ _ (whCells_vs hv), row_free hrw _⟩
    have hrs := row_set hrw (1 + j) (.slice bv ((rowsM now T j).length + 1) dv)
    rw [whCells_set (by rw [H.out.rs.len]; exact hjl)] at hrs
    have hO9 := hOf.setCell (k := 1 + j) (List.mem_cons_self ..) (.slice bv ((rowsM now T j).length + 1) dv)
    have hj9 := own_off ho2 ((Off.refl [p] w3).setCell (g := p) (k := 1 + j) (List.mem_singleton.2 rfl) (.slice bv ((rowsM now T j).length + 1) dv)) (fun g hg hm => own_row_ne' ho2 hrw (by decide) (by rw [hg, List.mem_singleton.1 hm]))
    have hS9 : (w3.setCell ⟨p, 1 + j, none⟩ (.slice bv ((rowsM now T j).length + 1) dv)).heap[gx]? = some (.cells (tmV (id, t)).toArray 53 (0, 0)) := by rw [Below.heap_setCell _ _ _ _ (fun e => own_gx H.out HGX.out e.symm)]; exact hS
    go_wp2_with fail
    refine ⟨hS9, ?_⟩
    clear c1 z1
    generalize w3.setCell ⟨p, 1 + j, none⟩ (.slice bv ((rowsM now T j).length + 1) dv) = W9 at hrs hO9 hj9 hS9 ⊢
    clear hne2 hrw hOf hS ho2 hg2
    show Exit.then _ _ _ _ _
    have hrj : rowsM now (T ++ [(id, t)]) j = rowsM now T j ++ [(id, t)] := by rw [rowsM_app, if_pos HJ.out]
    have HR := Lib.hid (H.out.rs.turn (T' := T ++ [(id, t)]) (v' := .slice bv ((rowsM now T j).length + 1) dv) hv hO9 hrs (by rw [hrj, List.length_append]; exact hj9) (fun i hi => by rw [rowsM_app, if_neg (by rw [HJ.out]; exact Ne.symm hi)]) (fun y hy => by rcases List.mem_append.1 hy with hy | hy; (exact H.out.rs.ok y hy); (rw [List.mem_singleton.1 hy]; exact ⟨HX.out, ht⟩)) hnb)
    have HO := Lib.hid hO9; have HV := Lib.hid hv; have HNB := Lib.hid hnb; have HG9 := Lib.hid hS9
    clear hrs hO9 hj9 hS9 hnb hB hv hrj HB HG hS
    skip
    go_upto_region 3 with fail
    obtain ⟨D, hmap, hMD⟩ := H.out.map
    have hbn : b ∉ p :: blkV v := not_rows H.out HV.out
    have hm9 := map_off hmap HO.out hbn
    have HM := Lib.hid hm9
    have HMD := Lib.hid hMD
    have HTD := Lib.hid (hmap.tidy keyI)
    clear hmap hMD hm9 hbn
    have hS3 : (fun y => y.heap[p]? = some (.cells (whCells now (vs.set j (.slice bv ((rowsM now T j).length + 1) dv)) b).toArray 50 (0, 0)) ∧ y.heap[gx]? = some (.cells (tmV (id, t)).toArray 53 (0, 0))) W9 := ⟨HR.out.row, HG9.out⟩
    have f1 : ∀ y : In (fun y => y.heap[p]? = some (.cells (whCells now (vs.set j (.slice bv ((rowsM now T j).length + 1) dv)) b).toArray 50 (0, 0)) ∧ y.heap[gx]? = some (.cells (tmV (id, t)).toArray 53 (0, 0))), y.w.cell? ⟨p, 258, none⟩ = some (.map (some b)) := fun y => cell_row y.h.1 258 _ (whCells_map HR.out.len)
    have f2 : ∀ y : In (fun y => y.heap[p]? = some (.cells (whCells now (vs.set j (.slice bv ((rowsM now T j).length + 1) dv)) b).toArray 50 (0, 0)) ∧ y.heap[gx]? = some (.cells (tmV (id, t)).toArray 53 (0, 0))), y.w.cell? ⟨gx, 0, none⟩ = some (.int .i64 id) := fun y => cell_row y.h.2 0 _ rfl
    have f3 : ∀ y : In (fun y => y.heap[p]? = some (.cells (whCells now (vs.set j (.slice bv ((rowsM now T j).length + 1) dv)) b).toArray 50 (0, 0)) ∧ y.heap[gx]? = some (.cells (tmV (id, t)).toArray 53 (0, 0))), y.w.cell? ⟨gx, 1, none⟩ = some (.int .i64 t) := fun y => cell_row y.h.2 1 _ rfl
    refine wp_plan (.t 0 (.t 1 (.t 2 (.t 3 (.t 4 (.t 5 (.t 6 (.t 7 (.u 8 .done))))))))) (fun y => y.heap[p]? = some (.cells (whCells now (vs.set j (.slice bv ((rowsM now T j).length + 1) dv)) b).toArray 50 (0, 0)) ∧ y.heap[gx]? = some (.cells (tmV (id, t)).toArray 53 (0, 0))) (by kernel_rfl) (by kernel_rfl) (by kernel_rfl) (fun c a d v w h => by cases d <;> exact h) hS3 ?_
    have hS4 : (fun y => y.heap[p]? = some (.cells (whCells now (vs.set j (.slice bv ((rowsM now T j).length + 1) dv)) b).toArray 50 (0, 0)) ∧ y.heap[gx]? = some (.cells (tmV (id, t)).toArray 53 (0, 0))) W9.drew := hS3
    haveI hne3 : Nonempty (In (fun y => y.heap[p]? = some (.cells (whCells now (vs.set j (.slice bv ((rowsM now T j).length + 1) dv)) b).toArray 50 (0, 0)) ∧ y.heap[gx]? = some (.cells (tmV (id, t)).toArray 53 (0, 0)))) := ⟨⟨W9, hS3⟩⟩
    repeat (first | (refine plan_t (by rfl) ?_; (first | go_big_quiet_skip | (go_big_quiet_want; go_big_quiet_op; go_big_quiet_on)); refine wpQuiet_nil ?_))
    clear f1 f2 f3
    refine plan_us (by rfl) (by kernel_rfl) ?_
    intro K hK
    refine wp_mapUpdate_tm _ _ _ rfl b n D rfl HM.out.drew (by unfold maxLen; omega) id t rfl rfl HX.out.1 HX.out.2 ?_
    intro W10 hm10 hg10
    have hb1 : some p ≠ some b := fun e => by injection e with e; obtain ⟨es, c, hbm⟩ := HR.out.isM; rw [← e, HR.out.row] at hbm; cases hbm
    have hb2 : some gx ≠ some b := fun e => by injection e with e; obtain ⟨es, c, hbm⟩ := HR.out.isM; rw [← e, HG9.out] at hbm; cases hbm
    refine hK _ _ ⟨⟨(hg10.block p (lt_of_block HR.out.row) hb1).trans HR.out.row, (hg10.block gx (lt_of_block HG9.out) hb2).trans HG9.out⟩, ?_⟩
    clear hne3 hS3 hS4 hb1 hb2 hK K
    simp only [Plan.wp, Act.put]
    have HG10 : Hid (W9.grownBy W10 (some b)) := Lib.hid ⟨hg10.os, hg10.tape, hg10.output, hg10.size, hg10.block⟩
    have HM10 := Lib.hid hm10
    clear hg10 hm10
    go_end0
    refine ⟨rfl, _, _, b, ⟨HR.out.mapped HG10.out (by obtain ⟨es, c, hb, _⟩ := HM10.out; exact ⟨es, c, hb⟩), ⟨_, HM10.out, HMD.out.put HTD.out (id, t) HN.out⟩, nodup_snoc H.out.nd HN.out⟩, (HO.out.wider (rows_in H.out HV.out)).trans (N := M) (Off.of_grown HG10.out (fun g hg => by injection hg with hg; rw [← hg]; exact H.out.rs.bm)) (fun x hx => .inl hx), fun g hg => ?_⟩
    rcases List.mem_append.1 hg with hg | hg
    · exact .inl hg
    · rcases HNB.out g (blkV_mem.1 hg) with h1 | h1
      · exact .inl (H.out.rs.blk v (List.mem_of_getElem? HV.out) g h1)
      · exact .inr h1
  · refine plan_half (by rfl) (by kernel_rfl) ?_
    intro K hK
    refine wp_build_tm tmW _ rfl (id, t) rfl ?_
    have hal := (Below.refl W0.heap.size W0).alloc (Nat.le_refl _) (.cells (tmV (id, t)).toArray 53)
    have htm := tms_made W0 (id, t) HX.out 53
    have hS2 := bl_row hal (lt_of_block hS) hS
    refine hK _ _ ⟨hS2, ?_⟩
    simp only [Act.put, List.setIfInBounds_toArray, List.set_cons_succ, List.set_cons_zero]
    replace hB := bl_next hB hB.size hal
    replace hS := hS2
    clear hS2 hal
    generalize W0.alloc (.cells (tmV (id, t)).toArray 53) = w5 at hB hS htm ⊢
    generalize W0.heap.size = gs at htm ⊢
    refine plan_us (by rfl) (by kernel_rfl) ?_
    intro K hK
    obtain ⟨v1, hv1, c1, _⟩ := (H.out.rs.off (N := []) (Off.of_below hB) (fun g hg => by cases hg)).vat hjl
    rw [show v1 = v from Option.some.inj (hv1.symm.trans hv)] at c1
    clear hv1 v1
    go_wp2_with fail
    refine ⟨hS, ?_⟩
    clear c1
    refine plan_us (by rfl) (by kernel_rfl) ?_
    intro K hK
    have hown := (H.out.rs.off (N := []) (Off.of_below hB) (fun g hg => by cases hg)).own j v hv
    refine wp_append_tm tmW _ _ rfl 0 (rowsM now T j).length v (rowsM now T j) rfl hown _ 1 1 [(id, t)] rfl htm (by omega) (Nat.zero_le _) ?_
    intro v' w7 ho2 hg2 hor
    have hS2 := grown_row hg2 (fun e => own_row_ne2 H.out hv hB HGX.out e.symm) hS
    refine hK _ _ ⟨hS2, ?_⟩
    simp only [Act.put, List.setIfInBounds_toArray, List.set_cons_succ, List.set_cons_zero]
    have hOf := (Off.of_below (M := p :: blkV v) hB).trans (N := p :: blkV v) (Off.of_grown hg2 (fun g hg => List.mem_cons_of_mem _ (blkV_mem.2 hg))) (fun x hx => .inl hx)
    have hrw := grown_row hg2 (fun e => own_row_ne' hown (H.out.rs.off (N := []) (Off.of_below hB) (fun g hg => by cases hg)).row (by decide) e.symm) (H.out.rs.off (N := []) (Off.of_below hB) (fun g hg => by cases hg)).row
    have hnb : ∀ g, v'.ownBlock = some g → (v.ownBlock = some g ∨ w.heap.size ≤ g) := fun g hg => by rcases hor with h1 | h1; (rw [h1] at hg; exact .inl hg); (rw [h1] at hg; injection hg with hg; exact .inr (by rw [← hg]; exact hB.size))
    have hS := hS2
    clear hS2 hown hor htm
    obtain ⟨bv, dv, ev, _⟩ := own_slice ho2
    subst ev
    repeat (first | (refine plan_t_load (by rfl) (by kernel_rfl) 53 _ rfl gx 0 rfl (tmV (id, t)) _ (fun y hy => rngL hy) Try.underlying53 rfl rfl ?_; simp only [Act.put, List.setIfInBounds_toArray, List.set_cons_succ, List.set_cons_zero]) | (refine plan_t (by rfl) ?_; (first | go_big_quiet_skip | (go_big_quiet_want; go_big_quiet_op; go_big_quiet_on)); refine wpQuiet_nil ?_))
    refine plan_us (by rfl) (by kernel_rfl) ?_
    intro K hK
    obtain ⟨c1, z1⟩ : w7.cell? ⟨p, 1 + j, none⟩ = some v ∧ w7.frozen? ⟨p, 1 + j, none⟩ = false := ⟨cell_row hrw _ _ (whCells_vs hv), row_free hrw _⟩
    have hrs := row_set hrw (1 + j) (.slice bv ((rowsM now T j).length + 1) dv)
    rw [whCells_set (by rw [H.out.rs.len]; exact hjl)] at hrs
    have hO9 := hOf.setCell (k := 1 + j) (List.mem_cons_self ..) (.slice bv ((rowsM now T j).length + 1) dv)
    have hj9 := own_off ho2 ((Off.refl [p] w7).setCell (g := p) (k := 1 + j) (List.mem_singleton.2 rfl) (.slice bv ((rowsM now T j).length + 1) dv)) (fun g hg hm => own_row_ne' ho2 hrw (by decide) (by rw [hg, List.mem_singleton.1 hm]))
    have hS9 : (w7.setCell ⟨p, 1 + j, none⟩ (.slice bv ((rowsM now T j).length + 1) dv)).heap[gx]? = some (.cells (tmV (id, t)).toArray 53 (0, 0)) := by rw [Below.heap_setCell _ _ _ _ (fun e => own_gx H.out HGX.out e.symm)]; exact hS
    go_wp2_with fail
    refine ⟨hS9, ?_⟩
    clear c1 z1
    generalize w7.setCell ⟨p, 1 + j, none⟩ (.slice bv ((rowsM now T j).length + 1) dv) = W9 at hrs hO9 hj9 hS9 ⊢
    clear hne2 hrw hOf hS ho2 hg2
    show Exit.then _ _ _ _ _
    have hrj : rowsM now (T ++ [(id, t)]) j = rowsM now T j ++ [(id, t)] := by rw [rowsM_app, if_pos HJ.out]
    have HR := Lib.hid (H.out.rs.turn (T' := T ++ [(id, t)]) (v' := .slice bv ((rowsM now T j).length + 1) dv) hv hO9 hrs (by rw [hrj, List.length_append]; exact hj9) (fun i hi => by rw [rowsM_app, if_neg (by rw [HJ.out]; exact Ne.symm hi)]) (fun y hy => by rcases List.mem_append.1 hy with hy | hy; (exact H.out.rs.ok y hy); (rw [List.mem_singleton.1 hy]; exact ⟨HX.out, ht⟩)) hnb)
    have HO := Lib.hid hO9; have HV := Lib.hid hv; have HNB := Lib.hid hnb; have HG9 := Lib.hid hS9
    clear hrs hO9 hj9 hS9 hnb hB hv hrj HB HG hS
    skip
    go_upto_region 3 with fail
    obtain ⟨D, hmap, hMD⟩ := H.out.map
    have hbn : b ∉ p :: blkV v := not_rows H.out HV.out
    have hm9 := map_off hmap HO.out hbn
    have HM := Lib.hid hm9
    have HMD := Lib.hid hMD
    have HTD := Lib.hid (hmap.tidy keyI)
    clear hmap hMD hm9 hbn
    have hS3 : (fun y => y.heap[p]? = some (.cells (whCells now (vs.set j (.slice bv ((rowsM now T j).length + 1) dv)) b).toArray 50 (0, 0)) ∧ y.heap[gx]? = some (.cells (tmV (id, t)).toArray 53 (0, 0))) W9 := ⟨HR.out.row, HG9.out⟩
    have f1 : ∀ y : In (fun y => y.heap[p]? = some (.cells (whCells now (vs.set j (.slice bv ((rowsM now T j).length + 1) dv)) b).toArray 50 (0, 0)) ∧ y.heap[gx]? = some (.cells (tmV (id, t)).toArray 53 (0, 0))), y.w.cell? ⟨p, 258, none⟩ = some (.map (some b)) := fun y => cell_row y.h.1 258 _ (whCells_map HR.out.len)
    have f2 : ∀ y : In (fun y => y.heap[p]? = some (.cells (whCells now (vs.set j (.slice bv ((rowsM now T j).length + 1) dv)) b).toArray 50 (0, 0)) ∧ y.heap[gx]? = some (.cells (tmV (id, t)).toArray 53 (0, 0))), y.w.cell? ⟨gx, 0, none⟩ = some (.int .i64 id) := fun y => cell_row y.h.2 0 _ rfl
    have f3 : ∀ y : In (fun y => y.heap[p]? = some (.cells (whCells now (vs.set j (.slice bv ((rowsM now T j).length + 1) dv)) b).toArray 50 (0, 0)) ∧ y.heap[gx]? = some (.cells (tmV (id, t)).toArray 53 (0, 0))), y.w.cell? ⟨gx, 1, none⟩ = some (.int .i64 t) := fun y => cell_row y.h.2 1 _ rfl
    refine wp_plan (.t 0 (.t 1 (.t 2 (.t 3 (.t 4 (.t 5 (.t 6 (.t 7 (.u 8 .done))))))))) (fun y => y.heap[p]? = some (.cells (whCells now (vs.set j (.slice bv ((rowsM now T j).length + 1) dv)) b).toArray 50 (0, 0)) ∧ y.heap[gx]? = some (.cells (tmV (id, t)).toArray 53 (0, 0))) (by kernel_rfl) (by kernel_rfl) (by kernel_rfl) (fun c a d v w h => by cases d <;> exact h) hS3 ?_
    have hS4 : (fun y => y.heap[p]? = some (.cells (whCells now (vs.set j (.slice bv ((rowsM now T j).length + 1) dv)) b).toArray 50 (0, 0)) ∧ y.heap[gx]? = some (.cells (tmV (id, t)).toArray 53 (0, 0))) W9.drew := hS3
    haveI hne3 : Nonempty (In (fun y => y.heap[p]? = some (.cells (whCells now (vs.set j (.slice bv ((rowsM now T j).length + 1) dv)) b).toArray 50 (0, 0)) ∧ y.heap[gx]? = some (.cells (tmV (id, t)).toArray 53 (0, 0)))) := ⟨⟨W9, hS3⟩⟩
    repeat (first | (refine plan_t (by rfl) ?_; (first | go_big_quiet_skip | (go_big_quiet_want; go_big_quiet_op; go_big_quiet_on)); refine wpQuiet_nil ?_))
    clear f1 f2 f3
    refine plan_us (by rfl) (by kernel_rfl) ?_
    intro K hK
    refine wp_mapUpdate_tm _ _ _ rfl b n D rfl HM.out.drew (by unfold maxLen; omega) id t rfl rfl HX.out.1 HX.out.2 ?_
    intro W10 hm10 hg10
    have hb1 : some p ≠ some b := fun e => by injection e with e; obtain ⟨es, c, hbm⟩ := HR.out.isM; rw [← e, HR.out.row] at hbm; cases hbm
    have hb2 : some gx ≠ some b := fun e => by injection e with e; obtain ⟨es, c, hbm⟩ := HR.out.isM; rw [← e, HG9.out] at hbm; cases hbm
    refine hK _ _ ⟨⟨(hg10.block p (lt_of_block HR.out.row) hb1).trans HR.out.row, (hg10.block gx (lt_of_block HG9.out) hb2).trans HG9.out⟩, ?_⟩
    clear hne3 hS3 hS4 hb1 hb2 hK K
    simp only [Plan.wp, Act.put]
    have HG10 : Hid (W9.grownBy W10 (some b)) := Lib.hid ⟨hg10.os, hg10.tape, hg10.output, hg10.size, hg10.block⟩
    have HM10 := Lib.hid hm10
    clear hg10 hm10
    go_end0
    refine ⟨rfl, _, _, b, ⟨HR.out.mapped HG10.out (by obtain ⟨es, c, hb, _⟩ := HM10.out; exact ⟨es, c, hb⟩), ⟨_, HM10.out, HMD.out.put HTD.out (id, t) HN.out⟩, nodup_snoc H.out.nd HN.out⟩, (HO.out.wider (rows_in H.out HV.out)).trans (N := M) (Off.of_grown HG10.out (fun g hg => by injection hg with hg; rw [← hg]; exact H.out.rs.bm)) (fun x hx => .inl hx), fun g hg => ?_⟩
    rcases List.mem_append.1 hg with hg | hg
    · exact .inl hg
    · rcases HNB.out g (blkV_mem.1 hg) with h1 | h1
      · exact .inl (H.out.rs.blk v (List.mem_of_getElem? HV.out) g h1)
      · exact .inr h1
end Go.Proofs.Ytjkedccbieoenaa
