/- chapter 21's walks: PathKnows -/
import Derived.Test.YtdckjaganpincaaPathLaw
namespace Go.Proofs.Ytdckjaganpincaa
open Go.RowKit
set_option linter.unusedVariables false

set_option maxRecDepth 100000 in
set_option maxHeartbeats 4000000 in
theorem knows21_any (w : World) (to seed n x0 x1 x2 x3 x4 x5 x6 x7 : Int) (hwx : ∀ x ∈ [x0, x1, x2, x3, x4, x5, x6, x7], (Lit.int .u8 x).wf = true) (hn : -9223372036854775808 ≤ n ∧ n ≤ 9223372036854775807) :
    Makes Try.prog 4 #[.int .i64 to, .int .u64 seed, .agg #[.int .u8 x0, .int .u8 x1, .int .u8 x2, .int .u8 x3, .int .u8 x4, .int .u8 x5, .int .u8 x6, .int .u8 x7], .int .i64 n] w (.bool true) := by
  obtain ⟨y0, y1, y2, y3, y4, y5, y6, y7, ey⟩ : ∃ y0 y1 y2 y3 y4 y5 y6 y7, bytesM (nextM seed) = [y0, y1, y2, y3, y4, y5, y6, y7] := ⟨_, _, _, _, _, _, _, _, rfl⟩
  have hwy := wf_bytes (nextM seed)
  rw [ey] at hwy
  have HWX := Lib.hid hwx; have HWY := Lib.hid hwy
  have EY := Lib.hid ey
  obtain ⟨q, hqe⟩ : ∃ q, ([x0, x1, x2, x3, x4, x5, x6, x7] == [y0, y1, y2, y3, y4, y5, y6, y7]) = q := ⟨_, rfl⟩
  have HQE := Lib.hid hqe
  have hq : ∀ w, (Op.equalIn 10000 28 (.agg #[.int .u8 x0, .int .u8 x1, .int .u8 x2, .int .u8 x3, .int .u8 x4, .int .u8 x5, .int .u8 x6, .int .u8 x7]) (.agg #[.int .u8 y0, .int .u8 y1, .int .u8 y2, .int .u8 y3, .int .u8 y4, .int .u8 y5, .int .u8 y6, .int .u8 y7])).run Try.prog w = .ok q w := fun w => by
    have h := eqin_bytes w 28 8 Try.underlying28 [x0, x1, x2, x3, x4, x5, x6, x7] [y0, y1, y2, y3, y4, y5, y6, y7] rfl rfl hwx hwy
    rw [hqe] at h; exact h
  have hyy : ∀ w, (Op.equalIn 10000 28 (.agg #[.int .u8 y0, .int .u8 y1, .int .u8 y2, .int .u8 y3, .int .u8 y4, .int .u8 y5, .int .u8 y6, .int .u8 y7]) (.agg #[.int .u8 y0, .int .u8 y1, .int .u8 y2, .int .u8 y3, .int .u8 y4, .int .u8 y5, .int .u8 y6, .int .u8 y7])).run Try.prog w = .ok true w := fun w => by
    have h := eqin_bytes w 28 8 Try.underlying28 [y0, y1, y2, y3, y4, y5, y6, y7] [y0, y1, y2, y3, y4, y5, y6, y7] rfl rfl hwy hwy
    rw [beq_self_eq_true] at h; exact h
  have HYY := Lib.hid hyy
  clear hwx hwy ey hqe hyy
  go_enter Try.func4, Try.ntmps4
  go_wp2_with fail
  have hrow0 := heap_alloc_new w (.cells #[.int .u8 x0, .int .u8 x1, .int .u8 x2, .int .u8 x3, .int .u8 x4, .int .u8 x5, .int .u8 x6, .int .u8 x7] 28)
  have hb0 := (Below.refl w.heap.size w).alloc (Nat.le_refl _) (.cells #[.int .u8 x0, .int .u8 x1, .int .u8 x2, .int .u8 x3, .int .u8 x4, .int .u8 x5, .int .u8 x6, .int .u8 x7] 28)
  generalize w.alloc (.cells #[.int .u8 x0, .int .u8 x1, .int .u8 x2, .int .u8 x3, .int .u8 x4, .int .u8 x5, .int .u8 x6, .int .u8 x7] 28) = wa at hrow0 hb0 ⊢
  have hlt0 := lt_of_block hrow0
  have hge0 : w.heap.size ≤ wa.heap.size := hb0.size
  obtain ⟨g0, hg0⟩ : ∃ g0, w.heap.size = g0 := ⟨_, rfl⟩
  rw [hg0] at hrow0 hlt0 ⊢
  have HR0 := Lib.hid hrow0; have HB0 := Lib.hid hb0; clear hrow0 hb0
  go_wp2_with fail
  refine Calls.mono (new_any _ to false seed) ?_
  rintro e w1 ⟨rfl, hF⟩
  have hb1 := HB0.out.trans (hF.below.mono hge0)
  have hr0 := bl_row hF.below hlt0 HR0.out
  have hr1 : isPath w1 wa.heap.size to false seed 0 0 := hF.row
  obtain ⟨b, hb⟩ : ∃ b, wa.heap.size = b := ⟨_, rfl⟩
  rw [hb] at hr1 hlt0 hge0 ⊢
  clear HR0 HB0 hF hb
  have HR0 := Lib.hid hr0; have HB1 := Lib.hid hb1; have HR1 := Lib.hid hr1; clear hr0 hr1 hb1
  go_wp2_with fail
  refine Calls.mono (challenge_any _ _ _ _ _ _ _ HR1.out) ?_
  rintro e w2 ⟨rfl, hC⟩
  rw [EY.out]
  have hr0 := bl_row hC (lt_of_block HR0.out) HR0.out
  have hr1 : isPath w2 b to false seed 0 0 := bl_row hC (lt_of_block HR1.out) HR1.out
  have hb2 := HB1.out.trans (hC.mono HB1.out.size)
  clear HR0 HB1 HR1 hC
  have HR0 := Lib.hid hr0; have HB1 := Lib.hid hb2; have HR1 := Lib.hid hr1; clear hr0 hr1 hb2
  go_wp2_with fail
  have hrc := heap_alloc_new w2 (.cells #[.int .u8 y0, .int .u8 y1, .int .u8 y2, .int .u8 y3, .int .u8 y4, .int .u8 y5, .int .u8 y6, .int .u8 y7] 28)
  have hbc := (Below.refl w2.heap.size w2).alloc (Nat.le_refl _) (.cells #[.int .u8 y0, .int .u8 y1, .int .u8 y2, .int .u8 y3, .int .u8 y4, .int .u8 y5, .int .u8 y6, .int .u8 y7] 28)
  generalize w2.alloc (.cells #[.int .u8 y0, .int .u8 y1, .int .u8 y2, .int .u8 y3, .int .u8 y4, .int .u8 y5, .int .u8 y6, .int .u8 y7] 28) = W at hrc hbc ⊢
  have hr0 := bl_row hbc (lt_of_block HR0.out) HR0.out
  have hr1 : isPath W b to false seed 0 0 := bl_row hbc (lt_of_block HR1.out) HR1.out
  have hb3 := HB1.out.trans (hbc.mono HB1.out.size)
  have hgc : b < w2.heap.size := lt_of_block HR1.out
  obtain ⟨g, hg⟩ : ∃ g, w2.heap.size = g := ⟨_, rfl⟩
  rw [hg] at hrc hgc ⊢
  have hne0 : g0 ≠ b := by omega
  have hneg : g ≠ b := by omega
  have hce : ∀ s : In (fun w' => W.grownBy w' (some b)), ∀ i v, #[Value.int .u8 y0, Value.int .u8 y1, Value.int .u8 y2, Value.int .u8 y3, Value.int .u8 y4, Value.int .u8 y5, Value.int .u8 y6, Value.int .u8 y7][i]? = some v → s.w.cell? ⟨g, i, none⟩ = some v :=
    fun s i v hv => row_cell (grown_row s.h (by simpa using hneg) hrc) i v hv
  have hcx : ∀ s : In (fun w' => W.grownBy w' (some b)), ∀ i v, #[Value.int .u8 x0, Value.int .u8 x1, Value.int .u8 x2, Value.int .u8 x3, Value.int .u8 x4, Value.int .u8 x5, Value.int .u8 x6, Value.int .u8 x7][i]? = some v → s.w.cell? ⟨g0, i, none⟩ = some v :=
    fun s i v hv => row_cell (grown_row s.h (by simpa using hne0) hr0) i v hv
  have HCE := Lib.hid hce; have HCX := Lib.hid hcx
  have HB := Lib.hid (And.intro hb3 hge0)
  have HP := Lib.hid (At.base hr1)
  clear hce hcx hb3 HB1 HR1 HR0 hr0 hr1 hbc hgc hg hne0 hneg hrc hlt0 hge0
  go_wp2_with fail
  refine Calls.mono (within_any _ n 1 1073741824 (by omega) (by omega) (by omega) hn) ?_
  rintro e w2 ⟨rfl, rfl⟩
  have hm0 := within_in n 1 1073741824 (by omega)
  obtain ⟨m, hm⟩ : ∃ m, within n 1 1073741824 = m := ⟨_, rfl⟩
  rw [hm] at hm0 ⊢
  clear hm
  go_wp2_with fail
  refine Calls.mono (may_any _ _ _ _ _ _ _ _ (by omega) (by omega) HP.out.row) ?_
  rintro e w3 ⟨rfl, n3, rfl⟩
  rw [show mayM false 0 0 m = false by simp [mayM]; omega]
  have hS : At (W.drewN n3) b (pathRow to false seed 0 0) 41 W := HP.out.drewN n3
  generalize W.drewN n3 = W1 at hS ⊢
  cases q
  case' false =>
    have e0 : W1.cell? ⟨g, 0, none⟩ = some (.int .u8 y0) := HCE.out ⟨_, hS.rest⟩ 0 _ rfl
    have e1 : W1.cell? ⟨g, 1, none⟩ = some (.int .u8 y1) := HCE.out ⟨_, hS.rest⟩ 1 _ rfl
    have e2 : W1.cell? ⟨g, 2, none⟩ = some (.int .u8 y2) := HCE.out ⟨_, hS.rest⟩ 2 _ rfl
    have e3 : W1.cell? ⟨g, 3, none⟩ = some (.int .u8 y3) := HCE.out ⟨_, hS.rest⟩ 3 _ rfl
    have e4 : W1.cell? ⟨g, 4, none⟩ = some (.int .u8 y4) := HCE.out ⟨_, hS.rest⟩ 4 _ rfl
    have e5 : W1.cell? ⟨g, 5, none⟩ = some (.int .u8 y5) := HCE.out ⟨_, hS.rest⟩ 5 _ rfl
    have e6 : W1.cell? ⟨g, 6, none⟩ = some (.int .u8 y6) := HCE.out ⟨_, hS.rest⟩ 6 _ rfl
    have e7 : W1.cell? ⟨g, 7, none⟩ = some (.int .u8 y7) := HCE.out ⟨_, hS.rest⟩ 7 _ rfl
    have d0 : W1.cell? ⟨g0, 0, none⟩ = some (.int .u8 x0) := HCX.out ⟨_, hS.rest⟩ 0 _ rfl
    have d1 : W1.cell? ⟨g0, 1, none⟩ = some (.int .u8 x1) := HCX.out ⟨_, hS.rest⟩ 1 _ rfl
    have d2 : W1.cell? ⟨g0, 2, none⟩ = some (.int .u8 x2) := HCX.out ⟨_, hS.rest⟩ 2 _ rfl
    have d3 : W1.cell? ⟨g0, 3, none⟩ = some (.int .u8 x3) := HCX.out ⟨_, hS.rest⟩ 3 _ rfl
    have d4 : W1.cell? ⟨g0, 4, none⟩ = some (.int .u8 x4) := HCX.out ⟨_, hS.rest⟩ 4 _ rfl
    have d5 : W1.cell? ⟨g0, 5, none⟩ = some (.int .u8 x5) := HCX.out ⟨_, hS.rest⟩ 5 _ rfl
    have d6 : W1.cell? ⟨g0, 6, none⟩ = some (.int .u8 x6) := HCX.out ⟨_, hS.rest⟩ 6 _ rfl
    have d7 : W1.cell? ⟨g0, 7, none⟩ = some (.int .u8 x7) := HCX.out ⟨_, hS.rest⟩ 7 _ rfl
    have HS := Lib.hid hS; clear hS
    go_wp2_with fail
    clear e0 d0 e1 d1 e2 d2 e3 d3 e4 d4 e5 d5 e6 d6 e7 d7
    refine Calls.mono (response_any _ _ _ _ _ _ _ [x0, x1, x2, x3, x4, x5, x6, x7] rfl HWX.out HS.out.row) ?_
    rintro e w3 ⟨rfl, hA⟩
    rw [EY.out, HQE.out] at hA
    rw [EY.out, HQE.out]
    replace hS := HS.out.trans hA
    clear hA HS
    have HS := Lib.hid hS; clear hS
    go_wp2_with fail
    refine Calls.mono (known_any _ _ _ _ _ _ _ HS.out.row) ?_
    rintro e w4 ⟨rfl, rfl⟩
    go_wp2_with fail
    have hS := HS.out; clear HS
  case' true =>
    have e0 : W1.cell? ⟨g, 0, none⟩ = some (.int .u8 y0) := HCE.out ⟨_, hS.rest⟩ 0 _ rfl
    have e1 : W1.cell? ⟨g, 1, none⟩ = some (.int .u8 y1) := HCE.out ⟨_, hS.rest⟩ 1 _ rfl
    have e2 : W1.cell? ⟨g, 2, none⟩ = some (.int .u8 y2) := HCE.out ⟨_, hS.rest⟩ 2 _ rfl
    have e3 : W1.cell? ⟨g, 3, none⟩ = some (.int .u8 y3) := HCE.out ⟨_, hS.rest⟩ 3 _ rfl
    have e4 : W1.cell? ⟨g, 4, none⟩ = some (.int .u8 y4) := HCE.out ⟨_, hS.rest⟩ 4 _ rfl
    have e5 : W1.cell? ⟨g, 5, none⟩ = some (.int .u8 y5) := HCE.out ⟨_, hS.rest⟩ 5 _ rfl
    have e6 : W1.cell? ⟨g, 6, none⟩ = some (.int .u8 y6) := HCE.out ⟨_, hS.rest⟩ 6 _ rfl
    have e7 : W1.cell? ⟨g, 7, none⟩ = some (.int .u8 y7) := HCE.out ⟨_, hS.rest⟩ 7 _ rfl
    have d0 : W1.cell? ⟨g0, 0, none⟩ = some (.int .u8 x0) := HCX.out ⟨_, hS.rest⟩ 0 _ rfl
    have d1 : W1.cell? ⟨g0, 1, none⟩ = some (.int .u8 x1) := HCX.out ⟨_, hS.rest⟩ 1 _ rfl
    have d2 : W1.cell? ⟨g0, 2, none⟩ = some (.int .u8 x2) := HCX.out ⟨_, hS.rest⟩ 2 _ rfl
    have d3 : W1.cell? ⟨g0, 3, none⟩ = some (.int .u8 x3) := HCX.out ⟨_, hS.rest⟩ 3 _ rfl
    have d4 : W1.cell? ⟨g0, 4, none⟩ = some (.int .u8 x4) := HCX.out ⟨_, hS.rest⟩ 4 _ rfl
    have d5 : W1.cell? ⟨g0, 5, none⟩ = some (.int .u8 x5) := HCX.out ⟨_, hS.rest⟩ 5 _ rfl
    have d6 : W1.cell? ⟨g0, 6, none⟩ = some (.int .u8 x6) := HCX.out ⟨_, hS.rest⟩ 6 _ rfl
    have d7 : W1.cell? ⟨g0, 7, none⟩ = some (.int .u8 x7) := HCX.out ⟨_, hS.rest⟩ 7 _ rfl
    have HS := Lib.hid hS; clear hS
    go_wp2_with fail
    clear e0 d0 e1 d1 e2 d2 e3 d3 e4 d4 e5 d5 e6 d6 e7 d7
    have hS := HS.out; clear HS
    generalize W1 = w3 at hS ⊢
  all_goals
    clear HP hq
    have e0 : ∀ s : In (fun w' => W.grownBy w' (some b)), s.w.cell? ⟨g, 0, none⟩ = some (.int .u8 y0) := fun s => HCE.out s 0 _ rfl
    have e1 : ∀ s : In (fun w' => W.grownBy w' (some b)), s.w.cell? ⟨g, 1, none⟩ = some (.int .u8 y1) := fun s => HCE.out s 1 _ rfl
    have e2 : ∀ s : In (fun w' => W.grownBy w' (some b)), s.w.cell? ⟨g, 2, none⟩ = some (.int .u8 y2) := fun s => HCE.out s 2 _ rfl
    have e3 : ∀ s : In (fun w' => W.grownBy w' (some b)), s.w.cell? ⟨g, 3, none⟩ = some (.int .u8 y3) := fun s => HCE.out s 3 _ rfl
    have e4 : ∀ s : In (fun w' => W.grownBy w' (some b)), s.w.cell? ⟨g, 4, none⟩ = some (.int .u8 y4) := fun s => HCE.out s 4 _ rfl
    have e5 : ∀ s : In (fun w' => W.grownBy w' (some b)), s.w.cell? ⟨g, 5, none⟩ = some (.int .u8 y5) := fun s => HCE.out s 5 _ rfl
    have e6 : ∀ s : In (fun w' => W.grownBy w' (some b)), s.w.cell? ⟨g, 6, none⟩ = some (.int .u8 y6) := fun s => HCE.out s 6 _ rfl
    have e7 : ∀ s : In (fun w' => W.grownBy w' (some b)), s.w.cell? ⟨g, 7, none⟩ = some (.int .u8 y7) := fun s => HCE.out s 7 _ rfl
    refine wp_plan (.t 0 (.t 1 (.u 2 (.t 3 (.t 4 (.u 5 (.t 6 (.t 7 (.t 8 (.t 9 (.u 10 (.t 11 (.t 12 (.t 13 (.t 14 (.t 15 (.u 16 (.t 17 (.t 18 (.t 19 (.t 20 (.t 22 (.u 21 (.u 23 (.t 24 (.t 25 (.u 26 (.t 27 (.t 28 .done)))))))))))))))))))))))))))))
      (fun w' => W.grownBy w' (some b)) (by kernel_rfl) (by kernel_rfl) (by kernel_rfl) (fun c a d v w h => by cases d <;> exact h) (grown_trans hS.rest (grown_drew _ _)) ?_
    replace hS : At w3.drew b (pathRow to false seed 0 0) 41 W := ⟨hS.row, grown_trans hS.rest (grown_drew _ _)⟩
    generalize w3.drew = W2 at hS ⊢
    haveI hne : Nonempty (In fun w' => W.grownBy w' (some b)) := ⟨⟨W, grown_refl _ _⟩⟩
    repeat (refine plan_t (by rfl) ?_; (first | go_big_quiet_skip | (go_big_quiet_want; go_big_quiet_op; go_big_quiet_on)); refine wpQuiet_nil ?_)
    refine plan_us (by rfl) (by kernel_rfl) ?_
    intro K hK
    go_wp2_with fail
    refine Calls.mono (response_any _ _ _ _ _ _ _ [y0, y1, y2, y3, y4, y5, y6, y7] rfl HWY.out hS.row) ?_
    rintro e w4 ⟨rfl, hA⟩
    rw [EY.out, beq_self_eq_true] at hA
    rw [EY.out, beq_self_eq_true]
    replace hS := hS.trans hA; clear hA
    go_wp2_with fail
    refine ⟨hS.rest, ?_⟩
    repeat (refine plan_t (by rfl) ?_; (first | go_big_quiet_skip | (go_big_quiet_want; go_big_quiet_op; go_big_quiet_on)); refine wpQuiet_nil ?_)
    refine plan_us (by rfl) (by kernel_rfl) ?_
    intro K hK
    go_wp2_with fail
    refine Calls.mono (known_any _ _ _ _ _ _ _ hS.row) ?_
    rintro e w5 ⟨rfl, rfl⟩
    go_wp2_with fail
    refine ⟨hS.rest, ?_⟩
    repeat (refine plan_t (by rfl) ?_; (first | go_big_quiet_skip | (go_big_quiet_want; go_big_quiet_op; go_big_quiet_on)); refine wpQuiet_nil ?_)
    refine plan_us (by rfl) (by kernel_rfl) ?_
    intro K hK
    go_wp2_with fail
    refine Calls.mono (may_any _ _ _ _ _ _ _ _ (by omega) (by omega) hS.row) ?_
    rintro e w5 ⟨rfl, n5, rfl⟩
    rw [show mayM (false || true) 0 0 m = true by simp [mayM]; omega]
    replace hS := hS.drewN n5
    generalize w4.drewN n5 = w4a at hS ⊢
    go_wp2_with fail
    refine ⟨hS.rest, ?_⟩
    repeat (refine plan_t (by rfl) ?_; (first | go_big_quiet_skip | (go_big_quiet_want; go_big_quiet_op; go_big_quiet_on)); refine wpQuiet_nil ?_)
    refine plan_us (by rfl) (by kernel_rfl) ?_
    intro K hK
    go_wp2_with fail
    refine Calls.mono (may_any _ _ _ _ _ _ _ _ (by omega) (by omega) hS.row) ?_
    rintro e w5 ⟨rfl, n6, rfl⟩
    rw [show mayM (false || true) 0 0 (-m) = false by simp [mayM]; omega]
    replace hS := hS.drewN n6
    generalize w4a.drewN n6 = w4b at hS ⊢
    go_wp2_with fail
    refine ⟨hS.rest, ?_⟩
    repeat (refine plan_t (by rfl) ?_; (first | go_big_quiet_skip | (go_big_quiet_want; go_big_quiet_op; go_big_quiet_on)); refine wpQuiet_nil ?_)
    refine plan_us (by rfl) (by kernel_rfl) ?_
    intro K hK
    go_wp2_with fail
    refine Calls.mono (challenge_any _ _ _ _ _ _ _ hS.row) ?_
    rintro e w5 ⟨rfl, hC⟩
    rw [EY.out]
    replace hS := hS.below hC; clear hC
    go_wp2_with fail
    refine ⟨hS.rest, ?_⟩
    have hyy := HYY.out
    refine plan_us (by rfl) (by kernel_rfl) ?_
    intro K hK
    go_wp2_with fail
    refine ⟨hS.rest, ?_⟩
    clear hyy
    repeat (refine plan_t (by rfl) ?_; (first | go_big_quiet_skip | (go_big_quiet_want; go_big_quiet_op; go_big_quiet_on)); refine wpQuiet_nil ?_)
    refine plan_us (by rfl) (by kernel_rfl) ?_
    intro K hK
    go_wp2_with fail
    refine Calls.mono (known21_any _) ?_
    rintro e w6 ⟨rfl, hC⟩
    replace hS := hS.below hC; clear hC
    go_wp2_with fail
    refine ⟨hS.rest, ?_⟩
    repeat (refine plan_t (by rfl) ?_; (first | go_big_quiet_skip | (go_big_quiet_want; go_big_quiet_op; go_big_quiet_on)); refine wpQuiet_nil ?_)
    show Exit.then _ _ _ _ _
    go_wp2_with fail
    go_ret
    exact ⟨rfl, HB.out.1.trans (hS.bl HB.out.2 HB.out.1.size)⟩
theorem knows21_list (w : World) (to seed n : Int) (xs : List Int) (hl : xs.length = 8) (hwx : ∀ x ∈ xs, (Lit.int .u8 x).wf = true) (hn : (Lit.int .i64 n).wf = true) :
    Makes Try.prog 4 #[.int .i64 to, .int .u64 seed, .agg (xs.map (Value.int .u8)).toArray, .int .i64 n] w (.bool true) := by
  match xs, hl with
  | [x0, x1, x2, x3, x4, x5, x6, x7], _ => exact knows21_any w to seed n x0 x1 x2 x3 x4 x5 x6 x7 hwx (i64_bounds hn)
end Go.Proofs.Ytdckjaganpincaa
