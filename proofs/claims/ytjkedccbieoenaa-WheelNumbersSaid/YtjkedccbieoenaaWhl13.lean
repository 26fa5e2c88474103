/- wheel: the sort's closure. -/
import Derived.Test.YtjkedccbieoenaaWhl12
namespace Go.Proofs.Ytjkedccbieoenaa
open Go.RowKit Go.Shelf Go.Sort
set_option linter.unusedVariables false
set_option linter.unusedSimpArgs false

def cfT (x y : Tm) : Int := if cmpI x.2 y.2 = 0 then cmpI x.1 y.1 else cmpI x.2 y.2
set_option maxRecDepth 100000 in
set_option maxHeartbeats 4000000 in
theorem less_any (x y : Tm) (W : World) : Calls Try.prog 21 #[.agg (tmV x).toArray, .agg (tmV y).toArray] W fun e w' => e = .returned (.int .i64 (cfT x y)) ∧ ∃ q os', w' = grow (W.drewN q) os' := by
  have hal1 := (Below.refl W.heap.size W).alloc (Nat.le_refl _) (.cells (tmV x).toArray 53)
  have hs1 : (W.alloc (.cells (tmV x).toArray 53)).heap.size = W.heap.size + 1 := by simp
  have hal2 := (Below.refl (W.alloc (.cells (tmV x).toArray 53)).heap.size (W.alloc (.cells (tmV x).toArray 53))).alloc (Nat.le_refl _) (.cells (tmV y).toArray 53)
  have hr1 := bl_row hal2 (lt_of_block (heap_alloc_new W (.cells (tmV x).toArray 53))) (heap_alloc_new W (.cells (tmV x).toArray 53))
  have hr2 := heap_alloc_new (W.alloc (.cells (tmV x).toArray 53)) (.cells (tmV y).toArray 53)
  rw [hs1] at hr2
  have HG : Hid (∀ o : Obj, (((W.alloc (.cells (tmV x).toArray 53)).alloc (.cells (tmV y).toArray 53)).drew).alloc o = grow (W.drewN 1) #[.cells (tmV x).toArray 53, .cells (tmV y).toArray 53, o]) := Lib.hid (fun o => by rw [alloc_eq_grow, alloc_eq_grow, alloc_eq_grow, drew_grow, drew_grow, grow_grow, grow_grow]; rfl)
  have H64 := Lib.hid (fun w => cmp64_any w x.2 y.2); have HI := Lib.hid (fun w => cmpI_any w x.1 y.1)
  have HCF : Hid (cfT x y = if cmpI x.2 y.2 = 0 then cmpI x.1 y.1 else cmpI x.2 y.2) := Lib.hid rfl
  generalize cfT x y = r at HCF ⊢
  have hv1 : (tmV x)[0]? = some (.int .i64 x.1) ∧ (tmV x)[1]? = some (.int .i64 x.2) := ⟨rfl, rfl⟩
  have hv2 : (tmV y)[0]? = some (.int .i64 y.1) ∧ (tmV y)[1]? = some (.int .i64 y.2) := ⟨rfl, rfl⟩
  generalize tmV x = X at *
  generalize tmV y = Y at *
  obtain ⟨i1, t1⟩ := x; obtain ⟨i2, t2⟩ := y
  simp only at *
  generalize cmpI t1 t2 = a at H64 HCF
  generalize cmpI i1 i2 = b at HI HCF
  go_enter Try.func21, Try.ntmps21
  go_upto_region 1 with fail
  have HGG : Hid (∀ o : Obj, ((W.alloc (.cells X.toArray 53)).alloc (.cells Y.toArray 53)).drew.alloc o = grow (W.drewN 1) #[.cells X.toArray 53, .cells Y.toArray 53, o]) := HG
  clear HG hal1 hal2 hs1
  change Code.wp _ _ _ _ ((W.alloc (.cells X.toArray 53)).alloc (.cells Y.toArray 53))
  generalize (W.alloc (.cells X.toArray 53)).alloc (.cells Y.toArray 53) = W2 at hr1 hr2 HGG ⊢
  generalize W.heap.size = gx at hr1 hr2 ⊢
  have f1 : ∀ z : In (fun z => Below W2.heap.size W2 z), z.w.cell? ⟨gx, 0, none⟩ = some (.int .i64 i1) := fun z => cell_row (bl_row z.h (lt_of_block hr1) hr1) 0 _ hv1.1
  have f2 : ∀ z : In (fun z => Below W2.heap.size W2 z), z.w.cell? ⟨gx, 1, none⟩ = some (.int .i64 t1) := fun z => cell_row (bl_row z.h (lt_of_block hr1) hr1) 1 _ hv1.2
  have f3 : ∀ z : In (fun z => Below W2.heap.size W2 z), z.w.cell? ⟨gx + 1, 0, none⟩ = some (.int .i64 i2) := fun z => cell_row (bl_row z.h (lt_of_block hr2) hr2) 0 _ hv2.1
  have f4 : ∀ z : In (fun z => Below W2.heap.size W2 z), z.w.cell? ⟨gx + 1, 1, none⟩ = some (.int .i64 t2) := fun z => cell_row (bl_row z.h (lt_of_block hr2) hr2) 1 _ hv2.2
  refine wp_plan (.t 0 (.t 1 (.t 2 (.t 3 (.t 5 (.t 6 (.t 7 (.t 8 (.u 4 (.u 9 (.u 10 (.u 11 (.t 12 .done))))))))))))) (fun z => Below W2.heap.size W2 z) (by kernel_rfl) (by kernel_rfl) (by kernel_rfl) (fun c a d v w h => by cases d <;> exact h) (Below.refl _ _).drew ?_
  have hS : (fun z => Below W2.heap.size W2 z) W2.drew := (Below.refl _ _).drew
  haveI hne : Nonempty (In (fun z => Below W2.heap.size W2 z)) := ⟨⟨W2, Below.refl _ _⟩⟩
  repeat (first | (refine plan_t (by rfl) ?_; (first | go_big_quiet_skip | (go_big_quiet_want; go_big_quiet_op; go_big_quiet_on)); refine wpQuiet_nil ?_))
  clear f1 f2 f3 f4
  generalize W2.drew = W3 at hS HGG ⊢
  refine plan_us (by rfl) (by kernel_rfl) ?_
  intro K hK
  go_wp2_with fail
  refine Calls.mono (H64.out _) ?_
  rintro e wq ⟨rfl, rfl⟩
  go_wp2_with fail
  refine ⟨hS, ?_⟩
  refine plan_us (by rfl) (by kernel_rfl) ?_
  intro K hK
  go_wp2_with fail
  refine Calls.mono (HI.out _) ?_
  rintro e wq ⟨rfl, rfl⟩
  go_wp2_with fail
  refine ⟨hS, ?_⟩
  refine plan_us (by rfl) (by kernel_rfl) ?_
  intro K hK
  go_wp2_with fail
  have hal := (Below.refl W3.heap.size W3).alloc (Nat.le_refl _) (.cells #[.int .i64 a, .int .i64 b] 3)
  have hrc := heap_alloc_new W3 (.cells #[.int .i64 a, .int .i64 b] 3)
  have HG4 := Lib.hid (HGG.out (.cells #[.int .i64 a, .int .i64 b] 3))
  have hS4 := bl_next hS hS.size hal
  refine ⟨hS4, ?_⟩
  clear HGG hal hS
  generalize W3.alloc (.cells #[.int .i64 a, .int .i64 b] 3) = W4 at hS4 hrc HG4 ⊢
  generalize W3.heap.size = gs at hrc ⊢
  refine plan_us (by rfl) (by kernel_rfl) ?_
  intro K hK
  go_wp2_with fail
  refine Calls.mono (or_any W4 gs a b (row_cell hrc 0 _ rfl) (row_cell hrc 1 _ rfl)) ?_
  rintro e wq ⟨rfl, rfl⟩
  rw [← HCF.out]
  go_wp2_with fail
  refine ⟨hS4, ?_⟩
  repeat (first | (refine plan_t (by rfl) ?_; (first | go_big_quiet_skip | (go_big_quiet_want; go_big_quiet_op; go_big_quiet_on)); refine wpQuiet_nil ?_))
  clear hne
  show Exit.then _ _ _ _ _
  go_wp2_with fail
  go_ret
  exact ⟨rfl, 1, _, HG4.out⟩
theorem cfT_lt (x y : Tm) : ltOf cfT x y = decide (x.2 < y.2 ∨ (x.2 = y.2 ∧ x.1 < y.1)) := by
  unfold ltOf cfT cmpI
  congr 1
  simp only [eq_iff_iff]
  constructor
  · intro h; (repeat' split at h) <;> omega
  · intro h; (repeat' split) <;> omega
theorem swoT : SWO (ltOf cfT) where
  irrefl x := by rw [cfT_lt]; simp
  trans x y z h1 h2 := by rw [cfT_lt] at *; simp at *; omega
  ntrans x y z h1 h2 := by rw [cfT_lt] at *; simp at *; omega
theorem totT (x y : Tm) (h1 : ltOf cfT x y = false) (h2 : ltOf cfT y x = false) : x = y := by
  rw [cfT_lt] at *
  simp only [decide_eq_false_iff_not] at h1 h2
  have e1 : x.2 = y.2 := by omega
  have e2 : x.1 = y.1 := by omega
  exact Prod.ext e2 e1
theorem lays_less (blk off size : Nat) (w : World) : CmpLays Try.prog 21 #[] tmV 2 cfT blk off size w :=
  fun _ _ _ _ x y => less_any x y _
end Go.Proofs.Ytjkedccbieoenaa
