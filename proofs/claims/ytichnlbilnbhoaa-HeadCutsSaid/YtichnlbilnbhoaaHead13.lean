/- heads: the law's encodes. -/
import Derived.Test.YtichnlbilnbhoaaHead12
namespace Go.Proofs.Ytichnlbilnbhoaa
open Go.RowKit
set_option linter.unusedVariables false

section
variable {P : Program} {Q : Exit → Act → World → Prop}
/-- a whole struct, read in a region that draws its order. -/
theorem plan_t_load {l : List Oper} {k : Nat} {p : Plan} {S : World → Prop} {a : Act} {w : World} {o : Oper} (ho : l[k]? = some o) (hw : Region.wanted o (yielded l.toArray a.tmps) = true) (ty : TypeId) (x : Operand) (hop : o.op = .load ty x)
    (g off : Nat) (hx : a.eval x = .pointer (some ⟨g, off, none⟩)) (cs : List Value) (d : TypeDesc) (hS : ∀ w, S w → w.rangeAt g off cs) (hu : P.underlying ty = some d) (hd : d.isRow = true) (hi : (P.info? ty).map (·.size) = some cs.length)
    (h : p.wp P l.toArray Q S (a.put o.dst (.agg cs.toArray)) w) : (Plan.t k p).wp P l.toArray Q S a w := by
  refine ⟨o, by simpa using ho, wpQuiet_step fun K hK => ?_⟩
  rw [if_pos hw]
  refine ⟨.agg cs.toArray, fun y hy => ?_, hK _ (wpQuiet_nil h)⟩
  obtain ⟨s, rfl⟩ := hy
  unfold Oper.quietAt execOp
  simp only [hop, hx, Instr.loadAt, Instr.sureAddr, Sem.run_bind, Sem.run_pure, Result.andThen_ok, run_loadVar_mid s.w g off ty cs d (hS s.w s.h) hu hd hi]
  exact ⟨rfl, rfl⟩
end
theorem wpList_load_g {P : Program} {ops : Array Oper} {rest : List Oper} {op : Oper} {a : Act} {w : World} {Q : Exit → Act → World → Prop} (ty : TypeId) (x : Operand) (ho : op.op = .load ty x) (hw : Region.wanted op (yielded ops a.tmps) = true)
    (b o : Nat) (hx : a.eval x = .pointer (some ⟨b, o, none⟩)) (cs : List Value) (d : TypeDesc) (hc : w.rangeAt b o cs)
    (hu : P.underlying ty = some d) (hd : d.isRow = true) (hi : (P.info? ty).map (·.size) = some cs.length)
    (h : wpList P ops Q rest (a.put op.dst (.agg cs.toArray)) w) : wpList P ops Q (op :: rest) a w :=
  wpList_step fun K hK => by rw [if_pos hw]; exact wp_load_mid ty x ho b o hx cs d hc hu hd hi (hK _ _ h)
theorem rngL {w : World} {g : Nat} {t : TypeId} {cs : List Value} (h : w.heap[g]? = some (.cells cs.toArray t (0, 0))) : w.rangeAt g 0 cs :=
  fun j v hv => by rw [Nat.zero_add]; exact row_cell h j v (by simpa using hv)

set_option maxRecDepth 100000 in
set_option maxHeartbeats 8000000 in
theorem encodes5_core (w : World) (RW : List Value) (wd n : Int) (L : Nat) (r : Bool) (hn : -9223372036854775808 ≤ n ∧ n ≤ 9223372036854775807) (hw : r = true → 1 ≤ wd ∧ wd ≤ 4)
    (HRL : Hid (RW.length = 20)) (HR1 : Hid (∀ v ∈ RW, v.oneCell' = true)) (HW18 : Hid (RW[18]? = some (.int .i64 wd)))
    (E : Int → List Int) (hEl : L ≤ 1000) (HEL : Hid (∀ n, (E n).length = L)) (HEW : Hid (r = true → ∀ n, 0 ≤ n ∧ n ≤ 16383 → ∀ x ∈ E n, (Lit.int .u8 x).wf = true))
    (HEN : Hid (∀ w1, Below w.heap.size w w1 → Calls Try.prog 13 #[.agg RW.toArray, .int .i64 n] w1 fun e w' => Below w1.heap.size w1 w' ∧
      ((r = true ∧ wd ≤ n ∧ n ≤ 16383 ∧ ∃ a cap, e = .returned (.tuple #[.slice a L cap, .int .i64 0]) ∧ IntsK .u8 w' a L (E n)) ∨
       (¬ (r = true ∧ wd ≤ n ∧ n ≤ 16383) ∧ e = .returned (.tuple #[.slice none 0 0, .int .i64 1])))))
    (HRI : Hid (∀ w1, Makes Try.prog 19 #[.agg RW.toArray] w1 (.bool r)))
    (HRR : Hid (∀ w1, Makes Try.prog 20 #[.agg RW.toArray] w1 (.bool r)))
    (HSZ : Hid (∀ w1, Below w.heap.size w w1 → Makes Try.prog 21 #[.agg RW.toArray] w1 (.int .i64 (if r = true then (L : Int) else 0))))
    (HRE : Hid (r = true → ∀ w1 n, Below w.heap.size w w1 → 0 ≤ n ∧ n ≤ 16383 → Calls Try.prog 9 #[.agg RW.toArray, .int .i64 n] w1 fun e w' => ∃ v, e = .returned v ∧ Below w1.heap.size w1 w' ∧ w'.ownsRow w1.heap.size 5 1 v L ((E n).map (Value.int .u8)))) :
    Makes Try.prog 10 #[.agg RW.toArray, .int .i64 n] w (.bool true) := by
  go_enter Try.func10, Try.ntmps10
  go_upto_region 1 with fail
  have hbA := (Below.refl w.heap.size w).alloc (Nat.le_refl _) (.cells RW.toArray 28)
  have HR := Lib.hid (heap_alloc_new w (.cells RW.toArray 28))
  have HB := Lib.hid hbA
  generalize w.alloc (.cells RW.toArray 28) = W at HR HB ⊢
  obtain ⟨g, hg⟩ : ∃ g, w.heap.size = g := ⟨_, rfl⟩
  rw [hg] at HR ⊢
  have HG := Lib.hid hg
  clear hg hbA
  go_wp2_with (first | (refine wpList_load_g 28 _ rfl (by kernel_rfl) g 0 rfl RW _ (rngL HR.out) Try.underlying28 rfl (by rw [HRL.out]; rfl) ?_) | fail)
  refine Calls.mono (HEN.out _ HB.out) ?_
  rintro e w1 ⟨hb, hcase⟩
  replace HR := Lib.hid (bl_row hb (lt_of_block HR.out) HR.out)
  replace HB := Lib.hid (bl_next HB.out HB.out.size hb)
  clear hb
  have hgl := lt_of_block HR.out
  cases r with
  | false =>
    obtain rfl : e = .returned (.tuple #[.slice none 0 0, .int .i64 1]) := by
      rcases hcase with h | h
      · cases h.1
      · exact h.2
    clear hcase hw
    go_upto_region 2 with fail
    refine wp_plan (.t 0 (.t 2 (.u 1 (.u 3 (.t 4 .done))))) (fun y => Below w1.heap.size w1 y) (by kernel_rfl) (by kernel_rfl) (by kernel_rfl) (fun c a d v w h => by cases d <;> exact h) (Below.refl _ _).drew ?_
    have hS : Below w1.heap.size w1 w1.drew := (Below.refl _ _).drew
    haveI hne : Nonempty (In fun y => Below w1.heap.size w1 y) := ⟨⟨w1, Below.refl _ _⟩⟩
    generalize w1.drew = w2 at hS ⊢
    refine plan_t_load (by rfl) (by kernel_rfl) 28 _ rfl g 0 rfl RW _ (fun y hy => rngL (bl_row hy hgl HR.out)) Try.underlying28 rfl (by rw [HRL.out]; rfl) ?_
    simp only [Act.put, List.setIfInBounds_toArray, List.set_cons_succ, List.set_cons_zero]
    refine plan_t_load (by rfl) (by kernel_rfl) 28 _ rfl g 0 rfl RW _ (fun y hy => rngL (bl_row hy hgl HR.out)) Try.underlying28 rfl (by rw [HRL.out]; rfl) ?_
    simp only [Act.put, List.setIfInBounds_toArray, List.set_cons_succ, List.set_cons_zero]
    refine plan_us (by rfl) (by kernel_rfl) ?_
    intro K hK
    go_wp2_with fail
    refine Calls.mono (HRI.out _) ?_
    rintro e w3 ⟨rfl, hb⟩
    replace hS := bl_next hS hS.size hb
    clear hb
    go_wp2_with fail
    refine ⟨hS, ?_⟩
    refine plan_us (by rfl) (by kernel_rfl) ?_
    intro K hK
    go_wp2_with fail
    refine Calls.mono (HRR.out _) ?_
    rintro e w4 ⟨rfl, hb⟩
    replace hS := bl_next hS hS.size hb
    clear hb
    go_wp2_with fail
    refine ⟨hS, ?_⟩
    repeat (refine plan_t (by rfl) ?_; (first | go_big_quiet_skip | (go_big_quiet_want; go_big_quiet_op; go_big_quiet_on)); refine wpQuiet_nil ?_)
    clear hne
    replace HR := Lib.hid (bl_row hS hgl HR.out)
    replace HB := Lib.hid (bl_next HB.out HB.out.size hS)
    clear hS hgl
    show Exit.then _ _ _ _ _
    go_wp2_with (first | (refine wpList_load_g 28 _ rfl (by kernel_rfl) g 0 rfl RW _ (rngL HR.out) Try.underlying28 rfl (by rw [HRL.out]; rfl) ?_) | fail)
    refine Calls.mono (HRR.out _) ?_
    rintro e w5 ⟨rfl, hb⟩
    replace HR := Lib.hid (bl_row hb (lt_of_block HR.out) HR.out)
    replace HB := Lib.hid (bl_next HB.out HB.out.size hb)
    clear hb
    go_wp2_with (first | (refine wpList_load_g 28 _ rfl (by kernel_rfl) g 0 rfl RW _ (rngL HR.out) Try.underlying28 rfl (by rw [HRL.out]; rfl) ?_) | fail)
    refine Calls.mono (HSZ.out _ HB.out) ?_
    rintro e w6 ⟨rfl, hb⟩
    replace HB := Lib.hid (bl_next HB.out HB.out.size hb)
    clear hb
    go_wp2_with fail
    (try go_ret)
    first
      | exact ⟨rfl, HB.out⟩
  | true =>
    have hw14 := hw rfl
    have HC : Hid ((wd ≤ n ∧ n ≤ 16383 ∧ ∃ a cap, e = .returned (.tuple #[.slice a L cap, .int .i64 0]) ∧ IntsK .u8 w1 a L (E n)) ∨ (¬ (wd ≤ n ∧ n ≤ 16383) ∧ e = .returned (.tuple #[.slice none 0 0, .int .i64 1]))) := Lib.hid (by
      rcases hcase with h | h
      · exact .inl h.2
      · exact .inr ⟨fun k => h.1 ⟨rfl, k⟩, h.2⟩)
    replace HRE := Lib.hid (HRE.out rfl); replace HEW := Lib.hid (HEW.out rfl)
    replace HSZ : Hid (∀ w1, Below w.heap.size w w1 → Makes Try.prog 21 #[.agg RW.toArray] w1 (.int .i64 L)) := Lib.hid (fun w1 h => by have h2 := HSZ.out w1 h; rw [if_pos rfl] at h2; exact h2)
    clear hcase hw
    rcases HC.out with ⟨hwn, hnm, a, cap, rfl, hIE⟩ | ⟨hno, rfl⟩
    · clear HC
      have HIE := Lib.hid hIE
      clear hIE
      go_upto_region 2 with fail
      refine wp_plan (.t 0 (.t 2 (.u 1 (.u 3 (.t 4 .done))))) (fun y => Below w1.heap.size w1 y) (by kernel_rfl) (by kernel_rfl) (by kernel_rfl) (fun c a d v w h => by cases d <;> exact h) (Below.refl _ _).drew ?_
      have hS : Below w1.heap.size w1 w1.drew := (Below.refl _ _).drew
      haveI hne : Nonempty (In fun y => Below w1.heap.size w1 y) := ⟨⟨w1, Below.refl _ _⟩⟩
      generalize w1.drew = w2 at hS ⊢
      refine plan_t_load (by rfl) (by kernel_rfl) 28 _ rfl g 0 rfl RW _ (fun y hy => rngL (bl_row hy hgl HR.out)) Try.underlying28 rfl (by rw [HRL.out]; rfl) ?_
      simp only [Act.put, List.setIfInBounds_toArray, List.set_cons_succ, List.set_cons_zero]
      refine plan_t_load (by rfl) (by kernel_rfl) 28 _ rfl g 0 rfl RW _ (fun y hy => rngL (bl_row hy hgl HR.out)) Try.underlying28 rfl (by rw [HRL.out]; rfl) ?_
      simp only [Act.put, List.setIfInBounds_toArray, List.set_cons_succ, List.set_cons_zero]
      refine plan_us (by rfl) (by kernel_rfl) ?_
      intro K hK
      go_wp2_with fail
      refine Calls.mono (HRI.out _) ?_
      rintro e w3 ⟨rfl, hb⟩
      replace hS := bl_next hS hS.size hb
      clear hb
      go_wp2_with fail
      refine ⟨hS, ?_⟩
      refine plan_us (by rfl) (by kernel_rfl) ?_
      intro K hK
      go_wp2_with fail
      refine Calls.mono (HRR.out _) ?_
      rintro e w4 ⟨rfl, hb⟩
      replace hS := bl_next hS hS.size hb
      clear hb
      go_wp2_with fail
      refine ⟨hS, ?_⟩
      repeat (refine plan_t (by rfl) ?_; (first | go_big_quiet_skip | (go_big_quiet_want; go_big_quiet_op; go_big_quiet_on)); refine wpQuiet_nil ?_)
      clear hne
      replace HR := Lib.hid (bl_row hS hgl HR.out)
      replace HB := Lib.hid (bl_next HB.out HB.out.size hS)
      replace HIE := Lib.hid (HIE.out.below hS)
      clear hS hgl
      show Exit.then _ _ _ _ _
      go_wp2_with (first | (refine wpList_load_g 28 _ rfl (by kernel_rfl) g 0 rfl RW _ (rngL HR.out) Try.underlying28 rfl (by rw [HRL.out]; rfl) ?_) | fail)
      refine Calls.mono (HRR.out _) ?_
      rintro e w5 ⟨rfl, hb⟩
      replace HR := Lib.hid (bl_row hb (lt_of_block HR.out) HR.out)
      replace HB := Lib.hid (bl_next HB.out HB.out.size hb)
      replace HIE := Lib.hid (HIE.out.below hb)
      clear hb
      go_wp2_with (first | (refine wpList_load_g 28 _ rfl (by kernel_rfl) g 0 rfl RW _ (rngL HR.out) Try.underlying28 rfl (by rw [HRL.out]; rfl) ?_) | fail)
      refine Calls.mono (HRE.out _ 20 HB.out (by omega)) ?_
      rintro e w6 ⟨v6, rfl, hb, ho⟩
      obtain ⟨b6, cp6, rfl, hcp6⟩ := own_slice ho
      replace HR := Lib.hid (bl_row hb (lt_of_block HR.out) HR.out)
      replace HB := Lib.hid (bl_next HB.out HB.out.size hb)
      replace HIE := Lib.hid (HIE.out.below hb)
      clear hb ho hcp6
      go_wp2_with (first | (refine wpList_load_g 28 _ rfl (by kernel_rfl) g 0 rfl RW _ (rngL HR.out) Try.underlying28 rfl (by rw [HRL.out]; rfl) ?_) | fail)
      refine Calls.mono (HSZ.out _ HB.out) ?_
      rintro e w7 ⟨rfl, hb⟩
      replace HR := Lib.hid (bl_row hb (lt_of_block HR.out) HR.out)
      replace HB := Lib.hid (bl_next HB.out HB.out.size hb)
      replace HIE := Lib.hid (HIE.out.below hb)
      clear hb
      by_cases h1 : n < wd
      · exact absurd h1 (by omega)
      · by_cases h2 : 16383 < n
        · exact absurd h2 (by omega)
        · have c18 := row_cell HR.out 18 _ (by rw [List.getElem?_toArray]; exact HW18.out)
          go_upto_region 11 with fail
          clear c18
          have hgl := lt_of_block HR.out
          have hcv : ∀ s : In (fun y => Below w7.heap.size w7 y), (convert 22 9 (.slice a L cap)).run Try.prog s.w = .ok (.string (strOfNums (E n))) s.w := fun s => conv_ints _ 5 _ _ Try.underlying22 Try.underlying5 Try.underlying9 (HIE.out.below s.h)
          refine wp_plan (.t 0 (.t 1 (.t 2 (.t 3 (.t 4 (.t 5 (.t 6 (.u 7 (.t 8 (.t 9 (.t 10 (.t 11 .done)))))))))))) (fun y => Below w7.heap.size w7 y) (by kernel_rfl) (by kernel_rfl) (by kernel_rfl) (fun c a d v w h => by cases d <;> exact h) (Below.refl _ _).drew ?_
          have hS : Below w7.heap.size w7 w7.drew := (Below.refl _ _).drew
          haveI hne : Nonempty (In fun y => Below w7.heap.size w7 y) := ⟨⟨w7, Below.refl _ _⟩⟩
          generalize w7.drew = w8 at hS ⊢
          iterate 5 (refine plan_t (by rfl) ?_; (first | go_big_quiet_skip | (go_big_quiet_want; go_big_quiet_op; go_big_quiet_on)); refine wpQuiet_nil ?_)
          clear hcv
          refine plan_t_load (by rfl) (by kernel_rfl) 28 _ rfl g 0 rfl RW _ (fun y hy => rngL (bl_row hy hgl HR.out)) Try.underlying28 rfl (by rw [HRL.out]; rfl) ?_
          simp only [Act.put, List.setIfInBounds_toArray, List.set_cons_succ, List.set_cons_zero]
          repeat (refine plan_t (by rfl) ?_; (first | go_big_quiet_skip | (go_big_quiet_want; go_big_quiet_op; go_big_quiet_on)); refine wpQuiet_nil ?_)
          refine plan_un (by rfl) (by kernel_rfl) ?_
          intro K hK
          go_wp2_with fail
          refine Calls.mono (HRE.out _ n (bl_next HB.out HB.out.size hS) (by omega)) ?_
          rintro e w9 ⟨v9, rfl, hb, ho⟩
          obtain ⟨b9, cp9, rfl, hcp9, hi9, _⟩ := ints_of_own ho (HEW.out n (by omega))
          replace hS := bl_next hS hS.size hb
          have HI9 := Lib.hid hi9
          clear hb ho hi9 hcp9 hne
          go_wp2_with fail
          refine ⟨fun y => Below w9.heap.size w9 y, fun y hy => bl_next hS hS.size hy, Below.refl _ _, ?_⟩
          have hcv : ∀ s : In (fun y => Below w9.heap.size w9 y), (convert 22 9 (.slice b9 L cp9)).run Try.prog s.w = .ok (.string (strOfNums (E n))) s.w := fun s => conv_ints _ 5 _ _ Try.underlying22 Try.underlying5 Try.underlying9 (HI9.out.below s.h)
          haveI hne : Nonempty (In fun y => Below w9.heap.size w9 y) := ⟨⟨w9, Below.refl _ _⟩⟩
          repeat (refine plan_t (by rfl) ?_; (first | go_big_quiet_skip | (go_big_quiet_want; go_big_quiet_op; go_big_quiet_on)); refine wpQuiet_nil ?_)
          clear hne hcv
          show Exit.then _ _ _ _ _
          (try rw [beq_self_eq_true])
          go_wp2_with fail
          (try go_ret)
          first
            | exact ⟨rfl, bl_next HB.out HB.out.size hS⟩
    · clear HC
      go_upto_region 2 with fail
      refine wp_plan (.t 0 (.t 2 (.u 1 (.u 3 (.t 4 .done))))) (fun y => Below w1.heap.size w1 y) (by kernel_rfl) (by kernel_rfl) (by kernel_rfl) (fun c a d v w h => by cases d <;> exact h) (Below.refl _ _).drew ?_
      have hS : Below w1.heap.size w1 w1.drew := (Below.refl _ _).drew
      haveI hne : Nonempty (In fun y => Below w1.heap.size w1 y) := ⟨⟨w1, Below.refl _ _⟩⟩
      generalize w1.drew = w2 at hS ⊢
      refine plan_t_load (by rfl) (by kernel_rfl) 28 _ rfl g 0 rfl RW _ (fun y hy => rngL (bl_row hy hgl HR.out)) Try.underlying28 rfl (by rw [HRL.out]; rfl) ?_
      simp only [Act.put, List.setIfInBounds_toArray, List.set_cons_succ, List.set_cons_zero]
      refine plan_t_load (by rfl) (by kernel_rfl) 28 _ rfl g 0 rfl RW _ (fun y hy => rngL (bl_row hy hgl HR.out)) Try.underlying28 rfl (by rw [HRL.out]; rfl) ?_
      simp only [Act.put, List.setIfInBounds_toArray, List.set_cons_succ, List.set_cons_zero]
      refine plan_us (by rfl) (by kernel_rfl) ?_
      intro K hK
      go_wp2_with fail
      refine Calls.mono (HRI.out _) ?_
      rintro e w3 ⟨rfl, hb⟩
      replace hS := bl_next hS hS.size hb
      clear hb
      go_wp2_with fail
      refine ⟨hS, ?_⟩
      refine plan_us (by rfl) (by kernel_rfl) ?_
      intro K hK
      go_wp2_with fail
      refine Calls.mono (HRR.out _) ?_
      rintro e w4 ⟨rfl, hb⟩
      replace hS := bl_next hS hS.size hb
      clear hb
      go_wp2_with fail
      refine ⟨hS, ?_⟩
      repeat (refine plan_t (by rfl) ?_; (first | go_big_quiet_skip | (go_big_quiet_want; go_big_quiet_op; go_big_quiet_on)); refine wpQuiet_nil ?_)
      clear hne
      replace HR := Lib.hid (bl_row hS hgl HR.out)
      replace HB := Lib.hid (bl_next HB.out HB.out.size hS)
      clear hS hgl
      show Exit.then _ _ _ _ _
      go_wp2_with (first | (refine wpList_load_g 28 _ rfl (by kernel_rfl) g 0 rfl RW _ (rngL HR.out) Try.underlying28 rfl (by rw [HRL.out]; rfl) ?_) | fail)
      refine Calls.mono (HRR.out _) ?_
      rintro e w5 ⟨rfl, hb⟩
      replace HR := Lib.hid (bl_row hb (lt_of_block HR.out) HR.out)
      replace HB := Lib.hid (bl_next HB.out HB.out.size hb)
      clear hb
      go_wp2_with (first | (refine wpList_load_g 28 _ rfl (by kernel_rfl) g 0 rfl RW _ (rngL HR.out) Try.underlying28 rfl (by rw [HRL.out]; rfl) ?_) | fail)
      refine Calls.mono (HRE.out _ 20 HB.out (by omega)) ?_
      rintro e w6 ⟨v6, rfl, hb, ho⟩
      obtain ⟨b6, cp6, rfl, hcp6⟩ := own_slice ho
      replace HR := Lib.hid (bl_row hb (lt_of_block HR.out) HR.out)
      replace HB := Lib.hid (bl_next HB.out HB.out.size hb)
      clear hb ho hcp6
      go_wp2_with (first | (refine wpList_load_g 28 _ rfl (by kernel_rfl) g 0 rfl RW _ (rngL HR.out) Try.underlying28 rfl (by rw [HRL.out]; rfl) ?_) | fail)
      refine Calls.mono (HSZ.out _ HB.out) ?_
      rintro e w7 ⟨rfl, hb⟩
      replace HR := Lib.hid (bl_row hb (lt_of_block HR.out) HR.out)
      replace HB := Lib.hid (bl_next HB.out HB.out.size hb)
      clear hb
      have c18 := row_cell HR.out 18 _ (by rw [List.getElem?_toArray]; exact HW18.out)
      by_cases h1 : n < wd
      · go_wp2_with fail
        (try go_ret)
        first
          | exact ⟨rfl, HB.out⟩
      · have h2 : 16383 < n := by omega
        go_wp2_with fail
        (try go_ret)
        first
          | exact ⟨rfl, HB.out⟩

theorem encH_len (h : Hd) (n : Int) : (encH h n).length = (encH h 20).length := by unfold encH; split <;> simp
theorem encH_le (h : Hd) (hk : h.ok) (hl : h.k.length ≤ 900) : (encH h 20).length ≤ 1000 := by
  have h1 := hk.lt; have h2 := hk.lf; have h3 := putM_le h.k.length
  unfold encH
  split
  · simp [h1]
  · split
    · simp only [List.length_append, List.length_cons, List.length_nil, h1, h2]; omega
    · simp [h1, h2]
theorem encH_wf (h : Hd) (hk : h.ok) (hr : hrightP h) (n : Int) (hn : 0 ≤ n ∧ n ≤ 16383) : ∀ x ∈ encH h n, (Lit.int .u8 x).wf = true := by
  have h1 := hr.1; have h2 := hr.2.1
  have hf : (Lit.int .u8 (firstM h)).wf = true := by
    unfold firstM
    split
    · cases h.p <;> exact wf_u8_of (by simp <;> omega) (by simp <;> omega)
    · rename_i hs
      rcases hr.2.2 with h3 | h3 | h3
      · exact wf_u8_of (by omega) (by omega)
      · exact wf_u8_of (by omega) (by omega)
      · exact absurd h3.1 hs
  intro x hx
  unfold encH at hx
  split at hx
  · rcases List.mem_cons.1 hx with h | h
    · rw [h]; exact hf
    · exact hk.wt x h
  · rcases List.mem_append.1 hx with hx | hx
    · rcases List.mem_cons.1 hx with h | h
      · rw [h]; exact hf
      · exact (by decide : ∀ y ∈ ([0, 0, 0, 1, 8] : List Int), (Lit.int .u8 y).wf = true) x h
    · rcases List.mem_append.1 hx with hx | hx
      · exact hk.wt x hx
      · rcases List.mem_append.1 hx with hx | hx
        · rw [List.mem_singleton] at hx; subst hx; decide
        · rcases List.mem_append.1 hx with hx | hx
          · exact hk.wf x hx
          · rcases List.mem_append.1 hx with hx | hx
            · split at hx
              · rename_i hs0
                have hkl : h.k.length ≤ 32 := by rcases hr.2.2 with h | h | h <;> omega
                rcases List.mem_append.1 hx with hx | hx
                · exact putM_wf _ (by omega) x hx
                · exact hk.wk x hx
              · cases hx
            · simp only [List.mem_cons, List.not_mem_nil, or_false] at hx
              rcases hx with rfl | rfl <;> exact wf_u8_of (by omega) (by omega)
theorem encodes5_any (w : World) (h : Hd) (a : Option Addr) (tc : Nat) (n : Int) (hk : h.ok) (hl : h.k.length ≤ 900) (hn : -9223372036854775808 ≤ n ∧ n ≤ 9223372036854775807) (hI : IntsK .u8 w a h.k.length h.k) :
    Makes Try.prog 10 #[h.val a tc, .int .i64 n] w (.bool true) := by
  refine encodes5_core w (h.row a tc) h.w n (encH h 20).length (hrightM h) hn (fun hr => ⟨((hrightM_eq h).1 hr).1, ((hrightM_eq h).1 hr).2.1⟩) (Lib.hid (row_len h a tc hk.lt hk.lf)) (Lib.hid (row_one h a tc)) (Lib.hid ?_) (encH h) (encH_le h hk hl) (Lib.hid (encH_len h)) (Lib.hid fun hr n hn => encH_wf h hk ((hrightM_eq h).1 hr) n hn)
    (Lib.hid fun w1 hb => (hencode_any w1 h a tc n hk (by omega) hn (hI.below hb)).mono ?_) (Lib.hid fun w1 => hright_any w1 h a tc hk (by omega)) (Lib.hid fun w1 => hrright_any w1 h a tc hk (by omega)) (Lib.hid fun w1 hb => hsize_any w1 h a tc hk (by omega) (hI.below hb))
    (Lib.hid fun hr w1 n hb hn => ?_)
  · unfold Hd.row
    have h1 := hk.lt; have h2 := hk.lf
    rw [List.getElem?_append_right (by simp), List.getElem?_append_right (by simp [h1]), List.getElem?_append_right (by simp [h1, h2])]
    simp [h1, h2]
  · rintro e w' ⟨b, ⟨r1, r2, r3, a', cap', re, r4, r5, r6, r7⟩ | ⟨r1, re⟩⟩
    · rw [encH_len] at re r6
      exact ⟨b, .inl ⟨r1, r2, r3, a', cap', re, r6⟩⟩
    · exact ⟨b, .inr ⟨r1, re⟩⟩
  · have h2 := rencode_any w1 h a tc n hk hr hn (hI.below hb)
    rw [encH_len] at h2
    exact h2
end Go.Proofs.Ytichnlbilnbhoaa
