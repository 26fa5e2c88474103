/- heads: takeLong. -/
import Derived.Test.YthofbckkjcidmaaHead6
import Derived.Lib.Bytes
namespace Go.Proofs.Ythofbckkjcidmaa
open Go.RowKit
set_option linter.unusedVariables false

theorem bytesOf_inj : ∀ (l m : List Int), (∀ x ∈ l, 0 ≤ x ∧ x ≤ 255) → (∀ x ∈ m, 0 ≤ x ∧ x ≤ 255) → Lib.bytesOf l = Lib.bytesOf m → l = m
  | [], [], _, _, _ => rfl
  | [], _ :: _, _, _, h => by simp [Lib.bytesOf] at h
  | _ :: _, [], _, _, h => by simp [Lib.bytesOf] at h
  | x :: l, y :: m, hl, hm, h => by
    simp only [Lib.bytesOf, List.map_cons, List.cons.injEq] at h
    obtain ⟨h1, h2⟩ := h
    have hx := hl x (by simp)
    have hy := hm y (by simp)
    have e1 := congrArg UInt8.toNat h1
    rw [UInt8.toNat_ofNat_of_lt' (by show x.toNat < 256; omega), UInt8.toNat_ofNat_of_lt' (by show y.toNat < 256; omega)] at e1
    rw [bytesOf_inj l m (fun z hz => hl z (by simp [hz])) (fun z hz => hm z (by simp [hz])) h2, show x = y by omega]
theorem strOfNums_inj (l m : List Int) (hl : ∀ x ∈ l, (Lit.int .u8 x).wf = true) (hm : ∀ x ∈ m, (Lit.int .u8 x).wf = true) (h : strOfNums l = strOfNums m) : l = m := by
  have h2 := congrArg ByteArray.toList h
  rw [Lib.strOfNums_toList, Lib.strOfNums_toList] at h2
  exact bytesOf_inj l m (fun x hx => bounds_u8 (hl x hx)) (fun x hx => bounds_u8 (hm x hx)) h2

theorem str_ne (l m : List Int) (hl : ∀ x ∈ l, (Lit.int .u8 x).wf = true) (hm : ∀ x ∈ m, (Lit.int .u8 x).wf = true) (h : ¬ l = m) : ((strOfNums l).toList == (strOfNums m).toList) = false := by
  rw [Lib.strOfNums_toList, Lib.strOfNums_toList, beq_eq_false_iff_ne]
  exact fun e => h (bytesOf_inj l m (fun x hx => bounds_u8 (hl x hx)) (fun x hx => bounds_u8 (hm x hx)) e)

section
variable {P : Program} {Q : Exit → Act → World → Prop}
theorem plan_half_n {l : List Oper} {k : Nat} {p : Plan} {S : World → Prop} {a : Act} {w : World} {o : Oper} (ho : l[k]? = some o) (hw : Region.wanted o (yielded l.toArray a.tmps) = true)
    (h : ∀ K' : Act → World → Prop, (∀ a' w', (∃ S' : World → Prop, (∀ x, S' x → S x) ∧ S' w' ∧ p.wp P l.toArray Q S' a' w') → K' a' w') → Oper.wp P o a w K' Q) : wpOp P l.toArray Q k (fun a' w' => ∃ S' : World → Prop, (∀ x, S' x → S x) ∧ S' w' ∧ p.wp P l.toArray Q S' a' w') a w :=
  wpOp_step (by simpa using ho) fun K' hK => by rw [if_pos hw]; exact h K' hK
theorem plan_half_x {l : List Oper} {k : Nat} {p : Plan} {S : World → Prop} {a : Act} {w : World} {o : Oper} (ho : l[k]? = some o) (hw : Region.wanted o (yielded l.toArray a.tmps) = false) (hS : S w)
    (h : p.wp P l.toArray Q S (a.put o.dst undef) w) : wpOp P l.toArray Q k (fun a' w' => ∃ S' : World → Prop, (∀ x, S' x → S x) ∧ S' w' ∧ p.wp P l.toArray Q S' a' w') a w :=
  wpOp_step (by simpa using ho) fun K' hK => by rw [if_neg (by rw [hw]; decide)]; exact hK _ _ ⟨S, fun _ h => h, hS, h⟩
theorem plan_ux {l : List Oper} {k : Nat} {p : Plan} {S : World → Prop} {a : Act} {w : World} {o : Oper} (ho : l[k]? = some o) (hw : Region.wanted o (yielded l.toArray a.tmps) = false) (hS : S w)
    (h : p.wp P l.toArray Q S (a.put o.dst undef) w) : (Plan.u k p).wp P l.toArray Q S a w :=
  plan_half_x ho hw hS h
end
def row0 (s : Int) : List Value := [.int .i64 s, .int .u8 0, .int .u8 0, .int .u8 0, .int .u8 0, .int .u8 0, .int .u8 0, .int .u8 0, .int .u8 0, .int .u8 0, .int .u8 0, .int .u8 0, .int .u8 0, .int .u8 0, .int .u8 0, .int .u8 0, .int .u8 0, .slice none 0 0, .int .i64 1, .bool false]
theorem splice_at {α : Type} (cur : List α) (off : Nat) (cs : List α) (hf : off + cs.length ≤ cur.length) (k : Nat) (hk : k < off ∨ off + cs.length ≤ k) : (splice cur off cs)[k]? = cur[k]? := by
  unfold splice
  rcases hk with hk | hk
  · rw [List.getElem?_append_left (by rw [List.length_take]; omega), List.getElem?_take_of_lt hk]
  · rw [List.getElem?_append_right (by rw [List.length_take]; omega), List.getElem?_append_right (by rw [List.length_take]; omega), List.getElem?_drop, List.length_take]
    congr 1
    omega
def lrow (q : Int) (t f : List Int) (v : Value) : List Value := (splice (splice (row0 q) 1 (t.map (Value.int .u8))) 9 (f.map (Value.int .u8))).set 17 v
theorem name_len (bs : List Int) (bad : Bool) : (nameM bs bad).2.1.length ≤ 8 := rdM_len1 _ _ 8
theorem lg_no {first : Int} {bs : List Int} {bad : Bool} (h : ¬ (first / 16 % 4 ≤ 1 ∧ (rdM bs bad 4).1 = [0, 0, 0, 1] ∧ (nameM (rdM bs bad 4).2.1 (rdM bs bad 4).2.2).1 = true ∧
    (nameM (nameM (rdM bs bad 4).2.1 (rdM bs bad 4).2.2).2.2.1 (nameM (rdM bs bad 4).2.1 (rdM bs bad 4).2.2).2.2.2).1 = true ∧
    (tokM (first / 16 % 4) (nameM (nameM (rdM bs bad 4).2.1 (rdM bs bad 4).2.2).2.2.1 (nameM (rdM bs bad 4).2.1 (rdM bs bad 4).2.2).2.2.2).2.2.1 (nameM (nameM (rdM bs bad 4).2.1 (rdM bs bad 4).2.2).2.2.1 (nameM (rdM bs bad 4).2.1 (rdM bs bad 4).2.2).2.2.2).2.2.2).1.length ≤ 32)) : lgM first bs bad = none := by
  unfold lgM
  exact if_neg h
theorem lg_some {first : Int} {bs : List Int} {bad : Bool} {q : Int} {v2 : List Int} {v3 : Bool} {n2 n3 o2 o3 k t2 x2 : List Int} {n4 o4 t3 x3 : Bool} {x1 : Int} (hq : first / 16 % 4 = q) (hq1 : q ≤ 1) (hv : rdM bs bad 4 = ([0, 0, 0, 1], v2, v3)) (hn : nameM v2 v3 = (true, n2, n3, n4)) (ho : nameM n3 n4 = (true, o2, o3, o4)) (ht : tokM q o3 o4 = (k, t2, t3)) (hk : k.length ≤ 32) (hx : varM t2 t3 = (x1, x2, x3)) :
    lgM first bs bad = some ⟨q, n2, o2, k, x1, x2, x3⟩ := by
  unfold lgM
  rw [hq, hv]
  simp only
  rw [hn]
  simp only
  rw [ho]
  simp only
  rw [ht]
  simp only
  rw [hx]
  simp only
  rw [if_pos ⟨hq1, by trivial, by trivial, by trivial, hk⟩]
/-- what takeLong answers. -/
def LongR (W0 w : World) (L p g : Nat) (first : Int) (bs : List Int) (bad : Bool) (e : Ending) (w' : World) : Prop :=
  Ch w w' p (some g) ∧
  ((∃ G a tc, lgM first bs bad = some G ∧ e = .returned (.tuple #[.int .u64 G.n, .bool true]) ∧ Rd W0 w' L p 121 G.r G.b ∧ w'.heap[g]? = some (.cells (lrow G.s G.t G.f (.slice a G.k.length tc)).toArray 32 (0, 0)) ∧ IntsK .u8 w' a G.k.length G.k ∧ G.k.length ≤ tc ∧ (∀ x, a = some x → w.heap.size ≤ x.block)) ∨
   (lgM first bs bad = none ∧ ∃ n bs' bad', e = .returned (.tuple #[.int .u64 n, .bool false]) ∧ Rd W0 w' L p 121 bs' bad'))

set_option maxRecDepth 100000 in
set_option maxHeartbeats 4000000 in
theorem takeLong_2 (W0 w : World) (L p g : Nat) (first : Int) (bs : List Int) (bad : Bool) (hkd : bits .and .u8 first 48 = 32) (hq : first / 16 % 4 = 2) (hr : w.heap[g]? = some (.cells (row0 2).toArray 32 (0, 0))) (hgp : g ≠ p) (hgW : W0.heap.size ≤ g) (h : Rd W0 w L p 121 bs bad) :
    Calls Try.prog 57 #[.pointer (some ⟨p, 0, none⟩), .int .u8 first, .pointer (some ⟨g, 0, none⟩)] w (LongR W0 w L p g first bs bad) := by
  have HRD := Lib.hid h; have HR := Lib.hid hr; have HQ := Lib.hid hq
  obtain ⟨⟨v1, v2, v3⟩, hv⟩ : ∃ r, rdM bs bad 4 = r := ⟨_, rfl⟩
  have HV := Lib.hid hv
  clear h hr hv hq
  obtain ⟨Q, hQ⟩ : ∃ Q, LongR W0 w L p g first bs bad = Q := ⟨_, rfl⟩
  rw [hQ]
  have HQQ := Lib.hid hQ
  clear hQ
  go_enter Try.func57, Try.ntmps57
  have f0 := row_free HR.out 0
  have c0 : w.cell? ⟨g, 0, none⟩ = some (.int .i64 2) := row_cell HR.out 0 _ rfl
  have hA := ((At.base HR.out).set 0 (.int .i64 2)).conv (cs' := (row0 2).toArray) (by rfl)
  have HR1 := Lib.hid hA.row
  have HC1 := Lib.hid ((Ch.refl w p (some g)).byQ hA.rest)
  have HRD1 := Lib.hid (HRD.out.grownG hA.rest hgp hgW)
  clear hA HR HRD
  go_upto_region 3 with fail
  clear f0 c0
  generalize w.setCell ⟨g, 0, none⟩ (.int .i64 2) = w1 at HR1 HC1 HRD1 ⊢
  refine wp_plan (.t 0 (.t 1 (.t 2 (.t 3 (.b 4 (.t 5 (.u 6 (.t 7 (.t 8 (.t 9 .done))))) 6 (.t 7 (.u 4 (.t 5 (.t 8 (.t 9 .done)))))))))) (fun y => True) (by kernel_rfl) (by kernel_rfl) (by kernel_rfl) (fun c a d v w h => by cases d <;> exact h) trivial ?_
  haveI hne : Nonempty (In fun y => True) := ⟨⟨w1, trivial⟩⟩
  have HC2 := Lib.hid (HC1.out.byP (grown_drew w1 (some p)))
  have HRD2 := Lib.hid (HRD1.out.to (Below.refl _ _).drew)
  have HR2 : Hid (w1.drew.heap[g]? = some (.cells (row0 2).toArray 32 (0, 0))) := HR1
  clear HC1 HRD1 HR1
  generalize w1.drew = wa at HC2 HRD2 HR2 ⊢
  repeat (refine plan_t (by rfl) ?_; (first | go_big_quiet_skip | (go_big_quiet_want; go_big_quiet_op; go_big_quiet_on)); refine wpQuiet_nil ?_)
  refine plan_b ?_ ?_
  · refine plan_half_x (by rfl) (by kernel_rfl) trivial ?_
    simp only [Act.put, List.setIfInBounds_toArray, List.set_cons_succ, List.set_cons_zero]
    repeat (refine plan_t (by rfl) ?_; (first | go_big_quiet_skip | (go_big_quiet_want; go_big_quiet_op; go_big_quiet_on)); refine wpQuiet_nil ?_)
    refine plan_ux (by rfl) (by kernel_rfl) trivial ?_
    simp only [Act.put, List.setIfInBounds_toArray, List.set_cons_succ, List.set_cons_zero]
    repeat (refine plan_t (by rfl) ?_; (first | go_big_quiet_skip | (go_big_quiet_want; go_big_quiet_op; go_big_quiet_on)); refine wpQuiet_nil ?_)
    clear hne
    show Exit.then _ _ _ _ _
    go_wp2_with fail
    (try go_ret2)
    rw [← HQQ.out]
    refine ⟨HC2.out, .inr ⟨lg_no ?_, 0, _, _, rfl, HRD2.out⟩⟩
    rw [HQ.out]; intro h; have := h.1; omega
  · refine plan_half_x (by rfl) (by kernel_rfl) trivial ?_
    simp only [Act.put, List.setIfInBounds_toArray, List.set_cons_succ, List.set_cons_zero]
    repeat (refine plan_t (by rfl) ?_; (first | go_big_quiet_skip | (go_big_quiet_want; go_big_quiet_op; go_big_quiet_on)); refine wpQuiet_nil ?_)
    refine plan_ux (by rfl) (by kernel_rfl) trivial ?_
    simp only [Act.put, List.setIfInBounds_toArray, List.set_cons_succ, List.set_cons_zero]
    repeat (refine plan_t (by rfl) ?_; (first | go_big_quiet_skip | (go_big_quiet_want; go_big_quiet_op; go_big_quiet_on)); refine wpQuiet_nil ?_)
    clear hne
    show Exit.then _ _ _ _ _
    go_wp2_with fail
    (try go_ret2)
    rw [← HQQ.out]
    refine ⟨HC2.out, .inr ⟨lg_no ?_, 0, _, _, rfl, HRD2.out⟩⟩
    rw [HQ.out]; intro h; have := h.1; omega
set_option maxRecDepth 100000 in
set_option maxHeartbeats 4000000 in
theorem takeLong_3 (W0 w : World) (L p g : Nat) (first : Int) (bs : List Int) (bad : Bool) (hkd : bits .and .u8 first 48 = 48) (hq : first / 16 % 4 = 3) (hr : w.heap[g]? = some (.cells (row0 2).toArray 32 (0, 0))) (hgp : g ≠ p) (hgW : W0.heap.size ≤ g) (h : Rd W0 w L p 121 bs bad) :
    Calls Try.prog 57 #[.pointer (some ⟨p, 0, none⟩), .int .u8 first, .pointer (some ⟨g, 0, none⟩)] w (LongR W0 w L p g first bs bad) := by
  have HRD := Lib.hid h; have HR := Lib.hid hr; have HQ := Lib.hid hq
  obtain ⟨⟨v1, v2, v3⟩, hv⟩ : ∃ r, rdM bs bad 4 = r := ⟨_, rfl⟩
  have HV := Lib.hid hv
  clear h hr hv hq
  obtain ⟨Q, hQ⟩ : ∃ Q, LongR W0 w L p g first bs bad = Q := ⟨_, rfl⟩
  rw [hQ]
  have HQQ := Lib.hid hQ
  clear hQ
  go_enter Try.func57, Try.ntmps57
  have f0 := row_free HR.out 0
  have c0 : w.cell? ⟨g, 0, none⟩ = some (.int .i64 2) := row_cell HR.out 0 _ rfl
  have hA := ((At.base HR.out).set 0 (.int .i64 3)).conv (cs' := (row0 3).toArray) (by rfl)
  have HR1 := Lib.hid hA.row
  have HC1 := Lib.hid ((Ch.refl w p (some g)).byQ hA.rest)
  have HRD1 := Lib.hid (HRD.out.grownG hA.rest hgp hgW)
  clear hA HR HRD
  go_upto_region 3 with fail
  clear f0 c0
  generalize w.setCell ⟨g, 0, none⟩ (.int .i64 3) = w1 at HR1 HC1 HRD1 ⊢
  refine wp_plan (.t 0 (.t 1 (.t 2 (.t 3 (.b 4 (.t 5 (.u 6 (.t 7 (.t 8 (.t 9 .done))))) 6 (.t 7 (.u 4 (.t 5 (.t 8 (.t 9 .done)))))))))) (fun y => True) (by kernel_rfl) (by kernel_rfl) (by kernel_rfl) (fun c a d v w h => by cases d <;> exact h) trivial ?_
  haveI hne : Nonempty (In fun y => True) := ⟨⟨w1, trivial⟩⟩
  have HC2 := Lib.hid (HC1.out.byP (grown_drew w1 (some p)))
  have HRD2 := Lib.hid (HRD1.out.to (Below.refl _ _).drew)
  have HR2 : Hid (w1.drew.heap[g]? = some (.cells (row0 3).toArray 32 (0, 0))) := HR1
  clear HC1 HRD1 HR1
  generalize w1.drew = wa at HC2 HRD2 HR2 ⊢
  repeat (refine plan_t (by rfl) ?_; (first | go_big_quiet_skip | (go_big_quiet_want; go_big_quiet_op; go_big_quiet_on)); refine wpQuiet_nil ?_)
  refine plan_b ?_ ?_
  · refine plan_half_x (by rfl) (by kernel_rfl) trivial ?_
    simp only [Act.put, List.setIfInBounds_toArray, List.set_cons_succ, List.set_cons_zero]
    repeat (refine plan_t (by rfl) ?_; (first | go_big_quiet_skip | (go_big_quiet_want; go_big_quiet_op; go_big_quiet_on)); refine wpQuiet_nil ?_)
    refine plan_ux (by rfl) (by kernel_rfl) trivial ?_
    simp only [Act.put, List.setIfInBounds_toArray, List.set_cons_succ, List.set_cons_zero]
    repeat (refine plan_t (by rfl) ?_; (first | go_big_quiet_skip | (go_big_quiet_want; go_big_quiet_op; go_big_quiet_on)); refine wpQuiet_nil ?_)
    clear hne
    show Exit.then _ _ _ _ _
    go_wp2_with fail
    (try go_ret2)
    rw [← HQQ.out]
    refine ⟨HC2.out, .inr ⟨lg_no ?_, 0, _, _, rfl, HRD2.out⟩⟩
    rw [HQ.out]; intro h; have := h.1; omega
  · refine plan_half_x (by rfl) (by kernel_rfl) trivial ?_
    simp only [Act.put, List.setIfInBounds_toArray, List.set_cons_succ, List.set_cons_zero]
    repeat (refine plan_t (by rfl) ?_; (first | go_big_quiet_skip | (go_big_quiet_want; go_big_quiet_op; go_big_quiet_on)); refine wpQuiet_nil ?_)
    refine plan_ux (by rfl) (by kernel_rfl) trivial ?_
    simp only [Act.put, List.setIfInBounds_toArray, List.set_cons_succ, List.set_cons_zero]
    repeat (refine plan_t (by rfl) ?_; (first | go_big_quiet_skip | (go_big_quiet_want; go_big_quiet_op; go_big_quiet_on)); refine wpQuiet_nil ?_)
    clear hne
    show Exit.then _ _ _ _ _
    go_wp2_with fail
    (try go_ret2)
    rw [← HQQ.out]
    refine ⟨HC2.out, .inr ⟨lg_no ?_, 0, _, _, rfl, HRD2.out⟩⟩
    rw [HQ.out]; intro h; have := h.1; omega
set_option maxRecDepth 100000 in
set_option maxHeartbeats 4000000 in
theorem takeLong_1 (W0 w : World) (L p g : Nat) (first : Int) (bs : List Int) (bad : Bool) (hkd : bits .and .u8 first 48 = 16) (hq : first / 16 % 4 = 1) (hr : w.heap[g]? = some (.cells (row0 2).toArray 32 (0, 0))) (hgp : g ≠ p) (hgW : W0.heap.size ≤ g) (h : Rd W0 w L p 121 bs bad) :
    Calls Try.prog 57 #[.pointer (some ⟨p, 0, none⟩), .int .u8 first, .pointer (some ⟨g, 0, none⟩)] w (LongR W0 w L p g first bs bad) := by
  have HRD := Lib.hid h; have HR := Lib.hid hr; have HQ := Lib.hid hq
  obtain ⟨⟨v1, v2, v3⟩, hv⟩ : ∃ r, rdM bs bad 4 = r := ⟨_, rfl⟩
  have HV := Lib.hid hv
  clear h hr hv hq
  obtain ⟨Q, hQ⟩ : ∃ Q, LongR W0 w L p g first bs bad = Q := ⟨_, rfl⟩
  rw [hQ]
  have HQQ := Lib.hid hQ
  clear hQ
  go_enter Try.func57, Try.ntmps57
  have f0 := row_free HR.out 0
  have c0 : w.cell? ⟨g, 0, none⟩ = some (.int .i64 2) := row_cell HR.out 0 _ rfl
  have hA := ((At.base HR.out).set 0 (.int .i64 1)).conv (cs' := (row0 1).toArray) (by rfl)
  have HR1 := Lib.hid hA.row
  have HC1 := Lib.hid ((Ch.refl w p (some g)).byQ hA.rest)
  have HRD1 := Lib.hid (HRD.out.grownG hA.rest hgp hgW)
  clear hA HR HRD
  go_upto_region 3 with fail
  clear f0 c0
  generalize w.setCell ⟨g, 0, none⟩ (.int .i64 1) = w1 at HR1 HC1 HRD1 ⊢
  refine wp_plan (.t 0 (.t 1 (.t 2 (.t 3 (.b 4 (.t 5 (.u 6 (.t 7 (.t 8 (.t 9 .done))))) 6 (.t 7 (.u 4 (.t 5 (.t 8 (.t 9 .done)))))))))) (fun y => True) (by kernel_rfl) (by kernel_rfl) (by kernel_rfl) (fun c a d v w h => by cases d <;> exact h) trivial ?_
  haveI hne : Nonempty (In fun y => True) := ⟨⟨w1, trivial⟩⟩
  have HC2 := Lib.hid (HC1.out.byP (grown_drew w1 (some p)))
  have HRD2 := Lib.hid (HRD1.out.to (Below.refl _ _).drew)
  have HR2 : Hid (w1.drew.heap[g]? = some (.cells (row0 1).toArray 32 (0, 0))) := HR1
  clear HC1 HRD1 HR1
  generalize w1.drew = wa at HC2 HRD2 HR2 ⊢
  repeat (refine plan_t (by rfl) ?_; (first | go_big_quiet_skip | (go_big_quiet_want; go_big_quiet_op; go_big_quiet_on)); refine wpQuiet_nil ?_)
  refine plan_b ?_ ?_
  · skip
    refine plan_half_n (by rfl) (by kernel_rfl) ?_
    intro K hK
    go_wp2_with fail
    have hb := raw_any W0 wa L p bs bad 4 (by omega) HRD2.out
    rw [HV.out] at hb
    refine Calls.mono hb ?_
    clear hb
    rintro e wb ⟨a, m, cap, rfl, hm, hI, hR, hg1, hlo⟩
    replace HR2 := Lib.hid (grown_row hg1 (by intro e; injection e with e; exact hgp e) HR2.out)
    replace HC2 := Lib.hid (HC2.out.byP hg1)
    replace HRD2 := Lib.hid hR
    have hvl : v1.length = m := hI.1
    go_wp2_with fail
    obtain ⟨S1, hS1⟩ : ∃ S : World → Prop, ∀ y, S y ↔ IntsK .u8 y a m v1 := ⟨_, fun y => Iff.rfl⟩
    refine ⟨S1, fun _ _ => trivial, (hS1 _).2 hI, ?_⟩
    clear hR hg1 hlo hne
    haveI hne : Nonempty (In S1) := ⟨⟨wb, (hS1 _).2 hI⟩⟩
    have hc1 : ∀ s : In S1, (convert 23 9 (.slice a m cap)).run Try.prog s.w = .ok (.string (strOfNums v1)) s.w := fun s => conv_ints _ 5 _ _ Try.underlying23 Try.underlying5 Try.underlying9 ((hS1 _).1 s.h)
    have HS1 := Lib.hid hS1
    clear hS1
    repeat (refine plan_t (by rfl) ?_; (first | go_big_quiet_skip | (go_big_quiet_want; go_big_quiet_op; go_big_quiet_on)); refine wpQuiet_nil ?_)
    clear hc1 hne
    refine plan_un (by rfl) (by kernel_rfl) ?_
    intro K hK
    go_wp2_with fail
    have hal := (Below.refl wb.heap.size wb).alloc (Nat.le_refl _) (.cells #[.int .u8 0, .int .u8 0, .int .u8 0, .int .u8 1] 5)
    have hga := heap_alloc_new wb (.cells #[.int .u8 0, .int .u8 0, .int .u8 0, .int .u8 1] 5)
    replace HR2 := Lib.hid (bl_row hal (lt_of_block HR2.out) HR2.out)
    replace HC2 := Lib.hid (HC2.out.byB hal)
    replace HRD2 := Lib.hid (HRD2.out.to hal)
    have HI2 := Lib.hid (hI.below hal)
    clear hI
    obtain ⟨gn, hgn⟩ : ∃ gn, wb.heap.size = gn := ⟨_, rfl⟩
    rw [hgn] at hga
    obtain ⟨S2, hS2⟩ : ∃ S : World → Prop, ∀ y, S y ↔ (IntsK .u8 y a m v1 ∧ y.heap[gn]? = some (.cells (([0, 0, 0, 1] : List Int).map (Value.int .u8)).toArray 5 (0, 0))) := ⟨_, fun y => Iff.rfl⟩
    refine ⟨S2, fun x h => (HS1.out x).2 ((hS2 x).1 h).1, (hS2 _).2 ⟨HI2.out, hga⟩, ?_⟩
    haveI hne : Nonempty (In S2) := ⟨⟨_, (hS2 _).2 ⟨HI2.out, hga⟩⟩⟩
    clear hal hga
    rw [hgn]
    clear hgn
    generalize wb.alloc (.cells #[.int .u8 0, .int .u8 0, .int .u8 0, .int .u8 1] 5) = wc at HR2 HC2 HRD2 HI2 ⊢
    have hc2 : ∀ s : In S2, (convert 23 9 (.slice (some ⟨gn, 0, none⟩) 4 4)).run Try.prog s.w = .ok (.string (strOfNums [0, 0, 0, 1])) s.w := fun s => conv_ints _ 5 _ _ Try.underlying23 Try.underlying5 Try.underlying9 (IntsK.of_row (zs := [0, 0, 0, 1]) ((hS2 _).1 s.h).2 (by decide))
    clear hS2 HS1
    repeat (refine plan_t (by rfl) ?_; (first | go_big_quiet_skip | (go_big_quiet_want; go_big_quiet_op; go_big_quiet_on)); refine wpQuiet_nil ?_)
    clear hc2 hne
    have HWV := Lib.hid HI2.out.2.1
    clear HI2
    show Exit.then _ _ _ _ _
    by_cases heq : v1 = [0, 0, 0, 1]
    · subst heq
      rw [beq_self_eq_true, Bool.not_true]
      go_wp2_with fail
      obtain ⟨⟨n1, n2, n3, n4⟩, hn⟩ : ∃ r, nameM v2 v3 = r := ⟨_, rfl⟩
      have hb := takeName_any W0 wc L p g 1 v2 v3 (row0 1) (by decide) HR2.out hgp hgW HRD2.out
      have hnl := name_len v2 v3
      rw [hn] at hb hnl
      simp only at hb hnl
      have Hn := Lib.hid hn; have HnL := Lib.hid hnl
      clear hn hnl
      refine Calls.mono hb ?_
      clear hb
      rintro e wd ⟨rfl, hR, hr, hC⟩
      have HRD3 := Lib.hid hR; have HR3 := Lib.hid hr; have HC3 := Lib.hid (HC2.out.both hC)
      clear hR hr hC HR2 HC2 HRD2
      cases n1
      · go_wp2_with fail
        (try go_ret2)
        rw [← HQQ.out]
        refine ⟨HC3.out, .inr ⟨lg_no ?_, 0, _, _, rfl, HRD3.out⟩⟩
        rw [HV.out]; simp only; rw [Hn.out]; exact fun h => by cases h.2.2.1
      · have hl1 : (splice (row0 1) 1 (n2.map (Value.int .u8))).length = 20 := length_splice _ _ _ (by rw [List.length_map]; have := HnL.out; show 1 + n2.length ≤ 20; omega)
        have HL1 := Lib.hid hl1
        clear hl1
        go_wp2_with fail
        obtain ⟨⟨o1, o2, o3, o4⟩, ho⟩ : ∃ r, nameM n3 n4 = r := ⟨_, rfl⟩
        have hb := takeName_any W0 wd L p g 9 n3 n4 (splice (row0 1) 1 (n2.map (Value.int .u8))) (by rw [HL1.out]; decide) HR3.out hgp hgW HRD3.out
        have hol := name_len n3 n4
        rw [ho] at hb hol
        simp only at hb hol
        have Ho := Lib.hid ho; have HoL := Lib.hid hol
        clear ho hol
        refine Calls.mono hb ?_
        clear hb
        rintro e we ⟨rfl, hR, hr, hC⟩
        have HRD4 := Lib.hid hR; have HR4 := Lib.hid hr; have HC4 := Lib.hid (HC3.out.both hC)
        clear hR hr hC HR3 HC3 HRD3
        cases o1
        · go_wp2_with fail
          (try go_ret2)
          rw [← HQQ.out]
          refine ⟨HC4.out, .inr ⟨lg_no ?_, 0, _, _, rfl, HRD4.out⟩⟩
          rw [HV.out]; simp only; rw [Hn.out]; simp only; rw [Ho.out]; exact fun h => by cases h.2.2.2.1
        · have hl2 : (splice (splice (row0 1) 1 (n2.map (Value.int .u8))) 9 (o2.map (Value.int .u8))).length = 20 := (length_splice _ _ _ (by rw [List.length_map, HL1.out]; have := HoL.out; omega)).trans HL1.out
          have HL2 := Lib.hid hl2
          have hat : ∀ k, k = 0 ∨ 17 ≤ k → (splice (splice (row0 1) 1 (n2.map (Value.int .u8))) 9 (o2.map (Value.int .u8)))[k]? = (row0 1)[k]? := fun k hk => by
            rw [splice_at _ _ _ (by rw [List.length_map, HL1.out]; have := HoL.out; omega) k (by rw [List.length_map]; have := HoL.out; omega), splice_at _ _ _ (by rw [List.length_map]; have := HnL.out; show 1 + n2.length ≤ 20; omega) k (by rw [List.length_map]; have := HnL.out; omega)]
          have c0 : we.cell? ⟨g, 0, none⟩ = some (.int .i64 1) := row_cell HR4.out 0 _ (by rw [List.getElem?_toArray, hat 0 (by omega)]; rfl)
          have c17 : we.cell? ⟨g, 17, none⟩ = some (.slice none 0 0) := row_cell HR4.out 17 _ (by rw [List.getElem?_toArray, hat 17 (by omega)]; rfl)
          have hat17 := hat 17 (by omega)
          clear hat hl2
          have C17 : Hid ((splice (splice (row0 1) 1 (n2.map (Value.int .u8))) 9 (o2.map (Value.int .u8)))[17]? = some (.slice none 0 0)) := Lib.hid (by rw [hat17]; rfl)
          have HK : Hid (tokM 1 o3 o4 = ([], o3, o4)) := Lib.hid rfl
          go_upto_region 9 with fail
          clear c0
          have HR6 : Hid (we.heap[g]? = some (.cells (lrow 1 n2 o2 (.slice none 0 0)).toArray 32 (0, 0))) := Lib.hid (by
            have h := HR4.out
            have e : lrow 1 n2 o2 (.slice none 0 0) = (splice (splice (row0 1) 1 (n2.map (Value.int .u8))) 9 (o2.map (Value.int .u8))) := by
              unfold lrow
              refine List.ext_getElem? fun i => ?_
              rw [List.getElem?_set]
              split
              · rename_i hi
                subst hi
                rw [if_pos (by rw [HL2.out]; decide)]
                exact (C17.out).symm
              · rfl
            rw [e]
            exact h)
          have HC6 := HC4; have HRD6 := HRD4
          clear HR4 HC4 HRD4
          generalize we = wg at HR6 HC6 HRD6 ⊢
          obtain ⟨S9, hS9⟩ : ∃ S : World → Prop, ∀ y, S y ↔ y.cell? ⟨g, 17, none⟩ = some (.slice none 0 0) := ⟨_, fun y => Iff.rfl⟩
          have HC17 : Hid (∀ y : World, y.heap[g]? = some (.cells (lrow 1 n2 o2 (.slice none 0 0)).toArray 32 (0, 0)) → S9 y) := Lib.hid (fun y h => (hS9 y).2 (row_cell h 17 _ (by rw [List.getElem?_toArray]; unfold lrow; rw [List.getElem?_set_self (by rw [HL2.out]; decide)])))
          refine wp_plan (.t 0 (.t 2 (.t 3 (.t 4 (.t 5 (.t 6 (.t 7 (.u 1 (.t 8 (.t 9 .done)))))))))) S9 (by kernel_rfl) (by kernel_rfl) (by kernel_rfl) (fun c a d v w h => by cases d <;> exact h) (HC17.out _ HR6.out) ?_
          have HC7 := Lib.hid (HC6.out.byP (grown_drew wg (some p)))
          have HRD7 := Lib.hid (HRD6.out.to (Below.refl _ _).drew)
          have HR7 : Hid (wg.drew.heap[g]? = some (.cells (lrow 1 n2 o2 (.slice none 0 0)).toArray 32 (0, 0))) := HR6
          have HI7 : Hid (IntsK .u8 wg.drew none 0 []) := Lib.hid (IntsK.nil _ _ _)
          clear HC6 HRD6 HR6
          generalize wg.drew = wh at HC7 HRD7 HR7 HI7 ⊢
          haveI hne : Nonempty (In S9) := ⟨⟨wh, HC17.out _ HR7.out⟩⟩
          have hc17 : ∀ s : In S9, s.w.cell? ⟨g, 17, none⟩ = some (.slice none 0 0) := fun s => (hS9 _).1 s.h
          clear hS9
          repeat (refine plan_t (by rfl) ?_; (first | go_big_quiet_skip | (go_big_quiet_want; go_big_quiet_op; go_big_quiet_on)); refine wpQuiet_nil ?_)
          clear hc17
          obtain ⟨⟨x1, x2, x3⟩, hx⟩ : ∃ r, varM o3 o4 = r := ⟨_, rfl⟩
          have hb := var_any W0 wh L p o3 o4 HRD7.out
          rw [hx] at hb
          have HXV := Lib.hid hb; have HX := Lib.hid hx
          clear hb hx
          refine plan_us (by rfl) (by kernel_rfl) ?_
          intro K hK
          go_wp2_with fail
          refine Calls.mono HXV.out ?_
          rintro e wi ⟨rfl, hR, hg1⟩
          have HR8 := Lib.hid (grown_row hg1 (by intro e; injection e with e; exact hgp e) HR7.out)
          have HC8 := Lib.hid (HC7.out.byP hg1)
          have HRD8 := Lib.hid hR
          have HI8 : Hid (IntsK .u8 wi none 0 []) := Lib.hid (IntsK.nil _ _ _)
          clear hR hg1 HR7 HC7 HRD7 HI7 HXV
          go_wp2_with fail
          refine ⟨HC17.out _ HR8.out, ?_⟩
          repeat (refine plan_t (by rfl) ?_; (first | go_big_quiet_skip | (go_big_quiet_want; go_big_quiet_op; go_big_quiet_on)); refine wpQuiet_nil ?_)
          clear hne HC17
          show Exit.then _ _ _ _ _
          go_wp2_with fail
          (try go_ret2)
          rw [← HQQ.out]
          exact ⟨HC8.out, .inl ⟨_, none, 0, lg_some HQ.out (by decide) HV.out Hn.out Ho.out HK.out (by decide) HX.out, rfl, HRD8.out, HR8.out, HI8.out, Nat.le_refl _, fun x hx => by cases hx⟩⟩
    · have hne1 := str_ne v1 [0, 0, 0, 1] HWV.out (by decide) heq
      rw [hne1, Bool.not_false]
      clear hne1
      go_wp2_with fail
      (try go_ret2)
      rw [← HQQ.out]
      refine ⟨HC2.out, .inr ⟨lg_no ?_, 0, _, _, rfl, HRD2.out⟩⟩
      rw [HV.out]; exact fun h => heq h.2.1
  · skip
    have HRDz := HRD2
    refine plan_half_n (by rfl) (by kernel_rfl) ?_
    intro K hK
    go_wp2_with fail
    have hal := (Below.refl wa.heap.size wa).alloc (Nat.le_refl _) (.cells #[.int .u8 0, .int .u8 0, .int .u8 0, .int .u8 1] 5)
    have hga := heap_alloc_new wa (.cells #[.int .u8 0, .int .u8 0, .int .u8 0, .int .u8 1] 5)
    replace HR2 := Lib.hid (bl_row hal (lt_of_block HR2.out) HR2.out)
    replace HC2 := Lib.hid (HC2.out.byB hal)
    replace HRD2 := Lib.hid (HRD2.out.to hal)
    have hplt := HRDz.out.lt
    obtain ⟨gn, hgn⟩ : ∃ gn, wa.heap.size = gn := ⟨_, rfl⟩
    rw [hgn] at hga
    obtain ⟨S1, hS1⟩ : ∃ S : World → Prop, ∀ y, S y ↔ y.heap[gn]? = some (.cells (([0, 0, 0, 1] : List Int).map (Value.int .u8)).toArray 5 (0, 0)) := ⟨_, fun y => Iff.rfl⟩
    refine ⟨S1, fun _ _ => trivial, (hS1 _).2 hga, ?_⟩
    clear hne
    haveI hne : Nonempty (In S1) := ⟨⟨_, (hS1 _).2 hga⟩⟩
    rw [hgn]
    have HGP := Lib.hid (show gn ≠ p by have := HRDz.out.lt; omega)
    clear hal hgn HRDz
    generalize wa.alloc (.cells #[.int .u8 0, .int .u8 0, .int .u8 0, .int .u8 1] 5) = wb at HR2 HC2 HRD2 hga ⊢
    have hc2 : ∀ s : In S1, (convert 23 9 (.slice (some ⟨gn, 0, none⟩) 4 4)).run Try.prog s.w = .ok (.string (strOfNums [0, 0, 0, 1])) s.w := fun s => conv_ints _ 5 _ _ Try.underlying23 Try.underlying5 Try.underlying9 (IntsK.of_row (zs := [0, 0, 0, 1]) ((hS1 _).1 s.h) (by decide))
    have HS1 := Lib.hid hS1
    have HGA := Lib.hid hga
    clear hS1 hga
    repeat (refine plan_t (by rfl) ?_; (first | go_big_quiet_skip | (go_big_quiet_want; go_big_quiet_op; go_big_quiet_on)); refine wpQuiet_nil ?_)
    clear hc2 hne
    refine plan_un (by rfl) (by kernel_rfl) ?_
    intro K hK
    go_wp2_with fail
    have hb := raw_any W0 wb L p bs bad 4 (by omega) HRD2.out
    rw [HV.out] at hb
    refine Calls.mono hb ?_
    clear hb
    rintro e wc ⟨a, m, cap, rfl, hm, hI, hR, hg1, hlo⟩
    replace HR2 := Lib.hid (grown_row hg1 (by intro e; injection e with e; exact hgp e) HR2.out)
    replace HC2 := Lib.hid (HC2.out.byP hg1)
    replace HRD2 := Lib.hid hR
    have hvl : v1.length = m := hI.1
    have hga2 := grown_row hg1 (by intro e; injection e with e; exact HGP.out e) HGA.out
    go_wp2_with fail
    obtain ⟨S2, hS2⟩ : ∃ S : World → Prop, ∀ y, S y ↔ (IntsK .u8 y a m v1 ∧ y.heap[gn]? = some (.cells (([0, 0, 0, 1] : List Int).map (Value.int .u8)).toArray 5 (0, 0))) := ⟨_, fun y => Iff.rfl⟩
    refine ⟨S2, fun x h => (HS1.out x).2 ((hS2 x).1 h).2, (hS2 _).2 ⟨hI, hga2⟩, ?_⟩
    clear hR hg1 hlo
    haveI hne : Nonempty (In S2) := ⟨⟨wc, (hS2 _).2 ⟨hI, hga2⟩⟩⟩
    have HWV := Lib.hid hI.2.1
    clear hI HGA hga2 HGP
    have hc1 : ∀ s : In S2, (convert 23 9 (.slice a m cap)).run Try.prog s.w = .ok (.string (strOfNums v1)) s.w := fun s => conv_ints _ 5 _ _ Try.underlying23 Try.underlying5 Try.underlying9 ((hS2 _).1 s.h).1
    clear hS2 HS1
    repeat (refine plan_t (by rfl) ?_; (first | go_big_quiet_skip | (go_big_quiet_want; go_big_quiet_op; go_big_quiet_on)); refine wpQuiet_nil ?_)
    clear hc1 hne
    show Exit.then _ _ _ _ _
    by_cases heq : v1 = [0, 0, 0, 1]
    · subst heq
      rw [beq_self_eq_true, Bool.not_true]
      go_wp2_with fail
      obtain ⟨⟨n1, n2, n3, n4⟩, hn⟩ : ∃ r, nameM v2 v3 = r := ⟨_, rfl⟩
      have hb := takeName_any W0 wc L p g 1 v2 v3 (row0 1) (by decide) HR2.out hgp hgW HRD2.out
      have hnl := name_len v2 v3
      rw [hn] at hb hnl
      simp only at hb hnl
      have Hn := Lib.hid hn; have HnL := Lib.hid hnl
      clear hn hnl
      refine Calls.mono hb ?_
      clear hb
      rintro e wd ⟨rfl, hR, hr, hC⟩
      have HRD3 := Lib.hid hR; have HR3 := Lib.hid hr; have HC3 := Lib.hid (HC2.out.both hC)
      clear hR hr hC HR2 HC2 HRD2
      cases n1
      · go_wp2_with fail
        (try go_ret2)
        rw [← HQQ.out]
        refine ⟨HC3.out, .inr ⟨lg_no ?_, 0, _, _, rfl, HRD3.out⟩⟩
        rw [HV.out]; simp only; rw [Hn.out]; exact fun h => by cases h.2.2.1
      · have hl1 : (splice (row0 1) 1 (n2.map (Value.int .u8))).length = 20 := length_splice _ _ _ (by rw [List.length_map]; have := HnL.out; show 1 + n2.length ≤ 20; omega)
        have HL1 := Lib.hid hl1
        clear hl1
        go_wp2_with fail
        obtain ⟨⟨o1, o2, o3, o4⟩, ho⟩ : ∃ r, nameM n3 n4 = r := ⟨_, rfl⟩
        have hb := takeName_any W0 wd L p g 9 n3 n4 (splice (row0 1) 1 (n2.map (Value.int .u8))) (by rw [HL1.out]; decide) HR3.out hgp hgW HRD3.out
        have hol := name_len n3 n4
        rw [ho] at hb hol
        simp only at hb hol
        have Ho := Lib.hid ho; have HoL := Lib.hid hol
        clear ho hol
        refine Calls.mono hb ?_
        clear hb
        rintro e we ⟨rfl, hR, hr, hC⟩
        have HRD4 := Lib.hid hR; have HR4 := Lib.hid hr; have HC4 := Lib.hid (HC3.out.both hC)
        clear hR hr hC HR3 HC3 HRD3
        cases o1
        · go_wp2_with fail
          (try go_ret2)
          rw [← HQQ.out]
          refine ⟨HC4.out, .inr ⟨lg_no ?_, 0, _, _, rfl, HRD4.out⟩⟩
          rw [HV.out]; simp only; rw [Hn.out]; simp only; rw [Ho.out]; exact fun h => by cases h.2.2.2.1
        · have hl2 : (splice (splice (row0 1) 1 (n2.map (Value.int .u8))) 9 (o2.map (Value.int .u8))).length = 20 := (length_splice _ _ _ (by rw [List.length_map, HL1.out]; have := HoL.out; omega)).trans HL1.out
          have HL2 := Lib.hid hl2
          have hat : ∀ k, k = 0 ∨ 17 ≤ k → (splice (splice (row0 1) 1 (n2.map (Value.int .u8))) 9 (o2.map (Value.int .u8)))[k]? = (row0 1)[k]? := fun k hk => by
            rw [splice_at _ _ _ (by rw [List.length_map, HL1.out]; have := HoL.out; omega) k (by rw [List.length_map]; have := HoL.out; omega), splice_at _ _ _ (by rw [List.length_map]; have := HnL.out; show 1 + n2.length ≤ 20; omega) k (by rw [List.length_map]; have := HnL.out; omega)]
          have c0 : we.cell? ⟨g, 0, none⟩ = some (.int .i64 1) := row_cell HR4.out 0 _ (by rw [List.getElem?_toArray, hat 0 (by omega)]; rfl)
          have c17 : we.cell? ⟨g, 17, none⟩ = some (.slice none 0 0) := row_cell HR4.out 17 _ (by rw [List.getElem?_toArray, hat 17 (by omega)]; rfl)
          have hat17 := hat 17 (by omega)
          clear hat hl2
          have C17 : Hid ((splice (splice (row0 1) 1 (n2.map (Value.int .u8))) 9 (o2.map (Value.int .u8)))[17]? = some (.slice none 0 0)) := Lib.hid (by rw [hat17]; rfl)
          have HK : Hid (tokM 1 o3 o4 = ([], o3, o4)) := Lib.hid rfl
          go_upto_region 9 with fail
          clear c0
          have HR6 : Hid (we.heap[g]? = some (.cells (lrow 1 n2 o2 (.slice none 0 0)).toArray 32 (0, 0))) := Lib.hid (by
            have h := HR4.out
            have e : lrow 1 n2 o2 (.slice none 0 0) = (splice (splice (row0 1) 1 (n2.map (Value.int .u8))) 9 (o2.map (Value.int .u8))) := by
              unfold lrow
              refine List.ext_getElem? fun i => ?_
              rw [List.getElem?_set]
              split
              · rename_i hi
                subst hi
                rw [if_pos (by rw [HL2.out]; decide)]
                exact (C17.out).symm
              · rfl
            rw [e]
            exact h)
          have HC6 := HC4; have HRD6 := HRD4
          clear HR4 HC4 HRD4
          generalize we = wg at HR6 HC6 HRD6 ⊢
          obtain ⟨S9, hS9⟩ : ∃ S : World → Prop, ∀ y, S y ↔ y.cell? ⟨g, 17, none⟩ = some (.slice none 0 0) := ⟨_, fun y => Iff.rfl⟩
          have HC17 : Hid (∀ y : World, y.heap[g]? = some (.cells (lrow 1 n2 o2 (.slice none 0 0)).toArray 32 (0, 0)) → S9 y) := Lib.hid (fun y h => (hS9 y).2 (row_cell h 17 _ (by rw [List.getElem?_toArray]; unfold lrow; rw [List.getElem?_set_self (by rw [HL2.out]; decide)])))
          refine wp_plan (.t 0 (.t 2 (.t 3 (.t 4 (.t 5 (.t 6 (.t 7 (.u 1 (.t 8 (.t 9 .done)))))))))) S9 (by kernel_rfl) (by kernel_rfl) (by kernel_rfl) (fun c a d v w h => by cases d <;> exact h) (HC17.out _ HR6.out) ?_
          have HC7 := Lib.hid (HC6.out.byP (grown_drew wg (some p)))
          have HRD7 := Lib.hid (HRD6.out.to (Below.refl _ _).drew)
          have HR7 : Hid (wg.drew.heap[g]? = some (.cells (lrow 1 n2 o2 (.slice none 0 0)).toArray 32 (0, 0))) := HR6
          have HI7 : Hid (IntsK .u8 wg.drew none 0 []) := Lib.hid (IntsK.nil _ _ _)
          clear HC6 HRD6 HR6
          generalize wg.drew = wh at HC7 HRD7 HR7 HI7 ⊢
          haveI hne : Nonempty (In S9) := ⟨⟨wh, HC17.out _ HR7.out⟩⟩
          have hc17 : ∀ s : In S9, s.w.cell? ⟨g, 17, none⟩ = some (.slice none 0 0) := fun s => (hS9 _).1 s.h
          clear hS9
          repeat (refine plan_t (by rfl) ?_; (first | go_big_quiet_skip | (go_big_quiet_want; go_big_quiet_op; go_big_quiet_on)); refine wpQuiet_nil ?_)
          clear hc17
          obtain ⟨⟨x1, x2, x3⟩, hx⟩ : ∃ r, varM o3 o4 = r := ⟨_, rfl⟩
          have hb := var_any W0 wh L p o3 o4 HRD7.out
          rw [hx] at hb
          have HXV := Lib.hid hb; have HX := Lib.hid hx
          clear hb hx
          refine plan_us (by rfl) (by kernel_rfl) ?_
          intro K hK
          go_wp2_with fail
          refine Calls.mono HXV.out ?_
          rintro e wi ⟨rfl, hR, hg1⟩
          have HR8 := Lib.hid (grown_row hg1 (by intro e; injection e with e; exact hgp e) HR7.out)
          have HC8 := Lib.hid (HC7.out.byP hg1)
          have HRD8 := Lib.hid hR
          have HI8 : Hid (IntsK .u8 wi none 0 []) := Lib.hid (IntsK.nil _ _ _)
          clear hR hg1 HR7 HC7 HRD7 HI7 HXV
          go_wp2_with fail
          refine ⟨HC17.out _ HR8.out, ?_⟩
          repeat (refine plan_t (by rfl) ?_; (first | go_big_quiet_skip | (go_big_quiet_want; go_big_quiet_op; go_big_quiet_on)); refine wpQuiet_nil ?_)
          clear hne HC17
          show Exit.then _ _ _ _ _
          go_wp2_with fail
          (try go_ret2)
          rw [← HQQ.out]
          exact ⟨HC8.out, .inl ⟨_, none, 0, lg_some HQ.out (by decide) HV.out Hn.out Ho.out HK.out (by decide) HX.out, rfl, HRD8.out, HR8.out, HI8.out, Nat.le_refl _, fun x hx => by cases hx⟩⟩
    · have hne1 := str_ne v1 [0, 0, 0, 1] HWV.out (by decide) heq
      rw [hne1, Bool.not_false]
      clear hne1
      go_wp2_with fail
      (try go_ret2)
      rw [← HQQ.out]
      refine ⟨HC2.out, .inr ⟨lg_no ?_, 0, _, _, rfl, HRD2.out⟩⟩
      rw [HV.out]; exact fun h => heq h.2.1
set_option maxRecDepth 100000 in
set_option maxHeartbeats 4000000 in
theorem takeLong_0 (W0 w : World) (L p g : Nat) (first : Int) (bs : List Int) (bad : Bool) (hkd : bits .and .u8 first 48 = 0) (hq : first / 16 % 4 = 0) (hr : w.heap[g]? = some (.cells (row0 2).toArray 32 (0, 0))) (hgp : g ≠ p) (hgW : W0.heap.size ≤ g) (h : Rd W0 w L p 121 bs bad) :
    Calls Try.prog 57 #[.pointer (some ⟨p, 0, none⟩), .int .u8 first, .pointer (some ⟨g, 0, none⟩)] w (LongR W0 w L p g first bs bad) := by
  have HRD := Lib.hid h; have HR := Lib.hid hr; have HQ := Lib.hid hq
  obtain ⟨⟨v1, v2, v3⟩, hv⟩ : ∃ r, rdM bs bad 4 = r := ⟨_, rfl⟩
  have HV := Lib.hid hv
  clear h hr hv hq
  obtain ⟨Q, hQ⟩ : ∃ Q, LongR W0 w L p g first bs bad = Q := ⟨_, rfl⟩
  rw [hQ]
  have HQQ := Lib.hid hQ
  clear hQ
  go_enter Try.func57, Try.ntmps57
  have f0 := row_free HR.out 0
  have c0 : w.cell? ⟨g, 0, none⟩ = some (.int .i64 2) := row_cell HR.out 0 _ rfl
  have hA := ((At.base HR.out).set 0 (.int .i64 0)).conv (cs' := (row0 0).toArray) (by rfl)
  have HR1 := Lib.hid hA.row
  have HC1 := Lib.hid ((Ch.refl w p (some g)).byQ hA.rest)
  have HRD1 := Lib.hid (HRD.out.grownG hA.rest hgp hgW)
  clear hA HR HRD
  go_upto_region 3 with fail
  clear f0 c0
  generalize w.setCell ⟨g, 0, none⟩ (.int .i64 0) = w1 at HR1 HC1 HRD1 ⊢
  refine wp_plan (.t 0 (.t 1 (.t 2 (.t 3 (.b 4 (.t 5 (.u 6 (.t 7 (.t 8 (.t 9 .done))))) 6 (.t 7 (.u 4 (.t 5 (.t 8 (.t 9 .done)))))))))) (fun y => True) (by kernel_rfl) (by kernel_rfl) (by kernel_rfl) (fun c a d v w h => by cases d <;> exact h) trivial ?_
  haveI hne : Nonempty (In fun y => True) := ⟨⟨w1, trivial⟩⟩
  have HC2 := Lib.hid (HC1.out.byP (grown_drew w1 (some p)))
  have HRD2 := Lib.hid (HRD1.out.to (Below.refl _ _).drew)
  have HR2 : Hid (w1.drew.heap[g]? = some (.cells (row0 0).toArray 32 (0, 0))) := HR1
  clear HC1 HRD1 HR1
  generalize w1.drew = wa at HC2 HRD2 HR2 ⊢
  repeat (refine plan_t (by rfl) ?_; (first | go_big_quiet_skip | (go_big_quiet_want; go_big_quiet_op; go_big_quiet_on)); refine wpQuiet_nil ?_)
  refine plan_b ?_ ?_
  · skip
    refine plan_half_n (by rfl) (by kernel_rfl) ?_
    intro K hK
    go_wp2_with fail
    have hb := raw_any W0 wa L p bs bad 4 (by omega) HRD2.out
    rw [HV.out] at hb
    refine Calls.mono hb ?_
    clear hb
    rintro e wb ⟨a, m, cap, rfl, hm, hI, hR, hg1, hlo⟩
    replace HR2 := Lib.hid (grown_row hg1 (by intro e; injection e with e; exact hgp e) HR2.out)
    replace HC2 := Lib.hid (HC2.out.byP hg1)
    replace HRD2 := Lib.hid hR
    have hvl : v1.length = m := hI.1
    go_wp2_with fail
    obtain ⟨S1, hS1⟩ : ∃ S : World → Prop, ∀ y, S y ↔ IntsK .u8 y a m v1 := ⟨_, fun y => Iff.rfl⟩
    refine ⟨S1, fun _ _ => trivial, (hS1 _).2 hI, ?_⟩
    clear hR hg1 hlo hne
    haveI hne : Nonempty (In S1) := ⟨⟨wb, (hS1 _).2 hI⟩⟩
    have hc1 : ∀ s : In S1, (convert 23 9 (.slice a m cap)).run Try.prog s.w = .ok (.string (strOfNums v1)) s.w := fun s => conv_ints _ 5 _ _ Try.underlying23 Try.underlying5 Try.underlying9 ((hS1 _).1 s.h)
    have HS1 := Lib.hid hS1
    clear hS1
    repeat (refine plan_t (by rfl) ?_; (first | go_big_quiet_skip | (go_big_quiet_want; go_big_quiet_op; go_big_quiet_on)); refine wpQuiet_nil ?_)
    clear hc1 hne
    refine plan_un (by rfl) (by kernel_rfl) ?_
    intro K hK
    go_wp2_with fail
    have hal := (Below.refl wb.heap.size wb).alloc (Nat.le_refl _) (.cells #[.int .u8 0, .int .u8 0, .int .u8 0, .int .u8 1] 5)
    have hga := heap_alloc_new wb (.cells #[.int .u8 0, .int .u8 0, .int .u8 0, .int .u8 1] 5)
    replace HR2 := Lib.hid (bl_row hal (lt_of_block HR2.out) HR2.out)
    replace HC2 := Lib.hid (HC2.out.byB hal)
    replace HRD2 := Lib.hid (HRD2.out.to hal)
    have HI2 := Lib.hid (hI.below hal)
    clear hI
    obtain ⟨gn, hgn⟩ : ∃ gn, wb.heap.size = gn := ⟨_, rfl⟩
    rw [hgn] at hga
    obtain ⟨S2, hS2⟩ : ∃ S : World → Prop, ∀ y, S y ↔ (IntsK .u8 y a m v1 ∧ y.heap[gn]? = some (.cells (([0, 0, 0, 1] : List Int).map (Value.int .u8)).toArray 5 (0, 0))) := ⟨_, fun y => Iff.rfl⟩
    refine ⟨S2, fun x h => (HS1.out x).2 ((hS2 x).1 h).1, (hS2 _).2 ⟨HI2.out, hga⟩, ?_⟩
    haveI hne : Nonempty (In S2) := ⟨⟨_, (hS2 _).2 ⟨HI2.out, hga⟩⟩⟩
    clear hal hga
    rw [hgn]
    clear hgn
    generalize wb.alloc (.cells #[.int .u8 0, .int .u8 0, .int .u8 0, .int .u8 1] 5) = wc at HR2 HC2 HRD2 HI2 ⊢
    have hc2 : ∀ s : In S2, (convert 23 9 (.slice (some ⟨gn, 0, none⟩) 4 4)).run Try.prog s.w = .ok (.string (strOfNums [0, 0, 0, 1])) s.w := fun s => conv_ints _ 5 _ _ Try.underlying23 Try.underlying5 Try.underlying9 (IntsK.of_row (zs := [0, 0, 0, 1]) ((hS2 _).1 s.h).2 (by decide))
    clear hS2 HS1
    repeat (refine plan_t (by rfl) ?_; (first | go_big_quiet_skip | (go_big_quiet_want; go_big_quiet_op; go_big_quiet_on)); refine wpQuiet_nil ?_)
    clear hc2 hne
    have HWV := Lib.hid HI2.out.2.1
    clear HI2
    show Exit.then _ _ _ _ _
    by_cases heq : v1 = [0, 0, 0, 1]
    · subst heq
      rw [beq_self_eq_true, Bool.not_true]
      go_wp2_with fail
      obtain ⟨⟨n1, n2, n3, n4⟩, hn⟩ : ∃ r, nameM v2 v3 = r := ⟨_, rfl⟩
      have hb := takeName_any W0 wc L p g 1 v2 v3 (row0 0) (by decide) HR2.out hgp hgW HRD2.out
      have hnl := name_len v2 v3
      rw [hn] at hb hnl
      simp only at hb hnl
      have Hn := Lib.hid hn; have HnL := Lib.hid hnl
      clear hn hnl
      refine Calls.mono hb ?_
      clear hb
      rintro e wd ⟨rfl, hR, hr, hC⟩
      have HRD3 := Lib.hid hR; have HR3 := Lib.hid hr; have HC3 := Lib.hid (HC2.out.both hC)
      clear hR hr hC HR2 HC2 HRD2
      cases n1
      · go_wp2_with fail
        (try go_ret2)
        rw [← HQQ.out]
        refine ⟨HC3.out, .inr ⟨lg_no ?_, 0, _, _, rfl, HRD3.out⟩⟩
        rw [HV.out]; simp only; rw [Hn.out]; exact fun h => by cases h.2.2.1
      · have hl1 : (splice (row0 0) 1 (n2.map (Value.int .u8))).length = 20 := length_splice _ _ _ (by rw [List.length_map]; have := HnL.out; show 1 + n2.length ≤ 20; omega)
        have HL1 := Lib.hid hl1
        clear hl1
        go_wp2_with fail
        obtain ⟨⟨o1, o2, o3, o4⟩, ho⟩ : ∃ r, nameM n3 n4 = r := ⟨_, rfl⟩
        have hb := takeName_any W0 wd L p g 9 n3 n4 (splice (row0 0) 1 (n2.map (Value.int .u8))) (by rw [HL1.out]; decide) HR3.out hgp hgW HRD3.out
        have hol := name_len n3 n4
        rw [ho] at hb hol
        simp only at hb hol
        have Ho := Lib.hid ho; have HoL := Lib.hid hol
        clear ho hol
        refine Calls.mono hb ?_
        clear hb
        rintro e we ⟨rfl, hR, hr, hC⟩
        have HRD4 := Lib.hid hR; have HR4 := Lib.hid hr; have HC4 := Lib.hid (HC3.out.both hC)
        clear hR hr hC HR3 HC3 HRD3
        cases o1
        · go_wp2_with fail
          (try go_ret2)
          rw [← HQQ.out]
          refine ⟨HC4.out, .inr ⟨lg_no ?_, 0, _, _, rfl, HRD4.out⟩⟩
          rw [HV.out]; simp only; rw [Hn.out]; simp only; rw [Ho.out]; exact fun h => by cases h.2.2.2.1
        · have hl2 : (splice (splice (row0 0) 1 (n2.map (Value.int .u8))) 9 (o2.map (Value.int .u8))).length = 20 := (length_splice _ _ _ (by rw [List.length_map, HL1.out]; have := HoL.out; omega)).trans HL1.out
          have HL2 := Lib.hid hl2
          have hat : ∀ k, k = 0 ∨ 17 ≤ k → (splice (splice (row0 0) 1 (n2.map (Value.int .u8))) 9 (o2.map (Value.int .u8)))[k]? = (row0 0)[k]? := fun k hk => by
            rw [splice_at _ _ _ (by rw [List.length_map, HL1.out]; have := HoL.out; omega) k (by rw [List.length_map]; have := HoL.out; omega), splice_at _ _ _ (by rw [List.length_map]; have := HnL.out; show 1 + n2.length ≤ 20; omega) k (by rw [List.length_map]; have := HnL.out; omega)]
          have c0 : we.cell? ⟨g, 0, none⟩ = some (.int .i64 0) := row_cell HR4.out 0 _ (by rw [List.getElem?_toArray, hat 0 (by omega)]; rfl)
          have c17 : we.cell? ⟨g, 17, none⟩ = some (.slice none 0 0) := row_cell HR4.out 17 _ (by rw [List.getElem?_toArray, hat 17 (by omega)]; rfl)
          have hat17 := hat 17 (by omega)
          clear hat hl2
          have f17 := row_free HR4.out 17
          obtain ⟨⟨k1, k2, k3⟩, hk⟩ : ∃ r, textM o3 o4 = r := ⟨_, rfl⟩
          have HK := Lib.hid (show tokM 0 o3 o4 = (k1, k2, k3) from hk)
          have hb := text_any W0 we L p o3 o4 HRD4.out
          rw [hk] at hb
          have HTX := Lib.hid hb
          clear hb hk c17
          go_wp2_with fail
          refine Calls.mono HTX.out ?_
          rintro e wf ⟨b, n, cb, rfl, hm2, hI2, hR, hg1, hlo⟩
          have HI5 := Lib.hid hI2
          have HR5 := Lib.hid (grown_row hg1 (by intro e; injection e with e; exact hgp e) HR4.out)
          have HC5 := Lib.hid (HC4.out.byP hg1)
          have HRD5 := Lib.hid hR
          have HLO := Lib.hid (fun x hx => Nat.le_trans HC4.out.size (hlo x hx))
          have HKL : Hid (k1.length = n) := Lib.hid hI2.1
          have HGX : Hid (∀ x, b = some x → x.block ≠ g ∧ x.block ≠ p) := Lib.hid (fun x hx => ⟨by have := hlo x hx; have := lt_of_block HR4.out; omega, by have := hlo x hx; have := HRD4.out.lt; omega⟩)
          clear hI2 hR hg1 hlo HTX HR4 HC4 HRD4 c0 f17
          have f17 := row_free HR5.out 17
          have hlt17 : (17 : Nat) < 20 := by decide
          have c17 : ∃ v, wf.cell? ⟨g, 17, none⟩ = some v := ⟨_, row_cell HR5.out 17 _ (by rw [List.getElem?_toArray]; exact List.getElem?_eq_getElem (by rw [HL2.out]; decide))⟩
          obtain ⟨v17, c17⟩ := c17
          have hA := ((At.base HR5.out).set 17 (.slice b n cb)).conv (cs' := (lrow 0 n2 o2 (.slice b n cb)).toArray) (by unfold lrow; rw [List.setIfInBounds_toArray])
          have HI6 := Lib.hid (HI5.out.grownL hA.rest (fun h0 x hx e => by injection e with e; exact (HGX.out x hx).1 e))
          have HR6 := Lib.hid hA.row
          have HC6 := Lib.hid (HC5.out.byQ hA.rest)
          have HRD6 := Lib.hid (HRD5.out.grownG hA.rest hgp hgW)
          clear hA HR5 HC5 HRD5 HI5
          go_upto_region 9 with fail
          clear c17 f17
          generalize wf.setCell ⟨g, 17, none⟩ (.slice b n cb) = wg at HI6 HR6 HC6 HRD6 ⊢
          obtain ⟨S9, hS9⟩ : ∃ S : World → Prop, ∀ y, S y ↔ y.cell? ⟨g, 17, none⟩ = some (.slice b n cb) := ⟨_, fun y => Iff.rfl⟩
          have HC17 : Hid (∀ y : World, y.heap[g]? = some (.cells (lrow 0 n2 o2 (.slice b n cb)).toArray 32 (0, 0)) → S9 y) := Lib.hid (fun y h => (hS9 y).2 (row_cell h 17 _ (by rw [List.getElem?_toArray]; unfold lrow; rw [List.getElem?_set_self (by rw [HL2.out]; decide)])))
          refine wp_plan (.t 0 (.t 2 (.t 3 (.t 4 (.t 5 (.t 6 (.t 7 (.u 1 (.t 8 (.t 9 .done)))))))))) S9 (by kernel_rfl) (by kernel_rfl) (by kernel_rfl) (fun c a d v w h => by cases d <;> exact h) (HC17.out _ HR6.out) ?_
          have HC7 := Lib.hid (HC6.out.byP (grown_drew wg (some p)))
          have HRD7 := Lib.hid (HRD6.out.to (Below.refl _ _).drew)
          have HR7 : Hid (wg.drew.heap[g]? = some (.cells (lrow 0 n2 o2 (.slice b n cb)).toArray 32 (0, 0))) := HR6
          have HI7 : Hid (IntsK .u8 wg.drew b n k1) := Lib.hid (HI6.out.below (Below.refl _ _).drew)
          clear HC6 HRD6 HR6 HI6
          generalize wg.drew = wh at HC7 HRD7 HR7 HI7 ⊢
          haveI hne : Nonempty (In S9) := ⟨⟨wh, HC17.out _ HR7.out⟩⟩
          have hc17 : ∀ s : In S9, s.w.cell? ⟨g, 17, none⟩ = some (.slice b n cb) := fun s => (hS9 _).1 s.h
          clear hS9
          repeat (refine plan_t (by rfl) ?_; (first | go_big_quiet_skip | (go_big_quiet_want; go_big_quiet_op; go_big_quiet_on)); refine wpQuiet_nil ?_)
          clear hc17
          obtain ⟨⟨x1, x2, x3⟩, hx⟩ : ∃ r, varM k2 k3 = r := ⟨_, rfl⟩
          have hb := var_any W0 wh L p k2 k3 HRD7.out
          rw [hx] at hb
          have HXV := Lib.hid hb; have HX := Lib.hid hx
          clear hb hx
          refine plan_us (by rfl) (by kernel_rfl) ?_
          intro K hK
          go_wp2_with fail
          refine Calls.mono HXV.out ?_
          rintro e wi ⟨rfl, hR, hg1⟩
          have HR8 := Lib.hid (grown_row hg1 (by intro e; injection e with e; exact hgp e) HR7.out)
          have HC8 := Lib.hid (HC7.out.byP hg1)
          have HRD8 := Lib.hid hR
          have HI8 : Hid (IntsK .u8 wi b n k1) := Lib.hid (HI7.out.grownL hg1 (fun h0 x hx e => by injection e with e; exact (HGX.out x hx).2 e))
          clear hR hg1 HR7 HC7 HRD7 HI7 HXV
          go_wp2_with fail
          refine ⟨HC17.out _ HR8.out, ?_⟩
          repeat (refine plan_t (by rfl) ?_; (first | go_big_quiet_skip | (go_big_quiet_want; go_big_quiet_op; go_big_quiet_on)); refine wpQuiet_nil ?_)
          clear hne HC17
          show Exit.then _ _ _ _ _
          by_cases h32 : n ≤ 32
          · have h32' : ((n : Nat) : Int) ≤ 32 := by omega
            rw [decide_eq_true h32']
            go_wp2_with fail
            (try go_ret2)
            rw [← HQQ.out]
            refine ⟨HC8.out, .inl ⟨_, b, cb, lg_some HQ.out (by decide) HV.out Hn.out Ho.out HK.out (by rw [HKL.out]; exact h32) HX.out, rfl, HRD8.out, ?_, ?_, ?_, HLO.out⟩⟩
            · simp only; rw [HKL.out]; exact HR8.out
            · simp only; rw [HKL.out]; exact HI8.out
            · simp only; rw [HKL.out]; exact hm2
          · have h32' : ¬ ((n : Nat) : Int) ≤ 32 := by omega
            rw [decide_eq_false h32']
            go_wp2_with fail
            (try go_ret2)
            rw [← HQQ.out]
            refine ⟨HC8.out, .inr ⟨lg_no ?_, _, _, _, rfl, HRD8.out⟩⟩
            rw [HQ.out, HV.out]; simp only; rw [Hn.out]; simp only; rw [Ho.out]; simp only; rw [HK.out]; simp only; rw [HKL.out]; exact fun h => h32 h.2.2.2.2
    · have hne1 := str_ne v1 [0, 0, 0, 1] HWV.out (by decide) heq
      rw [hne1, Bool.not_false]
      clear hne1
      go_wp2_with fail
      (try go_ret2)
      rw [← HQQ.out]
      refine ⟨HC2.out, .inr ⟨lg_no ?_, 0, _, _, rfl, HRD2.out⟩⟩
      rw [HV.out]; exact fun h => heq h.2.1
  · skip
    have HRDz := HRD2
    refine plan_half_n (by rfl) (by kernel_rfl) ?_
    intro K hK
    go_wp2_with fail
    have hal := (Below.refl wa.heap.size wa).alloc (Nat.le_refl _) (.cells #[.int .u8 0, .int .u8 0, .int .u8 0, .int .u8 1] 5)
    have hga := heap_alloc_new wa (.cells #[.int .u8 0, .int .u8 0, .int .u8 0, .int .u8 1] 5)
    replace HR2 := Lib.hid (bl_row hal (lt_of_block HR2.out) HR2.out)
    replace HC2 := Lib.hid (HC2.out.byB hal)
    replace HRD2 := Lib.hid (HRD2.out.to hal)
    have hplt := HRDz.out.lt
    obtain ⟨gn, hgn⟩ : ∃ gn, wa.heap.size = gn := ⟨_, rfl⟩
    rw [hgn] at hga
    obtain ⟨S1, hS1⟩ : ∃ S : World → Prop, ∀ y, S y ↔ y.heap[gn]? = some (.cells (([0, 0, 0, 1] : List Int).map (Value.int .u8)).toArray 5 (0, 0)) := ⟨_, fun y => Iff.rfl⟩
    refine ⟨S1, fun _ _ => trivial, (hS1 _).2 hga, ?_⟩
    clear hne
    haveI hne : Nonempty (In S1) := ⟨⟨_, (hS1 _).2 hga⟩⟩
    rw [hgn]
    have HGP := Lib.hid (show gn ≠ p by have := HRDz.out.lt; omega)
    clear hal hgn HRDz
    generalize wa.alloc (.cells #[.int .u8 0, .int .u8 0, .int .u8 0, .int .u8 1] 5) = wb at HR2 HC2 HRD2 hga ⊢
    have hc2 : ∀ s : In S1, (convert 23 9 (.slice (some ⟨gn, 0, none⟩) 4 4)).run Try.prog s.w = .ok (.string (strOfNums [0, 0, 0, 1])) s.w := fun s => conv_ints _ 5 _ _ Try.underlying23 Try.underlying5 Try.underlying9 (IntsK.of_row (zs := [0, 0, 0, 1]) ((hS1 _).1 s.h) (by decide))
    have HS1 := Lib.hid hS1
    have HGA := Lib.hid hga
    clear hS1 hga
    repeat (refine plan_t (by rfl) ?_; (first | go_big_quiet_skip | (go_big_quiet_want; go_big_quiet_op; go_big_quiet_on)); refine wpQuiet_nil ?_)
    clear hc2 hne
    refine plan_un (by rfl) (by kernel_rfl) ?_
    intro K hK
    go_wp2_with fail
    have hb := raw_any W0 wb L p bs bad 4 (by omega) HRD2.out
    rw [HV.out] at hb
    refine Calls.mono hb ?_
    clear hb
    rintro e wc ⟨a, m, cap, rfl, hm, hI, hR, hg1, hlo⟩
    replace HR2 := Lib.hid (grown_row hg1 (by intro e; injection e with e; exact hgp e) HR2.out)
    replace HC2 := Lib.hid (HC2.out.byP hg1)
    replace HRD2 := Lib.hid hR
    have hvl : v1.length = m := hI.1
    have hga2 := grown_row hg1 (by intro e; injection e with e; exact HGP.out e) HGA.out
    go_wp2_with fail
    obtain ⟨S2, hS2⟩ : ∃ S : World → Prop, ∀ y, S y ↔ (IntsK .u8 y a m v1 ∧ y.heap[gn]? = some (.cells (([0, 0, 0, 1] : List Int).map (Value.int .u8)).toArray 5 (0, 0))) := ⟨_, fun y => Iff.rfl⟩
    refine ⟨S2, fun x h => (HS1.out x).2 ((hS2 x).1 h).2, (hS2 _).2 ⟨hI, hga2⟩, ?_⟩
    clear hR hg1 hlo
    haveI hne : Nonempty (In S2) := ⟨⟨wc, (hS2 _).2 ⟨hI, hga2⟩⟩⟩
    have HWV := Lib.hid hI.2.1
    clear hI HGA hga2 HGP
    have hc1 : ∀ s : In S2, (convert 23 9 (.slice a m cap)).run Try.prog s.w = .ok (.string (strOfNums v1)) s.w := fun s => conv_ints _ 5 _ _ Try.underlying23 Try.underlying5 Try.underlying9 ((hS2 _).1 s.h).1
    clear hS2 HS1
    repeat (refine plan_t (by rfl) ?_; (first | go_big_quiet_skip | (go_big_quiet_want; go_big_quiet_op; go_big_quiet_on)); refine wpQuiet_nil ?_)
    clear hc1 hne
    show Exit.then _ _ _ _ _
    by_cases heq : v1 = [0, 0, 0, 1]
    · subst heq
      rw [beq_self_eq_true, Bool.not_true]
      go_wp2_with fail
      obtain ⟨⟨n1, n2, n3, n4⟩, hn⟩ : ∃ r, nameM v2 v3 = r := ⟨_, rfl⟩
      have hb := takeName_any W0 wc L p g 1 v2 v3 (row0 0) (by decide) HR2.out hgp hgW HRD2.out
      have hnl := name_len v2 v3
      rw [hn] at hb hnl
      simp only at hb hnl
      have Hn := Lib.hid hn; have HnL := Lib.hid hnl
      clear hn hnl
      refine Calls.mono hb ?_
      clear hb
      rintro e wd ⟨rfl, hR, hr, hC⟩
      have HRD3 := Lib.hid hR; have HR3 := Lib.hid hr; have HC3 := Lib.hid (HC2.out.both hC)
      clear hR hr hC HR2 HC2 HRD2
      cases n1
      · go_wp2_with fail
        (try go_ret2)
        rw [← HQQ.out]
        refine ⟨HC3.out, .inr ⟨lg_no ?_, 0, _, _, rfl, HRD3.out⟩⟩
        rw [HV.out]; simp only; rw [Hn.out]; exact fun h => by cases h.2.2.1
      · have hl1 : (splice (row0 0) 1 (n2.map (Value.int .u8))).length = 20 := length_splice _ _ _ (by rw [List.length_map]; have := HnL.out; show 1 + n2.length ≤ 20; omega)
        have HL1 := Lib.hid hl1
        clear hl1
        go_wp2_with fail
        obtain ⟨⟨o1, o2, o3, o4⟩, ho⟩ : ∃ r, nameM n3 n4 = r := ⟨_, rfl⟩
        have hb := takeName_any W0 wd L p g 9 n3 n4 (splice (row0 0) 1 (n2.map (Value.int .u8))) (by rw [HL1.out]; decide) HR3.out hgp hgW HRD3.out
        have hol := name_len n3 n4
        rw [ho] at hb hol
        simp only at hb hol
        have Ho := Lib.hid ho; have HoL := Lib.hid hol
        clear ho hol
        refine Calls.mono hb ?_
        clear hb
        rintro e we ⟨rfl, hR, hr, hC⟩
        have HRD4 := Lib.hid hR; have HR4 := Lib.hid hr; have HC4 := Lib.hid (HC3.out.both hC)
        clear hR hr hC HR3 HC3 HRD3
        cases o1
        · go_wp2_with fail
          (try go_ret2)
          rw [← HQQ.out]
          refine ⟨HC4.out, .inr ⟨lg_no ?_, 0, _, _, rfl, HRD4.out⟩⟩
          rw [HV.out]; simp only; rw [Hn.out]; simp only; rw [Ho.out]; exact fun h => by cases h.2.2.2.1
        · have hl2 : (splice (splice (row0 0) 1 (n2.map (Value.int .u8))) 9 (o2.map (Value.int .u8))).length = 20 := (length_splice _ _ _ (by rw [List.length_map, HL1.out]; have := HoL.out; omega)).trans HL1.out
          have HL2 := Lib.hid hl2
          have hat : ∀ k, k = 0 ∨ 17 ≤ k → (splice (splice (row0 0) 1 (n2.map (Value.int .u8))) 9 (o2.map (Value.int .u8)))[k]? = (row0 0)[k]? := fun k hk => by
            rw [splice_at _ _ _ (by rw [List.length_map, HL1.out]; have := HoL.out; omega) k (by rw [List.length_map]; have := HoL.out; omega), splice_at _ _ _ (by rw [List.length_map]; have := HnL.out; show 1 + n2.length ≤ 20; omega) k (by rw [List.length_map]; have := HnL.out; omega)]
          have c0 : we.cell? ⟨g, 0, none⟩ = some (.int .i64 0) := row_cell HR4.out 0 _ (by rw [List.getElem?_toArray, hat 0 (by omega)]; rfl)
          have c17 : we.cell? ⟨g, 17, none⟩ = some (.slice none 0 0) := row_cell HR4.out 17 _ (by rw [List.getElem?_toArray, hat 17 (by omega)]; rfl)
          have hat17 := hat 17 (by omega)
          clear hat hl2
          have f17 := row_free HR4.out 17
          obtain ⟨⟨k1, k2, k3⟩, hk⟩ : ∃ r, textM o3 o4 = r := ⟨_, rfl⟩
          have HK := Lib.hid (show tokM 0 o3 o4 = (k1, k2, k3) from hk)
          have hb := text_any W0 we L p o3 o4 HRD4.out
          rw [hk] at hb
          have HTX := Lib.hid hb
          clear hb hk c17
          go_wp2_with fail
          refine Calls.mono HTX.out ?_
          rintro e wf ⟨b, n, cb, rfl, hm2, hI2, hR, hg1, hlo⟩
          have HI5 := Lib.hid hI2
          have HR5 := Lib.hid (grown_row hg1 (by intro e; injection e with e; exact hgp e) HR4.out)
          have HC5 := Lib.hid (HC4.out.byP hg1)
          have HRD5 := Lib.hid hR
          have HLO := Lib.hid (fun x hx => Nat.le_trans HC4.out.size (hlo x hx))
          have HKL : Hid (k1.length = n) := Lib.hid hI2.1
          have HGX : Hid (∀ x, b = some x → x.block ≠ g ∧ x.block ≠ p) := Lib.hid (fun x hx => ⟨by have := hlo x hx; have := lt_of_block HR4.out; omega, by have := hlo x hx; have := HRD4.out.lt; omega⟩)
          clear hI2 hR hg1 hlo HTX HR4 HC4 HRD4 c0 f17
          have f17 := row_free HR5.out 17
          have hlt17 : (17 : Nat) < 20 := by decide
          have c17 : ∃ v, wf.cell? ⟨g, 17, none⟩ = some v := ⟨_, row_cell HR5.out 17 _ (by rw [List.getElem?_toArray]; exact List.getElem?_eq_getElem (by rw [HL2.out]; decide))⟩
          obtain ⟨v17, c17⟩ := c17
          have hA := ((At.base HR5.out).set 17 (.slice b n cb)).conv (cs' := (lrow 0 n2 o2 (.slice b n cb)).toArray) (by unfold lrow; rw [List.setIfInBounds_toArray])
          have HI6 := Lib.hid (HI5.out.grownL hA.rest (fun h0 x hx e => by injection e with e; exact (HGX.out x hx).1 e))
          have HR6 := Lib.hid hA.row
          have HC6 := Lib.hid (HC5.out.byQ hA.rest)
          have HRD6 := Lib.hid (HRD5.out.grownG hA.rest hgp hgW)
          clear hA HR5 HC5 HRD5 HI5
          go_upto_region 9 with fail
          clear c17 f17
          generalize wf.setCell ⟨g, 17, none⟩ (.slice b n cb) = wg at HI6 HR6 HC6 HRD6 ⊢
          obtain ⟨S9, hS9⟩ : ∃ S : World → Prop, ∀ y, S y ↔ y.cell? ⟨g, 17, none⟩ = some (.slice b n cb) := ⟨_, fun y => Iff.rfl⟩
          have HC17 : Hid (∀ y : World, y.heap[g]? = some (.cells (lrow 0 n2 o2 (.slice b n cb)).toArray 32 (0, 0)) → S9 y) := Lib.hid (fun y h => (hS9 y).2 (row_cell h 17 _ (by rw [List.getElem?_toArray]; unfold lrow; rw [List.getElem?_set_self (by rw [HL2.out]; decide)])))
          refine wp_plan (.t 0 (.t 2 (.t 3 (.t 4 (.t 5 (.t 6 (.t 7 (.u 1 (.t 8 (.t 9 .done)))))))))) S9 (by kernel_rfl) (by kernel_rfl) (by kernel_rfl) (fun c a d v w h => by cases d <;> exact h) (HC17.out _ HR6.out) ?_
          have HC7 := Lib.hid (HC6.out.byP (grown_drew wg (some p)))
          have HRD7 := Lib.hid (HRD6.out.to (Below.refl _ _).drew)
          have HR7 : Hid (wg.drew.heap[g]? = some (.cells (lrow 0 n2 o2 (.slice b n cb)).toArray 32 (0, 0))) := HR6
          have HI7 : Hid (IntsK .u8 wg.drew b n k1) := Lib.hid (HI6.out.below (Below.refl _ _).drew)
          clear HC6 HRD6 HR6 HI6
          generalize wg.drew = wh at HC7 HRD7 HR7 HI7 ⊢
          haveI hne : Nonempty (In S9) := ⟨⟨wh, HC17.out _ HR7.out⟩⟩
          have hc17 : ∀ s : In S9, s.w.cell? ⟨g, 17, none⟩ = some (.slice b n cb) := fun s => (hS9 _).1 s.h
          clear hS9
          repeat (refine plan_t (by rfl) ?_; (first | go_big_quiet_skip | (go_big_quiet_want; go_big_quiet_op; go_big_quiet_on)); refine wpQuiet_nil ?_)
          clear hc17
          obtain ⟨⟨x1, x2, x3⟩, hx⟩ : ∃ r, varM k2 k3 = r := ⟨_, rfl⟩
          have hb := var_any W0 wh L p k2 k3 HRD7.out
          rw [hx] at hb
          have HXV := Lib.hid hb; have HX := Lib.hid hx
          clear hb hx
          refine plan_us (by rfl) (by kernel_rfl) ?_
          intro K hK
          go_wp2_with fail
          refine Calls.mono HXV.out ?_
          rintro e wi ⟨rfl, hR, hg1⟩
          have HR8 := Lib.hid (grown_row hg1 (by intro e; injection e with e; exact hgp e) HR7.out)
          have HC8 := Lib.hid (HC7.out.byP hg1)
          have HRD8 := Lib.hid hR
          have HI8 : Hid (IntsK .u8 wi b n k1) := Lib.hid (HI7.out.grownL hg1 (fun h0 x hx e => by injection e with e; exact (HGX.out x hx).2 e))
          clear hR hg1 HR7 HC7 HRD7 HI7 HXV
          go_wp2_with fail
          refine ⟨HC17.out _ HR8.out, ?_⟩
          repeat (refine plan_t (by rfl) ?_; (first | go_big_quiet_skip | (go_big_quiet_want; go_big_quiet_op; go_big_quiet_on)); refine wpQuiet_nil ?_)
          clear hne HC17
          show Exit.then _ _ _ _ _
          by_cases h32 : n ≤ 32
          · have h32' : ((n : Nat) : Int) ≤ 32 := by omega
            rw [decide_eq_true h32']
            go_wp2_with fail
            (try go_ret2)
            rw [← HQQ.out]
            refine ⟨HC8.out, .inl ⟨_, b, cb, lg_some HQ.out (by decide) HV.out Hn.out Ho.out HK.out (by rw [HKL.out]; exact h32) HX.out, rfl, HRD8.out, ?_, ?_, ?_, HLO.out⟩⟩
            · simp only; rw [HKL.out]; exact HR8.out
            · simp only; rw [HKL.out]; exact HI8.out
            · simp only; rw [HKL.out]; exact hm2
          · have h32' : ¬ ((n : Nat) : Int) ≤ 32 := by omega
            rw [decide_eq_false h32']
            go_wp2_with fail
            (try go_ret2)
            rw [← HQQ.out]
            refine ⟨HC8.out, .inr ⟨lg_no ?_, _, _, _, rfl, HRD8.out⟩⟩
            rw [HQ.out, HV.out]; simp only; rw [Hn.out]; simp only; rw [Ho.out]; simp only; rw [HK.out]; simp only; rw [HKL.out]; exact fun h => h32 h.2.2.2.2
    · have hne1 := str_ne v1 [0, 0, 0, 1] HWV.out (by decide) heq
      rw [hne1, Bool.not_false]
      clear hne1
      go_wp2_with fail
      (try go_ret2)
      rw [← HQQ.out]
      refine ⟨HC2.out, .inr ⟨lg_no ?_, 0, _, _, rfl, HRD2.out⟩⟩
      rw [HV.out]; exact fun h => heq h.2.1
end Go.Proofs.Ythofbckkjcidmaa
