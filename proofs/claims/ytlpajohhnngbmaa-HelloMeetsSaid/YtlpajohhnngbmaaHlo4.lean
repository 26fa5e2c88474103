/- hello: ended, its test. -/
import Derived.Test.YtlpajohhnngbmaaHlo3
import Derived.Lib.Bytes
namespace Go.Proofs.Ytlpajohhnngbmaa
open Go.RowKit
set_option linter.unusedVariables false
set_option linter.unusedSimpArgs false

theorem bytesOf_injH : ∀ (l m : List Int), (∀ x ∈ l, 0 ≤ x ∧ x ≤ 255) → (∀ x ∈ m, 0 ≤ x ∧ x ≤ 255) → Lib.bytesOf l = Lib.bytesOf m → l = m
  | [], [], _, _, _ => rfl
  | [], _ :: _, _, _, h => by simp [Lib.bytesOf] at h
  | _ :: _, [], _, _, h => by simp [Lib.bytesOf] at h
  | x :: l, y :: m, hl, hm, h => by
    simp only [Lib.bytesOf, List.map_cons, List.cons.injEq] at h
    obtain ⟨h1, h2⟩ := h
    have hx := hl x (by simp)
    have hy := hm y (by simp)
    have e1 := congrArg UInt8.toNat h1
    rw [UInt8.toNat_ofNat_of_lt' (by show x.toNat < 256; omega), UInt8.toNat_ofNat_of_lt' (by show y.toNat < 256; omega)] at e1
    rw [bytesOf_injH l m (fun z hz => hl z (by simp [hz])) (fun z hz => hm z (by simp [hz])) h2, show x = y by omega]
theorem strOfNums_injH (l m : List Int) (hl : ∀ x ∈ l, (Lit.int .u8 x).wf = true) (hm : ∀ x ∈ m, (Lit.int .u8 x).wf = true) (h : strOfNums l = strOfNums m) : l = m := by
  have h2 := congrArg ByteArray.toList h
  rw [Lib.strOfNums_toList, Lib.strOfNums_toList] at h2
  exact bytesOf_injH l m (fun x hx => bounds_u8 (hl x hx)) (fun x hx => bounds_u8 (hm x hx)) h2

theorem str_neH (l m : List Int) (hl : ∀ x ∈ l, (Lit.int .u8 x).wf = true) (hm : ∀ x ∈ m, (Lit.int .u8 x).wf = true) (h : ¬ l = m) : ((strOfNums l).toList == (strOfNums m).toList) = false := by
  rw [Lib.strOfNums_toList, Lib.strOfNums_toList, beq_eq_false_iff_ne]
  exact fun e => h (bytesOf_injH l m (fun x hx => bounds_u8 (hl x hx)) (fun x hx => bounds_u8 (hm x hx)) e)

theorem str_test (l m : List Int) (hl : ∀ x ∈ l, (Lit.int .u8 x).wf = true) (hm : ∀ x ∈ m, (Lit.int .u8 x).wf = true) : (!((strOfNums l).toList == (strOfNums m).toList)) = decide (l ≠ m) := by
  by_cases h : l = m
  · subst h; simp
  · rw [str_neH l m hl hm h, decide_eq_true h]; rfl
/-- a part of a function's text. -/
def subRegion (n : Nat) : Code → Option Code
  | .region k o d => if k = n then some (.region k o d) else none
  | .seq a b => match subRegion n a with
    | some c => some c
    | none => subRegion n b
  | .cond _ a b => match subRegion n a with
    | some c => some c
    | none => subRegion n b
  | .block _ c => subRegion n c
  | .loop c => subRegion n c
  | _ => none
def subBlock (n : Nat) : Code → Option Code
  | .block k c => if k = n then some (.block k c) else subBlock n c
  | .seq a b => match subBlock n a with
    | some c => some c
    | none => subBlock n b
  | .cond _ a b => match subBlock n a with
    | some c => some c
    | none => subBlock n b
  | .loop c => subBlock n c
  | _ => none
set_option maxRecDepth 100000 in
set_option maxHeartbeats 8000000 in
theorem ended_r1 {x2 x3 x5 x6 x7 x8 x9 x10 x11 x12 x13 x14 x15 x16 x17 x18 x19 x20 x21 x22 x23 x24 x25 x26 x27 x28 x29 x30 : Value} {p ga go len cap : Nat} {bs : List Int} {R : List Value} {ak : Bool} {sh : Int} {c : Bool} (w : World) {Q : Exit → Act → World → Prop}
    (h3 : 3 ≤ len) (hlc : len ≤ cap) (hc : c = decide (bs.drop 3 ≠ finM sh (!ak))) (HI : Hid (IntsK .u8 w (some ⟨ga, go, none⟩) len bs)) (HR : Hid (w.heap[p]? = some (.cells R.toArray 69 (0, 0)))) (h0 : R[0]? = some (.bool ak)) (h8 : R[8]? = some (.int .u64 sh))
    (hQp : ∀ c a d v w, Q (.panic c) (a.put d v) w → Q (.panic c) a w)
    (hQ : ∀ (y5 y6 y7 y8 y9 y10 y11 y12 y13 y14 y15 : Value) (w' : World), Below w.heap.size w w' → Q .normal ⟨List.toArray (.pointer (some ⟨p, 0, none⟩) :: .slice (some ⟨ga, go, none⟩) len cap :: x2 :: x3 :: .int .i64 0 :: y5 :: y6 :: y7 :: y8 :: y9 :: y10 :: y11 :: y12 :: y13 :: y14 :: y15 :: .bool c :: x17 :: x18 :: x19 :: x20 :: x21 :: x22 :: x23 :: x24 :: x25 :: x26 :: x27 :: x28 :: x29 :: x30 :: []), []⟩ w') :
    Code.wp Try.prog (((Try.f40.body.bind (subRegion 1)).getD .skip)) Q ⟨List.toArray (.pointer (some ⟨p, 0, none⟩) :: .slice (some ⟨ga, go, none⟩) len cap :: x2 :: x3 :: .int .i64 0 :: x5 :: x6 :: x7 :: x8 :: x9 :: x10 :: x11 :: x12 :: x13 :: x14 :: x15 :: x16 :: x17 :: x18 :: x19 :: x20 :: x21 :: x22 :: x23 :: x24 :: x25 :: x26 :: x27 :: x28 :: x29 :: x30 :: []), []⟩ w := by
  have HK := Lib.hid hQ; have HKP := Lib.hid hQp
  clear hQ hQp
  conv => arg 2; whnf
  have HF := Lib.hid (fun W (hb : Below w.heap.size w W) => finish_any W p R sh (!ak) (bl_row hb (lt_of_block HR.out) HR.out) h8)
  have f0 : ∀ t : In (fun y => Below w.heap.size w y), t.w.cell? ⟨p, 0, none⟩ = some (.bool ak) := fun t => cell_row (bl_row t.h (lt_of_block HR.out) HR.out) 0 _ h0
  have E1 : (3 : Int) ≤ (len : Int) := by omega
  have E2 : (3 : Int) ≤ (cap : Int) := by omega
  by_cases hz : cap = 3
  · skip
    obtain rfl : len = 3 := by omega
    subst hz
    have hd : bs.drop 3 = [] := List.drop_of_length_le (by rw [HI.out.1]; exact Nat.le_refl _)
    rw [hd] at hc
    have q1 : ∀ t : In (fun y => Below w.heap.size w y), (convert 31 9 (.slice (some ⟨ga, go, none⟩) 0 0)).run Try.prog t.w = .ok (.string (strOfNums ([] : List Int))) t.w := fun t => conv_ints _ 5 _ _ Try.underlying31 Try.underlying5 Try.underlying9 (IntsK.nil _ _ _)
    refine wp_plan (.t 0 (.t 1 (.t 2 (.t 3 (.t 4 (.t 5 (.t 6 (.t 7 (.t 8 (.u 9 (.t 10 (.t 11 .done)))))))))))) (fun y => Below w.heap.size w y) (by kernel_rfl) (by kernel_rfl) (by kernel_rfl) (fun c a d v w h => by first | (cases d <;> exact h) | exact HKP.out c a d v w h) (Below.refl _ _).drew ?_
    have hS : Below w.heap.size w w.drew := (Below.refl _ _).drew
    generalize w.drew = W0 at hS ⊢
    haveI hne2 : Nonempty (In (fun y => Below w.heap.size w y)) := ⟨⟨w, Below.refl _ _⟩⟩
    repeat (first | (refine plan_t (by rfl) ?_; (first | go_big_quiet_skip | (go_big_quiet_want; go_big_quiet_op; go_big_quiet_on)); refine wpQuiet_nil ?_))
    clear q1 f0
    refine plan_un (by rfl) (by kernel_rfl) ?_
    intro K hK
    go_wp2_with fail
    refine Calls.mono (HF.out _ hS) ?_
    rintro e W1 ⟨gf, rfl, hb, hif, hge⟩
    go_wp2_with fail
    refine ⟨fun y => Below W1.heap.size W1 y, fun x hx => bl_next (bl_next hS hS.size hb) (bl_next hS hS.size hb).size hx, Below.refl _ _, ?_⟩
    replace hS := bl_next hS hS.size hb
    clear hb hne2
    haveI hne2 : Nonempty (In (fun y => Below W1.heap.size W1 y)) := ⟨⟨W1, Below.refl _ _⟩⟩
    have q2 : ∀ t : In (fun y => Below W1.heap.size W1 y), (convert 31 9 (.slice (some ⟨gf, 0, none⟩) 8 8)).run Try.prog t.w = .ok (.string (strOfNums (finM sh (!ak)))) t.w := fun t => conv_ints _ 5 _ _ Try.underlying31 Try.underlying5 Try.underlying9 (hif.below t.h)
    repeat (first | (refine plan_t (by rfl) ?_; (first | go_big_quiet_skip | (go_big_quiet_want; go_big_quiet_op; go_big_quiet_on)); refine wpQuiet_nil ?_))
    clear hne2 q2
    have hse : (!((strOfNums ([] : List Int)).toList == (strOfNums (finM sh (!ak))).toList)) = c := by rw [hc]; exact str_test _ _ (by intro x hx; cases hx) (finM_wf _ _)
    rw [hse]
    exact HK.out _ _ _ _ _ _ _ _ _ _ _ _ hS
  · skip
    have E3 : cap ≠ 0 := by omega
    have q1 : ∀ t : In (fun y => Below w.heap.size w y), (convert 31 9 (.slice (some ⟨ga, go + 3, none⟩) (len - 3) (cap - 3))).run Try.prog t.w = .ok (.string (strOfNums (bs.drop 3))) t.w := fun t => conv_ints _ 5 _ _ Try.underlying31 Try.underlying5 Try.underlying9 ((HI.out.suf 3 h3).below t.h)
    refine wp_plan (.t 0 (.t 1 (.t 2 (.t 3 (.t 4 (.t 5 (.t 6 (.t 7 (.t 8 (.u 9 (.t 10 (.t 11 .done)))))))))))) (fun y => Below w.heap.size w y) (by kernel_rfl) (by kernel_rfl) (by kernel_rfl) (fun c a d v w h => by first | (cases d <;> exact h) | exact HKP.out c a d v w h) (Below.refl _ _).drew ?_
    have hS : Below w.heap.size w w.drew := (Below.refl _ _).drew
    generalize w.drew = W0 at hS ⊢
    haveI hne2 : Nonempty (In (fun y => Below w.heap.size w y)) := ⟨⟨w, Below.refl _ _⟩⟩
    repeat (first | (refine plan_t (by rfl) ?_; (first | go_big_quiet_skip | (go_big_quiet_want; go_big_quiet_op; go_big_quiet_on)); refine wpQuiet_nil ?_))
    clear q1 f0
    refine plan_un (by rfl) (by kernel_rfl) ?_
    intro K hK
    go_wp2_with fail
    refine Calls.mono (HF.out _ hS) ?_
    rintro e W1 ⟨gf, rfl, hb, hif, hge⟩
    go_wp2_with fail
    refine ⟨fun y => Below W1.heap.size W1 y, fun x hx => bl_next (bl_next hS hS.size hb) (bl_next hS hS.size hb).size hx, Below.refl _ _, ?_⟩
    replace hS := bl_next hS hS.size hb
    clear hb hne2
    haveI hne2 : Nonempty (In (fun y => Below W1.heap.size W1 y)) := ⟨⟨W1, Below.refl _ _⟩⟩
    have q2 : ∀ t : In (fun y => Below W1.heap.size W1 y), (convert 31 9 (.slice (some ⟨gf, 0, none⟩) 8 8)).run Try.prog t.w = .ok (.string (strOfNums (finM sh (!ak)))) t.w := fun t => conv_ints _ 5 _ _ Try.underlying31 Try.underlying5 Try.underlying9 (hif.below t.h)
    repeat (first | (refine plan_t (by rfl) ?_; (first | go_big_quiet_skip | (go_big_quiet_want; go_big_quiet_op; go_big_quiet_on)); refine wpQuiet_nil ?_))
    clear hne2 q2
    have hse : (!((strOfNums (bs.drop 3)).toList == (strOfNums (finM sh (!ak))).toList)) = c := by rw [hc]; exact str_test _ _ (fun x hx => HI.out.2.1 x (List.mem_of_mem_drop hx)) (finM_wf _ _)
    rw [hse]
    exact HK.out _ _ _ _ _ _ _ _ _ _ _ _ hS
end Go.Proofs.Ytlpajohhnngbmaa
