/- a region that draws its order: a plan where three may come up. -/
import Derived.Test.YtjkedccbieoenaaRegion
import Derived.Deep.MidRow
namespace Go.Proofs.Ytjkedccbieoenaa
open Go.RowKit
set_option linter.unusedVariables false

inductive Plan3 where
  | old (p : Plan)
  | t (k : Nat) (p : Plan3)
  | n2 (k : Nat) (p : Plan3) (j : Nat) (q : Plan3)
  | n3 (k : Nat) (p : Plan3) (j : Nat) (q : Plan3) (i : Nat) (r : Plan3)

def Plan3.ok (md : Region.Mode) (ops : Array Oper) : Plan3 → Nat → Array Bool → Bool
  | .old p, n, l => p.ok md ops n l
  | .t _ _, 0, _ => false
  | .t k p, n + 1, l => (Region.ready md ops l).contains k && Region.free md ops l k && ((ops[k]?).map isVal).getD false && p.ok md ops n (l.setIfInBounds k true)
  | .n2 _ _ _ _, 0, _ => false
  | .n2 k p j q, n + 1, l => Region.ready md ops l == [k, j] && p.ok md ops n (l.setIfInBounds k true) && q.ok md ops n (l.setIfInBounds j true)
  | .n3 _ _ _ _ _ _, 0, _ => false
  | .n3 k p j q i r, n + 1, l => Region.ready md ops l == [k, j, i] && p.ok md ops n (l.setIfInBounds k true) && q.ok md ops n (l.setIfInBounds j true) && r.ok md ops n (l.setIfInBounds i true)

section
variable {P : Program} {ops : Array Oper} {Q : Exit → Act → World → Prop} {md : Region.Mode}

def Plan3.wp (P : Program) (ops : Array Oper) (Q : Exit → Act → World → Prop) : Plan3 → (World → Prop) → Act → World → Prop
  | .old p, S, a, w => p.wp P ops Q S a w
  | .t k p, S, a, w => ∃ o, ops[k]? = some o ∧ wpQuiet P ops (fun w' => ∃ s : In S, w' = s.w) (fun a' => p.wp P ops Q S a' w) [o] a
  | .n2 k p j q, S, a, w =>
    wpOp P ops Q k (fun a' w' => ∃ S' : World → Prop, (∀ x, S' x → S x) ∧ S' w' ∧ p.wp P ops Q S' a' w') a w ∧
    wpOp P ops Q j (fun a' w' => ∃ S' : World → Prop, (∀ x, S' x → S x) ∧ S' w' ∧ q.wp P ops Q S' a' w') a w
  | .n3 k p j q i r, S, a, w =>
    wpOp P ops Q k (fun a' w' => ∃ S' : World → Prop, (∀ x, S' x → S x) ∧ S' w' ∧ p.wp P ops Q S' a' w') a w ∧
    wpOp P ops Q j (fun a' w' => ∃ S' : World → Prop, (∀ x, S' x → S x) ∧ S' w' ∧ q.wp P ops Q S' a' w') a w ∧
    wpOp P ops Q i (fun a' w' => ∃ S' : World → Prop, (∀ x, S' x → S x) ∧ S' w' ∧ r.wp P ops Q S' a' w') a w

theorem wpAnyG_of_plan3 (hs : Region.noSelect ops = true) (hQ : ∀ c a d v w, Q (.panic c) (a.put d v) w → Q (.panic c) a w) :
    ∀ (p : Plan3) (n : Nat) (l : Array Bool) (S : World → Prop) (a : Act) (w : World), p.ok md ops n l = true → S w → p.wp P ops Q S a w → wpAnyG P md ops Q n l S a w := by
  intro p
  induction p with
  | old p => intro n l S a w hok hS h; exact wpAnyG_of_plan hs hQ p n l S a w hok hS h
  | t k p ih =>
    intro n l S a w hok hS h
    cases n with
    | zero => simp [Plan3.ok] at hok
    | succ n =>
      simp only [Plan3.ok, Bool.and_eq_true] at hok
      obtain ⟨⟨⟨h1, h2⟩, h3⟩, h4⟩ := hok
      obtain ⟨o, ho, hq⟩ := h
      rw [ho] at h3
      obtain ⟨v, hy, hk⟩ := yieldsIf_of_quiet (by simpa using h3) hS hq
      exact wpAnyG_first ho (Region.noSelect_spec hs) (fun c a w => hQ c a _ _ w) n l S a w (Region.free_spec ho h2) (by simpa using h1) hy hS (ih n _ S _ w h4 hS hk)
  | n2 k p j q ihp ihq =>
    intro n l S a w hok hS h
    cases n with
    | zero => simp [Plan3.ok] at hok
    | succ n =>
      simp only [Plan3.ok, Bool.and_eq_true] at hok
      obtain ⟨⟨h1, h4⟩, h4'⟩ := hok
      have hr : Region.ready md ops l = [k, j] := by simpa using h1
      refine ⟨fun h0 => (by rw [hr] at h0; cases h0), fun i hi => ?_⟩
      rw [hr] at hi
      rcases (by simpa using hi : i = k ∨ i = j) with rfl | rfl
      · exact wpOp_mono (fun a' w' ⟨S', h5, h6, h7⟩ => ⟨S', h5, h6, ihp n _ S' a' w' h4 h6 h7⟩) h.1
      · exact wpOp_mono (fun a' w' ⟨S', h5, h6, h7⟩ => ⟨S', h5, h6, ihq n _ S' a' w' h4' h6 h7⟩) h.2
  | n3 k p j q i r ihp ihq ihr =>
    intro n l S a w hok hS h
    cases n with
    | zero => simp [Plan3.ok] at hok
    | succ n =>
      simp only [Plan3.ok, Bool.and_eq_true] at hok
      obtain ⟨⟨⟨h1, h4⟩, h4'⟩, h4''⟩ := hok
      have hr : Region.ready md ops l = [k, j, i] := by simpa using h1
      refine ⟨fun h0 => (by rw [hr] at h0; cases h0), fun i' hi => ?_⟩
      rw [hr] at hi
      rcases (by simpa using hi : i' = k ∨ i' = j ∨ i' = i) with rfl | rfl | rfl
      · exact wpOp_mono (fun a' w' ⟨S', h5, h6, h7⟩ => ⟨S', h5, h6, ihp n _ S' a' w' h4 h6 h7⟩) h.1
      · exact wpOp_mono (fun a' w' ⟨S', h5, h6, h7⟩ => ⟨S', h5, h6, ihq n _ S' a' w' h4' h6 h7⟩) h.2.1
      · exact wpOp_mono (fun a' w' ⟨S', h5, h6, h7⟩ => ⟨S', h5, h6, ihr n _ S' a' w' h4'' h6 h7⟩) h.2.2

/-- A REGION THAT DRAWS, BY A PLAN OF THREES. -/
theorem wp_plan3 {id : Nat} {l : List Oper} {a : Act} {w : World} (p : Plan3) (S : World → Prop) (hm : P.follows .mixedOrders = true) (hs : Region.noSelect l.toArray = true)
    (hok : p.ok .any l.toArray l.length (Array.replicate l.length false) = true) (hQ : ∀ c a d v w, Q (.panic c) (a.put d v) w → Q (.panic c) a w) (hS : S w.drew)
    (h : p.wp P l.toArray Q S a w.drew) : (Code.region id l.toArray true).wp P Q a w :=
  wp_region_any hm (wpAny_of_G _ _ S _ _ (by simpa using wpAnyG_of_plan3 hs hQ p l.length (Array.replicate l.length false) S a w.drew hok hS h))

theorem plan3_t_load {l : List Oper} {k : Nat} {p : Plan3} {S : World → Prop} {a : Act} {w : World} {o : Oper} (ho : l[k]? = some o) (hw : Region.wanted o (yielded l.toArray a.tmps) = true) (ty : TypeId) (x : Operand) (hop : o.op = .load ty x)
    (g off : Nat) (hx : a.eval x = .pointer (some ⟨g, off, none⟩)) (cs : List Value) (d : TypeDesc) (hS : ∀ w, S w → w.rangeAt g off cs) (hu : P.underlying ty = some d) (hd : d.isRow = true) (hi : (P.info? ty).map (·.size) = some cs.length)
    (h : p.wp P l.toArray Q S (a.put o.dst (.agg cs.toArray)) w) : (Plan3.t k p).wp P l.toArray Q S a w := by
  refine ⟨o, by simpa using ho, wpQuiet_step fun K hK => ?_⟩
  rw [if_pos hw]
  refine ⟨.agg cs.toArray, fun y hy => ?_, hK _ (wpQuiet_nil h)⟩
  obtain ⟨s, rfl⟩ := hy
  unfold Oper.quietAt execOp
  simp only [hop, hx, Instr.loadAt, Instr.sureAddr, Sem.run_bind, Sem.run_pure, Result.andThen_ok, run_loadVar_mid s.w g off ty cs d (hS s.w s.h) hu hd hi]
  exact ⟨rfl, rfl⟩
/-- one operation of a node: what follows is met in the same class. -/
theorem op_half {l : List Oper} {k : Nat} {R : (World → Prop) → Act → World → Prop} {S : World → Prop} {a : Act} {w : World} {o : Oper} (ho : l[k]? = some o) (hw : Region.wanted o (yielded l.toArray a.tmps) = true)
    (h : ∀ K' : Act → World → Prop, (∀ a' w', S w' ∧ R S a' w' → K' a' w') → Oper.wp P o a w K' Q) : wpOp P l.toArray Q k (fun a' w' => ∃ S' : World → Prop, (∀ x, S' x → S x) ∧ S' w' ∧ R S' a' w') a w :=
  wpOp_step (by simpa using ho) fun K' hK => by rw [if_pos hw]; exact h K' fun a' w' ⟨h2, h3⟩ => hK a' w' ⟨S, fun _ h => h, h2, h3⟩
end
end Go.Proofs.Ytjkedccbieoenaa
