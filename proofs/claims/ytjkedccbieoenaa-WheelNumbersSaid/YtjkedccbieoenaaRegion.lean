/- a region that draws its order, walked by a plan: what yields its value in every world of a class is taken first; what cannot is met where nothing else may come up (or where two may, each way). The class may grow narrower behind each step. -/
import Derived.Test.YtjkedccbieoenaaBase
import Derived.OrdersHeld
import Derived.Deep.Quiet
namespace Go.Proofs.Ytjkedccbieoenaa
open Go.RowKit
set_option linter.unusedVariables false

section
variable {P : Program} {ops : Array Oper} {Q : Exit → Act → World → Prop} {md : Region.Mode}

def wpAnyG (P : Program) (md : Region.Mode) (ops : Array Oper) (Q : Exit → Act → World → Prop) : Nat → Array Bool → (World → Prop) → Act → World → Prop
  | 0, listed, _, a, w => Region.ready md ops listed = [] ∧ Q .normal a w
  | fuel + 1, listed, S, a, w =>
    (Region.ready md ops listed = [] → Q .normal a w) ∧
    ∀ i ∈ Region.ready md ops listed, wpOp P ops Q i (fun a' w' => ∃ S' : World → Prop, (∀ x, S' x → S x) ∧ S' w' ∧ wpAnyG P md ops Q fuel (listed.setIfInBounds i true) S' a' w') a w

theorem wpAny_of_G : ∀ (fuel : Nat) (listed : Array Bool) (S : World → Prop) (a : Act) (w : World), wpAnyG P md ops Q fuel listed S a w → wpAny P md ops Q fuel listed a w
  | 0, _, _, _, _, h => h
  | fuel + 1, _, _, _, _, h => ⟨h.1, fun i hi => wpOp_mono (fun a' w' ⟨S', _, _, h'⟩ => wpAny_of_G fuel _ S' a' w' h') (h.2 i hi)⟩

theorem YieldsIf.less {S S' : World → Prop} {o : Oper} {v : Value} {a : Act} (h : YieldsIf P ops S o v a) (hs : ∀ x, S' x → S x) : YieldsIf P ops S' o v a :=
  h.imp (fun ⟨h1, h2⟩ => ⟨h1, fun w hw => h2 w (hs w hw)⟩) id

theorem wpAnyG_first {i : Nat} {oi : Oper} {v : Value} (hi : ops[i]? = some oi) (hsel : ∀ (j : Nat) (o : Oper) cs b, ops[j]? = some o → o.op ≠ .select cs b)
    (hQ : ∀ c a w, Q (.panic c) (a.put oi.dst v) w → Q (.panic c) a w) :
    ∀ (fuel : Nat) (listed : Array Bool) (S : World → Prop) (a : Act) (w : World),
      (∀ j oj, ops[j]? = some oj → j ≠ i → listed.getD j true = false → (∀ e ∈ oj.after, Region.binds md e = true → e.on ≠ i) → oi.apart ops oj = true) →
      i ∈ Region.ready md ops listed → YieldsIf P ops S oi v a → S w →
      wpAnyG P md ops Q fuel (listed.setIfInBounds i true) S (a.put oi.dst v) w → wpAnyG P md ops Q (fuel + 1) listed S a w := by
  intro fuel
  induction fuel with
  | zero =>
    intro listed S a w _ hr hy hS H
    refine ⟨fun h => (by rw [h] at hr; cases hr), fun j hj => ?_⟩
    by_cases hji : j = i
    · subst hji; exact hy.wpOp hi hS ⟨S, fun _ h => h, hS, H⟩
    · have := ready_mono hj hji
      rw [H.1] at this
      cases this
  | succ fuel ih =>
    intro listed S a w hfree hr hy hS H
    refine ⟨fun h => (by rw [h] at hr; cases hr), fun j hj => ?_⟩
    by_cases hji : j = i
    · subst hji; exact hy.wpOp hi hS ⟨S, fun _ h => h, hS, H⟩
    · have h1 := H.2 j (ready_mono hj hji)
      obtain ⟨hjun, oj, hoj, hall⟩ := mem_ready.1 hj
      have hnot : ∀ e ∈ oj.after, Region.binds md e = true → e.on ≠ i := fun e he hb heq => by
        have h1 := hall e he hb
        have h0 := (mem_ready.1 hr).1
        rw [heq] at h1
        rcases Nat.lt_or_ge i listed.size with h' | h'
        · simp [h'] at h0 h1; rw [h0] at h1; cases h1
        · simp [Array.getElem?_eq_none h'] at h1
      have h2 := wpOp_putIf hoj (hfree j oj hoj hji hjun hnot) (fun cs b => hsel i oi cs b hi) (fun cs b => hsel j oj cs b hoj) hQ hy h1
      have hfree' : ∀ k ok, ops[k]? = some ok → k ≠ i → (listed.setIfInBounds j true).getD k true = false →
          (∀ e ∈ ok.after, Region.binds md e = true → e.on ≠ i) → oi.apart ops ok = true := fun k ok hk hki hun hno => by
        refine hfree k ok hk hki ?_ hno
        by_cases hjk : j = k
        · subst hjk; exact hjun
        · rw [getD_set_ne true hjk] at hun; exact hun
      refine wpOp_mono (fun a' w' h3 => ?_) h2
      obtain ⟨h4, S', hsub, hS', h5⟩ := h3
      refine ⟨S', hsub, hS', ih (listed.setIfInBounds j true) S' a' w' hfree' (ready_mono hr (Ne.symm hji)) (YieldsIf.less h4 hsub) hS' ?_⟩
      rw [Array.setIfInBounds_comm _ _ hji]
      exact h5
end

/-- An operation that yields a value, or dies: no call of a Go function, no store. -/
def isVal (o : Oper) : Bool :=
  match o.op with
  | .move _ | .assign _ | .pick .. | .load .. | .binOp .. | .unOp .. | .convert .. | .fieldAddr .. | .field .. | .indexAddr .. | .index .. | .extract .. | .slice .. | .build .. | .nilCheck _ | .lookup .. => true
  | .call { callee := .builtin .len, .. } | .call { callee := .builtin .cap, .. } | .call { callee := .builtin .min, .. } | .call { callee := .builtin .max, .. } => true
  | _ => false

theorem val_bind {P : Program} {w w' : World} {s : Sem Value} {n : Next} (h : Sem.run P (do pure (Next.value (← s))) w = .ok n w') : ∃ u, n = .value u := by
  rw [Sem.run_bind] at h
  cases hs : Sem.run P s w with
  | ok v w2 => rw [hs] at h; simp only [Result.andThen, Sem.run_pure] at h; injection h with h1 h2; exact ⟨v, h1.symm⟩
  | halt x w2 => rw [hs] at h; simp only [Result.andThen] at h; cases h

theorem val_then {P : Program} {w w' : World} {α : Type} {s : Sem α} {f : α → Sem Next} {n : Next} (hf : ∀ a w n w', Sem.run P (f a) w = .ok n w' → ∃ u, n = .value u) (h : Sem.run P (s >>= f) w = .ok n w') : ∃ u, n = .value u := by
  rw [Sem.run_bind] at h
  cases hs : Sem.run P s w with
  | ok v w2 => rw [hs] at h; exact hf _ _ _ _ h
  | halt x w2 => rw [hs] at h; simp only [Result.andThen] at h; cases h

theorem isVal_spec {P : Program} {o : Oper} {ρ : Operand → Value} {w w' : World} {n : Next} (hv : isVal o = true) (h : (execOp ρ o).run P w = .ok n w') : ∃ u, n = .value u := by
  obtain ⟨dst, op, type, pos, after, guard⟩ := o
  cases op
  case move x => simp only [execOp, Sem.run_pure] at h; injection h with h1 h2; exact ⟨_, h1.symm⟩
  case assign x => simp only [execOp, Sem.run_pure] at h; injection h with h1 h2; exact ⟨_, h1.symm⟩
  case pick c a b =>
    simp only [execOp, Sem.run_bind] at h
    cases hs : Sem.run P (asBool (ρ c)) w with
    | ok v w2 => rw [hs] at h; simp only [Result.andThen, Sem.run_pure] at h; injection h with h1 h2; exact ⟨_, h1.symm⟩
    | halt x w2 => rw [hs] at h; simp only [Result.andThen] at h; cases h
  case nilCheck x =>
    simp only [execOp] at h
    split at h
    all_goals first
      | (simp only [Sem.run_pure] at h; injection h with h1 h2; exact ⟨_, h1.symm⟩)
      | (simp [runtimePanic] at h; done)
      | skip
    split at h
    · simp [runtimePanic] at h
    · refine val_then ?_ h
      intro p w1 n1 w1' h1
      refine val_then ?_ h1
      intro r w2 n2 w2' h2
      split at h2
      · refine val_then ?_ h2
        intro r w2 n2 w2' h3
        simp only [Sem.run_pure] at h3; injection h3 with h4 h5; exact ⟨_, h4.symm⟩
      · simp only [Sem.run_pure] at h2; injection h2 with h4 h5; exact ⟨_, h4.symm⟩
    · simp only [Sem.run_pure] at h; injection h with h1 h2; exact ⟨_, h1.symm⟩
  case call c =>
    obtain ⟨callee, args, argTypes⟩ := c
    cases callee
    case builtin b =>
      cases b
      all_goals first
        | (simp [isVal] at hv; done)
        | exact val_bind h
    all_goals (simp [isVal] at hv; done)
  all_goals first | (simp [isVal] at hv; done) | exact val_bind h

/-- a world of the class S. -/
structure In (S : World → Prop) where
  w : World
  h : S w

inductive Plan where
  | done
  | t (k : Nat) (p : Plan)
  | u (k : Nat) (p : Plan)
  | b (k : Nat) (p : Plan) (j : Nat) (q : Plan)

def Plan.ok (md : Region.Mode) (ops : Array Oper) : Plan → Nat → Array Bool → Bool
  | .done, _, l => (Region.ready md ops l).isEmpty
  | .t _ _, 0, _ => false
  | .t k p, n + 1, l => (Region.ready md ops l).contains k && Region.free md ops l k && ((ops[k]?).map isVal).getD false && p.ok md ops n (l.setIfInBounds k true)
  | .u _ _, 0, _ => false
  | .u k p, n + 1, l => Region.ready md ops l == [k] && p.ok md ops n (l.setIfInBounds k true)
  | .b _ _ _ _, 0, _ => false
  | .b k p j q, n + 1, l => Region.ready md ops l == [k, j] && p.ok md ops n (l.setIfInBounds k true) && q.ok md ops n (l.setIfInBounds j true)

section
variable {P : Program} {ops : Array Oper} {Q : Exit → Act → World → Prop} {md : Region.Mode}

def Plan.wp (P : Program) (ops : Array Oper) (Q : Exit → Act → World → Prop) : Plan → (World → Prop) → Act → World → Prop
  | .done, _, a, w => Q .normal a w
  | .t k p, S, a, w => ∃ o, ops[k]? = some o ∧ wpQuiet P ops (fun w' => ∃ s : In S, w' = s.w) (fun a' => p.wp P ops Q S a' w) [o] a
  | .u k p, S, a, w => wpOp P ops Q k (fun a' w' => ∃ S' : World → Prop, (∀ x, S' x → S x) ∧ S' w' ∧ p.wp P ops Q S' a' w') a w
  | .b k p j q, S, a, w =>
    wpOp P ops Q k (fun a' w' => ∃ S' : World → Prop, (∀ x, S' x → S x) ∧ S' w' ∧ p.wp P ops Q S' a' w') a w ∧
    wpOp P ops Q j (fun a' w' => ∃ S' : World → Prop, (∀ x, S' x → S x) ∧ S' w' ∧ q.wp P ops Q S' a' w') a w

theorem yieldsIf_of_quiet {S : World → Prop} {o : Oper} {a : Act} {K : Act → Prop} (hv : isVal o = true) {w : World} (hw : S w) (h : wpQuiet P ops (fun w' => ∃ s : In S, w' = s.w) K [o] a) :
    ∃ v, YieldsIf P ops S o v a ∧ K (a.put o.dst v) := by
  unfold wpQuiet at h
  split at h
  · rename_i hwant
    obtain ⟨v, h1, h2⟩ := h
    refine ⟨v, .inl ⟨hwant, fun x hx => ?_⟩, h2⟩
    have h3 := h1 x ⟨⟨x, hx⟩, rfl⟩
    unfold Oper.quietAt at h3
    cases hr : (execOp a.eval o).run P x with
    | halt y z => rw [hr] at h3; simp [Oper.quietUpon] at h3
    | ok n z =>
      obtain ⟨u, rfl⟩ := isVal_spec hv hr
      rw [hr] at h3
      simp only [Oper.quietUpon] at h3
      rw [h3.1, h3.2]
  · rename_i hwant
    exact ⟨undef, .inr ⟨by simpa using hwant, rfl⟩, h⟩

theorem wpAnyG_of_plan (hs : Region.noSelect ops = true) (hQ : ∀ c a d v w, Q (.panic c) (a.put d v) w → Q (.panic c) a w) :
    ∀ (p : Plan) (n : Nat) (l : Array Bool) (S : World → Prop) (a : Act) (w : World), p.ok md ops n l = true → S w → p.wp P ops Q S a w → wpAnyG P md ops Q n l S a w := by
  intro p
  induction p with
  | done =>
    intro n l S a w hok hS h
    have hr : Region.ready md ops l = [] := by simpa [Plan.ok] using hok
    cases n with
    | zero => exact ⟨hr, h⟩
    | succ n => exact ⟨fun _ => h, by rw [hr]; simp⟩
  | t k p ih =>
    intro n l S a w hok hS h
    cases n with
    | zero => simp [Plan.ok] at hok
    | succ n =>
      simp only [Plan.ok, Bool.and_eq_true] at hok
      obtain ⟨⟨⟨h1, h2⟩, h3⟩, h4⟩ := hok
      obtain ⟨o, ho, hq⟩ := h
      rw [ho] at h3
      obtain ⟨v, hy, hk⟩ := yieldsIf_of_quiet (by simpa using h3) hS hq
      exact wpAnyG_first ho (Region.noSelect_spec hs) (fun c a w => hQ c a _ _ w) n l S a w (Region.free_spec ho h2) (by simpa using h1) hy hS (ih n _ S _ w h4 hS hk)
  | u k p ih =>
    intro n l S a w hok hS h
    cases n with
    | zero => simp [Plan.ok] at hok
    | succ n =>
      simp only [Plan.ok, Bool.and_eq_true] at hok
      obtain ⟨h1, h4⟩ := hok
      have hr : Region.ready md ops l = [k] := by simpa using h1
      refine ⟨fun h0 => (by rw [hr] at h0; cases h0), fun i hi => ?_⟩
      rw [hr] at hi
      obtain rfl : i = k := by simpa using hi
      exact wpOp_mono (fun a' w' ⟨S', h5, h6, h7⟩ => ⟨S', h5, h6, ih n _ S' a' w' h4 h6 h7⟩) h
  | b k p j q ihp ihq =>
    intro n l S a w hok hS h
    cases n with
    | zero => simp [Plan.ok] at hok
    | succ n =>
      simp only [Plan.ok, Bool.and_eq_true] at hok
      obtain ⟨⟨h1, h4⟩, h4'⟩ := hok
      have hr : Region.ready md ops l = [k, j] := by simpa using h1
      refine ⟨fun h0 => (by rw [hr] at h0; cases h0), fun i hi => ?_⟩
      rw [hr] at hi
      rcases (by simpa using hi : i = k ∨ i = j) with rfl | rfl
      · exact wpOp_mono (fun a' w' ⟨S', h5, h6, h7⟩ => ⟨S', h5, h6, ihp n _ S' a' w' h4 h6 h7⟩) h.1
      · exact wpOp_mono (fun a' w' ⟨S', h5, h6, h7⟩ => ⟨S', h5, h6, ihq n _ S' a' w' h4' h6 h7⟩) h.2

/-- A REGION THAT DRAWS, BY A PLAN. -/
theorem wp_plan {id : Nat} {l : List Oper} {a : Act} {w : World} (p : Plan) (S : World → Prop) (hm : P.follows .mixedOrders = true) (hs : Region.noSelect l.toArray = true)
    (hok : p.ok .any l.toArray l.length (Array.replicate l.length false) = true) (hQ : ∀ c a d v w, Q (.panic c) (a.put d v) w → Q (.panic c) a w) (hS : S w.drew)
    (h : p.wp P l.toArray Q S a w.drew) : (Code.region id l.toArray true).wp P Q a w :=
  wp_region_any hm (wpAny_of_G _ _ S _ _ (by simpa using wpAnyG_of_plan hs hQ p l.length (Array.replicate l.length false) S a w.drew hok hS h))

theorem plan_t {l : List Oper} {k : Nat} {p : Plan} {S : World → Prop} {a : Act} {w : World} {o : Oper} (ho : l[k]? = some o)
    (h : wpQuiet P l.toArray (fun w' => ∃ s : In S, w' = s.w) (fun a' => p.wp P l.toArray Q S a' w) [o] a) : (Plan.t k p).wp P l.toArray Q S a w := ⟨o, by simpa using ho, h⟩
theorem plan_u {l : List Oper} {k : Nat} {p : Plan} {S : World → Prop} {a : Act} {w : World} {o : Oper} (ho : l[k]? = some o)
    (h : ∀ K' : Act → World → Prop, (∀ a' w' S', (∀ x, S' x → S x) → S' w' → p.wp P l.toArray Q S' a' w' → K' a' w') →
      if Region.wanted o (yielded l.toArray a.tmps) = true then Oper.wp P o a w K' Q else K' (a.put o.dst undef) w) : (Plan.u k p).wp P l.toArray Q S a w :=
  wpOp_step (by simpa using ho) fun K' hK => h K' fun a' w' S' h1 h2 h3 => hK a' w' ⟨S', h1, h2, h3⟩
/-- the class stays as it is. -/
theorem plan_us {l : List Oper} {k : Nat} {p : Plan} {S : World → Prop} {a : Act} {w : World} {o : Oper} (ho : l[k]? = some o) (hw : Region.wanted o (yielded l.toArray a.tmps) = true)
    (h : ∀ K' : Act → World → Prop, (∀ a' w', S w' ∧ p.wp P l.toArray Q S a' w' → K' a' w') → Oper.wp P o a w K' Q) : (Plan.u k p).wp P l.toArray Q S a w :=
  wpOp_step (by simpa using ho) fun K' hK => by rw [if_pos hw]; exact h K' fun a' w' ⟨h2, h3⟩ => hK a' w' ⟨S, fun _ h => h, h2, h3⟩
/-- the class grows narrower. -/
theorem plan_un {l : List Oper} {k : Nat} {p : Plan} {S : World → Prop} {a : Act} {w : World} {o : Oper} (ho : l[k]? = some o) (hw : Region.wanted o (yielded l.toArray a.tmps) = true)
    (h : ∀ K' : Act → World → Prop, (∀ a' w', (∃ S' : World → Prop, (∀ x, S' x → S x) ∧ S' w' ∧ p.wp P l.toArray Q S' a' w') → K' a' w') → Oper.wp P o a w K' Q) : (Plan.u k p).wp P l.toArray Q S a w :=
  wpOp_step (by simpa using ho) fun K' hK => by rw [if_pos hw]; exact h K' hK
end
end Go.Proofs.Ytjkedccbieoenaa
