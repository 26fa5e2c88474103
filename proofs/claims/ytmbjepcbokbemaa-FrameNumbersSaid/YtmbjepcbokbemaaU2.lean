/- texts of the proof, laid together: Region, Rowst, Rk, Kc, Fr, Frm, Frm2, Frm3, Frm4, Keep. -/
import Derived.Test.YtmbjepcbokbemaaU1
import Derived.OrdersHeld
import Derived.Deep.Quiet
import Derived.Deep.MidRow
import Derived.Maps.AppendAt
import Derived.Deep.AppendSrc
import Derived.Deep.Upon
import Derived.Great.BuildSlice
import Derived.Deep.DeepCutAuto
import Derived.Deep.CutBlock
set_option linter.unusedVariables false
set_option linter.unusedSimpArgs false
set_option maxRecDepth 100000
set_option maxHeartbeats 16000000
namespace Go.Proofs.Ytmbjepcbokbemaa
open Go.RowKit
section
variable {P : Program} {ops : Array Oper} {Q : Exit → Act → World → Prop} {md : Region.Mode}
def wpAnyG (P : Program) (md : Region.Mode) (ops : Array Oper) (Q : Exit → Act → World → Prop) : Nat → Array Bool → (World → Prop) → Act → World → Prop
 | 0, listed, _, a, w => Region.ready md ops listed = [] ∧ Q .normal a w
 | fuel + 1, listed, S, a, w =>
  (Region.ready md ops listed = [] → Q .normal a w) ∧
  ∀ i ∈ Region.ready md ops listed, wpOp P ops Q i (fun a' w' => ∃ S' : World → Prop, (∀ x, S' x → S x) ∧ S' w' ∧ wpAnyG P md ops Q fuel (listed.setIfInBounds i true) S' a' w') a w
theorem wpAny_of_G : ∀ (fuel : Nat) (listed : Array Bool) (S : World → Prop) (a : Act) (w : World), wpAnyG P md ops Q fuel listed S a w → wpAny P md ops Q fuel listed a w
 | 0, _, _, _, _, h => h
 | fuel + 1, _, _, _, _, h => ⟨h.1, fun i hi => wpOp_mono (fun a' w' ⟨S', _, _, h'⟩ => wpAny_of_G fuel _ S' a' w' h') (h.2 i hi)⟩
theorem YieldsIf.less {S S' : World → Prop} {o : Oper} {v : Value} {a : Act} (h : YieldsIf P ops S o v a) (hs : ∀ x, S' x → S x) : YieldsIf P ops S' o v a :=
 h.imp (fun ⟨h1, h2⟩ => ⟨h1, fun w hw => h2 w (hs w hw)⟩) id
theorem wpAnyG_first {i : Nat} {oi : Oper} {v : Value} (hi : ops[i]? = some oi) (hsel : ∀ (j : Nat) (o : Oper) cs b, ops[j]? = some o → o.op ≠ .select cs b)
  (hQ : ∀ c a w, Q (.panic c) (a.put oi.dst v) w → Q (.panic c) a w) :
  ∀ (fuel : Nat) (listed : Array Bool) (S : World → Prop) (a : Act) (w : World),
   (∀ j oj, ops[j]? = some oj → j ≠ i → listed.getD j true = false → (∀ e ∈ oj.after, Region.binds md e = true → e.on ≠ i) → oi.apart ops oj = true) →
   i ∈ Region.ready md ops listed → YieldsIf P ops S oi v a → S w →
   wpAnyG P md ops Q fuel (listed.setIfInBounds i true) S (a.put oi.dst v) w → wpAnyG P md ops Q (fuel + 1) listed S a w := by
 intro fuel
 induction fuel with
 | zero =>
  intro listed S a w _ hr hy hS H
  refine ⟨fun h => (by rw [h] at hr; cases hr), fun j hj => ?_⟩
  by_cases hji : j = i
  ·
   subst hji; exact hy.wpOp hi hS ⟨S, fun _ h => h, hS, H⟩
  ·
   have := ready_mono hj hji
   rw [H.1] at this
   cases this
 | succ fuel ih =>
  intro listed S a w hfree hr hy hS H
  refine ⟨fun h => (by rw [h] at hr; cases hr), fun j hj => ?_⟩
  by_cases hji : j = i
  ·
   subst hji; exact hy.wpOp hi hS ⟨S, fun _ h => h, hS, H⟩
  ·
   have h1 := H.2 j (ready_mono hj hji)
   obtain ⟨hjun, oj, hoj, hall⟩ := mem_ready.1 hj
   have hnot : ∀ e ∈ oj.after, Region.binds md e = true → e.on ≠ i := fun e he hb heq => by
    have h1 := hall e he hb
    have h0 := (mem_ready.1 hr).1
    rw [heq] at h1
    rcases Nat.lt_or_ge i listed.size with h' | h'
    ·
     simp [h'] at h0 h1; rw [h0] at h1; cases h1
    ·
     simp [Array.getElem?_eq_none h'] at h1
   have h2 := wpOp_putIf hoj (hfree j oj hoj hji hjun hnot) (fun cs b => hsel i oi cs b hi) (fun cs b => hsel j oj cs b hoj) hQ hy h1
   have hfree' : ∀ k ok, ops[k]? = some ok → k ≠ i → (listed.setIfInBounds j true).getD k true = false →
     (∀ e ∈ ok.after, Region.binds md e = true → e.on ≠ i) → oi.apart ops ok = true := fun k ok hk hki hun hno => by
    refine hfree k ok hk hki ?_ hno
    by_cases hjk : j = k
    ·
     subst hjk; exact hjun
    ·
     rw [getD_set_ne true hjk] at hun; exact hun
   refine wpOp_mono (fun a' w' h3 => ?_) h2
   obtain ⟨h4, S', hsub, hS', h5⟩ := h3
   refine ⟨S', hsub, hS', ih (listed.setIfInBounds j true) S' a' w' hfree' (ready_mono hr (Ne.symm hji)) (YieldsIf.less h4 hsub) hS' ?_⟩
   rw [Array.setIfInBounds_comm _ _ hji]
   exact h5
end
def isVal (o : Oper) : Bool :=
 match o.op with
 | .move _ | .assign _ | .pick .. | .load .. | .binOp .. | .unOp .. | .convert .. | .fieldAddr .. | .field .. | .indexAddr .. | .index .. | .extract .. | .slice .. | .build .. | .nilCheck _ | .lookup .. => true
 | .call { callee := .builtin .len, .. } | .call { callee := .builtin .cap, .. } | .call { callee := .builtin .min, .. } | .call { callee := .builtin .max, .. } => true
 | _ => false
theorem val_bind {P : Program} {w w' : World} {s : Sem Value} {n : Next} (h : Sem.run P (do pure (Next.value (← s))) w = .ok n w') : ∃ u, n = .value u := by
 rw [Sem.run_bind] at h
 cases hs : Sem.run P s w with
 | ok v w2 => rw [hs] at h; simp only [Result.andThen, Sem.run_pure] at h; injection h with h1 h2; exact ⟨v, h1.symm⟩
 | halt x w2 => rw [hs] at h; simp only [Result.andThen] at h; cases h
theorem val_then {P : Program} {w w' : World} {α : Type} {s : Sem α} {f : α → Sem Next} {n : Next} (hf : ∀ a w n w', Sem.run P (f a) w = .ok n w' → ∃ u, n = .value u) (h : Sem.run P (s >>= f) w = .ok n w') : ∃ u, n = .value u := by
 rw [Sem.run_bind] at h
 cases hs : Sem.run P s w with
 | ok v w2 => rw [hs] at h; exact hf _ _ _ _ h
 | halt x w2 => rw [hs] at h; simp only [Result.andThen] at h; cases h
theorem isVal_spec {P : Program} {o : Oper} {ρ : Operand → Value} {w w' : World} {n : Next} (hv : isVal o = true) (h : (execOp ρ o).run P w = .ok n w') : ∃ u, n = .value u := by
 obtain ⟨dst, op, type, pos, after, guard⟩ := o
 cases op
 case move x => simp only [execOp, Sem.run_pure] at h; injection h with h1 h2; exact ⟨_, h1.symm⟩
 case assign x => simp only [execOp, Sem.run_pure] at h; injection h with h1 h2; exact ⟨_, h1.symm⟩
 case pick c a b =>
  simp only [execOp, Sem.run_bind] at h
  cases hs : Sem.run P (asBool (ρ c)) w with
  | ok v w2 => rw [hs] at h; simp only [Result.andThen, Sem.run_pure] at h; injection h with h1 h2; exact ⟨_, h1.symm⟩
  | halt x w2 => rw [hs] at h; simp only [Result.andThen] at h; cases h
 case nilCheck x =>
  simp only [execOp] at h
  split at h
  all_goals first
   | (simp only [Sem.run_pure] at h; injection h with h1 h2; exact ⟨_, h1.symm⟩)
   | (simp [runtimePanic] at h; done)
   | skip
  split at h
  ·
   simp [runtimePanic] at h
  ·
   refine val_then ?_ h
   intro p w1 n1 w1' h1
   refine val_then ?_ h1
   intro r w2 n2 w2' h2
   split at h2
   ·
    refine val_then ?_ h2
    intro r w2 n2 w2' h3
    simp only [Sem.run_pure] at h3; injection h3 with h4 h5; exact ⟨_, h4.symm⟩
   ·
    simp only [Sem.run_pure] at h2; injection h2 with h4 h5; exact ⟨_, h4.symm⟩
  ·
   simp only [Sem.run_pure] at h; injection h with h1 h2; exact ⟨_, h1.symm⟩
 case call c =>
  obtain ⟨callee, args, argTypes⟩ := c
  cases callee
  case builtin b =>
   cases b
   all_goals first
    | (simp [isVal] at hv; done)
    | exact val_bind h
  all_goals (simp [isVal] at hv; done)
 all_goals first | (simp [isVal] at hv; done) | exact val_bind h
structure In (S : World → Prop) where
 w : World
 h : S w
inductive Plan where
 | done
 | t (k : Nat) (p : Plan)
 | u (k : Nat) (p : Plan)
 | b (k : Nat) (p : Plan) (j : Nat) (q : Plan)
def Plan.ok (md : Region.Mode) (ops : Array Oper) : Plan → Nat → Array Bool → Bool
 | .done, _, l => (Region.ready md ops l).isEmpty
 | .t _ _, 0, _ => false
 | .t k p, n + 1, l => (Region.ready md ops l).contains k && Region.free md ops l k && ((ops[k]?).map isVal).getD false && p.ok md ops n (l.setIfInBounds k true)
 | .u _ _, 0, _ => false
 | .u k p, n + 1, l => Region.ready md ops l == [k] && p.ok md ops n (l.setIfInBounds k true)
 | .b _ _ _ _, 0, _ => false
 | .b k p j q, n + 1, l => Region.ready md ops l == [k, j] && p.ok md ops n (l.setIfInBounds k true) && q.ok md ops n (l.setIfInBounds j true)
section
variable {P : Program} {ops : Array Oper} {Q : Exit → Act → World → Prop} {md : Region.Mode}
def Plan.wp (P : Program) (ops : Array Oper) (Q : Exit → Act → World → Prop) : Plan → (World → Prop) → Act → World → Prop
 | .done, _, a, w => Q .normal a w
 | .t k p, S, a, w => ∃ o, ops[k]? = some o ∧ wpQuiet P ops (fun w' => ∃ s : In S, w' = s.w) (fun a' => p.wp P ops Q S a' w) [o] a
 | .u k p, S, a, w => wpOp P ops Q k (fun a' w' => ∃ S' : World → Prop, (∀ x, S' x → S x) ∧ S' w' ∧ p.wp P ops Q S' a' w') a w
 | .b k p j q, S, a, w =>
  wpOp P ops Q k (fun a' w' => ∃ S' : World → Prop, (∀ x, S' x → S x) ∧ S' w' ∧ p.wp P ops Q S' a' w') a w ∧
  wpOp P ops Q j (fun a' w' => ∃ S' : World → Prop, (∀ x, S' x → S x) ∧ S' w' ∧ q.wp P ops Q S' a' w') a w
theorem yieldsIf_of_quiet {S : World → Prop} {o : Oper} {a : Act} {K : Act → Prop} (hv : isVal o = true) {w : World} (hw : S w) (h : wpQuiet P ops (fun w' => ∃ s : In S, w' = s.w) K [o] a) :
  ∃ v, YieldsIf P ops S o v a ∧ K (a.put o.dst v) := by
 unfold wpQuiet at h
 split at h
 ·
  rename_i hwant
  obtain ⟨v, h1, h2⟩ := h
  refine ⟨v, .inl ⟨hwant, fun x hx => ?_⟩, h2⟩
  have h3 := h1 x ⟨⟨x, hx⟩, rfl⟩
  unfold Oper.quietAt at h3
  cases hr : (execOp a.eval o).run P x with
  | halt y z => rw [hr] at h3; simp [Oper.quietUpon] at h3
  | ok n z =>
   obtain ⟨u, rfl⟩ := isVal_spec hv hr
   rw [hr] at h3
   simp only [Oper.quietUpon] at h3
   rw [h3.1, h3.2]
 ·
  rename_i hwant
  exact ⟨undef, .inr ⟨by simpa using hwant, rfl⟩, h⟩
theorem wpAnyG_of_plan (hs : Region.noSelect ops = true) (hQ : ∀ c a d v w, Q (.panic c) (a.put d v) w → Q (.panic c) a w) :
  ∀ (p : Plan) (n : Nat) (l : Array Bool) (S : World → Prop) (a : Act) (w : World), p.ok md ops n l = true → S w → p.wp P ops Q S a w → wpAnyG P md ops Q n l S a w := by
 intro p
 induction p with
 | done =>
  intro n l S a w hok hS h
  have hr : Region.ready md ops l = [] := by simpa [Plan.ok] using hok
  cases n with
  | zero => exact ⟨hr, h⟩
  | succ n => exact ⟨fun _ => h, by rw [hr]; simp⟩
 | t k p ih =>
  intro n l S a w hok hS h
  cases n with
  | zero => simp [Plan.ok] at hok
  | succ n =>
   simp only [Plan.ok, Bool.and_eq_true] at hok
   obtain ⟨⟨⟨h1, h2⟩, h3⟩, h4⟩ := hok
   obtain ⟨o, ho, hq⟩ := h
   rw [ho] at h3
   obtain ⟨v, hy, hk⟩ := yieldsIf_of_quiet (by simpa using h3) hS hq
   exact wpAnyG_first ho (Region.noSelect_spec hs) (fun c a w => hQ c a _ _ w) n l S a w (Region.free_spec ho h2) (by simpa using h1) hy hS (ih n _ S _ w h4 hS hk)
 | u k p ih =>
  intro n l S a w hok hS h
  cases n with
  | zero => simp [Plan.ok] at hok
  | succ n =>
   simp only [Plan.ok, Bool.and_eq_true] at hok
   obtain ⟨h1, h4⟩ := hok
   have hr : Region.ready md ops l = [k] := by simpa using h1
   refine ⟨fun h0 => (by rw [hr] at h0; cases h0), fun i hi => ?_⟩
   rw [hr] at hi
   obtain rfl : i = k := by simpa using hi
   exact wpOp_mono (fun a' w' ⟨S', h5, h6, h7⟩ => ⟨S', h5, h6, ih n _ S' a' w' h4 h6 h7⟩) h
 | b k p j q ihp ihq =>
  intro n l S a w hok hS h
  cases n with
  | zero => simp [Plan.ok] at hok
  | succ n =>
   simp only [Plan.ok, Bool.and_eq_true] at hok
   obtain ⟨⟨h1, h4⟩, h4'⟩ := hok
   have hr : Region.ready md ops l = [k, j] := by simpa using h1
   refine ⟨fun h0 => (by rw [hr] at h0; cases h0), fun i hi => ?_⟩
   rw [hr] at hi
   rcases (by simpa using hi : i = k ∨ i = j) with rfl | rfl
   ·
    exact wpOp_mono (fun a' w' ⟨S', h5, h6, h7⟩ => ⟨S', h5, h6, ihp n _ S' a' w' h4 h6 h7⟩) h.1
   ·
    exact wpOp_mono (fun a' w' ⟨S', h5, h6, h7⟩ => ⟨S', h5, h6, ihq n _ S' a' w' h4' h6 h7⟩) h.2
theorem wp_plan {id : Nat} {l : List Oper} {a : Act} {w : World} (p : Plan) (S : World → Prop) (hm : P.follows .mixedOrders = true) (hs : Region.noSelect l.toArray = true)
  (hok : p.ok .any l.toArray l.length (Array.replicate l.length false) = true) (hQ : ∀ c a d v w, Q (.panic c) (a.put d v) w → Q (.panic c) a w) (hS : S w.drew)
  (h : p.wp P l.toArray Q S a w.drew) : (Code.region id l.toArray true).wp P Q a w :=
 wp_region_any hm (wpAny_of_G _ _ S _ _ (by simpa using wpAnyG_of_plan hs hQ p l.length (Array.replicate l.length false) S a w.drew hok hS h))
theorem plan_t {l : List Oper} {k : Nat} {p : Plan} {S : World → Prop} {a : Act} {w : World} {o : Oper} (ho : l[k]? = some o)
  (h : wpQuiet P l.toArray (fun w' => ∃ s : In S, w' = s.w) (fun a' => p.wp P l.toArray Q S a' w) [o] a) : (Plan.t k p).wp P l.toArray Q S a w := ⟨o, by simpa using ho, h⟩
theorem plan_us {l : List Oper} {k : Nat} {p : Plan} {S : World → Prop} {a : Act} {w : World} {o : Oper} (ho : l[k]? = some o) (hw : Region.wanted o (yielded l.toArray a.tmps) = true)
  (h : ∀ K' : Act → World → Prop, (∀ a' w', S w' ∧ p.wp P l.toArray Q S a' w' → K' a' w') → Oper.wp P o a w K' Q) : (Plan.u k p).wp P l.toArray Q S a w :=
 wpOp_step (by simpa using ho) fun K' hK => by rw [if_pos hw]; exact h K' fun a' w' ⟨h2, h3⟩ => hK a' w' ⟨S, fun _ h => h, h2, h3⟩
theorem plan_un {l : List Oper} {k : Nat} {p : Plan} {S : World → Prop} {a : Act} {w : World} {o : Oper} (ho : l[k]? = some o) (hw : Region.wanted o (yielded l.toArray a.tmps) = true)
  (h : ∀ K' : Act → World → Prop, (∀ a' w', (∃ S' : World → Prop, (∀ x, S' x → S x) ∧ S' w' ∧ p.wp P l.toArray Q S' a' w') → K' a' w') → Oper.wp P o a w K' Q) : (Plan.u k p).wp P l.toArray Q S a w :=
 wpOp_step (by simpa using ho) fun K' hK => by rw [if_pos hw]; exact h K' hK
end
end Go.Proofs.Ytmbjepcbokbemaa
namespace Go.Proofs.Ytmbjepcbokbemaa
open Go.RowKit
theorem setCells_row {g : Nat} {t : TypeId} : ∀ (vs pre rest : List Value) (w : World), w.heap[g]? = some (.cells (pre ++ rest).toArray t (0, 0)) → rest.length = vs.length →
  (w.setCells g pre.length vs).heap[g]? = some (.cells (pre ++ vs).toArray t (0, 0)) ∧ w.grownBy (w.setCells g pre.length vs) (some g)
 | [], pre, rest, w, h, hl => by
  obtain rfl : rest = [] := List.eq_nil_of_length_eq_zero hl
  rw [World.setCells]
  exact ⟨h, grown_refl _ _⟩
 | v :: vs, pre, [], w, h, hl => by cases hl
 | v :: vs, pre, r :: rest, w, h, hl => by
  have hA := ((At.base h).set pre.length v).conv (cs' := ((pre ++ [v]) ++ rest).toArray) (by rw [List.setIfInBounds_toArray]; simp)
  have ih := setCells_row vs (pre ++ [v]) rest _ hA.row (by simpa using hl)
  rw [List.length_append] at ih
  rw [World.setCells]
  refine ⟨?_, grown_trans hA.rest ih.2⟩
  have h2 := ih.1
  rw [List.append_assoc] at h2
  exact h2
theorem wpList_store_row {P : Program} {ops : Array Oper} {rest : List Oper} {op : Oper} {a : Act} {w : World} {Q : Exit → Act → World → Prop} (hgd : op.guard = none) (ty : TypeId) (x y : Operand) (ho : op.op = .store ty x y)
  (g : Nat) (hx : a.eval x = .pointer (some ⟨g, 0, none⟩)) (cs cs0 : List Value) (hy : a.eval y = .agg cs.toArray) (t : TypeId) (hr : w.heap[g]? = some (.cells cs0.toArray t (0, 0))) (hl : cs0.length = cs.length)
  (hi : (P.info? ty).map (·.size) = some cs.length) (h1 : ∀ v ∈ cs, v.oneCell' = true)
  (h : ∀ w', w'.heap[g]? = some (.cells cs.toArray t (0, 0)) → w.grownBy w' (some g) → wpList P ops Q rest (a.put op.dst undef) w') : wpList P ops Q (op :: rest) a w := by
 refine wpList_store_mid hgd ty x y ho g 0 cs.toArray hx hy ?_ (by simpa using hi) (all_oneCell_toArray h1) ?_
 ·
  intro j hj
  rw [Nat.zero_add]
  have hj2 : j < cs0.length := by rw [hl]; simpa using hj
  rw [row_cell hr j cs0[j] (by simp [hj2]), row_free hr j]
  exact ⟨rfl, rfl⟩
 ·
  have := setCells_row (g := g) (t := t) cs [] cs0 w hr hl
  exact h _ (by simpa using this.1) (by simpa using this.2)
theorem setCells_part {g : Nat} {t : TypeId} (suf : List Value) : ∀ (vs pre rest : List Value) (w : World), w.heap[g]? = some (.cells (pre ++ (rest ++ suf)).toArray t (0, 0)) → rest.length = vs.length →
  (w.setCells g pre.length vs).heap[g]? = some (.cells (pre ++ (vs ++ suf)).toArray t (0, 0)) ∧ w.grownBy (w.setCells g pre.length vs) (some g)
 | [], pre, rest, w, h, hl => by
  obtain rfl : rest = [] := List.eq_nil_of_length_eq_zero hl
  rw [World.setCells]
  exact ⟨h, grown_refl _ _⟩
 | v :: vs, pre, [], w, h, hl => by cases hl
 | v :: vs, pre, r :: rest, w, h, hl => by
  have hA := ((At.base h).set pre.length v).conv (cs' := ((pre ++ [v]) ++ (rest ++ suf)).toArray) (by rw [List.setIfInBounds_toArray]; simp)
  have ih := setCells_part suf vs (pre ++ [v]) rest _ hA.row (by simpa using hl)
  rw [List.length_append] at ih
  rw [World.setCells]
  refine ⟨?_, grown_trans hA.rest ih.2⟩
  have h2 := ih.1
  rw [List.append_assoc] at h2
  exact h2
theorem wpList_store_part {P : Program} {ops : Array Oper} {rest : List Oper} {op : Oper} {a : Act} {w : World} {Q : Exit → Act → World → Prop} (hgd : op.guard = none) (ty : TypeId) (x y : Operand) (ho : op.op = .store ty x y)
  (g o : Nat) (hx : a.eval x = .pointer (some ⟨g, o, none⟩)) (cs : List Value) (t : TypeId) (pre mid suf : List Value) (hy : a.eval y = .agg cs.toArray) (hr : w.heap[g]? = some (.cells (pre ++ (mid ++ suf)).toArray t (0, 0))) (hp : pre.length = o) (hl : mid.length = cs.length)
  (hi : (P.info? ty).map (·.size) = some cs.length) (h1 : ∀ v ∈ cs, v.oneCell' = true)
  (h : ∀ w', w'.heap[g]? = some (.cells (pre ++ (cs ++ suf)).toArray t (0, 0)) → w.grownBy w' (some g) → wpList P ops Q rest (a.put op.dst undef) w') : wpList P ops Q (op :: rest) a w := by
 refine wpList_store_mid hgd ty x y ho g o cs.toArray hx hy ?_ (by simpa using hi) (all_oneCell_toArray h1) ?_
 ·
  intro j hj
  have hj2 : j < mid.length := by rw [hl]; simpa using hj
  have hv : (pre ++ (mid ++ suf))[o + j]? = some mid[j] := by
   rw [List.getElem?_append_right (by omega), hp, show o + j - o = j by omega, List.getElem?_append_left hj2]
   exact List.getElem?_eq_getElem hj2
  rw [row_cell hr (o + j) mid[j] (by rw [List.getElem?_toArray]; exact hv), row_free hr (o + j)]
  exact ⟨rfl, rfl⟩
 ·
  have := setCells_part (g := g) (t := t) suf cs pre mid w hr hl
  rw [hp] at this
  exact h _ (by simpa using this.1) (by simpa using this.2)
theorem results_cell1 {P : Program} {fn : Func} {r : Tmp} {ty : TypeId} (h : fn.results = #[.cell r ty]) (tmps : Array Value) (w : World) (g : Nat) (hp : tmps.getD r undef = .pointer (some ⟨g, 0, none⟩))
  (cs : List Value) (d : TypeDesc) (e : TypeId) (hr : w.heap[g]? = some (.cells cs.toArray e (0, 0))) (hu : P.underlying ty = some d) (hd : d.isRow = true) (hi : (P.info? ty).map (·.size) = some cs.length) :
  (results fn tmps).run P w = .ok (.agg cs.toArray) w := by
 have hl := run_loadVar_mid (P := P) w g 0 ty cs d (fun j v hv => by rw [Nat.zero_add]; exact row_cell hr j v (by simpa using hv)) hu hd hi
 have hp2 : tmps[r]?.getD undef = .pointer (some ⟨g, 0, none⟩) := by simpa using hp
 simp [results, h, hp2, asAddr, hl]
section
variable {P : Program} {Q : Exit → Act → World → Prop}
theorem plan_t_load {l : List Oper} {k : Nat} {p : Plan} {S : World → Prop} {a : Act} {w : World} {o : Oper} (ho : l[k]? = some o) (hw : Region.wanted o (yielded l.toArray a.tmps) = true) (ty : TypeId) (x : Operand) (hop : o.op = .load ty x)
  (g off : Nat) (hx : a.eval x = .pointer (some ⟨g, off, none⟩)) (cs : List Value) (d : TypeDesc) (hS : ∀ w, S w → w.rangeAt g off cs) (hu : P.underlying ty = some d) (hd : d.isRow = true) (hi : (P.info? ty).map (·.size) = some cs.length)
  (h : p.wp P l.toArray Q S (a.put o.dst (.agg cs.toArray)) w) : (Plan.t k p).wp P l.toArray Q S a w := by
 refine ⟨o, by simpa using ho, wpQuiet_step fun K hK => ?_⟩
 rw [if_pos hw]
 refine ⟨.agg cs.toArray, fun y hy => ?_, hK _ (wpQuiet_nil h)⟩
 obtain ⟨s, rfl⟩ := hy
 unfold Oper.quietAt execOp
 simp only [hop, hx, Instr.loadAt, Instr.sureAddr, Sem.run_bind, Sem.run_pure, Result.andThen_ok, run_loadVar_mid s.w g off ty cs d (hS s.w s.h) hu hd hi]
 exact ⟨rfl, rfl⟩
theorem plan_b {l : List Oper} {k j : Nat} {p q : Plan} {S : World → Prop} {a : Act} {w : World}
  (h1 : wpOp P l.toArray Q k (fun a' w' => ∃ S' : World → Prop, (∀ x, S' x → S x) ∧ S' w' ∧ p.wp P l.toArray Q S' a' w') a w)
  (h2 : wpOp P l.toArray Q j (fun a' w' => ∃ S' : World → Prop, (∀ x, S' x → S x) ∧ S' w' ∧ q.wp P l.toArray Q S' a' w') a w) : (Plan.b k p j q).wp P l.toArray Q S a w := ⟨h1, h2⟩
theorem plan_half {l : List Oper} {k : Nat} {p : Plan} {S : World → Prop} {a : Act} {w : World} {o : Oper} (ho : l[k]? = some o) (hw : Region.wanted o (yielded l.toArray a.tmps) = true)
  (h : ∀ K' : Act → World → Prop, (∀ a' w', S w' ∧ p.wp P l.toArray Q S a' w' → K' a' w') → Oper.wp P o a w K' Q) : wpOp P l.toArray Q k (fun a' w' => ∃ S' : World → Prop, (∀ x, S' x → S x) ∧ S' w' ∧ p.wp P l.toArray Q S' a' w') a w :=
 wpOp_step (by simpa using ho) fun K' hK => by rw [if_pos hw]; exact h K' fun a' w' ⟨h2, h3⟩ => hK a' w' ⟨S, fun _ h => h, h2, h3⟩
theorem plan_half_x {l : List Oper} {k : Nat} {p : Plan} {S : World → Prop} {a : Act} {w : World} {o : Oper} (ho : l[k]? = some o) (hw : Region.wanted o (yielded l.toArray a.tmps) = false) (hS : S w)
  (h : p.wp P l.toArray Q S (a.put o.dst undef) w) : wpOp P l.toArray Q k (fun a' w' => ∃ S' : World → Prop, (∀ x, S' x → S x) ∧ S' w' ∧ p.wp P l.toArray Q S' a' w') a w :=
 wpOp_step (by simpa using ho) fun K' hK => by rw [if_neg (by rw [hw]; decide)]; exact hK _ _ ⟨S, fun _ h => h, hS, h⟩
theorem plan_ux {l : List Oper} {k : Nat} {p : Plan} {S : World → Prop} {a : Act} {w : World} {o : Oper} (ho : l[k]? = some o) (hw : Region.wanted o (yielded l.toArray a.tmps) = false) (hS : S w)
  (h : p.wp P l.toArray Q S (a.put o.dst undef) w) : (Plan.u k p).wp P l.toArray Q S a w :=
 plan_half_x ho hw hS h
end
theorem wpList_load_g {P : Program} {ops : Array Oper} {rest : List Oper} {op : Oper} {a : Act} {w : World} {Q : Exit → Act → World → Prop} (ty : TypeId) (x : Operand) (ho : op.op = .load ty x) (hw : Region.wanted op (yielded ops a.tmps) = true)
  (b o : Nat) (hx : a.eval x = .pointer (some ⟨b, o, none⟩)) (cs : List Value) (d : TypeDesc) (hc : w.rangeAt b o cs)
  (hu : P.underlying ty = some d) (hd : d.isRow = true) (hi : (P.info? ty).map (·.size) = some cs.length)
  (h : wpList P ops Q rest (a.put op.dst (.agg cs.toArray)) w) : wpList P ops Q (op :: rest) a w :=
 wpList_step fun K hK => by rw [if_pos hw]; exact wp_load_mid ty x ho b o hx cs d hc hu hd hi (hK _ _ h)
theorem rngL {w : World} {g : Nat} {t : TypeId} {cs : List Value} (h : w.heap[g]? = some (.cells cs.toArray t (0, 0))) : w.rangeAt g 0 cs :=
 fun j v hv => by rw [Nat.zero_add]; exact row_cell h j v (by simpa using hv)
theorem cell_row {w : World} {g : Nat} {cs : List Value} {t : TypeId} (h : w.heap[g]? = some (.cells cs.toArray t (0, 0))) (i : Nat) (v : Value) (hv : cs[i]? = some v) : w.cell? ⟨g, i, none⟩ = some v := row_cell h i v (by rw [List.getElem?_toArray]; exact hv)
theorem rng_row {w : World} {g : Nat} {cs : List Value} {t : TypeId} (h : w.heap[g]? = some (.cells cs.toArray t (0, 0))) (off : Nat) (C : List Value) (hv : ∀ (j : Nat) (v : Value), C[j]? = some v → cs[off + j]? = some v) : w.rangeAt g off C :=
 fun j v hj => cell_row h _ v (hv j v hj)
theorem own_capm {w : World} {base e n size : Nat} {v : Value} {xs : List Value} (h : w.ownsRow base e size v n xs) : ∀ b l c, v = .slice b l c → c ≤ 9223372036854775807 := by
 intro b l c hv
 rcases h.2 with ⟨h1, _⟩ | ⟨g, cap, cur, h1, hg, hrow, hn, hc, hsz, htk⟩
 ·
  rw [h1] at hv; injection hv with h1 h2 h3; omega
 ·
  rw [h1] at hv; injection hv with h1 h2 h3; subst h3; unfold maxLen at hc; omega
end Go.Proofs.Ytmbjepcbokbemaa
namespace Go.Proofs.Ytmbjepcbokbemaa
open Go.RowKit
structure RK (α : Type) where
 N : Nat
 enc : α → List Value
 ok : α → Prop
 pos : 0 < N
 small : N ≤ 1000
 len : ∀ x, ok x → (enc x).length = N
 one : ∀ x, ok x → ∀ v ∈ enc x, v.oneCell' = true
section
variable {α : Type} (K : RK α)
def RK.flat (l : List α) : List Value := l.flatMap K.enc
theorem RK.flat_cons (x : α) (l : List α) : K.flat (x :: l) = K.enc x ++ K.flat l := by simp [RK.flat]
theorem RK.flat_app (l m : List α) : K.flat (l ++ m) = K.flat l ++ K.flat m := by simp [RK.flat]
theorem RK.flat_len : ∀ l : List α, (∀ x ∈ l, K.ok x) → (K.flat l).length = l.length * K.N
 | [], _ => by simp [RK.flat]
 | x :: l, h => by
  rw [RK.flat_cons, List.length_append, K.len x (h x (List.mem_cons_self ..)), RK.flat_len l (fun y hy => h y (List.mem_cons_of_mem _ hy)), List.length_cons, Nat.add_mul]; omega
theorem RK.flat_one (l : List α) (h : ∀ x ∈ l, K.ok x) : ∀ v ∈ K.flat l, v.oneCell' = true := by
 intro v hv
 obtain ⟨x, hx, hv⟩ := List.mem_flatMap.1 hv
 exact K.one x (h x hx) v hv
theorem RK.flat_at : ∀ (l : List α), (∀ x ∈ l, K.ok x) → ∀ (j i : Nat) (x : α) (v : Value), l[j]? = some x → (K.enc x)[i]? = some v → (K.flat l)[j * K.N + i]? = some v
 | [], _, j, i, x, v, h, _ => by simp at h
 | y :: l, ho, 0, i, x, v, h, hv => by
  simp at h; subst h
  have hl := K.len y (ho y (List.mem_cons_self ..))
  have := lt_of_get hv
  rw [RK.flat_cons, Nat.zero_mul, Nat.zero_add, List.getElem?_append_left (by omega)]
  exact hv
 | y :: l, ho, j + 1, i, x, v, h, hv => by
  have hl := K.len y (ho y (List.mem_cons_self ..))
  have ih := RK.flat_at l (fun z hz => ho z (List.mem_cons_of_mem _ hz)) j i x v (by simpa using h) hv
  have e : (j + 1) * K.N + i = (K.enc y).length + (j * K.N + i) := by rw [hl, Nat.add_mul]; omega
  rw [e, RK.flat_cons, List.getElem?_append_right (by omega), Nat.add_sub_cancel_left]
  exact ih
theorem RK.flat_take : ∀ (l : List α), (∀ x ∈ l, K.ok x) → ∀ (k : Nat), K.flat (l.take k) = (K.flat l).take (k * K.N)
 | [], _, k => by simp [RK.flat]
 | x :: l, h, 0 => by simp [RK.flat]
 | x :: l, h, k + 1 => by
  have hl := K.len x (h x (List.mem_cons_self ..))
  rw [List.take_succ_cons, RK.flat_cons, RK.flat_cons, RK.flat_take l (fun y hy => h y (List.mem_cons_of_mem _ hy)) k, show (k + 1) * K.N = (K.enc x).length + k * K.N by rw [hl, Nat.add_mul]; omega, List.take_length_add_append]
theorem RK.flat_drop : ∀ (l : List α), (∀ x ∈ l, K.ok x) → ∀ (k : Nat), K.flat (l.drop k) = (K.flat l).drop (k * K.N)
 | [], _, k => by simp [RK.flat]
 | x :: l, h, 0 => by simp
 | x :: l, h, k + 1 => by
  have hl := K.len x (h x (List.mem_cons_self ..))
  rw [List.drop_succ_cons, RK.flat_cons, RK.flat_drop l (fun y hy => h y (List.mem_cons_of_mem _ hy)) k, show (k + 1) * K.N = (K.enc x).length + k * K.N by rw [hl, Nat.add_mul]; omega, List.drop_length_add_append]
def RK.At (w : World) (a : Option Addr) (n : Nat) (l : List α) : Prop :=
 n = l.length ∧ (∀ x ∈ l, K.ok x) ∧ (n = 0 ∨ ∃ b off, a = some ⟨b, off, none⟩ ∧ b < w.heap.size ∧ ∀ j u, (K.flat l)[j]? = some u → w.cell? ⟨b, off + j, none⟩ = some u)
end
section
variable {α : Type} {K : RK α} {w y : World} {a : Option Addr} {n : Nat} {l : List α}
theorem RK.At.nil (w : World) (a : Option Addr) : K.At w a 0 [] := ⟨rfl, (fun x hx => by cases hx), .inl rfl⟩
theorem RK.At.below (h : K.At w a n l) (hb : Below w.heap.size w y) : K.At y a n l := by
 refine ⟨h.1, h.2.1, ?_⟩
 rcases h.2.2 with h0 | ⟨b, off, rfl, hl, hc⟩
 ·
  exact .inl h0
 ·
  exact .inr ⟨b, off, rfl, Nat.lt_of_lt_of_le hl hb.size, fun j u hu => bl_cell hb (p := ⟨b, off + j, none⟩) hl (hc j u hu)⟩
theorem RK.At.grown {r : Option Nat} (h : K.At w a n l) (hg : w.grownBy y r) (hr : ∀ x, a = some x → some x.block ≠ r) : K.At y a n l := by
 refine ⟨h.1, h.2.1, ?_⟩
 rcases h.2.2 with h0 | ⟨b, off, rfl, hl, hc⟩
 ·
  exact .inl h0
 ·
  refine .inr ⟨b, off, rfl, Nat.lt_of_lt_of_le hl hg.size, fun j u hu => ?_⟩
  rw [← hc j u hu]
  simp only [World.cell?, hg.block b hl (hr _ rfl)]
theorem RK.At.of_own {B e : Nat} {c : Nat} (h : w.ownsRow B e K.N (.slice a n c) n (K.flat l)) (hw : ∀ x ∈ l, K.ok x) : K.At w a n l := by
 have hl := h.1
 rw [K.flat_len l hw] at hl
 have hn : n = l.length := (Nat.eq_of_mul_eq_mul_right K.pos hl).symm
 refine ⟨hn, hw, ?_⟩
 rcases h.2 with ⟨_, h0⟩ | ⟨g, cap, cur, e1, hg, hrow, hn, hc, hsz, htk⟩
 ·
  exact .inl h0
 ·
  injection e1 with e1 e2 e3
  subst e1
  refine .inr ⟨g, 0, rfl, lt_of_block hrow, fun j u hu => ?_⟩
  rw [Nat.zero_add, cell_of_row w g j cur e (0, 0) hrow]
  rw [← htk, List.getElem?_take] at hu
  split at hu
  ·
   simpa using hu
  ·
   cases hu
theorem RK.At.of_row {t : TypeId} {g : Nat} (h : w.heap[g]? = some (.cells (K.flat l).toArray t (0, 0))) (hw : ∀ x ∈ l, K.ok x) : K.At w (some ⟨g, 0, none⟩) l.length l :=
 ⟨rfl, hw, .inr ⟨g, 0, rfl, lt_of_block h, fun j u hu => by rw [Nat.zero_add]; exact cell_row h j u hu⟩⟩
theorem RK.At.at (h : K.At w a n l) {j : Nat} (hj : j < n) : ∃ b off x, a = some ⟨b, off, none⟩ ∧ b < w.heap.size ∧ l[j]? = some x ∧ K.ok x ∧ w.rangeAt b (off + j * K.N) (K.enc x) := by
 rcases h.2.2 with h0 | ⟨b, off, rfl, hl, hc⟩
 ·
  omega
 ·
  have hx : l[j]? = some (l[j]'(by have := h.1; omega)) := List.getElem?_eq_getElem (by have := h.1; omega)
  exact ⟨b, off, _, rfl, hl, hx, h.2.1 _ (List.getElem_mem _), fun i v hv => by rw [Nat.add_assoc]; exact hc _ _ (K.flat_at l h.2.1 j i _ v hx hv)⟩
theorem RK.At.pre (h : K.At w a n l) (k : Nat) (hk : k ≤ n) : K.At w a k (l.take k) := by
 refine ⟨by rw [List.length_take]; have := h.1; omega, fun x hx => h.2.1 x (List.mem_of_mem_take hx), ?_⟩
 rcases h.2.2 with h0 | ⟨b, off, rfl, hl, hc⟩
 ·
  exact .inl (by omega)
 ·
  refine .inr ⟨b, off, rfl, hl, fun j u hu => hc j u ?_⟩
  rw [K.flat_take l h.2.1, List.getElem?_take] at hu
  split at hu
  ·
   exact hu
  ·
   cases hu
theorem RK.At.suf {b off : Nat} (h : K.At w (some ⟨b, off, none⟩) n l) (k : Nat) (hk : k ≤ n) : K.At w (some ⟨b, off + k * K.N, none⟩) (n - k) (l.drop k) := by
 refine ⟨by rw [List.length_drop]; have := h.1; omega, fun x hx => h.2.1 x (List.mem_of_mem_drop hx), ?_⟩
 rcases h.2.2 with h0 | ⟨b, off, e, hl, hc⟩
 ·
  exact .inl (by omega)
 ·
  injection e with e; injection e with e1 e2; subst e1; subst e2
  refine .inr ⟨_, _, rfl, hl, fun j u hu => ?_⟩
  rw [K.flat_drop l h.2.1, List.getElem?_drop] at hu
  rw [Nat.add_assoc]
  exact hc _ u hu
theorem RK.At.sufC {b off : Nat} (h : K.At w (some ⟨b, off, none⟩) n l) (k c : Nat) (hk : k ≤ n) (hc : n ≤ c) : K.At w (if c = k then some ⟨b, off, none⟩ else some ⟨b, off + k * K.N, none⟩) (n - k) (l.drop k) := by
 split
 ·
  have h2 := h.suf k hk
  refine ⟨h2.1, h2.2.1, .inl (by omega)⟩
 ·
  exact h.suf k hk
theorem RK.At.lt (h : K.At w a n l) : ∀ x, a = some x → n ≠ 0 → x.block < w.heap.size := by
 intro x hx hn
 rcases h.2.2 with h0 | ⟨b, off, rfl, hl, hc⟩
 ·
  exact absurd h0 hn
 ·
  injection hx with hx; subst hx; exact hl
end
structure RT {α : Type} (K : RK α) (E T : TypeId) (z : Value) (by_ : Nat) : Prop where
 u : Try.prog.underlying T = some (.slice E)
 i : (Try.prog.info? E).map (fun i => (i.zero, i.size, i.bytes)) = some (some z, K.N, by_)
 z : z.cells.size = K.N
 b : by_ ≤ 1000
section
variable {α : Type} {K : RK α} {E T : TypeId} {z : Value} {by_ : Nat}
theorem append_rk (hT : RT K E T z by_) (w : World) (ty : TypeId) (B n : Nat) (v : Value) (xs : List α) (hown : w.ownsRow B E K.N v n (K.flat xs)) (a : Option Addr) (m c : Nat) (l : List α) (hI : K.At w a m l) (hb : n + m ≤ 1000000) (hB : B ≤ w.heap.size) :
  ∃ v' w', (Builtin.append_ #[T, T] ty #[v, .slice a m c]).run Try.prog w = .ok v' w' ∧ w'.ownsRow B E K.N v' (n + m) (K.flat (xs ++ l)) ∧ w.grownBy w' v.ownBlock ∧ (v'.ownBlock = v.ownBlock ∨ v'.ownBlock = some w.heap.size) := by
 obtain ⟨i0, hi, hz0, hz1, hz2⟩ := info_parts hT.i
 rw [K.flat_app]
 cases a with
 | none =>
  have hm : m = 0 := by
   rcases hI.2.2 with h | ⟨b, off, h, _⟩
   ·
    exact h
   ·
    cases h
  subst hm
  obtain rfl : l = [] := List.eq_nil_of_length_eq_zero hI.1.symm
  have hsrc : Src Try.prog i0.size T (.slice none 0 c) 0 [] w := Src.ofNil w hT.u c
  obtain ⟨b, l, cp, rfl, hle⟩ : ∃ b l cp, v = .slice b l cp ∧ l ≤ cp := by
   rcases hown.2 with ⟨rfl, rfl⟩ | ⟨g, cap, cur, rfl, hg, hrow, hn, hc, hsz, htk⟩
   ·
    exact ⟨_, _, _, rfl, Nat.le_refl _⟩
   ·
    exact ⟨_, _, _, rfl, hn⟩
  exact ⟨_, w, run_append_nothing w T T ty E i0 hT.u hi b l cp hle _ hsrc, by simpa [RK.flat] using hown, grown_refl _ _, .inl rfl⟩
 | some ad =>
  have hnews : ∀ j u, (K.flat l)[j]? = some u → w.cell? (ad.add j) = some u := by
   rcases hI.2.2 with h0 | ⟨b, off, e, _, hc⟩
   ·
    intro j u hu
    have : l = [] := List.eq_nil_of_length_eq_zero (by have := hI.1; omega)
    subst this
    simp [RK.flat] at hu
   ·
    injection e with e; subst e
    intro j u hu
    rw [add_none]
    exact hc j u hu
  have hby : (n + m) * by_ ≤ 1000000 * 1000 := Nat.mul_le_mul hb hT.b
  obtain ⟨v', w', h1, h2, h3, _, h4⟩ := run_append_own_at (P := Try.prog) w B T ty E i0 _ K.N by_ hT.u hi hz0 hz1 hz2 hT.z K.pos v n (K.flat xs) hown ad m c (K.flat l) (by rw [K.flat_len l hI.2.1, hI.1]) hnews (K.flat_one l hI.2.1) (by unfold maxLen; omega) (by omega) hB
  exact ⟨v', w', h1, h2, h3, h4⟩
variable {ops : Array Oper} {rest : List Oper} {o : Oper} {a : Act} {w : World} {Q : Exit → Act → World → Prop} {J : Act → World → Prop}
theorem wp_append_rk (hT : RT K E T z by_) (s x : Operand) (ho : o.op = .call { callee := .builtin .append, args := #[s, x], argTypes := #[T, T] })
  (B n : Nat) (v : Value) (xs : List α) (hs : a.eval s = v) (hown : w.ownsRow B E K.N v n (K.flat xs)) (xa : Option Addr) (m c : Nat) (l : List α) (hx : a.eval x = .slice xa m c) (hI : K.At w xa m l) (hb : n + m ≤ 1000000) (hB : B ≤ w.heap.size)
  (h : ∀ v' w', w'.ownsRow B E K.N v' (n + m) (K.flat (xs ++ l)) → w.grownBy w' v.ownBlock → (v'.ownBlock = v.ownBlock ∨ v'.ownBlock = some w.heap.size) → J (a.put o.dst v') w') : Oper.wp Try.prog o a w J Q := by
 obtain ⟨v', w', hr, h2, h3, h4⟩ := append_rk hT w o.type B n v xs hown xa m c l hI hb hB
 unfold Oper.wp execOp
 simp only [ho, resolve, invoke, builtin, Sem.run_bind, Sem.run_pure, Result.andThen_ok, List.map_toArray, List.map_cons, List.map_nil, hs, hx, hr]
 exact h v' w' h2 h3 h4
theorem wpList_append_rk (hT : RT K E T z by_) (hgd : o.guard = none) (s x : Operand) (ho : o.op = .call { callee := .builtin .append, args := #[s, x], argTypes := #[T, T] })
  (B n : Nat) (v : Value) (xs : List α) (hs : a.eval s = v) (hown : w.ownsRow B E K.N v n (K.flat xs)) (xa : Option Addr) (m c : Nat) (l : List α) (hx : a.eval x = .slice xa m c) (hI : K.At w xa m l) (hb : n + m ≤ 1000000) (hB : B ≤ w.heap.size)
  (h : ∀ v' w', w'.ownsRow B E K.N v' (n + m) (K.flat (xs ++ l)) → w.grownBy w' v.ownBlock → (v'.ownBlock = v.ownBlock ∨ v'.ownBlock = some w.heap.size) → wpList Try.prog ops Q rest (a.put o.dst v') w') : wpList Try.prog ops Q (o :: rest) a w :=
 wpList_plain hgd fun J hK => wp_append_rk hT s x ho B n v xs hs hown xa m c l hx hI hb hB fun v' w' h1 h2 h3 => hK _ _ (h v' w' h1 h2 h3)
theorem wp_build_rk (hT : RT K E T z by_) (x : Operand) (ho : o.op = .buildSlice T 1 #[(0, x)]) (t : α) (ht : K.ok t) (hx : a.eval x = .agg (K.enc t).toArray)
  (h : J (a.put o.dst (.slice (some ⟨w.heap.size, 0, none⟩) 1 1)) (w.alloc (.cells (K.flat [t]).toArray E))) : Oper.wp Try.prog o a w J Q := by
 obtain ⟨i0, hi, hz0, hz1, hz2⟩ := info_parts hT.i
 have hl := K.len t ht
 have hz := hT.z
 have hp := K.pos
 have hby := hT.b
 have hf := Great.fill_whole (s := K.N) K.pos [.agg (K.enc t).toArray] ((Array.range (1 * K.N)).map fun x => z.cells[x % z.cells.size]!) (by simp [Value.cells, hl]) (by simp)
 refine wp_buildSlice T E 1 _ ho (K.flat [t]).toArray i0 _ hT.u hi hz0 ?_ (by rw [hz1]; omega) ?_ h
 ·
  have := K.small
  rw [hz1]; omega
 rw [hz1]
 simp only [List.map_toArray, List.map_cons, List.map_nil, hx]
 simpa [Value.cells, RK.flat] using hf
theorem wpList_build_rk (hT : RT K E T z by_) (hgd : o.guard = none) (x : Operand) (ho : o.op = .buildSlice T 1 #[(0, x)]) (t : α) (ht : K.ok t) (hx : a.eval x = .agg (K.enc t).toArray)
  (h : wpList Try.prog ops Q rest (a.put o.dst (.slice (some ⟨w.heap.size, 0, none⟩) 1 1)) (w.alloc (.cells (K.flat [t]).toArray E))) : wpList Try.prog ops Q (o :: rest) a w :=
 wpList_plain hgd fun J hK => wp_build_rk hT x ho t ht hx (hK _ _ h)
end
theorem sl_own {w : World} {base e n : Nat} {v : Value} {xs : List Value} {size : Nat} (h : w.ownsRow base e size v n xs) : ∃ b cp, v = .slice b n cp ∧ n ≤ cp ∧ cp ≤ 9223372036854775807 := by
 have hm := own_capm h
 rcases h.2 with ⟨rfl, rfl⟩ | ⟨g, cap, cur, rfl, hg, hrow, hn, hc, hsz, htk⟩
 ·
  exact ⟨_, _, rfl, Nat.le_refl _, by omega⟩
 ·
  exact ⟨_, _, rfl, hn, hm _ _ _ rfl⟩
theorem wf_u64r {n : Int} (h0 : 0 ≤ n) (h1 : n < 18446744073709551616) : (Lit.int .u64 n).wf = true := by
 simp [Lit.wf, IntKind.min, IntKind.max, IntKind.signed, IntKind.bits]; omega
end Go.Proofs.Ytmbjepcbokbemaa
namespace Go.Proofs.Ytmbjepcbokbemaa.Kc
open Go.RowKit
def cidM (n : Int) : List Int := [1, within n 0 1048576 % 5, 7, 0, 0, 0, 0, 0]
end Go.Proofs.Ytmbjepcbokbemaa.Kc
namespace Go.Proofs.Ytmbjepcbokbemaa
open Go.RowKit
structure Fr where
 kind : Int
 st : Int
 of_ : Int
 data : List Int
 fin : Bool
 li : Int
 co : Int
 fi : Int
 se : Int
 de : Int
 rg : List (Int × Int)
 cid : List Int
def U64 (n : Int) : Prop := 0 ≤ n ∧ n < 18446744073709551616
def rgK : RK (Int × Int) := ⟨2, fun x => [.int .u64 x.1, .int .u64 x.2], fun x => U64 x.1 ∧ U64 x.2, by omega, by omega, fun _ _ => rfl, fun x _ v hv => by
 simp only [List.mem_cons, List.not_mem_nil, or_false] at hv; rcases hv with rfl | rfl <;> rfl⟩
structure Fr.Wf (f : Fr) : Prop where
 kind : -9223372036854775808 ≤ f.kind ∧ f.kind ≤ 9223372036854775807
 st : U64 f.st
 of_ : U64 f.of_
 li : U64 f.li
 co : U64 f.co
 fi : U64 f.fi
 se : U64 f.se
 de : U64 f.de
 cidl : f.cid.length = 8
 cid : ∀ x ∈ f.cid, (Lit.int .u8 x).wf = true
def Fr.cells (f : Fr) (dv rv : Value) : List Value :=
 [.int .i64 f.kind, .int .u64 f.st, .int .u64 f.of_, dv, .bool f.fin, .int .u64 f.li, .int .u64 f.co, .int .u64 f.fi, .int .u64 f.se, .int .u64 f.de, rv] ++ f.cid.map (Value.int .u8)
structure FrAt (w : World) (f : Fr) (dv rv : Value) : Prop where
 wf : f.Wf
 d : ∃ a n c, dv = .slice a n c ∧ n ≤ c ∧ c ≤ 9223372036854775807 ∧ IntsK .u8 w a n f.data
 r : ∃ a n c, rv = .slice a n c ∧ n ≤ c ∧ c ≤ 9223372036854775807 ∧ rgK.At w a n f.rg
theorem FrAt.below {w y : World} {f : Fr} {dv rv : Value} (h : FrAt w f dv rv) (hb : Below w.heap.size w y) : FrAt y f dv rv := by
 obtain ⟨wf, ⟨a, n, c, e, h1, h2, h3⟩, ⟨a', n', c', e', h1', h2', h3'⟩⟩ := h
 exact ⟨wf, ⟨a, n, c, e, h1, h2, h3.below hb⟩, ⟨a', n', c', e', h1', h2', h3'.below hb⟩⟩
def zeroF (k : Int) : Fr := ⟨k, 0, 0, [], false, 0, 0, 0, 0, 0, [], [0, 0, 0, 0, 0, 0, 0, 0]⟩
theorem FrAt.zero (w : World) (k : Int) (hk : -9223372036854775808 ≤ k ∧ k ≤ 9223372036854775807) : FrAt w (zeroF k) (.slice none 0 0) (.slice none 0 0) :=
 ⟨⟨hk, by simp [zeroF, U64], by simp [zeroF, U64], by simp [zeroF, U64], by simp [zeroF, U64], by simp [zeroF, U64], by simp [zeroF, U64], by simp [zeroF, U64], rfl, by intro x hx; simp [zeroF] at hx; subst hx; rfl⟩,
  ⟨none, 0, 0, rfl, Nat.le_refl _, by omega, IntsK.nil _ _ _⟩, ⟨none, 0, 0, rfl, Nat.le_refl _, by omega, RK.At.nil _ _⟩⟩
def risesB : List (Int × Int) → Bool
 | [] => true
 | [x] => decide (x.1 < x.2)
 | x :: y :: l => decide (x.1 < x.2) && decide (x.2 < y.1) && risesB (y :: l)
def ackB (l : List (Int × Int)) : Bool := decide (1 ≤ l.length) && decide (l.length ≤ 16) && decide ((l.getLast?.getD (0, 0)).2 ≤ 4611686018427387904) && risesB l
def inB (n : Int) : Bool := decide (n ≤ 4611686018427387903)
def atB (off : Int) (n : Nat) : Bool := decide (n ≤ 512) && decide (off ≤ 1099511627776) && decide (off + n ≤ 1099511627776)
def rightB (f : Fr) : Bool :=
 if f.kind = 0 ∨ f.kind = 1 ∨ f.kind = 30 ∨ f.kind = 26 ∨ f.kind = 27 then true
 else if f.kind = 2 then ackB f.rg && inB f.de
 else if f.kind = 4 then inB f.st && inB f.co && decide (f.fi ≤ 1099511627776)
 else if f.kind = 5 then inB f.st && inB f.co
 else if f.kind = 6 then atB f.of_ f.data.length
 else if f.kind = 8 then inB f.st && atB f.of_ f.data.length
 else if f.kind = 16 then decide (f.li ≤ 1099511627776)
 else if f.kind = 17 then inB f.st && decide (f.li ≤ 1099511627776)
 else if f.kind = 18 then decide (f.li ≤ 1048576)
 else if f.kind = 20 then inB f.li
 else if f.kind = 24 then inB f.se && decide (f.li ≤ f.se)
 else if f.kind = 25 then inB f.se
 else if f.kind = 28 then inB f.co && decide (f.data.length ≤ 32)
 else false
end Go.Proofs.Ytmbjepcbokbemaa
namespace Go.Proofs.Ytmbjepcbokbemaa
open Go.RowKit
def asksB (f : Fr) : Bool := decide (f.kind ≠ 0 ∧ f.kind ≠ 2 ∧ f.kind ≠ 28)
def kindM (f : Fr) : Int := if f.kind = 8 then 10 + (if 0 < f.of_ then 4 else 0) + (if f.fin then 1 else 0) else f.kind
def varsM (l : List Int) : List Int := l.flatMap putM
def textB (l : List Int) : List Int := putM l.length ++ l
def revGaps : List (Int × Int) → List Int
 | a :: b :: l => (a.1 - b.2 - 1) :: (b.2 - 1 - b.1) :: revGaps (b :: l)
 | _ => []
def ackV (rg : List (Int × Int)) (de : Int) : List Int := match rg.reverse with
 | [] => []
 | x :: l => [x.2 - 1, de, (l.length : Int), x.2 - 1 - x.1] ++ revGaps (x :: l)
def bodyM (f : Fr) : List Int :=
 if f.kind = 2 then varsM (ackV f.rg f.de)
 else if f.kind = 4 then varsM [f.st, f.co, f.fi]
 else if f.kind = 5 then varsM [f.st, f.co]
 else if f.kind = 6 then putM f.of_ ++ textB f.data
 else if f.kind = 8 then putM f.st ++ ((if 0 < f.of_ then putM f.of_ else []) ++ textB f.data)
 else if f.kind = 16 ∨ f.kind = 18 ∨ f.kind = 20 then putM f.li
 else if f.kind = 17 then varsM [f.st, f.li]
 else if f.kind = 24 then varsM [f.se, f.li] ++ ([8] ++ f.cid)
 else if f.kind = 25 then putM f.se
 else if f.kind = 26 ∨ f.kind = 27 then f.cid
 else if f.kind = 28 then putM f.co ++ textB f.data
 else []
def oneFM (f : Fr) : List Int := putM (kindM f) ++ bodyM f
def nrmF (f : Fr) : Fr :=
 if f.kind = 2 then { zeroF 2 with rg := f.rg, de := f.de }
 else if f.kind = 4 then { zeroF 4 with st := f.st, co := f.co, fi := f.fi }
 else if f.kind = 5 then { zeroF 5 with st := f.st, co := f.co }
 else if f.kind = 6 then { zeroF 6 with of_ := f.of_, data := f.data }
 else if f.kind = 8 then { zeroF 8 with st := f.st, of_ := f.of_, data := f.data, fin := f.fin }
 else if f.kind = 16 ∨ f.kind = 18 ∨ f.kind = 20 then { zeroF f.kind with li := f.li }
 else if f.kind = 17 then { zeroF 17 with st := f.st, li := f.li }
 else if f.kind = 24 then { zeroF 24 with se := f.se, li := f.li, cid := f.cid }
 else if f.kind = 25 then { zeroF 25 with se := f.se }
 else if f.kind = 26 ∨ f.kind = 27 then { zeroF f.kind with cid := f.cid }
 else if f.kind = 28 then { zeroF 28 with co := f.co, data := f.data }
 else zeroF f.kind
abbrev Rdr (α : Type) := List Int → Bool → α × List Int × Bool
def bnd {α β : Type} (g : Rdr α) (h : α → Rdr β) : Rdr β := fun bs bad => h (g bs bad).1 (g bs bad).2.1 (g bs bad).2.2
def ret {α : Type} (v : α) : Rdr α := fun bs bad => (v, bs, bad)
def rawR (n : Int) : Rdr (List Int) := fun bs bad => rdM bs bad n
def restR : Rdr (List Int) := fun bs bad => rdM bs bad bs.length
def nameR : Rdr (List Int) := fun bs bad => (if (rdM bs bad 8).2.2 then [0, 0, 0, 0, 0, 0, 0, 0] else (rdM bs bad 8).1, (rdM bs bad 8).2)
def acksR : Nat → Int → List (Int × Int) → Rdr (Option (List (Int × Int)))
 | 0, hi, acc => bnd varM fun size => if hi < size then ret none else ret (some ((hi - size, hi + 1) :: acc))
 | n + 1, hi, acc => bnd varM fun size => if hi < size then ret none else bnd varM fun gap => if hi - size < gap + 2 then ret none else acksR n (hi - size - gap - 2) ((hi - size, hi + 1) :: acc)
def streamR (k : Int) : Rdr (Option Fr) :=
 bnd varM fun st => bnd (if k % 8 / 4 = 1 then varM else ret 0) fun off => bnd (if k % 4 / 2 = 1 then textM else restR) fun data => ret (some { zeroF 8 with st := st, of_ := off, data := data, fin := decide (k % 2 = 1) })
def takeR (k : Int) : Rdr (Option Fr) :=
 if k = 2 then bnd varM fun hi => bnd varM fun de => bnd varM fun n => if 16 ≤ n then ret none else bnd (acksR n.toNat hi []) fun o => ret (o.map fun rg => { zeroF 2 with rg := rg, de := de })
 else if k = 4 then bnd varM fun a => bnd varM fun b => bnd varM fun c => ret (some { zeroF 4 with st := a, co := b, fi := c })
 else if k = 5 then bnd varM fun a => bnd varM fun b => ret (some { zeroF 5 with st := a, co := b })
 else if k = 6 then bnd varM fun a => bnd textM fun d => ret (some { zeroF 6 with of_ := a, data := d })
 else if k = 16 ∨ k = 18 ∨ k = 20 then bnd varM fun a => ret (some { zeroF k with li := a })
 else if k = 17 then bnd varM fun a => bnd varM fun b => ret (some { zeroF 17 with st := a, li := b })
 else if k = 24 then bnd varM fun a => bnd varM fun b => bnd byteM fun x => bnd nameR fun c => ret (if x = 8 then some { zeroF 24 with se := a, li := b, cid := c } else none)
 else if k = 25 then bnd varM fun a => ret (some { zeroF 25 with se := a })
 else if k = 26 ∨ k = 27 then bnd nameR fun c => ret (some { zeroF k with cid := c })
 else if k = 28 then bnd varM fun a => bnd textM fun d => ret (some { zeroF 28 with co := a, data := d })
 else ret (some (zeroF k))
def frameR (k : Int) : Rdr (Option Fr) := if 8 ≤ k ∧ k ≤ 15 then streamR k else takeR k
def endF : Option Fr × List Int × Bool → Option (Fr × List Int)
 | (none, _, _) => none
 | (some f, r, bad) => if bad = true ∨ rightB f = false then none else some (f, r)
def decF (bs : List Int) : Option (Fr × List Int) :=
 if 30 < (varM bs false).1 then none else endF (frameR (varM bs false).1 (varM bs false).2.1 (varM bs false).2.2)
def allF : Nat → List Int → Option (List Fr)
 | _, [] => some []
 | 0, _ => none
 | n + 1, b :: t => match decF (b :: t) with
  | none => none
  | some (f, r) => (allF n r).map (f :: ·)
theorem varsM_cons (x : Int) (l : List Int) : varsM (x :: l) = putM x ++ varsM l := rfl
def fallB : List (Int × Int) → Prop
 | [] => True
 | [x] => 0 ≤ x.1 ∧ x.1 < x.2 ∧ x.2 ≤ 4611686018427387904
 | x :: y :: l => 0 ≤ x.1 ∧ x.1 < x.2 ∧ x.2 ≤ 4611686018427387904 ∧ y.2 < x.1 ∧ fallB (y :: l)
end Go.Proofs.Ytmbjepcbokbemaa
namespace Go.Proofs.Ytmbjepcbokbemaa
open Go.RowKit
theorem rises_snoc_inv : ∀ {l : List (Int × Int)} {x : Int × Int}, risesB (l ++ [x]) = true → risesB l = true ∧ x.1 < x.2 ∧ ∀ y, l.getLast? = some y → y.2 < x.1
 | [], x, h => ⟨rfl, by simpa [risesB] using h, fun y hy => by cases hy⟩
 | [a], x, h => by
  simp only [List.cons_append, List.nil_append, risesB, Bool.and_eq_true, decide_eq_true_eq] at h
  exact ⟨by simpa [risesB] using h.1.1, h.2, fun y hy => by simp at hy; subst hy; exact h.1.2⟩
 | a :: b :: l, x, h => by
  simp only [List.cons_append, risesB, Bool.and_eq_true, decide_eq_true_eq] at h
  obtain ⟨h1, h2, h3⟩ := rises_snoc_inv (l := b :: l) (x := x) h.2
  refine ⟨?_, h2, fun y hy => h3 y (by rw [List.getLast?_cons_cons] at hy; exact hy)⟩
  simp only [risesB, Bool.and_eq_true, decide_eq_true_eq]; exact ⟨h.1, h1⟩
theorem fall_of : ∀ (l : List (Int × Int)), risesB l.reverse = true → (∀ x ∈ l, 0 ≤ x.1) → (∀ x, l.head? = some x → x.2 ≤ 4611686018427387904) → fallB l
 | [], _, _, _ => trivial
 | [x], h, h0, hm => by
  have h1 : x.1 < x.2 := by simpa [risesB] using h
  exact ⟨h0 x (List.mem_cons_self ..), h1, hm x rfl⟩
 | x :: y :: l, h, h0, hm => by
  rw [List.reverse_cons] at h
  obtain ⟨h1, h2, h3⟩ := rises_snoc_inv h
  have hy := h3 y (by rw [List.getLast?_reverse]; rfl)
  have hx := hm x rfl
  have hyl : y.1 < y.2 := by
   cases l with
   | nil => simpa [risesB] using h1
   | cons z l => rw [List.reverse_cons] at h1; exact (rises_snoc_inv h1).2.1
  refine ⟨h0 x (List.mem_cons_self ..), h2, hx, hy, fall_of (y :: l) h1 (fun z hz => h0 z (List.mem_cons_of_mem _ hz)) (fun z hz => ?_)⟩
  injection hz with hz; subst hz; omega
theorem right_kind {f : Fr} (hr : rightB f = true) : f.kind = 0 ∨ f.kind = 1 ∨ f.kind = 30 ∨ f.kind = 26 ∨ f.kind = 27 ∨ f.kind = 2 ∨ f.kind = 4 ∨ f.kind = 5 ∨ f.kind = 6 ∨ f.kind = 8 ∨ f.kind = 16 ∨ f.kind = 17 ∨ f.kind = 18 ∨ f.kind = 20 ∨ f.kind = 24 ∨ f.kind = 25 ∨ f.kind = 28 := by
 refine Decidable.byContradiction fun hn => ?_
 simp only [not_or] at hn
 have : rightB f = false := by unfold rightB; simp [hn]
 rw [this] at hr; cases hr
theorem kindM_in {f : Fr} (hr : rightB f = true) : 0 ≤ kindM f ∧ kindM f ≤ 30 := by
 have h := right_kind hr
 unfold kindM
 split
 ·
  split <;> split <;> omega
 ·
  omega
theorem inB_iff {n : Int} : inB n = true ↔ n ≤ 4611686018427387903 := by unfold inB; simp
theorem atB_iff {o : Int} {n : Nat} : atB o n = true ↔ n ≤ 512 ∧ o ≤ 1099511627776 ∧ o + n ≤ 1099511627776 := by unfold atB; simp [and_assoc]
def RgOk (f : Fr) : Prop := ∀ x ∈ f.rg, 0 ≤ x.1
theorem end_some {f : Fr} {R : List Int} (h : rightB f = true) : endF (some f, R, false) = some (f, R) := by
 show (if false = true ∨ rightB f = false then none else some (f, R)) = _
 rw [h]; simp
end Go.Proofs.Ytmbjepcbokbemaa
namespace Go.Proofs.Ytmbjepcbokbemaa
open Go.RowKit
structure St {α : Type} (g : Rdr α) : Prop where
 stick : ∀ bs, (g bs true).2.2 = true
 pre : ∀ p s, (g p false).2.2 = true ∨ g (p ++ s) false = ((g p false).1, (g p false).2.1 ++ s, false)
theorem St.bnd {α β : Type} {g : Rdr α} {h : α → Rdr β} (hg : St g) (hh : ∀ v, St (h v)) : St (bnd g h) := by
 refine ⟨fun bs => ?_, fun p s => ?_⟩
 ·
  show (h _ _ (g bs true).2.2).2.2 = true
  rw [hg.stick]; exact (hh _).stick _
 ·
  rcases hg.pre p s with h1 | h1
  ·
   left
   show (h _ _ (g p false).2.2).2.2 = true
   rw [h1]; exact (hh _).stick _
  ·
   cases hb : (g p false).2.2 with
   | true =>
    left
    show (h _ _ (g p false).2.2).2.2 = true
    rw [hb]; exact (hh _).stick _
   | false =>
    have e1 : Go.Proofs.Ytmbjepcbokbemaa.bnd g h p false = h (g p false).1 (g p false).2.1 false := by
     show h _ _ (g p false).2.2 = _
     rw [hb]
    have e2 : Go.Proofs.Ytmbjepcbokbemaa.bnd g h (p ++ s) false = h (g p false).1 ((g p false).2.1 ++ s) false := by
     show h (g (p ++ s) false).1 (g (p ++ s) false).2.1 (g (p ++ s) false).2.2 = _
     rw [h1]
    rw [e1, e2]
    exact (hh _).pre _ _
theorem St.ret {α : Type} (v : α) : St (ret v) := ⟨fun _ => rfl, fun _ _ => .inr rfl⟩
theorem get_more {p : List Int} (s : List Int) (h : getS p ≠ 0) : getN (p ++ s) = getN p ∧ getS (p ++ s) = getS p := by
 cases p with
 | nil => exact absurd rfl h
 | cons b t =>
  have hl : ¬ (b :: t).length < szM b := fun hl => h (by show (if (b :: t).length < szM b then 0 else szM b) = 0; rw [if_pos hl])
  have hl2 : ¬ (b :: (t ++ s)).length < szM b := by simp only [List.length_cons, List.length_append] at hl ⊢; omega
  constructor
  ·
   show (if (b :: (t ++ s)).length < szM b then 0 else valM (b % 64) ((t ++ s).take (szM b - 1))) = (if (b :: t).length < szM b then 0 else valM (b % 64) (t.take (szM b - 1)))
   rw [if_neg hl, if_neg hl2, List.take_append_of_le_length (by simp only [List.length_cons] at hl; omega)]
  ·
   show (if (b :: (t ++ s)).length < szM b then 0 else szM b) = (if (b :: t).length < szM b then 0 else szM b)
   rw [if_neg hl, if_neg hl2]
theorem St.var : St varM := by
 refine ⟨fun bs => by unfold varM; simp, fun p s => ?_⟩
 by_cases h : getS p = 0
 ·
  left; unfold varM; rw [if_pos (.inr h)]
 ·
  right
  obtain ⟨h1, h2⟩ := get_more s h
  unfold varM
  rw [if_neg (by rw [h2]; simp; exact h), if_neg (by simp; exact h), h1, h2, List.drop_append_of_le_length (getS_le p)]
theorem rd_stick (bs : List Int) (n : Int) : rdM bs true n = ([], [], true) := rdM_bad (.inl rfl)
theorem rd_pre (p s : List Int) (n : Int) : (rdM p false n).2.2 = true ∨ rdM (p ++ s) false n = ((rdM p false n).1, (rdM p false n).2.1 ++ s, false) := by
 by_cases h : n < 0 ∨ (p.length : Int) < n
 ·
  left; rw [rdM_bad (.inr h)]
 ·
  right
  have h0 : ¬ (false = true ∨ n < 0 ∨ (p.length : Int) < n) := by simp; omega
  have h1 : ¬ (false = true ∨ n < 0 ∨ ((p ++ s).length : Int) < n) := by simp; omega
  unfold rdM
  rw [if_neg h0, if_neg h1, List.take_append_of_le_length (by omega), List.drop_append_of_le_length (by omega)]
theorem rd_ok {p s : List Int} {n : Int} (h : (rdM p false n).2.2 = false) : rdM (p ++ s) false n = ((rdM p false n).1, (rdM p false n).2.1 ++ s, false) := by
 rcases rd_pre p s n with h1 | h1
 ·
  rw [h] at h1; cases h1
 ·
  exact h1
theorem St.byte : St byteM := by
 refine ⟨fun bs => by unfold byteM; rw [rd_stick], fun p s => ?_⟩
 unfold byteM
 cases h : (rdM p false 1).2.2 with
 | true => exact .inl rfl
 | false => right; rw [rd_ok h]
theorem St.name : St nameR := by
 refine ⟨fun bs => by unfold nameR; rw [rd_stick], fun p s => ?_⟩
 unfold nameR
 cases h : (rdM p false 8).2.2 with
 | true => exact .inl rfl
 | false => right; rw [rd_ok h]
theorem St.text : St textM := by
 refine ⟨fun bs => ?_, fun p s => ?_⟩
 ·
  unfold textM
  split
  ·
   rfl
  ·
   rw [St.var.stick, rd_stick]
 ·
  cases hb : (varM p false).2.2 with
  | true =>
   left
   unfold textM
   split
   ·
    rfl
   ·
    rw [hb, rd_stick]
  | false =>
   have h1 : varM (p ++ s) false = ((varM p false).1, (varM p false).2.1 ++ s, false) := by
    rcases St.var.pre p s with h | h
    ·
     rw [hb] at h; cases h
    ·
     exact h
   by_cases hl : ((varM p false).2.1.length : Int) < (varM p false).1
   ·
    left; unfold textM; rw [if_pos hl]
   ·
    have e1 : textM p false = rdM (varM p false).2.1 false (varM p false).1 := by unfold textM; rw [if_neg hl, hb]
    have e2 : textM (p ++ s) false = rdM ((varM p false).2.1 ++ s) false (varM p false).1 := by
     unfold textM; rw [h1]; simp only; rw [if_neg (by rw [List.length_append]; omega)]
    rw [e1, e2]
    exact rd_pre _ _ _
theorem St.ite {α : Type} {c : Prop} [Decidable c] {a b : Rdr α} (ha : St a) (hb : St b) : St (if c then a else b) := by
 by_cases h : c
 ·
  rw [if_pos h]; exact ha
 ·
  rw [if_neg h]; exact hb
theorem St.acks : ∀ (n : Nat) (hi : Int) (acc : List (Int × Int)), St (acksR n hi acc)
 | 0, hi, acc => St.var.bnd fun v => St.ite (St.ret _) (St.ret _)
 | n + 1, hi, acc => St.var.bnd fun v => St.ite (St.ret _) (St.var.bnd fun w => St.ite (St.ret _) (St.acks n _ _))
theorem St.take (k : Int) : St (takeR k) := by
 unfold takeR
 exact St.ite (St.var.bnd fun _ => St.var.bnd fun _ => St.var.bnd fun _ => St.ite (St.ret _) ((St.acks _ _ _).bnd fun _ => St.ret _))
  (St.ite (St.var.bnd fun _ => St.var.bnd fun _ => St.var.bnd fun _ => St.ret _)
  (St.ite (St.var.bnd fun _ => St.var.bnd fun _ => St.ret _)
  (St.ite (St.var.bnd fun _ => St.text.bnd fun _ => St.ret _)
  (St.ite (St.var.bnd fun _ => St.ret _)
  (St.ite (St.var.bnd fun _ => St.var.bnd fun _ => St.ret _)
  (St.ite (St.var.bnd fun _ => St.var.bnd fun _ => St.byte.bnd fun _ => St.name.bnd fun _ => St.ret _)
  (St.ite (St.var.bnd fun _ => St.ret _)
  (St.ite (St.name.bnd fun _ => St.ret _)
  (St.ite (St.var.bnd fun _ => St.text.bnd fun _ => St.ret _)
  (St.ret _))))))))))
theorem St.stream {k : Int} (h : k % 4 / 2 = 1) : St (streamR k) := by
 unfold streamR
 refine St.var.bnd fun _ => St.bnd (St.ite St.var (St.ret _)) fun _ => ?_
 ·
  rw [if_pos h]; exact St.text.bnd fun _ => St.ret _
theorem endF_bad {v : Option Fr} {r : List Int} : endF (v, r, true) = none := by
 cases v with
 | none => rfl
 | some f => simp [endF]
theorem endF_of {q : Option Fr × List Int × Bool} (h : q.2.2 = true) : endF q = none := by
 obtain ⟨v, r, b⟩ := q
 simp only at h
 rw [h]; exact endF_bad
end Go.Proofs.Ytmbjepcbokbemaa
namespace Go.Proofs.Ytmbjepcbokbemaa
open Go.RowKit
theorem in1_any (w : World) (n : Int) (hn : U64 n) : Calls Try.prog 74 #[.int .u64 n] w fun e w' => e = .returned (.bool (!inB n)) ∧ w = w' := by
 obtain ⟨h1, h2⟩ := hn
 by_cases h : n ≤ 4611686018427387903
 ·
  have HB : Hid (inB n = true) := Qh (inB_iff.2 h)
  have hd : decide (4611686018427387903 < n) = false := by simpa using h
  go_enter Try.func74, Try.ntmps74
  go_wp2_with fail
  go_ret
  exact ⟨by rw [HB.out]; rfl, rfl⟩
 ·
  have HB : Hid (inB n = false) := Qh (by cases hb : inB n with | false => rfl | true => exact absurd (inB_iff.1 hb) h)
  have hd : decide (4611686018427387903 < n) = true := by simpa using h
  go_enter Try.func74, Try.ntmps74
  go_wp2_with fail
  go_ret
  exact ⟨by rw [HB.out]; rfl, rfl⟩
def IdxF (zs : List Int) (w : World) (e : Ending) (w' : World) : Prop := ∃ r : Int, e = .returned (.int .i64 r) ∧ (decide (0 ≤ r) = !zs.all inB) ∧ (r ≤ 100000 ∧ -1 ≤ r) ∧ w = w'
theorem indexf_any (w : World) (a : Option Addr) (len cap : Nat) (zs : List Int) (hI : IntsK .u64 w a len zs) (hlen : len ≤ 1000) :
  Calls Try.prog 80 #[.slice a len cap, .func (.func 74) #[] #[]] w (IdxF zs w) := by
 have HI := Qh hI
 have hl := hI.1
 clear hI
 go_enter Try.func80, Try.ntmps80
 go_wp2_with fail
 go_loop [8] (fun s8 => ∃ j : Nat, s8 = .int .i64 j ∧ j ≤ len ∧ Hid ((zs.take j).all inB = true)) (fun s8 => len - (intOf s8).toNat)
 case atStart => exact ⟨0, rfl, by omega, Qh rfl⟩
 case round =>
  obtain ⟨j, rfl, hj, HN⟩ := hrel
  by_cases hlt : j < len
  ·
   obtain ⟨b, off, x, rfl, hbl, hx, hwx, hc⟩ := HI.out.at (Below.refl _ _) (j := j) hlt
   have hts : zs.take (j + 1) = zs.take j ++ [x] := by
    have hj : zs[j]? = some x := by rw [hx, List.getD_eq_getElem?_getD, List.getElem?_eq_getElem (by omega)]; rfl
    rw [List.take_add_one, hj]; rfl
   have HTS := Qh hts
   have HMEM : Hid (x ∈ zs) := Qh (List.mem_of_mem_take (by rw [hts]; simp))
   have hux : U64 x := bdU64 hwx
   clear hx hwx hts
   have HIN := Qh (in1_any w x hux)
   obtain ⟨hu1, hu2⟩ := hux
   go_wp2_with fail
   refine Calls.mono HIN.out ?_
   rintro e wq ⟨rfl, rfl⟩
   by_cases hv : inB x = true
   ·
    rw [hv]
    have HV := Qh hv
    clear hv
    go_wp2_with fail
    go_round
    case rel => exact ⟨j + 1, by go_num, by omega, Qh (by rw [HTS.out, List.all_append, HN.out]; simp [HV.out])⟩
    case measure => simp [intOf]; omega
   ·
    have hv2 : inB x = false := by cases h : inB x with | false => rfl | true => exact absurd h hv
    rw [hv2]
    have HV := Qh hv2
    clear hv hv2
    go_wp2_with fail
    go_ret
    exact ⟨j, rfl, by
     have : zs.all inB = false := by
      cases h : zs.all inB with
      | false => rfl
      | true => have := List.all_eq_true.1 h x HMEM.out; rw [HV.out] at this; cases this
     rw [this]; simp, by omega, rfl⟩
  ·
   obtain rfl : j = len := by omega
   have HNI : Hid (zs.all inB = true) := Qh (by have h := HN.out; rw [List.take_of_length_le (by omega)] at h; exact h)
   go_wp2_with fail
   go_ret
   exact ⟨-1, rfl, by rw [HNI.out]; rfl, by omega, rfl⟩
theorem containsf_any (w : World) (a : Option Addr) (len cap : Nat) (zs : List Int) (hI : IntsK .u64 w a len zs) (hlen : len ≤ 1000) :
  Calls Try.prog 73 #[.slice a len cap, .func (.func 74) #[] #[]] w fun e w' => e = .returned (.bool (!zs.all inB)) ∧ w = w' := by
 have HX := Qh (indexf_any w a len cap zs hI hlen)
 obtain ⟨b, hbb⟩ : ∃ b, (!zs.all inB) = b := ⟨_, rfl⟩
 rw [hbb]
 have HBB := Qh hbb
 clear hI hbb
 go_enter Try.func73, Try.ntmps73
 go_wp2_with fail
 refine Calls.mono HX.out ?_
 rintro e wq ⟨r, rfl, hr, hb, rfl⟩
 rw [HBB.out] at hr
 have HR := Qh hr
 clear hr HBB HX
 obtain ⟨h1, h2⟩ := hb
 by_cases h0 : 0 ≤ r
 ·
  have hbt : b = true := by rw [← HR.out]; simpa using h0
  subst hbt
  go_wp2_with fail
  go_ret
  exact ⟨rfl, rfl⟩
 ·
  have hbt : b = false := by rw [← HR.out]; simpa using h0
  subst hbt
  have hd := HR.out
  go_wp2_with fail
  go_ret
  exact ⟨rfl, rfl⟩
theorem in_any (w : World) (a : Option Addr) (len cap : Nat) (zs : List Int) (hI : IntsK .u64 w a len zs) (hl : len ≤ 1000) :
  Calls Try.prog 51 #[.slice a len cap] w fun e w' => e = .returned (.bool (zs.all inB)) ∧ w = w' := by
 have HC := Qh (containsf_any w a len cap zs hI hl)
 obtain ⟨b, hb⟩ : ∃ b, zs.all inB = b := ⟨_, rfl⟩
 rw [hb] at HC ⊢
 clear hI hb
 go_enter Try.func51, Try.ntmps51
 go_wp2_with fail
 refine Calls.mono HC.out ?_
 rintro e wq ⟨rfl, rfl⟩
 cases b
 ·
  go_wp2_with fail
  go_ret
  exact ⟨rfl, rfl⟩
 ·
  go_wp2_with fail
  go_ret
  exact ⟨rfl, rfl⟩
theorem at4_any (w : World) (off : Int) (a : Option Addr) (len cap : Nat) (ho : U64 off) (hl : len ≤ cap ∧ cap ≤ 9223372036854775807) :
  Calls Try.prog 52 #[.int .u64 off, .slice a len cap] w fun e w' => e = .returned (.bool (atB off len)) ∧ w = w' := by
 obtain ⟨h1, h2⟩ := ho
 obtain ⟨h3, h4⟩ := hl
 by_cases hc1 : len ≤ 512
 ·
  by_cases hc2 : off ≤ 1099511627776
  ·
   by_cases hc3 : off + len ≤ 1099511627776
   ·
    have HB : Hid (atB off len = true) := Qh (atB_iff.2 ⟨hc1, hc2, hc3⟩)
    go_enter Try.func52, Try.ntmps52
    go_wp2_with fail
    go_ret
    exact ⟨by rw [HB.out]; rfl, rfl⟩
   ·
    have HB : Hid (atB off len = false) := Qh (by cases h : atB off len with | false => rfl | true => exact absurd (atB_iff.1 h).2.2 hc3)
    go_enter Try.func52, Try.ntmps52
    go_wp2_with fail
    go_ret
    exact ⟨by rw [HB.out]; rfl, rfl⟩
  ·
   have HB : Hid (atB off len = false) := Qh (by cases h : atB off len with | false => rfl | true => exact absurd (atB_iff.1 h).2.1 hc2)
   go_enter Try.func52, Try.ntmps52
   go_wp2_with fail
   go_ret
   exact ⟨by rw [HB.out]; rfl, rfl⟩
 ·
  have HB : Hid (atB off len = false) := Qh (by cases h : atB off len with | false => rfl | true => exact absurd (atB_iff.1 h).1 hc1)
  go_enter Try.func52, Try.ntmps52
  go_wp2_with fail
  go_ret
  exact ⟨by rw [HB.out]; rfl, rfl⟩
end Go.Proofs.Ytmbjepcbokbemaa
namespace Go.Proofs.Ytmbjepcbokbemaa
open Go.RowKit
theorem risesB_snoc : ∀ (l : List (Int × Int)) (x : Int × Int), risesB l = true → (∀ y, l.getLast? = some y → y.2 < x.1) → x.1 < x.2 → risesB (l ++ [x]) = true
 | [], x, _, _, h => by simp [risesB, h]
 | [y], x, h, hl, hx => by
  have := hl y rfl
  simp only [risesB, decide_eq_true_eq] at h
  simp [risesB, h, this, hx]
 | y :: z :: l, x, h, hl, hx => by
  simp only [risesB, Bool.and_eq_true, decide_eq_true_eq] at h
  have ih := risesB_snoc (z :: l) x h.2 (fun u hu => hl u (by rw [List.getLast?_cons_cons]; exact hu)) hx
  simp only [List.cons_append] at ih ⊢
  simp only [risesB, Bool.and_eq_true, decide_eq_true_eq]
  exact ⟨h.1, ih⟩
structure RaI (fr : Int) (n : Nat) (rs : List (Int × Int)) (at_ : Int) : Prop where
 len : rs.length = n
 ok : ∀ x ∈ rs, rgK.ok x
 rises : risesB rs = true
 last : ∀ x, rs.getLast? = some x → x.2 + 1 = at_
 lo : fr ≤ at_ ∧ at_ ≤ fr + 52 * n
theorem RaI.step {fr : Int} {n : Nat} {rs : List (Int × Int)} {at_ a b : Int} (h : RaI fr n rs at_) (h0 : 0 ≤ fr ∧ fr ≤ 100000) (hn : n ≤ 16) (ha : 0 ≤ a ∧ a < 30) (hb : 0 ≤ b ∧ b < 20) : RaI fr (n + 1) (rs ++ [(at_ + a, at_ + a + 1 + b)]) (at_ + a + 1 + b + 1) := by
 have hl := h.lo
 refine ⟨by simp [h.len], fun x hx => ?_, risesB_snoc _ _ h.rises (fun y hy => ?_) (by show at_ + a < at_ + a + 1 + b; omega), fun x hx => ?_, by omega, by omega⟩
 ·
  rcases List.mem_append.1 hx with hx | hx
  ·
   exact h.ok x hx
  ·
   rw [List.mem_singleton.1 hx]; exact ⟨⟨by simp only; omega, by simp only; omega⟩, ⟨by simp only; omega, by simp only; omega⟩⟩
 ·
  have := h.last y hy; simp only; omega
 ·
  rw [List.getLast?_append] at hx; simp at hx; subst hx; rfl
theorem RaI.ack {fr : Int} {n : Nat} {rs : List (Int × Int)} {at_ : Int} (h : RaI fr n rs at_) (h0 : 0 ≤ fr ∧ fr ≤ 100000) (hn : 1 ≤ n ∧ n ≤ 16) : ackB rs = true := by
 have hl := h.lo
 have h1 := h.len
 unfold ackB
 simp only [Bool.and_eq_true, decide_eq_true_eq]
 refine ⟨⟨⟨by omega, by omega⟩, ?_⟩, h.rises⟩
 cases e : rs.getLast? with
 | none => simp
 | some x => have := h.last x e; simp only [Option.getD_some]; omega
theorem ackB_one {fr : Int} (h : 0 ≤ fr ∧ fr ≤ 100000) : ackB [(fr, fr + 1)] = true := by
 simp only [ackB, risesB, Bool.and_eq_true, decide_eq_true_eq]
 exact ⟨⟨⟨by simp, by simp⟩, by simp; omega⟩, by omega⟩
theorem rgT : RT rgK 71 35 (.agg #[.int .u64 0, .int .u64 0]) 16 := ⟨Try.underlying35, by kernel_rfl, rfl, by omega⟩
theorem kranges_any (w : World) (a : Option Addr) (len cap : Nat) (zs : List Int) (fr : Int) (hI : IntsK .u64 w a len zs) (hl : len ≤ 9223372036854775807) (hf : 0 ≤ fr ∧ fr ≤ 100000) :
  Calls Try.prog 37 #[.slice a len cap, .int .u64 fr] w fun e w' => ∃ b m c rs, e = .returned (.slice b m c) ∧ m ≤ c ∧ c ≤ 9223372036854775807 ∧ rgK.At w' b m rs ∧ ackB rs = true ∧ (∀ x, b = some x → w.heap.size ≤ x.block) ∧ Below w.heap.size w w' := by
 have HI := Qh hI
 have HB := Qh (Below.refl w.heap.size w)
 have HO : Hid (w.ownsRow w.heap.size 71 2 (.slice none 0 0) 0 (rgK.flat [])) := Qh ⟨rfl, .inl ⟨rfl, rfl⟩⟩
 have HR : Hid (RaI fr 0 [] fr) := Qh ⟨rfl, (fun x hx => by cases hx), rfl, (fun x hx => by cases hx), by omega, by omega⟩
 clear hI
 go_enter Try.func37, Try.ntmps37
 go_wp2_with fail
 go_loopw [5, 6, 7] (fun s5 s6 s7 wr => ∃ (i n cp : Nat) (b : Option Addr) (rs : List (Int × Int)) (at_ : Int), s5 = .slice b n cp ∧ s6 = .int .u64 at_ ∧ s7 = .int .i64 i ∧ n ≤ 16 ∧ i ≤ len ∧ i ≤ 32 ∧ Hid (i = 2 * n) ∧ Hid (Below w.heap.size w wr) ∧ Hid (wr.ownsRow w.heap.size 71 2 (.slice b n cp) n (rgK.flat rs)) ∧ Hid (RaI fr n rs at_)) (fun _ _ s _ => len - (intOf s).toNat)
 case atStart => exact ⟨0, 0, 0, none, [], fr, rfl, rfl, rfl, by omega, by omega, by omega, Qh rfl, HB, HO, HR⟩
 case round =>
  clear HB HO HR
  obtain ⟨i, n, cp, b, rs, at_, rfl, rfl, rfl, hn, hil, hi32, HE, HB, HO, HR⟩ := hrel
  have hlo := HR.out.lo
  by_cases hc : i + 1 < len ∧ n < 16
  ·
   obtain ⟨h1, h2⟩ := hc
   obtain ⟨ab, ao, x, rfl, _, hx, hwx, c0⟩ := HI.out.at HB.out (show i < len by omega)
   obtain ⟨ab1, ao1, y, e1, _, hy, hwy, c1⟩ := HI.out.at HB.out h1
   injection e1 with e1; injection e1 with e1 e2
   subst e1; subst e2
   clear hx hy
   have hwx := bdU64 hwx; have hwy := bdU64 hwy
   have hxm := Int.emod_nonneg x (show (30 : Int) ≠ 0 by omega); have hxm2 := Int.emod_lt_of_pos x (show (0 : Int) < 30 by omega)
   have hym := Int.emod_nonneg y (show (20 : Int) ≠ 0 by omega); have hym2 := Int.emod_lt_of_pos y (show (0 : Int) < 20 by omega)
   go_upto_region 8 with fail
   clear c0 c1
   have HOK := Qh (HR.out.step hf (by omega) ⟨hxm, hxm2⟩ ⟨hym, hym2⟩)
   have hok : rgK.ok (at_ + x % 30, at_ + x % 30 + 1 + y % 20) := HOK.out.ok _ (List.mem_append_right _ (List.mem_singleton.2 rfl))
   have HK1 := Qh (fun z hz => (by rw [List.mem_singleton.1 hz]; exact hok : rgK.ok z) : ∀ z ∈ [(at_ + x % 30, at_ + x % 30 + 1 + y % 20)], rgK.ok z)
   clear hok
   go_wp2_with (first | (at_builtin; refine wpList_append_rk rgT rfl _ _ rfl w.heap.size n (.slice b n cp) rs rfl (own_below HO.out ((Below.refl _ _).alloc (Nat.le_refl _) _)) _ 1 1 [(at_ + x % 30, at_ + x % 30 + 1 + y % 20)] rfl (RK.At.of_row (t := 71) (heap_alloc_new _ _) HK1.out) (by omega) (HB.out.alloc HB.out.size _).size ?_; intro v' w' hown hgrow _; obtain ⟨b2, c2, rfl, _⟩ := sl_own hown; have HO2 := Qh hown; have HB2 := Qh ((HB.out.alloc HB.out.size _).grown hgrow (HB.out.alloc HB.out.size _).size (own_base HO.out)); clear hown hgrow) | fail)
   go_roundw
   case rel => exact ⟨i + 2, n + 1, c2, b2, _, _, rfl, rfl, by go_num, by omega, by omega, by have := HE.out; omega, Qh (by have := HE.out; omega), HB2, HO2, HOK⟩
   case measure => simp [intOf]; omega
  ·
   have HN : Hid (n = 0 ∨ 1 ≤ n) := Qh (by omega)
   by_cases h1 : i + 1 < len
   ·
    have h2 : ¬ n < 16 := fun h => hc ⟨h1, h⟩
    clear hc
    obtain ⟨n', rfl⟩ : ∃ n', n = n' + 1 := ⟨n - 1, by omega⟩
    have h0 : ¬ ((n' : Int) + 1 = 0) := by omega
    go_wp2_with fail
    go_ret
    obtain ⟨_, _, e0, h1, h2⟩ := sl_own HO.out
    injection e0 with e0 e1 e2; subst e2
    exact ⟨_, _, _, rs, rfl, h1, h2, RK.At.of_own HO.out HR.out.ok, HR.out.ack hf (by omega), (fun x hx => own_base HO.out _ (by rw [hx]; rfl)), HB.out⟩
   ·
    clear hc
    by_cases hz : n = 0
    ·
     obtain rfl := hz
     go_wp2_with fail
     go_ret
     refine ⟨_, _, _, rfl, (by omega : 1 ≤ 1), (by omega : 1 ≤ 9223372036854775807), [(fr, fr + 1)], RK.At.of_row (K := rgK) (t := 71) (l := [(fr, fr + 1)]) (heap_alloc_new _ _) (fun x hx => by rw [List.mem_singleton.1 hx]; exact ⟨⟨by simp only; omega, by simp only; omega⟩, ⟨by simp only; omega, by simp only; omega⟩⟩), ackB_one hf, (fun x hx => by injection hx with hx; rw [← hx]; exact HB.out.size), HB.out.alloc HB.out.size _⟩
    ·
     obtain ⟨n', rfl⟩ : ∃ n', n = n' + 1 := ⟨n - 1, by omega⟩
     have h0 : ¬ ((n' : Int) + 1 = 0) := by omega
     go_wp2_with fail
     go_ret
     obtain ⟨_, _, e0, h1, h2⟩ := sl_own HO.out
     injection e0 with e0 e1 e2; subst e2
     exact ⟨_, _, _, rfl, h1, h2, rs, RK.At.of_own HO.out HR.out.ok, HR.out.ack hf (by omega), (fun x hx => own_base HO.out _ (by rw [hx]; rfl)), HB.out⟩
end Go.Proofs.Ytmbjepcbokbemaa
