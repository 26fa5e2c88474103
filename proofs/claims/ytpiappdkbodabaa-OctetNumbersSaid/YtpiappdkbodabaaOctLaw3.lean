/- chapter 2's walks: written -/
import Derived.Test.YtpiappdkbodabaaOctLaw2
namespace Go.Proofs.Ytpiappdkbodabaa
open Go.RowKit
set_option linter.unusedVariables false

/-- what one Ask writes -/
def encM (q : Q) : List Int :=
  if q.k = 1 then [q.x % 256] else if q.k = 2 then [q.x % 65536 / 256, q.x % 65536 % 256] else if q.k = 3 then putM q.x else if q.k = 4 then q.bs.take 30
  else if q.k = 5 then putM ((min q.len 30 : Nat) : Int) ++ q.bs.take 30 else []
def wM (qs : Nat → Q) : Nat → List Int
  | 0 => []
  | j + 1 => wM qs j ++ encM (qs j)
theorem encM_len (q : Q) : (encM q).length ≤ 38 := by
  have h1 : ∀ x, sizeM x ≤ 8 := fun x => by have := sizeM_cases x; omega
  have h2 := h1 q.x
  have h3 := h1 ((min q.len 30 : Nat) : Int)
  unfold encM
  (repeat' split) <;> simp only [List.length_cons, List.length_nil, List.length_append, List.length_take, putM_len] <;> omega
theorem wM_len (qs : Nat → Q) : ∀ j, (wM qs j).length ≤ 38 * j
  | 0 => by simp [wM]
  | j + 1 => by have := wM_len qs j; have := encM_len (qs j); simp only [wM, List.length_append]; omega
theorem encM_wf {w : World} {q : Q} (h : q.ok w) : ∀ x ∈ encM q, (Lit.int .u8 x).wf = true := by
  intro x hx
  have hx0 := u64_bounds h.wx
  have hbs : ∀ y ∈ q.bs.take 30, (Lit.int .u8 y).wf = true := fun y hy => h.ints.2.1 y (List.mem_of_mem_take hy)
  unfold encM at hx
  split at hx
  · simp only [List.mem_cons, List.not_mem_nil, or_false] at hx; subst hx; exact wf_u8_mod _
  · split at hx
    · simp only [List.mem_cons, List.not_mem_nil, or_false] at hx
      rcases hx with rfl | rfl
      · exact wf_u8_of (by omega) (by omega)
      · exact wf_u8_mod _
    · split at hx
      · exact putM_wf _ hx0.1 x hx
      · split at hx
        · exact hbs x hx
        · split at hx
          · rcases List.mem_append.1 hx with h | h
            · exact putM_wf _ (by omega) x h
            · exact hbs x h
          · simp at hx
theorem wM_wf {w : World} {qs : Nat → Q} {n : Nat} (h : ∀ j, j < n → (qs j).ok w) : ∀ j, j ≤ n → ∀ x ∈ wM qs j, (Lit.int .u8 x).wf = true
  | 0, _ => by simp [wM]
  | j + 1, hj => fun x hx => by
    rcases List.mem_append.1 hx with h1 | h1
    · exact wM_wf h j (by omega) x h1
    · exact encM_wf (h j (by omega)) x h1

theorem own_lower {w : World} {B B' e size n : Nat} {v : Value} {xs : List Value} (h : w.ownsRow B e size v n xs) (hB : B' ≤ B) : w.ownsRow B' e size v n xs := by
  refine ⟨h.1, ?_⟩
  rcases h.2 with ⟨rfl, rfl⟩ | ⟨g, cap, cur, rfl, hg, hrow, hn, hc, hsz, htk⟩
  · exact .inl ⟨rfl, rfl⟩
  · exact .inr ⟨g, cap, cur, rfl, by omega, hrow, hn, hc, hsz, htk⟩
theorem own_lt {w : World} {B e size n : Nat} {v : Value} {xs : List Value} (h : w.ownsRow B e size v n xs) : ∀ k, v.ownBlock = some k → B ≤ k ∧ k < w.heap.size := h.lt
/-- a writer at p, and a row u of the call's own, apart. -/
structure Pair (w wr : World) (p : Nat) (v u : Value) (xs ys : List Int) : Prop where
  wrt : Wr wr w.heap.size p v xs
  own : wr.ownsRow w.heap.size 5 1 u ys.length (ys.map (Value.int .u8))
  np : u.ownBlock ≠ some p
  nv : ∀ k, u.ownBlock = some k → v.ownBlock ≠ some k
  below : Below w.heap.size w wr
theorem Pair.size {w wr : World} {p : Nat} {v u : Value} {xs ys : List Int} (h : Pair w wr p v u xs ys) : w.heap.size ≤ wr.heap.size := h.below.size
theorem Pair.to {w wr w2 : World} {p : Nat} {v u : Value} {xs ys : List Int} (h : Pair w wr p v u xs ys) (hb : Below wr.heap.size wr w2) : Pair w w2 p v u xs ys :=
  ⟨h.wrt.to hb, own_below h.own hb, h.np, h.nv, bl_next h.below h.size hb⟩
theorem Pair.step1 {w wr w5 : World} {p : Nat} {v v' u : Value} {xs xs' ys : List Int} (h : Pair w wr p v u xs ys) (hW : Wr w5 w.heap.size p v' xs') (hC : Ch wr w5 p v.ownBlock) (hV : v'.ownBlock = v.ownBlock ∨ ∃ k, wr.heap.size ≤ k ∧ v'.ownBlock = some k) : Pair w w5 p v' u xs' ys := by
  refine ⟨hW, own_ch h.own (fun k hk hlt => hC.block k hlt (by rintro rfl; exact h.np hk) (h.nv k hk)), h.np, fun k hk => ?_, hC.below h.below h.size h.wrt.lo (own_base h.wrt.own)⟩
  rcases hV with e | ⟨m, hm, e⟩
  · rw [e]; exact h.nv k hk
  · rw [e]; intro e2; injection e2 with e2
    have := (own_lt h.own k hk).2; omega
theorem Pair.step2f {w wr w6 : World} {p : Nat} {v u u' : Value} {xs ys ys' : List Int} (h : Pair w wr p v u xs ys) (hb : Below wr.heap.size wr w6) (ho : w6.ownsRow wr.heap.size 5 1 u' ys'.length (ys'.map (Value.int .u8))) : Pair w w6 p v u' xs ys' := by
  have hs := h.size
  refine ⟨h.wrt.to hb, own_lower ho hs, fun e => ?_, fun k hk e => ?_, bl_next h.below hs hb⟩
  · have := own_base ho p e; have := h.wrt.lt; omega
  · have := own_base ho k hk; have := (own_lt h.wrt.own k e).2; omega
theorem Pair.step2a {w wr W1 w6 : World} {p : Nat} {v u u' : Value} {xs ys ys' : List Int} (h : Pair w wr p v u xs ys) (hb : Below wr.heap.size wr W1) (hg : W1.grownBy w6 u.ownBlock)
    (ho : w6.ownsRow w.heap.size 5 1 u' ys'.length (ys'.map (Value.int .u8))) (hu : u'.ownBlock = u.ownBlock ∨ u'.ownBlock = some W1.heap.size) : Pair w w6 p v u' xs ys' := by
  have hs := h.size
  have hs1 := hb.size
  have hp := h.wrt.lt
  have h1 := h.to hb
  have hb6 : Below w.heap.size w w6 := h1.below.grown hg h1.size (own_base h.own)
  refine ⟨h1.wrt.ch (hg.block p (by omega) (fun e => h.np e.symm)) (fun k hk hlt => hg.block k hlt (fun e => h.nv k e.symm hk)), ho, ?_, ?_, hb6⟩
  · rcases hu with e | e
    · rw [e]; exact h.np
    · rw [e]; intro e2; injection e2 with e2; omega
  · intro k hk
    rcases hu with e | e
    · exact h.nv k (by rw [← e]; exact hk)
    · intro e2
      rw [e] at hk; injection hk with hk
      have := (own_lt h.wrt.own k e2).2; omega

end Go.Proofs.Ytpiappdkbodabaa
