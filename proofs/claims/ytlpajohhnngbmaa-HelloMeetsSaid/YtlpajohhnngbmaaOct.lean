/- octet's readers: models, what a reader is. -/
import Derived.Test.YtlpajohhnngbmaaGrow
import Derived.Test.YtlpajohhnngbmaaGet
import Derived.Test.YtlpajohhnngbmaaGetR
namespace Go.Proofs.Ytlpajohhnngbmaa
open Go.RowKit
set_option linter.unusedVariables false

def rdM (bs : List Int) (bad : Bool) (n : Int) : List Int × List Int × Bool :=
  if bad = true ∨ n < 0 ∨ (bs.length : Int) < n then ([], [], true) else (bs.take n.toNat, bs.drop n.toNat, false)
theorem rdM_bad {bs : List Int} {bad : Bool} {n : Int} (h : bad = true ∨ n < 0 ∨ (bs.length : Int) < n) : rdM bs bad n = ([], [], true) := if_pos h
theorem rdM_ok {bs : List Int} {n : Nat} (h : n ≤ bs.length) : rdM bs false n = (bs.take n, bs.drop n, false) := by
  unfold rdM; rw [if_neg (by simp; omega), Int.toNat_natCast]
def byteM (bs : List Int) (bad : Bool) : Int × List Int × Bool := ((rdM bs bad 1).1.headD 0, (rdM bs bad 1).2)
def twoM (bs : List Int) (bad : Bool) : Int × List Int × Bool := ((rdM bs bad 2).1.headD 0 * 256 + (rdM bs bad 2).1.getD 1 0, (rdM bs bad 2).2)
def varM (bs : List Int) (bad : Bool) : Int × List Int × Bool := if bad = true ∨ getS bs = 0 then (0, [], true) else (getN bs, bs.drop (getS bs), false)
def textM (bs : List Int) (bad : Bool) : List Int × List Int × Bool :=
  if ((varM bs bad).2.1.length : Int) < (varM bs bad).1 then ([], [], true) else rdM (varM bs bad).2.1 (varM bs bad).2.2 (varM bs bad).1

/-- a reader at block p: its bytes lie between L and W0's end, as they were in W0. -/
structure Rd (W0 w : World) (L p : Nat) (T : TypeId) (bs : List Int) (bad : Bool) : Prop where
  lo : W0.heap.size ≤ p
  mid : ∀ i, L ≤ i → i < W0.heap.size → w.heap[i]? = W0.heap[i]?
  small : bs.length ≤ 140737488355328
  ex : ∃ a n cap, w.heap[p]? = some (.cells #[.slice a n cap, .bool bad] T (0, 0)) ∧ n ≤ cap ∧ cap ≤ 9223372036854775807 ∧ IntsK .u8 W0 a n bs ∧ ∀ x, a = some x → L ≤ x.block
theorem Rd.lt {W0 w : World} {L p : Nat} {T : TypeId} {bs : List Int} {bad : Bool} (h : Rd W0 w L p T bs bad) : p < w.heap.size := by
  obtain ⟨a, n, cap, hr, _⟩ := h.ex; exact lt_of_block hr
theorem Rd.size {W0 w : World} {L p : Nat} {T : TypeId} {bs : List Int} {bad : Bool} (h : Rd W0 w L p T bs bad) : W0.heap.size ≤ w.heap.size := by have := h.lt; have := h.lo; omega
theorem Rd.ch {W0 w w' : World} {L p : Nat} {T : TypeId} {bs : List Int} {bad : Bool} (h : Rd W0 w L p T bs bad) (hm : ∀ i, L ≤ i → i < W0.heap.size → w'.heap[i]? = w.heap[i]?) (hp : w'.heap[p]? = w.heap[p]?) : Rd W0 w' L p T bs bad := by
  obtain ⟨a, n, cap, hr, h1, h2, h3, h4⟩ := h.ex
  exact ⟨h.lo, fun i h5 h6 => (hm i h5 h6).trans (h.mid i h5 h6), h.small, a, n, cap, hp.trans hr, h1, h2, h3, h4⟩
theorem Rd.to {W0 w w' : World} {L p : Nat} {T : TypeId} {bs : List Int} {bad : Bool} (h : Rd W0 w L p T bs bad) (hb : Below w.heap.size w w') : Rd W0 w' L p T bs bad :=
  h.ch (fun i _ hi => hb.block i (by have := h.size; omega)) (hb.block p h.lt)
theorem Rd.aside {W0 w w' : World} {L p q : Nat} {T : TypeId} {bs : List Int} {bad : Bool} (h : Rd W0 w L p T bs bad) (hg : w.grownBy w' (some q)) (hq : q < L ∨ W0.heap.size ≤ q) (hpq : p ≠ q) : Rd W0 w' L p T bs bad :=
  h.ch (fun i h1 h2 => hg.block i (by have := h.size; omega) (by intro e; injection e with e; omega)) (hg.block p h.lt (by intro e; injection e with e; omega))
theorem Rd.set {W0 w : World} {L p : Nat} {T : TypeId} {bs : List Int} {bad : Bool} (h : Rd W0 w L p T bs bad) {a : Option Addr} {n cap : Nat} {bad' : Bool} {bs' : List Int} {w' : World} (hg : w.grownBy w' (some p))
    (hr : w'.heap[p]? = some (.cells #[.slice a n cap, .bool bad'] T (0, 0))) (h1 : n ≤ cap) (h2 : cap ≤ 9223372036854775807) (h4 : bs'.length ≤ bs.length) (h3 : IntsK .u8 W0 a n bs') (h5 : ∀ x, a = some x → L ≤ x.block) : Rd W0 w' L p T bs' bad' :=
  ⟨h.lo, fun i hi1 hi2 => (hg.block i (by have := h.size; omega) (by intro e; injection e with e; have := h.lo; omega)).trans (h.mid i hi1 hi2), Nat.le_trans h4 h.small, a, n, cap, hr, h1, h2, h3, h5⟩
/-- the bytes, in the world that is -/
theorem Rd.ints {W0 w : World} {L p : Nat} {T : TypeId} {bs : List Int} {bad : Bool} (h : Rd W0 w L p T bs bad) {a : Option Addr} {n : Nat} (h3 : IntsK .u8 W0 a n bs) (h4 : ∀ x, a = some x → L ≤ x.block) : IntsK .u8 w a n bs := by
  refine ⟨h3.1, h3.2.1, ?_⟩
  rcases h3.2.2 with h0 | ⟨b, off, rfl, hbl, hc⟩
  · exact .inl h0
  · have hm := h.mid b (h4 _ rfl) hbl
    refine .inr ⟨b, off, rfl, Nat.lt_of_lt_of_le hbl h.size, fun i hi => ?_⟩
    have h5 := hc i hi
    unfold World.cell? at h5 ⊢
    simp only at h5 ⊢
    rw [hm]; exact h5
/-- the rest of a slice, wherever it is cut -/
theorem IntsK.rest {W : World} {a : Option Addr} {len : Nat} {zs : List Int} (h : IntsK .u8 W a len zs) (n : Nat) (hn : n ≤ len) (b : Option Addr) (hb : n < len → ∃ x off, a = some ⟨x, off, none⟩ ∧ b = some ⟨x, off + n, none⟩) : IntsK .u8 W b (len - n) (zs.drop n) := by
  by_cases hlt : n < len
  · obtain ⟨x, off, rfl, rfl⟩ := hb hlt
    exact h.suf n hn
  · refine ⟨by rw [List.length_drop, h.1], fun x hx => h.2.1 x (List.mem_of_mem_drop hx), .inl (by omega)⟩
theorem low_rest {L : Nat} {a : Option Addr} (h : ∀ x, a = some x → L ≤ x.block) {m : Nat} : ∀ x, a.map (fun x => x.add m) = some x → L ≤ x.block := by
  intro x hx
  cases a with
  | none => simp at hx
  | some y =>
    simp at hx; subst hx
    have := h y rfl
    unfold Addr.add; split <;> exact this
end Go.Proofs.Ytlpajohhnngbmaa
