/- rows of bytes that the call owns: append, set. -/
import Derived.Test.YtlpajohhnngbmaaBook
import Derived.Test.YtlpajohhnngbmaaOwn
import Derived.Deep.AppendSrc
import Derived.Deep.Upon
namespace Go.Proofs.Ytlpajohhnngbmaa
open Go.RowKit
set_option linter.unusedVariables false

theorem append_bytes (w : World) (ty : TypeId) (base n : Nat) (v : Value) (xs : List Int) (hown : w.ownsRow base 5 1 v n (xs.map (Value.int .u8))) (xa : Option Addr) (m c : Nat) (bs : List Int) (hI : IntsK .u8 w xa m bs)
    (hb : n + m ≤ 140737488355328) (hbase : base ≤ w.heap.size) :
    ∃ v' w', (Builtin.append_ #[31, 31] ty #[v, .slice xa m c]).run Try.prog w = .ok v' w' ∧ w'.ownsRow base 5 1 v' (n + m) ((xs ++ bs).map (Value.int .u8)) ∧ w.grownBy w' v.ownBlock := by
  obtain ⟨i0, hi, hz0, hz1, hz2⟩ := info_parts infoU8
  have hlen := hI.1
  cases xa with
  | none =>
    have hm : m = 0 := by
      rcases hI.2.2 with h | ⟨b, off, h, _⟩
      · exact h
      · cases h
    subst hm
    obtain rfl : bs = [] := List.eq_nil_of_length_eq_zero hlen
    have hsrc : Src Try.prog i0.size 31 (.slice none 0 c) 0 [] w := Src.ofNil w Try.underlying31 c
    obtain ⟨b, l, cp, rfl, hle⟩ : ∃ b l cp, v = .slice b l cp ∧ l ≤ cp := by
      rcases hown.2 with ⟨rfl, rfl⟩ | ⟨g, cap, cur, rfl, hg, hrow, hn, hc, hsz, htk⟩
      · exact ⟨_, _, _, rfl, Nat.le_refl _⟩
      · exact ⟨_, _, _, rfl, hn⟩
    exact ⟨_, w, run_append_nothing w 31 31 ty 5 i0 Try.underlying31 hi b l cp hle _ hsrc, by simpa using hown, grown_refl _ _⟩
  | some ad =>
    have hnews : ∀ j u, (bs.map (Value.int .u8))[j]? = some u → w.cell? (ad.add j) = some u := by
      by_cases h0 : 0 < m
      · obtain ⟨ad', e, _, h⟩ := hI.src h0
        injection e with e; subst e; exact h
      · intro j u hu
        have := lt_of_get hu
        simp at this; omega
    obtain ⟨v', w', hr, h2, h3, h4⟩ := run_append_own (P := Try.prog) w base 31 ty 5 i0 (.int .u8 0) 1 1 Try.underlying31 hi hz0 hz1 hz2 rfl (by decide) v n _ hown ad m c (bs.map (Value.int .u8)) (by simp [hlen]) hnews ints_one (by unfold maxLen; omega) (by omega) hbase
    exact ⟨v', w', hr, by rw [List.map_append]; exact h2, h3⟩

theorem wpList_append_bytes {ops : Array Oper} {rest : List Oper} {o : Oper} {a : Act} {w : World} {Q : Exit → Act → World → Prop} (hgd : o.guard = none) (s x : Operand)
    (ho : o.op = .call { callee := .builtin .append, args := #[s, x], argTypes := #[31, 31] })
    (base n : Nat) (v : Value) (xs : List Int) (hs : a.eval s = v) (hown : w.ownsRow base 5 1 v n (xs.map (Value.int .u8))) (xa : Option Addr) (m c : Nat) (bs : List Int) (hx : a.eval x = .slice xa m c) (hI : IntsK .u8 w xa m bs)
    (hb : n + m ≤ 140737488355328) (hbase : base ≤ w.heap.size)
    (h : ∀ v' w', w'.ownsRow base 5 1 v' (n + m) ((xs ++ bs).map (Value.int .u8)) → w.grownBy w' v.ownBlock → wpList Try.prog ops Q rest (a.put o.dst v') w') : wpList Try.prog ops Q (o :: rest) a w := by
  refine wpList_plain hgd fun K hK => ?_
  obtain ⟨v', w', hr, h2, h3⟩ := append_bytes w o.type base n v xs hown xa m c bs hI hb hbase
  unfold Oper.wp execOp
  simp only [ho, resolve, invoke, builtin, Sem.run_bind, Sem.run_pure, Result.andThen_ok, List.map_toArray, List.map_cons, List.map_nil, hs, hx, hr]
  exact hK _ _ (h v' w' h2 h3)

theorem own_slice {w : World} {base e n : Nat} {v : Value} {xs : List Value} {size : Nat} (h : w.ownsRow base e size v n xs) : ∃ b cp, v = .slice b n cp ∧ n ≤ cp := by
  rcases h.2 with ⟨rfl, rfl⟩ | ⟨g, cap, cur, rfl, hg, hrow, hn, hc, hsz, htk⟩
  · exact ⟨_, _, rfl, Nat.le_refl _⟩
  · exact ⟨_, _, rfl, hn⟩
/-- one byte: the source's row is made just ahead. -/
theorem ints_made (w : World) (x : Int) (hx : (Lit.int .u8 x).wf = true) : IntsK .u8 (w.alloc (.cells #[.int .u8 x] 5)) (some ⟨w.heap.size, 0, none⟩) 1 [x] := by
  have h := IntsK.of_row (k := .u8) (zs := [x]) (heap_alloc_new w (.cells #[.int .u8 x] 5)) (by simpa using hx)
  exact h

/-- a cell of an owned row is set. -/
theorem own_set {w : World} {base e n : Nat} {b : Option Addr} {cp : Nat} {xs : List Value} (h : w.ownsRow base e 1 (.slice b n cp) n xs) (hb : Below base w w) {i : Nat} (hi : i < n) (u : Value) (hu : u.oneCell' = true) :
    ∃ g, b = some ⟨g, 0, none⟩ ∧ base ≤ g ∧ g < w.heap.size ∧ w.frozen? ⟨g, i, none⟩ = false ∧ (∀ j v, xs[j]? = some v → w.cell? ⟨g, j, none⟩ = some v) ∧ (w.setCell ⟨g, i, none⟩ u).ownsRow base e 1 (.slice b n cp) n (xs.set i u) := by
  rcases h.2 with ⟨h1, h2⟩ | ⟨g, cap, cur, e1, hg, hrow, hn, hc, hsz, htk⟩
  · injection h1; omega
  · injection e1 with e1 e2 e3
    subst e1; subst e3
    refine ⟨g, rfl, hg, lt_of_block hrow, frozen_of_row _ _ _ _ _ hrow, fun j v hv => ?_, ?_⟩
    · rw [cell_of_row _ _ _ _ _ _ hrow]
      have hj : j < n * 1 := by have := lt_of_get hv; rw [h.1] at this; exact this
      rw [← htk, List.getElem?_take_of_lt hj] at hv
      simpa using hv
    · refine ⟨by rw [List.length_set]; exact h.1, .inr ⟨g, cp, cur.setIfInBounds i u, rfl, hg, heap_setCell_same _ _ _ _ _ _ hrow, hn, hc, by simpa using hsz, ?_⟩⟩
      rw [← htk]
      simp [List.take_set]
theorem own_put {w : World} {base e n g : Nat} {cp : Nat} {xs : List Value} (h : w.ownsRow base e 1 (.slice (some ⟨g, 0, none⟩) n cp) n xs) {i : Nat} (hi : i < n) (u : Value) (hu : u.oneCell' = true) :
    (w.setCell ⟨g, i, none⟩ u).ownsRow base e 1 (.slice (some ⟨g, 0, none⟩) n cp) n (xs.set i u) := by
  obtain ⟨g', e', _, _, _, _, ho⟩ := own_set h (Below.refl _ _) hi u hu
  injection e' with e'; injection e' with e'; subst e'; exact ho
end Go.Proofs.Ytlpajohhnngbmaa
