/- append to a row that has no room: []byte("..") and the like. -/
import Derived.Test.YtlpajohhnngbmaaLit
namespace Go.Proofs.Ytlpajohhnngbmaa
open Go.RowKit
set_option linter.unusedVariables false

/-- what is laid behind a row that is full. -/
theorem append_full (w : World) (ty : TypeId) (g n : Nat) (xs : List Int) (hI : IntsK .u8 w (some ⟨g, 0, none⟩) n xs) (xa : Option Addr) (m c : Nat) (bs : List Int) (hJ : IntsK .u8 w xa m bs) (hb : n + m ≤ 140737488355328) :
    ∃ a' c' w', (Builtin.append_ #[31, 31] ty #[.slice (some ⟨g, 0, none⟩) n n, .slice xa m c]).run Try.prog w = .ok (.slice a' (n + m) c') w' ∧ n + m ≤ c' ∧ c' ≤ 9223372036854775807 ∧ IntsK .u8 w' a' (n + m) (xs ++ bs) ∧ Below w.heap.size w w' := by
  obtain ⟨i0, hi, hz0, hz1, hz2⟩ := info_parts infoU8
  have hwf : ∀ x ∈ xs ++ bs, (Lit.int .u8 x).wf = true := fun x hx => (List.mem_append.1 hx).elim (hI.2.1 x) (hJ.2.1 x)
  have hxl := hI.1
  have hbl := hJ.1
  by_cases hm : m = 0
  · subst hm
    obtain rfl : bs = [] := List.eq_nil_of_length_eq_zero hbl
    have hsrc : Src Try.prog i0.size 31 (.slice xa 0 c) 0 [] w := by
      cases xa with
      | none => exact Src.ofNil w Try.underlying31 c
      | some ad => exact Src.ofSlice w Try.underlying31 ad 0 c [] (by simp) (by simp) (by simp)
    have hr := run_append_nothing w 31 31 ty 5 i0 Try.underlying31 hi (some ⟨g, 0, none⟩) n n (Nat.le_refl _) _ hsrc
    have hn9 : n ≤ 9223372036854775807 := by omega
    exact ⟨_, n, w, hr, Nat.le_refl n, hn9, (by rw [List.append_nil]; exact hI), Below.refl _ _⟩
  · obtain ⟨ad, rfl, _, hnews⟩ := hJ.src (by omega)
    have holds : ∀ j v, (xs.map (Value.int .u8))[j]? = some v → w.cell? ((⟨g, 0, none⟩ : Addr).add j) = some v := by
      intro j v hj
      by_cases hn : 0 < n
      · obtain ⟨ad', e, _, h⟩ := hI.src hn
        rw [Option.some.inj e]; exact h j v hj
      · have := lt_of_get hj; simp at this; omega
    have hr := run_append_grow w 31 ty 5 i0 (.int .u8 0) Try.underlying31 hi hz0 ⟨g, 0, none⟩ n n (xs.map (Value.int .u8)) (by rw [hz1]; simp [hxl]) holds ad m c (bs.map (Value.int .u8)) (by rw [hz1]; simp [hbl]) hnews (by omega) (by omega)
      (by rw [hz2]; exact growslice_fits (by omega) (by omega))
    have hge := grownCap_ge w (n + m) n 5
    have hcm := grownCap_le_maxLen w (n + m) n 5 (by unfold maxLen; omega)
    unfold maxLen at hcm
    refine ⟨_, _, _, hr, hge, hcm, ⟨by simp [hxl, hbl], hwf, .inr ⟨w.heap.size, 0, rfl, by simp, fun i hi => ?_⟩⟩, ((Below.refl _ _).drew).alloc (Nat.le_refl _) _⟩
    refine (cell_of_row _ _ _ _ _ _ (heap_alloc_new w.drew _)).trans ?_
    have h1 : i < (xs ++ bs).length := by rw [List.length_append]; omega
    rw [Nat.zero_add, ← Array.getElem?_toList]
    simp only [Array.toList_append]
    rw [← List.map_append, List.getElem?_append_left (by simpa using h1), List.getElem?_map, List.getElem?_eq_getElem h1, List.getD_eq_getElem?_getD, List.getElem?_eq_getElem h1]
    rfl

theorem wp_append_full {o : Oper} {a : Act} {w : World} {K : Act → World → Prop} {Q : Exit → Act → World → Prop} (s x : Operand)
    (ho : o.op = .call { callee := .builtin .append, args := #[s, x], argTypes := #[31, 31] })
    (g n : Nat) (xs : List Int) (hs : a.eval s = .slice (some ⟨g, 0, none⟩) n n) (hI : IntsK .u8 w (some ⟨g, 0, none⟩) n xs) (xa : Option Addr) (m c : Nat) (bs : List Int) (hx : a.eval x = .slice xa m c) (hJ : IntsK .u8 w xa m bs)
    (hb : n + m ≤ 140737488355328)
    (h : ∀ a' c' w', n + m ≤ c' → c' ≤ 9223372036854775807 → IntsK .u8 w' a' (n + m) (xs ++ bs) → Below w.heap.size w w' → K (a.put o.dst (.slice a' (n + m) c')) w') : Oper.wp Try.prog o a w K Q := by
  obtain ⟨a', c', w', hr, h1, h2, h3, h4⟩ := append_full w o.type g n xs hI xa m c bs hJ hb
  unfold Oper.wp execOp
  simp only [ho, resolve, invoke, builtin, Sem.run_bind, Sem.run_pure, Result.andThen_ok, List.map_toArray, List.map_cons, List.map_nil, hs, hx, hr]
  exact h a' c' w' h1 h2 h3 h4
theorem wpList_append_full {ops : Array Oper} {rest : List Oper} {o : Oper} {a : Act} {w : World} {Q : Exit → Act → World → Prop} (hgd : o.guard = none) (s x : Operand)
    (ho : o.op = .call { callee := .builtin .append, args := #[s, x], argTypes := #[31, 31] })
    (g n : Nat) (xs : List Int) (hs : a.eval s = .slice (some ⟨g, 0, none⟩) n n) (hI : IntsK .u8 w (some ⟨g, 0, none⟩) n xs) (xa : Option Addr) (m c : Nat) (bs : List Int) (hx : a.eval x = .slice xa m c) (hJ : IntsK .u8 w xa m bs)
    (hb : n + m ≤ 140737488355328)
    (h : ∀ a' c' w', n + m ≤ c' → c' ≤ 9223372036854775807 → IntsK .u8 w' a' (n + m) (xs ++ bs) → Below w.heap.size w w' → wpList Try.prog ops Q rest (a.put o.dst (.slice a' (n + m) c')) w') : wpList Try.prog ops Q (o :: rest) a w := by
  refine wpList_plain hgd fun K hK => ?_
  exact wp_append_full s x ho g n xs hs hI xa m c bs hx hJ hb fun a' c' w' h1 h2 h3 h4 => hK _ _ (h a' c' w' h1 h2 h3 h4)
end Go.Proofs.Ytlpajohhnngbmaa
