/- arguments opened: what a reading says of the cells. -/
import Derived.Test.YtnjpfgialcnniaaBase
import Derived.WideShapes
namespace Go.Proofs.Ytnjpfgialcnniaa
open Go.RowKit Go.WideShapes Go.ChangeShapes
set_option linter.unusedVariables false

section
variable {H : Type} {enc : TypeId × Value → H} {P : Program} {w : World} {base : Nat} {spare : Nat → Bool} {held : Bool} {fuel : Nat} {t : TypeId}

/-- cells that read as an array of n integers of kind k. -/
theorem trod_ints_arr {n : Nat} {e : TypeId} {k : IntKind} {cs : List Value} {x : DataW H × List MemPlace} (ht : P.underlying t = some (.array n e)) (he : P.underlying e = some (.int k)) (hc : P.cellsOf e = 1) (hn : P.cellsOf t = n)
    (h : DataW.trod enc P w base spare held fuel t cs = some x) : ∃ xs : List Int, xs.length = n ∧ (∀ x ∈ xs, (Lit.int k x).wf = true) ∧ cs = xs.map (Value.int k) := by
  obtain ⟨ys, m, _, _, hl, hy, hall⟩ := DataW.trod_array ht h
  have hl' : cs.length = n := hl.trans hn
  have each : ∀ i, i < n → ∃ q, cs[i]? = some (.int k q) ∧ (Lit.int k q).wf = true := by
    intro i hi
    have h1 := hall i hi
    rw [hc, Nat.mul_one, List.getElem?_eq_getElem (by omega)] at h1
    obtain ⟨q, h2, _, h3⟩ := DataW.trod_int he h1
    refine ⟨q, ?_, h3⟩
    have h4 : ((cs.drop i).take 1)[0]? = some (.int k q) := by rw [h2]; rfl
    simpa using h4
  refine ⟨cs.map intOf, by simp [hl'], ?_, ?_⟩
  · intro q hq
    obtain ⟨v, hv, rfl⟩ := List.mem_map.1 hq
    obtain ⟨i, hi, rfl⟩ := List.getElem_of_mem hv
    obtain ⟨q, h1, h2⟩ := each i (by omega)
    rw [List.getElem?_eq_getElem hi] at h1
    injection h1 with h1
    rw [h1]; exact h2
  · apply List.ext_getElem
    · simp
    · intro i h1 h2
      obtain ⟨q, h3, _⟩ := each i (by omega)
      rw [List.getElem?_eq_getElem h1] at h3
      injection h3 with h3
      simp [h3, intOf]
theorem open_ints_arr {r : Reach} {b0 : Nat} {n : Nat} {e : TypeId} {k : IntKind} {v : Value} {d : DataW H} {p : List MemPlace} (ht : P.underlying t = some (.array n e)) (he : P.underlying e = some (.int k)) (hc : P.cellsOf e = 1) (hn : P.cellsOf t = n)
    (hv : Value.okWide P w r b0 t v) (h : DataW.Trod enc P w base spare held t v d p) : ∃ xs : List Int, xs.length = n ∧ (∀ x ∈ xs, (Lit.int k x).wf = true) ∧ v = .agg (xs.map (Value.int k)).toArray := by
  simp only [Value.okWide, ht] at hv
  obtain ⟨cs, rfl, _, _⟩ := hv
  obtain ⟨fuel, hf⟩ := h
  obtain ⟨xs, h1, h2, h3⟩ := trod_ints_arr ht he hc hn hf
  refine ⟨xs, h1, h2, ?_⟩
  simp only [Value.cells] at h3
  rw [← h3]
end
end Go.Proofs.Ytnjpfgialcnniaa
