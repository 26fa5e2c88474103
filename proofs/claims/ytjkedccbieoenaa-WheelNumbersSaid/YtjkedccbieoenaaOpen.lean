/- arguments opened: what a reading says of the cells. -/
import Derived.Test.YtjkedccbieoenaaBase
import Derived.WideShapes
namespace Go.Proofs.Ytjkedccbieoenaa
open Go.RowKit Go.WideShapes Go.ChangeShapes
set_option linter.unusedVariables false

section
variable {H : Type} {enc : TypeId × Value → H} {P : Program} {w : World} {base : Nat} {spare : Nat → Bool} {held : Bool} {fuel : Nat} {t : TypeId}

/-- cells that read as an array of n integers of kind k. -/
theorem trod_ints_arr {n : Nat} {e : TypeId} {k : IntKind} {cs : List Value} {x : DataW H × List MemPlace} (ht : P.underlying t = some (.array n e)) (he : P.underlying e = some (.int k)) (hc : P.cellsOf e = 1) (hn : P.cellsOf t = n)
    (h : DataW.trod enc P w base spare held fuel t cs = some x) : ∃ xs : List Int, xs.length = n ∧ (∀ x ∈ xs, (Lit.int k x).wf = true) ∧ cs = xs.map (Value.int k) := by
  obtain ⟨ys, m, _, _, hl, hy, hall⟩ := DataW.trod_array ht h
  have hl' : cs.length = n := hl.trans hn
  have each : ∀ i, i < n → ∃ q, cs[i]? = some (.int k q) ∧ (Lit.int k q).wf = true := by
    intro i hi
    have h1 := hall i hi
    rw [hc, Nat.mul_one, List.getElem?_eq_getElem (by omega)] at h1
    obtain ⟨q, h2, _, h3⟩ := DataW.trod_int he h1
    refine ⟨q, ?_, h3⟩
    have h4 : ((cs.drop i).take 1)[0]? = some (.int k q) := by rw [h2]; rfl
    simpa using h4
  refine ⟨cs.map intOf, by simp [hl'], ?_, ?_⟩
  · intro q hq
    obtain ⟨v, hv, rfl⟩ := List.mem_map.1 hq
    obtain ⟨i, hi, rfl⟩ := List.getElem_of_mem hv
    obtain ⟨q, h1, h2⟩ := each i (by omega)
    rw [List.getElem?_eq_getElem hi] at h1
    injection h1 with h1
    rw [h1]; exact h2
  · apply List.ext_getElem
    · simp
    · intro i h1 h2
      obtain ⟨q, h3, _⟩ := each i (by omega)
      rw [List.getElem?_eq_getElem h1] at h3
      injection h3 with h3
      simp [h3, intOf]
set_option maxRecDepth 100000 in
theorem open_ints_arr {r : Reach} {b0 : Nat} {n : Nat} {e : TypeId} {k : IntKind} {v : Value} {d : DataW H} {p : List MemPlace} (ht : P.underlying t = some (.array n e)) (he : P.underlying e = some (.int k)) (hc : P.cellsOf e = 1) (hn : P.cellsOf t = n)
    (hv : Value.okWide P w r b0 t v) (h : DataW.Trod enc P w base spare held t v d p) : ∃ xs : List Int, xs.length = n ∧ (∀ x ∈ xs, (Lit.int k x).wf = true) ∧ v = .agg (xs.map (Value.int k)).toArray := by
  simp only [Value.okWide, ht] at hv
  obtain ⟨cs, rfl, _, _⟩ := hv
  obtain ⟨fuel, hf⟩ := h
  obtain ⟨xs, h1, h2, h3⟩ := trod_ints_arr ht he hc hn hf
  refine ⟨xs, h1, h2, ?_⟩
  simp only [Value.cells] at h3
  rw [← h3]

/-- cells that read as a struct: each field reads. -/
theorem trod_fields {fs : Array Field} {cs : List Value} {x : DataW H × List MemPlace} (ht : P.underlying t = some (.struct fs))
    (h : DataW.trod enc P w base spare held fuel t cs = some x) :
    cs.length = P.cellsOf t ∧ ∃ m, ∀ (i : Nat) (f : Field), fs.toList[i]? = some f → ∃ y, DataW.trod enc P w base spare held m f.type ((cs.drop f.offset).take (P.cellsOf f.type)) = some y := by
  cases fuel with
  | zero => simp [DataW.trod] at h
  | succ m =>
    unfold DataW.trod at h
    rw [ht] at h
    split at h <;> simp_all
    obtain ⟨hl, xs, hp, hd⟩ := h
    refine ⟨m, fun i f hf => ?_⟩
    have h1 := mapM_some_get hp i f (by simpa using hf)
    have h3 := mapM_some_length hp
    have h4 := (Array.getElem?_eq_some_iff.1 hf).1
    have h2 : i < xs.length := by rw [h3]; simpa using h4
    rw [List.getElem?_eq_getElem h2] at h1
    exact ⟨_, xs[i].2, h1⟩

/-- a slice of rows of N cells that came in. -/
theorem open_rows {a : Option Addr} {len cap N : Nat} {e : TypeId} {d : DataW H} {p : List MemPlace} (ht : P.underlying t = some (.slice e)) (hN : P.cellsOf e = N) (h0 : 0 < N)
    (h : DataW.Trod enc P w base spare held t (.slice a len cap) d p) :
    len ≤ cap ∧ (∃ elems rest : List (DataW H), (d = .nil ∧ len = 0 ∧ cap = 0) ∨ (d = .slice elems rest ∧ elems.length = len)) ∧
      (len = 0 ∨ ∃ b off, a = some ⟨b, off, none⟩ ∧ b < w.heap.size ∧ ∀ j, j < len → ∃ (cs : List Value) (m : Nat) (y : DataW H × List MemPlace), cs.length = N ∧
        (∀ i, i < N → w.cell? ⟨b, off + j * N + i, none⟩ = cs[i]?) ∧ DataW.trod enc P w base spare held m e cs = some y) := by
  obtain ⟨fuel, hf⟩ := h
  rcases DataW.trod_slice ht hf with ⟨hcs, hx⟩ | ⟨ad, l, c, elems, rest, n, _, hcs, hx, hb, hl, hm, hlen, hel, hsp, hns⟩
  · simp [Value.cells] at hcs
    obtain ⟨rfl, rfl, rfl⟩ := hcs
    simp only [Prod.mk.injEq] at hx
    exact ⟨Nat.le_refl _, ⟨[], [], .inl ⟨hx.1, rfl, rfl⟩⟩, .inl rfl⟩
  · simp [Value.cells] at hcs
    obtain ⟨rfl, rfl, rfl⟩ := hcs
    simp only [Prod.mk.injEq] at hx
    refine ⟨hl, ⟨_, _, .inr ⟨hx.1, by simp [hlen]⟩⟩, ?_⟩
    by_cases hz : len = 0
    · exact .inl hz
    · have each : ∀ j, j < len → ∃ (cs : List Value) (y : DataW H × List MemPlace), cs.length = N ∧ (∀ i, i < N → w.cell? ((ad.add (j * N)).add i) = cs[i]?) ∧ DataW.trod enc P w base spare held n e cs = some y := by
        intro j hj
        have h1 := hel j hj
        rw [List.getElem?_eq_getElem (by omega), hN] at h1
        obtain ⟨cs, hc1, hc2⟩ := Option.bind_eq_some_iff.1 h1
        obtain ⟨_, h2, h3⟩ := World.cells?_some hc1
        exact ⟨cs, _, h2, h3, hc2⟩
      obtain ⟨b, off, spot⟩ := ad
      obtain ⟨cs0, _, hl0, hc0, _⟩ := each 0 (by omega)
      have hc00 := hc0 0 h0
      rw [List.getElem?_eq_getElem (by omega)] at hc00
      have hspot : spot = none := by simpa [Addr.add] using World.cell?_spot hc00
      subst hspot
      refine .inr ⟨b, off, rfl, ?_, fun j hj => ?_⟩
      · have := block_lt_of_cell hc00
        simpa [Addr.add] using this
      · obtain ⟨cs, y, h1, h2, h3⟩ := each j hj
        exact ⟨cs, n, y, h1, fun i hi => by rw [← h2 i hi, add_none, add_none], h3⟩
end
end Go.Proofs.Ytjkedccbieoenaa
