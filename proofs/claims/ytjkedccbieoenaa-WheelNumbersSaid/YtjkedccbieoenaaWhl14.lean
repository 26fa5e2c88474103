/- wheel: a row is sorted. -/
import Derived.Test.YtjkedccbieoenaaWhl13
namespace Go.Proofs.Ytjkedccbieoenaa
open Go.RowKit Go.Shelf Go.Sort
set_option linter.unusedVariables false
set_option linter.unusedSimpArgs false

theorem rowV_flat (l : List Tm) (t : Nat) (h : t < l.length * 2) : (rowV l)[t]? = some ((tmV l.toArray[t / 2]!)[t % 2]!) := by
  have hj : t / 2 < l.length := by omega
  have hx : l[t / 2]? = some (l[t / 2]) := List.getElem?_eq_getElem hj
  have e : l.toArray[t / 2]! = l[t / 2] := by simp [hj]
  have hv := rowV_at l (t / 2) _ hx
  rw [e]
  generalize l[t / 2] = x at hv
  rcases (by omega : t % 2 = 0 ∨ t % 2 = 1) with h0 | h0
  · rw [h0]
    have h1 := hv.1
    rw [show 2 * (t / 2) = t by omega] at h1
    rw [h1]; rfl
  · rw [h0]
    have h1 := hv.2
    rw [show 2 * (t / 2) + 1 = t by omega] at h1
    rw [h1]; rfl
theorem flat_rowV (l : List Tm) : (flatK tmV 2 l.toArray).toList = rowV l := by
  apply List.ext_getElem?
  intro t
  by_cases h : t < l.length * 2
  · rw [rowV_flat l t h]
    have hs : t < (flatK tmV 2 l.toArray).size := by simpa using h
    rw [Array.getElem?_toList, Array.getElem?_eq_getElem hs]
    have := get_flatK tmV 2 l.toArray t (by simpa using h)
    rw [getElem!_pos _ t hs] at this
    rw [this]
  · rw [List.getElem?_eq_none (by simpa using h), List.getElem?_eq_none (by rw [rowV_len]; omega)]
theorem put_take (F cur : Array Value) (h : F.size ≤ cur.size) : (putCells id 0 F cur).toList.take F.size = F.toList := by
  apply List.ext_getElem?
  intro t
  rw [List.getElem?_take]
  by_cases ht : t < F.size
  · have hc : t < cur.size := by omega
    rw [if_pos ht, Array.getElem?_toList, Array.getElem?_toList, Array.getElem?_eq_getElem ht, Array.getElem?_eq_getElem (by simpa [putCells] using hc)]
    simp [putCells, ht]
  · rw [if_neg ht, List.getElem?_eq_none (by simpa using ht)]
theorem putCells_size (F cur : Array Value) : (putCells id 0 F cur).size = cur.size := by simp [putCells]
theorem sort_world (w : World) (g m : Nat) (l : List Tm) (os : Array Obj) (cur : Array Value) (E : TypeId) (hr : w.heap[g]? = some (.cells cur E (0, 0))) :
    (sortWorldK tmV 2 w g 0 m l.toArray os).heap[g]? = some (.cells (putCells id 0 (flatK tmV 2 l.toArray) cur) E (0, 0)) ∧ Off [g] w (sortWorldK tmV 2 w g 0 m l.toArray os) := by
  have hlt := lt_of_block hr
  have hh : ∀ i, i < w.heap.size → (sortWorldK tmV 2 w g 0 m l.toArray os).heap[i]? = (w.heap.modify g (onCells (putCells id 0 (flatK tmV 2 l.toArray))))[i]? := by
    intro i hi
    show ((w.heap.modify g _) ++ os)[i]? = _
    rw [Array.getElem?_append_left (by simpa using hi)]
  refine ⟨?_, rfl, rfl, rfl, ?_, fun i hi hm => ?_⟩
  · rw [hh g hlt, Array.getElem?_modify, if_pos rfl, hr]; rfl
  · show _ ≤ ((w.heap.modify g _) ++ os).size
    simp
  · rw [hh i hi, Array.getElem?_modify, if_neg (fun e => hm (by rw [e]; simp))]
def leT (x y : Tm) : Bool := !ltOf cfT y x
def sortT (l : List Tm) : List Tm := l.mergeSort leT
theorem sortT_perm (l : List Tm) : (sortT l).Perm l := List.mergeSort_perm l leT
set_option maxRecDepth 100000 in
set_option maxHeartbeats 2000000 in
theorem sort_any (w : World) (B n : Nat) (v : Value) (l : List Tm) (hown : w.ownsRow B 53 2 v n (rowV l)) (hn : n ≤ 1000000) :
    Calls Try.prog 20 #[v, .func (.func 21) #[] #[]] w fun e w' => e = .returned (.tuple #[]) ∧ w'.ownsRow B 53 2 v n (rowV (sortT l)) ∧ Off (blkV v) w w' := by
  have hl := hown.1
  rw [rowV_len] at hl
  have hnl : n = l.length := by omega
  rcases hown.2 with ⟨rfl, h0⟩ | ⟨g, cap, cur, rfl, hB, hr, hnc, hcm, hcs, htk⟩
  · subst h0
    obtain rfl : l = [] := List.eq_nil_of_length_eq_zero hnl.symm
    have h := AnyF.slices_SortFunc_none (ρ := sortTm_ren) { sortTm with } none 0 (.func (.func 21) #[] #[]) w
    change Calls Try.prog 20 _ _ _ at h
    refine h.mono fun e w' ⟨he, hw⟩ => ?_
    subst hw
    have e0 : sortT [] = [] := List.nil_perm.1 (sortT_perm []).symm
    exact ⟨he, by rw [e0]; exact hown, Off.refl _ _⟩
  · have hH : HoldsK tmV 2 w g 0 l.toArray := by
      intro j hj
      have hj2 : j < l.length * 2 := by simpa using hj
      have hg : (flatK tmV 2 l.toArray)[j]! = (tmV l.toArray[j / 2]!)[j % 2]! := get_flatK _ _ _ _ (by simpa using hj2)
      refine ⟨?_, row_free hr _⟩
      rw [Nat.zero_add, cell_of_row w g j cur _ (0, 0) hr, hg]
      have h1 := rowV_flat l j hj2
      rw [← htk, List.getElem?_take, if_pos (by omega)] at h1
      simpa using h1
    have eg : ∀ args w, (callFunc 21 args).run Try.prog w = .ok (.enter 21 args) w := enters_of Try.func21 (by kernel_rfl) rfl
    have h := AnyQ.slices_SortFunc_total (ρ := sortTm_ren) sortTm 2 (fun w => by kernel_rfl) (fun w => by kernel_rfl) tmV (fun _ => rfl) (fun x => tmV_one x) cfT swoT 21 #[] g 0 cap l.toArray w eg (lays_less g 0 _ w) hH (lt_of_block hr) (by simp; omega) totT
    change Calls Try.prog 20 _ _ _ at h
    rw [List.size_toArray, ← hnl] at h
    refine h.mono fun e w' ⟨he, m, os, hw⟩ => ?_
    have hs := sort_world w g m (sortT l) os cur _ hr
    have hw2 : w' = sortWorldK tmV 2 w g 0 m (sortT l).toArray os := hw
    rw [← hw2] at hs
    have hsl : (sortT l).length = n := by rw [(sortT_perm l).length_eq, hnl]
    refine ⟨he, ⟨by rw [rowV_len, hsl]; omega, .inr ⟨g, cap, _, rfl, hB, hs.1, hnc, hcm, by rw [putCells_size]; exact hcs, ?_⟩⟩, hs.2⟩
    have ht := put_take (flatK tmV 2 (sortT l).toArray) cur (by rw [size_flatK, List.size_toArray, hsl, hcs]; omega)
    rw [size_flatK, List.size_toArray, hsl] at ht
    rw [ht, flat_rowV]
end Go.Proofs.Ytjkedccbieoenaa
