/- demux: DemuxDrops. -/
import Derived.Test.YtpngjokjjpdboaaDmx9
import Derived.Test.YtpngjokjjpdboaaBook
namespace Go.Proofs.Ytpngjokjjpdboaa
open Go.RowKit
set_option linter.unusedVariables false

def cd (j : Nat) : List Int := [(j : Int), 9, 0, 0, 0, 0, 0, 0]
def psD (f : Nat → Bool) : List (List Int × Int) := ((List.range 20).filter f).map fun j => (cd j, ((j % 3 : Nat) : Int))
theorem cd_inj {i j : Nat} (h : cd i = cd j) : i = j := by unfold cd at h; injection h with h; omega
theorem cd_wf {j : Nat} (h : j < 256) : ∀ x ∈ cd j, (Lit.int .u8 x).wf = true := by
  intro x hx
  simp only [cd, List.mem_cons, List.not_mem_nil, or_false] at hx
  rcases hx with rfl | rfl | rfl | rfl | rfl | rfl | rfl | rfl
  · exact wf_u8_of (by omega) (by omega)
  all_goals decide
theorem psD_mem (f : Nat → Bool) (c : List Int) (n : Int) : (c, n) ∈ psD f ↔ ∃ j, j < 20 ∧ f j = true ∧ c = cd j ∧ n = ((j % 3 : Nat) : Int) := by
  unfold psD
  rw [List.mem_map]
  constructor
  · rintro ⟨j, hj, he⟩
    injection he with h1 h2
    obtain ⟨h3, h4⟩ := List.mem_filter.1 hj
    exact ⟨j, List.mem_range.1 h3, h4, h1.symm, h2.symm⟩
  · rintro ⟨j, hj, h0, h1, h2⟩
    exact ⟨j, List.mem_filter.2 ⟨List.mem_range.2 hj, h0⟩, by rw [h1, h2]⟩
theorem psD_nd (f : Nat → Bool) : ((psD f).map (·.1)).Nodup := by
  unfold psD
  rw [List.map_map]
  exact nodup_map_inj (fun a b h => cd_inj h) (List.Pairwise.filter _ List.nodup_range)
theorem psD_len (f : Nat → Bool) : (psD f).length ≤ 20 := by
  unfold psD
  rw [List.length_map]
  have := List.length_filter_le f (List.range 20)
  simpa using this
/-- one is turned. -/
def flip (f : Nat → Bool) (k : Nat) : Nat → Bool := fun j => if j = k then !f k else f j
theorem psD_put (f : Nat → Bool) (k : Nat) (hk : k < 20) (hf : f k = false) : PutTo (psD f) (cd k) ((k % 3 : Nat) : Int) (psD (flip f k)) := by
  refine ⟨psD_nd _, fun c n => ?_⟩
  rw [psD_mem]
  split
  · rename_i hc
    subst hc
    constructor
    · rintro ⟨j, hj, h0, h1, h2⟩; rw [h2, ← cd_inj h1]
    · rintro rfl; exact ⟨k, hk, by simp [flip, hf], rfl, rfl⟩
  · rename_i hc
    rw [psD_mem]
    constructor
    · rintro ⟨j, hj, h0, h1, h2⟩
      have hne : j ≠ k := fun e => hc (by rw [h1, e])
      exact ⟨j, hj, by simpa [flip, hne] using h0, h1, h2⟩
    · rintro ⟨j, hj, h0, h1, h2⟩
      have hne : j ≠ k := fun e => hc (by rw [h1, e])
      exact ⟨j, hj, by simpa [flip, hne] using h0, h1, h2⟩
theorem psD_drop (f : Nat → Bool) (k : Nat) (hk : k < 20) (hf : f k = true) (c : List Int) (n : Int) : (c, n) ∈ psD (flip f k) ↔ (c, n) ∈ psD f ∧ c ≠ cd k := by
  rw [psD_mem, psD_mem]
  constructor
  · rintro ⟨j, hj, h0, h1, h2⟩
    have hne : j ≠ k := by rintro rfl; simp [flip, hf] at h0
    exact ⟨⟨j, hj, by simpa [flip, hne] using h0, h1, h2⟩, fun e => hne (cd_inj (h1.symm.trans e))⟩
  · rintro ⟨⟨j, hj, h0, h1, h2⟩, hc⟩
    have hne : j ≠ k := fun e => hc (by rw [h1, e])
    exact ⟨j, hj, by simpa [flip, hne] using h0, h1, h2⟩
def inRow (f : Nat → Bool) : List Value := (List.range 20).map fun j => .bool (f j)
theorem inRow_get (f : Nat → Bool) {k : Nat} (h : k < 20) : (inRow f)[k]? = some (.bool (f k)) := by
  unfold inRow; rw [List.getElem?_map, List.getElem?_range h]; rfl
theorem inRow_set (f : Nat → Bool) {k : Nat} (h : k < 20) : (inRow f).set k (.bool (!f k)) = inRow (flip f k) := by
  apply List.ext_getElem?
  intro i
  rw [List.getElem?_set]
  unfold inRow
  by_cases hi : k = i
  · subst hi
    rw [if_pos rfl, if_pos (by simpa using h), List.getElem?_map, List.getElem?_range h]
    simp [flip]
  · rw [if_neg hi]
    by_cases h2 : i < 20
    · rw [List.getElem?_map, List.getElem?_map, List.getElem?_range h2]
      simp only [Option.map_some, flip]
      rw [if_neg (fun e => hi e.symm)]
    · rw [List.getElem?_eq_none (by simpa using h2), List.getElem?_eq_none (by simpa using h2)]
/-- how many are there, of number q, and of others, up to j. -/
def wantM (f : Nat → Bool) (q : Int) (j : Nat) : Nat := ((List.range j).filter fun i => f i && decide (((i % 3 : Nat) : Int) = q)).length
def restM (f : Nat → Bool) (q : Int) (j : Nat) : Nat := ((List.range j).filter fun i => f i && !decide (((i % 3 : Nat) : Int) = q)).length
theorem wantM_succ (f : Nat → Bool) (q : Int) (j : Nat) : wantM f q (j + 1) = wantM f q j + (if f j = true ∧ ((j % 3 : Nat) : Int) = q then 1 else 0) := by
  unfold wantM
  rw [List.range_succ, List.filter_append, List.length_append]
  congr 1
  by_cases h : f j = true ∧ ((j % 3 : Nat) : Int) = q
  · rw [if_pos h, List.filter_cons_of_pos (by simp [h.1, h.2])]; rfl
  · rw [if_neg h, List.filter_cons_of_neg (by intro h2; simp at h2; exact h ⟨h2.1, by simpa using h2.2⟩)]; rfl
theorem restM_succ (f : Nat → Bool) (q : Int) (j : Nat) : restM f q (j + 1) = restM f q j + (if f j = true ∧ ((j % 3 : Nat) : Int) ≠ q then 1 else 0) := by
  unfold restM
  rw [List.range_succ, List.filter_append, List.length_append]
  congr 1
  by_cases h : f j = true ∧ ((j % 3 : Nat) : Int) ≠ q
  · rw [if_pos h, List.filter_cons_of_pos (by simp [h.1]; exact h.2)]; rfl
  · rw [if_neg h, List.filter_cons_of_neg (by intro h2; simp at h2; exact h ⟨h2.1, by simpa using h2.2⟩)]; rfl
def psR (f : Nat → Bool) (q : Int) : List (List Int × Int) := psD fun j => f j && !decide (((j % 3 : Nat) : Int) = q)
theorem psR_mem (f : Nat → Bool) (q : Int) (c : List Int) (n : Int) : (c, n) ∈ psR f q ↔ (c, n) ∈ psD f ∧ n ≠ q := by
  unfold psR
  rw [psD_mem, psD_mem]
  constructor
  · rintro ⟨j, hj, h0, h1, h2⟩
    simp only [Bool.and_eq_true, Bool.not_eq_true', decide_eq_false_iff_not] at h0
    exact ⟨⟨j, hj, h0.1, h1, h2⟩, by rw [h2]; exact h0.2⟩
  · rintro ⟨⟨j, hj, h0, h1, h2⟩, hn⟩
    refine ⟨j, hj, ?_, h1, h2⟩
    simp only [Bool.and_eq_true, Bool.not_eq_true', decide_eq_false_iff_not]
    exact ⟨h0, by rw [← h2]; exact hn⟩
theorem psR_len (f : Nat → Bool) (q : Int) : (psR f q).length = restM f q 20 := by simp [psR, psD, restM]
theorem filter_split (p q : Nat → Bool) : ∀ l : List Nat, (l.filter p).length = (l.filter fun i => p i && q i).length + (l.filter fun i => p i && !q i).length
  | [] => rfl
  | x :: l => by
    have ih := filter_split p q l
    simp only [List.filter_cons]
    cases p x <;> cases q x <;> simp <;> omega
theorem psD_split (f : Nat → Bool) (q : Int) : (psD f).length = wantM f q 20 + restM f q 20 := by
  simp only [psD, wantM, restM, List.length_map]
  exact filter_split f (fun i => decide (((i % 3 : Nat) : Int) = q)) (List.range 20)
end Go.Proofs.Ytpngjokjjpdboaa
