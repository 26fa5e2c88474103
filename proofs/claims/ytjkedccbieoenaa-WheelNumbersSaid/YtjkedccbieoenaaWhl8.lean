/- wheel: New. -/
import Derived.Test.YtjkedccbieoenaaWhl7
namespace Go.Proofs.Ytjkedccbieoenaa
open Go.RowKit
set_option linter.unusedVariables false
set_option linter.unusedSimpArgs false

def clampN (now : Int) : Int := max 0 (min now 1099511627776)
def nilRows : List Value := List.replicate 257 (.slice none 0 0)
theorem nilRows_len : nilRows.length = 257 := List.length_replicate
theorem nilRows_mem {v : Value} (h : v ∈ nilRows) : v = .slice none 0 0 := List.eq_of_mem_replicate h
def wheelZ : Array Value := (.int .i64 0 :: (nilRows ++ [.map none])).toArray
set_option maxRecDepth 100000 in
theorem wheelZ_run (w : World) : (zeroValue 50).run Try.prog w = .ok (.agg wheelZ) w := by kernel_rfl
theorem wheelZ_size : wheelZ.size = 259 := by
  unfold wheelZ; rw [List.size_toArray, List.length_cons, List.length_append, nilRows_len]; rfl
theorem wheelZ_ne : ¬ wheelZ = #[] := by intro h; have := congrArg Array.size h; rw [wheelZ_size] at this; simp at this
theorem wheelZ_set (n : Int) (b : Nat) : (wheelZ.setIfInBounds 0 (.int .i64 n)).setIfInBounds 258 (.map (some b)) = (whCells n nilRows b).toArray := by
  unfold wheelZ whCells
  rw [List.setIfInBounds_toArray, List.setIfInBounds_toArray, List.set_cons_zero, List.set_cons_succ, List.set_append_right _ _ (by rw [nilRows_len]; omega), nilRows_len]
  rfl
theorem no_own (v : Value) (hv : v = .slice none 0 0) : v.ownBlock = none := by rw [hv]; rfl
theorem fresh_wheel (w : World) (now : Int) (hn : 0 ≤ now ∧ now ≤ 1099511627776) : WhAt ((w.alloc (.map #[] 0)).alloc (.cells (whCells now nilRows w.heap.size).toArray 50)) (w.heap.size + 1) [w.heap.size + 1, w.heap.size] now [] nilRows w.heap.size 0 := by
  have hs1 : (w.alloc (.map #[] 0)).heap.size = w.heap.size + 1 := by simp
  have hm0 := World.ownsMap_made (H := Unit) w Try.prog 3 (plainElem Try.prog 2)
  have hm := hm0.alloc (.cells (whCells now nilRows w.heap.size).toArray 50)
  have hr := heap_alloc_new (w.alloc (.map #[] 0)) (.cells (whCells now nilRows w.heap.size).toArray 50)
  rw [hs1] at hr
  have hnil : ∀ (j : Nat) (v : Value), nilRows[j]? = some v → v = .slice none 0 0 := fun j v hv => nilRows_mem (List.mem_of_getElem? hv)
  refine ⟨⟨hr, nilRows_len, fun j v hv => ?_, fun i j u v g _ hu _ hg => ?_, fun v hv g hg => ?_, by simp, by simp, ?_, hn, fun x hx => (by cases hx), fun g hg => ?_⟩, ⟨_, hm, MapOf.nil⟩, by simp⟩
  · rw [hnil j v hv]; exact World.ownsRow_nil _ _ _ _
  · rw [no_own u (hnil i u hu)] at hg; cases hg
  · rw [no_own v (nilRows_mem hv)] at hg; cases hg
  · obtain ⟨es, c, hb, _⟩ := hm; exact ⟨es, c, hb⟩
  · simp only [List.mem_cons, List.not_mem_nil, or_false] at hg
    simp
    omega
set_option maxRecDepth 100000 in
set_option maxHeartbeats 8000000 in
theorem new_any (w : World) (now : Int) :
    Calls Try.prog 8 #[.int .i64 now] w fun e w' => ∃ p b, e = .returned (.pointer (some ⟨p, 0, none⟩)) ∧ Below w.heap.size w w' ∧ w.heap.size ≤ p ∧ w.heap.size ≤ b ∧ WhAt w' p [p, b] (clampN now) [] nilRows b 0 := by
  rcases (by omega : now ≤ 0 ∨ (0 < now ∧ now ≤ 1099511627776) ∨ 1099511627776 < now) with hc | hc | hc
  · have HE : Hid (clampN now = 0) := Lib.hid (by unfold clampN; omega)
    have HW : Hid (0 ≤ (0 : Int) ∧ (0 : Int) ≤ 1099511627776) := Lib.hid (by omega)
    generalize clampN now = m at HE ⊢
    have hmm := @run_makeMap Try.prog
    have hz := wheelZ_run; have hz1 := wheelZ_ne; have hz2 := wheelZ_size; have hz3 := wheelZ_set
    have hb := ((Below.refl w.heap.size w).alloc (Nat.le_refl _) (.map #[] 0)).alloc (by simp) (.cells (whCells (0) nilRows w.heap.size).toArray 50)
    have HB := Lib.hid hb
    have HF := Lib.hid (fresh_wheel w (0) HW.out)
    clear hb
    go_enter Try.func8, Try.ntmps8
    go_wp2_with fail
    go_ret
    exact ⟨_, _, rfl, HB.out, by omega, Nat.le_refl _, by rw [HE.out]; exact HF.out⟩
  · have HE : Hid (clampN now = now) := Lib.hid (by unfold clampN; omega)
    have HW : Hid (0 ≤ (now : Int) ∧ (now : Int) ≤ 1099511627776) := Lib.hid (by omega)
    generalize clampN now = m at HE ⊢
    have hmm := @run_makeMap Try.prog
    have hz := wheelZ_run; have hz1 := wheelZ_ne; have hz2 := wheelZ_size; have hz3 := wheelZ_set
    have hb := ((Below.refl w.heap.size w).alloc (Nat.le_refl _) (.map #[] 0)).alloc (by simp) (.cells (whCells (now) nilRows w.heap.size).toArray 50)
    have HB := Lib.hid hb
    have HF := Lib.hid (fresh_wheel w (now) HW.out)
    clear hb
    go_enter Try.func8, Try.ntmps8
    go_wp2_with fail
    go_ret
    exact ⟨_, _, rfl, HB.out, by omega, Nat.le_refl _, by rw [HE.out]; exact HF.out⟩
  · have HE : Hid (clampN now = 1099511627776) := Lib.hid (by unfold clampN; omega)
    have HW : Hid (0 ≤ (1099511627776 : Int) ∧ (1099511627776 : Int) ≤ 1099511627776) := Lib.hid (by omega)
    generalize clampN now = m at HE ⊢
    have hmm := @run_makeMap Try.prog
    have hz := wheelZ_run; have hz1 := wheelZ_ne; have hz2 := wheelZ_size; have hz3 := wheelZ_set
    have hb := ((Below.refl w.heap.size w).alloc (Nat.le_refl _) (.map #[] 0)).alloc (by simp) (.cells (whCells (1099511627776) nilRows w.heap.size).toArray 50)
    have HB := Lib.hid hb
    have HF := Lib.hid (fresh_wheel w (1099511627776) HW.out)
    clear hb
    go_enter Try.func8, Try.ntmps8
    go_wp2_with fail
    go_ret
    exact ⟨_, _, rfl, HB.out, by omega, Nat.le_refl _, by rw [HE.out]; exact HF.out⟩
end Go.Proofs.Ytjkedccbieoenaa
