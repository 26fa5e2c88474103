/- contracts of lock: tag. -/
import Derived.Test.YtgjfhfjlegkhbaaLock5
namespace Go.Proofs.Ytgjfhfjlegkhbaa
open Go.RowKit
set_option linter.unusedVariables false

def tagM (key n : Int) (head sealed : List Int) : List Int := bytesM (keyedM (keyedM key [116, 97, 103]) (rowM [n, (head.length : Int)] ++ (head ++ sealed)))
theorem tagM_len (key n : Int) (head sealed : List Int) : (tagM key n head sealed).length = 8 := by unfold tagM bytesM; simp
theorem tagM_wf (key n : Int) (head sealed : List Int) : ∀ x ∈ tagM key n head sealed, (Lit.int .u8 x).wf = true := wf_bytes _
theorem row2_wf (n q : Int) : ∀ x ∈ rowM [n, q], (Lit.int .u8 x).wf = true := by
  intro x hx
  simp only [rowM, List.flatMap_cons, List.flatMap_nil, List.append_nil, List.mem_append] at hx
  rcases hx with h | h
  · exact wf_bytes _ x h
  · exact wf_bytes _ x h

theorem concat3_any (w : World) (a1 : Option Addr) (l1 c1 : Nat) (z1 : List Int) (a2 : Option Addr) (l2 c2 : Nat) (z2 : List Int) (a3 : Option Addr) (l3 c3 : Nat) (z3 : List Int)
    (h1 : IntsK .u8 w a1 l1 z1) (h2 : IntsK .u8 w a2 l2 z2) (h3 : IntsK .u8 w a3 l3 z3) (h0 : 0 < l1) (hn : l1 + l2 + l3 ≤ 140737488355328) :
    Calls Try.prog 35 #[.slice (some ⟨w.heap.size, 0, none⟩) 3 3] (w.alloc (.cells #[.slice a1 l1 c1, .slice a2 l2 c2, .slice a3 l3 c3] 23)) fun e w' => ∃ v, e = .returned v ∧ Below w.heap.size w w' ∧ w'.ownsRow w.heap.size 5 1 v (l1 + l2 + l3) ((z1 ++ (z2 ++ z3)).map (Value.int .u8)) := by
  have hB := (Below.refl w.heap.size w).alloc (Nat.le_refl _) (.cells #[.slice a1 l1 c1, .slice a2 l2 c2, .slice a3 l3 c3] 23)
  have hrow := heap_alloc_new w (.cells #[.slice a1 l1 c1, .slice a2 l2 c2, .slice a3 l3 c3] 23)
  have hcat : catM [(a1, l1, c1, z1), (a2, l2, c2, z2), (a3, l3, c3, z3)] = z1 ++ (z2 ++ z3) := by simp [catM]
  have hlc : (z1 ++ (z2 ++ z3)).length = l1 + l2 + l3 := by rw [List.length_append, List.length_append, h1.1, h2.1, h3.1]; omega
  have h := concat_any (w.alloc (.cells #[.slice a1 l1 c1, .slice a2 l2 c2, .slice a3 l3 c3] 23)) w.heap.size 3 [(a1, l1, c1, z1), (a2, l2, c2, z2), (a3, l3, c3, z3)] (by simp)
    (fun j r hr => by
      rw [cell_of_row _ _ _ _ _ _ hrow]
      match j, hr with
      | 0, hr => injection hr with hr; subst hr; rfl
      | 1, hr => injection hr with hr; subst hr; rfl
      | 2, hr => injection hr with hr; subst hr; rfl)
    (fun j r hr => by
      match j, hr with
      | 0, hr => injection hr with hr; subst hr; exact h1.below hB
      | 1, hr => injection hr with hr; subst hr; exact h2.below hB
      | 2, hr => injection hr with hr; subst hr; exact h3.below hB)
    (by rw [hcat, hlc]; omega) (by rw [hcat, hlc]; omega) (by simp)
  rw [hcat, hlc] at h
  refine Calls.mono h ?_
  rintro e w' ⟨v, rfl, hb, ho⟩
  exact ⟨v, rfl, bl_next hB hB.size hb, ho.mono hB.size⟩

set_option maxHeartbeats 2000000 in
theorem tag_any (w : World) (key n : Int) (ha : Option Addr) (hl hc : Nat) (hs : List Int) (sa : Option Addr) (sl sc : Nat) (ss : List Int) (hn : (Lit.int .u64 n).wf = true) (hlen : hl + sl + 16 ≤ 140737488355328) (hH : IntsK .u8 w ha hl hs) (hS : IntsK .u8 w sa sl ss) :
    Calls Try.prog 20 #[.int .u64 key, .int .u64 n, .slice ha hl hc, .slice sa sl sc] w fun e w' => e = .returned (.agg ((tagM key n hs ss).map (Value.int .u8)).toArray) ∧ Below w.heap.size w w' := by
  have HH := Lib.hid hH; have HS := Lib.hid hS; have HN := Lib.hid hn
  have hhl := hH.1
  have hsl := hS.1
  have HD := Lib.hid (fun w => derive_any w key ⟨#[116, 97, 103]⟩ (by decide))
  have hq : (Lit.int .u64 (hl : Int)).wf = true := wf_u64_of (by omega) (by omega)
  have HQ := Lib.hid hq
  clear hH hS hn hq
  go_enter Try.func20, Try.ntmps20
  go_wp2_with fail
  refine Calls.mono (HD.out _) ?_
  rintro e w2 ⟨rfl, hb2⟩
  have hrow2 := bl_row hb2 (by simp) (heap_alloc_new w _)
  have HL2 := Lib.hid (((Below.refl w.heap.size w).alloc (Nat.le_refl _) (.cells #[.int .u8 0, .int .u8 0, .int .u8 0, .int .u8 0, .int .u8 0, .int .u8 0, .int .u8 0, .int .u8 0] 36)).trans (hb2.mono (by simp)))
  have HROW2 := Lib.hid hrow2
  have hsz2 : w.heap.size < w2.heap.size := by have := hb2.size; simp at this; omega
  clear hb2 hrow2
  have HIN := Lib.hid (ints_made2u w2 n (hl : Int) HN.out HQ.out)
  have HB3 := Lib.hid ((Below.refl w2.heap.size w2).alloc (Nat.le_refl _) (.cells #[.int .u64 n, .int .u64 (hl : Int)] 22))
  go_wp2_with fail
  refine Calls.mono (row_any _ _ 2 2 [n, (hl : Int)] (by omega) HIN.out) ?_
  rintro e w4 ⟨v4, rfl, hb4, ho4⟩
  obtain ⟨b4, cp4, rfl, _, hi4, _⟩ := ints_of_own ho4 (row2_wf n hl)
  have HB4 := Lib.hid (HB3.out.trans (hb4.mono HB3.out.size))
  have HI4 := Lib.hid hi4
  have HL4 := Lib.hid (bl_next HL2.out (by omega) HB4.out)
  have HROW4 := Lib.hid (bl_row HB4.out hsz2 HROW2.out)
  have hsz4 : w.heap.size < w4.heap.size := Nat.lt_of_lt_of_le hsz2 HB4.out.size
  clear hb4 ho4 hi4 HB3 HIN HB4 HROW2 HL2
  go_wp2_with fail
  refine Calls.mono (concat3_any w4 _ _ _ _ _ _ _ _ _ _ _ _ HI4.out (HH.out.below HL4.out) (HS.out.below HL4.out) (by omega) (by omega)) ?_
  rintro e w5 ⟨v5, rfl, hb5, ho5⟩
  obtain ⟨b5, cp5, rfl, _, hi5, _⟩ := ints_of_own ho5 (by
    intro y hy
    rcases List.mem_append.1 hy with h | h
    · exact row2_wf _ _ y h
    · rcases List.mem_append.1 h with h | h
      · exact HH.out.2.1 y h
      · exact HS.out.2.1 y h)
  have HI5 := Lib.hid hi5
  have HL5 := Lib.hid (bl_next HL4.out (by omega) hb5)
  have HROW5 := Lib.hid (bl_row hb5 hsz4 HROW4.out)
  have hsz5 : w.heap.size < w5.heap.size := Nat.lt_of_lt_of_le hsz4 hb5.size
  clear hb5 ho5 hi5 HI4 HL4 HROW4
  go_wp2_with fail
  refine Calls.mono (keyed_any _ _ b5 _ cp5 _ (by omega) HI5.out) ?_
  rintro e w6 ⟨rfl, q6, rfl⟩
  go_wp2_with fail
  refine Calls.mono (bytes_any _ _) ?_
  rintro e w7 ⟨rfl, hb7⟩
  have hkr : tagM key n hs ss = bytesM (keyedM (keyedM key (natsOf ⟨#[116, 97, 103]⟩)) (rowM [n, (hl : Int)] ++ (hs ++ ss))) := by unfold tagM; rw [hhl]; rfl
  obtain ⟨y0, y1, y2, y3, y4, y5, y6, y7, ey⟩ : ∃ y0 y1 y2 y3 y4 y5 y6 y7, bytesM (keyedM (keyedM key (natsOf ⟨#[116, 97, 103]⟩)) (rowM [n, (hl : Int)] ++ (hs ++ ss))) = [y0, y1, y2, y3, y4, y5, y6, y7] := ⟨_, _, _, _, _, _, _, _, rfl⟩
  rw [ey] at hkr ⊢
  simp only [List.map_cons, List.map_nil]
  have HKY := Lib.hid hkr
  have hB7 : Below w5.heap.size w5 w7 := (bl_drewN (Below.refl _ _) q6).trans hb7
  have hx7 := bl_row hB7 hsz5 HROW5.out
  have hL7 := bl_next HL5.out (by omega) hB7
  have e0 := row_free hx7 0
  have e1 := row_free hx7 1
  have e2 := row_free hx7 2
  have e3 := row_free hx7 3
  have e4 := row_free hx7 4
  have e5 := row_free hx7 5
  have e6 := row_free hx7 6
  have e7 := row_free hx7 7
  have d0 : w7.cell? ⟨w.heap.size, 0, none⟩ = some (.int .u8 0) := row_cell hx7 0 _ rfl
  have d1 : w7.cell? ⟨w.heap.size, 1, none⟩ = some (.int .u8 0) := row_cell hx7 1 _ rfl
  have d2 : w7.cell? ⟨w.heap.size, 2, none⟩ = some (.int .u8 0) := row_cell hx7 2 _ rfl
  have d3 : w7.cell? ⟨w.heap.size, 3, none⟩ = some (.int .u8 0) := row_cell hx7 3 _ rfl
  have d4 : w7.cell? ⟨w.heap.size, 4, none⟩ = some (.int .u8 0) := row_cell hx7 4 _ rfl
  have d5 : w7.cell? ⟨w.heap.size, 5, none⟩ = some (.int .u8 0) := row_cell hx7 5 _ rfl
  have d6 : w7.cell? ⟨w.heap.size, 6, none⟩ = some (.int .u8 0) := row_cell hx7 6 _ rfl
  have d7 : w7.cell? ⟨w.heap.size, 7, none⟩ = some (.int .u8 0) := row_cell hx7 7 _ rfl
  have HAS := Lib.hid (set8 hx7 (.int .u8 y0) (.int .u8 y1) (.int .u8 y2) (.int .u8 y3) (.int .u8 y4) (.int .u8 y5) (.int .u8 y6) (.int .u8 y7))
  have HL7 := Lib.hid hL7
  clear ey hkr hb7 hB7 hx7 hL7 HROW5 HI5 HL5
  go_wp2_with fail
  have hAZ := HAS.out
  have hBZ := HL7.out
  generalize ((((((((w7.setCell ⟨w.heap.size, 0, none⟩ (.int .u8 y0)).setCell ⟨w.heap.size, 1, none⟩ (.int .u8 y1)).setCell ⟨w.heap.size, 2, none⟩ (.int .u8 y2)).setCell ⟨w.heap.size, 3, none⟩ (.int .u8 y3)).setCell ⟨w.heap.size, 4, none⟩ (.int .u8 y4)).setCell ⟨w.heap.size, 5, none⟩ (.int .u8 y5)).setCell ⟨w.heap.size, 6, none⟩ (.int .u8 y6)).setCell ⟨w.heap.size, 7, none⟩ (.int .u8 y7)) = W9 at hAZ ⊢
  have hrow := hAZ.row
  have hLZ : Below w.heap.size w W9 := hBZ.grown hAZ.rest hBZ.size (by intro k hk; injection hk with hk; omega)
  have c0 : W9.cell? ⟨w.heap.size, 0, none⟩ = some (.int .u8 y0) := row_cell hrow 0 _ rfl
  have c1 : W9.cell? ⟨w.heap.size, 1, none⟩ = some (.int .u8 y1) := row_cell hrow 1 _ rfl
  have c2 : W9.cell? ⟨w.heap.size, 2, none⟩ = some (.int .u8 y2) := row_cell hrow 2 _ rfl
  have c3 : W9.cell? ⟨w.heap.size, 3, none⟩ = some (.int .u8 y3) := row_cell hrow 3 _ rfl
  have c4 : W9.cell? ⟨w.heap.size, 4, none⟩ = some (.int .u8 y4) := row_cell hrow 4 _ rfl
  have c5 : W9.cell? ⟨w.heap.size, 5, none⟩ = some (.int .u8 y5) := row_cell hrow 5 _ rfl
  have c6 : W9.cell? ⟨w.heap.size, 6, none⟩ = some (.int .u8 y6) := row_cell hrow 6 _ rfl
  have c7 : W9.cell? ⟨w.heap.size, 7, none⟩ = some (.int .u8 y7) := row_cell hrow 7 _ rfl
  exact bodyPost_ret (v := .agg #[.int .u8 y0, .int .u8 y1, .int .u8 y2, .int .u8 y3, .int .u8 y4, .int .u8 y5, .int .u8 y6, .int .u8 y7]) (by simp [results, Try.results20, go_sem, c0, c1, c2, c3, c4, c5, c6, c7]) rfl ⟨by rw [HKY.out]; rfl, hLZ⟩
end Go.Proofs.Ytgjfhfjlegkhbaa
