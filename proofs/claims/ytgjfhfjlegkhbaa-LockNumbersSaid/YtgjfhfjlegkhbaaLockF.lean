/- chapter 8's walks: Mask, opens, same. -/
import Derived.Test.YtgjfhfjlegkhbaaLockE
namespace Go.Proofs.Ytgjfhfjlegkhbaa
open Go.RowKit
set_option linter.unusedVariables false

theorem openM_wf (key n : Int) (head s : List Int) (h : ∀ x ∈ s, (Lit.int .u8 x).wf = true) : ∀ x ∈ (openM key n head s).1, (Lit.int .u8 x).wf = true := by
  unfold openM
  split
  · simp
  · split
    · exact turnedM_wf _ _ _ (fun x hx => h x (List.mem_of_mem_take hx))
    · simp

set_option maxHeartbeats 2000000 in
theorem opens8_any (w : World) (key n : Int) (ha : Option Addr) (hl hc : Nat) (hs : List Int) (sa : Option Addr) (sl sc : Nat) (ss : List Int) (hn : (Lit.int .u64 n).wf = true) (hlen : hl + sl + 24 ≤ 140737488355328) (hs1 : sl ≤ 1000000) (hsc : sl ≤ sc) (hsm : sc ≤ 9223372036854775807) (hH : IntsK .u8 w ha hl hs) (hS : IntsK .u8 w sa sl ss) :
    Makes Try.prog 16 #[.int .u64 key, .int .u64 n, .slice ha hl hc, .slice sa sl sc] w (.bool true) := by
  have HH := Lib.hid hH; have HS := Lib.hid hS; have HN := Lib.hid hn
  clear hH hS hn
  go_enter Try.func16, Try.ntmps16
  go_wp2_with fail
  refine Calls.mono (open_any w key n ha hl hc hs sa sl sc ss HN.out hlen hs1 hsc hsm HH.out HS.out) ?_
  rintro e w1 ⟨v1, rfl, hb1, ho1⟩
  obtain ⟨b1, cp1, rfl, hc1, hi1, _⟩ := ints_of_own ho1 (openM_wf _ _ _ _ HS.out.2.1)
  have HB1 := Lib.hid hb1; have HI1 := Lib.hid hi1
  clear hb1 ho1 hi1
  go_wp2_with fail
  refine Calls.mono (ropen_any w1 key n ha hl hc hs sa sl sc ss HN.out hlen hs1 hsc hsm (HH.out.below HB1.out) (HS.out.below HB1.out)) ?_
  rintro e w2 ⟨v2, rfl, hb2, ho2⟩
  obtain ⟨b2, cp2, rfl, hc2, hi2, _⟩ := ints_of_own ho2 (openM_wf _ _ _ _ HS.out.2.1)
  have HB2 := Lib.hid (bl_next HB1.out HB1.out.size hb2)
  have hconv2 : (convert 23 9 (.slice b2 (openM key n hs ss).1.length cp2)).run Try.prog w2 = .ok (.string (strOfNums (openM key n hs ss).1)) w2 := conv_ints _ 5 _ _ Try.underlying23 Try.underlying5 Try.underlying9 hi2
  have hconv1 : (convert 23 9 (.slice b1 (openM key n hs ss).1.length cp1)).run Try.prog w2 = .ok (.string (strOfNums (openM key n hs ss).1)) w2 := conv_ints _ 5 _ _ Try.underlying23 Try.underlying5 Try.underlying9 (HI1.out.below hb2)
  clear hb2 ho2 hi2
  generalize openM key n hs ss = om at *
  go_wp2_with fail
  go_ret
  exact ⟨rfl, HB2.out⟩

theorem set5 {w : World} {b : Nat} {u0 u1 u2 u3 u4 : Value} {t : TypeId} (h : w.heap[b]? = some (.cells #[u0, u1, u2, u3, u4] t (0, 0))) (x0 x1 x2 x3 x4 : Value) :
    At (((((w.setCell ⟨b, 0, none⟩ x0).setCell ⟨b, 1, none⟩ x1).setCell ⟨b, 2, none⟩ x2).setCell ⟨b, 3, none⟩ x3).setCell ⟨b, 4, none⟩ x4)
      b #[x0, x1, x2, x3, x4] t w := by
  have h0 := At.base h
  have h1 : At _ b #[x0, u1, u2, u3, u4] t w := (h0.set 0 x0).conv (by rfl)
  have h2 : At _ b #[x0, x1, u2, u3, u4] t w := (h1.set 1 x1).conv (by rfl)
  have h3 : At _ b #[x0, x1, x2, u3, u4] t w := (h2.set 2 x2).conv (by rfl)
  have h4 : At _ b #[x0, x1, x2, x3, u4] t w := (h3.set 3 x3).conv (by rfl)
  have h5 : At _ b #[x0, x1, x2, x3, x4] t w := (h4.set 4 x4).conv (by rfl)
  exact h5

set_option maxHeartbeats 2000000 in
theorem mask_any (w : World) (key : Int) (xs : List Int) (hl : xs.length = 8) (hw : ∀ x ∈ xs, (Lit.int .u8 x).wf = true) :
    Makes Try.prog 17 #[.int .u64 key, .agg (xs.map (Value.int .u8)).toArray] w (.agg (((bytesM (keyedM key xs)).take 5).map (Value.int .u8)).toArray) := by
  obtain ⟨x0, x1, x2, x3, x4, x5, x6, x7, rfl⟩ : ∃ x0 x1 x2 x3 x4 x5 x6 x7, xs = [x0, x1, x2, x3, x4, x5, x6, x7] := by
    match xs, hl with
    | [x0, x1, x2, x3, x4, x5, x6, x7], _ => exact ⟨x0, x1, x2, x3, x4, x5, x6, x7, rfl⟩
  have HIA := Lib.hid (ints_made8 w [x0, x1, x2, x3, x4, x5, x6, x7] 36 rfl hw)
  clear hw hl
  simp only [List.map_cons, List.map_nil]
  go_enter Try.func17, Try.ntmps17
  go_wp2_with fail
  have hr4 := heap_alloc_new (w.alloc (.cells #[.int .u8 x0, .int .u8 x1, .int .u8 x2, .int .u8 x3, .int .u8 x4, .int .u8 x5, .int .u8 x6, .int .u8 x7] 36)) (.cells #[.int .u8 0, .int .u8 0, .int .u8 0, .int .u8 0, .int .u8 0] 37)
  have hB2 := ((Below.refl w.heap.size w).alloc (Nat.le_refl _) (.cells #[.int .u8 x0, .int .u8 x1, .int .u8 x2, .int .u8 x3, .int .u8 x4, .int .u8 x5, .int .u8 x6, .int .u8 x7] 36)).alloc (by simp) (.cells #[.int .u8 0, .int .u8 0, .int .u8 0, .int .u8 0, .int .u8 0] 37)
  have hI2 := HIA.out.below ((Below.refl (w.alloc (.cells #[.int .u8 x0, .int .u8 x1, .int .u8 x2, .int .u8 x3, .int .u8 x4, .int .u8 x5, .int .u8 x6, .int .u8 x7] 36)).heap.size _).alloc (Nat.le_refl _) (.cells #[.int .u8 0, .int .u8 0, .int .u8 0, .int .u8 0, .int .u8 0] 37))
  rw [show (w.alloc (.cells #[.int .u8 x0, .int .u8 x1, .int .u8 x2, .int .u8 x3, .int .u8 x4, .int .u8 x5, .int .u8 x6, .int .u8 x7] 36)).heap.size = w.heap.size + 1 by simp] at hr4
  refine Calls.mono (keyed_any _ _ _ 8 8 _ (by omega) hI2) ?_
  generalize ((w.alloc (.cells #[.int .u8 x0, .int .u8 x1, .int .u8 x2, .int .u8 x3, .int .u8 x4, .int .u8 x5, .int .u8 x6, .int .u8 x7] 36)).alloc (.cells #[.int .u8 0, .int .u8 0, .int .u8 0, .int .u8 0, .int .u8 0] 37)) = W2 at hr4 hB2 hI2 ⊢
  have HR := Lib.hid hr4; have HB2 := Lib.hid hB2
  clear hr4 hB2 hI2 HIA
  rintro e w6 ⟨rfl, q6, rfl⟩
  go_wp2_with fail
  refine Calls.mono (bytes_any _ _) ?_
  rintro e w7 ⟨rfl, hb7⟩
  obtain ⟨y0, y1, y2, y3, y4, y5, y6, y7, ey⟩ : ∃ y0 y1 y2 y3 y4 y5 y6 y7, bytesM (keyedM key [x0, x1, x2, x3, x4, x5, x6, x7]) = [y0, y1, y2, y3, y4, y5, y6, y7] := ⟨_, _, _, _, _, _, _, _, rfl⟩
  have EY := Lib.hid ey
  rw [ey]
  simp only [List.map_cons, List.map_nil]
  have hB7 : Below W2.heap.size W2 w7 := (bl_drewN (Below.refl _ _) q6).trans hb7
  have hx7 := bl_row hB7 (lt_of_block HR.out) HR.out
  have hs7 := Nat.lt_of_lt_of_le (lt_of_block HR.out) hB7.size
  have hL7 := bl_next HB2.out HB2.out.size hB7
  have hxA := bl_row ((Below.refl w7.heap.size w7).alloc (Nat.le_refl _) (.cells #[.int .u8 y0, .int .u8 y1, .int .u8 y2, .int .u8 y3, .int .u8 y4, .int .u8 y5, .int .u8 y6, .int .u8 y7] 36)) hs7 hx7
  have hLA := hL7.alloc hL7.size (.cells #[.int .u8 y0, .int .u8 y1, .int .u8 y2, .int .u8 y3, .int .u8 y4, .int .u8 y5, .int .u8 y6, .int .u8 y7] 36)
  have hrA := heap_alloc_new w7 (.cells #[.int .u8 y0, .int .u8 y1, .int .u8 y2, .int .u8 y3, .int .u8 y4, .int .u8 y5, .int .u8 y6, .int .u8 y7] 36)
  have HXA := Lib.hid hxA; have HLA := Lib.hid hLA; have HRA := Lib.hid hrA
  clear ey hB7 hx7 hL7 hxA hLA hb7 hrA
  go_upto_region 2 with fail
  generalize w7.alloc (.cells #[.int .u8 y0, .int .u8 y1, .int .u8 y2, .int .u8 y3, .int .u8 y4, .int .u8 y5, .int .u8 y6, .int .u8 y7] 36) = W8 at HXA HLA HRA ⊢
  obtain ⟨g, hg⟩ : ∃ g, w7.heap.size = g := ⟨_, rfl⟩
  obtain ⟨h, hh⟩ : ∃ h, w.heap.size + 1 = h := ⟨_, rfl⟩
  rw [hg] at HRA hs7 ⊢
  rw [hh] at HXA hs7 ⊢
  have c0 : W8.cell? ⟨g, 0, none⟩ = some (.int .u8 y0) := row_cell HRA.out 0 _ rfl
  have c1 : W8.cell? ⟨g, 1, none⟩ = some (.int .u8 y1) := row_cell HRA.out 1 _ rfl
  have c2 : W8.cell? ⟨g, 2, none⟩ = some (.int .u8 y2) := row_cell HRA.out 2 _ rfl
  have c3 : W8.cell? ⟨g, 3, none⟩ = some (.int .u8 y3) := row_cell HRA.out 3 _ rfl
  have c4 : W8.cell? ⟨g, 4, none⟩ = some (.int .u8 y4) := row_cell HRA.out 4 _ rfl
  have d0 : W8.cell? ⟨h, 0, none⟩ = some (.int .u8 0) := row_cell HXA.out 0 _ rfl
  have d1 : W8.cell? ⟨h, 1, none⟩ = some (.int .u8 0) := row_cell HXA.out 1 _ rfl
  have d2 : W8.cell? ⟨h, 2, none⟩ = some (.int .u8 0) := row_cell HXA.out 2 _ rfl
  have d3 : W8.cell? ⟨h, 3, none⟩ = some (.int .u8 0) := row_cell HXA.out 3 _ rfl
  have d4 : W8.cell? ⟨h, 4, none⟩ = some (.int .u8 0) := row_cell HXA.out 4 _ rfl
  have f0 := row_free HXA.out 0
  have f1 := row_free HXA.out 1
  have f2 := row_free HXA.out 2
  have f3 := row_free HXA.out 3
  have f4 := row_free HXA.out 4
  have HG := Lib.hid hg; have HHH := Lib.hid hh
  clear hg hh
  have hta : ∀ w, (Instr.arrayAt 37 (.slice (some ⟨g, 0, none⟩) 5 8)).run Try.prog w = .ok (.pointer (some ⟨g, 0, none⟩)) w := fun w => by kernel_rfl
  go_wp2_with fail
  have hA := set5 HXA.out (.int .u8 y0) (.int .u8 y1) (.int .u8 y2) (.int .u8 y3) (.int .u8 y4)
  have hhw : w.heap.size ≤ h := by have := HHH.out; omega
  generalize (((((W8.setCell ⟨h, 0, none⟩ (.int .u8 y0)).setCell ⟨h, 1, none⟩ (.int .u8 y1)).setCell ⟨h, 2, none⟩ (.int .u8 y2)).setCell ⟨h, 3, none⟩ (.int .u8 y3)).setCell ⟨h, 4, none⟩ (.int .u8 y4)) = W9 at hA ⊢
  have hrow := hA.row
  have hLZ : Below w.heap.size w W9 := HLA.out.grown hA.rest HLA.out.size (by intro k hk; injection hk with hk; omega)
  have e0 : W9.cell? ⟨h, 0, none⟩ = some (.int .u8 y0) := row_cell hrow 0 _ rfl
  have e1 : W9.cell? ⟨h, 1, none⟩ = some (.int .u8 y1) := row_cell hrow 1 _ rfl
  have e2 : W9.cell? ⟨h, 2, none⟩ = some (.int .u8 y2) := row_cell hrow 2 _ rfl
  have e3 : W9.cell? ⟨h, 3, none⟩ = some (.int .u8 y3) := row_cell hrow 3 _ rfl
  have e4 : W9.cell? ⟨h, 4, none⟩ = some (.int .u8 y4) := row_cell hrow 4 _ rfl
  rw [EY.out]
  exact bodyPost_ret (v := .agg #[.int .u8 y0, .int .u8 y1, .int .u8 y2, .int .u8 y3, .int .u8 y4]) (by simp [results, Try.results17, go_sem, e0, e1, e2, e3, e4]) rfl ⟨rfl, hLZ⟩

theorem rmask_any (w : World) (key : Int) (a : Option Addr) (len cap : Nat) (bs : List Int) (hlen : len ≤ 9223372036854775807) (hb : IntsK .u8 w a len bs) :
    Calls Try.prog 18 #[.int .u64 key, .slice a len cap] w fun e w' => ∃ b : Option Addr, e = .returned (.slice b 5 8) ∧ Below w.heap.size w w' ∧ IntsK .u8 w' b 5 ((bytesM (keyedM key bs)).take 5) := by
  have HB := Lib.hid hb; clear hb
  go_enter Try.func18, Try.ntmps18
  go_wp2_with fail
  refine Calls.mono (rkeyed_any _ key a len cap _ hlen HB.out) ?_
  rintro e w6 ⟨rfl, q6, rfl⟩
  go_wp2_with fail
  refine Calls.mono (rbytes_own _ _) ?_
  rintro e w9 ⟨rfl, hb9, -, hi9, -⟩
  have HB9 := Lib.hid ((bl_drewN (Below.refl w.heap.size w) q6).trans hb9)
  have HI9 := Lib.hid (hi9.pre 5 (by omega))
  clear hb9 hi9
  go_wp2_with fail
  go_ret
  exact ⟨_, rfl, HB9.out, HI9.out⟩
end Go.Proofs.Ytgjfhfjlegkhbaa
