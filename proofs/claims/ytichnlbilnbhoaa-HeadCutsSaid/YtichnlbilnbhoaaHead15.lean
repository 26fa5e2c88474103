/- heads: the law's known, what the walks share. -/
import Derived.Test.YtichnlbilnbhoaaHead14
import Derived.Test.YtichnlbilnbhoaaZero
namespace Go.Proofs.Ytichnlbilnbhoaa
open Go.RowKit
set_option linter.unusedVariables false

theorem row_cidf (h : Hd) (a : Option Addr) (tc : Nat) (ht : h.t.length = 8) (hf : h.f.length = 8) (j : Nat) (v : Value) (hv : (h.f.map (Value.int .u8))[j]? = some v) : (h.row a tc)[9 + j]? = some v := by
  unfold Hd.row
  have hj : j < 8 := by have := lt_of_get hv; rw [List.length_map] at this; omega
  rw [List.getElem?_append_right (by rw [List.length_singleton]; omega), List.length_singleton, show 9 + j - 1 = 8 + j by omega, List.getElem?_append_right (by rw [List.length_map]; omega), List.length_map, ht, show 8 + j - 8 = j by omega, List.getElem?_append_left (by rw [List.length_map]; omega)]
  exact hv
theorem row_17 (h : Hd) (a : Option Addr) (tc : Nat) (ht : h.t.length = 8) (hf : h.f.length = 8) : (h.row a tc)[17]? = some (.slice a h.k.length tc) ∧ (h.row a tc)[18]? = some (.int .i64 h.w) := by
  unfold Hd.row
  constructor
  all_goals
    rw [List.getElem?_append_right (by simp), List.getElem?_append_right (by simp [ht]), List.getElem?_append_right (by simp [ht, hf])]
    simp [ht, hf]
theorem row_0 (h : Hd) (a : Option Addr) (tc : Nat) : (h.row a tc)[0]? = some (.int .i64 h.s) := rfl
theorem cell_row {w : World} {g : Nat} {cs : List Value} {t : TypeId} (h : w.heap[g]? = some (.cells cs.toArray t (0, 0))) (i : Nat) (v : Value) (hv : cs[i]? = some v) : w.cell? ⟨g, i, none⟩ = some v := row_cell h i v (by rw [List.getElem?_toArray]; exact hv)
theorem rng_row {w : World} {g : Nat} {cs : List Value} {t : TypeId} (h : w.heap[g]? = some (.cells cs.toArray t (0, 0))) (off : Nat) (C : List Value) (hv : ∀ (j : Nat) (v : Value), C[j]? = some v → cs[off + j]? = some v) : w.rangeAt g off C :=
  fun j v hj => cell_row h _ v (hv j v hj)
theorem parse_none (w : World) (a : Option Addr) (len cap : Nat) (bs : List Int) (hlen : len ≤ 1000000000000) (hI : IntsK .u8 w a len bs) (hp : parM bs = none) :
    Makes Try.prog 14 #[.slice a len cap] w (.tuple #[.agg rowZ.toArray, .int .i64 0, .int .i64 0, .int .i64 12]) := by
  refine Calls.mono (parse_any w a len cap bs hlen hI) ?_
  rintro e w' ⟨hb, ⟨_, h⟩ | ⟨h, at', en, a', tc, h1, _⟩⟩
  · exact ⟨h, hb⟩
  · rw [hp] at h1; cases h1
theorem hencode_ok (w : World) (h : Hd) (a : Option Addr) (tc : Nat) (n : Int) (hk : h.ok) (hl : h.k.length ≤ 1000000) (hr : hrightM h = true) (hn : h.w ≤ n ∧ n ≤ 16383) (hI : IntsK .u8 w a h.k.length h.k) :
    Calls Try.prog 13 #[h.val a tc, .int .i64 n] w fun e w' => Below w.heap.size w w' ∧ ∃ a' cap', e = .returned (.tuple #[.slice a' (encH h n).length cap', .int .i64 0]) ∧ (encH h n).length ≤ cap' ∧ cap' ≤ 9223372036854775807 ∧ IntsK .u8 w' a' (encH h n).length (encH h n) := by
  have hw := ((hrightM_eq h).1 hr).1
  refine Calls.mono (hencode_any w h a tc n hk hl (by omega) hI) ?_
  rintro e w' ⟨hb, ⟨_, _, _, a', cap', h1, h2, h3, h4, _⟩ | ⟨h1, _⟩⟩
  · exact ⟨hb, a', cap', h1, h2, h3, h4⟩
  · exact absurd ⟨hr, hn.1, hn.2⟩ h1

set_option maxRecDepth 100000 in
set_option maxHeartbeats 4000000 in
theorem known5_any (w : World) : Makes Try.prog 12 #[] w (.bool true) := by
  have HP0 : Hid (∀ w, Makes Try.prog 14 #[.slice none 0 0] w (.tuple #[.agg rowZ.toArray, .int .i64 0, .int .i64 0, .int .i64 12])) := Lib.hid (fun w => parse_none w none 0 0 [] (by omega) (IntsK.nil _ _ _) (by decide))
  have HE : Hid (∀ w, Makes Try.prog 13 #[.agg #[.int .i64 0, .int .u8 0, .int .u8 0, .int .u8 0, .int .u8 0, .int .u8 0, .int .u8 0, .int .u8 0, .int .u8 0, .int .u8 0, .int .u8 0, .int .u8 0, .int .u8 0, .int .u8 0, .int .u8 0, .int .u8 0, .int .u8 0, .slice none 0 0, .int .i64 0, .bool false], .int .i64 20] w (.tuple #[.slice none 0 0, .int .i64 1])) := Lib.hid (fun w => by
    refine Calls.mono (hencode_any w ⟨0, z8, z8, [], 0, false⟩ none 0 20 ⟨by decide, by decide, rfl, rfl, by decide, by decide, by decide⟩ (by decide) (by omega) (IntsK.nil _ _ _)) ?_
    rintro e w' ⟨hb, ⟨h, _⟩ | ⟨_, h⟩⟩
    · exact absurd h (by decide)
    · exact ⟨h, hb⟩)
  have HF : Hid (∀ w a c, IntsK .u8 w a 1 [1] → Makes Try.prog 15 #[.slice a 1 c] w (.tuple #[.agg ([.int .u8 0, .int .u8 0, .int .u8 0, .int .u8 0, .int .u8 0, .int .u8 0, .int .u8 0, .int .u8 0] : List Value).toArray, .bool false])) := Lib.hid (fun w a c h => first_any w a 1 c [1] (by omega) h)
  have HS : Hid (∀ w, Makes Try.prog 21 #[.agg #[.int .i64 2, .int .u8 0, .int .u8 0, .int .u8 0, .int .u8 0, .int .u8 0, .int .u8 0, .int .u8 0, .int .u8 0, .int .u8 0, .int .u8 0, .int .u8 0, .int .u8 0, .int .u8 0, .int .u8 0, .int .u8 0, .int .u8 0, .slice none 0 0, .int .i64 2, .bool false]] w (.int .i64 9)) := Lib.hid (fun w => hsize_any w ⟨2, z8, z8, [], 2, false⟩ none 0 ⟨by decide, by decide, rfl, rfl, by decide, by decide, by decide⟩ (by decide) (IntsK.nil _ _ _))
  have HR : Hid (∀ w, Makes Try.prog 19 #[.agg #[.int .i64 0, .int .u8 0, .int .u8 0, .int .u8 0, .int .u8 0, .int .u8 0, .int .u8 0, .int .u8 0, .int .u8 0, .int .u8 0, .int .u8 0, .int .u8 0, .int .u8 0, .int .u8 0, .int .u8 0, .int .u8 0, .int .u8 0, .slice none 0 0, .int .i64 1, .bool false]] w (.bool true)) := Lib.hid (fun w => hright_any w ⟨0, z8, z8, [], 1, false⟩ none 0 ⟨by decide, by decide, rfl, rfl, by decide, by decide, by decide⟩ (by decide))
  have HZL : Hid (rowZ.length = 20) := Lib.hid rfl; have HZO : Hid (∀ v ∈ rowZ, v.oneCell' = true) := Lib.hid rowZ_one
  have HCL : Hid (([.int .u8 0, .int .u8 0, .int .u8 0, .int .u8 0, .int .u8 0, .int .u8 0, .int .u8 0, .int .u8 0] : List Value).length = 8) := Lib.hid rfl; have HCO : Hid (∀ v ∈ ([.int .u8 0, .int .u8 0, .int .u8 0, .int .u8 0, .int .u8 0, .int .u8 0, .int .u8 0, .int .u8 0] : List Value), v.oneCell' = true) := Lib.hid (by decide)
  have HB := Lib.hid (Below.refl w.heap.size w)
  obtain ⟨R, hR⟩ : ∃ R, rowZ = R := ⟨_, rfl⟩
  rw [hR] at HP0 HZL HZO
  clear hR
  obtain ⟨C, hC⟩ : ∃ C : List Value, [.int .u8 0, .int .u8 0, .int .u8 0, .int .u8 0, .int .u8 0, .int .u8 0, .int .u8 0, .int .u8 0] = C := ⟨_, rfl⟩
  rw [hC] at HF HCL HCO
  clear hC
  go_enter Try.func12, Try.ntmps12
  go_wp2_with fail
  refine Calls.mono (HP0.out _) ?_
  rintro e w1 ⟨rfl, hb⟩
  replace HB := Lib.hid (bl_next HB.out HB.out.size hb)
  clear hb
  go_upto_region 2 with (first | (refine wpList_store_row rfl 28 _ _ rfl _ rfl R rowZ rfl 28 (heap_alloc_new _ _) (by rw [HZL.out]; rfl) (by rw [HZL.out]; rfl) HZO.out ?_; intro w2 hr hg) | fail)
  have hal := (Below.refl w1.heap.size w1).alloc (Nat.le_refl _) (.cells (rowZ).toArray 28)
  have hb : Below w1.heap.size w1 w2 := hal.grown hg hal.size (by intro k hk; injection hk with hk; omega)
  replace HB := Lib.hid (bl_next HB.out HB.out.size hb)
  have HG1 := Lib.hid (hr)
  clear hr hg hal hb
  obtain ⟨g1, hg⟩ : ∃ g, w1.heap.size = g := ⟨_, rfl⟩
  rw [hg] at HG1 ⊢
  clear hg
  go_wp2_with fail
  refine Calls.mono (HE.out _) ?_
  rintro e w3 ⟨rfl, hb⟩
  replace HB := Lib.hid (bl_next HB.out HB.out.size hb)
  replace HG1 := Lib.hid (bl_row hb (lt_of_block HG1.out) HG1.out)
  clear hb
  go_upto_region 3 with fail
  go_wp2_with fail
  have hx := ints_made w3 1 (by decide)
  have hb := (Below.refl w3.heap.size w3).alloc (Nat.le_refl _) (.cells #[.int .u8 1] 5)
  replace HB := Lib.hid (bl_next HB.out HB.out.size hb)
  replace HG1 := Lib.hid (bl_row hb (lt_of_block HG1.out) HG1.out)
  clear hb
  generalize w3.alloc (.cells #[.int .u8 1] 5) = W3 at HB HG1 hx ⊢
  refine Calls.mono (HF.out _ _ _ hx) ?_
  rintro e w4 ⟨rfl, hb⟩
  replace HB := Lib.hid (bl_next HB.out HB.out.size hb)
  replace HG1 := Lib.hid (bl_row hb (lt_of_block HG1.out) HG1.out)
  clear hb hx
  go_upto_region 4 with (first | (refine wpList_store_row rfl 26 _ _ rfl _ rfl C [.int .u8 0, .int .u8 0, .int .u8 0, .int .u8 0, .int .u8 0, .int .u8 0, .int .u8 0, .int .u8 0] rfl 26 (heap_alloc_new _ _) (by rw [HCL.out]; rfl) (by rw [HCL.out]; rfl) HCO.out ?_; intro w5 hr hg) | fail)
  have hal := (Below.refl w4.heap.size w4).alloc (Nat.le_refl _) (.cells ([.int .u8 0, .int .u8 0, .int .u8 0, .int .u8 0, .int .u8 0, .int .u8 0, .int .u8 0, .int .u8 0]).toArray 26)
  have hb : Below w4.heap.size w4 w5 := hal.grown hg hal.size (by intro k hk; injection hk with hk; omega)
  replace HB := Lib.hid (bl_next HB.out HB.out.size hb)
  replace HG1 := Lib.hid (bl_row hb (lt_of_block HG1.out) HG1.out)
  have HG2 := Lib.hid (hr)
  clear hr hg hal hb
  obtain ⟨g2, hg⟩ : ∃ g, w4.heap.size = g := ⟨_, rfl⟩
  rw [hg] at HG2 ⊢
  clear hg
  go_wp2_with fail
  refine Calls.mono (HS.out _) ?_
  rintro e w6 ⟨rfl, hb⟩
  replace HB := Lib.hid (bl_next HB.out HB.out.size hb)
  replace HG1 := Lib.hid (bl_row hb (lt_of_block HG1.out) HG1.out)
  replace HG2 := Lib.hid (bl_row hb (lt_of_block HG2.out) HG2.out)
  clear hb
  go_wp2_with fail
  refine Calls.mono (HR.out _) ?_
  rintro e w7 ⟨rfl, hb⟩
  replace HB := Lib.hid (bl_next HB.out HB.out.size hb)
  replace HG1 := Lib.hid (bl_row hb (lt_of_block HG1.out) HG1.out)
  replace HG2 := Lib.hid (bl_row hb (lt_of_block HG2.out) HG2.out)
  clear hb
  go_wp2_with fail
  go_ret
  exact ⟨rfl, HB.out⟩
end Go.Proofs.Ytichnlbilnbhoaa
