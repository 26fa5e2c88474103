/- wheel: Drop's closure, IndexFunc. -/
import Derived.Test.YtjkedccbieoenaaWhl4
namespace Go.Proofs.Ytjkedccbieoenaa
open Go.RowKit
set_option linter.unusedVariables false
set_option linter.unusedSimpArgs false

theorem Tms.rng {w : World} {a : Option Addr} {n : Nat} {l : List Tm} (h : Tms w a n l) {j : Nat} {x : Tm} (hx : l[j]? = some x) : ∃ b off, a = some ⟨b, off, none⟩ ∧ b < w.heap.size ∧ tmwf x ∧ w.rangeAt b (off + j * 2) (tmV x) := by
  have hj : j < n := by have := (List.getElem?_eq_some_iff.1 hx).1; have := h.1; omega
  obtain ⟨b, off, y, rfl, hb, hy, hw, h1, h2⟩ := h.at hj
  rw [hx] at hy; injection hy with hy; subst hy
  refine ⟨b, off, rfl, hb, hw, fun k v hv => ?_⟩
  match k, hv with
  | 0, hv => simp [tmV] at hv; subst hv; rw [show off + j * 2 + 0 = off + 2 * j by omega]; exact h1
  | 1, hv => simp [tmV] at hv; subst hv; rw [show off + j * 2 + 1 = off + (2 * j + 1) by omega]; exact h2
  | k + 2, hv => simp [tmV] at hv
theorem tmV_one (x : Tm) : ∀ v ∈ tmV x, v.oneCell' = true := by
  intro v hv; simp only [tmV, List.mem_cons, List.not_mem_nil, or_false] at hv; rcases hv with rfl | rfl <;> rfl
set_option maxRecDepth 100000 in
set_option maxHeartbeats 2000000 in
theorem dropc_any (w : World) (gi : Nat) (id : Int) (x : Tm) (hgi : gi < w.heap.size) (hc : w.cell? ⟨gi, 0, none⟩ = some (.int .i64 id)) :
    Calls Try.prog 27 #[.agg (tmV x).toArray, .pointer (some ⟨gi, 0, none⟩)] w fun e w' => e = .returned (.bool (decide (x.1 = id))) ∧ Below w.heap.size w w' := by
  have hb := (Below.refl w.heap.size w).alloc (Nat.le_refl _) (.cells (tmV x).toArray 53)
  have hc1 := bl_cell hb (p := ⟨gi, 0, none⟩) hgi hc
  have x0 := cell_row (cs := tmV x) (heap_alloc_new w (.cells (tmV x).toArray 53)) 0 (.int .i64 x.1) rfl
  obtain ⟨i, t⟩ := x
  go_enter Try.func27, Try.ntmps27
  go_upto_region 1 with fail
  change Code.wp _ _ _ _ (w.alloc (.cells (tmV (i, t)).toArray 53))
  have HB := Lib.hid hb
  generalize w.alloc (.cells (tmV (i, t)).toArray 53) = w1 at x0 hc1 HB ⊢
  generalize w.heap.size = gx at x0 ⊢
  clear hb hc
  by_cases e : i = id
  · subst e
    go_wp2_with fail
    go_ret
    exact ⟨by simp, HB.out⟩
  · have e2 : (i == id) = false := by simpa using e
    go_wp2_with fail
    go_ret
    exact ⟨by simp [e], HB.out⟩
set_option maxRecDepth 100000 in
set_option maxHeartbeats 2000000 in
theorem index_any (w : World) (a : Option Addr) (n cap : Nat) (l : List Tm) (hI : Tms w a n l) (hn : n ≤ 1000000) (gi : Nat) (id : Int) (hgi : gi < w.heap.size) (hc : w.cell? ⟨gi, 0, none⟩ = some (.int .i64 id)) (i : Nat) (hi : i < n) (hat : ∀ x, l[i]? = some x → x.1 = id) (hbe : ∀ j x, j < i → l[j]? = some x → x.1 ≠ id) :
    Calls Try.prog 37 #[.slice a n cap, .func (.func 27) #[] #[.pointer (some ⟨gi, 0, none⟩)]] w fun e w' => e = .returned (.int .i64 i) ∧ Below w.heap.size w w' := by
  have HI := Lib.hid hI; have HA := Lib.hid hat; have HE := Lib.hid hbe; have HGI := Lib.hid hgi; have HC := Lib.hid hc
  have HB := Lib.hid (Below.refl w.heap.size w)
  have hl := hI.1
  have HL := Lib.hid hl
  clear hI hat hbe hgi hc hl
  go_enter Try.func37, Try.ntmps37
  go_wp2_with fail
  go_loopw [8] (fun s wr => ∃ k : Nat, s = .int .i64 k ∧ k ≤ i ∧ Hid (Below w.heap.size w wr)) (fun s _ => n - (intOf s).toNat)
  case atStart => exact ⟨0, rfl, by omega, HB⟩
  case round =>
    clear HB
    obtain ⟨k, rfl, hk, HB⟩ := hrel
    have hlt : k < n := by omega
    obtain ⟨x, hx⟩ : ∃ x, l[k]? = some x := ⟨_, List.getElem?_eq_getElem (by have := HL.out; omega)⟩
    obtain ⟨b, off, rfl, hb, hxw, hr⟩ := (HI.out.below HB.out).rng hx
    have HR := Lib.hid hr
    have HD := Lib.hid (dropc_any wr gi id x (Nat.lt_of_lt_of_le HGI.out HB.out.size) (bl_cell HB.out (p := ⟨gi, 0, none⟩) HGI.out HC.out))
    have HXL : Hid ((tmV x).length = 2) := Lib.hid rfl
    clear hr hb hxw
    have HXE : Hid (k = i ↔ x.1 = id) := Lib.hid ⟨fun e => HA.out x (e ▸ hx), fun e => Classical.byContradiction fun hne => HE.out k x (by omega) hx e⟩
    clear hx
    obtain ⟨q, hq⟩ : ∃ q, decide (x.1 = id) = q := ⟨_, rfl⟩
    rw [hq] at HD
    have HQ := Lib.hid hq
    clear hq
    generalize tmV x = R at HR HD HXL
    cases q with
    | true =>
      have EK : Hid (k = i) := Lib.hid (HXE.out.2 (of_decide_eq_true HQ.out))
      go_wp2_with (first | (refine wpList_load_mid rfl 53 _ rfl b (off + k * 2) rfl R _ HR.out Try.underlying53 rfl (by rw [HXL.out]; rfl) ?_) | fail)
      refine Calls.mono HD.out ?_
      rintro e w2 ⟨rfl, hb2⟩
      replace HB := Lib.hid (bl_next HB.out HB.out.size hb2)
      clear hb2
      go_wp2_with fail
      go_ret
      exact ⟨by rw [← EK.out]; rfl, HB.out⟩
    | false =>
      have ek : k < i := by have h1 := of_decide_eq_false HQ.out; have h2 : k ≠ i := fun e => h1 (HXE.out.1 e); omega
      go_wp2_with (first | (refine wpList_load_mid rfl 53 _ rfl b (off + k * 2) rfl R _ HR.out Try.underlying53 rfl (by rw [HXL.out]; rfl) ?_) | fail)
      refine Calls.mono HD.out ?_
      rintro e w2 ⟨rfl, hb2⟩
      replace HB := Lib.hid (bl_next HB.out HB.out.size hb2)
      clear hb2
      go_wp2_with fail
      go_roundw
      case rel => exact ⟨k + 1, by go_num, by omega, HB⟩
      case measure => simp [intOf]; omega
end Go.Proofs.Ytjkedccbieoenaa
