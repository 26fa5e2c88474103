/- chapter 8's walks: known. -/
import Derived.Test.YtgjfhfjlegkhbaaLock9
import Derived.Lib.SlBytesConst
namespace Go.Proofs.Ytgjfhfjlegkhbaa
open Go.RowKit
set_option linter.unusedVariables false

theorem ints_of_mark {k : IntKind} {w : World} {b : Nat} {zs : List Int} {t : TypeId} {fr : Nat × Nat} (h : w.heap[b]? = some (.cells (zs.map (Value.int k)).toArray t fr)) (hw : ∀ n ∈ zs, (Lit.int k n).wf = true) : IntsK k w (some ⟨b, 0, none⟩) zs.length zs := by
  refine ⟨rfl, hw, .inr ⟨b, 0, rfl, lt_of_block h, fun i hi => ?_⟩⟩
  rw [show w.cell? ⟨b, 0 + i, none⟩ = ((zs.map (Value.int k)).toArray)[i]? by simp [World.cell?, h]]
  simp [List.getD_eq_getElem?_getD, List.getElem?_eq_getElem hi]
theorem ints_lit4 (w : World) (t : TypeId) (fr : Nat × Nat) (x0 x1 x2 x3 : Int) (h : ∀ x ∈ [x0, x1, x2, x3], (Lit.int .u8 x).wf = true) : IntsK .u8 (w.alloc (.cells #[.int .u8 x0, .int .u8 x1, .int .u8 x2, .int .u8 x3] t fr)) (some ⟨w.heap.size, 0, none⟩) 4 [x0, x1, x2, x3] :=
  ints_of_mark (k := .u8) (zs := [x0, x1, x2, x3]) (heap_alloc_new w (.cells #[.int .u8 x0, .int .u8 x1, .int .u8 x2, .int .u8 x3] t fr)) h
theorem ints_lit7 (w : World) (t : TypeId) : IntsK .u8 (w.alloc (.cells #[.int .u8 0, .int .u8 0, .int .u8 0, .int .u8 0, .int .u8 0, .int .u8 0, .int .u8 0] t)) (some ⟨w.heap.size, 0, none⟩) 7 [0, 0, 0, 0, 0, 0, 0] :=
  IntsK.of_row (k := .u8) (zs := [0, 0, 0, 0, 0, 0, 0]) (heap_alloc_new w (.cells #[.int .u8 0, .int .u8 0, .int .u8 0, .int .u8 0, .int .u8 0, .int .u8 0, .int .u8 0] t)) (by decide)

theorem own_cap8 {w : World} {base e n size : Nat} {v : Value} {xs : List Value} (h : w.ownsRow base e size v n xs) : ∀ b l c, v = .slice b l c → c ≤ 9223372036854775807 := by
  intro b l c hv
  rcases h.2 with ⟨h1, _⟩ | ⟨g, cap, cur, h1, hg, hrow, hn, hc, _⟩
  · rw [hv] at h1; injection h1 with _ _ h3; omega
  · rw [hv] at h1; injection h1 with _ _ h3; unfold maxLen at hc; omega

set_option maxHeartbeats 1000000 in
theorem known8_any (w : World) : Makes Try.prog 13 #[] w (.bool true) := by
  have hmk : ∀ w, (Instr.makeSlice 23 (.int .i64 7) (.int .i64 7)).run Try.prog w = .ok (.slice (some ⟨w.heap.size, 0, none⟩) 7 7) (w.alloc (.cells #[.int .u8 0, .int .u8 0, .int .u8 0, .int .u8 0, .int .u8 0, .int .u8 0, .int .u8 0] 5)) := fun _ => by kernel_rfl
  have hwh : ∀ x ∈ ([104, 101, 97, 100] : List Int), (Lit.int .u8 x).wf = true := by decide
  have hwb : ∀ x ∈ ([98, 111, 100, 121] : List Int), (Lit.int .u8 x).wf = true := by decide
  have HWH := Lib.hid hwh; have HWB := Lib.hid hwb
  have hcv : ∀ (w : World) x0 x1 x2 x3 (g : Nat), g = w.heap.size → (convert 23 23 (.slice (some ⟨g, 0, none⟩) 4 4)).run Try.prog (w.alloc (.cells #[.int .u8 x0, .int .u8 x1, .int .u8 x2, .int .u8 x3] 5)) = .ok (.slice (some ⟨g, 0, none⟩) 4 4) (w.alloc (.cells #[.int .u8 x0, .int .u8 x1, .int .u8 x2, .int .u8 x3] 5 (4, 5))) := by
    intro w x0 x1 x2 x3 g hg
    subst hg
    exact Lib.run_convert_bytes_const (P := Try.prog) w 23 5 #[.int .u8 x0, .int .u8 x1, .int .u8 x2, .int .u8 x3] 4 4 Try.underlying23 Try.underlying5
  have HCV := Lib.hid hcv
  clear hwh hwb hcv
  have h1 := HCV.out w 104 101 97 100 w.heap.size rfl
  have h2 := HCV.out (w.alloc (.cells #[.int .u8 104, .int .u8 101, .int .u8 97, .int .u8 100] 5 (4, 5))) 98 111 100 121 (w.heap.size + 1) (by simp)
  have HIH := Lib.hid (ints_lit4 w 5 (4, 5) 104 101 97 100 HWH.out)
  have HIB : Hid (IntsK .u8 _ (some ⟨w.heap.size + 1, 0, none⟩) 4 _) := Lib.hid (by
    have h := ints_lit4 (w.alloc (.cells #[.int .u8 104, .int .u8 101, .int .u8 97, .int .u8 100] 5 (4, 5))) 5 (4, 5) 98 111 100 121 HWB.out
    rw [show (w.alloc (.cells #[.int .u8 104, .int .u8 101, .int .u8 97, .int .u8 100] 5 (4, 5))).heap.size = w.heap.size + 1 by simp] at h
    exact h)
  have HB2 := Lib.hid (((Below.refl w.heap.size w).alloc (Nat.le_refl _) (.cells #[.int .u8 104, .int .u8 101, .int .u8 97, .int .u8 100] 5 (4, 5))))
  have HB3 := Lib.hid (((Below.refl (w.alloc (.cells #[.int .u8 104, .int .u8 101, .int .u8 97, .int .u8 100] 5 (4, 5))).heap.size _).alloc (Nat.le_refl _) (.cells #[.int .u8 98, .int .u8 111, .int .u8 100, .int .u8 121] 5 (4, 5))))
  go_enter Try.func13, Try.ntmps13
  go_wp2_with fail
  refine Calls.mono (seal_any _ 5 6 _ 4 4 _ _ 4 4 _ (by decide) (by omega) (by omega) (HIH.out.below HB3.out) HIB.out) ?_
  rintro e w3 ⟨v3, rfl, hb3, ho3⟩
  obtain ⟨b3, cp3, rfl, hc3, hi3, _⟩ := ints_of_own ho3 (sealM_wf _ _ _ _ HWB.out)
  have hcm3 := own_cap8 ho3 _ _ _ rfl
  have HL3 := Lib.hid ((bl_next HB2.out HB2.out.size HB3.out).trans (hb3.mono (Nat.le_trans HB2.out.size HB3.out.size)))
  have HI3 := Lib.hid hi3
  clear hb3 ho3 hi3 HIH HIB HB2 HB3 h1 h2
  have h3 := HCV.out w3 104 101 97 100 w3.heap.size rfl
  have HIH := Lib.hid (ints_lit4 w3 5 (4, 5) 104 101 97 100 HWH.out)
  have HB4 := Lib.hid (((Below.refl w3.heap.size w3).alloc (Nat.le_refl _) (.cells #[.int .u8 104, .int .u8 101, .int .u8 97, .int .u8 100] 5 (4, 5))))
  go_wp2_with fail
  refine Calls.mono (open_any _ 5 6 _ 4 4 _ b3 (4 + 8) cp3 _ (by decide) (by omega) (by omega) hc3 hcm3 HIH.out (HI3.out.below HB4.out)) ?_
  rw [open_seal 5 6 _ _ HWB.out]
  rintro e w5 ⟨v5, rfl, hb5, ho5⟩
  obtain ⟨b5, cp5, rfl, hc5, hi5, _⟩ := ints_of_own ho5 HWB.out
  have HL5 := Lib.hid (bl_next (bl_next HL3.out HL3.out.size HB4.out) (Nat.le_trans HL3.out.size HB4.out.size) hb5)
  have HI5 := Lib.hid hi5
  clear hb5 ho5 hi5 HIH HB4 HL3 HI3 h3
  go_wp2_with fail
  refine Calls.mono (open_any _ 5 6 none 0 0 [] _ 7 7 _ (by decide) (by omega) (by omega) (by omega) (by omega) (IntsK.nil _ _ _) (ints_lit7 w5 5)) ?_
  rw [open_short _ _ _ _ (by decide)]
  rintro e w6 ⟨v6, rfl, hb6, ho6⟩
  have HL6 := Lib.hid (bl_next HL5.out HL5.out.size ((((Below.refl w5.heap.size w5).alloc (Nat.le_refl _) _)).trans (hb6.mono (by simp))))
  have HI6 := Lib.hid (HI5.out.below ((((Below.refl w5.heap.size w5).alloc (Nat.le_refl _) _)).trans (hb6.mono (by simp))))
  clear hb6 ho6 HL5 HI5
  have hconv : (convert 23 9 (.slice b5 4 cp5)).run Try.prog w6 = .ok (.string ⟨#[98, 111, 100, 121]⟩) w6 := conv_ints _ 5 _ _ Try.underlying23 Try.underlying5 Try.underlying9 HI6.out
  go_wp2_with fail
  go_ret
  exact ⟨rfl, HL6.out⟩
end Go.Proofs.Ytgjfhfjlegkhbaa
