/- contracts of lock: row. -/
import Derived.Test.YtgjfhfjlegkhbaaLock
import Derived.Deep.DeepCutAuto
import Derived.Deep.CutBlock
namespace Go.Proofs.Ytgjfhfjlegkhbaa
open Go.RowKit
set_option linter.unusedVariables false

def rowM (ns : List Int) : List Int := ns.flatMap bytesM
theorem rowM_snoc (ns : List Int) (n : Int) : rowM (ns ++ [n]) = rowM ns ++ bytesM n := by simp [rowM]
theorem rowM_len : ∀ ns : List Int, (rowM ns).length = 8 * ns.length
  | [] => rfl
  | n :: ns => by
    have h : rowM (n :: ns) = bytesM n ++ rowM ns := rfl
    rw [h, List.length_append, rowM_len ns]; simp [bytesM]; omega
theorem ints_made8 (w : World) (ys : List Int) (t : TypeId) (hl : ys.length = 8) (hy : ∀ x ∈ ys, (Lit.int .u8 x).wf = true) : IntsK .u8 (w.alloc (.cells (ys.map (Value.int .u8)).toArray t)) (some ⟨w.heap.size, 0, none⟩) 8 ys := by
  have h := IntsK.of_row (k := .u8) (heap_alloc_new w (.cells (ys.map (Value.int .u8)).toArray t)) hy
  rw [hl] at h
  exact h

set_option maxHeartbeats 1000000 in
theorem row_any (w : World) (a : Option Addr) (len cap : Nat) (ns : List Int) (hlen : len ≤ 1000000) (hI : IntsK .u64 w a len ns) :
    Calls Try.prog 34 #[.slice a len cap] w fun e w' => ∃ v, e = .returned v ∧ Below w.heap.size w w' ∧ w'.ownsRow w.heap.size 5 1 v (8 * len) ((rowM ns).map (Value.int .u8)) := by
  have HI := Lib.hid hI
  have hl := hI.1
  clear hI
  go_enter Try.func34, Try.ntmps34
  go_wp2_with fail
  go_loopw [3, 9] (fun s3 s9 wr => ∃ j : Nat, s9 = .int .i64 j ∧ j ≤ len ∧ Hid (Below w.heap.size w wr) ∧ Hid (wr.ownsRow w.heap.size 5 1 s3 (8 * j) ((rowM (ns.take j)).map (Value.int .u8)))) (fun _ s9 _ => len - (intOf s9).toNat)
  case atStart => exact ⟨0, rfl, by omega, Lib.hid (Below.refl _ _), Lib.hid (World.ownsRow_nil _ _ _ _)⟩
  case round =>
    obtain ⟨j, rfl, hj, HL, HO⟩ := hrel
    obtain ⟨ub, ucp, rfl, _⟩ := own_slice HO.out
    by_cases hlt : j < len
    · obtain ⟨ba, off, x, rfl, hbl, hx, hwx, hc⟩ := HI.out.at HL.out (j := j) hlt
      have htk : ns.take (j + 1) = ns.take j ++ [x] := by
        rw [List.take_succ_eq_append_getElem (by omega), hx, List.getD_eq_getElem?_getD, List.getElem?_eq_getElem (by omega)]; rfl
      have HTK := Lib.hid htk
      clear hx htk
      go_wp2_with fail
      refine Calls.mono (bytes_any wr x) ?_
      rintro e w5 ⟨rfl, hb5⟩
      have hwy := wf_bytes x
      obtain ⟨y0, y1, y2, y3, y4, y5, y6, y7, ey⟩ : ∃ y0 y1 y2 y3 y4 y5 y6 y7, bytesM x = [y0, y1, y2, y3, y4, y5, y6, y7] := ⟨_, _, _, _, _, _, _, _, rfl⟩
      rw [ey] at hwy ⊢
      simp only [List.map_cons, List.map_nil]
      have HEY := Lib.hid ey; have HWY := Lib.hid hwy
      have HBA := Lib.hid (bl_next HL.out HL.out.size (hb5.trans (((Below.refl w5.heap.size w5).alloc (Nat.le_refl _) (.cells ([y0, y1, y2, y3, y4, y5, y6, y7].map (Value.int .u8)).toArray 36)).mono hb5.size)))
      have HOW := Lib.hid (own_below (own_below HO.out hb5) ((Below.refl w5.heap.size w5).alloc (Nat.le_refl _) (.cells ([y0, y1, y2, y3, y4, y5, y6, y7].map (Value.int .u8)).toArray 36)))
      have HIA := Lib.hid (ints_made8 w5 [y0, y1, y2, y3, y4, y5, y6, y7] 36 rfl hwy)
      clear ey hwy hb5 hwx hc
      go_upto_region 6 with fail
      change Code.wp _ _ _ _ (w5.alloc (.cells ([y0, y1, y2, y3, y4, y5, y6, y7].map (Value.int .u8)).toArray 36))
      obtain ⟨g, eg⟩ : ∃ g, w5.heap.size = g := ⟨_, rfl⟩
      have hs6 : w.heap.size ≤ (w5.alloc (.cells ([y0, y1, y2, y3, y4, y5, y6, y7].map (Value.int .u8)).toArray 36)).heap.size := HBA.out.size
      generalize w5.alloc (.cells ([y0, y1, y2, y3, y4, y5, y6, y7].map (Value.int .u8)).toArray 36) = W6 at HBA HOW HIA hs6 ⊢
      rw [eg] at HIA
      go_wp2_with (first | (at_builtin; refine wpList_append_bytes rfl _ _ rfl w.heap.size _ _ _ rfl HOW.out _ _ _ _ rfl HIA.out (by omega) hs6 ?_; intro v7 w7 hown hgrow; have HO7 := Lib.hid hown; have HL7 := Lib.hid (HBA.out.grown hgrow hs6 (own_base HOW.out)); clear hown hgrow) | fail)
      have HO8 : Hid (w7.ownsRow w.heap.size 5 1 v7 (8 * (j + 1)) ((rowM (ns.take (j + 1))).map (Value.int .u8))) := Lib.hid (by
        have h := HO7.out
        rw [← HEY.out, ← rowM_snoc, ← HTK.out] at h
        exact h)
      clear HO7 HOW HIA HBA HO HL
      go_roundw
      case rel => exact ⟨j + 1, by go_num, by omega, HL7, HO8⟩
      case measure => simp [intOf]; omega
    · obtain rfl : j = len := by omega
      go_wp2_with fail
      go_ret
      refine ⟨_, rfl, HL.out, ?_⟩
      have h := HO.out
      rw [List.take_of_length_le (by omega)] at h
      exact h
end Go.Proofs.Ytgjfhfjlegkhbaa
