/- hello: message, finish. -/
import Derived.Test.YtlpajohhnngbmaaHlo
namespace Go.Proofs.Ytlpajohhnngbmaa
open Go.RowKit
set_option linter.unusedVariables false
set_option linter.unusedSimpArgs false

theorem msgM_wf {k : Int} {b : List Int} (hk : (Lit.int .u8 k).wf = true) (hl : b.length ≤ 60000) (hb : ∀ x ∈ b, (Lit.int .u8 x).wf = true) : ∀ x ∈ msgM k b, (Lit.int .u8 x).wf = true := by
  intro x hx
  unfold msgM at hx
  rcases List.mem_append.1 hx with hx | hx
  · simp only [List.mem_cons, List.not_mem_nil, or_false] at hx
    rcases hx with rfl | rfl | rfl
    · exact hk
    · exact wf_u8_of (by omega) (by omega)
    · exact wf_u8_of (by omega) (by omega)
  · exact hb x hx
theorem msgM_len (k : Int) (b : List Int) : (msgM k b).length = 3 + b.length := by
  unfold msgM; rw [List.length_append]; simp only [List.length_cons, List.length_nil]
set_option maxRecDepth 100000 in
set_option maxHeartbeats 4000000 in
theorem message_any (w : World) (k : Int) (a : Option Addr) (len cap : Nat) (bs : List Int) (hk : (Lit.int .u8 k).wf = true) (hlen : len ≤ 60000) (hI : IntsK .u8 w a len bs) :
    Calls Try.prog 37 #[.int .u8 k, .slice a len cap] w fun e w' => ∃ a' c', e = .returned (.slice a' (3 + len) c') ∧ Below w.heap.size w w' ∧ IntsK .u8 w' a' (3 + len) (msgM k bs) ∧ 3 + len ≤ c' ∧ c' ≤ 9223372036854775807 ∧ (∀ x, a' = some x → w.heap.size ≤ x.block) := by
  have hbl := hI.1
  have HWF := Lib.hid (msgM_wf hk (by omega) hI.2.1)
  have HI := Lib.hid hI
  have HK := Lib.hid hk
  have E : IntKind.wrap .u16 (len : Int) = (len : Int) := by simp only [IntKind.wrap, IntKind.signed, IntKind.bits]; simp; omega
  clear hI hk
  go_enter Try.func37, Try.ntmps37
  go_wp2_with fail
  refine Calls.mono (new_any w) ?_
  rintro e w1 ⟨rfl, hW, hb⟩
  have HW := Lib.hid hW; have HB := Lib.hid hb
  clear hW hb
  go_wp2_with fail
  refine Calls.mono (wbyte_any _ w.heap.size w.heap.size _ [] k (by simp) HW.out HK.out) ?_
  rintro e w2 ⟨v2, rfl, hW2, hch, hv2⟩
  replace HB := Lib.hid (hch.below HB.out HB.out.size (Nat.le_refl _) (by intro k hk; cases hk))
  have HW2 := Lib.hid hW2
  clear hW2 hch hv2 HW
  go_wp2_with fail
  refine Calls.mono (wtwo_any _ w.heap.size w.heap.size _ _ len (by simp) HW2.out (by omega)) ?_
  rintro e w3 ⟨v3, rfl, hW3, hch, hv3⟩
  replace HB := Lib.hid (hch.below HB.out HB.out.size (Nat.le_refl _) (own_base HW2.out.own))
  have HW3 := Lib.hid hW3
  clear hW3 hch hv3 HW2
  go_wp2_with fail
  refine Calls.mono (wraw_any _ w.heap.size w.heap.size _ _ a len cap bs (by simp; omega) HW3.out (HI.out.below HB.out)) ?_
  rintro e w4 ⟨v4, rfl, hW4, hch, hv4⟩
  replace HB := Lib.hid (hch.below HB.out HB.out.size (Nat.le_refl _) (own_base HW3.out.own))
  have e : ([] ++ [k] ++ [(len : Int) / 256, (len : Int) % 256] ++ bs) = msgM k bs := by unfold msgM; rw [hbl]; rfl
  rw [e] at hW4
  have HW4 := Lib.hid hW4
  clear hW4 hch hv4 HW3 e
  go_wp2_with fail
  refine Calls.mono (wdone_any _ _ _ _ _ (by rw [msgM_len]; omega) HWF.out HW4.out) ?_
  rintro e w5 ⟨a', c', rfl, hc, hcm, hi, hx, hb⟩
  rw [msgM_len, hbl] at hc hi ⊢
  go_wp2_with fail
  go_ret
  exact ⟨a', c', rfl, bl_next HB.out HB.out.size hb, hi, hc, hcm, fun x h => Nat.le_trans HB.out.size (hx x h)⟩

theorem finM_len (sh : Int) (b : Bool) : (finM sh b).length = 8 := rfl
theorem finM_wf (sh : Int) (b : Bool) : ∀ x ∈ finM sh b, (Lit.int .u8 x).wf = true := wf_bytes _
end Go.Proofs.Ytlpajohhnngbmaa
