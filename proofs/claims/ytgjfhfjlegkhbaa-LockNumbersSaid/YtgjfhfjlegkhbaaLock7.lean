/- contracts of lock: Seal, Mask. -/
import Derived.Test.YtgjfhfjlegkhbaaLock6
namespace Go.Proofs.Ytgjfhfjlegkhbaa
open Go.RowKit
set_option linter.unusedVariables false

theorem turnedM_len (key n : Int) (bs : List Int) : (turnedM key n bs).length = bs.length := mixM_len _ _ _ _
theorem turnedM_wf (key n : Int) (bs : List Int) (h : ∀ x ∈ bs, (Lit.int .u8 x).wf = true) : ∀ x ∈ turnedM key n bs, (Lit.int .u8 x).wf = true := mixM_wf _ _ _ h _
def sealM (key n : Int) (head body : List Int) : List Int := turnedM key n body ++ tagM key n head (turnedM key n body)
theorem sealM_len (key n : Int) (head body : List Int) : (sealM key n head body).length = body.length + 8 := by unfold sealM; rw [List.length_append, turnedM_len, tagM_len]
theorem sealM_wf (key n : Int) (head body : List Int) (h : ∀ x ∈ body, (Lit.int .u8 x).wf = true) : ∀ x ∈ sealM key n head body, (Lit.int .u8 x).wf = true := by
  intro x hx
  rcases List.mem_append.1 hx with h1 | h1
  · exact turnedM_wf _ _ _ h x h1
  · exact tagM_wf _ _ _ _ x h1

set_option maxHeartbeats 2000000 in
theorem seal_any (w : World) (key n : Int) (ha : Option Addr) (hl hc : Nat) (hs : List Int) (sa : Option Addr) (sl sc : Nat) (ss : List Int) (hn : (Lit.int .u64 n).wf = true) (hlen : hl + sl + 24 ≤ 140737488355328) (hs1 : sl ≤ 1000000) (hH : IntsK .u8 w ha hl hs) (hS : IntsK .u8 w sa sl ss) :
    Calls Try.prog 9 #[.int .u64 key, .int .u64 n, .slice ha hl hc, .slice sa sl sc] w fun e w' => ∃ v, e = .returned v ∧ Below w.heap.size w w' ∧ w'.ownsRow w.heap.size 5 1 v (sl + 8) ((sealM key n hs ss).map (Value.int .u8)) := by
  have HH := Lib.hid hH; have HS := Lib.hid hS; have HN := Lib.hid hn
  clear hH hS hn
  go_enter Try.func9, Try.ntmps9
  go_wp2_with fail
  refine Calls.mono (turned_any w key n sa sl sc ss hs1 HN.out HS.out) ?_
  rintro e w2 ⟨v2, rfl, hb2, ho2⟩
  obtain ⟨b2, cp2, rfl, _, hi2, _⟩ := ints_of_own ho2 (turnedM_wf _ _ _ HS.out.2.1)
  have HL2 := Lib.hid hb2; have HO2 := Lib.hid ho2; have HI2 := Lib.hid hi2
  clear hb2 ho2 hi2
  go_wp2_with fail
  refine Calls.mono (tag_any w2 key n ha hl hc hs b2 sl cp2 _ HN.out (by omega) (HH.out.below HL2.out) HI2.out) ?_
  rintro e w5 ⟨rfl, hb5⟩
  have hwy := tagM_wf key n hs (turnedM key n ss)
  have hsm : sealM key n hs ss = turnedM key n ss ++ tagM key n hs (turnedM key n ss) := rfl
  have hty := tagM_len key n hs (turnedM key n ss)
  generalize tagM key n hs (turnedM key n ss) = ys at hwy hsm hty ⊢
  obtain ⟨y0, y1, y2, y3, y4, y5, y6, y7, rfl⟩ : ∃ y0 y1 y2 y3 y4 y5 y6 y7, ys = [y0, y1, y2, y3, y4, y5, y6, y7] := by
    match ys, hty with
    | [y0, y1, y2, y3, y4, y5, y6, y7], _ => exact ⟨y0, y1, y2, y3, y4, y5, y6, y7, rfl⟩
  simp only [List.map_cons, List.map_nil]
  have HSM := Lib.hid hsm
  have HBA := Lib.hid (bl_next HL2.out HL2.out.size (hb5.trans (((Below.refl w5.heap.size w5).alloc (Nat.le_refl _) (.cells ([y0, y1, y2, y3, y4, y5, y6, y7].map (Value.int .u8)).toArray 36)).mono hb5.size)))
  have HOW := Lib.hid (own_below (own_below HO2.out hb5) ((Below.refl w5.heap.size w5).alloc (Nat.le_refl _) (.cells ([y0, y1, y2, y3, y4, y5, y6, y7].map (Value.int .u8)).toArray 36)))
  have HIA := Lib.hid (ints_made8 w5 [y0, y1, y2, y3, y4, y5, y6, y7] 36 rfl hwy)
  clear hwy hb5 hsm hty
  go_upto_region 3 with fail
  change Code.wp _ _ _ _ (w5.alloc (.cells ([y0, y1, y2, y3, y4, y5, y6, y7].map (Value.int .u8)).toArray 36))
  obtain ⟨g, eg⟩ : ∃ g, w5.heap.size = g := ⟨_, rfl⟩
  have hs6 : w.heap.size ≤ (w5.alloc (.cells ([y0, y1, y2, y3, y4, y5, y6, y7].map (Value.int .u8)).toArray 36)).heap.size := HBA.out.size
  generalize w5.alloc (.cells ([y0, y1, y2, y3, y4, y5, y6, y7].map (Value.int .u8)).toArray 36) = W6 at HBA HOW HIA hs6 ⊢
  rw [eg] at HIA
  go_wp2_with (first | (at_builtin; refine wpList_append_bytes rfl _ _ rfl w.heap.size _ _ _ rfl HOW.out _ _ _ _ rfl HIA.out (by omega) hs6 ?_; intro v7 w7 hown hgrow; have HO7 := Lib.hid hown; have HL7 := Lib.hid (HBA.out.grown hgrow hs6 (own_base HOW.out)); clear hown hgrow) | fail)
  go_ret
  refine ⟨_, rfl, HL7.out, ?_⟩
  rw [HSM.out]; exact HO7.out
end Go.Proofs.Ytgjfhfjlegkhbaa
