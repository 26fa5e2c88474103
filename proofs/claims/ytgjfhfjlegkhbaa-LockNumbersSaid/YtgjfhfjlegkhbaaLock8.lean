/- contracts of lock: Open. -/
import Derived.Test.YtgjfhfjlegkhbaaLock7
import Derived.Lib.Bytes
namespace Go.Proofs.Ytgjfhfjlegkhbaa
open Go.RowKit
set_option linter.unusedVariables false

theorem bytesOf_inj : ∀ (l m : List Int), (∀ x ∈ l, 0 ≤ x ∧ x ≤ 255) → (∀ x ∈ m, 0 ≤ x ∧ x ≤ 255) → Lib.bytesOf l = Lib.bytesOf m → l = m
  | [], [], _, _, _ => rfl
  | [], _ :: _, _, _, h => by simp [Lib.bytesOf] at h
  | _ :: _, [], _, _, h => by simp [Lib.bytesOf] at h
  | x :: l, y :: m, hl, hm, h => by
    simp only [Lib.bytesOf, List.map_cons, List.cons.injEq] at h
    obtain ⟨h1, h2⟩ := h
    have hx := hl x (by simp)
    have hy := hm y (by simp)
    have e1 := congrArg UInt8.toNat h1
    rw [UInt8.toNat_ofNat_of_lt' (by show x.toNat < 256; omega), UInt8.toNat_ofNat_of_lt' (by show y.toNat < 256; omega)] at e1
    rw [bytesOf_inj l m (fun z hz => hl z (by simp [hz])) (fun z hz => hm z (by simp [hz])) h2, show x = y by omega]
theorem strOfNums_inj (l m : List Int) (hl : ∀ x ∈ l, (Lit.int .u8 x).wf = true) (hm : ∀ x ∈ m, (Lit.int .u8 x).wf = true) (h : strOfNums l = strOfNums m) : l = m := by
  have h2 := congrArg ByteArray.toList h
  rw [Lib.strOfNums_toList, Lib.strOfNums_toList] at h2
  exact bytesOf_inj l m (fun x hx => bounds_u8 (hl x hx)) (fun x hx => bounds_u8 (hm x hx)) h2

theorem str_ne (l m : List Int) (hl : ∀ x ∈ l, (Lit.int .u8 x).wf = true) (hm : ∀ x ∈ m, (Lit.int .u8 x).wf = true) (h : ¬ l = m) : ((strOfNums l).toList == (strOfNums m).toList) = false := by
  rw [Lib.strOfNums_toList, Lib.strOfNums_toList, beq_eq_false_iff_ne]
  exact fun e => h (bytesOf_inj l m (fun x hx => bounds_u8 (hl x hx)) (fun x hx => bounds_u8 (hm x hx)) e)

def openM (key n : Int) (head sealed : List Int) : List Int × Bool :=
  if sealed.length < 8 then ([], false)
  else if tagM key n head (sealed.take (sealed.length - 8)) = sealed.drop (sealed.length - 8) then (turnedM key n (sealed.take (sealed.length - 8)), true)
  else ([], false)

set_option maxHeartbeats 2000000 in
theorem open_any (w : World) (key n : Int) (ha : Option Addr) (hl hc : Nat) (hs : List Int) (sa : Option Addr) (sl sc : Nat) (ss : List Int) (hn : (Lit.int .u64 n).wf = true) (hlen : hl + sl + 24 ≤ 140737488355328) (hs1 : sl ≤ 1000000) (hsc : sl ≤ sc) (hsm : sc ≤ 9223372036854775807) (hH : IntsK .u8 w ha hl hs) (hS : IntsK .u8 w sa sl ss) :
    Calls Try.prog 10 #[.int .u64 key, .int .u64 n, .slice ha hl hc, .slice sa sl sc] w fun e w' => ∃ v, e = .returned (.tuple #[v, .bool (openM key n hs ss).2]) ∧ Below w.heap.size w w' ∧ w'.ownsRow w.heap.size 5 1 v (openM key n hs ss).1.length ((openM key n hs ss).1.map (Value.int .u8)) := by
  have HH := Lib.hid hH; have HS := Lib.hid hS; have HN := Lib.hid hn
  have hsl := hS.1
  clear hH hS hn
  by_cases h8 : sl < 8
  · have hom : openM key n hs ss = ([], false) := by unfold openM; rw [if_pos (by omega)]
    rw [hom]
    go_enter Try.func10, Try.ntmps10
    go_wp2_with fail
    go_ret2
    exact ⟨_, rfl, Below.refl _ _, World.ownsRow_nil _ _ _ _⟩
  · obtain ⟨k, rfl⟩ : ∃ k, sl = k + 8 := ⟨sl - 8, by omega⟩
    obtain ⟨ad, rfl, hadl, _⟩ := HS.out.src (by omega)
    obtain ⟨sb, off, hpa⟩ : ∃ sb off, ad = ⟨sb, off, none⟩ := by
      rcases HS.out.2.2 with h | ⟨b, off, e, _⟩
      · omega
      · injection e with e; exact ⟨b, off, e⟩
    subst hpa
    have hk : ss.length - 8 = k := by omega
    have HT := Lib.hid (HS.out.pre k (by omega))
    have HD := Lib.hid (HS.out.suf k (by omega))
    rw [show k + 8 - k = 8 by omega] at HD
    go_enter Try.func10, Try.ntmps10
    go_wp2_with fail
    refine Calls.mono (tag_any w key n ha hl hc hs _ k sc _ HN.out (by omega) HH.out HT.out) ?_
    rintro e w5 ⟨rfl, hb5⟩
    have hwy := tagM_wf key n hs (ss.take k)
    have hom : openM key n hs ss = if tagM key n hs (ss.take k) = ss.drop k then (turnedM key n (ss.take k), true) else ([], false) := by unfold openM; rw [if_neg (by omega), hk]
    have hty := tagM_len key n hs (ss.take k)
    generalize tagM key n hs (ss.take k) = ys at hwy hom hty ⊢
    obtain ⟨y0, y1, y2, y3, y4, y5, y6, y7, rfl⟩ : ∃ y0 y1 y2 y3 y4 y5 y6 y7, ys = [y0, y1, y2, y3, y4, y5, y6, y7] := by
      match ys, hty with
      | [y0, y1, y2, y3, y4, y5, y6, y7], _ => exact ⟨y0, y1, y2, y3, y4, y5, y6, y7, rfl⟩
    simp only [List.map_cons, List.map_nil]
    have HOM := Lib.hid hom
    have HBA := Lib.hid (hb5.trans (((Below.refl w5.heap.size w5).alloc (Nat.le_refl _) (.cells ([y0, y1, y2, y3, y4, y5, y6, y7].map (Value.int .u8)).toArray 36)).mono hb5.size))
    have HIA := Lib.hid (ints_made8 w5 [y0, y1, y2, y3, y4, y5, y6, y7] 36 rfl hwy)
    have HWY := Lib.hid hwy
    clear hwy hb5 hom hty
    go_upto_region 5 with fail
    change Code.wp _ _ _ _ (w5.alloc (.cells ([y0, y1, y2, y3, y4, y5, y6, y7].map (Value.int .u8)).toArray 36))
    obtain ⟨g, eg⟩ : ∃ g, w5.heap.size = g := ⟨_, rfl⟩
    generalize w5.alloc (.cells ([y0, y1, y2, y3, y4, y5, y6, y7].map (Value.int .u8)).toArray 36) = W6 at HBA HIA ⊢
    rw [eg] at HIA ⊢
    have hconv1 : ∀ s : In (fun y => Below W6.heap.size W6 y), (convert 23 9 (.slice (some ⟨g, 0, none⟩) 8 8)).run Try.prog s.w = .ok (.string (strOfNums [y0, y1, y2, y3, y4, y5, y6, y7])) s.w := fun s =>
      conv_ints _ 5 _ _ Try.underlying23 Try.underlying5 Try.underlying9 (HIA.out.below s.h)
    have hconv2 : ∀ s : In (fun y => Below W6.heap.size W6 y), (convert 23 9 (.slice (some ⟨sb, off + k, none⟩) 8 (sc - k))).run Try.prog s.w = .ok (.string (strOfNums (ss.drop k))) s.w := fun s =>
      conv_ints _ 5 _ _ Try.underlying23 Try.underlying5 Try.underlying9 (HD.out.below (bl_next HBA.out HBA.out.size s.h))
    refine wp_plan (.t 0 (.t 1 (.t 2 (.t 3 (.t 4 (.t 5 (.t 6 .done))))))) (fun y => Below W6.heap.size W6 y) (by kernel_rfl) (by kernel_rfl) (by kernel_rfl) (fun c a d v w h => by cases d <;> exact h) (Below.refl _ _).drew ?_
    have hS : Below W6.heap.size W6 W6.drew := (Below.refl _ _).drew
    have HL := Lib.hid (bl_next HBA.out HBA.out.size hS)
    generalize W6.drew = W1 at hS HL ⊢
    haveI hne : Nonempty (In fun y => Below W6.heap.size W6 y) := ⟨⟨W6, Below.refl _ _⟩⟩
    repeat (refine plan_t (by rfl) ?_; (first | go_big_quiet_skip | (go_big_quiet_want; go_big_quiet_op; go_big_quiet_on)); refine wpQuiet_nil ?_)
    clear hconv1 hconv2 hne hS
    show Exit.then _ _ _ _ _
    by_cases heq : [y0, y1, y2, y3, y4, y5, y6, y7] = ss.drop k
    · have e1 := HOM.out
      rw [if_pos heq] at e1
      rw [← heq, beq_self_eq_true]
      have E1 := Lib.hid e1
      clear HOM heq e1
      go_wp2_with fail
      refine Calls.mono (turned_any W1 key n _ k sc _ (by omega) HN.out (HT.out.below HL.out)) ?_
      rintro e w7 ⟨v7, rfl, hb7, ho7⟩
      have HL7 := Lib.hid (bl_next HL.out HL.out.size hb7)
      have HO7 := Lib.hid (ho7.mono HL.out.size)
      clear hb7 ho7
      go_wp2_with fail
      go_ret2
      rw [E1.out]
      refine ⟨_, rfl, HL7.out, ?_⟩
      rw [turnedM_len, List.length_take, show min k ss.length = k by omega]
      exact HO7.out
    · have e1 := HOM.out
      rw [if_neg heq] at e1
      rw [str_ne _ _ HWY.out HD.out.2.1 heq]
      have E1 := Lib.hid e1
      clear HOM heq e1
      go_wp2_with fail
      go_ret2
      rw [E1.out]
      exact ⟨_, rfl, HL.out, World.ownsRow_nil _ _ _ _⟩
end Go.Proofs.Ytgjfhfjlegkhbaa
