/- the reference's lock: tag, Seal. -/
import Derived.Test.YtgjfhfjlegkhbaaLockD
namespace Go.Proofs.Ytgjfhfjlegkhbaa
open Go.RowKit
set_option linter.unusedVariables false

set_option maxHeartbeats 2000000 in
theorem rtag_any (w : World) (key n : Int) (ha : Option Addr) (hl hc : Nat) (hs : List Int) (sa : Option Addr) (sl sc : Nat) (ss : List Int) (hn : (Lit.int .u64 n).wf = true) (hlen : hl + sl + 16 ≤ 140737488355328) (hH : IntsK .u8 w ha hl hs) (hS : IntsK .u8 w sa sl ss) :
    Calls Try.prog 27 #[.int .u64 key, .int .u64 n, .slice ha hl hc, .slice sa sl sc] w fun e w' => ∃ b : Option Addr, e = .returned (.slice b 8 8) ∧ Below w.heap.size w w' ∧ w'.ownsRow w.heap.size 5 1 (.slice b 8 8) 8 ((tagM key n hs ss).map (Value.int .u8)) := by
  have HH := Lib.hid hH; have HS := Lib.hid hS; have HN := Lib.hid hn
  have hhl := hH.1
  have hsl := hS.1
  have HD := Lib.hid (fun w => rderive_any w key ⟨#[116, 97, 103]⟩ (by decide))
  clear hH hS hn
  go_enter Try.func27, Try.ntmps27
  go_wp2_with fail
  refine Calls.mono (rbytes_own w n) ?_
  rintro e w2 ⟨rfl, hb2, -, hi2, ho2⟩
  have HB2 := Lib.hid hb2; have HO2 := Lib.hid ho2
  clear hb2 hi2 ho2
  go_wp2_with fail
  refine Calls.mono (rbytes_own w2 (hl : Int)) ?_
  rintro e w3 ⟨rfl, hb3, -, hi3, -⟩
  have HB3 := Lib.hid (bl_next HB2.out HB2.out.size hb3); have HO3 := Lib.hid (own_below HO2.out hb3); have HI3 := Lib.hid hi3
  have hsz3 := HB3.out.size
  clear hb3 hi3 HB2 HO2
  go_upto_region 2 with (first | (at_builtin; refine wpList_append_bytes rfl _ _ rfl w.heap.size _ _ _ rfl HO3.out _ _ _ _ rfl HI3.out (by omega) hsz3 ?_; intro v4 w4 hown hgrow; have HO4 := Lib.hid hown; have HB4 := Lib.hid (HB3.out.grown hgrow hsz3 (own_base HO3.out)); clear hown hgrow) | fail)
  clear HO3 HB3 HI3
  go_wp2_with fail
  refine Calls.mono (HD.out _) ?_
  rintro e w5 ⟨rfl, hb5⟩
  have HB5 := Lib.hid (bl_next HB4.out HB4.out.size hb5); have HO5 := Lib.hid (own_below HO4.out hb5)
  have hsz5 := HB5.out.size
  clear hb5 HB4 HO4
  obtain ⟨b5, cp5, rfl, _⟩ := own_slice HO5.out
  go_wp2_with (first
    | (at_builtin; refine wpList_append_bytes rfl _ _ rfl w.heap.size (8 + 8) (.slice b5 (8 + 8) cp5) _ rfl HO5.out _ _ _ _ rfl (HH.out.below HB5.out) (by omega) hsz5 ?_; intro v6 w6 hown hgrow; have HO6 := Lib.hid hown; have HB6 := Lib.hid (HB5.out.grown hgrow hsz5 (own_base HO5.out)); have hsz6 := HB6.out.size; clear hown hgrow HO5 HB5)
    | (at_builtin; refine wpList_append_bytes rfl _ _ rfl w.heap.size (8 + 8 + hl) _ _ rfl HO6.out _ _ _ _ rfl (HS.out.below HB6.out) (by omega) hsz6 ?_; intro v7 w7 hown hgrow; have HO7 := Lib.hid hown; have HB7 := Lib.hid (HB6.out.grown hgrow hsz6 (own_base HO6.out)); have hsz7 := HB7.out.size; clear hown hgrow HO6 HB6)
    | fail)
  have hM : bytesM n ++ bytesM (hl : Int) ++ hs ++ ss = rowM [n, (hl : Int)] ++ (hs ++ ss) := by simp [rowM]
  have hwM : ∀ x ∈ bytesM n ++ bytesM (hl : Int) ++ hs ++ ss, (Lit.int .u8 x).wf = true := by
    intro y hy
    rw [hM] at hy
    rcases List.mem_append.1 hy with h | h
    · exact row2_wf _ _ y h
    · rcases List.mem_append.1 h with h | h
      · exact HH.out.2.1 y h
      · exact HS.out.2.1 y h
  obtain ⟨b7, cp7, rfl, _, hi7, _⟩ := ints_of_own HO7.out hwM
  rw [hM] at hi7
  have HI7 := Lib.hid hi7
  clear hM hwM hi7 HO7
  refine Calls.mono (rkeyed_any _ _ b7 _ cp7 _ (by omega) HI7.out) ?_
  rintro e w8 ⟨rfl, q8, rfl⟩
  go_wp2_with fail
  refine Calls.mono (rbytes_own _ _) ?_
  rintro e w9 ⟨rfl, hb9, -, -, ho9⟩
  have HB9 := Lib.hid (bl_next (bl_drewN HB7.out q8) (by simpa using hsz7) hb9)
  have HO9 := Lib.hid (ho9.mono (show w.heap.size ≤ (w7.drewN q8).heap.size by simpa using hsz7))
  clear hb9 ho9 HB7
  go_wp2_with fail
  go_ret
  refine ⟨_, rfl, HB9.out, ?_⟩
  have h := HO9.out
  unfold tagM
  rw [hhl]
  exact h

set_option maxHeartbeats 2000000 in
theorem rseal_any (w : World) (key n : Int) (ha : Option Addr) (hl hc : Nat) (hs : List Int) (sa : Option Addr) (sl sc : Nat) (ss : List Int) (hn : (Lit.int .u64 n).wf = true) (hlen : hl + sl + 24 ≤ 140737488355328) (hs1 : sl ≤ 1000000) (hH : IntsK .u8 w ha hl hs) (hS : IntsK .u8 w sa sl ss) :
    Calls Try.prog 15 #[.int .u64 key, .int .u64 n, .slice ha hl hc, .slice sa sl sc] w fun e w' => ∃ v, e = .returned v ∧ Below w.heap.size w w' ∧ w'.ownsRow w.heap.size 5 1 v (sl + 8) ((sealM key n hs ss).map (Value.int .u8)) := by
  have HH := Lib.hid hH; have HS := Lib.hid hS; have HN := Lib.hid hn
  clear hH hS hn
  go_enter Try.func15, Try.ntmps15
  go_wp2_with fail
  refine Calls.mono (rturned_any w key n sa sl sc ss hs1 HN.out HS.out) ?_
  rintro e w2 ⟨v2, rfl, hb2, ho2⟩
  obtain ⟨b2, cp2, rfl, _, hi2, _⟩ := ints_of_own ho2 (turnedM_wf _ _ _ HS.out.2.1)
  have HL2 := Lib.hid hb2; have HO2 := Lib.hid ho2; have HI2 := Lib.hid hi2
  clear hb2 ho2 hi2
  go_wp2_with fail
  refine Calls.mono (rtag_any w2 key n ha hl hc hs b2 sl cp2 _ HN.out (by omega) (HH.out.below HL2.out) HI2.out) ?_
  rintro e w5 ⟨b5, rfl, hb5, ho5⟩
  obtain ⟨_, _, e5, _, hi5, _⟩ := ints_of_own ho5 (tagM_wf key n hs (turnedM key n ss))
  injection e5 with e51 e52 e53
  subst e51 e53
  have HL5 := Lib.hid (bl_next HL2.out HL2.out.size hb5)
  have HO5 := Lib.hid (own_below HO2.out hb5)
  have HI5 := Lib.hid hi5
  have hsz5 := HL5.out.size
  clear hb5 ho5 hi5 HO2 HI2 HL2 e52
  go_wp2_with (first | (at_builtin; refine wpList_append_bytes rfl _ _ rfl w.heap.size _ _ _ rfl HO5.out _ _ _ _ rfl HI5.out (by omega) hsz5 ?_; intro v7 w7 hown hgrow; have HO7 := Lib.hid hown; have HL7 := Lib.hid (HL5.out.grown hgrow hsz5 (own_base HO5.out)); clear hown hgrow) | fail)
  go_ret
  exact ⟨_, rfl, HL7.out, HO7.out⟩

set_option maxHeartbeats 2000000 in
theorem ropen_any (w : World) (key n : Int) (ha : Option Addr) (hl hc : Nat) (hs : List Int) (sa : Option Addr) (sl sc : Nat) (ss : List Int) (hn : (Lit.int .u64 n).wf = true) (hlen : hl + sl + 24 ≤ 140737488355328) (hs1 : sl ≤ 1000000) (hsc : sl ≤ sc) (hsm : sc ≤ 9223372036854775807) (hH : IntsK .u8 w ha hl hs) (hS : IntsK .u8 w sa sl ss) :
    Calls Try.prog 28 #[.int .u64 key, .int .u64 n, .slice ha hl hc, .slice sa sl sc] w fun e w' => ∃ v, e = .returned (.tuple #[v, .bool (openM key n hs ss).2]) ∧ Below w.heap.size w w' ∧ w'.ownsRow w.heap.size 5 1 v (openM key n hs ss).1.length ((openM key n hs ss).1.map (Value.int .u8)) := by
  have HH := Lib.hid hH; have HS := Lib.hid hS; have HN := Lib.hid hn
  have hsl := hS.1
  clear hH hS hn
  by_cases h8 : sl < 8
  · have hom : openM key n hs ss = ([], false) := by unfold openM; rw [if_pos (by omega)]
    rw [hom]
    go_enter Try.func28, Try.ntmps28
    go_wp2_with fail
    go_ret2
    exact ⟨_, rfl, Below.refl _ _, World.ownsRow_nil _ _ _ _⟩
  · obtain ⟨k, rfl⟩ : ∃ k, sl = k + 8 := ⟨sl - 8, by omega⟩
    obtain ⟨ad, rfl, hadl, _⟩ := HS.out.src (by omega)
    obtain ⟨sb, off, hpa⟩ : ∃ sb off, ad = ⟨sb, off, none⟩ := by
      rcases HS.out.2.2 with h | ⟨b, off, e, _⟩
      · omega
      · injection e with e; exact ⟨b, off, e⟩
    subst hpa
    have hk : ss.length - 8 = k := by omega
    have HT := Lib.hid (HS.out.pre k (by omega))
    have HD := Lib.hid (HS.out.suf k (by omega))
    rw [show k + 8 - k = 8 by omega] at HD
    go_enter Try.func28, Try.ntmps28
    go_upto_region 4 with fail
    have hconv2 : ∀ s : In (fun y => Below w.heap.size w y), (convert 23 9 (.slice (some ⟨sb, off + k, none⟩) 8 (sc - k))).run Try.prog s.w = .ok (.string (strOfNums (ss.drop k))) s.w := fun s =>
      conv_ints _ 5 _ _ Try.underlying23 Try.underlying5 Try.underlying9 (HD.out.below s.h)
    refine wp_plan (.t 0 (.t 1 (.t 2 (.t 3 (.t 6 (.t 7 (.t 8 (.t 9 (.t 10 (.u 4 (.t 5 (.t 11 .done)))))))))))) (fun y => Below w.heap.size w y) (by kernel_rfl) (by kernel_rfl) (by kernel_rfl) (fun c a d v w h => by cases d <;> exact h) (Below.refl _ _).drew ?_
    have hS : Below w.heap.size w w.drew := (Below.refl _ _).drew
    generalize w.drew = W1 at hS ⊢
    haveI hne : Nonempty (In fun y => Below w.heap.size w y) := ⟨⟨w, Below.refl _ _⟩⟩
    repeat (refine plan_t (by rfl) ?_; (first | go_big_quiet_skip | (go_big_quiet_want; go_big_quiet_op; go_big_quiet_on)); refine wpQuiet_nil ?_)
    refine plan_un (by rfl) (by kernel_rfl) ?_
    intro K hK
    go_wp2_with fail
    refine Calls.mono (rtag_any W1 key n ha hl hc hs _ k sc _ HN.out (by omega) (HH.out.below hS) (HT.out.below hS)) ?_
    rintro e w5 ⟨b5, rfl, hb5, ho5⟩
    obtain ⟨_, _, e5, _, hi5, _⟩ := ints_of_own ho5 (tagM_wf key n hs (ss.take k))
    injection e5 with e51 e52 e53
    subst e51 e53
    have hS5 := bl_next hS hS.size hb5
    have hconv1 : ∀ s : In (fun y => Below w5.heap.size w5 y), (convert 23 9 (.slice b5 8 8)).run Try.prog s.w = .ok (.string (strOfNums (tagM key n hs (ss.take k)))) s.w := fun s =>
      conv_ints _ 5 _ _ Try.underlying23 Try.underlying5 Try.underlying9 (hi5.below s.h)
    clear hb5 ho5 hi5 e52 hconv2 hne
    go_wp2_with fail
    refine ⟨fun y => Below w5.heap.size w5 y, fun x hx => bl_next hS5 hS5.size hx, Below.refl _ _, ?_⟩
    haveI hne5 : Nonempty (In fun y => Below w5.heap.size w5 y) := ⟨⟨w5, Below.refl _ _⟩⟩
    repeat (refine plan_t (by rfl) ?_; (first | go_big_quiet_skip | (go_big_quiet_want; go_big_quiet_op; go_big_quiet_on)); refine wpQuiet_nil ?_)
    clear hconv1 hne5
    have hom : openM key n hs ss = if tagM key n hs (ss.take k) = ss.drop k then (turnedM key n (ss.take k), true) else ([], false) := by unfold openM; rw [if_neg (by omega), hk]
    have HOM := Lib.hid hom
    have HL := Lib.hid hS5
    clear hom hS5
    show Exit.then _ _ _ _ _
    by_cases heq : tagM key n hs (ss.take k) = ss.drop k
    · have e1 := HOM.out
      rw [if_pos heq] at e1
      rw [← heq, beq_self_eq_true]
      have E1 := Lib.hid e1
      clear HOM heq e1
      go_wp2_with fail
      refine Calls.mono (rturned_any w5 key n _ k sc _ (by omega) HN.out (HT.out.below HL.out)) ?_
      rintro e w7 ⟨v7, rfl, hb7, ho7⟩
      have HL7 := Lib.hid (bl_next HL.out HL.out.size hb7)
      have HO7 := Lib.hid (ho7.mono HL.out.size)
      clear hb7 ho7
      go_wp2_with fail
      go_ret2
      rw [E1.out]
      refine ⟨_, rfl, HL7.out, ?_⟩
      rw [turnedM_len, List.length_take, show min k ss.length = k by omega]
      exact HO7.out
    · have e1 := HOM.out
      rw [if_neg heq] at e1
      rw [str_ne _ _ (tagM_wf _ _ _ _) HD.out.2.1 heq]
      have E1 := Lib.hid e1
      clear HOM heq e1
      go_wp2_with fail
      go_ret2
      rw [E1.out]
      exact ⟨_, rfl, HL.out, World.ownsRow_nil _ _ _ _⟩
end Go.Proofs.Ytgjfhfjlegkhbaa
