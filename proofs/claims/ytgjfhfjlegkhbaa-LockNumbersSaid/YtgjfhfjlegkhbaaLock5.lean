/- contracts of lock: slices.Grow, slices.Concat. -/
import Derived.Test.YtgjfhfjlegkhbaaLock4
namespace Go.Proofs.Ytgjfhfjlegkhbaa
open Go.RowKit
set_option linter.unusedVariables false

theorem zc_size (n : Nat) : (Builtin.zeroCells #[Value.int .u8 0] n).size = n := by simp [Builtin.zeroCells]
set_option maxHeartbeats 1000000 in
theorem grow_any (w : World) (n : Nat) (h0 : 0 < n) (hn : n ≤ 140737488355328) :
    Calls Try.prog 40 #[.slice none 0 0, .int .i64 n] w fun e w' => ∃ v, e = .returned v ∧ Below w.heap.size w w' ∧ w'.ownsRow w.heap.size 5 1 v 0 [] := by
  have ht : Try.t5.bytes = 1 := by rfl
  have h1 : ¬ (281474976710656 < (n : Int) * (Try.t5.bytes : Int)) := by rw [ht]; omega
  have h2 : ¬ (281474976710656 < Builtin.nextslicecap n 0 * Try.t5.bytes) := by rw [nextslicecap_zero (by omega), ht]; omega
  have h3 : n ≤ (Question.appendCap n 0 5).cut (w.tape w.drawn (Question.appendCap n 0 5)) := Nat.le_add_right _ _
  have h4 : (Question.appendCap n 0 5).cut (w.tape w.drawn (Question.appendCap n 0 5)) ≤ maxLen := by
    have h := Nat.mod_lt (w.tape w.drawn (Question.appendCap n 0 5)) (show 0 < 2 ^ 63 - n by omega)
    show n + _ % (2 ^ 63 - n) ≤ maxLen
    unfold maxLen; omega
  clear ht
  go_enter Try.func40, Try.ntmps40
  go_wp2_with fail
  go_ret
  generalize (Question.appendCap n 0 5).cut (w.tape w.drawn (Question.appendCap n 0 5)) = c at *
  refine ⟨_, rfl, ?_, ?_⟩
  · exact bl_drewN ((Below.refl _ _).alloc (Nat.le_refl _) _) 1
  · refine ⟨rfl, .inr ⟨_, _, _, rfl, Nat.le_refl _, heap_alloc_new w _, Nat.zero_le _, h4, ?_, by simp⟩⟩
    simp only [Array.size_append, zc_size, Nat.mul_one]; first | omega | simp [zc_size]

/-- rows of bytes: where each lies, and its bytes -/
abbrev Rw := Option Addr × Nat × Nat × List Int
def catM (rs : List Rw) : List Int := rs.flatMap fun r => r.2.2.2
theorem catM_take (rs : List Rw) (j : Nat) (r : Rw) (h : rs[j]? = some r) : catM (rs.take (j + 1)) = catM (rs.take j) ++ r.2.2.2 := by
  rw [List.take_add_one, h]; simp [catM]
theorem catM_le (rs : List Rw) (j : Nat) : (catM (rs.take j)).length ≤ (catM rs).length := by
  have h : catM rs = catM (rs.take j) ++ catM (rs.drop j) := by unfold catM; rw [← List.flatMap_append, List.take_append_drop]
  rw [h, List.length_append]; omega

set_option maxHeartbeats 1000000 in
theorem concat_any (w : World) (b cap : Nat) (rs : List Rw) (hb : b < w.heap.size) (hc : ∀ (j : Nat) (r : Rw), rs[j]? = some r → w.cell? ⟨b, j, none⟩ = some (.slice r.1 r.2.1 r.2.2.1)) (hI : ∀ (j : Nat) (r : Rw), rs[j]? = some r → IntsK .u8 w r.1 r.2.1 r.2.2.2)
    (h0 : 0 < (catM rs).length) (hn : (catM rs).length ≤ 140737488355328) (hl : rs.length ≤ 1000) :
    Calls Try.prog 35 #[.slice (some ⟨b, 0, none⟩) rs.length cap] w fun e w' => ∃ v, e = .returned v ∧ Below w.heap.size w w' ∧ w'.ownsRow w.heap.size 5 1 v (catM rs).length ((catM rs).map (Value.int .u8)) := by
  have HC := Lib.hid hc; have HI := Lib.hid hI
  clear hc hI
  go_enter Try.func35, Try.ntmps35
  go_wp2_with fail
  go_loopw [3, 5, 11] (fun s3 s5 s11 wr => ∃ j : Nat, s11 = .int .i64 j ∧ j ≤ rs.length ∧ s3 = .int .i64 ((catM (rs.take j)).length) ∧ w = wr) (fun _ _ s11 _ => rs.length - (intOf s11).toNat)
  case atStart => exact ⟨0, rfl, by omega, rfl, rfl⟩
  case round =>
    obtain ⟨j, rfl, hj, rfl, rfl⟩ := hrel
    by_cases hlt : j < rs.length
    · obtain ⟨r, hr⟩ : ∃ r, rs[j]? = some r := ⟨_, List.getElem?_eq_getElem hlt⟩
      have hcj := HC.out j r hr
      have hln := (HI.out j r hr).1
      have htk := catM_take rs j r hr
      have hle := catM_le rs (j + 1)
      have hsum : ((catM (rs.take (j + 1))).length : Int) = (catM (rs.take j)).length + r.2.1 := by rw [htk, List.length_append, hln]; omega
      have hb1 : (catM (rs.take j)).length ≤ 140737488355328 := Nat.le_trans (catM_le rs j) hn
      have hb2 : (catM (rs.take j)).length + r.2.1 ≤ 140737488355328 := by rw [htk, List.length_append] at hle; omega
      have HS := Lib.hid hsum
      clear hr hln htk hle hsum
      obtain ⟨ra, rl, rc, rb⟩ := r
      simp only at hcj hb2 HS
      generalize hT : (catM (rs.take j)).length = T at *
      go_wp2_with fail
      go_roundw
      case rel => exact ⟨j + 1, by go_num, by omega, by rw [HS.out], by first | rfl | trivial⟩
      case measure => simp [intOf]; omega
    · obtain rfl : j = rs.length := by omega
      rw [List.take_length]
      go_wp2_with fail
      refine Calls.mono (grow_any _ _ h0 hn) ?_
      rintro e w2 ⟨v2, rfl, hb2, ho2⟩
      have HL2 := Lib.hid hb2; have HO2 := Lib.hid ho2
      clear hb2 ho2
      go_wp2_with fail
      go_loopw [6, 8, 27] (fun s6 s8 s27 wx => ∃ j : Nat, s27 = .int .i64 j ∧ j ≤ rs.length ∧ Hid (Below w.heap.size w wx) ∧ Hid (wx.ownsRow w.heap.size 5 1 s6 (catM (rs.take j)).length ((catM (rs.take j)).map (Value.int .u8)))) (fun _ _ s27 _ => rs.length - (intOf s27).toNat)
      case atStart => exact ⟨0, rfl, by omega, HL2, HO2⟩
      case round =>
        clear HL2 HO2
        obtain ⟨j, rfl, hj, HL, HO⟩ := hrel
        by_cases hlt : j < rs.length
        · obtain ⟨r, hr⟩ : ∃ r, rs[j]? = some r := ⟨_, List.getElem?_eq_getElem hlt⟩
          have hsx := HL.out.size
          have hcj := bl_cell HL.out (p := ⟨b, j, none⟩) hb (HC.out j r hr)
          have HIJ := Lib.hid ((HI.out j r hr).below HL.out)
          have hln := (HI.out j r hr).1
          have htk := catM_take rs j r hr
          have hle := catM_le rs (j + 1)
          have hsum : (catM (rs.take (j + 1))).length = (catM (rs.take j)).length + r.2.1 := by rw [htk, List.length_append, hln]
          have hb2 : (catM (rs.take j)).length + r.2.1 ≤ 140737488355328 := by rw [htk, List.length_append] at hle; omega
          have HS := Lib.hid (And.intro hsum htk)
          clear hr hln htk hle hsum
          obtain ⟨ra, rl, rc, rb⟩ := r
          simp only at hcj hb2 HS HIJ
          obtain ⟨ub, ucp, rfl, _⟩ := own_slice HO.out
          go_wp2_with (first | (at_builtin; refine wpList_append_bytes rfl _ _ rfl w.heap.size _ _ _ rfl HO.out _ _ _ _ rfl HIJ.out hb2 hsx ?_; intro v7 w7 hown hgrow; have HO7 := Lib.hid hown; have HL7 := Lib.hid (HL.out.grown hgrow hsx (own_base HO.out)); clear hown hgrow) | fail)
          rw [← HS.out.1, ← HS.out.2] at HO7
          go_roundw
          case rel => exact ⟨j + 1, by go_num, by omega, HL7, HO7⟩
          case measure => simp [intOf]; omega
        · obtain rfl : j = rs.length := by omega
          rw [List.take_length] at HO
          go_wp2_with fail
          go_ret
          exact ⟨_, rfl, HL.out, HO.out⟩
end Go.Proofs.Ytgjfhfjlegkhbaa
