/- chapter 8's walks: LockTurns. -/
import Derived.Test.YtgjfhfjlegkhbaaLockA
namespace Go.Proofs.Ytgjfhfjlegkhbaa
open Go.RowKit
set_option linter.unusedVariables false

set_option maxHeartbeats 4000000 in
theorem turns8_any (w : World) (key n : Int) (ha : Option Addr) (hl hc : Nat) (hs : List Int) (xa : Option Addr) (xl xc : Nat) (xs : List Int) (ya : Option Addr) (yl yc : Nat) (ys : List Int) (hn : (Lit.int .u64 n).wf = true)
    (hlc : hl ≤ hc) (hcm : hc ≤ 140737488351232) (hH : IntsK .u8 w ha hl hs) (hxc : xl ≤ xc) (hxm : xc ≤ 9223372036854775807) (hX : IntsK .u8 w xa xl xs) (hyc : yl ≤ yc) (hym : yc ≤ 9223372036854775807) (hY : IntsK .u8 w ya yl ys) :
    Makes Try.prog 4 #[.int .u64 key, .int .u64 n, .slice ha hl hc, .slice xa xl xc, .slice ya yl yc] w (.bool true) := by
  have HH := Lib.hid hH; have HX := Lib.hid (hX.pre (min xl 60) (by omega)); have HY := Lib.hid (hY.pre (min yl 60) (by omega)); have HN := Lib.hid hn
  generalize xs.take (min xl 60) = xs' at HX
  generalize ys.take (min yl 60) = ys' at HY
  clear hH hX hY hn
  go_enter Try.func4, Try.ntmps4
  go_wp2_with fail
  refine Calls.mono (cut_any w xa xl xc 60 hxc hxm) ?_
  rintro e w1 ⟨rfl, rfl⟩
  go_wp2_with fail
  refine Calls.mono (cut_any w ya yl yc 60 hyc hym) ?_
  rintro e w1 ⟨rfl, rfl⟩
  have hpb : min xl 60 ≤ 60 := by omega
  have hpc : min xl 60 ≤ xc := by omega
  have hqb : min yl 60 ≤ 60 := by omega
  have hqc : min yl 60 ≤ yc := by omega
  generalize min xl 60 = p at *
  generalize min yl 60 = q at *
  go_upto_region 3 with fail
  obtain ⟨k, hk, hkp, hkq⟩ : ∃ k : Nat, (if q < p then (q : Int) else p) = k ∧ k ≤ p ∧ k ≤ q := by
    by_cases h : q < p
    · exact ⟨q, if_pos h, by omega, by omega⟩
    · exact ⟨p, if_neg h, by omega, by omega⟩
  rw [hk]
  clear hk
  go_wp2_with fail
  refine Calls.mono (seal_any w key n ha hl hc hs xa p xc xs' HN.out (by omega) (by omega) HH.out HX.out) ?_
  rintro e w2 ⟨v2, rfl, hb2, ho2⟩
  obtain ⟨b2, cp2, rfl, hc2, hi2, _⟩ := ints_of_own ho2 (sealM_wf _ _ _ _ HX.out.2.1)
  have hcm2 := own_cap8 ho2 _ _ _ rfl
  have HB2 := Lib.hid hb2
  have HI2 := Lib.hid hi2
  clear hb2 ho2 hi2
  go_wp2_with fail
  refine Calls.mono (seal_any w2 key n ha hl hc hs ya q yc ys' HN.out (by omega) (by omega) (HH.out.below HB2.out) (HY.out.below HB2.out)) ?_
  rintro e w3 ⟨v3, rfl, hb3, ho3⟩
  obtain ⟨b3, cp3, rfl, hc3, hi3, _⟩ := ints_of_own ho3 (sealM_wf _ _ _ _ HY.out.2.1)
  have hcm3 := own_cap8 ho3 _ _ _ rfl
  have HB3 := Lib.hid (bl_next HB2.out HB2.out.size hb3)
  have HI3 := Lib.hid hi3
  have HI2' := Lib.hid (HI2.out.below hb3)
  clear hb3 ho3 hi3 HI2 HB2
  have HHW := Lib.hid (HH.out.below HB3.out)
  have HXW := Lib.hid (HX.out.below HB3.out)
  have HYW := Lib.hid (HY.out.below HB3.out)
  clear HH HX HY
  go_wp2_with fail
  go_loopw [14] (fun s14 wr => ∃ j n : Nat, s14 = .int .i64 j ∧ j ≤ k ∧ Hid (wr = w3.drewN n)) (fun s14 _ => k - (intOf s14).toNat)
  case atStart => exact ⟨0, 0, rfl, by omega, Lib.hid rfl⟩
  case round =>
    obtain ⟨j, m, rfl, hj, hwr⟩ := hrel
    obtain rfl := hwr.out
    by_cases hlt : j < k
    · obtain ⟨b4, o4, x4, rfl, hbl4, hx4, hwx4, hc4⟩ := HI2'.out.at (Below.refl _ _) (j := j) (by omega)
      obtain ⟨b5, o5, x5, rfl, hbl5, hx5, hwx5, hc5⟩ := HI3.out.at (Below.refl _ _) (j := j) (by omega)
      obtain ⟨b6, o6, x6, rfl, hbl6, hx6, hwx6, hc6⟩ := HXW.out.at (Below.refl _ _) (j := j) (by omega)
      obtain ⟨b7, o7, x7, rfl, hbl7, hx7, hwx7, hc7⟩ := HYW.out.at (Below.refl _ _) (j := j) (by omega)
      have heq : bits .xor .u8 x4 x5 = bits .xor .u8 x6 x7 := by
        have h1 := HXW.out.1
        have h2 := HYW.out.1
        rw [hx4, hx5, hx6, hx7, List.getD_eq_getElem?_getD, sealM_at _ _ _ _ _ (by omega), List.getD_eq_getElem?_getD (l := sealM _ _ _ _), sealM_at _ _ _ _ _ (by omega)]
        exact turned_both key n xs' ys' HXW.out.2.1 HYW.out.2.1 j (by omega) (by omega)
      have hne : (bits .xor .u8 x4 x5 != bits .xor .u8 x6 x7) = false := by rw [heq, bne_self_eq_false]
      have hc4' : (w3.drewN m).cell? ⟨b4, o4 + j, none⟩ = some (.int .u8 x4) := hc4
      have hc5' : (w3.drewN m).cell? ⟨b5, o5 + j, none⟩ = some (.int .u8 x5) := hc5
      have hc6' : (w3.drewN m).cell? ⟨b6, o6 + j, none⟩ = some (.int .u8 x6) := hc6
      have hc7' : (w3.drewN m).cell? ⟨b7, o7 + j, none⟩ = some (.int .u8 x7) := hc7
      clear heq hx4 hx5 hx6 hx7 hwx4 hwx5 hwx6 hwx7
      go_wp2_with fail
      go_quiet (fail)
      show Exit.then _ _ _ _ _
      go_wp2_with fail
      go_roundw
      case rel => exact ⟨j + 1, m + nq, by go_num, by omega, Lib.hid (by first | rfl | rw [World.drewN_drewN])⟩
      case measure => simp [intOf]; omega
    · obtain rfl : j = k := by omega
      clear hlt hj
      have HPW := Lib.hid ((HXW.out.pre j hkp).drewN m)
      go_upto_region 12 with fail
      refine Calls.mono (seal_any (w3.drewN m) key n ha hl hc hs xa j xc (xs'.take j) HN.out (by omega) (by omega) (HHW.out.drewN m) HPW.out) ?_
      rintro e w4 ⟨v4, rfl, hb4, ho4⟩
      obtain ⟨b4, cp4, rfl, hc4, hi4, _⟩ := ints_of_own ho4 (sealM_wf _ _ _ _ HPW.out.2.1)
      have hcm4 := own_cap8 ho4 _ _ _ rfl
      have HB4 := Lib.hid (bl_next (bl_drewN HB3.out m) (by simpa using HB3.out.size) hb4)
      have hp4 := hi4.pre j (by omega)
      have hp2 := (HI2'.out.drewN m).below hb4 |>.pre j (by omega)
      rw [sealM_take _ _ _ _ _ (by rw [HPW.out.1]; exact Nat.le_refl _), List.take_take, Nat.min_self] at hp4
      rw [sealM_take _ _ _ _ _ (by rw [HXW.out.1]; exact hkp)] at hp2
      have HP4 := Lib.hid hp4; have HP2 := Lib.hid hp2
      clear hb4 ho4 hi4 hp4 hp2 HI2' HI3 HHW HXW HYW HB3
      go_upto_region 12 with fail
      have hconv1 : ∀ s : In (fun y => Below w4.heap.size w4 y), (convert 23 9 (.slice b4 j cp4)).run Try.prog s.w = .ok (.string (strOfNums (turnedM key n (xs'.take j)))) s.w := fun s =>
        conv_ints _ 5 _ _ Try.underlying23 Try.underlying5 Try.underlying9 (HP4.out.below s.h)
      have hconv2 : ∀ s : In (fun y => Below w4.heap.size w4 y), (convert 23 9 (.slice b2 j cp2)).run Try.prog s.w = .ok (.string (strOfNums (turnedM key n (xs'.take j)))) s.w := fun s =>
        conv_ints _ 5 _ _ Try.underlying23 Try.underlying5 Try.underlying9 (HP2.out.below s.h)
      refine wp_plan (.t 0 (.t 1 (.t 2 (.t 3 (.t 4 (.t 5 (.t 6 (.t 7 (.t 8 (.t 9 (.t 10 (.t 11 (.t 12 (.t 13 (.t 14 (.t 15 (.t 16 (.u 17 (.t 18 (.t 19 .done)))))))))))))))))))) (fun y => Below w4.heap.size w4 y) (by kernel_rfl) (by kernel_rfl) (by kernel_rfl) (fun c a d v w h => by cases d <;> exact h) (Below.refl _ _).drew ?_
      have hS : Below w4.heap.size w4 w4.drew := (Below.refl _ _).drew
      generalize w4.drew = W1 at hS ⊢
      haveI hne : Nonempty (In fun y => Below w4.heap.size w4 y) := ⟨⟨w4, Below.refl _ _⟩⟩
      repeat (refine plan_t (by rfl) ?_; (first | go_big_quiet_skip | (go_big_quiet_want; go_big_quiet_op; go_big_quiet_on)); refine wpQuiet_nil ?_)
      refine plan_us (by rfl) (by kernel_rfl) ?_
      intro K hK
      go_wp2_with fail
      refine Calls.mono (known8_any _) ?_
      rintro e W2 ⟨rfl, hb⟩
      replace hS := bl_next hS hS.size hb; clear hb
      go_wp2_with fail
      refine ⟨hS, ?_⟩
      repeat (refine plan_t (by rfl) ?_; (first | go_big_quiet_skip | (go_big_quiet_want; go_big_quiet_op; go_big_quiet_on)); refine wpQuiet_nil ?_)
      show Exit.then _ _ _ _ _
      go_wp2_with fail
      go_ret
      exact ⟨rfl, bl_next HB4.out HB4.out.size hS⟩
end Go.Proofs.Ytgjfhfjlegkhbaa
