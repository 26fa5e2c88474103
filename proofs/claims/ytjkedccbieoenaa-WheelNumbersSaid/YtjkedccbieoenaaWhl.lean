/- wheel: where a timer stands. -/
import Derived.Test.YtjkedccbieoenaaBook
import Derived.Test.YtjkedccbieoenaaRowst
import Derived.Deep.DeepCutAuto
import Derived.Deep.CutBlock
namespace Go.Proofs.Ytjkedccbieoenaa
open Go.RowKit
set_option linter.unusedVariables false
set_option linter.unusedSimpArgs false

/-- which row a timer stands in: 256 is behind all wheels. -/
def placeM (now t : Int) : Nat :=
  if t - now < 64 then (t % 64).toNat else if t / 64 - now / 64 < 64 then 64 + (t / 64 % 64).toNat else if t / 4096 - now / 4096 < 64 then 128 + (t / 4096 % 64).toNat else if t / 262144 - now / 262144 < 64 then 192 + (t / 262144 % 64).toNat else 256
theorem and63 (k : Int) : bits .and .i64 k 63 = k % 64 := by
  show IntKind.i64.wrap ((BitVec.ofInt 64 k &&& BitVec.ofInt 64 63).toNat : Int) = _
  have h1 : (BitVec.ofInt 64 k &&& BitVec.ofInt 64 63).toNat = (BitVec.ofInt 64 k).toNat % 64 := by
    rw [BitVec.toNat_and]; exact Nat.and_two_pow_sub_one_eq_mod _ 6
  rw [h1, BitVec.toNat_ofInt]
  have h2 := Int.emod_nonneg k (show (64 : Int) ≠ 0 by omega)
  have h3 := Int.emod_lt_of_pos k (show (0 : Int) < 64 by omega)
  rw [IntKind.wrap_i64]
  have h4 : ((k % ((2 ^ 64 : Nat) : Int)).toNat : Int) = k % 18446744073709551616 := by
    rw [Int.toNat_of_nonneg (Int.emod_nonneg _ (by decide))]; rfl
  omega
theorem placeM_lt (now t : Int) : placeM now t < 257 := by
  unfold placeM; (repeat' split) <;> omega
set_option maxRecDepth 100000 in
set_option maxHeartbeats 4000000 in
theorem list_any (w : World) (p : Nat) (now t : Int) (h0 : 0 ≤ now ∧ now ≤ 1099511627776) (h1 : 0 ≤ t ∧ t ≤ 1125899906842624) (hc : w.cell? ⟨p, 0, none⟩ = some (.int .i64 now)) :
    Quiet Try.prog 25 #[.pointer (some ⟨p, 0, none⟩), .int .i64 t] w (.pointer (some ⟨p, 1 + placeM now t, none⟩)) := by
  obtain ⟨h00, h01⟩ := h0
  obtain ⟨h10, h11⟩ := h1
  have HP : Hid (placeM now t = if t - now < 64 then (t % 64).toNat else if t / 64 - now / 64 < 64 then 64 + (t / 64 % 64).toNat else if t / 4096 - now / 4096 < 64 then 128 + (t / 4096 % 64).toNat else if t / 262144 - now / 262144 < 64 then 192 + (t / 262144 % 64).toNat else 256) := Lib.hid rfl
  generalize placeM now t = j at HP ⊢
  go_enter Try.func25, Try.ntmps25
  go_wp2_with fail
  refine wp_loop_rounds 5 ?_
  have e0 : IntKind.i64.wrap 0 = 0 := rfl
  have e6 : IntKind.i64.wrap 6 = 6 := rfl
  have e12 : IntKind.i64.wrap 12 = 12 := rfl
  have e18 : IntKind.i64.wrap 18 = 18 := rfl
  rw [rounds_succ]
  go_upto_region 4 with fail
  go_quiet (fail)
  by_cases c0 : t - now < 64
  · skip
    have hj := HP.out
    rw [if_pos (show t - now < 64 by omega)] at hj
    have HJ := Lib.hid hj
    clear hj HP
    go_upto_region 5 with fail
    have ea := and63 (t)
    have eb : 0 ≤ t % 64 ∧ t % 64 < 64 := by omega
    obtain ⟨b, hb⟩ : ∃ b : Nat, t % 64 = b := ⟨(t % 64).toNat, by omega⟩
    rw [hb] at ea eb HJ
    obtain ⟨_, eb⟩ := eb
    have hj2 : 1 + j = 1 + b := by have := HJ.out; omega
    replace HJ := Lib.hid hj2
    clear hb hj2
    go_quiet (fail)
    go_wp2_with fail
    go_ret
    exact ⟨by rw [HJ.out]; rfl, by first | exact ⟨_, rfl⟩ | (simp only [World.drewN_drewN]; exact ⟨_, rfl⟩)⟩
  go_wp2_with fail
  rw [rounds_succ]
  go_upto_region 4 with fail
  go_quiet (fail)
  by_cases c1 : t / 64 - now / 64 < 64
  · skip
    have hj := HP.out
    rw [if_neg (show ¬ t - now < 64 by omega)] at hj
    rw [if_pos (show t / 64 - now / 64 < 64 by omega)] at hj
    have HJ := Lib.hid hj
    clear hj HP
    go_upto_region 5 with fail
    have ea := and63 (t / 64)
    have eb : 0 ≤ t / 64 % 64 ∧ t / 64 % 64 < 64 := by omega
    obtain ⟨b, hb⟩ : ∃ b : Nat, t / 64 % 64 = b := ⟨(t / 64 % 64).toNat, by omega⟩
    rw [hb] at ea eb HJ
    obtain ⟨_, eb⟩ := eb
    have hj2 : 1 + j = 65 + b := by have := HJ.out; omega
    replace HJ := Lib.hid hj2
    clear hb hj2
    go_quiet (fail)
    go_wp2_with fail
    go_ret
    exact ⟨by rw [HJ.out]; rfl, by first | exact ⟨_, rfl⟩ | (simp only [World.drewN_drewN]; exact ⟨_, rfl⟩)⟩
  go_wp2_with fail
  rw [rounds_succ]
  go_upto_region 4 with fail
  go_quiet (fail)
  by_cases c2 : t / 4096 - now / 4096 < 64
  · skip
    have hj := HP.out
    rw [if_neg (show ¬ t - now < 64 by omega)] at hj
    rw [if_neg (show ¬ t / 64 - now / 64 < 64 by omega)] at hj
    rw [if_pos (show t / 4096 - now / 4096 < 64 by omega)] at hj
    have HJ := Lib.hid hj
    clear hj HP
    go_upto_region 5 with fail
    have ea := and63 (t / 4096)
    have eb : 0 ≤ t / 4096 % 64 ∧ t / 4096 % 64 < 64 := by omega
    obtain ⟨b, hb⟩ : ∃ b : Nat, t / 4096 % 64 = b := ⟨(t / 4096 % 64).toNat, by omega⟩
    rw [hb] at ea eb HJ
    obtain ⟨_, eb⟩ := eb
    have hj2 : 1 + j = 129 + b := by have := HJ.out; omega
    replace HJ := Lib.hid hj2
    clear hb hj2
    go_quiet (fail)
    go_wp2_with fail
    go_ret
    exact ⟨by rw [HJ.out]; rfl, by first | exact ⟨_, rfl⟩ | (simp only [World.drewN_drewN]; exact ⟨_, rfl⟩)⟩
  go_wp2_with fail
  rw [rounds_succ]
  go_upto_region 4 with fail
  go_quiet (fail)
  by_cases c3 : t / 262144 - now / 262144 < 64
  · skip
    have hj := HP.out
    rw [if_neg (show ¬ t - now < 64 by omega)] at hj
    rw [if_neg (show ¬ t / 64 - now / 64 < 64 by omega)] at hj
    rw [if_neg (show ¬ t / 4096 - now / 4096 < 64 by omega)] at hj
    rw [if_pos (show t / 262144 - now / 262144 < 64 by omega)] at hj
    have HJ := Lib.hid hj
    clear hj HP
    go_upto_region 5 with fail
    have ea := and63 (t / 262144)
    have eb : 0 ≤ t / 262144 % 64 ∧ t / 262144 % 64 < 64 := by omega
    obtain ⟨b, hb⟩ : ∃ b : Nat, t / 262144 % 64 = b := ⟨(t / 262144 % 64).toNat, by omega⟩
    rw [hb] at ea eb HJ
    obtain ⟨_, eb⟩ := eb
    have hj2 : 1 + j = 193 + b := by have := HJ.out; omega
    replace HJ := Lib.hid hj2
    clear hb hj2
    go_quiet (fail)
    go_wp2_with fail
    go_ret
    exact ⟨by rw [HJ.out]; rfl, by first | exact ⟨_, rfl⟩ | (simp only [World.drewN_drewN]; exact ⟨_, rfl⟩)⟩
  go_wp2_with fail
  have hj := HP.out
  rw [if_neg (show ¬ t - now < 64 by omega)] at hj
  rw [if_neg (show ¬ t / 64 - now / 64 < 64 by omega)] at hj
  rw [if_neg (show ¬ t / 4096 - now / 4096 < 64 by omega)] at hj
  rw [if_neg (show ¬ t / 262144 - now / 262144 < 64 by omega)] at hj
  subst hj
  clear HP
  rw [rounds_succ]
  go_wp2_with fail
  go_ret
  exact ⟨rfl, by first | exact ⟨_, rfl⟩ | (simp only [World.drewN_drewN]; exact ⟨_, rfl⟩)⟩
end Go.Proofs.Ytjkedccbieoenaa
