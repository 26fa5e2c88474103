/- contract of bits' reference: Get. -/
import Derived.Test.YtlpajohhnngbmaaGet
namespace Go.Proofs.Ytlpajohhnngbmaa
open Go.RowKit
set_option linter.unusedVariables false

theorem pow_le8 (j k : Nat) (h : j ≤ k) : (256 : Int) ^ j ≤ 256 ^ k := by
  have h2 : (256 : Nat) ^ j ≤ 256 ^ k := Nat.pow_le_pow_right (by decide) h
  have h3 : ((256 ^ j : Nat) : Int) ≤ ((256 ^ k : Nat) : Int) := Int.ofNat_le.2 h2
  simpa using h3
set_option maxRecDepth 10000 in
theorem rget_any (w : World) (a : Option Addr) (len cap : Nat) (bs : List Int) (hlen : len ≤ 140737488355328) (hcap : len ≤ cap) (hI : IntsK .u8 w a len bs) :
    Calls Try.prog 77 #[.slice a len cap] w fun e w' => e = .returned (.tuple #[.int .u64 (getN bs), .int .i64 (getS bs)]) ∧ w' = w := by
  have hl := hI.1
  have HI := Lib.hid hI
  cases bs with
  | nil =>
    simp at hl; subst hl
    go_enter Try.func77, Try.ntmps77
    go_wp2_with fail
    go_ret2
    exact ⟨rfl, rfl⟩
  | cons b t =>
    have hb : 0 ≤ b ∧ b ≤ 255 := bounds_u8 (hI.2.1 b (by simp))
    have ht : ∀ x ∈ t, 0 ≤ x ∧ x ≤ 255 := fun x hx => bounds_u8 (hI.2.1 x (by simp [hx]))
    rcases hI.2.2 with h0 | ⟨ba, off, rfl, hbl, hc⟩
    · simp at hl; omega
    · have hlen1 : 1 ≤ len := by simp at hl; omega
      have hc0 : w.cell? ⟨ba, off, none⟩ = some (.int .u8 b) := by have := hc 0 (by omega); simpa using this
      have hss := szM_cases hb
      have hsh : wrap64 (2 ^ (b / 64).toNat) = (szM b : Int) := by
        rcases hss with ⟨h, e⟩ | ⟨h, e⟩ | ⟨h, e⟩ | ⟨h, e⟩ <;> rw [h, e] <;> decide +kernel
      have hgN : getN (b :: t) = if len < szM b then 0 else valM (b % 64) (t.take (szM b - 1)) := by rw [← hl]; rfl
      have hgS : getS (b :: t) = if len < szM b then 0 else szM b := by rw [← hl]; rfl
      have hand : bits .and .u8 b 63 = b % 64 := by
        rw [u8_and _ _ hb.1 (by omega) (by omega) (by omega), show (63 : Int).toNat = 63 from rfl, nat_mask6]; omega
      have hcj : ∀ j, 1 ≤ j → j < len → ∃ x, t[j - 1]? = some x ∧ 0 ≤ x ∧ x ≤ 255 ∧ w.cell? ⟨ba, off + j, none⟩ = some (.int .u8 x) := fun j h1 h2 => by
        have h3 : j - 1 < t.length := by simp at hl; omega
        refine ⟨t[j - 1], List.getElem?_eq_getElem h3, (ht _ (List.getElem_mem h3)).1, (ht _ (List.getElem_mem h3)).2, ?_⟩
        have h4 := hc j h2
        obtain ⟨j', rfl⟩ : ∃ j', j = j' + 1 := ⟨j - 1, by omega⟩
        rw [List.getD_cons_succ, List.getD_eq_getElem?_getD, List.getElem?_eq_getElem (by omega)] at h4
        exact h4
      obtain ⟨s, es⟩ : ∃ s, szM b = s := ⟨_, rfl⟩
      rw [es] at hss hsh hgN hgS
      have HSH := Lib.hid hsh; have HGN := Lib.hid hgN; have HGS := Lib.hid hgS; have HT := Lib.hid ht; have HCJ := Lib.hid hcj; have HAND := Lib.hid hand
      have hlt1 : t.length + 1 = len := by rw [← hl]; rfl
      have hs8 : 1 ≤ s ∧ s ≤ 8 := by omega
      clear hsh hgN hgS es hss hc hcj ht hI HI hl hand
      obtain ⟨bs, ebs⟩ : ∃ bs, b :: t = bs := ⟨_, rfl⟩
      rw [ebs] at HGN HGS ⊢
      clear ebs
      go_enter Try.func77, Try.ntmps77
      go_upto_region 4 with fail
      rw [HSH.out]
      by_cases hls : len < s
      · have E1 := HGN.out; have E2 := HGS.out
        rw [if_pos hls] at E1 E2
        replace E1 := Lib.hid E1; replace E2 := Lib.hid E2
        go_wp2_with fail
        go_ret2
        exact ⟨by rw [E1.out, E2.out]; rfl, rfl⟩
      · have E1 := HGN.out; have E2 := HGS.out
        rw [if_neg hls] at E1 E2
        replace E1 := Lib.hid E1; replace E2 := Lib.hid E2
        clear HGN HGS
        generalize ((len : Int) == 0) = q9
        go_wp2_with fail
        obtain ⟨i0, ei0⟩ : ∃ i0, b % 64 = i0 := ⟨_, rfl⟩
        have hi0 : 0 ≤ i0 ∧ i0 ≤ 63 := by omega
        rw [ei0] at E1 ⊢
        clear HAND ei0 hc0
        go_loop [5, 6] (fun s5 s6 => ∃ j : Nat, s6 = .int .i64 j ∧ 1 ≤ j ∧ j ≤ s ∧ s5 = .int .u64 (valM i0 (t.take (j - 1)))) (fun _ s6 => s - (intOf s6).toNat)
        case atStart => exact ⟨1, rfl, by omega, by omega, rfl⟩
        case round =>
          obtain ⟨j, rfl, hj1, hj, rfl⟩ := hrel
          by_cases hlt : j < s
          · obtain ⟨x, hx, hx0, hx1, hcx⟩ := HCJ.out j hj1 (by omega)
            have hin := valM_in i0 (by omega) (t.take (j - 1)) (fun x hx => HT.out x (List.mem_of_mem_take hx))
            have hlj : (t.take (j - 1)).length = j - 1 := by rw [List.length_take]; omega
            rw [hlj] at hin
            have hp := pow_le8 (j - 1) 6 (by omega)
            rw [show (256 : Int) ^ 6 = 281474976710656 from by decide] at hp
            have hp0 : (0 : Int) < 256 ^ (j - 1) := Int.pow_pos (by decide)
            have hub : (i0 + 1) * 256 ^ (j - 1) ≤ 64 * 281474976710656 := Int.mul_le_mul (by omega) hp (by omega) (by omega)
            have hlb : 0 ≤ i0 * 256 ^ (j - 1) := Int.mul_nonneg (by omega) (by omega)
            have hsn : valM i0 (t.take (j + 1 - 1)) = valM i0 (t.take (j - 1)) * 256 + x := by
              rw [show j + 1 - 1 = (j - 1) + 1 by omega, List.take_add_one, hx, ← valM_snoc]; rfl
            obtain ⟨acc, eacc⟩ : ∃ acc, valM i0 (t.take (j - 1)) = acc := ⟨_, rfl⟩
            rw [eacc] at hin hsn ⊢
            have hna : bits .or .u64 (IntKind.u64.wrap (acc * 256)) x = acc * 256 + x := numStep_add (by omega) (by omega) hx0 (by omega)
            have HNA := Lib.hid hna; have HSN := Lib.hid hsn
            clear hx hna hsn eacc hin hp hub hlb hp0
            go_wp2_with fail
            rw [HNA.out]
            go_round
            case rel => exact ⟨j + 1, by go_num, by omega, by omega, by rw [HSN.out]⟩
            case measure => simp [intOf]; omega
          · obtain rfl : j = s := by omega
            go_wp2_with fail
            go_ret2
            exact ⟨by rw [E1.out, E2.out]; rfl, rfl⟩
end Go.Proofs.Ytlpajohhnngbmaa
