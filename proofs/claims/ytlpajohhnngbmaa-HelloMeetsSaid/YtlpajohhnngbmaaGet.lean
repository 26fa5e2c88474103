/- contracts of bits.GetVar and of its reference. -/
import Derived.Test.YtlpajohhnngbmaaBits
namespace Go.Proofs.Ytlpajohhnngbmaa
open Go.RowKit
set_option linter.unusedVariables false

def valM (init : Int) (l : List Int) : Int := l.foldl (fun n c => n * 256 + c) init
theorem valM_cons (i b : Int) (l : List Int) : valM i (b :: l) = valM (i * 256 + b) l := rfl
theorem valM_snoc (i : Int) (l : List Int) (x : Int) : valM i (l ++ [x]) = valM i l * 256 + x := by simp [valM, List.foldl_append]
theorem valM_in (i : Int) (hi : 0 ≤ i) : ∀ (l : List Int), (∀ x ∈ l, 0 ≤ x ∧ x ≤ 255) → i * 256 ^ l.length ≤ valM i l ∧ valM i l + 1 ≤ (i + 1) * 256 ^ l.length
  | [], _ => by simp [valM]
  | b :: l, h => by
    have hb := h b (by simp)
    have ih := valM_in (i * 256 + b) (by omega) l (fun x hx => h x (by simp [hx]))
    rw [valM_cons, List.length_cons, Int.pow_succ]
    have hp : (0 : Int) < 256 ^ l.length := Int.pow_pos (by decide)
    obtain ⟨P, eP⟩ : ∃ P : Int, 256 ^ l.length = P := ⟨_, rfl⟩
    rw [eP] at ih hp ⊢
    have h1 : i * (P * 256) ≤ (i * 256 + b) * P := by
      rw [Int.add_mul, Int.mul_comm P 256, ← Int.mul_assoc]; have := Int.mul_nonneg hb.1 (show 0 ≤ P by omega); omega
    have h2 : (i * 256 + b + 1) * P ≤ (i + 1) * (P * 256) := by
      rw [Int.mul_comm P 256, ← Int.mul_assoc]
      exact Int.mul_le_mul_of_nonneg_right (by omega) (by omega)
    omega
theorem valM_shift (i : Int) : ∀ (l : List Int), valM i l = i * 256 ^ l.length + valM 0 l
  | [] => by simp [valM]
  | b :: l => by
    rw [valM_cons, valM_cons, valM_shift (i * 256 + b) l, valM_shift (0 * 256 + b) l, List.length_cons, Int.pow_succ, Int.add_mul, Int.mul_comm (256 ^ l.length) 256, ← Int.mul_assoc]
    simp; omega
/-- how many bytes: of the first byte -/
def szM (b : Int) : Nat := if b / 64 = 0 then 1 else if b / 64 = 1 then 2 else if b / 64 = 2 then 4 else 8
def getN (bs : List Int) : Int := match bs with | [] => 0 | b :: t => if (b :: t).length < szM b then 0 else valM (b % 64) (t.take (szM b - 1))
def getS (bs : List Int) : Nat := match bs with | [] => 0 | b :: t => if (b :: t).length < szM b then 0 else szM b
theorem szM_cases {b : Int} (h : 0 ≤ b ∧ b ≤ 255) : (b / 64 = 0 ∧ szM b = 1) ∨ (b / 64 = 1 ∧ szM b = 2) ∨ (b / 64 = 2 ∧ szM b = 4) ∨ (b / 64 = 3 ∧ szM b = 8) := by
  unfold szM; (repeat' split) <;> omega
theorem get_law {b : Int} {t : List Int} (hb : 0 ≤ b ∧ b ≤ 255) (ht : ∀ x ∈ t, 0 ≤ x ∧ x ≤ 255) (hl : szM b ≤ t.length + 1) : lowM (valM 0 ((b :: t).take (szM b))) (8 * szM b - 2) = valM (b % 64) (t.take (szM b - 1)) := by
  have h0 : (b :: t).take (szM b) = b :: t.take (szM b - 1) := by
    rcases szM_cases hb with ⟨_, e⟩ | ⟨_, e⟩ | ⟨_, e⟩ | ⟨_, e⟩ <;> rw [e] <;> rfl
  rw [h0, valM_cons]
  have hl2 : (t.take (szM b - 1)).length = szM b - 1 := by rw [List.length_take]; omega
  have hin := valM_in 0 (by omega) (t.take (szM b - 1)) (fun x hx => ht x (List.mem_of_mem_take hx))
  rw [valM_shift (0 * 256 + b), valM_shift (b % 64), hl2]
  rw [hl2] at hin
  rcases szM_cases hb with ⟨_, e⟩ | ⟨_, e⟩ | ⟨_, e⟩ | ⟨_, e⟩ <;> rw [e] at hin ⊢ <;> simp [lowM] at hin ⊢ <;> omega

set_option maxRecDepth 10000 in
theorem get_any (w : World) (a : Option Addr) (len cap : Nat) (bs : List Int) (hlen : len ≤ 140737488355328) (hcap : len ≤ cap) (hI : IntsK .u8 w a len bs) :
    Calls Try.prog 80 #[.slice a len cap] w fun e w' => e = .returned (.tuple #[.int .u64 (getN bs), .int .i64 (getS bs)]) ∧ w' = w := by
  have hl := hI.1
  have HI := Lib.hid hI
  cases bs with
  | nil =>
    simp at hl; subst hl
    go_enter Try.func80, Try.ntmps80
    go_wp2_with fail
    go_ret2
    exact ⟨rfl, rfl⟩
  | cons b t =>
    have hb : 0 ≤ b ∧ b ≤ 255 := bounds_u8 (hI.2.1 b (by simp))
    have ht : ∀ x ∈ t, 0 ≤ x ∧ x ≤ 255 := fun x hx => bounds_u8 (hI.2.1 x (by simp [hx]))
    rcases hI.2.2 with h0 | ⟨ba, off, rfl, hbl, hc⟩
    · simp at hl; omega
    · have hlen1 : 1 ≤ len := by simp at hl; omega
      have hc0 : w.cell? ⟨ba, off, none⟩ = some (.int .u8 b) := by have := hc 0 (by omega); simpa using this
      have HC := Lib.hid hc
      clear hc hI
      have hss := szM_cases hb
      have hsh : wrap64 (2 ^ (b / 64).toNat) = (szM b : Int) := by
        rcases hss with ⟨h, e⟩ | ⟨h, e⟩ | ⟨h, e⟩ | ⟨h, e⟩ <;> rw [h, e] <;> decide +kernel
      have hlaw := get_law hb ht
      have hgN : getN (b :: t) = if len < szM b then 0 else valM (b % 64) (t.take (szM b - 1)) := by rw [← hl]; rfl
      have hgS : getS (b :: t) = if len < szM b then 0 else szM b := by rw [← hl]; rfl
      have hall : ∀ x ∈ b :: t, 0 ≤ x ∧ x ≤ 255 := fun x hx => bounds_u8 (HI.out.2.1 x hx)
      obtain ⟨s, es⟩ : ∃ s, szM b = s := ⟨_, rfl⟩
      rw [es] at hss hsh hlaw hgN hgS
      have HSH := Lib.hid hsh; have HGN := Lib.hid hgN; have HGS := Lib.hid hgS; have HLAW := Lib.hid hlaw; have HALL := Lib.hid hall
      have hl2 : (b :: t).length = len := hl
      have hs8 : 1 ≤ s ∧ s ≤ 8 := by omega
      clear hsh hgN hgS hlaw es hss hall
      have hlt1 : t.length + 1 = len := by rw [← hl]; rfl
      clear hl ht
      obtain ⟨bs, ebs⟩ : ∃ bs, b :: t = bs := ⟨_, rfl⟩
      rw [ebs] at HGN HGS HI hl2 HALL HLAW HC ⊢
      clear ebs
      go_enter Try.func80, Try.ntmps80
      go_upto_region 4 with fail
      rw [HSH.out]
      by_cases hls : len < s
      · have E1 := HGN.out; have E2 := HGS.out
        rw [if_pos hls] at E1 E2
        have E1 := Lib.hid E1; have E2 := Lib.hid E2
        go_wp2_with fail
        go_ret2
        exact ⟨by rw [E1.out, E2.out]; rfl, rfl⟩
      · have E1 := HGN.out; have E2 := HGS.out
        rw [if_neg hls] at E1 E2
        have E1 := Lib.hid E1; have E2 := Lib.hid E2
        clear HGN HGS hc0
        generalize ((len : Int) == 0) = q10
        go_wp2_with fail
        go_loop [5, 24] (fun s5 s24 => ∃ j : Nat, s24 = .int .i64 j ∧ j ≤ s ∧ s5 = .int .u64 (valM 0 (bs.take j))) (fun _ s24 => s - (intOf s24).toNat)
        case atStart => exact ⟨0, rfl, by omega, rfl⟩
        case round =>
          obtain ⟨j, rfl, hj, rfl⟩ := hrel
          by_cases hlt : j < s
          · obtain ⟨ba', off', x, e, _, hx, hwx, hcx⟩ := HI.out.at (Below.refl _ _) (j := j) (by omega)
            injection e with e; injection e with e1 e2 e3; subst e1; subst e2; clear e3
            have hx2 := bounds_u8 hwx
            have hin := valM_in 0 (by omega) (bs.take j) (fun x hx => HALL.out x (List.mem_of_mem_take hx))
            have hlj : (bs.take j).length = j := by rw [List.length_take, hl2]; omega
            rw [hlj] at hin
            have hp7 : (256 : Int) ^ j ≤ 256 ^ 7 := by
              have h2 : (256 : Nat) ^ j ≤ 256 ^ 7 := Nat.pow_le_pow_right (by decide) (by omega)
              exact_mod_cast h2
            rw [show (256 : Int) ^ 7 = 72057594037927936 from by decide] at hp7
            have hsn : valM 0 (bs.take (j + 1)) = valM 0 (bs.take j) * 256 + x := by
              rw [List.take_succ_eq_append_getElem (by omega), valM_snoc, hx, List.getD_eq_getElem?_getD, List.getElem?_eq_getElem (by omega)]; rfl
            obtain ⟨acc, eacc⟩ : ∃ acc, valM 0 (bs.take j) = acc := ⟨_, rfl⟩
            rw [eacc] at hin hsn ⊢
            have hna : bits .or .u64 (IntKind.u64.wrap (acc * 256)) x = acc * 256 + x := numStep_add (by omega) (by omega) hx2.1 (by omega)
            have hw : IntKind.u64.wrap (acc * 256) = acc * 256 := IntWalk.u64_in _ ⟨by omega, by omega⟩
            have HNA := Lib.hid hna; have HSN := Lib.hid hsn; have HW := Lib.hid hw
            clear hwx hx hna hsn eacc hin hp7 hw
            go_wp2_with fail
            rw [HNA.out]
            go_round
            case rel => exact ⟨j + 1, by go_num, by omega, by rw [HSN.out]⟩
            case measure => simp [intOf]; omega
          · obtain rfl : j = s := by omega
            have hin := valM_in 0 (by omega) (bs.take j) (fun x hx => HALL.out x (List.mem_of_mem_take hx))
            have hlj : (bs.take j).length = j := by rw [List.length_take, hl2]; omega
            rw [hlj] at hin
            have hp7 : (256 : Int) ^ j ≤ 256 ^ 8 := by
              have h2 : (256 : Nat) ^ j ≤ 256 ^ 8 := Nat.pow_le_pow_right (by decide) (by omega)
              exact_mod_cast h2
            rw [show (256 : Int) ^ 8 = 18446744073709551616 from by decide] at hp7
            have hbd : 0 ≤ valM 0 (bs.take j) ∧ valM 0 (bs.take j) < 18446744073709551616 := by omega
            clear hin hp7
            go_wp2_with fail
            refine Calls.mono (low_any _ _ (8 * j - 2) hbd) ?_
            rintro e w' ⟨rfl, rfl⟩
            rw [HLAW.out (by omega)]
            go_wp2_with fail
            go_ret2
            exact ⟨by rw [E1.out, E2.out]; rfl, rfl⟩
end Go.Proofs.Ytlpajohhnngbmaa
