/- contracts of octet's reader: Byte, Two, Var, Text, Left, Bad. -/
import Derived.Test.YtlpajohhnngbmaaOct2
namespace Go.Proofs.Ytlpajohhnngbmaa
open Go.RowKit
set_option linter.unusedVariables false

theorem rdM_len (bs : List Int) (bad : Bool) (n : Nat) : (rdM bs bad n).1 = [] ∨ (rdM bs bad n).1.length = n := by
  unfold rdM; split
  · exact .inl rfl
  · right; simp; omega

set_option maxRecDepth 10000 in
theorem or_u16 (x y : Int) (h0 : 0 ≤ x ∧ x ≤ 255) (h1 : 0 ≤ y ∧ y ≤ 255) : bits .or .u16 (x * 256) y = x * 256 + y := by
  rw [u16_or _ _ (by omega) (by omega) (by omega) (by omega), nat_join 8 (x * 256).toNat y.toNat (by omega) (by omega)]; omega
set_option maxRecDepth 10000 in
theorem or_u16z (x : Int) (h0 : 0 ≤ x ∧ x ≤ 255) : bits .or .u16 0 x = x := by
  rw [u16_or _ _ (by omega) (by omega) (by omega) (by omega), show (0 : Int).toNat = 0 from rfl, Nat.zero_or]; omega
theorem getS_le (bs : List Int) : getS bs ≤ bs.length := by
  cases bs with
  | nil => exact Nat.le_refl _
  | cons b t =>
    show (if (b :: t).length < szM b then 0 else szM b) ≤ _
    split <;> omega
set_option maxRecDepth 100000 in
theorem var_any (W0 w : World) (L p : Nat) (bs : List Int) (bad : Bool) (h : Rd W0 w L p 124 bs bad) :
    Calls Try.prog 68 #[.pointer (some ⟨p, 0, none⟩)] w fun e w' => e = .returned (.int .u64 (varM bs bad).1) ∧ Rd W0 w' L p 124 (varM bs bad).2.1 (varM bs bad).2.2 ∧ w.grownBy w' (some p) := by
  obtain ⟨a, len, cap, hr, h1, h2, h3, h4⟩ := h.ex
  have c0 : w.cell? ⟨p, 0, none⟩ = some (.slice a len cap) := row_cell hr 0 _ rfl
  have c1 : w.cell? ⟨p, 1, none⟩ = some (.bool bad) := row_cell hr 1 _ rfl
  have f0 := row_free hr 0
  have hl := h3.1
  have hsm := h.small
  have HR := Lib.hid h; have H3 := Lib.hid h3; have HROW := Lib.hid hr
  clear h h3 hr
  have hgs : getS bs ≤ bs.length := getS_le bs
  go_enter Try.func68, Try.ntmps68
  go_wp2_with fail
  refine Calls.mono (get_any w a len cap bs (by omega) h1 (HR.out.ints H3.out h4)) ?_
  rintro e w' ⟨rfl, rfl⟩
  by_cases hb : bad = true ∨ getS bs = 0
  · have HM : Hid (varM bs bad = (0, [], true)) := Lib.hid (if_pos hb)
    have HF := Lib.hid (fail_any W0 w' L p bs bad HR.out)
    have hb2 : bad = true ∨ (bad = false ∧ getS bs = 0) := by cases bad <;> simp at hb ⊢; exact hb
    clear hb f0
    rcases hb2 with rfl | ⟨rfl, h⟩
    · go_wp2_with fail
      refine Calls.mono HF.out ?_
      rintro e w' ⟨rfl, hR, hg⟩
      have HR2 := Lib.hid hR; have HG := Lib.hid hg
      clear hR hg
      go_wp2_with fail
      go_ret
      exact ⟨by rw [HM.out]; rfl, by rw [HM.out]; exact HR2.out, HG.out⟩
    · rw [h]
      go_wp2_with fail
      refine Calls.mono HF.out ?_
      rintro e w' ⟨rfl, hR, hg⟩
      have HR2 := Lib.hid hR; have HG := Lib.hid hg
      clear hR hg
      go_wp2_with fail
      go_ret
      exact ⟨by rw [HM.out]; rfl, by rw [HM.out]; exact HR2.out, HG.out⟩
  · have hb1 : bad = false := by cases bad <;> simp_all
    subst hb1
    have HM : Hid (varM bs false = (getN bs, bs.drop (getS bs), false)) := Lib.hid (if_neg hb)
    obtain ⟨s, es⟩ : ∃ s, getS bs = s := ⟨_, rfl⟩
    rw [es] at hgs HM ⊢
    have hs0 : s ≠ 0 := by rw [← es]; simp at hb; exact hb
    clear es hb
    have hsl : s ≤ len := by omega
    by_cases hlt : s < len
    · rcases H3.out.2.2 with h0 | ⟨ba, off, rfl, _, _⟩
      · omega
      · go_wp2_with fail
        go_ret
        refine ⟨by rw [HM.out]; rfl, ?_, grown_setCell _ _ _ _⟩
        rw [HM.out]
        exact HR.out.set (grown_setCell _ _ _ _) ((At.base HROW.out).set 0 _).row (by omega) (by omega) (by simp) (H3.out.rest s hsl _ fun _ => ⟨ba, off, rfl, rfl⟩) (fun x hx => by injection hx with hx; subst hx; exact h4 ⟨ba, off, none⟩ rfl)
    · obtain rfl : s = len := by omega
      go_wp2_with fail
      all_goals
        go_ret
        refine ⟨by rw [HM.out]; rfl, ?_, grown_setCell _ _ _ _⟩
        rw [HM.out]
        exact HR.out.set (grown_setCell _ _ _ _) ((At.base HROW.out).set 0 _).row (by omega) (by omega) (by simp) (by rw [show (getN bs, bs.drop s, false).2.1 = [] from List.drop_of_length_le (by omega)]; exact IntsK.nil _ _ _) (by first | exact h4 | exact low_rest h4)

set_option maxRecDepth 100000 in
theorem left_any (W0 w : World) (L p : Nat) (bs : List Int) (bad : Bool) (h : Rd W0 w L p 124 bs bad) :
    Calls Try.prog 67 #[.pointer (some ⟨p, 0, none⟩)] w fun e w' => e = .returned (.int .i64 bs.length) ∧ w' = w := by
  obtain ⟨a, len, cap, hr, h1, h2, h3, h4⟩ := h.ex
  have c0 : w.cell? ⟨p, 0, none⟩ = some (.slice a len cap) := row_cell hr 0 _ rfl
  have HL := Lib.hid h3.1
  clear h h3 hr
  go_enter Try.func67, Try.ntmps67
  go_wp2_with fail
  go_ret
  exact ⟨by rw [HL.out]; rfl, rfl⟩
set_option maxRecDepth 100000 in
theorem bad_any (W0 w : World) (L p : Nat) (bs : List Int) (bad : Bool) (h : Rd W0 w L p 124 bs bad) :
    Calls Try.prog 70 #[.pointer (some ⟨p, 0, none⟩)] w fun e w' => e = .returned (.bool bad) ∧ w' = w := by
  obtain ⟨a, len, cap, hr, h1, h2, h3, h4⟩ := h.ex
  have c1 : w.cell? ⟨p, 1, none⟩ = some (.bool bad) := row_cell hr 1 _ rfl
  clear h h3 hr
  go_enter Try.func70, Try.ntmps70
  go_wp2_with fail
  go_ret
  exact ⟨rfl, rfl⟩
theorem getN_in (bs : List Int) (h : ∀ x ∈ bs, 0 ≤ x ∧ x ≤ 255) : 0 ≤ getN bs ∧ getN bs ≤ 4611686018427387903 := by
  cases bs with
  | nil => exact ⟨by decide, by decide⟩
  | cons b t =>
    show 0 ≤ (if (b :: t).length < szM b then 0 else valM (b % 64) (t.take (szM b - 1))) ∧ (if (b :: t).length < szM b then 0 else valM (b % 64) (t.take (szM b - 1))) ≤ 4611686018427387903
    split
    · omega
    · have hb := h b (by simp)
      have hin := valM_in (b % 64) (by omega) (t.take (szM b - 1)) (fun x hx => h x (by simp [List.mem_of_mem_take hx]))
      have hlt : (t.take (szM b - 1)).length ≤ 7 := by
        have := szM_cases hb
        rw [List.length_take]; omega
      have hp := pow_le8 _ 7 hlt
      rw [show (256 : Int) ^ 7 = 72057594037927936 from by decide] at hp
      obtain ⟨P, eP⟩ : ∃ P : Int, 256 ^ (t.take (szM b - 1)).length = P := ⟨_, rfl⟩
      have hP : 0 < P := by rw [← eP]; exact Int.pow_pos (by decide)
      rw [eP] at hin hp
      have h1 : (b % 64 + 1) * P ≤ 64 * 72057594037927936 := Int.mul_le_mul (by omega) hp (by omega) (by omega)
      have h2 : 0 ≤ b % 64 * P := Int.mul_nonneg (by omega) (by omega)
      omega
theorem varM_in (bs : List Int) (bad : Bool) (h : ∀ x ∈ bs, 0 ≤ x ∧ x ≤ 255) : 0 ≤ (varM bs bad).1 ∧ (varM bs bad).1 ≤ 4611686018427387903 := by
  unfold varM; split
  · exact ⟨by decide, by decide⟩
  · exact getN_in bs h
theorem Rd.bytes {W0 w : World} {L p : Nat} {T : TypeId} {bs : List Int} {bad : Bool} (h : Rd W0 w L p T bs bad) : ∀ x ∈ bs, 0 ≤ x ∧ x ≤ 255 := by
  obtain ⟨a, len, cap, hr, h1, h2, h3, h4⟩ := h.ex
  exact fun x hx => bounds_u8 (h3.2.1 x hx)
set_option maxRecDepth 100000 in
theorem text_any (W0 w : World) (L p : Nat) (bs : List Int) (bad : Bool) (h : Rd W0 w L p 124 bs bad) :
    Calls Try.prog 69 #[.pointer (some ⟨p, 0, none⟩)] w fun e w' => ∃ a m cap, e = .returned (.slice a m cap) ∧ m ≤ cap ∧ IntsK .u8 w' a m (textM bs bad).1 ∧ Rd W0 w' L p 124 (textM bs bad).2.1 (textM bs bad).2.2 ∧ w.grownBy w' (some p) ∧ (∀ x, a = some x → w.heap.size ≤ x.block) := by
  have HV := Lib.hid (var_any W0 w L p bs bad h)
  have hvi := varM_in bs bad h.bytes
  have ht : textM bs bad = if ((varM bs bad).2.1.length : Int) < (varM bs bad).1 then ([], [], true) else rdM (varM bs bad).2.1 (varM bs bad).2.2 (varM bs bad).1 := rfl
  clear h
  obtain ⟨⟨n, bs', bad'⟩, hv⟩ : ∃ r, varM bs bad = r := ⟨_, rfl⟩
  rw [hv] at HV hvi ht
  have HT := Lib.hid ht
  clear hv ht
  simp only at hvi
  go_enter Try.func69, Try.ntmps69
  go_wp2_with fail
  refine Calls.mono HV.out ?_
  rintro e w' ⟨rfl, hR, hg⟩
  obtain ⟨a, len, cap, hr, h1, h2, h3, h4⟩ := hR.ex
  have c0 : w'.cell? ⟨p, 0, none⟩ = some (.slice a len cap) := row_cell hr 0 _ rfl
  have hl := h3.1
  have HR := Lib.hid hR; have HG := Lib.hid hg
  clear hR hg h3 hr HV
  have HT2 := HT.out
  have hl : bs'.length = len := hl
  have HT2 : textM bs bad = if (bs'.length : Int) < n then ([], [], true) else rdM bs' bad' n := HT2
  rw [hl] at HT2
  by_cases hlt : (len : Int) < n
  · rw [if_pos hlt] at HT2
    replace HT2 := Lib.hid HT2; clear HT
    go_wp2_with fail
    refine Calls.mono (fail_any W0 w' L p bs' bad' HR.out) ?_
    rintro e w2 ⟨rfl, hR2, hg2⟩
    have HR2 := Lib.hid hR2; have HG2 := Lib.hid hg2
    clear hR2 hg2
    go_wp2_with fail
    go_ret
    exact ⟨none, 0, 0, rfl, Nat.le_refl _, by rw [HT2.out]; exact IntsK.nil _ _ _, by rw [HT2.out]; exact HR2.out, grown_trans HG.out HG2.out, by simp⟩
  · rw [if_neg hlt] at HT2
    replace HT2 := Lib.hid HT2; clear HT
    go_wp2_with fail
    refine Calls.mono (raw_any W0 w' L p bs' bad' n (by omega) HR.out) ?_
    rintro e w2 ⟨a2, m2, cap2, rfl, hc2, hi2, hR2, hg2, hlo2⟩
    have HR2 := Lib.hid hR2; have HG2 := Lib.hid hg2; have HI2 := Lib.hid hi2
    clear hR2 hg2 hi2
    go_wp2_with fail
    go_ret
    exact ⟨a2, m2, cap2, rfl, hc2, by rw [HT2.out]; exact HI2.out, by rw [HT2.out]; exact HR2.out, grown_trans HG.out HG2.out, fun x hx => Nat.le_trans HG.out.size (hlo2 x hx)⟩

theorem own_cap {w : World} {base e n size : Nat} {v : Value} {xs : List Value} (h : w.ownsRow base e size v n xs) : ∀ b l c, v = .slice b l c → c ≤ 9223372036854775807 := by
  intro b l c e
  rcases h.2 with ⟨rfl, rfl⟩ | ⟨g, cap, cur, rfl, hg, hrow, hn, hc, hsz, htk⟩
  · injection e with e1 e2 e3; omega
  · injection e with e1 e2 e3; subst e3; unfold maxLen at hc; omega
set_option maxRecDepth 100000 in
theorem of_any (w : World) (a : Option Addr) (len cap : Nat) (bs : List Int) (hlen : len ≤ 1000000000000) (hI : IntsK .u8 w a len bs) :
    Calls Try.prog 66 #[.slice a len cap] w fun e w' => ∃ W0 p, e = .returned (.pointer (some ⟨p, 0, none⟩)) ∧ Rd W0 w' w.heap.size p 124 bs false ∧ Below w.heap.size w W0 ∧ Below W0.heap.size W0 w' := by
  have HI := Lib.hid hI; clear hI
  go_enter Try.func66, Try.ntmps66
  go_wp2_with fail
  refine Calls.mono (clone_any w a len cap bs (by omega) HI.out) ?_
  rintro e w' ⟨v, rfl, hb, ho⟩
  have hcm := own_cap ho
  obtain ⟨a1, cap1, rfl, hc1, hi1, hlow⟩ := ints_of_own ho HI.out.2.1
  replace hcm := hcm _ _ _ rfl
  have HB := Lib.hid hb; have HI1 := Lib.hid hi1
  clear hb ho hi1
  go_wp2_with fail
  go_ret
  have h1 : len ≤ 140737488355328 := by omega
  refine ⟨w', _, rfl, ⟨Nat.le_refl _, fun i _ hi => ((Below.refl _ _).alloc (Nat.le_refl _) _).block i hi, by rw [HI.out.1]; exact h1, a1, len, cap1, heap_alloc_new _ _, hc1, hcm, HI1.out, hlow⟩, HB.out, (Below.refl _ _).alloc (Nat.le_refl _) _⟩
end Go.Proofs.Ytlpajohhnngbmaa
