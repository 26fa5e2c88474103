/- texts of the proof, laid together: OctS. -/
import Derived.Test.YtmbjepcbokbemaaV4
import Derived.Test.YtmbjepcbokbemaaV6
import Derived.Deep.DeepCutAuto
import Derived.Deep.CutBlock
set_option linter.unusedVariables false
set_option linter.unusedSimpArgs false
set_option maxRecDepth 100000
set_option maxHeartbeats 16000000
namespace Go.Proofs.Ytmbjepcbokbemaa
open Go.RowKit
theorem rraw_any (W0 w : World) (L p : Nat) (bs : List Int) (bad : Bool) (n : Int) (hn : -9223372036854775808 ≤ n ∧ n ≤ 9223372036854775807) (h : Rd W0 w L p 105 bs bad) :
  Calls Try.prog 69 #[.pointer (some ⟨p, 0, none⟩), .int .i64 n] w fun e w' => ∃ a m cap, e = .returned (.slice a m cap) ∧ (m ≤ cap ∧ cap ≤ 9223372036854775807) ∧ IntsK .u8 w' a m (rdM bs bad n).1 ∧ Rd W0 w' L p 105 (rdM bs bad n).2.1 (rdM bs bad n).2.2 ∧ w.grownBy w' (some p) ∧ (∀ x, a = some x → w.heap.size ≤ x.block) := by
 obtain ⟨a, len, cap, hr, h1, h2, h3, h4⟩ := h.ex
 have c0 : w.cell? ⟨p, 0, none⟩ = some (.slice a len cap) := row_cell hr 0 _ rfl
 have c1 : w.cell? ⟨p, 1, none⟩ = some (.bool bad) := row_cell hr 1 _ rfl
 have hl := h3.1
 have hsm := h.small
 have HR := Qh h; have H3 := Qh h3
 clear h h3
 by_cases hb : bad = true ∨ n < 0 ∨ (bs.length : Int) < n
 ·
  have HM := Qh (rdM_bad hb)
  have f0 := row_free hr 0
  have f1 := row_free hr 1
  have hA := ((At.base hr).set 1 (.bool true)).set 0 (.slice none 0 0)
  have HA := Qh hA
  clear hr hA
  rw [hl] at hb
  have hb2 : bad = true ∨ (bad = false ∧ n < 0) ∨ (bad = false ∧ ¬ n < 0 ∧ (len : Int) < n) := by cases bad <;> simp at hb ⊢; omega
  clear hb
  go_enter Try.func69, Try.ntmps69
  rcases hb2 with rfl | ⟨rfl, h⟩ | ⟨rfl, h, h'⟩
  all_goals
   go_wp2_with fail
   go_ret
   refine ⟨none, 0, 0, rfl, ⟨Nat.le_refl _, by omega⟩, ?_, ?_, HA.out.rest, by simp⟩
   ·
    rw [HM.out]; exact IntsK.nil _ _ _
   ·
    rw [HM.out]; exact HR.out.set HA.out.rest HA.out.row (Nat.le_refl _) (by omega) (by simp) (IntsK.nil _ _ _) (by simp)
 ·
  have hb1 : bad = false := by cases bad <;> simp_all
  subst hb1
  obtain ⟨m, rfl⟩ : ∃ m : Nat, n = m := ⟨n.toNat, by omega⟩
  have hm : m ≤ len := by omega
  have HM := Qh (rdM_ok (bs := bs) (n := m) (by omega))
  clear hb
  have HPRE := Qh ((HR.out.ints H3.out h4).pre m hm)
  have hpw := HR.out.lt
  go_enter Try.func69, Try.ntmps69
  have HROW0 := Qh hr; clear hr
  go_upto_region 5 with (first | (at_builtin; refine wpList_append_bytes rfl _ _ rfl w.heap.size 0 (.slice (some ⟨w.heap.size, 0, none⟩) 0 0) [] rfl (World.ownsRow_made _ _ _ (Nat.le_refl _) (by unfold maxLen; omega) (by rfl)) _ _ _ _ rfl (HPRE.out.below ((Below.refl _ _).alloc (Nat.le_refl _) _)) (by omega) (by simp) ?_; intro v1 w' hown1 hgrow1; have HO := Qh hown1; have HB := Qh (((Below.refl w.heap.size w).alloc (Nat.le_refl _) _).grown hgrow1 (by simp) (by intro k hk; simp [Value.ownBlock] at hk; omega)); clear hown1 hgrow1) | fail)
  have hcm := own_cap HO.out
  obtain ⟨a1, cap1, rfl, hc1, hi1, hlow⟩ := ints_of_own (n := m) (ys := bs.take m) (by simpa using HO.out) HPRE.out.2.1
  replace hcm := hcm _ _ _ rfl
  have hrow := bl_row HB.out hpw HROW0.out
  have c0' : w'.cell? ⟨p, 0, none⟩ = some (.slice a len cap) := row_cell hrow 0 _ rfl
  have f0 := row_free hrow 0
  have HROW := Qh hrow; have HI1 := Qh hi1
  have hpa : ∀ x, a1 = some x → some x.block ≠ some p := fun x hx => by
   have h := hlow x hx
   simp; omega
  clear hrow hi1 HO c0
  by_cases hlt : m < len
  ·
   rcases H3.out.2.2 with h0 | ⟨ba, off, rfl, _, _⟩
   ·
    omega
   ·
    go_wp2_with fail
    go_ret
    refine ⟨_, _, _, rfl, ⟨hc1, hcm⟩, ?_, ?_, grown_trans (grown_below HB.out _) (grown_setCell _ _ _ _), hlow⟩
    ·
     rw [HM.out]; exact HI1.out.grown (grown_setCell _ _ _ _) hpa
    ·
     rw [HM.out]
     exact HR.out.set (grown_trans (grown_below HB.out _) (grown_setCell _ _ _ _)) ((At.base HROW.out).set 0 _).row (by omega) (by omega) (by simp) (H3.out.rest m hm _ fun _ => ⟨ba, off, rfl, rfl⟩) (fun x hx => by injection hx with hx; subst hx; exact h4 ⟨ba, off, none⟩ rfl)
  ·
   obtain rfl : m = len := by omega
   go_wp2_with fail
   all_goals
    go_ret
    refine ⟨_, _, _, rfl, ⟨hc1, hcm⟩, ?_, ?_, grown_trans (grown_below HB.out _) (grown_setCell _ _ _ _), hlow⟩
    ·
     rw [HM.out]; exact HI1.out.grown (grown_setCell _ _ _ _) hpa
    ·
     rw [HM.out]
     exact HR.out.set (grown_trans (grown_below HB.out _) (grown_setCell _ _ _ _)) ((At.base HROW.out).set 0 _).row (by omega) (by omega) (by simp) (by rw [show (bs.take m, bs.drop m, false).2.1 = [] from List.drop_of_length_le (by omega)]; exact IntsK.nil _ _ _) (by first | exact h4 | exact low_rest h4)
theorem rvar_any (W0 w : World) (L p : Nat) (bs : List Int) (bad : Bool) (h : Rd W0 w L p 105 bs bad) :
  Calls Try.prog 67 #[.pointer (some ⟨p, 0, none⟩)] w fun e w' => e = .returned (.int .u64 (varM bs bad).1) ∧ Rd W0 w' L p 105 (varM bs bad).2.1 (varM bs bad).2.2 ∧ w.grownBy w' (some p) := by
 obtain ⟨a, len, cap, hr, h1, h2, h3, h4⟩ := h.ex
 have c0 : w.cell? ⟨p, 0, none⟩ = some (.slice a len cap) := row_cell hr 0 _ rfl
 have c1 : w.cell? ⟨p, 1, none⟩ = some (.bool bad) := row_cell hr 1 _ rfl
 have f0 := row_free hr 0
 have f1 := row_free hr 1
 have hA := ((At.base hr).set 1 (.bool true)).set 0 (.slice none 0 0)
 have HA := Qh hA
 have hl := h3.1
 have hsm := h.small
 have HR := Qh h; have H3 := Qh h3; have HROW := Qh hr
 clear h h3 hr hA
 have hgs : getS bs ≤ bs.length := getS_le bs
 go_enter Try.func67, Try.ntmps67
 go_wp2_with fail
 refine Calls.mono (rget_any w a len cap bs (by omega) h1 (HR.out.ints H3.out h4)) ?_
 rintro e w' ⟨rfl, rfl⟩
 by_cases hb : bad = true ∨ getS bs = 0
 ·
  have HM : Hid (varM bs bad = (0, [], true)) := Qh (if_pos hb)
  have hb2 : bad = true ∨ (bad = false ∧ getS bs = 0) := by cases bad <;> simp at hb ⊢; exact hb
  clear hb
  rcases hb2 with rfl | ⟨rfl, h⟩
  ·
   go_wp2_with fail
   go_ret
   exact ⟨by rw [HM.out]; rfl, by rw [HM.out]; exact HR.out.set HA.out.rest HA.out.row (Nat.le_refl _) (by omega) (by simp) (IntsK.nil _ _ _) (by simp), HA.out.rest⟩
  ·
   rw [h]
   go_wp2_with fail
   go_ret
   exact ⟨by rw [HM.out]; rfl, by rw [HM.out]; exact HR.out.set HA.out.rest HA.out.row (Nat.le_refl _) (by omega) (by simp) (IntsK.nil _ _ _) (by simp), HA.out.rest⟩
 ·
  have hb1 : bad = false := by cases bad <;> simp_all
  subst hb1
  have HM : Hid (varM bs false = (getN bs, bs.drop (getS bs), false)) := Qh (if_neg hb)
  obtain ⟨s, es⟩ : ∃ s, getS bs = s := ⟨_, rfl⟩
  rw [es] at hgs HM ⊢
  have hs0 : s ≠ 0 := by rw [← es]; simp at hb; exact hb
  clear es hb
  have hsl : s ≤ len := by omega
  by_cases hlt : s < len
  ·
   rcases H3.out.2.2 with h0 | ⟨ba, off, rfl, _, _⟩
   ·
    omega
   ·
    go_wp2_with fail
    go_ret
    refine ⟨by rw [HM.out]; rfl, ?_, grown_setCell _ _ _ _⟩
    rw [HM.out]
    exact HR.out.set (grown_setCell _ _ _ _) ((At.base HROW.out).set 0 _).row (by omega) (by omega) (by simp) (H3.out.rest s hsl _ fun _ => ⟨ba, off, rfl, rfl⟩) (fun x hx => by injection hx with hx; subst hx; exact h4 ⟨ba, off, none⟩ rfl)
  ·
   obtain rfl : s = len := by omega
   go_wp2_with fail
   all_goals
    go_ret
    refine ⟨by rw [HM.out]; rfl, ?_, grown_setCell _ _ _ _⟩
    rw [HM.out]
    exact HR.out.set (grown_setCell _ _ _ _) ((At.base HROW.out).set 0 _).row (by omega) (by omega) (by simp) (by rw [show (getN bs, bs.drop s, false).2.1 = [] from List.drop_of_length_le (by omega)]; exact IntsK.nil _ _ _) (by first | exact h4 | exact low_rest h4)
theorem rbyte_any (W0 w : World) (L p : Nat) (bs : List Int) (bad : Bool) (h : Rd W0 w L p 105 bs bad) :
  Calls Try.prog 71 #[.pointer (some ⟨p, 0, none⟩)] w fun e w' => e = .returned (.int .u8 (byteM bs bad).1) ∧ Rd W0 w' L p 105 (byteM bs bad).2.1 (byteM bs bad).2.2 ∧ w.grownBy w' (some p) := by
 have HRAW := Qh (rraw_any W0 w L p bs bad 1 (by omega) h)
 have hlen := rdM_len bs bad 1
 have hb : byteM bs bad = ((rdM bs bad 1).1.headD 0, (rdM bs bad 1).2) := rfl
 rw [hb]
 clear hb h
 have e1 : rdM bs bad ((1 : Nat) : Int) = rdM bs bad 1 := rfl
 rw [e1] at hlen
 obtain ⟨⟨r, bs', bad'⟩, hr⟩ : ∃ r, rdM bs bad 1 = r := ⟨_, rfl⟩
 rw [hr] at HRAW hlen ⊢
 clear e1 hr
 go_enter Try.func71, Try.ntmps71
 go_wp2_with fail
 refine Calls.mono HRAW.out ?_
 rintro e w' ⟨a, m, cap, rfl, hmc, hi, hR, hg, _⟩
 have HR := Qh hR; have HG := Qh hg
 have hml : r.length = m := hi.1
 clear hR hg HRAW
 rcases hlen with rfl | hlen
 ·
  obtain rfl : m = 0 := by simpa using hml.symm
  go_wp2_with fail
  go_ret
  exact ⟨rfl, HR.out, HG.out⟩
 ·
  obtain ⟨x, rfl⟩ : ∃ x, r = [x] := by
   match r, hlen with
   | [x], _ => exact ⟨x, rfl⟩
  obtain rfl : m = 1 := by simpa using hml.symm
  obtain ⟨b, off, y, rfl, _, hy, _, hc⟩ := hi.at (Below.refl _ _) (j := 0) (by omega)
  obtain rfl : y = x := by rw [hy]; rfl
  have hc0 : w'.cell? ⟨b, off, none⟩ = some (.int .u8 y) := by simpa using hc
  clear hc hi hml hlen hy
  go_wp2_with fail
  go_ret
  exact ⟨rfl, HR.out, HG.out⟩
theorem rtext_any (W0 w : World) (L p : Nat) (bs : List Int) (bad : Bool) (h : Rd W0 w L p 105 bs bad) :
  Calls Try.prog 68 #[.pointer (some ⟨p, 0, none⟩)] w fun e w' => ∃ a m cap, e = .returned (.slice a m cap) ∧ (m ≤ cap ∧ cap ≤ 9223372036854775807) ∧ IntsK .u8 w' a m (textM bs bad).1 ∧ Rd W0 w' L p 105 (textM bs bad).2.1 (textM bs bad).2.2 ∧ w.grownBy w' (some p) ∧ (∀ x, a = some x → w.heap.size ≤ x.block) := by
 have HV := Qh (rvar_any W0 w L p bs bad h)
 have hvi := varM_in bs bad h.bytes
 have ht : textM bs bad = if ((varM bs bad).2.1.length : Int) < (varM bs bad).1 then ([], [], true) else rdM (varM bs bad).2.1 (varM bs bad).2.2 (varM bs bad).1 := rfl
 clear h
 obtain ⟨⟨n, bs', bad'⟩, hv⟩ : ∃ r, varM bs bad = r := ⟨_, rfl⟩
 rw [hv] at HV hvi ht
 have HT := Qh ht
 clear hv ht
 simp only at hvi
 go_enter Try.func68, Try.ntmps68
 go_wp2_with fail
 refine Calls.mono HV.out ?_
 rintro e w' ⟨rfl, hR, hg⟩
 obtain ⟨a, len, cap, hr, h1, h2, h3, h4⟩ := hR.ex
 have c0 : w'.cell? ⟨p, 0, none⟩ = some (.slice a len cap) := row_cell hr 0 _ rfl
 have c1 : w'.cell? ⟨p, 1, none⟩ = some (.bool bad') := row_cell hr 1 _ rfl
 have f0 := row_free hr 0
 have f1 := row_free hr 1
 have hA := ((At.base hr).set 1 (.bool true)).set 0 (.slice none 0 0)
 have HA := Qh hA
 have hl : bs'.length = len := h3.1
 have HR := Qh hR; have HG := Qh hg
 clear hR hg h3 hr HV hA
 have HT2 := HT.out
 have HT2 : textM bs bad = if (bs'.length : Int) < n then ([], [], true) else rdM bs' bad' n := HT2
 rw [hl] at HT2
 by_cases hf : bad' = true ∨ (len : Int) < n
 ·
  have HT3 : Hid (textM bs bad = ([], [], true)) := Qh (by
   rw [HT2]; split
   ·
    rfl
   ·
    rcases hf with rfl | h
    ·
     exact rdM_bad (.inl rfl)
    ·
     contradiction)
  clear HT2 HT
  have hf2 : bad' = true ∨ (bad' = false ∧ (len : Int) < n) := by cases bad' <;> simp at hf ⊢; omega
  clear hf
  rcases hf2 with rfl | ⟨rfl, h⟩
  all_goals
   go_wp2_with fail
   go_ret
   refine ⟨none, 0, 0, rfl, ⟨Nat.le_refl _, by omega⟩, ?_, ?_, grown_trans HG.out HA.out.rest, by simp⟩
   ·
    rw [HT3.out]; exact IntsK.nil _ _ _
   ·
    rw [HT3.out]; exact HR.out.set HA.out.rest HA.out.row (Nat.le_refl _) (by omega) (by simp) (IntsK.nil _ _ _) (by simp)
 ·
  have hb1 : bad' = false := by cases bad' <;> simp_all
  subst hb1
  have hlt : ¬ (len : Int) < n := fun h => hf (.inr h)
  rw [if_neg hlt] at HT2
  replace HT2 := Qh HT2; clear HT hf HA
  go_wp2_with fail
  refine Calls.mono (rraw_any W0 w' L p bs' false n (by omega) HR.out) ?_
  rintro e w2 ⟨a2, m2, cap2, rfl, hc2, hi2, hR2, hg2, hlo2⟩
  have HR2 := Qh hR2; have HG2 := Qh hg2; have HI2 := Qh hi2
  clear hR2 hg2 hi2
  go_wp2_with fail
  go_ret
  exact ⟨a2, m2, cap2, rfl, hc2, by rw [HT2.out]; exact HI2.out, by rw [HT2.out]; exact HR2.out, grown_trans HG.out HG2.out, fun x hx => Nat.le_trans HG.out.size (hlo2 x hx)⟩
theorem rwtext_any (w : World) (a : Option Addr) (len cap : Nat) (bs : List Int) (xa : Option Addr) (xl xc : Nat) (xs : List Int) (hlen : len + 8 + xl ≤ 140737488355328) (hI : IntsK .u8 w a len bs) (hX : IntsK .u8 w xa xl xs) :
  Calls Try.prog 42 #[.slice a len cap, .slice xa xl xc] w fun e w' => ∃ v, e = .returned v ∧ Below w.heap.size w w' ∧ w'.ownsRow w.heap.size 5 1 v (bs ++ (putM xl ++ xs)).length ((bs ++ (putM xl ++ xs)).map (Value.int .u8)) := by
 have HI := Qh hI; have HX := Qh hX; clear hI hX
 have hs8 : sizeM xl ≤ 8 := by have := sizeM_cases (xl : Int); omega
 go_enter Try.func42, Try.ntmps42
 go_wp2_with fail
 refine Calls.mono (rput_any w a len cap bs xl ⟨by omega, by omega⟩ (by omega) HI.out) ?_
 rintro e w1 ⟨v1, rfl, hb, ho⟩
 obtain ⟨b1, cp1, rfl, _⟩ := own_slice ho
 have HB := Qh hb; have HO := Qh ho
 have hsz := hb.size
 clear hb ho
 go_wp2_with (first | (at_builtin; refine wpList_append_bytes rfl _ _ rfl w.heap.size _ _ _ rfl HO.out _ _ _ _ rfl (HX.out.below HB.out) (by omega) hsz ?_; intro v2 w2 hown2 hgrow2; have HO2 := Qh hown2; have HL2 := Qh (HB.out.grown hgrow2 hsz (own_base HO.out)); clear hown2 hgrow2) | fail)
 go_ret
 refine ⟨_, rfl, HL2.out, ?_⟩
 have h := HO2.out
 rw [List.append_assoc] at h
 rw [show (bs ++ (putM xl ++ xs)).length = len + sizeM xl + xl by rw [List.length_append, List.length_append, HI.out.1, HX.out.1, putM_len]; omega]
 exact h
end Go.Proofs.Ytmbjepcbokbemaa
