/- wheel: WheelSteps. -/
import Derived.Test.YtjkedccbieoenaaWhl20
namespace Go.Proofs.Ytjkedccbieoenaa
open Go.RowKit
set_option linter.unusedVariables false
set_option linter.unusedSimpArgs false

structure SetI (T : List Tm) (k : Nat) : Prop where
  len : T.length = k
  ok : ∀ x ∈ T, 0 ≤ x.1 ∧ x.1 < (k : Int) ∧ 0 ≤ x.2 ∧ x.2 ≤ 9000
theorem SetI.not {T : List Tm} {k : Nat} (h : SetI T k) : dropT T (k : Int) = T := dropT_not (fun hm => by
  obtain ⟨x, hx, e⟩ := List.mem_map.1 hm
  have := (h.ok x hx).2.1; omega)
theorem SetI.step {T : List Tm} {k : Nat} {t : Int} (h : SetI T k) (ht : 0 ≤ t ∧ t ≤ 9000) : SetI (T ++ [((k : Int), t)]) (k + 1) := by
  refine ⟨by simp [h.len], fun x hx => ?_⟩
  rcases List.mem_append.1 hx with hx | hx
  · have := h.ok x hx; omega
  · rw [List.mem_singleton.1 hx]; simp only; omega
theorem new2_any (w : World) : Calls Try.prog 8 #[.int .i64 0] w fun e w' => ∃ p b, e = .returned (.pointer (some ⟨p, 0, none⟩)) ∧ Below w.heap.size w w' ∧ w.heap.size ≤ p ∧ w.heap.size ≤ b ∧ WhAt w' p [p, b] 0 [] nilRows b 0 := new_any w 0
set_option maxRecDepth 100000 in
set_option maxHeartbeats 16000000 in
theorem steps24_any (w : World) (a : Option Addr) (len cap : Nat) (a2 : Option Addr) (len2 cap2 : Nat) (zs : List Int) (hA : Aks w a len) (hZ : IntsK .i64 w a2 len2 zs) (hl2 : len2 ≤ 140737488351232) :
    Makes Try.prog 3 #[.slice a len cap, .slice a2 len2 cap2] w (.bool true) := by
  have HA := Lib.hid hA; have HZ := Lib.hid hZ
  have HB := Lib.hid (Below.refl w.heap.size w)
  have HNE := Lib.hid (fun W => new2_any W)
  have HKN := Lib.hid known24_any
  clear hA hZ
  go_enter Try.func3, Try.ntmps3
  go_wp2_with fail
  refine Calls.mono (HNE.out _) ?_
  rintro e w1 ⟨pa, ba, rfl, hb, hp1, hp2, hw⟩
  have HB1 := Lib.hid hb; have HP := Lib.hid (And.intro hp1 hp2); have HW1 := Lib.hid hw
  clear hb hp1 hp2 hw HB
  go_wp2_with fail
  refine Calls.mono (HNE.out _) ?_
  rintro e w2 ⟨pb, bb, rfl, hb, hp1, hp2, hw⟩
  have HW := Lib.hid (TwoW.of w HW1.out HP.out HB1.out.size hb hw ⟨hp1, hp2⟩)
  have HB := Lib.hid (bl_next HB1.out HB1.out.size hb)
  clear hb hp1 hp2 hw HW1 HP HB1 HNE
  have HI : Hid (SetI [] 0) := Lib.hid ⟨rfl, fun x hx => by cases hx⟩
  go_wp2_with fail
  go_loopw [7] (fun i wr => ∃ (k : Nat) (T : List Tm), i = .int .i64 k ∧ k ≤ 40 ∧ Hid (Below w.heap.size w wr) ∧ Hid (TwoW w.heap.size wr pa 0 T k pb 0 T k (.slice none 0 0) []) ∧ Hid (SetI T k)) (fun i _ => 40 - (intOf i).toNat)
  case atStart => exact ⟨0, [], rfl, by omega, HB, HW, HI⟩
  case round =>
    clear HB HW HI
    obtain ⟨k, T, rfl, hk, HB, HW, HI⟩ := hrel
    by_cases hc : k < len ∧ k < 40
    · obtain ⟨h1, h2⟩ := hc
      obtain ⟨ab, ao, ak, ai, av, rfl, _, _, _, hav, _, _, c2⟩ := (HA.out.below HB.out).at h1
      have hin := within_in av 0 9000 (by omega)
      have HWI := Lib.hid (fun W => within_any W av 0 9000 (by omega) (by omega) (by omega) (bdI64 hav))
      generalize within av 0 9000 = t at hin HWI
      have HIN := Lib.hid hin
      clear hav hin
      go_wp2_with fail
      refine Calls.mono (HWI.out _) ?_
      rintro e wq ⟨rfl, rfl⟩
      clear c2 HWI
      have hdt : dueM 0 t = t := by unfold dueM; rw [if_neg (by have := HIN.out; omega)]
      have HDT := Lib.hid hdt
      clear hdt
      go_wp2_with fail
      refine Calls.mono (HW.out.setA (k : Int) t (wf_i64_of (by omega) (by omega)) (by have := HIN.out; omega) (by omega) (by have := HI.out.len; omega)) ?_
      rintro e w2 ⟨rfl, hw, hb⟩
      rw [HI.out.not, HDT.out] at hw
      have HW2 := Lib.hid hw; have HB2 := Lib.hid (HB.out.trans hb)
      clear hw hb HW HB
      go_wp2_with fail
      refine Calls.mono (HW2.out.setB (k : Int) t (wf_i64_of (by omega) (by omega)) (by have := HIN.out; omega) (by omega) (by have := HI.out.len; omega)) ?_
      rintro e w3 ⟨rfl, hw, hb⟩
      rw [HI.out.not, HDT.out] at hw
      have HW3 := Lib.hid hw; have HB3 := Lib.hid (HB2.out.trans hb)
      clear hw hb HW2 HB2
      have HI2 := Lib.hid (HI.out.step HIN.out)
      generalize T ++ [((k : Int), t)] = T2 at HI2 HW3
      go_wp2_with fail
      go_roundw
      case rel => exact ⟨k + 1, T2, by go_num, by omega, HB3, HW3, HI2⟩
      case measure => simp [intOf]; omega
    · skip
      have HTL : Hid (T.length ≤ 40) := Lib.hid (by rw [HI.out.len]; exact hk)
      have HOK : Hid (∀ x ∈ T, 0 ≤ x.2 ∧ x.2 ≤ 9000) := Lib.hid (fun x hx => (HI.out.ok x hx).2.2)
      obtain ⟨hst, hd0⟩ := StI.ini HTL.out (fun x hx => (HOK.out x hx).1)
      obtain ⟨Sf, hSf⟩ : ∃ S, sortT T = S := ⟨_, rfl⟩
      have hpm := sortT_perm T
      have hso := sortT_sorted T
      rw [hSf] at hst hd0 hpm hso
      have HPM := Lib.hid hpm; have HSO := Lib.hid hso
      have hw0 := HW.out
      rw [← hd0] at hw0
      have HW0 : Hid (TwoW w.heap.size wr pa 0 T k pb 0 T k (.slice none 0 0) (duL (-1) Sf)) := Lib.hid hw0
      have HST0 := Lib.hid hst
      clear hw0 hd0 hst hSf hpm hso HW HI
      have hkl : ¬ (k < len ∧ k < 40) := hc
      clear hc
      by_cases h1 : k < len
      · skip
        have h2 : ¬ k < 40 := fun h => hkl ⟨h1, h⟩
        clear hkl
        go_wp2_with fail
        go_loopw [9, 10, 11] (fun u s i wr => ∃ (j : Nat) (now c : Int) (TB : List Tm) (nb : Nat), s = .int .i64 now ∧ i = .int .i64 j ∧ j ≤ 60 ∧ Hid (Below w.heap.size w wr) ∧ Hid (TwoW w.heap.size wr pa 0 T k pb now TB nb u (duL c Sf)) ∧ Hid (StI Sf c now j TB)) (fun _ _ i _ => 60 - (intOf i).toNat)
        case atStart => exact ⟨0, 0, -1, T, k, rfl, rfl, by omega, HB, HW0, HST0⟩
        case round =>
          clear HB HW0 HST0
          obtain ⟨j, now, c, TB, nb, rfl, rfl, hj, HB, HW, HST⟩ := hrel
          by_cases hc : j < len2 ∧ j < 60
          · skip
            obtain ⟨h3, h4⟩ := hc
            obtain ⟨sb, so, x, rfl, _, hx, hwx, c2⟩ := HZ.out.at HB.out h3
            have c3 : (_ : World).cell? ⟨sb, so + j, none⟩ = some (.int .i64 x) := c2
            clear hx c2
            have hin := within_in x 0 300 (by omega)
            have HWI := Lib.hid (fun W => within_any W x 0 300 (by omega) (by omega) (by omega) (bdI64 hwx))
            generalize within x 0 300 = t at hin HWI
            have HIN : Hid (0 ≤ t ∧ t ≤ 300) := Lib.hid hin
            have HRG := Lib.hid HST.out.rg
            clear hwx hin
            go_wp2_with fail
            refine Calls.mono (HWI.out _) ?_
            rintro e wq ⟨rfl, rfl⟩
            clear c3 HWI
            have hnt : -9223372036854775808 ≤ now + t ∧ now + t ≤ 9223372036854775807 := by have := HRG.out; have := HIN.out; omega
            go_wp2_with fail
            refine Calls.mono (HW.out.goB (now + t) HST.out.lt) ?_
            rintro e w5 ⟨a5, c5, S5, n5, rfl, hi5, hp5, hs5, hw5, hb5⟩
            have hgn : goN now (now + t) = (now + t) := by unfold goN; have := HST.out.rg; have := HIN.out; omega
            rw [hgn] at hi5 hw5 ⊢
            obtain ⟨e5, e6⟩ := HST.out.go (t := (now + t)) (by have := HIN.out; omega) hp5 hs5
            rw [e6] at hw5
            have HE5 := Lib.hid e5
            have HW5 := Lib.hid hw5; have HI5 := Lib.hid hi5; have HB5 := Lib.hid (HB.out.trans hb5)
            have HL5 : Hid ((duL (now + t) S5).length ≤ 40) := Lib.hid (by have h1 := duL_len (now + t) S5; have h2 := hp5.length_eq; have h3 := HST.out.pm.length_eq; have h4 := List.length_filter_le (ndM c) Sf; have h5 := HST.out.ln; omega)
            clear hi5 hp5 hs5 hw5 hb5 hgn e5 e6 HW HB
            obtain ⟨L5, hL5⟩ : ∃ L, duL (now + t) S5 = L := ⟨_, rfl⟩
            rw [hL5] at HI5 HE5 HL5 ⊢
            clear hL5
            go_wp2_with (first | (at_builtin; refine wpList_append_int rfl _ _ rfl w.heap.size _ _ (duL c Sf) rfl HW5.out.own _ _ _ _ rfl HI5.out (by have h1 := duL_len c Sf; have h2 := HST.out.ln; have h3 := HL5.out; omega) HW5.out.bs ?_; intro u6 w6 ho6 hg6 hor6; obtain ⟨hw6, hb6⟩ := HW5.out.push HI5.out.1 HI5.out.2.1 ho6 hg6 hor6; have HW6 := Lib.hid hw6; have HB6 := Lib.hid (HB5.out.trans hb6); clear ho6 hg6 hor6 hw6 hb6) | fail)
            rw [HE5.out] at HW6
            clear HE5 HI5 HL5 HW5 HB5
            have HST2 := Lib.hid (HST.out.step (t := now + t) (by have := HIN.out; omega))
            go_wp2_with fail
            go_roundw
            case rel => exact ⟨j + 1, now + t, now + t, _, n5, rfl, by go_num, by omega, HB6, HW6, HST2⟩
            case measure => simp [intOf]; omega
          · skip
            have hjl : ¬ (j < len2 ∧ j < 60) := hc
            clear hc
            have HIN : Hid (now ≤ 20000) := Lib.hid (by have := HST.out.rg; omega)
            by_cases h3 : j < len2
            · skip
              have h4 : ¬ j < 60 := fun h => hjl ⟨h3, h⟩
              clear hjl
              go_wp2_with fail
              refine Calls.mono (HW.out.goB 20000 HST.out.lt) ?_
              rintro e w5 ⟨a5, c5, S5, n5, rfl, hi5, hp5, hs5, hw5, hb5⟩
              have hgn : goN now 20000 = 20000 := by unfold goN; have := HST.out.rg; have := HIN.out; omega
              rw [hgn] at hi5 hw5 ⊢
              obtain ⟨e5, e6⟩ := HST.out.go (t := 20000) (by have := HIN.out; omega) hp5 hs5
              rw [e6] at hw5
              have HE5 := Lib.hid e5
              have HW5 := Lib.hid hw5; have HI5 := Lib.hid hi5; have HB5 := Lib.hid (HB.out.trans hb5)
              have HL5 : Hid ((duL 20000 S5).length ≤ 40) := Lib.hid (by have h1 := duL_len 20000 S5; have h2 := hp5.length_eq; have h3 := HST.out.pm.length_eq; have h4 := List.length_filter_le (ndM c) Sf; have h5 := HST.out.ln; omega)
              clear hi5 hp5 hs5 hw5 hb5 hgn e5 e6 HW HB
              obtain ⟨L5, hL5⟩ : ∃ L, duL 20000 S5 = L := ⟨_, rfl⟩
              rw [hL5] at HI5 HE5 HL5 ⊢
              clear hL5
              go_wp2_with (first | (at_builtin; refine wpList_append_int rfl _ _ rfl w.heap.size _ _ (duL c Sf) rfl HW5.out.own _ _ _ _ rfl HI5.out (by have h1 := duL_len c Sf; have h2 := HST.out.ln; have h3 := HL5.out; omega) HW5.out.bs ?_; intro u6 w6 ho6 hg6 hor6; obtain ⟨hw6, hb6⟩ := HW5.out.push HI5.out.1 HI5.out.2.1 ho6 hg6 hor6; have HW6 := Lib.hid hw6; have HB6 := Lib.hid (HB5.out.trans hb6); clear ho6 hg6 hor6 hw6 hb6) | fail)
              rw [HE5.out] at HW6
              clear HE5 HI5 HL5 HW5 HB5
              have HAL : Hid (Sf.filter (ndM 20000) = []) := Lib.hid (duL_all (fun x hx => by have := (HOK.out x (HPM.out.mem_iff.1 hx)).2; omega))
              rw [HAL.out] at HW6
              go_wp2_with fail
              refine Calls.mono (HW6.out.goA 20000 (by have := HTL.out; omega)) ?_
              rintro e w7 ⟨a7, c7, S7, n7, rfl, hi7, hp7, hs7, hw7, hb7⟩
              have e7 : S7 = Sf := sorted_unique (hp7.trans HPM.out.symm) hs7 HSO.out
              subst e7
              rw [show goN 0 20000 = 20000 from rfl] at hi7 hw7 ⊢
              rw [HAL.out] at hw7
              have HW7 := Lib.hid hw7; have HI7 := Lib.hid hi7; have HB7 := Lib.hid (HB6.out.trans hb7)
              obtain ⟨a8, c8, eu, _, hai, _⟩ := ints_of_own hw7.own hw7.gwf
              have HI8 := Lib.hid hai
              have HDL := Lib.hid (Nat.le_trans (duL_len 20000 S7) HST.out.ln)
              clear hi7 hp7 hs7 hw7 hb7 HW6 HB6 hai
              subst eu
              have HSA := Lib.hid (same_int _ _ _ _ c7 c8 _ (by have := HDL.out; omega) HI7.out HI8.out)
              generalize duL 20000 S7 = L7 at HW7 HI7 HI8 HSA HDL ⊢
              clear HI7 HI8
              go_wp2_with fail
              refine Calls.mono HSA.out ?_
              rintro e w8 ⟨rfl, nd, rfl⟩
              have hdr := bl_drewN (Below.refl w7.heap.size w7) nd
              replace HW7 := Lib.hid (HW7.out.below hdr); replace HB7 := Lib.hid (bl_next HB7.out HB7.out.size hdr)
              clear hdr HSA
              go_wp2_with fail
              refine Calls.mono HW7.out.lenA ?_
              rintro e wq ⟨rfl, rfl⟩
              rw [List.length_nil]
              go_wp2_with fail
              refine Calls.mono HW7.out.lenB ?_
              rintro e wq ⟨rfl, rfl⟩
              rw [List.length_nil]
              go_wp2_with fail
              refine Calls.mono (HKN.out _) ?_
              rintro e w9 ⟨rfl, hb9⟩
              replace HB7 := Lib.hid (bl_next HB7.out HB7.out.size hb9)
              clear hb9
              go_wp2_with fail
              go_ret
              exact ⟨rfl, HB7.out⟩
            · skip
              skip
              clear hjl
              go_wp2_with fail
              refine Calls.mono (HW.out.goB 20000 HST.out.lt) ?_
              rintro e w5 ⟨a5, c5, S5, n5, rfl, hi5, hp5, hs5, hw5, hb5⟩
              have hgn : goN now 20000 = 20000 := by unfold goN; have := HST.out.rg; have := HIN.out; omega
              rw [hgn] at hi5 hw5 ⊢
              obtain ⟨e5, e6⟩ := HST.out.go (t := 20000) (by have := HIN.out; omega) hp5 hs5
              rw [e6] at hw5
              have HE5 := Lib.hid e5
              have HW5 := Lib.hid hw5; have HI5 := Lib.hid hi5; have HB5 := Lib.hid (HB.out.trans hb5)
              have HL5 : Hid ((duL 20000 S5).length ≤ 40) := Lib.hid (by have h1 := duL_len 20000 S5; have h2 := hp5.length_eq; have h3 := HST.out.pm.length_eq; have h4 := List.length_filter_le (ndM c) Sf; have h5 := HST.out.ln; omega)
              clear hi5 hp5 hs5 hw5 hb5 hgn e5 e6 HW HB
              obtain ⟨L5, hL5⟩ : ∃ L, duL 20000 S5 = L := ⟨_, rfl⟩
              rw [hL5] at HI5 HE5 HL5 ⊢
              clear hL5
              go_wp2_with (first | (at_builtin; refine wpList_append_int rfl _ _ rfl w.heap.size _ _ (duL c Sf) rfl HW5.out.own _ _ _ _ rfl HI5.out (by have h1 := duL_len c Sf; have h2 := HST.out.ln; have h3 := HL5.out; omega) HW5.out.bs ?_; intro u6 w6 ho6 hg6 hor6; obtain ⟨hw6, hb6⟩ := HW5.out.push HI5.out.1 HI5.out.2.1 ho6 hg6 hor6; have HW6 := Lib.hid hw6; have HB6 := Lib.hid (HB5.out.trans hb6); clear ho6 hg6 hor6 hw6 hb6) | fail)
              rw [HE5.out] at HW6
              clear HE5 HI5 HL5 HW5 HB5
              have HAL : Hid (Sf.filter (ndM 20000) = []) := Lib.hid (duL_all (fun x hx => by have := (HOK.out x (HPM.out.mem_iff.1 hx)).2; omega))
              rw [HAL.out] at HW6
              go_wp2_with fail
              refine Calls.mono (HW6.out.goA 20000 (by have := HTL.out; omega)) ?_
              rintro e w7 ⟨a7, c7, S7, n7, rfl, hi7, hp7, hs7, hw7, hb7⟩
              have e7 : S7 = Sf := sorted_unique (hp7.trans HPM.out.symm) hs7 HSO.out
              subst e7
              rw [show goN 0 20000 = 20000 from rfl] at hi7 hw7 ⊢
              rw [HAL.out] at hw7
              have HW7 := Lib.hid hw7; have HI7 := Lib.hid hi7; have HB7 := Lib.hid (HB6.out.trans hb7)
              obtain ⟨a8, c8, eu, _, hai, _⟩ := ints_of_own hw7.own hw7.gwf
              have HI8 := Lib.hid hai
              have HDL := Lib.hid (Nat.le_trans (duL_len 20000 S7) HST.out.ln)
              clear hi7 hp7 hs7 hw7 hb7 HW6 HB6 hai
              subst eu
              have HSA := Lib.hid (same_int _ _ _ _ c7 c8 _ (by have := HDL.out; omega) HI7.out HI8.out)
              generalize duL 20000 S7 = L7 at HW7 HI7 HI8 HSA HDL ⊢
              clear HI7 HI8
              go_wp2_with fail
              refine Calls.mono HSA.out ?_
              rintro e w8 ⟨rfl, nd, rfl⟩
              have hdr := bl_drewN (Below.refl w7.heap.size w7) nd
              replace HW7 := Lib.hid (HW7.out.below hdr); replace HB7 := Lib.hid (bl_next HB7.out HB7.out.size hdr)
              clear hdr HSA
              go_wp2_with fail
              refine Calls.mono HW7.out.lenA ?_
              rintro e wq ⟨rfl, rfl⟩
              rw [List.length_nil]
              go_wp2_with fail
              refine Calls.mono HW7.out.lenB ?_
              rintro e wq ⟨rfl, rfl⟩
              rw [List.length_nil]
              go_wp2_with fail
              refine Calls.mono (HKN.out _) ?_
              rintro e w9 ⟨rfl, hb9⟩
              replace HB7 := Lib.hid (bl_next HB7.out HB7.out.size hb9)
              clear hb9
              go_wp2_with fail
              go_ret
              exact ⟨rfl, HB7.out⟩
      · skip
        skip
        clear hkl
        go_wp2_with fail
        go_loopw [9, 10, 11] (fun u s i wr => ∃ (j : Nat) (now c : Int) (TB : List Tm) (nb : Nat), s = .int .i64 now ∧ i = .int .i64 j ∧ j ≤ 60 ∧ Hid (Below w.heap.size w wr) ∧ Hid (TwoW w.heap.size wr pa 0 T k pb now TB nb u (duL c Sf)) ∧ Hid (StI Sf c now j TB)) (fun _ _ i _ => 60 - (intOf i).toNat)
        case atStart => exact ⟨0, 0, -1, T, k, rfl, rfl, by omega, HB, HW0, HST0⟩
        case round =>
          clear HB HW0 HST0
          obtain ⟨j, now, c, TB, nb, rfl, rfl, hj, HB, HW, HST⟩ := hrel
          by_cases hc : j < len2 ∧ j < 60
          · skip
            obtain ⟨h3, h4⟩ := hc
            obtain ⟨sb, so, x, rfl, _, hx, hwx, c2⟩ := HZ.out.at HB.out h3
            have c3 : (_ : World).cell? ⟨sb, so + j, none⟩ = some (.int .i64 x) := c2
            clear hx c2
            have hin := within_in x 0 300 (by omega)
            have HWI := Lib.hid (fun W => within_any W x 0 300 (by omega) (by omega) (by omega) (bdI64 hwx))
            generalize within x 0 300 = t at hin HWI
            have HIN : Hid (0 ≤ t ∧ t ≤ 300) := Lib.hid hin
            have HRG := Lib.hid HST.out.rg
            clear hwx hin
            go_wp2_with fail
            refine Calls.mono (HWI.out _) ?_
            rintro e wq ⟨rfl, rfl⟩
            clear c3 HWI
            have hnt : -9223372036854775808 ≤ now + t ∧ now + t ≤ 9223372036854775807 := by have := HRG.out; have := HIN.out; omega
            go_wp2_with fail
            refine Calls.mono (HW.out.goB (now + t) HST.out.lt) ?_
            rintro e w5 ⟨a5, c5, S5, n5, rfl, hi5, hp5, hs5, hw5, hb5⟩
            have hgn : goN now (now + t) = (now + t) := by unfold goN; have := HST.out.rg; have := HIN.out; omega
            rw [hgn] at hi5 hw5 ⊢
            obtain ⟨e5, e6⟩ := HST.out.go (t := (now + t)) (by have := HIN.out; omega) hp5 hs5
            rw [e6] at hw5
            have HE5 := Lib.hid e5
            have HW5 := Lib.hid hw5; have HI5 := Lib.hid hi5; have HB5 := Lib.hid (HB.out.trans hb5)
            have HL5 : Hid ((duL (now + t) S5).length ≤ 40) := Lib.hid (by have h1 := duL_len (now + t) S5; have h2 := hp5.length_eq; have h3 := HST.out.pm.length_eq; have h4 := List.length_filter_le (ndM c) Sf; have h5 := HST.out.ln; omega)
            clear hi5 hp5 hs5 hw5 hb5 hgn e5 e6 HW HB
            obtain ⟨L5, hL5⟩ : ∃ L, duL (now + t) S5 = L := ⟨_, rfl⟩
            rw [hL5] at HI5 HE5 HL5 ⊢
            clear hL5
            go_wp2_with (first | (at_builtin; refine wpList_append_int rfl _ _ rfl w.heap.size _ _ (duL c Sf) rfl HW5.out.own _ _ _ _ rfl HI5.out (by have h1 := duL_len c Sf; have h2 := HST.out.ln; have h3 := HL5.out; omega) HW5.out.bs ?_; intro u6 w6 ho6 hg6 hor6; obtain ⟨hw6, hb6⟩ := HW5.out.push HI5.out.1 HI5.out.2.1 ho6 hg6 hor6; have HW6 := Lib.hid hw6; have HB6 := Lib.hid (HB5.out.trans hb6); clear ho6 hg6 hor6 hw6 hb6) | fail)
            rw [HE5.out] at HW6
            clear HE5 HI5 HL5 HW5 HB5
            have HST2 := Lib.hid (HST.out.step (t := now + t) (by have := HIN.out; omega))
            go_wp2_with fail
            go_roundw
            case rel => exact ⟨j + 1, now + t, now + t, _, n5, rfl, by go_num, by omega, HB6, HW6, HST2⟩
            case measure => simp [intOf]; omega
          · skip
            have hjl : ¬ (j < len2 ∧ j < 60) := hc
            clear hc
            have HIN : Hid (now ≤ 20000) := Lib.hid (by have := HST.out.rg; omega)
            by_cases h3 : j < len2
            · skip
              have h4 : ¬ j < 60 := fun h => hjl ⟨h3, h⟩
              clear hjl
              go_wp2_with fail
              refine Calls.mono (HW.out.goB 20000 HST.out.lt) ?_
              rintro e w5 ⟨a5, c5, S5, n5, rfl, hi5, hp5, hs5, hw5, hb5⟩
              have hgn : goN now 20000 = 20000 := by unfold goN; have := HST.out.rg; have := HIN.out; omega
              rw [hgn] at hi5 hw5 ⊢
              obtain ⟨e5, e6⟩ := HST.out.go (t := 20000) (by have := HIN.out; omega) hp5 hs5
              rw [e6] at hw5
              have HE5 := Lib.hid e5
              have HW5 := Lib.hid hw5; have HI5 := Lib.hid hi5; have HB5 := Lib.hid (HB.out.trans hb5)
              have HL5 : Hid ((duL 20000 S5).length ≤ 40) := Lib.hid (by have h1 := duL_len 20000 S5; have h2 := hp5.length_eq; have h3 := HST.out.pm.length_eq; have h4 := List.length_filter_le (ndM c) Sf; have h5 := HST.out.ln; omega)
              clear hi5 hp5 hs5 hw5 hb5 hgn e5 e6 HW HB
              obtain ⟨L5, hL5⟩ : ∃ L, duL 20000 S5 = L := ⟨_, rfl⟩
              rw [hL5] at HI5 HE5 HL5 ⊢
              clear hL5
              go_wp2_with (first | (at_builtin; refine wpList_append_int rfl _ _ rfl w.heap.size _ _ (duL c Sf) rfl HW5.out.own _ _ _ _ rfl HI5.out (by have h1 := duL_len c Sf; have h2 := HST.out.ln; have h3 := HL5.out; omega) HW5.out.bs ?_; intro u6 w6 ho6 hg6 hor6; obtain ⟨hw6, hb6⟩ := HW5.out.push HI5.out.1 HI5.out.2.1 ho6 hg6 hor6; have HW6 := Lib.hid hw6; have HB6 := Lib.hid (HB5.out.trans hb6); clear ho6 hg6 hor6 hw6 hb6) | fail)
              rw [HE5.out] at HW6
              clear HE5 HI5 HL5 HW5 HB5
              have HAL : Hid (Sf.filter (ndM 20000) = []) := Lib.hid (duL_all (fun x hx => by have := (HOK.out x (HPM.out.mem_iff.1 hx)).2; omega))
              rw [HAL.out] at HW6
              go_wp2_with fail
              refine Calls.mono (HW6.out.goA 20000 (by have := HTL.out; omega)) ?_
              rintro e w7 ⟨a7, c7, S7, n7, rfl, hi7, hp7, hs7, hw7, hb7⟩
              have e7 : S7 = Sf := sorted_unique (hp7.trans HPM.out.symm) hs7 HSO.out
              subst e7
              rw [show goN 0 20000 = 20000 from rfl] at hi7 hw7 ⊢
              rw [HAL.out] at hw7
              have HW7 := Lib.hid hw7; have HI7 := Lib.hid hi7; have HB7 := Lib.hid (HB6.out.trans hb7)
              obtain ⟨a8, c8, eu, _, hai, _⟩ := ints_of_own hw7.own hw7.gwf
              have HI8 := Lib.hid hai
              have HDL := Lib.hid (Nat.le_trans (duL_len 20000 S7) HST.out.ln)
              clear hi7 hp7 hs7 hw7 hb7 HW6 HB6 hai
              subst eu
              have HSA := Lib.hid (same_int _ _ _ _ c7 c8 _ (by have := HDL.out; omega) HI7.out HI8.out)
              generalize duL 20000 S7 = L7 at HW7 HI7 HI8 HSA HDL ⊢
              clear HI7 HI8
              go_wp2_with fail
              refine Calls.mono HSA.out ?_
              rintro e w8 ⟨rfl, nd, rfl⟩
              have hdr := bl_drewN (Below.refl w7.heap.size w7) nd
              replace HW7 := Lib.hid (HW7.out.below hdr); replace HB7 := Lib.hid (bl_next HB7.out HB7.out.size hdr)
              clear hdr HSA
              go_wp2_with fail
              refine Calls.mono HW7.out.lenA ?_
              rintro e wq ⟨rfl, rfl⟩
              rw [List.length_nil]
              go_wp2_with fail
              refine Calls.mono HW7.out.lenB ?_
              rintro e wq ⟨rfl, rfl⟩
              rw [List.length_nil]
              go_wp2_with fail
              refine Calls.mono (HKN.out _) ?_
              rintro e w9 ⟨rfl, hb9⟩
              replace HB7 := Lib.hid (bl_next HB7.out HB7.out.size hb9)
              clear hb9
              go_wp2_with fail
              go_ret
              exact ⟨rfl, HB7.out⟩
            · skip
              skip
              clear hjl
              go_wp2_with fail
              refine Calls.mono (HW.out.goB 20000 HST.out.lt) ?_
              rintro e w5 ⟨a5, c5, S5, n5, rfl, hi5, hp5, hs5, hw5, hb5⟩
              have hgn : goN now 20000 = 20000 := by unfold goN; have := HST.out.rg; have := HIN.out; omega
              rw [hgn] at hi5 hw5 ⊢
              obtain ⟨e5, e6⟩ := HST.out.go (t := 20000) (by have := HIN.out; omega) hp5 hs5
              rw [e6] at hw5
              have HE5 := Lib.hid e5
              have HW5 := Lib.hid hw5; have HI5 := Lib.hid hi5; have HB5 := Lib.hid (HB.out.trans hb5)
              have HL5 : Hid ((duL 20000 S5).length ≤ 40) := Lib.hid (by have h1 := duL_len 20000 S5; have h2 := hp5.length_eq; have h3 := HST.out.pm.length_eq; have h4 := List.length_filter_le (ndM c) Sf; have h5 := HST.out.ln; omega)
              clear hi5 hp5 hs5 hw5 hb5 hgn e5 e6 HW HB
              obtain ⟨L5, hL5⟩ : ∃ L, duL 20000 S5 = L := ⟨_, rfl⟩
              rw [hL5] at HI5 HE5 HL5 ⊢
              clear hL5
              go_wp2_with (first | (at_builtin; refine wpList_append_int rfl _ _ rfl w.heap.size _ _ (duL c Sf) rfl HW5.out.own _ _ _ _ rfl HI5.out (by have h1 := duL_len c Sf; have h2 := HST.out.ln; have h3 := HL5.out; omega) HW5.out.bs ?_; intro u6 w6 ho6 hg6 hor6; obtain ⟨hw6, hb6⟩ := HW5.out.push HI5.out.1 HI5.out.2.1 ho6 hg6 hor6; have HW6 := Lib.hid hw6; have HB6 := Lib.hid (HB5.out.trans hb6); clear ho6 hg6 hor6 hw6 hb6) | fail)
              rw [HE5.out] at HW6
              clear HE5 HI5 HL5 HW5 HB5
              have HAL : Hid (Sf.filter (ndM 20000) = []) := Lib.hid (duL_all (fun x hx => by have := (HOK.out x (HPM.out.mem_iff.1 hx)).2; omega))
              rw [HAL.out] at HW6
              go_wp2_with fail
              refine Calls.mono (HW6.out.goA 20000 (by have := HTL.out; omega)) ?_
              rintro e w7 ⟨a7, c7, S7, n7, rfl, hi7, hp7, hs7, hw7, hb7⟩
              have e7 : S7 = Sf := sorted_unique (hp7.trans HPM.out.symm) hs7 HSO.out
              subst e7
              rw [show goN 0 20000 = 20000 from rfl] at hi7 hw7 ⊢
              rw [HAL.out] at hw7
              have HW7 := Lib.hid hw7; have HI7 := Lib.hid hi7; have HB7 := Lib.hid (HB6.out.trans hb7)
              obtain ⟨a8, c8, eu, _, hai, _⟩ := ints_of_own hw7.own hw7.gwf
              have HI8 := Lib.hid hai
              have HDL := Lib.hid (Nat.le_trans (duL_len 20000 S7) HST.out.ln)
              clear hi7 hp7 hs7 hw7 hb7 HW6 HB6 hai
              subst eu
              have HSA := Lib.hid (same_int _ _ _ _ c7 c8 _ (by have := HDL.out; omega) HI7.out HI8.out)
              generalize duL 20000 S7 = L7 at HW7 HI7 HI8 HSA HDL ⊢
              clear HI7 HI8
              go_wp2_with fail
              refine Calls.mono HSA.out ?_
              rintro e w8 ⟨rfl, nd, rfl⟩
              have hdr := bl_drewN (Below.refl w7.heap.size w7) nd
              replace HW7 := Lib.hid (HW7.out.below hdr); replace HB7 := Lib.hid (bl_next HB7.out HB7.out.size hdr)
              clear hdr HSA
              go_wp2_with fail
              refine Calls.mono HW7.out.lenA ?_
              rintro e wq ⟨rfl, rfl⟩
              rw [List.length_nil]
              go_wp2_with fail
              refine Calls.mono HW7.out.lenB ?_
              rintro e wq ⟨rfl, rfl⟩
              rw [List.length_nil]
              go_wp2_with fail
              refine Calls.mono (HKN.out _) ?_
              rintro e w9 ⟨rfl, hb9⟩
              replace HB7 := Lib.hid (bl_next HB7.out HB7.out.size hb9)
              clear hb9
              go_wp2_with fail
              go_ret
              exact ⟨rfl, HB7.out⟩
end Go.Proofs.Ytjkedccbieoenaa
