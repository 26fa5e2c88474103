/- wheel: play. -/
import Derived.Test.YtjkedccbieoenaaWhl29
import Derived.Test.YtjkedccbieoenaaRegion3
namespace Go.Proofs.Ytjkedccbieoenaa
open Go.RowKit
set_option linter.unusedVariables false
set_option linter.unusedSimpArgs false

set_option maxRecDepth 100000 in
set_option maxHeartbeats 16000000 in
theorem play24_any (w : World) (start : Int) (a : Option Addr) (len cap : Nat) (near : Int) (hA : Aks w a len) (hnr : 0 ≤ near ∧ near ≤ 16777216) :
    Makes Try.prog 17 #[.int .i64 start, .slice a len cap, .int .i64 near] w (.bool true) := by
  have HA := Lib.hid hA
  have HNE := Lib.hid (PlX.start w start)
  have HCL : Hid (max (min start 1099511627776) 0 = clampN start) := Lib.hid (by unfold clampN; omega)
  clear hA
  go_enter Try.func17, Try.ntmps17
  go_wp2_with fail
  refine Calls.mono HNE.out ?_
  rintro e w1 ⟨p, rfl, hb, hp⟩
  have HB := Lib.hid hb; have HP := Lib.hid hp
  clear hb hp HNE
  go_upto_region 3 with fail
  rw [HCL.out]
  go_wp2_with fail
  go_loopw [8, 9, 10] (fun s8 s9 s10 wr => ∃ (i n N cap2 : Nat) (a2 : Option Addr) (now : Int) (T m : List Tm), s8 = .int .i64 now ∧ s9 = .slice a2 N cap2 ∧ s10 = .int .i64 i ∧ i ≤ 80 ∧ n ≤ i ∧ N ≤ i ∧ Hid (N ≤ cap2 ∧ cap2 ≤ 9223372036854775807) ∧ Hid (Below w.heap.size w wr) ∧ Hid (PlX w.heap.size wr p now T n (.slice a2 N cap2) m) ∧ Hid (m.Perm T) ∧ Hid (Tms wr a2 N m)) (fun _ _ s _ => 80 - (intOf s).toNat)
  case atStart => exact ⟨0, 0, 0, 0, none, _, [], [], rfl, rfl, rfl, by omega, by omega, by omega, Lib.hid ⟨by omega, by omega⟩, HB, HP, Lib.hid (List.Perm.refl _), Lib.hid (Tms.nil _ _)⟩
  case round =>
    clear HB HP
    obtain ⟨i, n, N, cap2, a2, now, T, m, rfl, rfl, rfl, hi, hn, hN, HC, HB, HP, HM, HT⟩ := hrel
    by_cases hc : i < len ∧ i < 80
    · obtain ⟨h1, h2⟩ := hc
      obtain ⟨ab, ao, ak, ai, av, rfl, hbl, hak, hai, hav, c0, c1, c2⟩ := (HA.out.below HB.out).at h1
      have hkb := bdI64 hak; have hvb := bdI64 hav; have hib := bdI64 hai
      go_upto_region 9 with fail
      refine wp_plan (.t 0 (.t 1 (.t 2 (.t 3 (.t 4 (.t 5 (.t 6 (.t 7 (.t 8 (.t 9 (.t 10 (.t 11 (.t 12 .done))))))))))))) (fun y => Below wr.heap.size wr y) (by kernel_rfl) (by kernel_rfl) (by kernel_rfl) (fun c a d v w h => by cases d <;> exact h) (Below.refl _ _).drew ?_
      haveI hne : Nonempty (In (fun y => Below wr.heap.size wr y)) := ⟨⟨wr, Below.refl _ _⟩⟩
      have g1 : ∀ z : In (fun y => Below wr.heap.size wr y), z.w.cell? ⟨ab, ao + i * 3 + 1, none⟩ = some (.int .i64 ai) := fun z => bl_cell z.h (p := ⟨ab, ao + i * 3 + 1, none⟩) hbl c1
      have g2 : ∀ z : In (fun y => Below wr.heap.size wr y), z.w.cell? ⟨ab, ao + i * 3 + 2, none⟩ = some (.int .i64 av) := fun z => bl_cell z.h (p := ⟨ab, ao + i * 3 + 2, none⟩) hbl c2
      repeat (first | (refine plan_t (by rfl) ?_; (first | go_big_quiet_skip | (go_big_quiet_want; go_big_quiet_op; go_big_quiet_on)); refine wpQuiet_nil ?_))
      clear hne g1 g2
      show Exit.then _ _ _ _ _
      have hdr := (Below.refl wr.heap.size wr).drew
      have d0 := bl_cell hdr (p := ⟨ab, ao + i * 3, none⟩) hbl c0
      have HB1 := Lib.hid (bl_next HB.out HB.out.size hdr); have HP1 := Lib.hid (HP.out.below hdr); have HT1 := Lib.hid (HT.out.below hdr)
      clear c0 c1 c2 HB HP HT hbl
      generalize wr.drew = wd at d0 HB1 HP1 HT1 ⊢
      clear hdr
      have hid1 : -20 < ai.tmod 20 := by have := Int.lt_tmod_of_pos ai (show (0 : Int) < 20 by omega); omega
      have hid2 := Int.tmod_lt_of_pos ai (show (0 : Int) < 20 by omega)
      generalize ai.tmod 20 = id at hid1 hid2 ⊢
      have HNW := Lib.hid HP1.out.now0
      by_cases hn0 : 0 < near
      · skip
        have e1 := Int.lt_tmod_of_pos av hn0; have e2 := Int.tmod_lt_of_pos av hn0
        have e3 := Int.lt_tmod_of_pos (av.tmod near + near) hn0; have e4 := Int.tmod_lt_of_pos (av.tmod near + near) hn0
        have hnw := HNW.out
        obtain ⟨r, hr⟩ : ∃ r, av.tmod near = r := ⟨_, rfl⟩
        rw [hr] at e1 e2 e3 e4
        obtain ⟨r2, hr2⟩ : ∃ r2, (r + near).tmod near = r2 := ⟨_, rfl⟩
        rw [hr2] at e3 e4
        go_upto_block 2 with fail
        obtain ⟨at_, hat0, hat⟩ : ∃ t, now - 3 + r2 = t ∧ -9223372036854775808 ≤ t ∧ t ≤ 9223372036854775807 := ⟨_, rfl, by omega⟩
        simp only [hr, hr2, hat0]
        clear e1 e2 e3 e4 hr hr2 hat0 hnw
        refine play_do _ HP1 HM HT1 HC (K := i) (by omega) hn hN ⟨hid1, hid2⟩ hat (fun c a d v w h => by cases d <;> exact h) ?_
        rintro _ _ _ _ _ _ _ _ _ _ _ _ _ _ _ _ _ _ _ _ _ _ _ _ _ _ _ _ _ _ _ _ _ _ _ _ _ _ _ _ _ _ _ _ _ _ _ _ _ _ _ _ _ _ _ _ _ _ _ _ _ _ _ _ _ _ _ _ _ _ _ _ _ now2 v2 T2 m2 n2 w2 HP2 HM2 hn2 hm2 HB2
        obtain ⟨a3, c3, rfl, hle3, hcm3, htm3⟩ := HP2.out.lst
        have HT3 := Lib.hid htm3; have HC3 := Lib.hid (And.intro hle3 hcm3)
        clear htm3 hle3 hcm3 HP1 HT1 HC
        obtain ⟨N2, hN2⟩ : ∃ k, m2.length = k := ⟨_, rfl⟩
        rw [hN2] at HT3 HC3 HP2 hm2 ⊢
        have HN2 := Lib.hid hN2
        clear hN2
        have HTL : Hid (T2.length = N2) := Lib.hid (by rw [← HM2.out.length_eq]; exact HN2.out)
        go_upto_block 3 with fail
        refine play_see _ HP2 HM2 HT3 (by omega) (fun c a d v w h => by cases d <;> exact h) ?_
        rintro _ _ _ _ _ _ _ _ _ _ _ _ _ _ _ _ _ _ _ _ _ _ _ _ _ _ _ _ _ _ _ _ _ _ _ _ _ _ _ _ _ _ _ _ _ _ _ lst w3 rfl hlst
        have HL := Lib.hid hlst
        clear hlst
        go_wp2_with fail
        refine Calls.mono (HP2.out.next (by rw [HTL.out]; omega)) ?_
        rintro e w4 ⟨n4, s4, rfl, hb4, hl4⟩
        obtain ⟨e1, e2⟩ := hl4.unique (HL.out.perm (HM2.out.map Prod.snd))
        subst e1; subst e2
        have HP4 := Lib.hid (HP2.out.below hb4); have HT4 := Lib.hid (HT3.out.below hb4); have HB4 := Lib.hid (bl_next (HB1.out.trans (HB2.out)) (HB1.out.trans HB2.out).size hb4)
        clear hb4 hl4 HP2 HT3 HB2
        have hN2c : decide (0 < N2) = decide ((0 : Int) < (N2 : Int)) := by congr 1; simp only [eq_iff_iff]; omega
        rw [hN2c]
        by_cases h0 : (0 : Int) < (N2 : Int)
        · skip
          have h0d : decide ((0 : Int) < (N2 : Int)) = true := by simpa using h0
          rw [h0d]
          clear hN2c
          go_wp2_with fail
          refine Calls.mono HP4.out.len ?_
          rintro e wq ⟨rfl, rfl⟩
          rw [HTL.out]
          go_wp2_with fail
          refine Calls.mono HP4.out.clock ?_
          rintro e wq ⟨rfl, rfl⟩
          go_wp2_with fail
          go_roundw
          case rel => exact ⟨i + 1, n2, N2, c3, a3, now2, T2, m2, rfl, rfl, by go_num, by omega, by omega, by omega, HC3, HB4, HP4, HM2, HT4⟩
          case measure => simp [intOf]; omega
        · skip
          have h0d : decide ((0 : Int) < (N2 : Int)) = false := by simpa using h0
          rw [h0d]
          clear hN2c
          go_wp2_with fail
          refine Calls.mono HP4.out.len ?_
          rintro e wq ⟨rfl, rfl⟩
          rw [HTL.out]
          go_wp2_with fail
          refine Calls.mono HP4.out.clock ?_
          rintro e wq ⟨rfl, rfl⟩
          go_wp2_with fail
          go_roundw
          case rel => exact ⟨i + 1, n2, N2, c3, a3, now2, T2, m2, rfl, rfl, by go_num, by omega, by omega, by omega, HC3, HB4, HP4, HM2, HT4⟩
          case measure => simp [intOf]; omega
      · skip
        have hat := hvb
        go_upto_block 2 with fail
        refine play_do _ HP1 HM HT1 HC (K := i) (by omega) hn hN ⟨hid1, hid2⟩ hat (fun c a d v w h => by cases d <;> exact h) ?_
        rintro _ _ _ _ _ _ _ _ _ _ _ _ _ _ _ _ _ _ _ _ _ _ _ _ _ _ _ _ _ _ _ _ _ _ _ _ _ _ _ _ _ _ _ _ _ _ _ _ _ _ _ _ _ _ _ _ _ _ _ _ _ _ _ _ _ _ _ _ _ _ _ _ _ now2 v2 T2 m2 n2 w2 HP2 HM2 hn2 hm2 HB2
        obtain ⟨a3, c3, rfl, hle3, hcm3, htm3⟩ := HP2.out.lst
        have HT3 := Lib.hid htm3; have HC3 := Lib.hid (And.intro hle3 hcm3)
        clear htm3 hle3 hcm3 HP1 HT1 HC
        obtain ⟨N2, hN2⟩ : ∃ k, m2.length = k := ⟨_, rfl⟩
        rw [hN2] at HT3 HC3 HP2 hm2 ⊢
        have HN2 := Lib.hid hN2
        clear hN2
        have HTL : Hid (T2.length = N2) := Lib.hid (by rw [← HM2.out.length_eq]; exact HN2.out)
        go_upto_block 3 with fail
        refine play_see _ HP2 HM2 HT3 (by omega) (fun c a d v w h => by cases d <;> exact h) ?_
        rintro _ _ _ _ _ _ _ _ _ _ _ _ _ _ _ _ _ _ _ _ _ _ _ _ _ _ _ _ _ _ _ _ _ _ _ _ _ _ _ _ _ _ _ _ _ _ _ lst w3 rfl hlst
        have HL := Lib.hid hlst
        clear hlst
        go_wp2_with fail
        refine Calls.mono (HP2.out.next (by rw [HTL.out]; omega)) ?_
        rintro e w4 ⟨n4, s4, rfl, hb4, hl4⟩
        obtain ⟨e1, e2⟩ := hl4.unique (HL.out.perm (HM2.out.map Prod.snd))
        subst e1; subst e2
        have HP4 := Lib.hid (HP2.out.below hb4); have HT4 := Lib.hid (HT3.out.below hb4); have HB4 := Lib.hid (bl_next (HB1.out.trans (HB2.out)) (HB1.out.trans HB2.out).size hb4)
        clear hb4 hl4 HP2 HT3 HB2
        have hN2c : decide (0 < N2) = decide ((0 : Int) < (N2 : Int)) := by congr 1; simp only [eq_iff_iff]; omega
        rw [hN2c]
        by_cases h0 : (0 : Int) < (N2 : Int)
        · skip
          have h0d : decide ((0 : Int) < (N2 : Int)) = true := by simpa using h0
          rw [h0d]
          clear hN2c
          go_wp2_with fail
          refine Calls.mono HP4.out.len ?_
          rintro e wq ⟨rfl, rfl⟩
          rw [HTL.out]
          go_wp2_with fail
          refine Calls.mono HP4.out.clock ?_
          rintro e wq ⟨rfl, rfl⟩
          go_wp2_with fail
          go_roundw
          case rel => exact ⟨i + 1, n2, N2, c3, a3, now2, T2, m2, rfl, rfl, by go_num, by omega, by omega, by omega, HC3, HB4, HP4, HM2, HT4⟩
          case measure => simp [intOf]; omega
        · skip
          have h0d : decide ((0 : Int) < (N2 : Int)) = false := by simpa using h0
          rw [h0d]
          clear hN2c
          go_wp2_with fail
          refine Calls.mono HP4.out.len ?_
          rintro e wq ⟨rfl, rfl⟩
          rw [HTL.out]
          go_wp2_with fail
          refine Calls.mono HP4.out.clock ?_
          rintro e wq ⟨rfl, rfl⟩
          go_wp2_with fail
          go_roundw
          case rel => exact ⟨i + 1, n2, N2, c3, a3, now2, T2, m2, rfl, rfl, by go_num, by omega, by omega, by omega, HC3, HB4, HP4, HM2, HT4⟩
          case measure => simp [intOf]; omega
    · skip
      by_cases h1 : i < len
      · have h2 : ¬ i < 80 := fun h => hc ⟨h1, h⟩
        clear hc
        go_wp2_with fail
        go_ret
        exact ⟨rfl, HB.out⟩
      · skip
        clear hc
        go_wp2_with fail
        go_ret
        exact ⟨rfl, HB.out⟩
end Go.Proofs.Ytjkedccbieoenaa
