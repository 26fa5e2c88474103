/- wheel: WheelDrops. -/
import Derived.Test.YtjkedccbieoenaaWhl22
import Derived.Test.YtjkedccbieoenaaRegion3
namespace Go.Proofs.Ytjkedccbieoenaa
open Go.RowKit
set_option linter.unusedVariables false
set_option linter.unusedSimpArgs false

theorem DrW.of {w w1 : World} {p b : Nat} (hw : WhAt w1 p [p, b] 0 [] nilRows b 0) (h1 : w.heap.size ≤ p) (h2 : w.heap.size ≤ b) (hs : w.heap.size ≤ w1.heap.size) (A : List Int) :
    DrW w.heap.size (w1.alloc (.cells (A.map (Value.int .i64)).toArray 35)) p 0 [] 0 w1.heap.size A := by
  have hal := (Below.refl w1.heap.size w1).alloc (Nat.le_refl _) (.cells (A.map (Value.int .i64)).toArray 35)
  refine ⟨_, _, _, hw.below hal, fun q hq => ?_, fun hm => ?_, heap_alloc_new _ _, hs, Nat.le_trans hs hal.size⟩
  · simp only [List.mem_cons, List.not_mem_nil, or_false] at hq
    rcases hq with rfl | rfl <;> omega
  · have := hw.rs.lt _ hm; omega
set_option maxRecDepth 100000 in
set_option maxHeartbeats 16000000 in
theorem drops24_any (w : World) (a : Option Addr) (len cap : Nat) (hA : Aks w a len) :
    Makes Try.prog 4 #[.slice a len cap] w (.bool true) := by
  have HA := Lib.hid hA
  have HNE := Lib.hid (fun W => new2_any W)
  have HKN := Lib.hid known24_any
  clear hA
  go_enter Try.func4, Try.ntmps4
  go_wp2_with fail
  refine Calls.mono (HNE.out _) ?_
  rintro e w1 ⟨p, ba, rfl, hb, hp1, hp2, hw⟩
  have hdr := DrW.of hw hp1 hp2 hb.size ([0, 0, 0, 0, 0, 0, 0, 0, 0, 0, 0, 0, 0, 0, 0, 0, 0, 0, 0, 0] : List Int)
  have hbb := bl_next hb hb.size ((Below.refl w1.heap.size w1).alloc (Nat.le_refl _) (.cells (([0, 0, 0, 0, 0, 0, 0, 0, 0, 0, 0, 0, 0, 0, 0, 0, 0, 0, 0, 0] : List Int).map (Value.int .i64)).toArray 35))
  clear hb hp1 hp2 hw HNE
  go_upto_region 5 with fail
  change Code.wp _ _ _ _ (w1.alloc (.cells (([0, 0, 0, 0, 0, 0, 0, 0, 0, 0, 0, 0, 0, 0, 0, 0, 0, 0, 0, 0] : List Int).map (Value.int .i64)).toArray 35))
  generalize w1.alloc (.cells (([0, 0, 0, 0, 0, 0, 0, 0, 0, 0, 0, 0, 0, 0, 0, 0, 0, 0, 0, 0] : List Int).map (Value.int .i64)).toArray 35) = w2 at hdr hbb ⊢
  generalize w1.heap.size = g at hdr ⊢
  have HD := Lib.hid hdr; have HB := Lib.hid hbb
  clear hdr hbb
  obtain ⟨A0, hA0, hl0⟩ : ∃ A : List Int, A = [0, 0, 0, 0, 0, 0, 0, 0, 0, 0, 0, 0, 0, 0, 0, 0, 0, 0, 0, 0] ∧ A.length = 20 := ⟨_, rfl, rfl⟩
  rw [← hA0] at HD
  have HL := Lib.hid hl0
  clear hA0 hl0
  go_wp2_with fail
  go_loopw [5] (fun i wr => ∃ (k : Nat) (A : List Int), i = .int .i64 k ∧ k ≤ 20 ∧ Hid (Below w.heap.size w wr) ∧ Hid (DrW w.heap.size wr p 0 [] 0 g A) ∧ Hid (A.length = 20) ∧ Hid (∀ j : Nat, j < k → A[j]? = some (-1))) (fun i _ => 20 - (intOf i).toNat)
  case atStart => exact ⟨0, A0, rfl, by omega, HB, HD, HL, Lib.hid (fun j hj => by omega)⟩
  case round =>
    clear HB HD HL
    obtain ⟨k, A, rfl, hk, HB, HD, HL, HM⟩ := hrel
    by_cases hlt : k < 20
    · obtain ⟨v, hv⟩ : ∃ v, A[k]? = some v := ⟨_, List.getElem?_eq_getElem (by rw [HL.out]; exact hlt)⟩
      have c0 := HD.out.cell hv; have f0 := HD.out.free k
      obtain ⟨hd2, hb2, _⟩ := HD.out.put k (-1)
      have HD2 := Lib.hid hd2; have HB2 := Lib.hid (HB.out.trans hb2)
      clear hd2 hb2 hv
      go_wp2_with fail
      generalize wr.setCell ⟨g, k, none⟩ (.int .i64 (-1)) = w3 at HD2 HB2 ⊢
      go_roundw
      case rel => exact ⟨k + 1, A.set k (-1), by go_num, by omega, HB2, HD2, Lib.hid (by rw [List.length_set]; exact HL.out), Lib.hid (fun j hj => by
        by_cases e : k = j
        · subst e; rw [List.getElem?_set_self (by rw [HL.out]; exact hlt)]
        · rw [List.getElem?_set_ne e]; exact HM.out j (by omega))⟩
      case measure => simp [intOf]; omega
    · have hk20 : k = 20 := by omega
      have HI : Hid (AtI A []) := Lib.hid ⟨HL.out, (fun x hx => by cases hx), fun j hj _ => HM.out j (by omega)⟩
      clear hk20 HL HM
      go_wp2_with fail
      go_loopw [6] (fun i wr => ∃ (k n : Nat) (A : List Int) (T : List Tm), i = .int .i64 k ∧ k ≤ 60 ∧ n ≤ k ∧ Hid (Below w.heap.size w wr) ∧ Hid (DrW w.heap.size wr p 0 T n g A) ∧ Hid (AtI A T)) (fun i _ => 60 - (intOf i).toNat)
      case atStart => exact ⟨0, 0, A, [], rfl, by omega, by omega, HB, HD, HI⟩
      case round =>
        clear HB HD HI
        obtain ⟨k, n, A, T, rfl, hk, hn, HB, HD, HI⟩ := hrel
        have HTL : Hid (T.length ≤ 20) := Lib.hid (HI.out.le HD.out.nd)
        by_cases hc : k < len ∧ k < 60
        · obtain ⟨h1, h2⟩ := hc
          obtain ⟨ab, ao, ak, ai, av, rfl, hbl, hak, hai, hav, c0, c1, c2⟩ := (HA.out.below HB.out).at h1
          have hin := within_in ai 0 19 (by omega)
          have HWI := Lib.hid (fun W => within_any W ai 0 19 (by omega) (by omega) (by omega) (bdI64 hai))
          generalize within ai 0 19 = i at hin HWI
          obtain ⟨q, rfl⟩ : ∃ q : Nat, i = q := ⟨i.toNat, by omega⟩
          have hq : q < 20 := by omega
          have hit := within_in av 1 100000 (by omega)
          have HWT := Lib.hid (fun W => within_any W av 1 100000 (by omega) (by omega) (by omega) (bdI64 hav))
          generalize within av 1 100000 = t at hit HWT
          have HIT := Lib.hid hit
          have hkb := bdI64 hak
          clear hak hai hav hin hit
          go_wp2_with fail
          refine Calls.mono (HWI.out _) ?_
          rintro e wq ⟨rfl, rfl⟩
          go_wp2_with fail
          refine Calls.mono (HWT.out _) ?_
          rintro e wq ⟨rfl, rfl⟩
          clear HWI HWT
          obtain ⟨v, hv, hv1, hv2, hvd⟩ := HI.out.at hq
          have HV := Lib.hid hv; have HVD := Lib.hid hvd
          clear hv hvd
          by_cases hk3 : ak.tmod 3 = 0
          · skip
            by_cases hv0 : 0 ≤ v
            · skip
              have hde : decide ((q : Int) ∈ T.map Prod.fst) = true := by rw [← HVD.out]; simpa using hv0
              go_upto_region 15 with fail
              have hS0 : (fun y => y.cell? ⟨g, q, none⟩ = some (.int .i64 v)) wr.drew := HD.out.cell HV.out
              refine wp_plan (.t 0 (.t 1 (.t 3 (.t 4 (.t 5 (.t 6 (.u 2 (.t 7 .done)))))))) (fun y => y.cell? ⟨g, q, none⟩ = some (.int .i64 v)) (by kernel_rfl) (by kernel_rfl) (by kernel_rfl) (fun c a d v w h => by cases d <;> exact h) hS0 ?_
              have f1 : ∀ z : In (fun y => y.cell? ⟨g, q, none⟩ = some (.int .i64 v)), z.w.cell? ⟨g, q, none⟩ = some (.int .i64 v) := fun z => z.h
              haveI hne : Nonempty (In (fun y => y.cell? ⟨g, q, none⟩ = some (.int .i64 v))) := ⟨⟨wr.drew, hS0⟩⟩
              repeat (first | (refine plan_t (by rfl) ?_; (first | go_big_quiet_skip | (go_big_quiet_want; go_big_quiet_op; go_big_quiet_on)); refine wpQuiet_nil ?_))
              clear f1
              have hD1 : DrW w.heap.size wr.drew p 0 T n g A := HD.out.below (Below.refl _ _).drew
              have HB1 := Lib.hid (bl_next HB.out HB.out.size (Below.refl wr.heap.size wr).drew)
              generalize wr.drew = w4 at hD1 HB1 ⊢
              refine plan_us (by rfl) (by kernel_rfl) ?_
              intro K hK
              go_wp2_with fail
              refine Calls.mono (hD1.drop (q : Int) (wf_i64_of (by omega) (by omega)) (by have := HTL.out; omega)) ?_
              rintro e w5 ⟨rfl, hD5, hb5⟩
              have hS5 := hD5.cell HV.out
              rw [hde]
              clear hde
              go_wp2_with fail
              refine ⟨hS5, ?_⟩
              repeat (first | (refine plan_t (by rfl) ?_; (first | go_big_quiet_skip | (go_big_quiet_want; go_big_quiet_op; go_big_quiet_on)); refine wpQuiet_nil ?_))
              clear hne hS0 hS5
              show Exit.then _ _ _ _ _
              have HD5 := Lib.hid hD5; have HB5 := Lib.hid (HB1.out.trans hb5)
              clear hD1 hD5 hb5 HB1
              have c9 := HD5.out.cell HV.out; have f9 := HD5.out.free q
              obtain ⟨hd2, hb2, _⟩ := HD5.out.put q (-1)
              have HD2 := Lib.hid hd2; have HB2 := Lib.hid (HB5.out.trans hb2)
              clear hd2 hb2
              go_wp2_with fail
              generalize w5.setCell ⟨g, q, none⟩ (.int .i64 (-1)) = w6 at HD2 HB2 ⊢
              go_roundw
              case rel => exact ⟨k + 1, n, _, _, by go_num, by omega, by omega, HB2, HD2, Lib.hid (HI.out.drop hq)⟩
              case measure => simp [intOf]; omega
            · skip
              have hde : decide ((q : Int) ∈ T.map Prod.fst) = false := by rw [← HVD.out]; simpa using hv0
              go_upto_region 15 with fail
              have hS0 : (fun y => y.cell? ⟨g, q, none⟩ = some (.int .i64 v)) wr.drew := HD.out.cell HV.out
              refine wp_plan (.t 0 (.t 1 (.t 3 (.t 4 (.t 5 (.t 6 (.u 2 (.t 7 .done)))))))) (fun y => y.cell? ⟨g, q, none⟩ = some (.int .i64 v)) (by kernel_rfl) (by kernel_rfl) (by kernel_rfl) (fun c a d v w h => by cases d <;> exact h) hS0 ?_
              have f1 : ∀ z : In (fun y => y.cell? ⟨g, q, none⟩ = some (.int .i64 v)), z.w.cell? ⟨g, q, none⟩ = some (.int .i64 v) := fun z => z.h
              haveI hne : Nonempty (In (fun y => y.cell? ⟨g, q, none⟩ = some (.int .i64 v))) := ⟨⟨wr.drew, hS0⟩⟩
              repeat (first | (refine plan_t (by rfl) ?_; (first | go_big_quiet_skip | (go_big_quiet_want; go_big_quiet_op; go_big_quiet_on)); refine wpQuiet_nil ?_))
              clear f1
              have hD1 : DrW w.heap.size wr.drew p 0 T n g A := HD.out.below (Below.refl _ _).drew
              have HB1 := Lib.hid (bl_next HB.out HB.out.size (Below.refl wr.heap.size wr).drew)
              generalize wr.drew = w4 at hD1 HB1 ⊢
              refine plan_us (by rfl) (by kernel_rfl) ?_
              intro K hK
              go_wp2_with fail
              refine Calls.mono (hD1.drop (q : Int) (wf_i64_of (by omega) (by omega)) (by have := HTL.out; omega)) ?_
              rintro e w5 ⟨rfl, hD5, hb5⟩
              have hS5 := hD5.cell HV.out
              rw [hde]
              clear hde
              go_wp2_with fail
              refine ⟨hS5, ?_⟩
              repeat (first | (refine plan_t (by rfl) ?_; (first | go_big_quiet_skip | (go_big_quiet_want; go_big_quiet_op; go_big_quiet_on)); refine wpQuiet_nil ?_))
              clear hne hS0 hS5
              show Exit.then _ _ _ _ _
              have HD5 := Lib.hid hD5; have HB5 := Lib.hid (HB1.out.trans hb5)
              clear hD1 hD5 hb5 HB1
              have c9 := HD5.out.cell HV.out; have f9 := HD5.out.free q
              obtain ⟨hd2, hb2, _⟩ := HD5.out.put q (-1)
              have HD2 := Lib.hid hd2; have HB2 := Lib.hid (HB5.out.trans hb2)
              clear hd2 hb2
              go_wp2_with fail
              generalize w5.setCell ⟨g, q, none⟩ (.int .i64 (-1)) = w6 at HD2 HB2 ⊢
              go_roundw
              case rel => exact ⟨k + 1, n, _, _, by go_num, by omega, by omega, HB2, HD2, Lib.hid (HI.out.drop hq)⟩
              case measure => simp [intOf]; omega
          · skip
            have hdt : dueM 0 t = t := by unfold dueM; rw [if_neg (by have := HIT.out; omega)]
            have HDT := Lib.hid hdt
            clear hdt
            go_wp2_with fail
            refine Calls.mono (HD.out.set (q : Int) t (wf_i64_of (by omega) (by omega)) (by have := HIT.out; omega) (by omega) (by have := HTL.out; omega)) ?_
            rintro e w5 ⟨rfl, hD5, hb5⟩
            rw [HDT.out] at hD5
            have HD5 := Lib.hid hD5; have HB5 := Lib.hid (HB.out.trans hb5)
            clear hD5 hb5
            have c9 := HD5.out.cell HV.out; have f9 := HD5.out.free q
            obtain ⟨hd2, hb2, _⟩ := HD5.out.put q t
            have HD2 := Lib.hid hd2; have HB2 := Lib.hid (HB5.out.trans hb2)
            clear hd2 hb2
            go_wp2_with fail
            generalize w5.setCell ⟨g, q, none⟩ (.int .i64 t) = w6 at HD2 HB2 ⊢
            go_roundw
            case rel => exact ⟨k + 1, n + 1, _, _, by go_num, by omega, by omega, HB2, HD2, Lib.hid (HI.out.put hq HIT.out)⟩
            case measure => simp [intOf]; omega
        · skip
          have HDI : Hid (DrI T 0 0) := Lib.hid ⟨HTL.out, fun x hx => by have := HI.out.ok x hx; omega, Int.le_refl _⟩
          have hkl : ¬ (k < len ∧ k < 60) := hc
          clear hc
          by_cases h1 : k < len
          · skip
            have h2 : ¬ k < 60 := fun h => hkl ⟨h1, h⟩
            clear hkl
            go_wp2_with fail
            go_loopw [9] (fun i wr => ∃ (j n : Nat) (now : Int) (A : List Int) (T : List Tm), i = .int .i64 j ∧ j ≤ 30 ∧ Hid (Below w.heap.size w wr) ∧ Hid (DrW w.heap.size wr p now T n g A) ∧ Hid (AtI A T) ∧ Hid (DrI T now j)) (fun i _ => 30 - (intOf i).toNat)
            case atStart => exact ⟨0, n, 0, A, T, rfl, by omega, HB, HD, HI, HDI⟩
            case round =>
              clear HB HD HI HDI HTL
              obtain ⟨j, n, now, A, T, rfl, hj, HB, HD, HI, HDI⟩ := hrel
              have hj2 : j < 30 := by have := HDI.out.cnt; omega
              go_wp2_with fail
              refine Calls.mono (HD.out.next (by have := HDI.out.cnt; omega)) ?_
              rintro e w3 ⟨n1, s1, rfl, hb3, hl3⟩
              replace HD := Lib.hid (HD.out.below hb3); replace HB := Lib.hid (bl_next HB.out HB.out.size hb3)
              have HL3 := Lib.hid hl3
              clear hb3 hl3
              cases s1
              · skip
                obtain rfl : T = [] := List.map_eq_nil_iff.1 HL3.out.none
                clear HL3 HDI
                go_wp2_with fail
                go_loopw [16] (fun i wr => ∃ (k : Nat), i = .int .i64 k ∧ k ≤ 20 ∧ Hid (wr = w3)) (fun i _ => 20 - (intOf i).toNat)
                case atStart => exact ⟨0, rfl, by omega, Lib.hid rfl⟩
                case round =>
                  obtain ⟨k2, rfl, hk2, hw3⟩ := hrel
                  obtain rfl := hw3.out
                  by_cases hlt : k2 < 20
                  · have c9 := HD.out.cell (HI.out.no k2 hlt (by simp))
                    go_wp2_with fail
                    go_roundw
                    case rel => exact ⟨k2 + 1, by go_num, by omega, by first | exact Lib.hid rfl | trivial⟩
                    case measure => simp [intOf]; omega
                  · obtain rfl : k2 = 20 := by omega
                    go_wp2_with fail
                    refine Calls.mono HD.out.len ?_
                    rintro e wq ⟨rfl, rfl⟩
                    rw [List.length_nil]
                    go_wp2_with fail
                    refine Calls.mono (HKN.out _) ?_
                    rintro e w9 ⟨rfl, hb9⟩
                    replace HB := Lib.hid (bl_next HB.out HB.out.size hb9)
                    clear hb9
                    go_wp2_with fail
                    go_ret
                    exact ⟨rfl, HB.out⟩
              · skip
                go_wp2_with fail
                refine Calls.mono (HD.out.go n1 (by have := HDI.out.cnt; omega)) ?_
                rintro e w4 ⟨a4, c4, S, n4, rfl, hi4, hp4, hs4, hx4, hn4, hd4, hb4⟩
                obtain ⟨hdi2, hlo, hlt⟩ := HDI.out.go HL3.out hp4
                have hgn : goN now n1 = n1 := by unfold goN; obtain ⟨y, hy, e⟩ := List.mem_map.1 HL3.out.yes.1; have := HI.out.ok y hy; omega
                rw [hgn] at hi4 hd4 ⊢
                have HNS : Hid ((S.map Prod.fst).Nodup) := Lib.hid (((hp4.map Prod.fst).nodup_iff).2 HD.out.nd)
                have HD4 := Lib.hid hd4; have HB4 := Lib.hid (HB.out.trans hb4); have HI4 := Lib.hid hi4; have HX4 := Lib.hid hx4; have HDI2 := Lib.hid hdi2; have HLO := Lib.hid hlo
                have hr0 := HI.out.perm hp4
                rw [← remT_zero S (duL n1 S)] at hr0
                have HR0 := Lib.hid hr0
                have HST : Hid (n4 ≤ 20) := Lib.hid (by have := HDI.out.cnt; omega)
                have hll : (duL n1 S).length ≤ 20 := by have h1 := duL_len n1 S; have h2 := hp4.length_eq; have h3 := HDI.out.cnt; omega
                clear hi4 hp4 hs4 hx4 hn4 hd4 hb4 hdi2 hlo hlt hgn hr0 HB HD HI HDI HL3
                obtain ⟨L, hL⟩ : ∃ L, duL n1 S = L := ⟨_, rfl⟩
                have HLE := Lib.hid hL
                rw [hL] at HI4 HR0 hll ⊢
                clear hL
                obtain ⟨nL, hnL⟩ : ∃ m, L.length = m := ⟨_, rfl⟩
                have HNL := Lib.hid hnL
                rw [hnL] at HI4 hll ⊢
                clear hnL
                go_wp2_with fail
                go_loopw [88] (fun i wr => ∃ (m : Nat) (A : List Int), i = .int .i64 m ∧ m ≤ nL ∧ Hid (Below w.heap.size w wr) ∧ Hid (DrW w.heap.size wr p n1 (S.filter (ndM n1)) n4 g A) ∧ Hid (AtI A (remT S L m)) ∧ Hid (IntsK .i64 wr a4 nL L)) (fun i _ => nL - (intOf i).toNat)
                case atStart => exact ⟨0, _, rfl, by omega, HB4, HD4, HR0, HI4⟩
                case round =>
                  clear HB4 HD4 HR0 HI4
                  obtain ⟨m, A4, rfl, hm, HB4, HD4, HR4, HI4⟩ := hrel
                  by_cases hlm : m < nL
                  · skip
                    obtain ⟨lb, lo, x, rfl, _, hx, hwx, c2⟩ := HI4.out.at (Below.refl _ _) hlm
                    have hLm : L[m]? = some x := by rw [List.getD_eq_getElem?_getD] at hx; rw [List.getElem?_eq_getElem (by rw [HNL.out]; exact hlm)] at hx ⊢; rw [hx]; rfl
                    obtain ⟨q, rfl, hq, hAq⟩ := remT_at (n := n1) HNS.out HLO.out (by rw [HLE.out]; exact HR4.out) (by rw [HLE.out]; exact hLm)
                    have hrd := HR4.out.drop hq
                    rw [remT_succ hLm] at hrd
                    have HRD := Lib.hid hrd
                    have c9 := HD4.out.cell hAq; have f9 := HD4.out.free q
                    obtain ⟨hd5, hb5, ho5⟩ := HD4.out.put q (-1)
                    have HD5 := Lib.hid hd5; have HB5 := Lib.hid (HB4.out.trans hb5); have HI5 := Lib.hid (ints_off HI4.out ho5 (fun y hy hmm => HX4.out y hy (List.mem_singleton.1 hmm)))
                    clear hx hLm hrd hAq hd5 hb5 ho5
                    go_wp2_with fail
                    generalize wr.setCell ⟨g, q, none⟩ (.int .i64 (-1)) = w6 at HD5 HB5 HI5 ⊢
                    go_roundw
                    case rel => exact ⟨m + 1, _, by go_num, by omega, HB5, HD5, HRD, HI5⟩
                    case measure => simp [intOf]; omega
                  · obtain rfl : m = nL := by omega
                    have hr9 := HR4.out
                    rw [← HNL.out, ← HLE.out, remT_last HNS.out] at hr9
                    have HR9 := Lib.hid hr9
                    clear hr9 HR4 HI4 HX4
                    go_wp2_with fail
                    refine Calls.mono (HD4.out.next (by have := HDI2.out.cnt; omega)) ?_
                    rintro e w7 ⟨n2, s2, rfl, hb7, hl7⟩
                    replace HD4 := Lib.hid (HD4.out.below hb7); replace HB4 := Lib.hid (bl_next HB4.out HB4.out.size hb7)
                    clear hb7
                    cases s2
                    · go_wp2_with fail
                      go_roundw
                      case rel => exact ⟨j + 1, _, _, _, _, by go_num, by omega, HB4, HD4, HR9, HDI2⟩
                      case measure => simp [intOf]; omega
                    · have hgt : n1 < n2 := by obtain ⟨y, hy, e⟩ := List.mem_map.1 hl7.yes.1; have := HDI2.out.gt y hy; omega
                      go_wp2_with fail
                      go_roundw
                      case rel => exact ⟨j + 1, _, _, _, _, by go_num, by omega, HB4, HD4, HR9, HDI2⟩
                      case measure => simp [intOf]; omega
          · skip
            skip
            clear hkl
            go_wp2_with fail
            go_loopw [9] (fun i wr => ∃ (j n : Nat) (now : Int) (A : List Int) (T : List Tm), i = .int .i64 j ∧ j ≤ 30 ∧ Hid (Below w.heap.size w wr) ∧ Hid (DrW w.heap.size wr p now T n g A) ∧ Hid (AtI A T) ∧ Hid (DrI T now j)) (fun i _ => 30 - (intOf i).toNat)
            case atStart => exact ⟨0, n, 0, A, T, rfl, by omega, HB, HD, HI, HDI⟩
            case round =>
              clear HB HD HI HDI HTL
              obtain ⟨j, n, now, A, T, rfl, hj, HB, HD, HI, HDI⟩ := hrel
              have hj2 : j < 30 := by have := HDI.out.cnt; omega
              go_wp2_with fail
              refine Calls.mono (HD.out.next (by have := HDI.out.cnt; omega)) ?_
              rintro e w3 ⟨n1, s1, rfl, hb3, hl3⟩
              replace HD := Lib.hid (HD.out.below hb3); replace HB := Lib.hid (bl_next HB.out HB.out.size hb3)
              have HL3 := Lib.hid hl3
              clear hb3 hl3
              cases s1
              · skip
                obtain rfl : T = [] := List.map_eq_nil_iff.1 HL3.out.none
                clear HL3 HDI
                go_wp2_with fail
                go_loopw [16] (fun i wr => ∃ (k : Nat), i = .int .i64 k ∧ k ≤ 20 ∧ Hid (wr = w3)) (fun i _ => 20 - (intOf i).toNat)
                case atStart => exact ⟨0, rfl, by omega, Lib.hid rfl⟩
                case round =>
                  obtain ⟨k2, rfl, hk2, hw3⟩ := hrel
                  obtain rfl := hw3.out
                  by_cases hlt : k2 < 20
                  · have c9 := HD.out.cell (HI.out.no k2 hlt (by simp))
                    go_wp2_with fail
                    go_roundw
                    case rel => exact ⟨k2 + 1, by go_num, by omega, by first | exact Lib.hid rfl | trivial⟩
                    case measure => simp [intOf]; omega
                  · obtain rfl : k2 = 20 := by omega
                    go_wp2_with fail
                    refine Calls.mono HD.out.len ?_
                    rintro e wq ⟨rfl, rfl⟩
                    rw [List.length_nil]
                    go_wp2_with fail
                    refine Calls.mono (HKN.out _) ?_
                    rintro e w9 ⟨rfl, hb9⟩
                    replace HB := Lib.hid (bl_next HB.out HB.out.size hb9)
                    clear hb9
                    go_wp2_with fail
                    go_ret
                    exact ⟨rfl, HB.out⟩
              · skip
                go_wp2_with fail
                refine Calls.mono (HD.out.go n1 (by have := HDI.out.cnt; omega)) ?_
                rintro e w4 ⟨a4, c4, S, n4, rfl, hi4, hp4, hs4, hx4, hn4, hd4, hb4⟩
                obtain ⟨hdi2, hlo, hlt⟩ := HDI.out.go HL3.out hp4
                have hgn : goN now n1 = n1 := by unfold goN; obtain ⟨y, hy, e⟩ := List.mem_map.1 HL3.out.yes.1; have := HI.out.ok y hy; omega
                rw [hgn] at hi4 hd4 ⊢
                have HNS : Hid ((S.map Prod.fst).Nodup) := Lib.hid (((hp4.map Prod.fst).nodup_iff).2 HD.out.nd)
                have HD4 := Lib.hid hd4; have HB4 := Lib.hid (HB.out.trans hb4); have HI4 := Lib.hid hi4; have HX4 := Lib.hid hx4; have HDI2 := Lib.hid hdi2; have HLO := Lib.hid hlo
                have hr0 := HI.out.perm hp4
                rw [← remT_zero S (duL n1 S)] at hr0
                have HR0 := Lib.hid hr0
                have HST : Hid (n4 ≤ 20) := Lib.hid (by have := HDI.out.cnt; omega)
                have hll : (duL n1 S).length ≤ 20 := by have h1 := duL_len n1 S; have h2 := hp4.length_eq; have h3 := HDI.out.cnt; omega
                clear hi4 hp4 hs4 hx4 hn4 hd4 hb4 hdi2 hlo hlt hgn hr0 HB HD HI HDI HL3
                obtain ⟨L, hL⟩ : ∃ L, duL n1 S = L := ⟨_, rfl⟩
                have HLE := Lib.hid hL
                rw [hL] at HI4 HR0 hll ⊢
                clear hL
                obtain ⟨nL, hnL⟩ : ∃ m, L.length = m := ⟨_, rfl⟩
                have HNL := Lib.hid hnL
                rw [hnL] at HI4 hll ⊢
                clear hnL
                go_wp2_with fail
                go_loopw [88] (fun i wr => ∃ (m : Nat) (A : List Int), i = .int .i64 m ∧ m ≤ nL ∧ Hid (Below w.heap.size w wr) ∧ Hid (DrW w.heap.size wr p n1 (S.filter (ndM n1)) n4 g A) ∧ Hid (AtI A (remT S L m)) ∧ Hid (IntsK .i64 wr a4 nL L)) (fun i _ => nL - (intOf i).toNat)
                case atStart => exact ⟨0, _, rfl, by omega, HB4, HD4, HR0, HI4⟩
                case round =>
                  clear HB4 HD4 HR0 HI4
                  obtain ⟨m, A4, rfl, hm, HB4, HD4, HR4, HI4⟩ := hrel
                  by_cases hlm : m < nL
                  · skip
                    obtain ⟨lb, lo, x, rfl, _, hx, hwx, c2⟩ := HI4.out.at (Below.refl _ _) hlm
                    have hLm : L[m]? = some x := by rw [List.getD_eq_getElem?_getD] at hx; rw [List.getElem?_eq_getElem (by rw [HNL.out]; exact hlm)] at hx ⊢; rw [hx]; rfl
                    obtain ⟨q, rfl, hq, hAq⟩ := remT_at (n := n1) HNS.out HLO.out (by rw [HLE.out]; exact HR4.out) (by rw [HLE.out]; exact hLm)
                    have hrd := HR4.out.drop hq
                    rw [remT_succ hLm] at hrd
                    have HRD := Lib.hid hrd
                    have c9 := HD4.out.cell hAq; have f9 := HD4.out.free q
                    obtain ⟨hd5, hb5, ho5⟩ := HD4.out.put q (-1)
                    have HD5 := Lib.hid hd5; have HB5 := Lib.hid (HB4.out.trans hb5); have HI5 := Lib.hid (ints_off HI4.out ho5 (fun y hy hmm => HX4.out y hy (List.mem_singleton.1 hmm)))
                    clear hx hLm hrd hAq hd5 hb5 ho5
                    go_wp2_with fail
                    generalize wr.setCell ⟨g, q, none⟩ (.int .i64 (-1)) = w6 at HD5 HB5 HI5 ⊢
                    go_roundw
                    case rel => exact ⟨m + 1, _, by go_num, by omega, HB5, HD5, HRD, HI5⟩
                    case measure => simp [intOf]; omega
                  · obtain rfl : m = nL := by omega
                    have hr9 := HR4.out
                    rw [← HNL.out, ← HLE.out, remT_last HNS.out] at hr9
                    have HR9 := Lib.hid hr9
                    clear hr9 HR4 HI4 HX4
                    go_wp2_with fail
                    refine Calls.mono (HD4.out.next (by have := HDI2.out.cnt; omega)) ?_
                    rintro e w7 ⟨n2, s2, rfl, hb7, hl7⟩
                    replace HD4 := Lib.hid (HD4.out.below hb7); replace HB4 := Lib.hid (bl_next HB4.out HB4.out.size hb7)
                    clear hb7
                    cases s2
                    · go_wp2_with fail
                      go_roundw
                      case rel => exact ⟨j + 1, _, _, _, _, by go_num, by omega, HB4, HD4, HR9, HDI2⟩
                      case measure => simp [intOf]; omega
                    · have hgt : n1 < n2 := by obtain ⟨y, hy, e⟩ := List.mem_map.1 hl7.yes.1; have := HDI2.out.gt y hy; omega
                      go_wp2_with fail
                      go_roundw
                      case rel => exact ⟨j + 1, _, _, _, _, by go_num, by omega, HB4, HD4, HR9, HDI2⟩
                      case measure => simp [intOf]; omega
end Go.Proofs.Ytjkedccbieoenaa
