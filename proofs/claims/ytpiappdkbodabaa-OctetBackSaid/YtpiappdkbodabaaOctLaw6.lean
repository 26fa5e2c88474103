/- chapter 2's walks: OctetBack -/
import Derived.Test.YtpiappdkbodabaaOctLaw4
import Derived.Test.YtpiappdkbodabaaPutGet
namespace Go.Proofs.Ytpiappdkbodabaa
open Go.RowKit
set_option linter.unusedVariables false

def restM (qs : Nat → Q) : Nat → Nat → List Int
  | _, 0 => []
  | i, k + 1 => encM (qs i) ++ restM qs (i + 1) k
theorem wM_rest (qs : Nat → Q) : ∀ k i, wM qs (i + k) = wM qs i ++ restM qs i k
  | 0, i => by simp [restM]
  | k + 1, i => by
    rw [show i + (k + 1) = (i + 1) + k by omega, wM_rest qs k (i + 1)]
    simp only [wM, restM, List.append_assoc]

set_option maxRecDepth 100000 in
set_option maxHeartbeats 4000000 in
theorem back2_any (w : World) (la : Option Addr) (llen lcap : Nat) (qs : Nat → Q) (hl : llen ≤ 4611686018427387904) (hA : Asks w la llen qs) :
    Makes Try.prog 6 #[.slice la llen lcap] w (.bool true) := by
  have HW := Lib.hid (written2_any w la llen lcap qs hl hA)
  have hwl : (wM qs (min llen 15)).length ≤ 570 := by have := wM_len qs (min llen 15); omega
  have hrest : wM qs (min llen 15) = restM qs 0 (min llen 15) := by
    have h := wM_rest qs (min llen 15) 0
    rw [Nat.zero_add] at h
    rw [h]; rfl
  obtain ⟨xs, exs⟩ : ∃ xs, wM qs (min llen 15) = xs := ⟨_, rfl⟩
  rw [exs] at HW hwl hrest
  clear exs
  have HREST := Lib.hid hrest
  have HA := Lib.hid hA
  clear hA hrest
  go_enter Try.func6, Try.ntmps6
  go_wp2_with fail
  refine Calls.mono HW.out ?_
  rintro e w1 ⟨a1, cap1, u1, rfl, hc1, hcm1, hi1, ho1, hb1⟩
  clear ho1
  have HI1 := Lib.hid hi1; have H1 := Lib.hid hb1
  clear hi1 hb1
  go_wp2_with fail
  refine Calls.mono (of_any w1 a1 _ cap1 xs (by omega) HI1.out) ?_
  rintro e w2 ⟨W0, p, rfl, hR, hb0, hb2⟩
  have hpl := hR.lo
  have hb0s := hb0.size
  have h1s := H1.out.size
  obtain ⟨L, eL⟩ : ∃ L, w1.heap.size = L := ⟨_, rfl⟩
  have HL0 := Lib.hid (H1.out.trans ((hb0.trans (hb2.mono hb0s)).mono h1s))
  rw [eL] at hR hb0s h1s
  rw [HREST.out] at hR
  have HR0 := Lib.hid hR
  clear hR hb0 hb2 eL
  go_wp2_with fail
  go_loopg [7] llen (fun g s7 wr => ∃ (i : Nat), s7 = .int .i64 i ∧ i ≤ llen ∧ i ≤ 15 ∧ g = llen - i ∧ Hid (Below w.heap.size w wr) ∧ Hid (Rd W0 wr L p 47 (restM qs i (min llen 15 - i)) false))
  case atStart => exact ⟨0, rfl, by omega, by omega, rfl, HL0, HR0⟩
  case round =>
    clear HR0 HL0
    obtain ⟨i, rfl, hi, hi15, rfl, HL, HR⟩ := hrel
    by_cases h1 : i < llen
    case' pos => have h2 : i < 15 ∨ i = 15 := by omega
    case' pos => rcases h2 with h2 | rfl
    case pos.inl =>
      obtain ⟨ba, off, rfl, hbl, hok, hc0, hc1, hc2, hc3⟩ := HA.out.at h1
      obtain ⟨k', ek'⟩ : ∃ k', min llen 15 - i = k' + 1 := ⟨min llen 15 - i - 1, by omega⟩
      have hstep : restM qs i (k' + 1) = encM (qs i) ++ restM qs (i + 1) k' := rfl
      have hk' : min llen 15 - (i + 1) = k' := by omega
      rw [ek', hstep] at HR
      have HK' := Lib.hid hk'
      obtain ⟨R, eR⟩ : ∃ R, restM qs (i + 1) k' = R := ⟨_, rfl⟩
      have ER := Lib.hid eR
      rw [eR] at HR
      obtain ⟨q, hq⟩ : ∃ q, qs i = q := ⟨_, rfl⟩
      rw [hq] at hok hc0 hc2 hc3 HR
      clear ek' hstep hk' eR
      have HOK := Lib.hid hok
      have c3 : wr.cell? ⟨ba, off + i * 4 + 3, none⟩ = some (.slice q.a q.len q.cap) := bl_cell HL.out (p := ⟨ba, off + i * 4 + 3, none⟩) hbl hc3
      have hsz := HL.out.size
      go_wp2_with fail
      refine Calls.mono (cut_any wr q.a q.len q.cap 30 hok.le hok.max) ?_
      rintro e w' ⟨rfl, rfl⟩
      obtain ⟨m, hm, hm1, hm2⟩ : ∃ m, min q.len 30 = m ∧ m ≤ 30 ∧ m ≤ q.len := ⟨_, rfl, by omega, by omega⟩
      have hx := hok.ints.pre m hm2
      have htk : q.bs.take m = q.bs.take 30 := by
        by_cases h : q.len ≤ 30
        · rw [List.take_of_length_le (by rw [hok.ints.1]; omega), List.take_of_length_le (by rw [hok.ints.1]; omega)]
        · rw [show m = 30 by omega]
      rw [htk] at hx
      rw [hm]
      have HX := Lib.hid hx
      have EM := Lib.hid hm
      have hq0 := u64_bounds hok.wx
      have c0 : wr.cell? ⟨ba, off + i * 4, none⟩ = some (.int .i64 q.k) := bl_cell HL.out (p := ⟨ba, off + i * 4, none⟩) hbl hc0
      have HC2 : Hid (∀ w2, Below w.heap.size w w2 → w2.cell? ⟨ba, off + i * 4 + 2, none⟩ = some (.int .u64 q.x)) := Lib.hid (fun w2 h => bl_cell h (p := ⟨ba, off + i * 4 + 2, none⟩) hbl hc2)
      have hxl : (q.bs.take 30).length = m := hx.1
      have HENC : Hid (encM q = if q.k = 1 then [q.x % 256] else if q.k = 2 then [q.x % 65536 / 256, q.x % 65536 % 256] else if q.k = 3 then putM q.x else if q.k = 4 then q.bs.take 30 else if q.k = 5 then putM (m : Int) ++ q.bs.take 30 else []) := Lib.hid (by rw [← hm]; rfl)
      obtain ⟨x, ex⟩ : ∃ x, q.x = x := ⟨_, rfl⟩
      obtain ⟨k, ek⟩ : ∃ k, q.k = k := ⟨_, rfl⟩
      obtain ⟨ys, ey⟩ : ∃ ys, q.bs.take 30 = ys := ⟨_, rfl⟩
      obtain ⟨xa, exa⟩ : ∃ xa, q.a = xa := ⟨_, rfl⟩
      obtain ⟨xc, exc⟩ : ∃ xc, q.cap = xc := ⟨_, rfl⟩
      rw [ey] at HX hxl HENC
      rw [ex] at hq0 HC2 HENC
      rw [ek] at c0 HENC
      rw [exa] at HX c3
      rw [exc] at c3
      rw [exa, exc]
      have c2s : ∀ s : In (fun y => wr.grownBy y (some p)), s.w.cell? ⟨ba, off + i * 4 + 2, none⟩ = some (.int .u64 x) := fun s =>
        HC2.out s.w (HL.out.grown s.h hsz (by intro k hk; injection hk with hk; omega))
      clear hc0 hc1 hc2 hc3 hok HOK hq hx htk ex ek ey exa exc hm c3
      go_upto_block 2 with fail
      go_cut [9] (fun s9 wc => s9 = .bool true ∧ Hid (Below w.heap.size w wc) ∧ Hid (Rd W0 wc L p 47 R false))
      case first =>
        by_cases k1 : k = 1
        · subst k1
          have HE : encM q = [x % 256] := HENC.out.trans (if_pos rfl)
          go_wp2_with fail
          refine wp_plan (.t 0 (.t 2 (.t 3 (.t 4 (.t 5 (.t 6 (.t 7 (.u 1 (.t 8 (.t 9 .done))))))))))
            (fun y => wr.grownBy y (some p)) (by kernel_rfl) (by kernel_rfl) (by kernel_rfl) (fun c a d v w h => by cases d <;> exact h) (grown_drew _ _) ?_
          have hS : wr.grownBy wr.drew (some p) := grown_drew _ _
          have HRd : Hid (Rd W0 wr.drew L p 47 (encM q ++ R) false) := Lib.hid (HR.out.to (bl_drewN (Below.refl _ _) 1))
          have HLd : Hid (Below w.heap.size w wr.drew) := Lib.hid (bl_next HL.out HL.out.size (bl_drewN (Below.refl _ _) 1))
          generalize wr.drew = W1 at hS HRd HLd ⊢
          haveI hne : Nonempty (In fun y => wr.grownBy y (some p)) := ⟨⟨wr, grown_refl _ _⟩⟩
          repeat (refine plan_t (by rfl) ?_; (first | go_big_quiet_skip | (go_big_quiet_want; go_big_quiet_op; go_big_quiet_on)); refine wpQuiet_nil ?_)
          refine plan_us (by rfl) (by kernel_rfl) ?_
          intro K hK
          go_wp2_with fail
          refine Calls.mono (byte_any _ _ _ _ _ _ HRd.out) ?_
          rintro e W2 ⟨rfl, hR2, hg2⟩
          rw [HE, rd_byte] at hR2
          rw [HE, rd_byte]
          have HR2 := Lib.hid hR2
          have HL2 := Lib.hid (HLd.out.grown hg2 HLd.out.size (by intro k hk; injection hk with hk; omega))
          have hS2 := grown_trans hS hg2
          clear hR2 hg2 HRd HLd
          go_wp2_with fail
          refine ⟨hS2, ?_⟩
          repeat (refine plan_t (by rfl) ?_; (first | go_big_quiet_skip | (go_big_quiet_want; go_big_quiet_op; go_big_quiet_on)); refine wpQuiet_nil ?_)
          show Exit.inBlock _ _ _ _ _
          clear c2s hne hS hS2
          go_wp2_with fail
          go_meet
          case rel => exact ⟨rfl, HL2, HR2⟩
        · by_cases k2 : k = 2
          · subst k2
            have HE : encM q = [x % 65536 / 256, x % 65536 % 256] := HENC.out.trans ((if_neg (by decide)).trans (if_pos rfl))
            go_wp2_with fail
            refine wp_plan (.t 0 (.t 2 (.t 3 (.t 4 (.t 5 (.t 6 (.t 7 (.u 1 (.t 8 (.t 9 .done))))))))))
              (fun y => wr.grownBy y (some p)) (by kernel_rfl) (by kernel_rfl) (by kernel_rfl) (fun c a d v w h => by cases d <;> exact h) (grown_drew _ _) ?_
            have hS : wr.grownBy wr.drew (some p) := grown_drew _ _
            have HRd : Hid (Rd W0 wr.drew L p 47 (encM q ++ R) false) := Lib.hid (HR.out.to (bl_drewN (Below.refl _ _) 1))
            have HLd : Hid (Below w.heap.size w wr.drew) := Lib.hid (bl_next HL.out HL.out.size (bl_drewN (Below.refl _ _) 1))
            generalize wr.drew = W1 at hS HRd HLd ⊢
            haveI hne : Nonempty (In fun y => wr.grownBy y (some p)) := ⟨⟨wr, grown_refl _ _⟩⟩
            repeat (refine plan_t (by rfl) ?_; (first | go_big_quiet_skip | (go_big_quiet_want; go_big_quiet_op; go_big_quiet_on)); refine wpQuiet_nil ?_)
            refine plan_us (by rfl) (by kernel_rfl) ?_
            intro K hK
            go_wp2_with fail
            refine Calls.mono (two_any _ _ _ _ _ _ HRd.out) ?_
            rintro e W2 ⟨rfl, hR2, hg2⟩
            rw [HE, rd_two] at hR2
            rw [HE, rd_two]
            have HR2 := Lib.hid hR2
            have HL2 := Lib.hid (HLd.out.grown hg2 HLd.out.size (by intro k hk; injection hk with hk; omega))
            have hS2 := grown_trans hS hg2
            clear hR2 hg2 HRd HLd
            go_wp2_with fail
            refine ⟨hS2, ?_⟩
            repeat (refine plan_t (by rfl) ?_; (first | go_big_quiet_skip | (go_big_quiet_want; go_big_quiet_op; go_big_quiet_on)); refine wpQuiet_nil ?_)
            show Exit.inBlock _ _ _ _ _
            rw [show (x % 65536 == IntKind.u16.wrap x) = true from by rw [IntKind.wrap_u16]; simp]
            clear c2s hne hS hS2
            go_wp2_with fail
            go_meet
            case rel => exact ⟨rfl, HL2, HR2⟩
          · by_cases k3 : k = 3
            · subst k3
              have HE : encM q = putM x := HENC.out.trans ((if_neg (by decide)).trans ((if_neg (by decide)).trans (if_pos rfl)))
              by_cases hmx : x ≤ 4611686018427387903
              · go_wp2_with fail
                have hng : ¬ (4611686018427387903 < x) := by omega
                refine wp_plan (.t 0 (.t 1 (.t 2 (.t 3 (.t 4 (.t 5 (.t 6 (.t 7 (.t 9 (.t 10 (.t 11 (.t 12 (.t 13 (.u 8 (.t 14 (.t 15 (.t 16 .done)))))))))))))))))
                  (fun y => wr.grownBy y (some p)) (by kernel_rfl) (by kernel_rfl) (by kernel_rfl) (fun c a d v w h => by cases d <;> exact h) (grown_drew _ _) ?_
                have hS : wr.grownBy wr.drew (some p) := grown_drew _ _
                have HRd : Hid (Rd W0 wr.drew L p 47 (encM q ++ R) false) := Lib.hid (HR.out.to (bl_drewN (Below.refl _ _) 1))
                have HLd : Hid (Below w.heap.size w wr.drew) := Lib.hid (bl_next HL.out HL.out.size (bl_drewN (Below.refl _ _) 1))
                generalize wr.drew = W1 at hS HRd HLd ⊢
                haveI hne : Nonempty (In fun y => wr.grownBy y (some p)) := ⟨⟨wr, grown_refl _ _⟩⟩
                repeat (refine plan_t (by rfl) ?_; (first | go_big_quiet_skip | (go_big_quiet_want; go_big_quiet_op; go_big_quiet_on)); refine wpQuiet_nil ?_)
                refine plan_us (by rfl) (by kernel_rfl) ?_
                intro K hK
                go_wp2_with fail
                refine Calls.mono (var_any _ _ _ _ _ _ HRd.out) ?_
                rintro e W2 ⟨rfl, hR2, hg2⟩
                rw [HE, rd_var ⟨hq0.1, hmx⟩] at hR2
                rw [HE, rd_var ⟨hq0.1, hmx⟩]
                have HR2 := Lib.hid hR2
                have HL2 := Lib.hid (HLd.out.grown hg2 HLd.out.size (by intro k hk; injection hk with hk; omega))
                have hS2 := grown_trans hS hg2
                clear hR2 hg2 HRd HLd
                go_wp2_with fail
                refine ⟨hS2, ?_⟩
                repeat (refine plan_t (by rfl) ?_; (first | go_big_quiet_skip | (go_big_quiet_want; go_big_quiet_op; go_big_quiet_on)); refine wpQuiet_nil ?_)
                show Exit.inBlock _ _ _ _ _
                clear c2s hne hS hS2
                go_wp2_with fail
                go_meet
                case rel => exact ⟨rfl, HL2, HR2⟩
              · go_wp2_with fail
                have hng : 4611686018427387903 < x := by omega
                refine wp_plan (.t 0 (.t 1 (.t 2 (.t 3 (.t 4 (.t 5 (.t 6 (.t 7 (.t 9 (.t 10 (.t 11 (.t 12 (.t 13 (.u 8 (.t 14 (.t 15 (.t 16 .done)))))))))))))))))
                  (fun y => wr.grownBy y (some p)) (by kernel_rfl) (by kernel_rfl) (by kernel_rfl) (fun c a d v w h => by cases d <;> exact h) (grown_drew _ _) ?_
                have hS : wr.grownBy wr.drew (some p) := grown_drew _ _
                have HRd : Hid (Rd W0 wr.drew L p 47 (encM q ++ R) false) := Lib.hid (HR.out.to (bl_drewN (Below.refl _ _) 1))
                have HLd : Hid (Below w.heap.size w wr.drew) := Lib.hid (bl_next HL.out HL.out.size (bl_drewN (Below.refl _ _) 1))
                generalize wr.drew = W1 at hS HRd HLd ⊢
                haveI hne : Nonempty (In fun y => wr.grownBy y (some p)) := ⟨⟨wr, grown_refl _ _⟩⟩
                repeat (refine plan_t (by rfl) ?_; (first | go_big_quiet_skip | (go_big_quiet_want; go_big_quiet_op; go_big_quiet_on)); refine wpQuiet_nil ?_)
                refine plan_u (by rfl) ?_
                intro K hK
                rw [if_neg (Bool.eq_false_iff.1 (by kernel_rfl))]
                refine hK _ _ _ (fun _ h => h) hS ?_
                go_simp
                repeat (refine plan_t (by rfl) ?_; (first | go_big_quiet_skip | (go_big_quiet_want; go_big_quiet_op; go_big_quiet_on)); refine wpQuiet_nil ?_)
                show Exit.inBlock _ _ _ _ _
                have hz : encM q = [] := HE.trans (List.eq_nil_of_length_eq_zero (by rw [putM_len]; have := sizeM_cases x; omega))
                have HR2 := HRd.out
                rw [hz, List.nil_append] at HR2
                replace HR2 := Lib.hid HR2
                clear c2s hne hS hz HRd
                go_wp2_with fail
                go_meet
                case rel => exact ⟨rfl, HLd, HR2⟩
            · by_cases k4 : k = 4
              · subst k4
                have HE : encM q = ys := HENC.out.trans ((if_neg (by decide)).trans ((if_neg (by decide)).trans ((if_neg (by decide)).trans (if_pos rfl))))
                go_wp2_with fail
                have hconv0 : ∀ s : In (fun y => wr.grownBy y (some p)), (convert 22 9 (.slice xa m xc)).run Try.prog s.w = .ok (.string (strOfNums ys)) s.w := fun s =>
                  conv_ints _ 5 _ _ Try.underlying22 Try.underlying5 Try.underlying9 (HX.out.below (HL.out.grown s.h hsz (by intro k hk; injection hk with hk; omega)))
                refine wp_plan (.t 0 (.t 1 (.t 2 (.t 5 (.t 6 (.u 3 (.t 4 (.t 7 (.t 8 .done)))))))))
                  (fun y => wr.grownBy y (some p)) (by kernel_rfl) (by kernel_rfl) (by kernel_rfl) (fun c a d v w h => by cases d <;> exact h) (grown_drew _ _) ?_
                have hS : wr.grownBy wr.drew (some p) := grown_drew _ _
                have HRd : Hid (Rd W0 wr.drew L p 47 (encM q ++ R) false) := Lib.hid (HR.out.to (bl_drewN (Below.refl _ _) 1))
                have HLd : Hid (Below w.heap.size w wr.drew) := Lib.hid (bl_next HL.out HL.out.size (bl_drewN (Below.refl _ _) 1))
                generalize wr.drew = W1 at hS HRd HLd ⊢
                haveI hne : Nonempty (In fun y => wr.grownBy y (some p)) := ⟨⟨wr, grown_refl _ _⟩⟩
                repeat (refine plan_t (by rfl) ?_; (first | go_big_quiet_skip | (go_big_quiet_want; go_big_quiet_op; go_big_quiet_on)); refine wpQuiet_nil ?_)
                refine plan_un (by rfl) (by kernel_rfl) ?_
                intro K hK
                go_wp2_with fail
                refine Calls.mono (raw_any _ _ _ _ _ _ m (by omega) HRd.out) ?_
                rintro e W2 ⟨a2, m2, cap2, rfl, hc2, hi2, hR2, hg2, _⟩
                rw [HE, (show rdM (ys ++ R) false m = (ys, R, false) from hxl ▸ rd_raw ys R)] at hR2 hi2
                have HR2 := Lib.hid hR2
                have HL2 := Lib.hid (HLd.out.grown hg2 HLd.out.size (by intro k hk; injection hk with hk; omega))
                have hS2 := grown_trans hS hg2
                have hconv : ∀ s : In (fun y => Below W2.heap.size W2 y), (convert 22 9 (.slice a2 m2 cap2)).run Try.prog s.w = .ok (.string (strOfNums ys)) s.w := fun s =>
                  conv_ints _ 5 _ _ Try.underlying22 Try.underlying5 Try.underlying9 (hi2.below s.h)
                have hconvx : ∀ s : In (fun y => Below W2.heap.size W2 y), (convert 22 9 (.slice xa m xc)).run Try.prog s.w = .ok (.string (strOfNums ys)) s.w := fun s =>
                  conv_ints _ 5 _ _ Try.underlying22 Try.underlying5 Try.underlying9 (HX.out.below (bl_next HL2.out HL2.out.size s.h))
                clear hR2 hg2 hi2 HRd HLd
                go_wp2_with fail
                refine ⟨fun y => Below W2.heap.size W2 y, fun y hy => grown_trans hS2 (grown_below hy _), Below.refl _ _, ?_⟩
                clear hne c2s hconv0
                haveI hne2 : Nonempty (In fun y => Below W2.heap.size W2 y) := ⟨⟨W2, Below.refl _ _⟩⟩
                repeat (refine plan_t (by rfl) ?_; (first | go_big_quiet_skip | (go_big_quiet_want; go_big_quiet_op; go_big_quiet_on)); refine wpQuiet_nil ?_)
                show Exit.inBlock _ _ _ _ _
                clear hconv hconvx hne2 hS hS2
                go_wp2_with fail
                go_meet
                case rel => exact ⟨rfl, HL2, HR2⟩
              · by_cases k5 : k = 5
                · subst k5
                  have HE : encM q = putM (m : Int) ++ ys := HENC.out.trans ((if_neg (by decide)).trans ((if_neg (by decide)).trans ((if_neg (by decide)).trans ((if_neg (by decide)).trans (if_pos rfl)))))
                  go_wp2_with fail
                  have hconv0 : ∀ s : In (fun y => wr.grownBy y (some p)), (convert 22 9 (.slice xa m xc)).run Try.prog s.w = .ok (.string (strOfNums ys)) s.w := fun s =>
                    conv_ints _ 5 _ _ Try.underlying22 Try.underlying5 Try.underlying9 (HX.out.below (HL.out.grown s.h hsz (by intro k hk; injection hk with hk; omega)))
                  refine wp_plan (.t 0 (.t 3 (.t 4 (.u 1 (.t 2 (.t 5 (.t 6 .done)))))))
                    (fun y => wr.grownBy y (some p)) (by kernel_rfl) (by kernel_rfl) (by kernel_rfl) (fun c a d v w h => by cases d <;> exact h) (grown_drew _ _) ?_
                  have hS : wr.grownBy wr.drew (some p) := grown_drew _ _
                  have HRd : Hid (Rd W0 wr.drew L p 47 (encM q ++ R) false) := Lib.hid (HR.out.to (bl_drewN (Below.refl _ _) 1))
                  have HLd : Hid (Below w.heap.size w wr.drew) := Lib.hid (bl_next HL.out HL.out.size (bl_drewN (Below.refl _ _) 1))
                  generalize wr.drew = W1 at hS HRd HLd ⊢
                  haveI hne : Nonempty (In fun y => wr.grownBy y (some p)) := ⟨⟨wr, grown_refl _ _⟩⟩
                  repeat (refine plan_t (by rfl) ?_; (first | go_big_quiet_skip | (go_big_quiet_want; go_big_quiet_op; go_big_quiet_on)); refine wpQuiet_nil ?_)
                  refine plan_un (by rfl) (by kernel_rfl) ?_
                  intro K hK
                  go_wp2_with fail
                  refine Calls.mono (text_any _ _ _ _ _ _ HRd.out) ?_
                  rintro e W2 ⟨a2, m2, cap2, rfl, hc2, hi2, hR2, hg2, _⟩
                  rw [HE, (show textM ((putM (m : Int) ++ ys) ++ R) false = (ys, R, false) from hxl ▸ rd_text ys R (by omega))] at hR2 hi2
                  have HR2 := Lib.hid hR2
                  have HL2 := Lib.hid (HLd.out.grown hg2 HLd.out.size (by intro k hk; injection hk with hk; omega))
                  have hS2 := grown_trans hS hg2
                  have hconv : ∀ s : In (fun y => Below W2.heap.size W2 y), (convert 22 9 (.slice a2 m2 cap2)).run Try.prog s.w = .ok (.string (strOfNums ys)) s.w := fun s =>
                    conv_ints _ 5 _ _ Try.underlying22 Try.underlying5 Try.underlying9 (hi2.below s.h)
                  have hconvx : ∀ s : In (fun y => Below W2.heap.size W2 y), (convert 22 9 (.slice xa m xc)).run Try.prog s.w = .ok (.string (strOfNums ys)) s.w := fun s =>
                    conv_ints _ 5 _ _ Try.underlying22 Try.underlying5 Try.underlying9 (HX.out.below (bl_next HL2.out HL2.out.size s.h))
                  clear hR2 hg2 hi2 HRd HLd
                  go_wp2_with fail
                  refine ⟨fun y => Below W2.heap.size W2 y, fun y hy => grown_trans hS2 (grown_below hy _), Below.refl _ _, ?_⟩
                  clear hne c2s hconv0
                  haveI hne2 : Nonempty (In fun y => Below W2.heap.size W2 y) := ⟨⟨W2, Below.refl _ _⟩⟩
                  repeat (refine plan_t (by rfl) ?_; (first | go_big_quiet_skip | (go_big_quiet_want; go_big_quiet_op; go_big_quiet_on)); refine wpQuiet_nil ?_)
                  show Exit.inBlock _ _ _ _ _
                  clear hconv hconvx hne2 hS hS2
                  go_wp2_with fail
                  go_meet
                  case rel => exact ⟨rfl, HL2, HR2⟩
                · have HE : encM q = [] := HENC.out.trans ((if_neg k1).trans ((if_neg k2).trans ((if_neg k3).trans ((if_neg k4).trans (if_neg k5)))))
                  rw [HE, List.nil_append] at HR
                  go_wp2_with fail
                  go_meet
                  case rel => exact ⟨rfl, HL, HR⟩
      case rest =>
        clear HL HR c0 c2s
        obtain ⟨rfl, HL, HR⟩ := hcut
        go_wp2_with fail
        refine Calls.mono (bad_any _ _ _ _ _ _ HR.out) ?_
        rintro e w6 ⟨rfl, rfl⟩
        go_wp2_with fail
        have HR2 : Hid (Rd W0 w6 L p 47 (restM qs (i + 1) (min llen 15 - (i + 1))) false) := Lib.hid (by rw [HK'.out, ER.out]; exact HR.out)
        go_roundg (llen - (i + 1))
        case measure => omega
        case rel => exact ⟨i + 1, by go_num, by omega, by omega, rfl, HL, HR2⟩
    case pos.inr =>
      have hz : restM qs 15 (min llen 15 - 15) = [] := by rw [show min llen 15 - 15 = 0 by omega]; rfl
      rw [hz] at HR
      clear hz
      go_wp2_with fail
      refine Calls.mono (left_any _ _ _ _ _ _ HR.out) ?_
      rintro e w6 ⟨rfl, rfl⟩
      go_wp2_with fail
      refine Calls.mono (known2_any _) ?_
      rintro e w5 ⟨rfl, h5⟩
      have H5 := Lib.hid (bl_next HL.out HL.out.size h5); clear h5
      go_wp2_with fail
      go_ret
      exact ⟨rfl, H5.out⟩
    case neg =>
      have hz : restM qs i (min llen 15 - i) = [] := by rw [show min llen 15 - i = 0 by omega]; rfl
      rw [hz] at HR
      clear hz
      go_wp2_with fail
      refine Calls.mono (left_any _ _ _ _ _ _ HR.out) ?_
      rintro e w6 ⟨rfl, rfl⟩
      go_wp2_with fail
      refine Calls.mono (known2_any _) ?_
      rintro e w5 ⟨rfl, h5⟩
      have H5 := Lib.hid (bl_next HL.out HL.out.size h5); clear h5
      go_wp2_with fail
      go_ret
      exact ⟨rfl, H5.out⟩
end Go.Proofs.Ytpiappdkbodabaa
