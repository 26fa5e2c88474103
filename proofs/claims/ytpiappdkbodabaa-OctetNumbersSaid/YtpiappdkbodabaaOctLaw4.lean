/- chapter 2's walks: written -/
import Derived.Test.YtpiappdkbodabaaOctLaw3
namespace Go.Proofs.Ytpiappdkbodabaa
open Go.RowKit
set_option linter.unusedVariables false

set_option maxRecDepth 100000 in
set_option maxHeartbeats 4000000 in
theorem written2_any (w : World) (la : Option Addr) (llen lcap : Nat) (qs : Nat → Q) (hl : llen ≤ 4611686018427387904) (hA : Asks w la llen qs) :
    Calls Try.prog 18 #[.slice la llen lcap] w fun e w' => ∃ a cap u, e = .returned (.tuple #[.slice a (wM qs (min llen 15)).length cap, u, .bool true]) ∧ (wM qs (min llen 15)).length ≤ cap ∧ cap ≤ 9223372036854775807 ∧
      IntsK .u8 w' a (wM qs (min llen 15)).length (wM qs (min llen 15)) ∧ w'.ownsRow w.heap.size 5 1 u (wM qs (min llen 15)).length ((wM qs (min llen 15)).map (Value.int .u8)) ∧ Below w.heap.size w w' := by
  have HA := Lib.hid hA
  have hwfa : ∀ j, j ≤ llen → ∀ x ∈ wM qs j, (Lit.int .u8 x).wf = true := by
    rcases hA with h | ⟨_, _, _, _, h⟩
    · intro j hj; obtain rfl : j = 0 := by omega
      simp [wM]
    · exact wM_wf (fun j hj => (h j hj).1)
  have HWF := Lib.hid hwfa
  clear hA hwfa
  go_enter Try.func18, Try.ntmps18
  go_wp2_with fail
  refine Calls.mono (new_any w) ?_
  rintro e w1 ⟨rfl, hw1, hb1⟩
  have HP0 : Hid (Pair w w1 w.heap.size (.slice none 0 0) (.slice none 0 0) (wM qs 0) (wM qs 0)) := Lib.hid ⟨hw1, World.ownsRow_nil _ _ _ _, by simp [Value.ownBlock], by simp [Value.ownBlock], hb1⟩
  obtain ⟨p, ep⟩ : ∃ p, w.heap.size = p := ⟨_, rfl⟩
  have EP := Lib.hid ep
  have HP1 : Hid (Pair w w1 p (.slice none 0 0) (.slice none 0 0) (wM qs 0) (wM qs 0)) := Lib.hid (ep ▸ HP0.out)
  clear hw1 hb1 HP0
  go_wp2_with fail
  clear ep
  go_loopg [6, 7] llen (fun g s6 s7 wr => ∃ (i : Nat) (v : Value), s7 = .int .i64 i ∧ i ≤ llen ∧ i ≤ 15 ∧ g = llen - i ∧ Hid (Pair w wr p v s6 (wM qs i) (wM qs i)))
  case atStart => exact ⟨0, _, rfl, by omega, by omega, rfl, HP1⟩
  case round =>
    clear HP1
    obtain ⟨i, v, rfl, hi, hi15, rfl, HP⟩ := hrel
    obtain ⟨ub, ucp, rfl, _⟩ := own_slice HP.out.own
    have hwl := wM_len qs i
    by_cases h1 : i < llen
    case' pos => have h2 : i < 15 ∨ i = 15 := by omega
    case' pos => rcases h2 with h2 | rfl
    case pos.inl =>
      obtain ⟨ba, off, rfl, hbl, hok, hc0, hc1, hc2, hc3⟩ := HA.out.at h1
      have hwm : wM qs (i + 1) = wM qs i ++ encM (qs i) := rfl
      obtain ⟨q, hq⟩ : ∃ q, qs i = q := ⟨_, rfl⟩
      rw [hq] at hok hc0 hc2 hc3 hwm
      have HWM := Lib.hid hwm
      have HOK := Lib.hid hok
      have hsz := HP.out.size
      have c3 : wr.cell? ⟨ba, off + i * 4 + 3, none⟩ = some (.slice q.a q.len q.cap) := bl_cell HP.out.below (p := ⟨ba, off + i * 4 + 3, none⟩) hbl hc3
      go_wp2_with fail
      refine Calls.mono (cut_any wr q.a q.len q.cap 30 hok.le hok.max) ?_
      rintro e w' ⟨rfl, rfl⟩
      obtain ⟨m, hm, hm1, hm2⟩ : ∃ m, min q.len 30 = m ∧ m ≤ 30 ∧ m ≤ q.len := ⟨_, rfl, by omega, by omega⟩
      have hx := hok.ints.pre m hm2
      have htk : q.bs.take m = q.bs.take 30 := by
        by_cases h : q.len ≤ 30
        · rw [List.take_of_length_le (by rw [hok.ints.1]; omega), List.take_of_length_le (by rw [hok.ints.1]; omega)]
        · rw [show m = 30 by omega]
      rw [htk] at hx
      rw [hm]
      have HX := Lib.hid hx
      have EM := Lib.hid hm
      have hq0 := u64_bounds hok.wx
      have c0 : wr.cell? ⟨ba, off + i * 4, none⟩ = some (.int .i64 q.k) := bl_cell HP.out.below (p := ⟨ba, off + i * 4, none⟩) hbl hc0
      have hpw := HP.out.wrt.lo
      have HC2 : Hid (∀ w2, Below w.heap.size w w2 → w2.cell? ⟨ba, off + i * 4 + 2, none⟩ = some (.int .u64 q.x)) := Lib.hid (fun w2 h => bl_cell h (p := ⟨ba, off + i * 4 + 2, none⟩) hbl hc2)
      have hxl : (q.bs.take 30).length = m := hx.1
      have HENC : Hid (encM q = if q.k = 1 then [q.x % 256] else if q.k = 2 then [q.x % 65536 / 256, q.x % 65536 % 256] else if q.k = 3 then putM q.x else if q.k = 4 then q.bs.take 30 else if q.k = 5 then putM (m : Int) ++ q.bs.take 30 else []) := Lib.hid (by rw [← hm]; rfl)
      obtain ⟨x, ex⟩ : ∃ x, q.x = x := ⟨_, rfl⟩
      obtain ⟨k, ek⟩ : ∃ k, q.k = k := ⟨_, rfl⟩
      obtain ⟨ys, ey⟩ : ∃ ys, q.bs.take 30 = ys := ⟨_, rfl⟩
      obtain ⟨xa, exa⟩ : ∃ xa, q.a = xa := ⟨_, rfl⟩
      obtain ⟨xc, exc⟩ : ∃ xc, q.cap = xc := ⟨_, rfl⟩
      rw [ey] at HX hxl HENC
      rw [ex] at hq0 HC2 HENC
      rw [ek] at c0 HENC
      rw [exa] at HX c3
      rw [exc] at c3
      rw [exa, exc]
      have hapart : ∀ {wr : World} {v u : Value} {xs ys : List Int}, Pair w wr p v u xs ys → 0 < m → ∀ (y : Addr), xa = some y → y.block ≠ p ∧ v.ownBlock ≠ some y.block := fun h h0 y hy => by
        rcases HX.out.2.2 with h1 | ⟨b, o, e, hb, _⟩
        · omega
        · rw [hy] at e; injection e with e; subst e
          have h2 := h.wrt.lo
          refine ⟨by show b ≠ p; omega, fun e => ?_⟩
          have := own_base h.wrt.own _ e
          exact absurd this (by show ¬ w.heap.size ≤ b; omega)
      clear hc0 hc1 hc2 hc3 hok HOK hq hwm hx htk ex ek ey exa exc hm c3
      go_upto_block 2 with fail
      go_cut [6] (fun s6 wc => ∃ v' : Value, Hid (Pair w wc p v' s6 (wM qs (i + 1)) (wM qs (i + 1))))
      case first =>
        by_cases k1 : k = 1
        · subst k1
          have HE : encM q = [x % 256] := HENC.out.trans (if_pos rfl)
          rw [HE] at HWM
          have c2 := HC2.out wr HP.out.below
          go_wp2_with fail
          refine Calls.mono (wbyte_any wr _ p v _ (x % 256) (by omega) HP.out.wrt (wf_u8_mod x)) ?_
          rintro e w5 ⟨v5, rfl, hW5, hC5, hV5⟩
          have HP5 := Lib.hid (HP.out.step1 hW5 hC5 hV5)
          have c2' := HC2.out w5 HP5.out.below
          have HBA := Lib.hid ((Below.refl w5.heap.size w5).alloc (Nat.le_refl _) (.cells #[.int .u8 (x % 256)] 5))
          have hs5 := HP5.out.size
          clear hW5 hC5 hV5 HP c2
          go_wp2_with (first | (at_builtin; refine wpList_append_bytes_at rfl _ _ rfl w.heap.size _ _ (wM qs i) rfl (own_below HP5.out.own HBA.out) _ _ _ _ rfl (ints_made _ _ (wf_u8_mod x)) (by omega) (by simp; omega) ?_; intro u6 w6 hown hgrow hu; obtain ⟨b6, cp6, rfl, _⟩ := own_slice hown; have HO := Lib.hid hown; have HG := Lib.hid hgrow; have HU := Lib.hid hu; clear hown hgrow hu) | fail)
          have HPZ := HP5.out.step2a (ys' := wM qs i ++ [x % 256]) HBA.out HG.out (by rw [List.length_append]; exact HO.out) HU.out
          rw [← HWM.out] at HPZ
          have HZ := Lib.hid HPZ
          clear HPZ HG HO HU HP5 HBA c2'
          go_meet
          case rel => exact ⟨_, HZ⟩
        · by_cases k2 : k = 2
          · subst k2
            have HE : encM q = [x % 65536 / 256, x % 65536 % 256] := HENC.out.trans ((if_neg (by decide)).trans (if_pos rfl))
            rw [HE] at HWM
            have c2 := HC2.out wr HP.out.below
            go_wp2_with fail
            refine Calls.mono (wtwo_any wr _ p v _ (x % 65536) (by omega) HP.out.wrt (by omega)) ?_
            rintro e w5 ⟨v5, rfl, hW5, hC5, hV5⟩
            have HP5 := Lib.hid (HP.out.step1 hW5 hC5 hV5)
            have c2' := HC2.out w5 HP5.out.below
            obtain ⟨_, _, e5, _, hi5, _⟩ := ints_of_own HP5.out.own (HWF.out i (by omega))
            injection e5 with e51 e52 e53
            subst e51 e53
            have HI5 := Lib.hid hi5
            have hs5 := HP5.out.size
            clear hW5 hC5 hV5 HP hi5 e52 c2
            go_wp2_with fail
            refine Calls.mono (rwtwo_any w5 _ _ _ (wM qs i) (x % 65536) (by omega) HI5.out (by omega)) ?_
            rintro e w6 ⟨u6, rfl, hb6, ho6⟩
            obtain ⟨b6, cp6, rfl, _⟩ := own_slice ho6
            have HPZ := HP5.out.step2f (ys' := wM qs i ++ [x % 65536 / 256, x % 65536 % 256]) hb6 (by rw [List.length_append]; exact ho6)
            rw [← HWM.out] at HPZ
            have HZ := Lib.hid HPZ
            clear HPZ hb6 ho6 HP5 HI5 c2'
            go_wp2_with fail
            go_meet
            case rel => exact ⟨_, HZ⟩
          · by_cases k3 : k = 3
            · subst k3
              have HE : encM q = putM x := HENC.out.trans ((if_neg (by decide)).trans ((if_neg (by decide)).trans (if_pos rfl)))
              rw [HE] at HWM
              go_wp2_with fail
              have hvb := own_base HP.out.wrt.own
              have c2s : ∀ s : In (fun y => Ch wr y p v.ownBlock), s.w.cell? ⟨ba, off + i * 4 + 2, none⟩ = some (.int .u64 x) := fun s =>
                HC2.out s.w (s.h.below HP.out.below HP.out.size hpw hvb)
              refine wp_plan (.t 0 (.t 1 (.t 2 (.t 3 (.t 4 (.t 5 (.t 7 (.t 8 (.t 9 (.t 10 (.t 11 (.t 12 (.u 6 (.t 13 .done))))))))))))))
                (fun y => Ch wr y p v.ownBlock) (by kernel_rfl) (by kernel_rfl) (by kernel_rfl) (fun c a d v w h => by cases d <;> exact h) (Ch.refl _ _ _).drew ?_
              have HPd : Hid (Pair w wr.drew p v (.slice ub (wM qs i).length ucp) (wM qs i) (wM qs i)) := Lib.hid (HP.out.to (bl_drewN (Below.refl _ _) 1))
              have hS : Ch wr wr.drew p v.ownBlock := (Ch.refl _ _ _).drew
              generalize wr.drew = W1 at hS HPd ⊢
              haveI hne : Nonempty (In fun y => Ch wr y p v.ownBlock) := ⟨⟨wr, Ch.refl _ _ _⟩⟩
              repeat (refine plan_t (by rfl) ?_; (first | go_big_quiet_skip | (go_big_quiet_want; go_big_quiet_op; go_big_quiet_on)); refine wpQuiet_nil ?_)
              refine plan_us (by rfl) (by kernel_rfl) ?_
              intro K hK
              go_wp2_with fail
              refine Calls.mono (wvar_any W1 _ p v _ x (by omega) HPd.out.wrt hq0) ?_
              rintro e w5 ⟨v5, rfl, hW5, hC5, hV5⟩
              have HP5 := Lib.hid (HPd.out.step1 hW5 hC5 hV5)
              have hS5 : Ch wr w5 p v.ownBlock := hS.next hC5 (.inl rfl)
              have hdec : decide (sizeM x ≠ 0) = decide (x ≤ 4611686018427387903) := by
                have := sizeM_cases x
                rw [decide_eq_decide]; omega
              rw [hdec]
              clear hW5 hC5 hV5 HP HPd hdec
              go_wp2_with fail
              refine ⟨hS5, ?_⟩
              repeat (refine plan_t (by rfl) ?_; (first | go_big_quiet_skip | (go_big_quiet_want; go_big_quiet_op; go_big_quiet_on)); refine wpQuiet_nil ?_)
              show Exit.then _ _ _ _ _
              have c2 := HC2.out w5 HP5.out.below
              obtain ⟨_, _, e5, _, hi5, _⟩ := ints_of_own HP5.out.own (HWF.out i (by omega))
              injection e5 with e51 e52 e53
              subst e51 e53
              have HI5 := Lib.hid hi5
              clear hi5 e52 c2s hne hS hS5 hvb
              by_cases hmx : x ≤ 4611686018427387903
              · go_wp2_with fail
                refine Calls.mono (rput_any w5 _ _ _ (wM qs i) x ⟨hq0.1, hmx⟩ (by omega) HI5.out) ?_
                rintro e w6 ⟨u6, rfl, hb6, ho6⟩
                obtain ⟨b6, cp6, rfl, _⟩ := own_slice ho6
                have HPZ := HP5.out.step2f (ys' := wM qs i ++ putM x) hb6 (by rw [List.length_append, putM_len]; exact ho6)
                rw [← HWM.out] at HPZ
                have HZ := Lib.hid HPZ
                clear HPZ hb6 ho6 HP5 HI5 c2
                go_wp2_with fail
                go_meet
                case rel => exact ⟨_, HZ⟩
              · have hz : putM x = [] := List.eq_nil_of_length_eq_zero (by rw [putM_len]; have := sizeM_cases x; omega)
                have HPZ := HP5.out
                rw [hz, List.append_nil] at HPZ HWM
                have HPY : Hid (Pair w w5 p v5 (.slice ub (wM qs i).length ucp) (wM qs (i + 1)) (wM qs (i + 1))) := Lib.hid (by rw [HWM.out]; exact HPZ)
                clear HPZ HP5 HI5 hz
                go_wp2_with fail
                go_meet
                case rel => exact ⟨_, HPY⟩
            · by_cases k4 : k = 4
              · subst k4
                have HE : encM q = ys := HENC.out.trans ((if_neg (by decide)).trans ((if_neg (by decide)).trans ((if_neg (by decide)).trans (if_pos rfl))))
                rw [HE] at HWM
                go_wp2_with fail
                refine Calls.mono (wraw_any wr _ p v _ xa m xc ys (by omega) HP.out.wrt (HX.out.below HP.out.below)) ?_
                rintro e w5 ⟨v5, rfl, hW5, hC5, hV5⟩
                have HP5 := Lib.hid (HP.out.step1 hW5 hC5 hV5)
                have hs5 := HP5.out.size
                clear hW5 hC5 hV5 HP
                go_wp2_with (first | (at_builtin; refine wpList_append_bytes_at rfl _ _ rfl w.heap.size _ _ (wM qs i) rfl HP5.out.own _ _ _ _ rfl (HX.out.below HP5.out.below) (by omega) (by omega) ?_; intro u6 w6 hown hgrow hu; obtain ⟨b6, cp6, rfl, _⟩ := own_slice hown; have HO := Lib.hid hown; have HG := Lib.hid hgrow; have HU := Lib.hid hu; clear hown hgrow hu) | fail)
                have HPZ := HP5.out.step2a (ys' := wM qs i ++ ys) (Below.refl _ _) HG.out (by rw [List.length_append, hxl]; exact HO.out) HU.out
                rw [← HWM.out] at HPZ
                have HZ := Lib.hid HPZ
                clear HPZ HG HO HU HP5
                go_meet
                case rel => exact ⟨_, HZ⟩
              · by_cases k5 : k = 5
                · subst k5
                  have HE : encM q = (putM (m : Int) ++ ys) := HENC.out.trans ((if_neg (by decide)).trans ((if_neg (by decide)).trans ((if_neg (by decide)).trans ((if_neg (by decide)).trans (if_pos rfl)))))
                  rw [HE] at HWM
                  go_wp2_with fail
                  refine Calls.mono (wtext_any wr _ p v _ xa m xc ys (by omega) HP.out.wrt (HX.out.below HP.out.below) (fun h0 y hy => hapart HP.out h0 y hy)) ?_
                  rintro e w5 ⟨v5, rfl, hW5, hC5, hV5⟩
                  have HP5 := Lib.hid (HP.out.step1 hW5 hC5 hV5)
                  skip
                  obtain ⟨_, _, e5, _, hi5, _⟩ := ints_of_own HP5.out.own (HWF.out i (by omega))
                  injection e5 with e51 e52 e53
                  subst e51 e53
                  have HI5 := Lib.hid hi5
                  have hs5 := HP5.out.size
                  clear hW5 hC5 hV5 HP hi5 e52
                  go_wp2_with fail
                  refine Calls.mono (rwtext_any w5 _ _ _ (wM qs i) xa m xc ys (by omega) HI5.out (HX.out.below HP5.out.below)) ?_
                  rintro e w6 ⟨u6, rfl, hb6, ho6⟩
                  obtain ⟨n6, hn6⟩ : ∃ n6, (wM qs i ++ (putM (m : Int) ++ ys)).length = n6 := ⟨_, rfl⟩
                  rw [hn6] at ho6
                  obtain ⟨b6, cp6, rfl, _⟩ := own_slice ho6
                  have HPZ := HP5.out.step2f (ys' := wM qs i ++ (putM (m : Int) ++ ys)) hb6 (by rw [hn6]; exact ho6)
                  rw [← HWM.out] at HPZ
                  have HZ := Lib.hid HPZ
                  clear HPZ hb6 ho6 HP5 HI5 hn6
                  go_wp2_with fail
                  go_meet
                  case rel => exact ⟨_, HZ⟩
                · have HE : encM q = [] := HENC.out.trans ((if_neg k1).trans ((if_neg k2).trans ((if_neg k3).trans ((if_neg k4).trans (if_neg k5)))))
                  rw [HE, List.append_nil] at HWM
                  have HPY : Hid (Pair w wr p v (.slice ub (wM qs i).length ucp) (wM qs (i + 1)) (wM qs (i + 1))) := Lib.hid (by rw [HWM.out]; exact HP.out)
                  clear HP
                  go_wp2_with fail
                  go_meet
                  case rel => exact ⟨_, HPY⟩
      case rest =>
        clear HP
        obtain ⟨v', HP⟩ := hcut
        obtain ⟨ub2, ucp2, rfl, _⟩ := own_slice HP.out.own
        go_wp2_with fail
        refine Calls.mono (wlen_any _ _ _ _ _ HP.out.wrt) ?_
        rintro e w6 ⟨rfl, rfl⟩
        go_wp2_with fail
        go_roundg (llen - (i + 1))
        case measure => omega
        case rel => exact ⟨i + 1, v', by go_num, by omega, by omega, rfl, HP⟩
    case pos.inr =>
      have HMIN : Hid (min llen 15 = 15) := Lib.hid (by omega)
      go_wp2_with fail
      refine Calls.mono (wdone_any _ _ _ _ _ (by omega) (HWF.out _ (by omega)) HP.out.wrt) ?_
      rintro e w5 ⟨a5, cap5, rfl, hc5, hm5, hi5, _, hb5⟩
      have HI5 := Lib.hid hi5; have HP5 := Lib.hid (HP.out.to hb5)
      clear hi5 hb5
      go_wp2_with fail
      go_ret3
      rw [HMIN.out]
      exact ⟨a5, cap5, _, rfl, hc5, hm5, HI5.out, HP5.out.own, HP5.out.below⟩
    case neg =>
      obtain rfl : i = llen := by omega
      have HMIN : Hid (min i 15 = i) := Lib.hid (by omega)
      go_wp2_with fail
      refine Calls.mono (wdone_any _ _ _ _ _ (by omega) (HWF.out _ (by omega)) HP.out.wrt) ?_
      rintro e w5 ⟨a5, cap5, rfl, hc5, hm5, hi5, _, hb5⟩
      have HI5 := Lib.hid hi5; have HP5 := Lib.hid (HP.out.to hb5)
      clear hi5 hb5
      go_wp2_with fail
      go_ret3
      rw [HMIN.out]
      exact ⟨a5, cap5, _, rfl, hc5, hm5, HI5.out, HP5.out.own, HP5.out.below⟩
end Go.Proofs.Ytpiappdkbodabaa
