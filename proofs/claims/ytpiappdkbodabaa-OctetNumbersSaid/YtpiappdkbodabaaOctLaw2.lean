/- chapter 2's walks: reads -/
import Derived.Test.YtpiappdkbodabaaOctLaw
import Derived.Test.YtpiappdkbodabaaOctR
import Derived.Test.YtpiappdkbodabaaRegion
namespace Go.Proofs.Ytpiappdkbodabaa
open Go.RowKit
set_option linter.unusedVariables false

theorem Ch.refl (w : World) (p : Nat) (q : Option Nat) : Ch w w p q := ⟨rfl, rfl, rfl, Nat.le_refl _, fun _ _ _ _ => rfl⟩
theorem Ch.drew {w w' : World} {p : Nat} {q : Option Nat} (h : Ch w w' p q) : Ch w w'.drew p q := ⟨h.os, h.tape, h.output, h.size, h.block⟩
theorem Ch.grown {w w' w2 : World} {p r : Nat} (h : Ch w w' p (some r)) (hg : w'.grownBy w2 (some p) ∨ w'.grownBy w2 (some r)) : Ch w w2 p (some r) := by
  rcases hg with hg | hg
  · exact ⟨hg.os.trans h.os, hg.tape.trans h.tape, hg.output.trans h.output, Nat.le_trans h.size hg.size, fun i hi hp hq => (hg.block i (Nat.lt_of_lt_of_le hi h.size) (by intro e; injection e with e; exact hp e)).trans (h.block i hi hp hq)⟩
  · exact ⟨hg.os.trans h.os, hg.tape.trans h.tape, hg.output.trans h.output, Nat.le_trans h.size hg.size, fun i hi hp hq => (hg.block i (Nat.lt_of_lt_of_le hi h.size) (by intro e; exact hq e.symm)).trans (h.block i hi hp hq)⟩
theorem Ch.of_grown {w w2 : World} {p r : Nat} (hg : w.grownBy w2 (some r)) : Ch w w2 p (some r) := (Ch.refl w p (some r)).grown (.inr hg)
theorem Ch.cell {w w' : World} {p : Nat} {q : Option Nat} (h : Ch w w' p q) {x : Addr} {v : Value} (hx : x.block < w.heap.size) (hp : x.block ≠ p) (hq : q ≠ some x.block) (hc : w.cell? x = some v) : w'.cell? x = some v := by
  have hm := h.block x.block hx hp hq
  unfold World.cell? at hc ⊢
  rw [hm]; exact hc

set_option maxRecDepth 100000 in
set_option maxHeartbeats 4000000 in
theorem reads2_any (w : World) (a : Option Addr) (len cap : Nat) (bs : List Int) (la : Option Addr) (llen lcap : Nat) (qs : Nat → Q) (hlen : len ≤ 1000000) (hlc : len ≤ cap) (hcap : cap ≤ 9223372036854775807) (hb : IntsK .u8 w a len bs)
    (hl : llen ≤ 4611686018427387904) (hA : Asks w la llen qs) :
    Makes Try.prog 19 #[.slice a len cap, .slice la llen lcap] w (.bool true) := by
  have HB := Lib.hid hb
  have HA := Lib.hid hA
  clear hb hA
  go_enter Try.func19, Try.ntmps19
  go_wp2_with fail
  refine Calls.mono (of_any w a len cap _ (by omega) HB.out) ?_
  rintro e w2 ⟨W0, p, rfl, hR, hb0, hb2⟩
  have hpl := hR.lo
  have hb0s := hb0.size
  have hb2s := hb2.size
  have hplt := hR.lt
  have hrr := heap_alloc_new w2 (.cells #[.slice a len cap, .bool false] 62)
  have hba := (Below.refl w2.heap.size w2).alloc (Nat.le_refl _) (.cells #[.slice a len cap, .bool false] 62)
  have HRP := Lib.hid (hR.to hba)
  have h2 : Below w.heap.size w w2 := hb0.trans (hb2.mono hb0s)
  have h3 := h2.alloc (by omega) (.cells #[.slice a len cap, .bool false] 62)
  have HL := Lib.hid h3
  have HRR : Hid (Rd w _ 0 w2.heap.size 62 bs false) := Lib.hid ⟨by omega, fun i _ hi => h3.block i hi, by rw [HB.out.1]; omega, a, len, cap, hrr, hlc, hcap, HB.out, fun _ _ => Nat.zero_le _⟩
  obtain ⟨r, er⟩ : ∃ r, w2.heap.size = r := ⟨_, rfl⟩
  clear hR hb0 hb2 hrr hba h2 h3
  go_wp2_with fail
  generalize w2.alloc (.cells #[.slice a len cap, .bool false] 62) = w3 at HRP HL HRR ⊢
  rw [er] at HRR hb2s hplt
  have hpr : p ≠ r := by omega
  clear er
  go_loopg [7] llen (fun g s7 wr => ∃ (i : Nat) (bs' : List Int) (bad' : Bool), s7 = .int .i64 i ∧ i ≤ llen ∧ i ≤ 15 ∧ g = llen - i ∧ Hid (Below w.heap.size w wr) ∧ Hid (Rd W0 wr w.heap.size p 47 bs' bad') ∧ Hid (Rd w wr 0 r 62 bs' bad'))
  case atStart => exact ⟨0, bs, false, rfl, by omega, by omega, rfl, HL, HRP, HRR⟩
  case round =>
    clear HRP HRR HL
    obtain ⟨i, bs', bad', rfl, hi, hi15, rfl, HL, HP, HR⟩ := hrel
    by_cases h1 : i < llen
    case' pos => have h2 : i < 15 ∨ i = 15 := by omega
    case' pos => rcases h2 with h2 | rfl
    case pos.inl =>
      obtain ⟨ba, off, rfl, hbl, hok, hc0, hc1, hc2, hc3⟩ := HA.out.at h1
      obtain ⟨q, hq⟩ : ∃ q, qs i = q := ⟨_, rfl⟩
      rw [hq] at hok hc0 hc1 hc2 hc3
      have c0 : wr.cell? ⟨ba, off + i * 4, none⟩ = some (.int .i64 q.k) := bl_cell HL.out (p := ⟨ba, off + i * 4, none⟩) hbl hc0
      have hsz := HL.out.size
      have c1 : ∀ s : In (fun x => Ch wr x p (some r)), s.w.cell? ⟨ba, off + i * 4 + 1, none⟩ = some (.int .i64 q.n) := fun s =>
        s.h.cell (x := ⟨ba, off + i * 4 + 1, none⟩) (by show ba < _; omega) (by show ba ≠ _; omega) (by show some r ≠ some ba; intro e; injection e with e; omega) (bl_cell HL.out (p := ⟨ba, off + i * 4 + 1, none⟩) hbl hc1)
      have hqn := i64_bounds hok.wn
      obtain ⟨k, hk⟩ : ∃ k, q.k = k := ⟨_, rfl⟩
      obtain ⟨n, hn⟩ : ∃ n, q.n = n := ⟨_, rfl⟩
      rw [hk] at c0
      rw [hn] at c1 hqn
      have hW0 := HP.out.size
      have hrlt := HR.out.lt
      clear hc0 hc1 hc2 hc3 hok hq hk hn
      go_upto_block 2 with fail
      go_cut [8] (fun s8 wc => s8 = .bool true ∧ ∃ (bs2 : List Int) (bad2 : Bool), Hid (Below w.heap.size w wc) ∧ Hid (Rd W0 wc w.heap.size p 47 bs2 bad2) ∧ Hid (Rd w wc 0 r 62 bs2 bad2))
      case first =>
        by_cases k1 : k = 1
        · subst k1
          go_wp2_with fail
          refine Calls.mono (byte_any _ _ _ _ _ _ HP.out) ?_
          rintro e w5 ⟨rfl, hP5, hg5⟩
          have HP5 := Lib.hid hP5
          have HR5 := Lib.hid (HR.out.aside hg5 (.inr (by omega)) (by omega))
          have HL5 := Lib.hid (HL.out.grown hg5 HL.out.size (by intro k hk; injection hk with hk; omega))
          clear hP5 hg5
          go_wp2_with fail
          refine Calls.mono (rbyte_any _ _ _ _ _ _ HR5.out) ?_
          rintro e w6 ⟨rfl, hR6, hg6⟩
          have HR6 := Lib.hid hR6
          have HP6 := Lib.hid (HP5.out.aside hg6 (.inr (by omega)) (by omega))
          have HL6 := Lib.hid (HL5.out.grown hg6 HL5.out.size (by intro k hk; injection hk with hk; omega))
          clear hR6 hg6
          go_wp2_with fail
          go_meet
          case rel => exact ⟨rfl, _, _, HL6, HP6, HR6⟩
        · by_cases k2 : k = 2
          · subst k2
            go_wp2_with fail
            refine Calls.mono (two_any _ _ _ _ _ _ HP.out) ?_
            rintro e w5 ⟨rfl, hP5, hg5⟩
            have HP5 := Lib.hid hP5
            have HR5 := Lib.hid (HR.out.aside hg5 (.inr (by omega)) (by omega))
            have HL5 := Lib.hid (HL.out.grown hg5 HL.out.size (by intro k hk; injection hk with hk; omega))
            clear hP5 hg5
            go_wp2_with fail
            refine Calls.mono (rtwo_any _ _ _ _ _ _ HR5.out) ?_
            rintro e w6 ⟨rfl, hR6, hg6⟩
            have HR6 := Lib.hid hR6
            have HP6 := Lib.hid (HP5.out.aside hg6 (.inr (by omega)) (by omega))
            have HL6 := Lib.hid (HL5.out.grown hg6 HL5.out.size (by intro k hk; injection hk with hk; omega))
            clear hR6 hg6
            go_wp2_with fail
            go_meet
            case rel => exact ⟨rfl, _, _, HL6, HP6, HR6⟩
          · by_cases k3 : k = 3
            · subst k3
              go_wp2_with fail
              refine Calls.mono (var_any _ _ _ _ _ _ HP.out) ?_
              rintro e w5 ⟨rfl, hP5, hg5⟩
              have HP5 := Lib.hid hP5
              have HR5 := Lib.hid (HR.out.aside hg5 (.inr (by omega)) (by omega))
              have HL5 := Lib.hid (HL.out.grown hg5 HL.out.size (by intro k hk; injection hk with hk; omega))
              clear hP5 hg5
              go_wp2_with fail
              refine Calls.mono (rvar_any _ _ _ _ _ _ HR5.out) ?_
              rintro e w6 ⟨rfl, hR6, hg6⟩
              have HR6 := Lib.hid hR6
              have HP6 := Lib.hid (HP5.out.aside hg6 (.inr (by omega)) (by omega))
              have HL6 := Lib.hid (HL5.out.grown hg6 HL5.out.size (by intro k hk; injection hk with hk; omega))
              clear hR6 hg6
              go_wp2_with fail
              go_meet
              case rel => exact ⟨rfl, _, _, HL6, HP6, HR6⟩
            · by_cases k4 : k = 4
              · subst k4
                go_wp2_with fail
                refine wp_plan (.t 0 (.t 1 (.t 2 (.t 3 (.t 4 (.t 5 (.t 8 (.t 9 (.t 10 (.t 11 (.t 12 (.t 13 (.u 6 (.t 7 (.u 14 (.t 15 (.t 16 (.t 17 .done))))))))))))))))))
                  (fun x => Ch wr x p (some r)) (by kernel_rfl) (by kernel_rfl) (by kernel_rfl) (fun c a d v w h => by cases d <;> exact h) (Ch.refl _ _ _).drew ?_
                have hS : Ch wr wr.drew p (some r) := (Ch.refl _ _ _).drew
                have HPd : Hid (Rd W0 wr.drew w.heap.size p 47 bs' bad') := Lib.hid (HP.out.to (bl_drewN (Below.refl _ _) 1))
                have HRd : Hid (Rd w wr.drew 0 r 62 bs' bad') := Lib.hid (HR.out.to (bl_drewN (Below.refl _ _) 1))
                have HLd : Hid (Below w.heap.size w wr.drew) := Lib.hid (bl_next HL.out HL.out.size (bl_drewN (Below.refl _ _) 1))
                have hszd : wr.drew.heap.size = wr.heap.size := rfl
                generalize wr.drew = W1 at hS HPd HRd HLd hszd ⊢
                haveI hne : Nonempty (In fun x => Ch wr x p (some r)) := ⟨⟨wr, Ch.refl _ _ _⟩⟩
                repeat (refine plan_t (by rfl) ?_; (first | go_big_quiet_skip | (go_big_quiet_want; go_big_quiet_op; go_big_quiet_on)); refine wpQuiet_nil ?_)
                refine plan_un (by rfl) (by kernel_rfl) ?_
                intro K hK
                go_wp2_with fail
                refine Calls.mono (raw_any _ _ _ _ _ _ n hqn HPd.out) ?_
                rintro e W2 ⟨a5, m5, cap5, rfl, hc5, hi5, hP5, hg5, hlo5⟩
                have HP5 := Lib.hid hP5
                have HR5 := Lib.hid (HRd.out.aside hg5 (.inr (by omega)) (by omega))
                have HL5 := Lib.hid (HLd.out.grown hg5 HLd.out.size (by intro k hk; injection hk with hk; omega))
                have hS2 := hS.grown (.inl hg5)
                have hconv : ∀ s : In (fun x => W2.grownBy x (some r)), (convert 22 9 (.slice a5 m5 cap5)).run Try.prog s.w = .ok (.string (strOfNums (rdM bs' bad' n).1)) s.w := fun s =>
                  conv_ints _ 5 _ _ Try.underlying22 Try.underlying5 Try.underlying9 (hi5.grown s.h (fun x hx => by have := hlo5 x hx; intro e; injection e with e; omega))
                clear hP5 hg5 hi5 HPd HRd HLd
                go_wp2_with fail
                refine ⟨fun x => W2.grownBy x (some r), fun x hx => hS2.grown (.inr hx), grown_refl _ _, ?_⟩
                clear c1 hne
                haveI hne2 : Nonempty (In fun x => W2.grownBy x (some r)) := ⟨⟨W2, grown_refl _ _⟩⟩
                repeat (refine plan_t (by rfl) ?_; (first | go_big_quiet_skip | (go_big_quiet_want; go_big_quiet_op; go_big_quiet_on)); refine wpQuiet_nil ?_)
                refine plan_un (by rfl) (by kernel_rfl) ?_
                intro K2 hK2
                go_wp2_with fail
                refine Calls.mono (rraw_any _ _ _ _ _ _ n hqn HR5.out) ?_
                rintro e W3 ⟨a6, m6, cap6, rfl, hc6, hi6, hR6, hg6, _⟩
                have HR6 := Lib.hid hR6
                have HP6 := Lib.hid (HP5.out.aside hg6 (.inr (by omega)) (by omega))
                have HL6 := Lib.hid (HL5.out.grown hg6 HL5.out.size (by intro k hk; injection hk with hk; omega))
                have hconv2 : ∀ s : In (fun x => Below W3.heap.size W3 x), (convert 22 9 (.slice a6 m6 cap6)).run Try.prog s.w = .ok (.string (strOfNums (rdM bs' bad' n).1)) s.w := fun s =>
                  conv_ints _ 5 _ _ Try.underlying22 Try.underlying5 Try.underlying9 (hi6.below s.h)
                have hsub : ∀ x, Below W3.heap.size W3 x → W2.grownBy x (some r) := fun x hx => grown_trans hg6 (grown_below hx _)
                clear hR6 hg6 hi6 hconv
                go_wp2_with fail
                refine ⟨fun x => Below W3.heap.size W3 x, hsub, Below.refl _ _, ?_⟩
                clear hne2 hsub
                haveI hne3 : Nonempty (In fun x => Below W3.heap.size W3 x) := ⟨⟨W3, Below.refl _ _⟩⟩
                repeat (refine plan_t (by rfl) ?_; (first | go_big_quiet_skip | (go_big_quiet_want; go_big_quiet_op; go_big_quiet_on)); refine wpQuiet_nil ?_)
                show Exit.inBlock _ _ _ _ _
                go_wp2_with fail
                go_meet
                case rel => exact ⟨rfl, _, _, HL6, HP6, HR6⟩
              · by_cases k5 : k = 5
                · subst k5
                  go_wp2_with fail
                  refine wp_plan (.t 0 (.t 3 (.u 1 (.t 2 (.u 4 (.t 5 (.t 6 (.t 7 .done))))))))
                    (fun x => Ch wr x p (some r)) (by kernel_rfl) (by kernel_rfl) (by kernel_rfl) (fun c a d v w h => by cases d <;> exact h) (Ch.refl _ _ _).drew ?_
                  have hS : Ch wr wr.drew p (some r) := (Ch.refl _ _ _).drew
                  have HPd : Hid (Rd W0 wr.drew w.heap.size p 47 bs' bad') := Lib.hid (HP.out.to (bl_drewN (Below.refl _ _) 1))
                  have HRd : Hid (Rd w wr.drew 0 r 62 bs' bad') := Lib.hid (HR.out.to (bl_drewN (Below.refl _ _) 1))
                  have HLd : Hid (Below w.heap.size w wr.drew) := Lib.hid (bl_next HL.out HL.out.size (bl_drewN (Below.refl _ _) 1))
                  have hszd : wr.drew.heap.size = wr.heap.size := rfl
                  generalize wr.drew = W1 at hS HPd HRd HLd hszd ⊢
                  haveI hne : Nonempty (In fun x => Ch wr x p (some r)) := ⟨⟨wr, Ch.refl _ _ _⟩⟩
                  repeat (refine plan_t (by rfl) ?_; (first | go_big_quiet_skip | (go_big_quiet_want; go_big_quiet_op; go_big_quiet_on)); refine wpQuiet_nil ?_)
                  refine plan_un (by rfl) (by kernel_rfl) ?_
                  intro K hK
                  go_wp2_with fail
                  refine Calls.mono (text_any _ _ _ _ _ _ HPd.out) ?_
                  rintro e W2 ⟨a5, m5, cap5, rfl, hc5, hi5, hP5, hg5, hlo5⟩
                  have HP5 := Lib.hid hP5
                  have HR5 := Lib.hid (HRd.out.aside hg5 (.inr (by omega)) (by omega))
                  have HL5 := Lib.hid (HLd.out.grown hg5 HLd.out.size (by intro k hk; injection hk with hk; omega))
                  have hS2 := hS.grown (.inl hg5)
                  have hconv : ∀ s : In (fun x => W2.grownBy x (some r)), (convert 22 9 (.slice a5 m5 cap5)).run Try.prog s.w = .ok (.string (strOfNums (textM bs' bad').1)) s.w := fun s =>
                    conv_ints _ 5 _ _ Try.underlying22 Try.underlying5 Try.underlying9 (hi5.grown s.h (fun x hx => by have := hlo5 x hx; intro e; injection e with e; omega))
                  clear hP5 hg5 hi5 HPd HRd HLd
                  go_wp2_with fail
                  refine ⟨fun x => W2.grownBy x (some r), fun x hx => hS2.grown (.inr hx), grown_refl _ _, ?_⟩
                  clear c1 hne
                  haveI hne2 : Nonempty (In fun x => W2.grownBy x (some r)) := ⟨⟨W2, grown_refl _ _⟩⟩
                  repeat (refine plan_t (by rfl) ?_; (first | go_big_quiet_skip | (go_big_quiet_want; go_big_quiet_op; go_big_quiet_on)); refine wpQuiet_nil ?_)
                  refine plan_un (by rfl) (by kernel_rfl) ?_
                  intro K2 hK2
                  go_wp2_with fail
                  refine Calls.mono (rtext_any _ _ _ _ _ _ HR5.out) ?_
                  rintro e W3 ⟨a6, m6, cap6, rfl, hc6, hi6, hR6, hg6, _⟩
                  have HR6 := Lib.hid hR6
                  have HP6 := Lib.hid (HP5.out.aside hg6 (.inr (by omega)) (by omega))
                  have HL6 := Lib.hid (HL5.out.grown hg6 HL5.out.size (by intro k hk; injection hk with hk; omega))
                  have hconv2 : ∀ s : In (fun x => Below W3.heap.size W3 x), (convert 22 9 (.slice a6 m6 cap6)).run Try.prog s.w = .ok (.string (strOfNums (textM bs' bad').1)) s.w := fun s =>
                    conv_ints _ 5 _ _ Try.underlying22 Try.underlying5 Try.underlying9 (hi6.below s.h)
                  have hsub : ∀ x, Below W3.heap.size W3 x → W2.grownBy x (some r) := fun x hx => grown_trans hg6 (grown_below hx _)
                  clear hR6 hg6 hi6 hconv
                  go_wp2_with fail
                  refine ⟨fun x => Below W3.heap.size W3 x, hsub, Below.refl _ _, ?_⟩
                  clear hne2 hsub
                  haveI hne3 : Nonempty (In fun x => Below W3.heap.size W3 x) := ⟨⟨W3, Below.refl _ _⟩⟩
                  repeat (refine plan_t (by rfl) ?_; (first | go_big_quiet_skip | (go_big_quiet_want; go_big_quiet_op; go_big_quiet_on)); refine wpQuiet_nil ?_)
                  show Exit.inBlock _ _ _ _ _
                  go_wp2_with fail
                  go_meet
                  case rel => exact ⟨rfl, _, _, HL6, HP6, HR6⟩
                · go_wp2_with fail
                  go_meet
                  case rel => exact ⟨rfl, _, _, HL, HP, HR⟩
      case rest =>
        clear HL HP HR c0 c1
        obtain ⟨rfl, bs2, bad2, HL, HP, HR⟩ := hcut
        go_wp2_with fail
        obtain ⟨ra, rlen, rcap, hrow, _, _, hri, _⟩ := HR.out.ex
        have hrl := hri.1
        have d0 : ∀ s : In (fun x => Below wc.heap.size wc x), s.w.cell? ⟨r, 0, none⟩ = some (.slice ra rlen rcap) := fun s => row_cell (bl_row s.h HR.out.lt hrow) 0 _ rfl
        have d1 : ∀ s : In (fun x => Below wc.heap.size wc x), s.w.cell? ⟨r, 1, none⟩ = some (.bool bad2) := fun s => row_cell (bl_row s.h HR.out.lt hrow) 1 _ rfl
        have HRL := Lib.hid hrl
        clear hrow hri hrl
        refine wp_plan (.t 0 (.t 1 (.t 2 (.t 3 (.t 5 (.t 6 (.t 7 (.t 8 (.u 4 (.t 9 (.t 10 (.t 11 (.t 12 (.t 14 (.t 15 (.t 16 (.t 17 (.t 18 (.u 13 (.t 19 (.t 20 .done)))))))))))))))))))))
          (fun x => Below wc.heap.size wc x) (by kernel_rfl) (by kernel_rfl) (by kernel_rfl) (fun c a d v w h => by cases d <;> exact h) (Below.refl _ _).drew ?_
        have hS : Below wc.heap.size wc wc.drew := (Below.refl _ _).drew
        generalize wc.drew = W1 at hS ⊢
        haveI hne : Nonempty (In fun x => Below wc.heap.size wc x) := ⟨⟨wc, Below.refl _ _⟩⟩
        repeat (refine plan_t (by rfl) ?_; (first | go_big_quiet_skip | (go_big_quiet_want; go_big_quiet_op; go_big_quiet_on)); refine wpQuiet_nil ?_)
        refine plan_us (by rfl) (by kernel_rfl) ?_
        intro K hK
        go_wp2_with fail
        refine Calls.mono (bad_any _ _ _ _ _ _ (HP.out.to hS)) ?_
        rintro e W2 ⟨rfl, rfl⟩
        go_wp2_with fail
        refine ⟨hS, ?_⟩
        repeat (refine plan_t (by rfl) ?_; (first | go_big_quiet_skip | (go_big_quiet_want; go_big_quiet_op; go_big_quiet_on)); refine wpQuiet_nil ?_)
        refine plan_us (by rfl) (by kernel_rfl) ?_
        intro K2 hK2
        go_wp2_with fail
        refine Calls.mono (left_any _ _ _ _ _ _ (HP.out.to hS)) ?_
        rintro e W3 ⟨rfl, rfl⟩
        rw [HRL.out]
        go_wp2_with fail
        refine ⟨hS, ?_⟩
        repeat (refine plan_t (by rfl) ?_; (first | go_big_quiet_skip | (go_big_quiet_want; go_big_quiet_op; go_big_quiet_on)); refine wpQuiet_nil ?_)
        show Exit.then _ _ _ _ _
        go_wp2_with fail
        go_roundg (llen - (i + 1))
        case measure => omega
        case rel => exact ⟨i + 1, bs2, bad2, by go_num, by omega, by omega, rfl, Lib.hid (bl_next HL.out HL.out.size hS), Lib.hid (HP.out.to hS), Lib.hid (HR.out.to hS)⟩
    all_goals
      go_wp2_with fail
      go_ret
      exact ⟨rfl, HL.out⟩
end Go.Proofs.Ytpiappdkbodabaa
