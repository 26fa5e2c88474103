/- chapter 21's walks: play -/
import Derived.Test.YtdckjaganpincaaPathLaw2
import Derived.Deep.DeepCutAuto
import Derived.Deep.CutBlock
namespace Go.Proofs.Ytdckjaganpincaa
open Go.RowKit
set_option linter.unusedVariables false

theorem len8 {xs : List Int} (h : xs.length = 8) : ∃ x0 x1 x2 x3 x4 x5 x6 x7, xs = [x0, x1, x2, x3, x4, x5, x6, x7] := by
  match xs, h with
  | [x0, x1, x2, x3, x4, x5, x6, x7], _ => exact ⟨_, _, _, _, _, _, _, _, rfl⟩
theorem more_law {h n m d1 d2 : Int} (hh : 0 ≤ h ∧ h ≤ 1099511627776) (hm : (if n < 0 then 0 else n) = m) (h1 : (if 1099511627776 < m then 1099511627776 else m) = d1)
    (h2 : (if 1099511627776 < h + d1 then 1099511627776 else h + d1) = d2) : moreM h n = d2 ∧ 0 ≤ d1 ∧ d1 ≤ 1099511627776 ∧ 0 ≤ d2 ∧ d2 ≤ 1099511627776 := by
  have e : moreM h n = d2 := by rw [← h2, ← h1, ← hm]; unfold moreM; (repeat' split) <;> omega
  refine ⟨e, ?_, ?_, ?_, ?_⟩ <;> (try rw [← h2]) <;> (try rw [← h1]) <;> (try rw [← hm]) <;> (repeat' split) <;> omega

set_option maxRecDepth 100000 in
set_option maxHeartbeats 8000000 in
theorem play_any (w : World) (tq seed : Int) (K0 : Bool) (a : Option Addr) (len cap : Nat) (hlen : len ≤ 4611686018427387904) (hA : Asks w a len) :
    Makes Try.prog 19 #[.int .i64 tq, .bool K0, .int .u64 seed, .slice a len cap] w (.bool true) := by
  obtain ⟨y0, y1, y2, y3, y4, y5, y6, y7, ey⟩ : ∃ y0 y1 y2 y3 y4 y5 y6 y7, bytesM (nextM seed) = [y0, y1, y2, y3, y4, y5, y6, y7] := ⟨_, _, _, _, _, _, _, _, rfl⟩
  have hwy := wf_bytes (nextM seed)
  rw [ey] at hwy
  have HWY := Lib.hid hwy
  have EY := Lib.hid ey
  have HAsk := Lib.hid hA
  clear hwy ey hA
  go_enter Try.func19, Try.ntmps19
  go_wp2_with fail
  refine Calls.mono (new_any _ tq K0 seed) ?_
  rintro e w1 ⟨rfl, hF⟩
  have hb1 := hF.below
  have hr1 : isPath w1 w.heap.size tq K0 seed 0 0 := hF.row
  obtain ⟨b, hb⟩ : ∃ b, w.heap.size = b := ⟨_, rfl⟩
  rw [hb] at hr1 ⊢
  have HB1 := Lib.hid hb1; have HR1 := Lib.hid hr1; clear hr1 hb1 hF
  go_wp2_with fail
  refine Calls.mono (challenge_any _ _ _ _ _ _ _ HR1.out) ?_
  rintro e w2 ⟨rfl, hC⟩
  rw [EY.out]
  have hr1 : isPath w2 b tq K0 seed 0 0 := bl_row hC (lt_of_block HR1.out) HR1.out
  have hb2 := HB1.out.trans (hC.mono HB1.out.size)
  clear HB1 HR1 hC
  have HB1 := Lib.hid hb2; have HR1 := Lib.hid hr1; clear hr1 hb2
  go_wp2_with fail
  have hrc := heap_alloc_new w2 (.cells #[.int .u8 y0, .int .u8 y1, .int .u8 y2, .int .u8 y3, .int .u8 y4, .int .u8 y5, .int .u8 y6, .int .u8 y7] 28)
  have hbc := (Below.refl w2.heap.size w2).alloc (Nat.le_refl _) (.cells #[.int .u8 y0, .int .u8 y1, .int .u8 y2, .int .u8 y3, .int .u8 y4, .int .u8 y5, .int .u8 y6, .int .u8 y7] 28)
  generalize w2.alloc (.cells #[.int .u8 y0, .int .u8 y1, .int .u8 y2, .int .u8 y3, .int .u8 y4, .int .u8 y5, .int .u8 y6, .int .u8 y7] 28) = W at hrc hbc ⊢
  have hr1 : isPath W b tq K0 seed 0 0 := bl_row hbc (lt_of_block HR1.out) HR1.out
  have hb3 := HB1.out.trans (hbc.mono HB1.out.size)
  have hgc : b < w2.heap.size := lt_of_block HR1.out
  obtain ⟨g, hg⟩ : ∃ g, w2.heap.size = g := ⟨_, rfl⟩
  rw [hg] at hrc hgc ⊢
  have hneg : g ≠ b := by omega
  have hI : IntsK .u8 W (some ⟨g, 0, none⟩) 8 [y0, y1, y2, y3, y4, y5, y6, y7] := IntsK.of_row (zs := [y0, y1, y2, y3, y4, y5, y6, y7]) hrc HWY.out
  have HI := Lib.hid hI
  have HRC := Lib.hid hrc
  have HB := Lib.hid hb3
  have HPW := Lib.hid hr1
  have HAW := Lib.hid (show ∀ j, j < len → ∃ ba off k n x0 x1 x2 x3 x4 x5 x6 x7, a = some ⟨ba, off, none⟩ ∧ (Lit.int .i64 k).wf = true ∧ (Lit.int .i64 n).wf = true ∧ (∀ x ∈ [x0, x1, x2, x3, x4, x5, x6, x7], (Lit.int .u8 x).wf = true) ∧
      ∀ w', W.grownBy w' (some b) → ∀ i v, (askRow k n [x0, x1, x2, x3, x4, x5, x6, x7])[i]? = some v → w'.cell? ⟨ba, off + j * 10 + i, none⟩ = some v by
    intro j hj
    obtain ⟨ba, off, k, n, xs, h1, h2, h3, h4, h5, h6, h7⟩ := HAsk.out.at hj
    obtain ⟨x0, x1, x2, x3, x4, x5, x6, x7, rfl⟩ := len8 h5
    exact ⟨ba, off, k, n, x0, x1, x2, x3, x4, x5, x6, x7, h1, h3, h4, h6, fun w' hw' i v hv => hw'.cell (bl_cell HB.out (p := ⟨ba, off + j * 10 + i, none⟩) h2 (h7 i v hv)) (by simp; omega)⟩)
  have HCE := Lib.hid (show ∀ w', W.grownBy w' (some b) → ∀ i v, #[Value.int .u8 y0, Value.int .u8 y1, Value.int .u8 y2, Value.int .u8 y3, Value.int .u8 y4, Value.int .u8 y5, Value.int .u8 y6, Value.int .u8 y7][i]? = some v → w'.cell? ⟨g, i, none⟩ = some v from
    fun w' h i v hv => row_cell (grown_row h (by simpa using hneg) HRC.out) i v hv)
  clear HB1 HR1 hr1 hbc hgc hg hneg hrc hI HAsk hb3
  have hcv : ∀ s : In (fun w' => Below W.heap.size W w'), (convert 45 9 (.slice (some ⟨g, 0, none⟩) 8 8)).run Try.prog s.w = .ok (.string (strOfNums [y0, y1, y2, y3, y4, y5, y6, y7])) s.w :=
    fun s => conv_ints _ _ _ _ Try.underlying45 Try.underlying5 Try.underlying9 (HI.out.below s.h)
  refine wp_plan (.t 0 (.t 1 (.t 2 (.u 3 (.u 4 (.u 5 (.t 6 (.t 7 (.t 8 (.t 10 (.u 9 (.t 11 (.t 12 .done)))))))))))))
    (fun w' => Below W.heap.size W w') (by kernel_rfl) (by kernel_rfl) (by kernel_rfl) (fun c a d v w h => by cases d <;> exact h) (Below.refl _ _).drew ?_
  have hS : Below W.heap.size W W.drew := (Below.refl _ _).drew
  generalize W.drew = W1 at hS ⊢
  haveI hne : Nonempty (In fun w' => Below W.heap.size W w') := ⟨⟨W, Below.refl _ _⟩⟩
  repeat (refine plan_t (by rfl) ?_; (first | go_big_quiet_skip | (go_big_quiet_want; go_big_quiet_op; go_big_quiet_on)); refine wpQuiet_nil ?_)
  clear hcv
  refine plan_us (by rfl) (by kernel_rfl) ?_
  intro K hK
  go_wp2_with fail
  refine Calls.mono ((rnext_any _ _).makes) ?_
  rintro e W2 ⟨rfl, hb⟩
  replace hS := bl_next hS hS.size hb; clear hb
  go_wp2_with fail
  refine ⟨hS, ?_⟩
  refine plan_us (by rfl) (by kernel_rfl) ?_
  intro K hK
  go_wp2_with fail
  refine Calls.mono (rbytes_any _ _) ?_
  rintro e W3 ⟨rfl, hF⟩
  rw [EY.out] at hF
  have hI2 := IntsK.of_row (zs := [y0, y1, y2, y3, y4, y5, y6, y7]) hF.row HWY.out
  have hcv2 : (convert 45 9 (.slice (some ⟨_, 0, none⟩) 8 8)).run Try.prog W3 = .ok (.string (strOfNums [y0, y1, y2, y3, y4, y5, y6, y7])) W3 := conv_ints _ _ _ _ Try.underlying45 Try.underlying5 Try.underlying9 hI2
  replace hS := bl_next hS hS.size hF.below; clear hF hI2
  go_wp2_with fail
  refine ⟨hS, ?_⟩
  refine plan_us (by rfl) (by kernel_rfl) ?_
  intro K hK
  go_wp2_with fail
  refine ⟨hS, ?_⟩
  clear hcv2
  repeat (refine plan_t (by rfl) ?_; (first | go_big_quiet_skip | (go_big_quiet_want; go_big_quiet_op; go_big_quiet_on)); refine wpQuiet_nil ?_)
  refine plan_us (by rfl) (by kernel_rfl) ?_
  intro K hK
  go_wp2_with fail
  refine Calls.mono (to_any _ _ _ _ _ _ _ (bl_row hS (lt_of_block HPW.out) HPW.out)) ?_
  rintro e W4 ⟨rfl, rfl⟩
  go_wp2_with fail
  refine ⟨hS, ?_⟩
  repeat (refine plan_t (by rfl) ?_; (first | go_big_quiet_skip | (go_big_quiet_want; go_big_quiet_op; go_big_quiet_on)); refine wpQuiet_nil ?_)
  show Exit.then _ _ _ _ _
  have HP0 := Lib.hid (show At W3 b (pathRow tq K0 seed 0 0) 41 W from ⟨bl_row hS (lt_of_block HPW.out) HPW.out, grown_below hS _⟩)
  clear hS
  go_wp2_with fail
  go_loopg [1, 11, 12, 13] len (fun g kn he tt i wr => ∃ (j : Nat) (Kn : Bool) (h t : Int), g = len - j ∧ kn = .bool Kn ∧ he = .int .i64 h ∧ tt = .int .i64 t ∧ i = .int .i64 j ∧ j ≤ len ∧ j ≤ 60 ∧ 0 ≤ h ∧ h ≤ 1099511627776 ∧ 0 ≤ t ∧ t ≤ 1099511627776 ∧ Hid (At wr b (pathRow tq Kn seed h t) 41 W))
  case atStart => exact ⟨0, K0, 0, 0, rfl, rfl, rfl, rfl, rfl, by omega, by omega, by omega, by omega, by omega, by omega, HP0⟩
  case round =>
    obtain ⟨j, Kn, h, t, rfl, rfl, rfl, rfl, rfl, hj, hj6, hh0, hh1, ht0, ht1, HP⟩ := hrel
    by_cases h1 : j < len
    case' pos => have h6 : j < 60 ∨ j = 60 := by omega
    case' pos => rcases h6 with h6 | rfl
    case pos.inl =>
      obtain ⟨ba, off, k, n, x0, x1, x2, x3, x4, x5, x6, x7, rfl, hk, hn, hx, hc⟩ := HAW.out j h1
      have HX := Lib.hid hx; have HC := Lib.hid hc
      have ck : wr.cell? ⟨ba, off + j * 10, none⟩ = some (.int .i64 k) := hc _ HP.out.rest 0 _ rfl
      have cn : wr.cell? ⟨ba, off + j * 10 + 1, none⟩ = some (.int .i64 n) := hc _ HP.out.rest 1 _ rfl
      have hn2 := i64_bounds hn
      have hk2 := i64_bounds hk
      clear hx hc hk hn
      obtain ⟨m, hm⟩ : ∃ m, (if n < 0 then 0 else n) = m := ⟨_, rfl⟩
      obtain ⟨d, hd⟩ : ∃ d, (if 1099511627776 < m then 1099511627776 else m) = d := ⟨_, rfl⟩
      obtain ⟨h', hh'⟩ : ∃ h', (if 1099511627776 < h + d then 1099511627776 else h + d) = h' := ⟨_, rfl⟩
      obtain ⟨t', ht'⟩ : ∃ t', (if 1099511627776 < t + d then 1099511627776 else t + d) = t' := ⟨_, rfl⟩
      obtain ⟨eh, hd0, hd1, hh2, hh3⟩ := more_law ⟨hh0, hh1⟩ hm hd hh'
      obtain ⟨et, _, _, ht2, ht3⟩ := more_law ⟨ht0, ht1⟩ hm hd ht'
      have hm0 : 0 ≤ m := by rw [← hm]; split <;> omega
      have hm1 : m ≤ 9223372036854775807 := by rw [← hm]; split <;> omega
      go_upto_block 2 with fail
      go_cut [1, 11, 12] (fun s1 s11 s12 wr => ∃ (Kn : Bool) (h t : Int), s1 = .bool Kn ∧ s11 = .int .i64 h ∧ s12 = .int .i64 t ∧ 0 ≤ h ∧ h ≤ 1099511627776 ∧ 0 ≤ t ∧ t ≤ 1099511627776 ∧ Hid (At wr b (pathRow tq Kn seed h t) 41 W))
      case first =>
        by_cases k2 : k = 2
        · subst k2
          go_wp2_with fail
          refine Calls.mono (went_any _ _ _ _ _ _ _ _ ⟨ht0, ht1⟩ HP.out.row) ?_
          rintro e w3 ⟨rfl, hA⟩
          rw [et] at hA
          have HS := Lib.hid (HP.out.trans hA); clear hA HP ck cn
          go_wp2_with fail
          go_meet
          case rel => exact ⟨Kn, h, t', rfl, rfl, rfl, by omega, by omega, by omega, by omega, HS⟩
        by_cases k3 : k = 3
        · subst k3
          go_wp2_with fail
          refine Calls.mono (went_any _ _ _ _ _ _ _ _ ⟨ht0, ht1⟩ HP.out.row) ?_
          rintro e w3 ⟨rfl, hA⟩
          rw [et] at hA
          have HS := Lib.hid (HP.out.trans hA); clear hA HP ck cn
          go_wp2_with fail
          go_meet
          case rel => exact ⟨Kn, h, t', rfl, rfl, rfl, by omega, by omega, by omega, by omega, HS⟩
        by_cases k4 : k = 4
        · subst k4
          go_wp2_with fail
          refine Calls.mono (went_any _ _ _ _ _ _ _ _ ⟨ht0, ht1⟩ HP.out.row) ?_
          rintro e w3 ⟨rfl, hA⟩
          rw [et] at hA
          have HS := Lib.hid (HP.out.trans hA); clear hA HP ck cn
          go_wp2_with fail
          go_meet
          case rel => exact ⟨Kn, h, t', rfl, rfl, rfl, by omega, by omega, by omega, by omega, HS⟩
        by_cases k5 : k = 5
        · subst k5
          go_wp2_with fail
          refine Calls.mono (knows_any _ _ _ _ _ _ _ HP.out.row) ?_
          rintro e w3 ⟨rfl, hA⟩
          have HS := Lib.hid (HP.out.trans hA); clear hA HP ck cn
          go_wp2_with fail
          go_meet
          case rel => exact ⟨true, h, t, rfl, rfl, rfl, by omega, by omega, by omega, by omega, HS⟩
        by_cases k6 : k = 6
        · subst k6
          have e0 : wr.cell? ⟨g, 0, none⟩ = some (.int .u8 y0) := HCE.out _ HP.out.rest 0 _ rfl
          have e1 : wr.cell? ⟨g, 1, none⟩ = some (.int .u8 y1) := HCE.out _ HP.out.rest 1 _ rfl
          have e2 : wr.cell? ⟨g, 2, none⟩ = some (.int .u8 y2) := HCE.out _ HP.out.rest 2 _ rfl
          have e3 : wr.cell? ⟨g, 3, none⟩ = some (.int .u8 y3) := HCE.out _ HP.out.rest 3 _ rfl
          have e4 : wr.cell? ⟨g, 4, none⟩ = some (.int .u8 y4) := HCE.out _ HP.out.rest 4 _ rfl
          have e5 : wr.cell? ⟨g, 5, none⟩ = some (.int .u8 y5) := HCE.out _ HP.out.rest 5 _ rfl
          have e6 : wr.cell? ⟨g, 6, none⟩ = some (.int .u8 y6) := HCE.out _ HP.out.rest 6 _ rfl
          have e7 : wr.cell? ⟨g, 7, none⟩ = some (.int .u8 y7) := HCE.out _ HP.out.rest 7 _ rfl
          go_wp2_with fail
          refine Calls.mono (response_any _ _ _ _ _ _ _ [y0, y1, y2, y3, y4, y5, y6, y7] rfl HWY.out HP.out.row) ?_
          rintro e w3 ⟨rfl, hA⟩
          rw [EY.out, beq_self_eq_true, Bool.or_true] at hA
          rw [EY.out, beq_self_eq_true]
          have HS := Lib.hid (HP.out.trans hA); clear hA HP ck cn e0 e1 e2 e3 e4 e5 e6 e7
          go_wp2_with fail
          go_meet
          case rel => exact ⟨true, h, t, rfl, rfl, rfl, by omega, by omega, by omega, by omega, HS⟩
        by_cases k7 : k = 7
        · subst k7
          obtain ⟨qq, hqe⟩ : ∃ qq, ([x0, x1, x2, x3, x4, x5, x6, x7] == [y0, y1, y2, y3, y4, y5, y6, y7]) = qq := ⟨_, rfl⟩
          have hq : ∀ w, (Op.equalIn 10000 28 (.agg #[.int .u8 x0, .int .u8 x1, .int .u8 x2, .int .u8 x3, .int .u8 x4, .int .u8 x5, .int .u8 x6, .int .u8 x7]) (.agg #[.int .u8 y0, .int .u8 y1, .int .u8 y2, .int .u8 y3, .int .u8 y4, .int .u8 y5, .int .u8 y6, .int .u8 y7])).run Try.prog w = .ok qq w := fun w => by
            have h := eqin_bytes w 28 8 Try.underlying28 [x0, x1, x2, x3, x4, x5, x6, x7] [y0, y1, y2, y3, y4, y5, y6, y7] rfl rfl HX.out HWY.out
            rw [hqe] at h; exact h
          have HQE := Lib.hid hqe; clear hqe
          go_wp2_with fail
          clear ck cn
          have e0 : ∀ s : In (fun w' => W.grownBy w' (some b)), s.w.cell? ⟨g, 0, none⟩ = some (.int .u8 y0) := fun s => HCE.out _ s.h 0 _ rfl
          have e1 : ∀ s : In (fun w' => W.grownBy w' (some b)), s.w.cell? ⟨g, 1, none⟩ = some (.int .u8 y1) := fun s => HCE.out _ s.h 1 _ rfl
          have e2 : ∀ s : In (fun w' => W.grownBy w' (some b)), s.w.cell? ⟨g, 2, none⟩ = some (.int .u8 y2) := fun s => HCE.out _ s.h 2 _ rfl
          have e3 : ∀ s : In (fun w' => W.grownBy w' (some b)), s.w.cell? ⟨g, 3, none⟩ = some (.int .u8 y3) := fun s => HCE.out _ s.h 3 _ rfl
          have e4 : ∀ s : In (fun w' => W.grownBy w' (some b)), s.w.cell? ⟨g, 4, none⟩ = some (.int .u8 y4) := fun s => HCE.out _ s.h 4 _ rfl
          have e5 : ∀ s : In (fun w' => W.grownBy w' (some b)), s.w.cell? ⟨g, 5, none⟩ = some (.int .u8 y5) := fun s => HCE.out _ s.h 5 _ rfl
          have e6 : ∀ s : In (fun w' => W.grownBy w' (some b)), s.w.cell? ⟨g, 6, none⟩ = some (.int .u8 y6) := fun s => HCE.out _ s.h 6 _ rfl
          have e7 : ∀ s : In (fun w' => W.grownBy w' (some b)), s.w.cell? ⟨g, 7, none⟩ = some (.int .u8 y7) := fun s => HCE.out _ s.h 7 _ rfl
          have d0 : ∀ s : In (fun w' => W.grownBy w' (some b)), s.w.cell? ⟨ba, off + j * 10 + 2, none⟩ = some (.int .u8 x0) := fun s => HC.out _ s.h 2 _ rfl
          have d1 : ∀ s : In (fun w' => W.grownBy w' (some b)), s.w.cell? ⟨ba, off + j * 10 + 3, none⟩ = some (.int .u8 x1) := fun s => HC.out _ s.h 3 _ rfl
          have d2 : ∀ s : In (fun w' => W.grownBy w' (some b)), s.w.cell? ⟨ba, off + j * 10 + 4, none⟩ = some (.int .u8 x2) := fun s => HC.out _ s.h 4 _ rfl
          have d3 : ∀ s : In (fun w' => W.grownBy w' (some b)), s.w.cell? ⟨ba, off + j * 10 + 5, none⟩ = some (.int .u8 x3) := fun s => HC.out _ s.h 5 _ rfl
          have d4 : ∀ s : In (fun w' => W.grownBy w' (some b)), s.w.cell? ⟨ba, off + j * 10 + 6, none⟩ = some (.int .u8 x4) := fun s => HC.out _ s.h 6 _ rfl
          have d5 : ∀ s : In (fun w' => W.grownBy w' (some b)), s.w.cell? ⟨ba, off + j * 10 + 7, none⟩ = some (.int .u8 x5) := fun s => HC.out _ s.h 7 _ rfl
          have d6 : ∀ s : In (fun w' => W.grownBy w' (some b)), s.w.cell? ⟨ba, off + j * 10 + 8, none⟩ = some (.int .u8 x6) := fun s => HC.out _ s.h 8 _ rfl
          have d7 : ∀ s : In (fun w' => W.grownBy w' (some b)), s.w.cell? ⟨ba, off + j * 10 + 9, none⟩ = some (.int .u8 x7) := fun s => HC.out _ s.h 9 _ rfl
          refine wp_plan (.t 0 (.t 1 (.t 2 (.t 3 (.t 4 (.t 5 (.t 7 (.t 8 (.t 9 (.t 10 (.t 11 (.t 12 (.t 13 (.u 6 (.t 14 .done)))))))))))))))
            (fun w' => W.grownBy w' (some b)) (by kernel_rfl) (by kernel_rfl) (by kernel_rfl) (fun c a d v w h => by cases d <;> exact h) (grown_trans HP.out.rest (grown_drew _ _)) ?_
          have hS : At wr.drew b (pathRow tq Kn seed h t) 41 W := ⟨HP.out.row, grown_trans HP.out.rest (grown_drew _ _)⟩
          generalize wr.drew = wq at hS ⊢
          haveI hne : Nonempty (In fun w' => W.grownBy w' (some b)) := ⟨⟨W, grown_refl _ _⟩⟩
          repeat (refine plan_t (by rfl) ?_; (first | go_big_quiet_skip | (go_big_quiet_want; go_big_quiet_op; go_big_quiet_on)); refine wpQuiet_nil ?_)
          refine plan_us (by rfl) (by kernel_rfl) ?_
          intro K hK
          go_wp2_with fail
          refine Calls.mono (response_any _ _ _ _ _ _ _ [x0, x1, x2, x3, x4, x5, x6, x7] rfl HX.out hS.row) ?_
          rintro e w3 ⟨rfl, hA⟩
          rw [EY.out, HQE.out] at hA
          rw [EY.out, HQE.out]
          replace hS := hS.trans hA; clear hA
          go_wp2_with fail
          refine ⟨hS.rest, ?_⟩
          repeat (refine plan_t (by rfl) ?_; (first | go_big_quiet_skip | (go_big_quiet_want; go_big_quiet_op; go_big_quiet_on)); refine wpQuiet_nil ?_)
          show Exit.then _ _ _ _ _
          clear e0 e1 e2 e3 e4 e5 e6 e7 d0 d1 d2 d3 d4 d5 d6 d7 HP
          have HS1 := Lib.hid hS; clear hS
          have e0 : w3.cell? ⟨g, 0, none⟩ = some (.int .u8 y0) := HCE.out _ HS1.out.rest 0 _ rfl
          have e1 : w3.cell? ⟨g, 1, none⟩ = some (.int .u8 y1) := HCE.out _ HS1.out.rest 1 _ rfl
          have e2 : w3.cell? ⟨g, 2, none⟩ = some (.int .u8 y2) := HCE.out _ HS1.out.rest 2 _ rfl
          have e3 : w3.cell? ⟨g, 3, none⟩ = some (.int .u8 y3) := HCE.out _ HS1.out.rest 3 _ rfl
          have e4 : w3.cell? ⟨g, 4, none⟩ = some (.int .u8 y4) := HCE.out _ HS1.out.rest 4 _ rfl
          have e5 : w3.cell? ⟨g, 5, none⟩ = some (.int .u8 y5) := HCE.out _ HS1.out.rest 5 _ rfl
          have e6 : w3.cell? ⟨g, 6, none⟩ = some (.int .u8 y6) := HCE.out _ HS1.out.rest 6 _ rfl
          have e7 : w3.cell? ⟨g, 7, none⟩ = some (.int .u8 y7) := HCE.out _ HS1.out.rest 7 _ rfl
          have d0 : w3.cell? ⟨ba, off + j * 10 + 2, none⟩ = some (.int .u8 x0) := HC.out _ HS1.out.rest 2 _ rfl
          have d1 : w3.cell? ⟨ba, off + j * 10 + 3, none⟩ = some (.int .u8 x1) := HC.out _ HS1.out.rest 3 _ rfl
          have d2 : w3.cell? ⟨ba, off + j * 10 + 4, none⟩ = some (.int .u8 x2) := HC.out _ HS1.out.rest 4 _ rfl
          have d3 : w3.cell? ⟨ba, off + j * 10 + 5, none⟩ = some (.int .u8 x3) := HC.out _ HS1.out.rest 5 _ rfl
          have d4 : w3.cell? ⟨ba, off + j * 10 + 6, none⟩ = some (.int .u8 x4) := HC.out _ HS1.out.rest 6 _ rfl
          have d5 : w3.cell? ⟨ba, off + j * 10 + 7, none⟩ = some (.int .u8 x5) := HC.out _ HS1.out.rest 7 _ rfl
          have d6 : w3.cell? ⟨ba, off + j * 10 + 8, none⟩ = some (.int .u8 x6) := HC.out _ HS1.out.rest 8 _ rfl
          have d7 : w3.cell? ⟨ba, off + j * 10 + 9, none⟩ = some (.int .u8 x7) := HC.out _ HS1.out.rest 9 _ rfl
          clear HQE
          cases qq
          all_goals cases Kn
          · go_wp2_with fail
            go_quiet (fail)
            have HS := Lib.hid (show At (w3.drewN nq) b (pathRow tq false seed h t) 41 W from HS1.out.drewN nq)
            clear HS1 e0 e1 e2 e3 e4 e5 e6 e7 d0 d1 d2 d3 d4 d5 d6 d7 hq
            generalize w3.drewN nq = w5 at HS ⊢
            go_wp2_with fail
            go_meet
            case rel => exact ⟨false, h, t, rfl, rfl, rfl, by omega, by omega, by omega, by omega, HS⟩
          · go_wp2_with fail
            go_quiet (fail)
            have HS := Lib.hid (show At (w3.drewN nq) b (pathRow tq true seed h t) 41 W from HS1.out.drewN nq)
            clear HS1 e0 e1 e2 e3 e4 e5 e6 e7 d0 d1 d2 d3 d4 d5 d6 d7 hq
            generalize w3.drewN nq = w5 at HS ⊢
            go_wp2_with fail
            go_meet
            case rel => exact ⟨true, h, t, rfl, rfl, rfl, by omega, by omega, by omega, by omega, HS⟩
          · go_wp2_with fail
            go_quiet (fail)
            have HS := Lib.hid (show At (w3.drewN nq) b (pathRow tq true seed h t) 41 W from HS1.out.drewN nq)
            clear HS1 e0 e1 e2 e3 e4 e5 e6 e7 d0 d1 d2 d3 d4 d5 d6 d7 hq
            generalize w3.drewN nq = w5 at HS ⊢
            go_wp2_with fail
            go_meet
            case rel => exact ⟨true, h, t, rfl, rfl, rfl, by omega, by omega, by omega, by omega, HS⟩
          · go_wp2_with fail
            go_quiet (fail)
            have HS := Lib.hid (show At (w3.drewN nq) b (pathRow tq true seed h t) 41 W from HS1.out.drewN nq)
            clear HS1 e0 e1 e2 e3 e4 e5 e6 e7 d0 d1 d2 d3 d4 d5 d6 d7 hq
            generalize w3.drewN nq = w5 at HS ⊢
            go_wp2_with fail
            go_meet
            case rel => exact ⟨true, h, t, rfl, rfl, rfl, by omega, by omega, by omega, by omega, HS⟩
        · go_wp2_with fail
          refine Calls.mono (got_any _ _ _ _ _ _ _ _ ⟨hh0, hh1⟩ HP.out.row) ?_
          rintro e w3 ⟨rfl, hA⟩
          rw [eh] at hA
          have HS := Lib.hid (HP.out.trans hA); clear hA HP ck cn
          go_wp2_with fail
          go_meet
          case rel => exact ⟨Kn, h', t, rfl, rfl, rfl, by omega, by omega, by omega, by omega, HS⟩
      case rest =>
        clear ck cn HP eh et hm hd hh' ht' hd0 hd1 hh2 hh3 ht2 ht3 hm0 hm1 hh0 hh1 ht0 ht1 hk2
        obtain ⟨Kn, h, t, rfl, rfl, rfl, hh0, hh1, ht0, ht1, HS⟩ := hcut
        have cn3 : wc.cell? ⟨ba, off + j * 10 + 1, none⟩ = some (.int .i64 n) := HC.out _ HS.out.rest 1 _ rfl
        go_wp2_with fail
        have hrl := heap_alloc_new wc (.cells #[.int .i64 (-1), .int .i64 0, .int .i64 1, .int .i64 n, .int .i64 (3 * h - t), .int .i64 (3 * h - t + 1)] 3)
        have HSa := Lib.hid (HS.out.alloc (.cells #[.int .i64 (-1), .int .i64 0, .int .i64 1, .int .i64 n, .int .i64 (3 * h - t), .int .i64 (3 * h - t + 1)] 3))
        generalize World.alloc wc (.cells #[.int .i64 (-1), .int .i64 0, .int .i64 1, .int .i64 n, .int .i64 (3 * h - t), .int .i64 (3 * h - t + 1)] 3) = w3a at hrl HSa ⊢
        obtain ⟨gl, hgl⟩ : ∃ gl, wc.heap.size = gl := ⟨_, rfl⟩
        rw [hgl] at hrl ⊢
        have HRL := Lib.hid hrl
        clear hrl hgl cn3 HS
        go_loopg [140] 6 (fun g i wr => ∃ (jj q : Nat), g = 6 - jj ∧ i = .int .i64 jj ∧ jj ≤ 6 ∧ Hid (wr = w3a.drewN q))
        case atStart => exact ⟨0, 0, rfl, rfl, by omega, Lib.hid rfl⟩
        case round =>
          obtain ⟨jj, q, rfl, rfl, hjj, hwr⟩ := hrel
          obtain rfl := hwr.out
          by_cases hlt : jj < 6
          · obtain ⟨v, hv, hvb⟩ : ∃ v, w3a.cell? ⟨gl, jj, none⟩ = some (.int .i64 v) ∧ (-9223372036854775808 ≤ v ∧ v ≤ 9223372036854775807) := by
              have hjs : jj = 0 ∨ jj = 1 ∨ jj = 2 ∨ jj = 3 ∨ jj = 4 ∨ jj = 5 := by omega
              rcases hjs with rfl | rfl | rfl | rfl | rfl | rfl
              · exact ⟨_, row_cell HRL.out 0 _ rfl, by omega⟩
              · exact ⟨_, row_cell HRL.out 1 _ rfl, by omega⟩
              · exact ⟨_, row_cell HRL.out 2 _ rfl, by omega⟩
              · exact ⟨_, row_cell HRL.out 3 _ rfl, by omega⟩
              · exact ⟨_, row_cell HRL.out 4 _ rfl, by omega⟩
              · exact ⟨_, row_cell HRL.out 5 _ rfl, by omega⟩
            have hvc : (w3a.drewN q).cell? ⟨gl, jj, none⟩ = some (.int .i64 v) := hv
            clear hv
            go_wp2_with fail
            refine Calls.mono (may_any _ _ _ _ _ _ _ _ (by omega) (by omega) (HSa.out.drewN q).row) ?_
            rintro e w4 ⟨rfl, q2, rfl⟩
            clear hvc
            by_cases v0 : 0 ≤ v
            · cases Kn
              · by_cases t3 : t ≤ 3 * h
                · by_cases v3 : v ≤ 3 * h - t
                  · rw [show mayM false h t v = true by simp [mayM] <;> omega]
                    go_wp2_with fail
                    go_roundg (6 - (jj + 1))
                    case measure => omega
                    case rel => exact ⟨jj + 1, q + q2, rfl, by go_num, by omega, Lib.hid (by first | rfl | rw [World.drewN_drewN])⟩
                  · rw [show mayM false h t v = false by simp [mayM] <;> omega]
                    go_wp2_with fail
                    go_roundg (6 - (jj + 1))
                    case measure => omega
                    case rel => exact ⟨jj + 1, q + q2, rfl, by go_num, by omega, Lib.hid (by first | rfl | rw [World.drewN_drewN])⟩
                · rw [show mayM false h t v = false by simp [mayM] <;> omega]
                  go_wp2_with fail
                  go_roundg (6 - (jj + 1))
                  case measure => omega
                  case rel => exact ⟨jj + 1, q + q2, rfl, by go_num, by omega, Lib.hid (by first | rfl | rw [World.drewN_drewN])⟩
              · rw [show mayM true h t v = true by simp [mayM] <;> omega]
                go_wp2_with fail
                go_roundg (6 - (jj + 1))
                case measure => omega
                case rel => exact ⟨jj + 1, q + q2, rfl, by go_num, by omega, Lib.hid (by first | rfl | rw [World.drewN_drewN])⟩
            · rw [show mayM Kn h t v = false by simp [mayM] <;> omega]
              go_wp2_with fail
              go_roundg (6 - (jj + 1))
              case measure => omega
              case rel => exact ⟨jj + 1, q + q2, rfl, by go_num, by omega, Lib.hid (by first | rfl | rw [World.drewN_drewN])⟩
          · obtain rfl : jj = 6 := by omega
            go_wp2_with fail
            refine Calls.mono (heard_any _ _ _ _ _ _ _ (HSa.out.drewN q).row) ?_
            rintro e w4 ⟨rfl, rfl⟩
            go_wp2_with fail
            refine Calls.mono (told_any _ _ _ _ _ _ _ (HSa.out.drewN q).row) ?_
            rintro e w4 ⟨rfl, rfl⟩
            go_wp2_with fail
            refine Calls.mono (known_any _ _ _ _ _ _ _ (HSa.out.drewN q).row) ?_
            rintro e w4 ⟨rfl, rfl⟩
            go_wp2_with fail
            go_roundg (len - (j + 1))
            case measure => omega
            case rel => exact ⟨j + 1, Kn, h, t, rfl, rfl, rfl, rfl, by go_num, by omega, by omega, by omega, by omega, by omega, by omega, Lib.hid (HSa.out.drewN q)⟩
    all_goals
      go_wp2_with fail
      go_ret
      exact ⟨rfl, HB.out.trans (HP.out.bl (by omega) HB.out.size)⟩
end Go.Proofs.Ytdckjaganpincaa
