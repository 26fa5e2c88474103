/- chapter 6's walks: encodes, known. -/
import Derived.Test.YtooneejimladdaaPrm9
import Derived.Lib.SlBytesConst
namespace Go.Proofs.Ytooneejimladdaa
open Go.RowKit
set_option linter.unusedVariables false

set_option maxHeartbeats 4000000 in
theorem encodes6_any (w : World) (p : Pm) (hp : p.ok) : Makes Try.prog 7 #[p.val] w (.bool true) := by
  have HE := Lib.hid (fun w => pencode_any w p hp)
  have HRI := Lib.hid (fun w => right_any w p hp.len)
  have HRR := Lib.hid (fun w => rright_any w p hp.len)
  have HRE := Lib.hid (fun w (h : rightM p = true) => rpencode_any w p hp h)
  have HWF : Hid (rightM p = true → ∀ x ∈ encP p, (Lit.int .u8 x).wf = true) := Lib.hid (fun h x hx => by
    have b1 := bdU64 hp.wi; have b2 := bdU64 hp.wd; have b3 := bdU64 hp.ws; have b4 := bdU64 hp.wm
    unfold encP at hx
    rcases List.mem_append.1 hx with h1 | h1
    · exact onesM_wf p h ⟨b1.1, b2.1, b3.1, b4.1⟩ 4 x h1
    · rcases List.mem_append.1 h1 with h1 | h1
      · exact putM_wf 0 (by omega) x h1
      · rcases List.mem_append.1 h1 with h1 | h1
        · exact putM_wf _ (by omega) x h1
        · exact hp.wf x h1)
  obtain ⟨i, d, s, m, f⟩ := p
  obtain ⟨y0, y1, y2, y3, y4, y5, y6, y7, rfl⟩ := len8 hp.len
  clear hp
  obtain ⟨P, hP⟩ : ∃ P : Pm, (⟨i, d, s, m, [y0, y1, y2, y3, y4, y5, y6, y7]⟩ : Pm) = P := ⟨_, rfl⟩
  have HV : Hid (P.val = .agg #[.int .u64 i, .int .u64 d, .int .u64 s, .int .u64 m, .int .u8 y0, .int .u8 y1, .int .u8 y2, .int .u8 y3, .int .u8 y4, .int .u8 y5, .int .u8 y6, .int .u8 y7]) := Lib.hid (by rw [← hP]; rfl)
  rw [hP] at HE HRI HRR HRE HWF ⊢
  clear hP
  rw [HV.out] at HE HRI HRR HRE ⊢
  go_enter Try.func7, Try.ntmps7
  go_wp2_with fail
  refine Calls.mono (HE.out _) ?_
  have hrow := heap_alloc_new w (.cells #[.int .u64 i, .int .u64 d, .int .u64 s, .int .u64 m, .int .u8 y0, .int .u8 y1, .int .u8 y2, .int .u8 y3, .int .u8 y4, .int .u8 y5, .int .u8 y6, .int .u8 y7] 26)
  have hbW := (Below.refl w.heap.size w).alloc (Nat.le_refl _) (.cells #[.int .u64 i, .int .u64 d, .int .u64 s, .int .u64 m, .int .u8 y0, .int .u8 y1, .int .u8 y2, .int .u8 y3, .int .u8 y4, .int .u8 y5, .int .u8 y6, .int .u8 y7] 26)
  generalize w.alloc (.cells #[.int .u64 i, .int .u64 d, .int .u64 s, .int .u64 m, .int .u8 y0, .int .u8 y1, .int .u8 y2, .int .u8 y3, .int .u8 y4, .int .u8 y5, .int .u8 y6, .int .u8 y7] 26) = W at hrow hbW ⊢
  obtain ⟨g, hg⟩ : ∃ g, w.heap.size = g := ⟨_, rfl⟩
  rw [hg] at hrow ⊢
  have HG := Lib.hid hg
  have HROW := Lib.hid hrow; have HBW := Lib.hid hbW
  clear hg hrow hbW
  rintro e w1 ⟨hb1, hcase⟩
  have HB1 := Lib.hid (bl_next HBW.out HBW.out.size hb1)
  have hr1 := bl_row hb1 (lt_of_block HROW.out) HROW.out
  have HR1 := Lib.hid hr1
  clear hb1 hr1 HROW HBW
  rcases hcase with ⟨hr, a, cap, rfl, hc, hcm, hi, _⟩ | ⟨hr, rfl⟩
  · have HI1 := Lib.hid hi
    have HRF := Lib.hid (HWF.out hr)
    have HREF := Lib.hid (fun w => HRE.out w hr)
    rw [hr] at HRI HRR
    clear hi hr HWF HRE HE
    go_upto_region 2 with fail
    have hce : ∀ k x, #[.int .u64 i, .int .u64 d, .int .u64 s, .int .u64 m, .int .u8 y0, .int .u8 y1, .int .u8 y2, .int .u8 y3, .int .u8 y4, .int .u8 y5, .int .u8 y6, .int .u8 y7][k]? = some x → ∀ t : In (fun y => Below w1.heap.size w1 y), t.w.cell? ⟨g, k, none⟩ = some x :=
      fun k x hv t => bl_cell t.h (p := ⟨g, k, none⟩) (lt_of_block HR1.out) (row_cell HR1.out k x hv)
    have c0 := hce 0 _ rfl
    have c1 := hce 1 _ rfl
    have c2 := hce 2 _ rfl
    have c3 := hce 3 _ rfl
    have c4 := hce 4 _ rfl
    have c5 := hce 5 _ rfl
    have c6 := hce 6 _ rfl
    have c7 := hce 7 _ rfl
    have c8 := hce 8 _ rfl
    have c9 := hce 9 _ rfl
    have c10 := hce 10 _ rfl
    have c11 := hce 11 _ rfl
    clear hce
    refine wp_plan (.t 0 (.t 2 (.u 1 (.u 3 (.t 4 .done))))) (fun y => Below w1.heap.size w1 y) (by kernel_rfl) (by kernel_rfl) (by kernel_rfl) (fun c a d v w h => by cases d <;> exact h) (Below.refl _ _).drew ?_
    have hS : Below w1.heap.size w1 w1.drew := (Below.refl _ _).drew
    generalize w1.drew = W1 at hS ⊢
    haveI hne : Nonempty (In fun y => Below w1.heap.size w1 y) := ⟨⟨w1, Below.refl _ _⟩⟩
    repeat (refine plan_t (by rfl) ?_; (first | go_big_quiet_skip | (go_big_quiet_want; go_big_quiet_op; go_big_quiet_on)); refine wpQuiet_nil ?_)
    refine plan_us (by rfl) (by kernel_rfl) ?_
    intro K hK
    go_wp2_with fail
    refine Calls.mono (HRI.out _) ?_
    rintro e W2 ⟨rfl, hb⟩
    replace hS := bl_next hS hS.size hb; clear hb
    go_wp2_with fail
    refine ⟨hS, ?_⟩
    repeat (refine plan_t (by rfl) ?_; (first | go_big_quiet_skip | (go_big_quiet_want; go_big_quiet_op; go_big_quiet_on)); refine wpQuiet_nil ?_)
    refine plan_us (by rfl) (by kernel_rfl) ?_
    intro K hK
    go_wp2_with fail
    refine Calls.mono (HRR.out _) ?_
    rintro e W2 ⟨rfl, hb⟩
    replace hS := bl_next hS hS.size hb; clear hb
    go_wp2_with fail
    refine ⟨hS, ?_⟩
    repeat (refine plan_t (by rfl) ?_; (first | go_big_quiet_skip | (go_big_quiet_want; go_big_quiet_op; go_big_quiet_on)); refine wpQuiet_nil ?_)
    clear c0 c1 c2 c3 c4 c5 c6 c7 c8 c9 c10 c11
    have HL2 := Lib.hid (bl_next HB1.out HB1.out.size hS)
    have HR2 := Lib.hid (bl_row hS (lt_of_block HR1.out) HR1.out)
    have HI2 := Lib.hid (HI1.out.below hS)
    obtain ⟨e0, e1, e2, e3, e4, e5, e6, e7, e8, e9, e10, e11⟩ := row12 HR2.out
    clear hS hne HR1 HB1 HI1
    show Exit.then _ _ _ _ _
    go_wp2_with fail
    refine Calls.mono (HRR.out _) ?_
    rintro e W3 ⟨rfl, hb3⟩
    have HL3 := Lib.hid (bl_next HL2.out HL2.out.size hb3)
    have HR3 := Lib.hid (bl_row hb3 (lt_of_block HR2.out) HR2.out)
    have HI3 := Lib.hid (HI2.out.below hb3)
    clear e0 e1 e2 e3 e4 e5 e6 e7 e8 e9 e10 e11 hb3 HL2 HR2 HI2
    go_upto_region 6 with fail
    have hce : ∀ k x, #[.int .u64 i, .int .u64 d, .int .u64 s, .int .u64 m, .int .u8 y0, .int .u8 y1, .int .u8 y2, .int .u8 y3, .int .u8 y4, .int .u8 y5, .int .u8 y6, .int .u8 y7][k]? = some x → ∀ t : In (fun y => Below W3.heap.size W3 y), t.w.cell? ⟨g, k, none⟩ = some x :=
      fun k x hv t => bl_cell t.h (p := ⟨g, k, none⟩) (lt_of_block HR3.out) (row_cell HR3.out k x hv)
    have c0 := hce 0 _ rfl
    have c1 := hce 1 _ rfl
    have c2 := hce 2 _ rfl
    have c3 := hce 3 _ rfl
    have c4 := hce 4 _ rfl
    have c5 := hce 5 _ rfl
    have c6 := hce 6 _ rfl
    have c7 := hce 7 _ rfl
    have c8 := hce 8 _ rfl
    have c9 := hce 9 _ rfl
    have c10 := hce 10 _ rfl
    have c11 := hce 11 _ rfl
    clear hce
    have hcv : ∀ s : In (fun y => Below W3.heap.size W3 y), (convert 29 9 (.slice a (encP P).length cap)).run Try.prog s.w = .ok (.string (strOfNums (encP P))) s.w := fun s => conv_ints _ 5 _ _ Try.underlying29 Try.underlying5 Try.underlying9 (HI3.out.below s.h)
    refine wp_plan (.t 0 (.t 1 (.t 2 (.t 3 (.t 4 (.t 5 (.u 6 (.t 7 (.t 8 (.t 9 (.t 10 .done))))))))))) (fun y => Below W3.heap.size W3 y) (by kernel_rfl) (by kernel_rfl) (by kernel_rfl) (fun c a d v w h => by cases d <;> exact h) (Below.refl _ _).drew ?_
    have hS : Below W3.heap.size W3 W3.drew := (Below.refl _ _).drew
    generalize W3.drew = W4 at hS ⊢
    haveI hne : Nonempty (In fun y => Below W3.heap.size W3 y) := ⟨⟨W3, Below.refl _ _⟩⟩
    repeat (refine plan_t (by rfl) ?_; (first | go_big_quiet_skip | (go_big_quiet_want; go_big_quiet_op; go_big_quiet_on)); refine wpQuiet_nil ?_)
    refine plan_un (by rfl) (by kernel_rfl) ?_
    intro K hK
    go_wp2_with fail
    refine Calls.mono (HREF.out _) ?_
    rintro e W5 ⟨v, rfl, hb, ho⟩
    obtain ⟨b5, cp5, rfl, _, hi5, _⟩ := ints_of_own ho HRF.out
    have hS5 := bl_next hS hS.size hb
    have HI5 := Lib.hid hi5
    have hcv5 : ∀ s : In (fun y => Below W5.heap.size W5 y), (convert 29 9 (.slice b5 (encP P).length cp5)).run Try.prog s.w = .ok (.string (strOfNums (encP P))) s.w := fun s => conv_ints _ 5 _ _ Try.underlying29 Try.underlying5 Try.underlying9 (HI5.out.below s.h)
    clear hb ho hi5 hne hcv
    go_wp2_with fail
    refine ⟨fun y => Below W5.heap.size W5 y, fun x hx => bl_next hS5 hS5.size hx, Below.refl _ _, ?_⟩
    haveI hne : Nonempty (In fun y => Below W5.heap.size W5 y) := ⟨⟨W5, Below.refl _ _⟩⟩
    have HL5 := Lib.hid (bl_next HL3.out HL3.out.size hS5)
    clear hS hS5
    repeat (refine plan_t (by rfl) ?_; (first | go_big_quiet_skip | (go_big_quiet_want; go_big_quiet_op; go_big_quiet_on)); refine wpQuiet_nil ?_)
    show Exit.then _ _ _ _ _
    go_wp2_with fail
    go_ret
    exact ⟨rfl, HL5.out⟩
  · rw [hr] at HRI HRR
    clear hr HWF HRE HE
    go_upto_region 2 with fail
    have hce : ∀ k x, #[.int .u64 i, .int .u64 d, .int .u64 s, .int .u64 m, .int .u8 y0, .int .u8 y1, .int .u8 y2, .int .u8 y3, .int .u8 y4, .int .u8 y5, .int .u8 y6, .int .u8 y7][k]? = some x → ∀ t : In (fun y => Below w1.heap.size w1 y), t.w.cell? ⟨g, k, none⟩ = some x :=
      fun k x hv t => bl_cell t.h (p := ⟨g, k, none⟩) (lt_of_block HR1.out) (row_cell HR1.out k x hv)
    have c0 := hce 0 _ rfl
    have c1 := hce 1 _ rfl
    have c2 := hce 2 _ rfl
    have c3 := hce 3 _ rfl
    have c4 := hce 4 _ rfl
    have c5 := hce 5 _ rfl
    have c6 := hce 6 _ rfl
    have c7 := hce 7 _ rfl
    have c8 := hce 8 _ rfl
    have c9 := hce 9 _ rfl
    have c10 := hce 10 _ rfl
    have c11 := hce 11 _ rfl
    clear hce
    refine wp_plan (.t 0 (.t 2 (.u 1 (.u 3 (.t 4 .done))))) (fun y => Below w1.heap.size w1 y) (by kernel_rfl) (by kernel_rfl) (by kernel_rfl) (fun c a d v w h => by cases d <;> exact h) (Below.refl _ _).drew ?_
    have hS : Below w1.heap.size w1 w1.drew := (Below.refl _ _).drew
    generalize w1.drew = W1 at hS ⊢
    haveI hne : Nonempty (In fun y => Below w1.heap.size w1 y) := ⟨⟨w1, Below.refl _ _⟩⟩
    repeat (refine plan_t (by rfl) ?_; (first | go_big_quiet_skip | (go_big_quiet_want; go_big_quiet_op; go_big_quiet_on)); refine wpQuiet_nil ?_)
    refine plan_us (by rfl) (by kernel_rfl) ?_
    intro K hK
    go_wp2_with fail
    refine Calls.mono (HRI.out _) ?_
    rintro e W2 ⟨rfl, hb⟩
    replace hS := bl_next hS hS.size hb; clear hb
    go_wp2_with fail
    refine ⟨hS, ?_⟩
    repeat (refine plan_t (by rfl) ?_; (first | go_big_quiet_skip | (go_big_quiet_want; go_big_quiet_op; go_big_quiet_on)); refine wpQuiet_nil ?_)
    refine plan_us (by rfl) (by kernel_rfl) ?_
    intro K hK
    go_wp2_with fail
    refine Calls.mono (HRR.out _) ?_
    rintro e W2 ⟨rfl, hb⟩
    replace hS := bl_next hS hS.size hb; clear hb
    go_wp2_with fail
    refine ⟨hS, ?_⟩
    repeat (refine plan_t (by rfl) ?_; (first | go_big_quiet_skip | (go_big_quiet_want; go_big_quiet_op; go_big_quiet_on)); refine wpQuiet_nil ?_)
    clear c0 c1 c2 c3 c4 c5 c6 c7 c8 c9 c10 c11
    have HL2 := Lib.hid (bl_next HB1.out HB1.out.size hS)
    have HR2 := Lib.hid (bl_row hS (lt_of_block HR1.out) HR1.out)
    obtain ⟨e0, e1, e2, e3, e4, e5, e6, e7, e8, e9, e10, e11⟩ := row12 HR2.out
    clear hS hne HR1 HB1
    show Exit.then _ _ _ _ _
    go_wp2_with fail
    refine Calls.mono (HRR.out _) ?_
    rintro e W3 ⟨rfl, hb3⟩
    have HL3 := Lib.hid (bl_next HL2.out HL2.out.size hb3)
    clear e0 e1 e2 e3 e4 e5 e6 e7 e8 e9 e10 e11 hb3 HL2 HR2
    go_wp2_with fail
    go_ret
    exact ⟨rfl, HL3.out⟩
end Go.Proofs.Ytooneejimladdaa
