/- texts of the proof, laid together: FrmC, FrmD, FrmE, FrmF, Fra, Frb, FrmG. -/
import Derived.Test.YtmbjepcbokbemaaV4
set_option linter.unusedVariables false
set_option linter.unusedSimpArgs false
set_option maxRecDepth 100000
set_option maxHeartbeats 16000000
namespace Go.Proofs.Ytmbjepcbokbemaa
open Go.RowKit
theorem rright4_0 (w : World) (f : Fr) (dv rv : Value) (h : FrAt w f dv rv) (hk : f.kind = 0) :
  Calls Try.prog 18 #[.agg (f.cells dv rv).toArray] w fun e w' => e = .returned (.bool (rightB f)) ∧ Below w.heap.size w w' := by
 have hR : rightB f = (true) := by unfold rightB; simp [hk]
 rw [hR]
 have hwf := h.wf
 have HRF : Hid ((f.cells dv rv).length = 19) := Qh (Fr.len hwf)
 have H0 : Hid ((f.cells dv rv)[0]? = some (.int .i64 0)) := Qh (by rw [← hk]; rfl)
 obtain ⟨RF, hRF⟩ : ∃ R, f.cells dv rv = R := ⟨_, rfl⟩
 simp only [hRF] at HRF H0
 rw [hRF]
 clear hwf h hR hRF
 go_enter Try.func18, Try.ntmps18
 go_upto_region 1 with fail
 change Code.wp _ _ _ _ (w.alloc (.cells RF.toArray 39))
 have HB := Qh (Below.refl w.heap.size w)
 have hb := (Below.refl w.heap.size w).alloc (Nat.le_refl _) (.cells RF.toArray 39)
 replace HB := Qh (bl_next HB.out HB.out.size hb)
 have HF := Qh (heap_alloc_new w (.cells RF.toArray 39))
 clear hb
 generalize w.alloc (.cells RF.toArray 39) = w1 at HB HF ⊢
 obtain ⟨gf, hg⟩ : ∃ g, w.heap.size = g := ⟨_, rfl⟩
 rw [hg] at HF ⊢
 clear hg
 have c0 := cell_row HF.out 0 _ H0.out
 go_wp2_with fail
 go_ret
 exact ⟨by first | rfl | (simp; done) | (simp; omega), HB.out⟩
theorem rright4_1 (w : World) (f : Fr) (dv rv : Value) (h : FrAt w f dv rv) (hk : f.kind = 1) :
  Calls Try.prog 18 #[.agg (f.cells dv rv).toArray] w fun e w' => e = .returned (.bool (rightB f)) ∧ Below w.heap.size w w' := by
 have hR : rightB f = (true) := by unfold rightB; simp [hk]
 rw [hR]
 have hwf := h.wf
 have HRF : Hid ((f.cells dv rv).length = 19) := Qh (Fr.len hwf)
 have H0 : Hid ((f.cells dv rv)[0]? = some (.int .i64 1)) := Qh (by rw [← hk]; rfl)
 obtain ⟨RF, hRF⟩ : ∃ R, f.cells dv rv = R := ⟨_, rfl⟩
 simp only [hRF] at HRF H0
 rw [hRF]
 clear hwf h hR hRF
 go_enter Try.func18, Try.ntmps18
 go_upto_region 1 with fail
 change Code.wp _ _ _ _ (w.alloc (.cells RF.toArray 39))
 have HB := Qh (Below.refl w.heap.size w)
 have hb := (Below.refl w.heap.size w).alloc (Nat.le_refl _) (.cells RF.toArray 39)
 replace HB := Qh (bl_next HB.out HB.out.size hb)
 have HF := Qh (heap_alloc_new w (.cells RF.toArray 39))
 clear hb
 generalize w.alloc (.cells RF.toArray 39) = w1 at HB HF ⊢
 obtain ⟨gf, hg⟩ : ∃ g, w.heap.size = g := ⟨_, rfl⟩
 rw [hg] at HF ⊢
 clear hg
 have c0 := cell_row HF.out 0 _ H0.out
 go_wp2_with fail
 go_ret
 exact ⟨by first | rfl | (simp; done) | (simp; omega), HB.out⟩
theorem rright4_30 (w : World) (f : Fr) (dv rv : Value) (h : FrAt w f dv rv) (hk : f.kind = 30) :
  Calls Try.prog 18 #[.agg (f.cells dv rv).toArray] w fun e w' => e = .returned (.bool (rightB f)) ∧ Below w.heap.size w w' := by
 have hR : rightB f = (true) := by unfold rightB; simp [hk]
 rw [hR]
 have hwf := h.wf
 have HRF : Hid ((f.cells dv rv).length = 19) := Qh (Fr.len hwf)
 have H0 : Hid ((f.cells dv rv)[0]? = some (.int .i64 30)) := Qh (by rw [← hk]; rfl)
 obtain ⟨RF, hRF⟩ : ∃ R, f.cells dv rv = R := ⟨_, rfl⟩
 simp only [hRF] at HRF H0
 rw [hRF]
 clear hwf h hR hRF
 go_enter Try.func18, Try.ntmps18
 go_upto_region 1 with fail
 change Code.wp _ _ _ _ (w.alloc (.cells RF.toArray 39))
 have HB := Qh (Below.refl w.heap.size w)
 have hb := (Below.refl w.heap.size w).alloc (Nat.le_refl _) (.cells RF.toArray 39)
 replace HB := Qh (bl_next HB.out HB.out.size hb)
 have HF := Qh (heap_alloc_new w (.cells RF.toArray 39))
 clear hb
 generalize w.alloc (.cells RF.toArray 39) = w1 at HB HF ⊢
 obtain ⟨gf, hg⟩ : ∃ g, w.heap.size = g := ⟨_, rfl⟩
 rw [hg] at HF ⊢
 clear hg
 have c0 := cell_row HF.out 0 _ H0.out
 go_wp2_with fail
 go_ret
 exact ⟨by first | rfl | (simp; done) | (simp; omega), HB.out⟩
theorem rright4_26 (w : World) (f : Fr) (dv rv : Value) (h : FrAt w f dv rv) (hk : f.kind = 26) :
  Calls Try.prog 18 #[.agg (f.cells dv rv).toArray] w fun e w' => e = .returned (.bool (rightB f)) ∧ Below w.heap.size w w' := by
 have hR : rightB f = (true) := by unfold rightB; simp [hk]
 rw [hR]
 have hwf := h.wf
 have HRF : Hid ((f.cells dv rv).length = 19) := Qh (Fr.len hwf)
 have H0 : Hid ((f.cells dv rv)[0]? = some (.int .i64 26)) := Qh (by rw [← hk]; rfl)
 obtain ⟨RF, hRF⟩ : ∃ R, f.cells dv rv = R := ⟨_, rfl⟩
 simp only [hRF] at HRF H0
 rw [hRF]
 clear hwf h hR hRF
 go_enter Try.func18, Try.ntmps18
 go_upto_region 1 with fail
 change Code.wp _ _ _ _ (w.alloc (.cells RF.toArray 39))
 have HB := Qh (Below.refl w.heap.size w)
 have hb := (Below.refl w.heap.size w).alloc (Nat.le_refl _) (.cells RF.toArray 39)
 replace HB := Qh (bl_next HB.out HB.out.size hb)
 have HF := Qh (heap_alloc_new w (.cells RF.toArray 39))
 clear hb
 generalize w.alloc (.cells RF.toArray 39) = w1 at HB HF ⊢
 obtain ⟨gf, hg⟩ : ∃ g, w.heap.size = g := ⟨_, rfl⟩
 rw [hg] at HF ⊢
 clear hg
 have c0 := cell_row HF.out 0 _ H0.out
 go_wp2_with fail
 go_ret
 exact ⟨by first | rfl | (simp; done) | (simp; omega), HB.out⟩
theorem rright4_27 (w : World) (f : Fr) (dv rv : Value) (h : FrAt w f dv rv) (hk : f.kind = 27) :
  Calls Try.prog 18 #[.agg (f.cells dv rv).toArray] w fun e w' => e = .returned (.bool (rightB f)) ∧ Below w.heap.size w w' := by
 have hR : rightB f = (true) := by unfold rightB; simp [hk]
 rw [hR]
 have hwf := h.wf
 have HRF : Hid ((f.cells dv rv).length = 19) := Qh (Fr.len hwf)
 have H0 : Hid ((f.cells dv rv)[0]? = some (.int .i64 27)) := Qh (by rw [← hk]; rfl)
 obtain ⟨RF, hRF⟩ : ∃ R, f.cells dv rv = R := ⟨_, rfl⟩
 simp only [hRF] at HRF H0
 rw [hRF]
 clear hwf h hR hRF
 go_enter Try.func18, Try.ntmps18
 go_upto_region 1 with fail
 change Code.wp _ _ _ _ (w.alloc (.cells RF.toArray 39))
 have HB := Qh (Below.refl w.heap.size w)
 have hb := (Below.refl w.heap.size w).alloc (Nat.le_refl _) (.cells RF.toArray 39)
 replace HB := Qh (bl_next HB.out HB.out.size hb)
 have HF := Qh (heap_alloc_new w (.cells RF.toArray 39))
 clear hb
 generalize w.alloc (.cells RF.toArray 39) = w1 at HB HF ⊢
 obtain ⟨gf, hg⟩ : ∃ g, w.heap.size = g := ⟨_, rfl⟩
 rw [hg] at HF ⊢
 clear hg
 have c0 := cell_row HF.out 0 _ H0.out
 go_wp2_with fail
 go_ret
 exact ⟨by first | rfl | (simp; done) | (simp; omega), HB.out⟩
theorem rright4_4 (w : World) (f : Fr) (dv rv : Value) (h : FrAt w f dv rv) (hk : f.kind = 4) :
  Calls Try.prog 18 #[.agg (f.cells dv rv).toArray] w fun e w' => e = .returned (.bool (rightB f)) ∧ Below w.heap.size w w' := by
 have hR : rightB f = (inB f.st && inB f.co && decide (f.fi ≤ 1099511627776)) := by unfold rightB; simp [hk]
 rw [hR]
 have hwf := h.wf
 have HRF : Hid ((f.cells dv rv).length = 19) := Qh (Fr.len hwf)
 have H0 : Hid ((f.cells dv rv)[0]? = some (.int .i64 4)) := Qh (by rw [← hk]; rfl)
 have H_st : Hid ((f.cells dv rv)[1]? = some (.int .u64 f.st)) := Qh rfl
 have u_st := hwf.st
 simp only [U64] at u_st
 have H_co : Hid ((f.cells dv rv)[6]? = some (.int .u64 f.co)) := Qh rfl
 have u_co := hwf.co
 simp only [U64] at u_co
 have H_fi : Hid ((f.cells dv rv)[7]? = some (.int .u64 f.fi)) := Qh rfl
 have u_fi := hwf.fi
 simp only [U64] at u_fi
 obtain ⟨RF, hRF⟩ : ∃ R, f.cells dv rv = R := ⟨_, rfl⟩
 simp only [hRF] at HRF H0 H_st H_co H_fi
 rw [hRF]
 obtain ⟨st, h_st⟩ : ∃ y, f.st = y := ⟨_, rfl⟩
 rw [h_st] at H_st u_st
 try rw [h_st]
 obtain ⟨u1_st, u2_st⟩ := u_st
 clear h_st
 obtain ⟨co, h_co⟩ : ∃ y, f.co = y := ⟨_, rfl⟩
 rw [h_co] at H_co u_co
 try rw [h_co]
 obtain ⟨u1_co, u2_co⟩ := u_co
 clear h_co
 obtain ⟨fi, h_fi⟩ : ∃ y, f.fi = y := ⟨_, rfl⟩
 rw [h_fi] at H_fi u_fi
 try rw [h_fi]
 obtain ⟨u1_fi, u2_fi⟩ := u_fi
 clear h_fi
 obtain ⟨b1, hb1⟩ : ∃ b, (inB st && inB co) = b := ⟨_, rfl⟩
 rw [hb1]
 have Hb1 := Qh hb1
 clear hb1
 clear hwf h hR hRF
 go_enter Try.func18, Try.ntmps18
 go_upto_region 1 with fail
 change Code.wp _ _ _ _ (w.alloc (.cells RF.toArray 39))
 have HB := Qh (Below.refl w.heap.size w)
 have hb := (Below.refl w.heap.size w).alloc (Nat.le_refl _) (.cells RF.toArray 39)
 replace HB := Qh (bl_next HB.out HB.out.size hb)
 have HF := Qh (heap_alloc_new w (.cells RF.toArray 39))
 clear hb
 generalize w.alloc (.cells RF.toArray 39) = w1 at HB HF ⊢
 obtain ⟨gf, hg⟩ : ∃ g, w.heap.size = g := ⟨_, rfl⟩
 rw [hg] at HF ⊢
 clear hg
 have c0 := cell_row HF.out 0 _ H0.out
 have c_st := cell_row HF.out 1 _ H_st.out
 have c_co := cell_row HF.out 6 _ H_co.out
 have c_fi := cell_row HF.out 7 _ H_fi.out
 have hin := rsmall_any (w1.alloc (.cells ([.int .u64 st, .int .u64 co] : List Value).toArray 34)) (some ⟨w1.heap.size, 0, none⟩) 2 2 [st, co] (IntsK.of_row (zs := [st, co]) (heap_alloc_new _ _) (fun x hx => by simp only [List.mem_cons, List.not_mem_nil, or_false] at hx; rcases hx with rfl | rfl <;> exact wf_u64r (by omega) (by omega))) (by omega)
 rw [show ([st, co].all inB) = b1 by rw [← Hb1.out]; simp] at hin
 have HIN := Qh hin
 clear hin
 go_wp2_with fail
 refine Calls.mono HIN.out ?_
 rintro e wq ⟨rfl, rfl⟩
 clear HIN
 clear c0 c_st c_co c_fi
 have hb := (Below.refl w1.heap.size w1).alloc (Nat.le_refl _) (.cells ([.int .u64 st, .int .u64 co] : List Value).toArray 34)
 replace HB := Qh (bl_next HB.out HB.out.size hb)
 replace HF := Qh (bl_row hb (lt_of_block HF.out) HF.out)
 have HGb1 := Qh (heap_alloc_new w1 (.cells ([.int .u64 st, .int .u64 co] : List Value).toArray 34))
 clear hb
 generalize w1.alloc (.cells ([.int .u64 st, .int .u64 co] : List Value).toArray 34) = w2 at HB HF HGb1 ⊢
 obtain ⟨gb1, hg⟩ : ∃ g, w1.heap.size = g := ⟨_, rfl⟩
 rw [hg] at HGb1 ⊢
 clear hg
 have c0 := cell_row HF.out 0 _ H0.out
 have c_st := cell_row HF.out 1 _ H_st.out
 have c_co := cell_row HF.out 6 _ H_co.out
 have c_fi := cell_row HF.out 7 _ H_fi.out
 cases b1
 ·
  go_wp2_with fail
  go_ret
  exact ⟨by first | rfl | (simp; done) | (simp; omega), HB.out⟩
 ·
  go_wp2_with fail
  go_ret
  exact ⟨by first | rfl | (simp; done) | (simp; omega), HB.out⟩
theorem rright4_5 (w : World) (f : Fr) (dv rv : Value) (h : FrAt w f dv rv) (hk : f.kind = 5) :
  Calls Try.prog 18 #[.agg (f.cells dv rv).toArray] w fun e w' => e = .returned (.bool (rightB f)) ∧ Below w.heap.size w w' := by
 have hR : rightB f = (inB f.st && inB f.co) := by unfold rightB; simp [hk]
 rw [hR]
 have hwf := h.wf
 have HRF : Hid ((f.cells dv rv).length = 19) := Qh (Fr.len hwf)
 have H0 : Hid ((f.cells dv rv)[0]? = some (.int .i64 5)) := Qh (by rw [← hk]; rfl)
 have H_st : Hid ((f.cells dv rv)[1]? = some (.int .u64 f.st)) := Qh rfl
 have u_st := hwf.st
 simp only [U64] at u_st
 have H_co : Hid ((f.cells dv rv)[6]? = some (.int .u64 f.co)) := Qh rfl
 have u_co := hwf.co
 simp only [U64] at u_co
 obtain ⟨RF, hRF⟩ : ∃ R, f.cells dv rv = R := ⟨_, rfl⟩
 simp only [hRF] at HRF H0 H_st H_co
 rw [hRF]
 obtain ⟨st, h_st⟩ : ∃ y, f.st = y := ⟨_, rfl⟩
 rw [h_st] at H_st u_st
 try rw [h_st]
 obtain ⟨u1_st, u2_st⟩ := u_st
 clear h_st
 obtain ⟨co, h_co⟩ : ∃ y, f.co = y := ⟨_, rfl⟩
 rw [h_co] at H_co u_co
 try rw [h_co]
 obtain ⟨u1_co, u2_co⟩ := u_co
 clear h_co
 obtain ⟨b1, hb1⟩ : ∃ b, (inB st && inB co) = b := ⟨_, rfl⟩
 rw [hb1]
 have Hb1 := Qh hb1
 clear hb1
 clear hwf h hR hRF
 go_enter Try.func18, Try.ntmps18
 go_upto_region 1 with fail
 change Code.wp _ _ _ _ (w.alloc (.cells RF.toArray 39))
 have HB := Qh (Below.refl w.heap.size w)
 have hb := (Below.refl w.heap.size w).alloc (Nat.le_refl _) (.cells RF.toArray 39)
 replace HB := Qh (bl_next HB.out HB.out.size hb)
 have HF := Qh (heap_alloc_new w (.cells RF.toArray 39))
 clear hb
 generalize w.alloc (.cells RF.toArray 39) = w1 at HB HF ⊢
 obtain ⟨gf, hg⟩ : ∃ g, w.heap.size = g := ⟨_, rfl⟩
 rw [hg] at HF ⊢
 clear hg
 have c0 := cell_row HF.out 0 _ H0.out
 have c_st := cell_row HF.out 1 _ H_st.out
 have c_co := cell_row HF.out 6 _ H_co.out
 have hin := rsmall_any (w1.alloc (.cells ([.int .u64 st, .int .u64 co] : List Value).toArray 34)) (some ⟨w1.heap.size, 0, none⟩) 2 2 [st, co] (IntsK.of_row (zs := [st, co]) (heap_alloc_new _ _) (fun x hx => by simp only [List.mem_cons, List.not_mem_nil, or_false] at hx; rcases hx with rfl | rfl <;> exact wf_u64r (by omega) (by omega))) (by omega)
 rw [show ([st, co].all inB) = b1 by rw [← Hb1.out]; simp] at hin
 have HIN := Qh hin
 clear hin
 go_wp2_with fail
 refine Calls.mono HIN.out ?_
 rintro e wq ⟨rfl, rfl⟩
 clear HIN
 clear c0 c_st c_co
 have hb := (Below.refl w1.heap.size w1).alloc (Nat.le_refl _) (.cells ([.int .u64 st, .int .u64 co] : List Value).toArray 34)
 replace HB := Qh (bl_next HB.out HB.out.size hb)
 replace HF := Qh (bl_row hb (lt_of_block HF.out) HF.out)
 have HGb1 := Qh (heap_alloc_new w1 (.cells ([.int .u64 st, .int .u64 co] : List Value).toArray 34))
 clear hb
 generalize w1.alloc (.cells ([.int .u64 st, .int .u64 co] : List Value).toArray 34) = w2 at HB HF HGb1 ⊢
 obtain ⟨gb1, hg⟩ : ∃ g, w1.heap.size = g := ⟨_, rfl⟩
 rw [hg] at HGb1 ⊢
 clear hg
 have c0 := cell_row HF.out 0 _ H0.out
 have c_st := cell_row HF.out 1 _ H_st.out
 have c_co := cell_row HF.out 6 _ H_co.out
 cases b1
 ·
  go_wp2_with fail
  go_ret
  exact ⟨by first | rfl | (simp; done) | (simp; omega), HB.out⟩
 ·
  go_wp2_with fail
  go_ret
  exact ⟨by first | rfl | (simp; done) | (simp; omega), HB.out⟩
theorem rright4_16 (w : World) (f : Fr) (dv rv : Value) (h : FrAt w f dv rv) (hk : f.kind = 16) :
  Calls Try.prog 18 #[.agg (f.cells dv rv).toArray] w fun e w' => e = .returned (.bool (rightB f)) ∧ Below w.heap.size w w' := by
 have hR : rightB f = (decide (f.li ≤ 1099511627776)) := by unfold rightB; simp [hk]
 rw [hR]
 have hwf := h.wf
 have HRF : Hid ((f.cells dv rv).length = 19) := Qh (Fr.len hwf)
 have H0 : Hid ((f.cells dv rv)[0]? = some (.int .i64 16)) := Qh (by rw [← hk]; rfl)
 have H_li : Hid ((f.cells dv rv)[5]? = some (.int .u64 f.li)) := Qh rfl
 have u_li := hwf.li
 simp only [U64] at u_li
 obtain ⟨RF, hRF⟩ : ∃ R, f.cells dv rv = R := ⟨_, rfl⟩
 simp only [hRF] at HRF H0 H_li
 rw [hRF]
 obtain ⟨li, h_li⟩ : ∃ y, f.li = y := ⟨_, rfl⟩
 rw [h_li] at H_li u_li
 try rw [h_li]
 obtain ⟨u1_li, u2_li⟩ := u_li
 clear h_li
 clear hwf h hR hRF
 go_enter Try.func18, Try.ntmps18
 go_upto_region 1 with fail
 change Code.wp _ _ _ _ (w.alloc (.cells RF.toArray 39))
 have HB := Qh (Below.refl w.heap.size w)
 have hb := (Below.refl w.heap.size w).alloc (Nat.le_refl _) (.cells RF.toArray 39)
 replace HB := Qh (bl_next HB.out HB.out.size hb)
 have HF := Qh (heap_alloc_new w (.cells RF.toArray 39))
 clear hb
 generalize w.alloc (.cells RF.toArray 39) = w1 at HB HF ⊢
 obtain ⟨gf, hg⟩ : ∃ g, w.heap.size = g := ⟨_, rfl⟩
 rw [hg] at HF ⊢
 clear hg
 have c0 := cell_row HF.out 0 _ H0.out
 have c_li := cell_row HF.out 5 _ H_li.out
 go_wp2_with fail
 go_ret
 exact ⟨by first | rfl | (simp; done) | (simp; omega), HB.out⟩
theorem rright4_17 (w : World) (f : Fr) (dv rv : Value) (h : FrAt w f dv rv) (hk : f.kind = 17) :
  Calls Try.prog 18 #[.agg (f.cells dv rv).toArray] w fun e w' => e = .returned (.bool (rightB f)) ∧ Below w.heap.size w w' := by
 have hR : rightB f = (inB f.st && decide (f.li ≤ 1099511627776)) := by unfold rightB; simp [hk]
 rw [hR]
 have hwf := h.wf
 have HRF : Hid ((f.cells dv rv).length = 19) := Qh (Fr.len hwf)
 have H0 : Hid ((f.cells dv rv)[0]? = some (.int .i64 17)) := Qh (by rw [← hk]; rfl)
 have H_st : Hid ((f.cells dv rv)[1]? = some (.int .u64 f.st)) := Qh rfl
 have u_st := hwf.st
 simp only [U64] at u_st
 have H_li : Hid ((f.cells dv rv)[5]? = some (.int .u64 f.li)) := Qh rfl
 have u_li := hwf.li
 simp only [U64] at u_li
 obtain ⟨RF, hRF⟩ : ∃ R, f.cells dv rv = R := ⟨_, rfl⟩
 simp only [hRF] at HRF H0 H_st H_li
 rw [hRF]
 obtain ⟨st, h_st⟩ : ∃ y, f.st = y := ⟨_, rfl⟩
 rw [h_st] at H_st u_st
 try rw [h_st]
 obtain ⟨u1_st, u2_st⟩ := u_st
 clear h_st
 obtain ⟨li, h_li⟩ : ∃ y, f.li = y := ⟨_, rfl⟩
 rw [h_li] at H_li u_li
 try rw [h_li]
 obtain ⟨u1_li, u2_li⟩ := u_li
 clear h_li
 obtain ⟨b1, hb1⟩ : ∃ b, (inB st) = b := ⟨_, rfl⟩
 rw [hb1]
 have Hb1 := Qh hb1
 clear hb1
 clear hwf h hR hRF
 go_enter Try.func18, Try.ntmps18
 go_upto_region 1 with fail
 change Code.wp _ _ _ _ (w.alloc (.cells RF.toArray 39))
 have HB := Qh (Below.refl w.heap.size w)
 have hb := (Below.refl w.heap.size w).alloc (Nat.le_refl _) (.cells RF.toArray 39)
 replace HB := Qh (bl_next HB.out HB.out.size hb)
 have HF := Qh (heap_alloc_new w (.cells RF.toArray 39))
 clear hb
 generalize w.alloc (.cells RF.toArray 39) = w1 at HB HF ⊢
 obtain ⟨gf, hg⟩ : ∃ g, w.heap.size = g := ⟨_, rfl⟩
 rw [hg] at HF ⊢
 clear hg
 have c0 := cell_row HF.out 0 _ H0.out
 have c_st := cell_row HF.out 1 _ H_st.out
 have c_li := cell_row HF.out 5 _ H_li.out
 have hin := rsmall_any (w1.alloc (.cells ([.int .u64 st] : List Value).toArray 34)) (some ⟨w1.heap.size, 0, none⟩) 1 1 [st] (IntsK.of_row (zs := [st]) (heap_alloc_new _ _) (fun x hx => by simp only [List.mem_cons, List.not_mem_nil, or_false] at hx; subst hx; exact wf_u64r (by omega) (by omega))) (by omega)
 rw [show ([st].all inB) = b1 by rw [← Hb1.out]; simp] at hin
 have HIN := Qh hin
 clear hin
 go_wp2_with fail
 refine Calls.mono HIN.out ?_
 rintro e wq ⟨rfl, rfl⟩
 clear HIN
 clear c0 c_st c_li
 have hb := (Below.refl w1.heap.size w1).alloc (Nat.le_refl _) (.cells ([.int .u64 st] : List Value).toArray 34)
 replace HB := Qh (bl_next HB.out HB.out.size hb)
 replace HF := Qh (bl_row hb (lt_of_block HF.out) HF.out)
 have HGb1 := Qh (heap_alloc_new w1 (.cells ([.int .u64 st] : List Value).toArray 34))
 clear hb
 generalize w1.alloc (.cells ([.int .u64 st] : List Value).toArray 34) = w2 at HB HF HGb1 ⊢
 obtain ⟨gb1, hg⟩ : ∃ g, w1.heap.size = g := ⟨_, rfl⟩
 rw [hg] at HGb1 ⊢
 clear hg
 have c0 := cell_row HF.out 0 _ H0.out
 have c_st := cell_row HF.out 1 _ H_st.out
 have c_li := cell_row HF.out 5 _ H_li.out
 cases b1
 ·
  go_wp2_with fail
  go_ret
  exact ⟨by first | rfl | (simp; done) | (simp; omega), HB.out⟩
 ·
  go_wp2_with fail
  go_ret
  exact ⟨by first | rfl | (simp; done) | (simp; omega), HB.out⟩
theorem rright4_18 (w : World) (f : Fr) (dv rv : Value) (h : FrAt w f dv rv) (hk : f.kind = 18) :
  Calls Try.prog 18 #[.agg (f.cells dv rv).toArray] w fun e w' => e = .returned (.bool (rightB f)) ∧ Below w.heap.size w w' := by
 have hR : rightB f = (decide (f.li ≤ 1048576)) := by unfold rightB; simp [hk]
 rw [hR]
 have hwf := h.wf
 have HRF : Hid ((f.cells dv rv).length = 19) := Qh (Fr.len hwf)
 have H0 : Hid ((f.cells dv rv)[0]? = some (.int .i64 18)) := Qh (by rw [← hk]; rfl)
 have H_li : Hid ((f.cells dv rv)[5]? = some (.int .u64 f.li)) := Qh rfl
 have u_li := hwf.li
 simp only [U64] at u_li
 obtain ⟨RF, hRF⟩ : ∃ R, f.cells dv rv = R := ⟨_, rfl⟩
 simp only [hRF] at HRF H0 H_li
 rw [hRF]
 obtain ⟨li, h_li⟩ : ∃ y, f.li = y := ⟨_, rfl⟩
 rw [h_li] at H_li u_li
 try rw [h_li]
 obtain ⟨u1_li, u2_li⟩ := u_li
 clear h_li
 clear hwf h hR hRF
 go_enter Try.func18, Try.ntmps18
 go_upto_region 1 with fail
 change Code.wp _ _ _ _ (w.alloc (.cells RF.toArray 39))
 have HB := Qh (Below.refl w.heap.size w)
 have hb := (Below.refl w.heap.size w).alloc (Nat.le_refl _) (.cells RF.toArray 39)
 replace HB := Qh (bl_next HB.out HB.out.size hb)
 have HF := Qh (heap_alloc_new w (.cells RF.toArray 39))
 clear hb
 generalize w.alloc (.cells RF.toArray 39) = w1 at HB HF ⊢
 obtain ⟨gf, hg⟩ : ∃ g, w.heap.size = g := ⟨_, rfl⟩
 rw [hg] at HF ⊢
 clear hg
 have c0 := cell_row HF.out 0 _ H0.out
 have c_li := cell_row HF.out 5 _ H_li.out
 go_wp2_with fail
 go_ret
 exact ⟨by first | rfl | (simp; done) | (simp; omega), HB.out⟩
theorem rright4_20 (w : World) (f : Fr) (dv rv : Value) (h : FrAt w f dv rv) (hk : f.kind = 20) :
  Calls Try.prog 18 #[.agg (f.cells dv rv).toArray] w fun e w' => e = .returned (.bool (rightB f)) ∧ Below w.heap.size w w' := by
 have hR : rightB f = (inB f.li) := by unfold rightB; simp [hk]
 rw [hR]
 have hwf := h.wf
 have HRF : Hid ((f.cells dv rv).length = 19) := Qh (Fr.len hwf)
 have H0 : Hid ((f.cells dv rv)[0]? = some (.int .i64 20)) := Qh (by rw [← hk]; rfl)
 have H_li : Hid ((f.cells dv rv)[5]? = some (.int .u64 f.li)) := Qh rfl
 have u_li := hwf.li
 simp only [U64] at u_li
 obtain ⟨RF, hRF⟩ : ∃ R, f.cells dv rv = R := ⟨_, rfl⟩
 simp only [hRF] at HRF H0 H_li
 rw [hRF]
 obtain ⟨li, h_li⟩ : ∃ y, f.li = y := ⟨_, rfl⟩
 rw [h_li] at H_li u_li
 try rw [h_li]
 obtain ⟨u1_li, u2_li⟩ := u_li
 clear h_li
 obtain ⟨b1, hb1⟩ : ∃ b, (inB li) = b := ⟨_, rfl⟩
 rw [hb1]
 have Hb1 := Qh hb1
 clear hb1
 clear hwf h hR hRF
 go_enter Try.func18, Try.ntmps18
 go_upto_region 1 with fail
 change Code.wp _ _ _ _ (w.alloc (.cells RF.toArray 39))
 have HB := Qh (Below.refl w.heap.size w)
 have hb := (Below.refl w.heap.size w).alloc (Nat.le_refl _) (.cells RF.toArray 39)
 replace HB := Qh (bl_next HB.out HB.out.size hb)
 have HF := Qh (heap_alloc_new w (.cells RF.toArray 39))
 clear hb
 generalize w.alloc (.cells RF.toArray 39) = w1 at HB HF ⊢
 obtain ⟨gf, hg⟩ : ∃ g, w.heap.size = g := ⟨_, rfl⟩
 rw [hg] at HF ⊢
 clear hg
 have c0 := cell_row HF.out 0 _ H0.out
 have c_li := cell_row HF.out 5 _ H_li.out
 have hin := rsmall_any (w1.alloc (.cells ([.int .u64 li] : List Value).toArray 34)) (some ⟨w1.heap.size, 0, none⟩) 1 1 [li] (IntsK.of_row (zs := [li]) (heap_alloc_new _ _) (fun x hx => by simp only [List.mem_cons, List.not_mem_nil, or_false] at hx; subst hx; exact wf_u64r (by omega) (by omega))) (by omega)
 rw [show ([li].all inB) = b1 by rw [← Hb1.out]; simp] at hin
 have HIN := Qh hin
 clear hin
 go_wp2_with fail
 refine Calls.mono HIN.out ?_
 rintro e wq ⟨rfl, rfl⟩
 clear HIN
 clear c0 c_li
 have hb := (Below.refl w1.heap.size w1).alloc (Nat.le_refl _) (.cells ([.int .u64 li] : List Value).toArray 34)
 replace HB := Qh (bl_next HB.out HB.out.size hb)
 replace HF := Qh (bl_row hb (lt_of_block HF.out) HF.out)
 have HGb1 := Qh (heap_alloc_new w1 (.cells ([.int .u64 li] : List Value).toArray 34))
 clear hb
 generalize w1.alloc (.cells ([.int .u64 li] : List Value).toArray 34) = w2 at HB HF HGb1 ⊢
 obtain ⟨gb1, hg⟩ : ∃ g, w1.heap.size = g := ⟨_, rfl⟩
 rw [hg] at HGb1 ⊢
 clear hg
 have c0 := cell_row HF.out 0 _ H0.out
 have c_li := cell_row HF.out 5 _ H_li.out
 cases b1
 ·
  go_wp2_with fail
  go_ret
  exact ⟨by first | rfl | (simp; done) | (simp; omega), HB.out⟩
 ·
  go_wp2_with fail
  go_ret
  exact ⟨by first | rfl | (simp; done) | (simp; omega), HB.out⟩
theorem rright4_25 (w : World) (f : Fr) (dv rv : Value) (h : FrAt w f dv rv) (hk : f.kind = 25) :
  Calls Try.prog 18 #[.agg (f.cells dv rv).toArray] w fun e w' => e = .returned (.bool (rightB f)) ∧ Below w.heap.size w w' := by
 have hR : rightB f = (inB f.se) := by unfold rightB; simp [hk]
 rw [hR]
 have hwf := h.wf
 have HRF : Hid ((f.cells dv rv).length = 19) := Qh (Fr.len hwf)
 have H0 : Hid ((f.cells dv rv)[0]? = some (.int .i64 25)) := Qh (by rw [← hk]; rfl)
 have H_se : Hid ((f.cells dv rv)[8]? = some (.int .u64 f.se)) := Qh rfl
 have u_se := hwf.se
 simp only [U64] at u_se
 obtain ⟨RF, hRF⟩ : ∃ R, f.cells dv rv = R := ⟨_, rfl⟩
 simp only [hRF] at HRF H0 H_se
 rw [hRF]
 obtain ⟨se, h_se⟩ : ∃ y, f.se = y := ⟨_, rfl⟩
 rw [h_se] at H_se u_se
 try rw [h_se]
 obtain ⟨u1_se, u2_se⟩ := u_se
 clear h_se
 obtain ⟨b1, hb1⟩ : ∃ b, (inB se) = b := ⟨_, rfl⟩
 rw [hb1]
 have Hb1 := Qh hb1
 clear hb1
 clear hwf h hR hRF
 go_enter Try.func18, Try.ntmps18
 go_upto_region 1 with fail
 change Code.wp _ _ _ _ (w.alloc (.cells RF.toArray 39))
 have HB := Qh (Below.refl w.heap.size w)
 have hb := (Below.refl w.heap.size w).alloc (Nat.le_refl _) (.cells RF.toArray 39)
 replace HB := Qh (bl_next HB.out HB.out.size hb)
 have HF := Qh (heap_alloc_new w (.cells RF.toArray 39))
 clear hb
 generalize w.alloc (.cells RF.toArray 39) = w1 at HB HF ⊢
 obtain ⟨gf, hg⟩ : ∃ g, w.heap.size = g := ⟨_, rfl⟩
 rw [hg] at HF ⊢
 clear hg
 have c0 := cell_row HF.out 0 _ H0.out
 have c_se := cell_row HF.out 8 _ H_se.out
 have hin := rsmall_any (w1.alloc (.cells ([.int .u64 se] : List Value).toArray 34)) (some ⟨w1.heap.size, 0, none⟩) 1 1 [se] (IntsK.of_row (zs := [se]) (heap_alloc_new _ _) (fun x hx => by simp only [List.mem_cons, List.not_mem_nil, or_false] at hx; subst hx; exact wf_u64r (by omega) (by omega))) (by omega)
 rw [show ([se].all inB) = b1 by rw [← Hb1.out]; simp] at hin
 have HIN := Qh hin
 clear hin
 go_wp2_with fail
 refine Calls.mono HIN.out ?_
 rintro e wq ⟨rfl, rfl⟩
 clear HIN
 clear c0 c_se
 have hb := (Below.refl w1.heap.size w1).alloc (Nat.le_refl _) (.cells ([.int .u64 se] : List Value).toArray 34)
 replace HB := Qh (bl_next HB.out HB.out.size hb)
 replace HF := Qh (bl_row hb (lt_of_block HF.out) HF.out)
 have HGb1 := Qh (heap_alloc_new w1 (.cells ([.int .u64 se] : List Value).toArray 34))
 clear hb
 generalize w1.alloc (.cells ([.int .u64 se] : List Value).toArray 34) = w2 at HB HF HGb1 ⊢
 obtain ⟨gb1, hg⟩ : ∃ g, w1.heap.size = g := ⟨_, rfl⟩
 rw [hg] at HGb1 ⊢
 clear hg
 have c0 := cell_row HF.out 0 _ H0.out
 have c_se := cell_row HF.out 8 _ H_se.out
 cases b1
 ·
  go_wp2_with fail
  go_ret
  exact ⟨by first | rfl | (simp; done) | (simp; omega), HB.out⟩
 ·
  go_wp2_with fail
  go_ret
  exact ⟨by first | rfl | (simp; done) | (simp; omega), HB.out⟩
theorem rright4_28 (w : World) (f : Fr) (dv rv : Value) (h : FrAt w f dv rv) (hk : f.kind = 28) :
  Calls Try.prog 18 #[.agg (f.cells dv rv).toArray] w fun e w' => e = .returned (.bool (rightB f)) ∧ Below w.heap.size w w' := by
 have hR : rightB f = (inB f.co && decide (f.data.length ≤ 32)) := by unfold rightB; simp [hk]
 rw [hR]
 have hwf := h.wf
 obtain ⟨da, dn, dc, rfl, hd1, hd2, hd⟩ := h.d
 have hdn : f.data.length = dn := hd.1
 rw [hdn]
 have hd0 : dn ≤ 9223372036854775807 := by omega
 have HRF : Hid ((f.cells (.slice da dn dc) rv).length = 19) := Qh (Fr.len hwf)
 have H0 : Hid ((f.cells (.slice da dn dc) rv)[0]? = some (.int .i64 28)) := Qh (by rw [← hk]; rfl)
 have H_co : Hid ((f.cells (.slice da dn dc) rv)[6]? = some (.int .u64 f.co)) := Qh rfl
 have u_co := hwf.co
 simp only [U64] at u_co
 have H_d : Hid ((f.cells (.slice da dn dc) rv)[3]? = some (.slice da dn dc)) := Qh rfl
 obtain ⟨RF, hRF⟩ : ∃ R, f.cells (.slice da dn dc) rv = R := ⟨_, rfl⟩
 simp only [hRF] at HRF H0 H_co H_d
 rw [hRF]
 obtain ⟨co, h_co⟩ : ∃ y, f.co = y := ⟨_, rfl⟩
 rw [h_co] at H_co u_co
 try rw [h_co]
 obtain ⟨u1_co, u2_co⟩ := u_co
 clear h_co
 obtain ⟨b1, hb1⟩ : ∃ b, (inB co) = b := ⟨_, rfl⟩
 rw [hb1]
 have Hb1 := Qh hb1
 clear hb1
 clear hwf h hR hRF hdn hd
 go_enter Try.func18, Try.ntmps18
 go_upto_region 1 with fail
 change Code.wp _ _ _ _ (w.alloc (.cells RF.toArray 39))
 have HB := Qh (Below.refl w.heap.size w)
 have hb := (Below.refl w.heap.size w).alloc (Nat.le_refl _) (.cells RF.toArray 39)
 replace HB := Qh (bl_next HB.out HB.out.size hb)
 have HF := Qh (heap_alloc_new w (.cells RF.toArray 39))
 clear hb
 generalize w.alloc (.cells RF.toArray 39) = w1 at HB HF ⊢
 obtain ⟨gf, hg⟩ : ∃ g, w.heap.size = g := ⟨_, rfl⟩
 rw [hg] at HF ⊢
 clear hg
 have c0 := cell_row HF.out 0 _ H0.out
 have c_co := cell_row HF.out 6 _ H_co.out
 have c_d := cell_row HF.out 3 _ H_d.out
 have hin := rsmall_any (w1.alloc (.cells ([.int .u64 co] : List Value).toArray 34)) (some ⟨w1.heap.size, 0, none⟩) 1 1 [co] (IntsK.of_row (zs := [co]) (heap_alloc_new _ _) (fun x hx => by simp only [List.mem_cons, List.not_mem_nil, or_false] at hx; subst hx; exact wf_u64r (by omega) (by omega))) (by omega)
 rw [show ([co].all inB) = b1 by rw [← Hb1.out]; simp] at hin
 have HIN := Qh hin
 clear hin
 go_wp2_with fail
 refine Calls.mono HIN.out ?_
 rintro e wq ⟨rfl, rfl⟩
 clear HIN
 clear c0 c_co c_d
 have hb := (Below.refl w1.heap.size w1).alloc (Nat.le_refl _) (.cells ([.int .u64 co] : List Value).toArray 34)
 replace HB := Qh (bl_next HB.out HB.out.size hb)
 replace HF := Qh (bl_row hb (lt_of_block HF.out) HF.out)
 have HGb1 := Qh (heap_alloc_new w1 (.cells ([.int .u64 co] : List Value).toArray 34))
 clear hb
 generalize w1.alloc (.cells ([.int .u64 co] : List Value).toArray 34) = w2 at HB HF HGb1 ⊢
 obtain ⟨gb1, hg⟩ : ∃ g, w1.heap.size = g := ⟨_, rfl⟩
 rw [hg] at HGb1 ⊢
 clear hg
 have c0 := cell_row HF.out 0 _ H0.out
 have c_co := cell_row HF.out 6 _ H_co.out
 have c_d := cell_row HF.out 3 _ H_d.out
 cases b1
 ·
  go_wp2_with fail
  go_ret
  exact ⟨by first | rfl | (simp; done) | (simp; omega), HB.out⟩
 ·
  go_wp2_with fail
  go_ret
  exact ⟨by first | rfl | (simp; done) | (simp; omega), HB.out⟩
end Go.Proofs.Ytmbjepcbokbemaa
namespace Go.Proofs.Ytmbjepcbokbemaa
open Go.RowKit
theorem rright4_24 (w : World) (f : Fr) (dv rv : Value) (h : FrAt w f dv rv) (hk : f.kind = 24) :
  Calls Try.prog 18 #[.agg (f.cells dv rv).toArray] w fun e w' => e = .returned (.bool (rightB f)) ∧ Below w.heap.size w w' := by
 have hR : rightB f = (inB f.se && inB f.li && decide (f.li ≤ f.se)) := by
  have h9 : rightB f = (inB f.se && decide (f.li ≤ f.se)) := by unfold rightB; simp [hk]
  rw [h9]
  by_cases h1 : inB f.se = true
  ·
   by_cases h2 : f.li ≤ f.se
   ·
    have h3 : inB f.li = true := inB_iff.2 (by have := inB_iff.1 h1; omega)
    simp [h1, h2, h3]
   ·
    simp [h2]
  ·
   simp [h1]
 rw [hR]
 have hwf := h.wf
 have HRF : Hid ((f.cells dv rv).length = 19) := Qh (Fr.len hwf)
 have H0 : Hid ((f.cells dv rv)[0]? = some (.int .i64 24)) := Qh (by rw [← hk]; rfl)
 have H_se : Hid ((f.cells dv rv)[8]? = some (.int .u64 f.se)) := Qh rfl
 have u_se := hwf.se
 simp only [U64] at u_se
 have H_li : Hid ((f.cells dv rv)[5]? = some (.int .u64 f.li)) := Qh rfl
 have u_li := hwf.li
 simp only [U64] at u_li
 obtain ⟨RF, hRF⟩ : ∃ R, f.cells dv rv = R := ⟨_, rfl⟩
 simp only [hRF] at HRF H0 H_se H_li
 rw [hRF]
 obtain ⟨se, h_se⟩ : ∃ y, f.se = y := ⟨_, rfl⟩
 rw [h_se] at H_se u_se
 try rw [h_se]
 obtain ⟨u1_se, u2_se⟩ := u_se
 clear h_se
 obtain ⟨li, h_li⟩ : ∃ y, f.li = y := ⟨_, rfl⟩
 rw [h_li] at H_li u_li
 try rw [h_li]
 obtain ⟨u1_li, u2_li⟩ := u_li
 clear h_li
 obtain ⟨b1, hb1⟩ : ∃ b, (inB se && inB li) = b := ⟨_, rfl⟩
 rw [hb1]
 have Hb1 := Qh hb1
 clear hb1
 clear hwf h hR hRF
 go_enter Try.func18, Try.ntmps18
 go_upto_region 1 with fail
 change Code.wp _ _ _ _ (w.alloc (.cells RF.toArray 39))
 have HB := Qh (Below.refl w.heap.size w)
 have hb := (Below.refl w.heap.size w).alloc (Nat.le_refl _) (.cells RF.toArray 39)
 replace HB := Qh (bl_next HB.out HB.out.size hb)
 have HF := Qh (heap_alloc_new w (.cells RF.toArray 39))
 clear hb
 generalize w.alloc (.cells RF.toArray 39) = w1 at HB HF ⊢
 obtain ⟨gf, hg⟩ : ∃ g, w.heap.size = g := ⟨_, rfl⟩
 rw [hg] at HF ⊢
 clear hg
 have c0 := cell_row HF.out 0 _ H0.out
 have c_se := cell_row HF.out 8 _ H_se.out
 have c_li := cell_row HF.out 5 _ H_li.out
 have hin := rsmall_any (w1.alloc (.cells ([.int .u64 se, .int .u64 li] : List Value).toArray 34)) (some ⟨w1.heap.size, 0, none⟩) 2 2 [se, li] (IntsK.of_row (zs := [se, li]) (heap_alloc_new _ _) (fun x hx => by simp only [List.mem_cons, List.not_mem_nil, or_false] at hx; rcases hx with rfl | rfl <;> exact wf_u64r (by omega) (by omega))) (by omega)
 rw [show ([se, li].all inB) = b1 by rw [← Hb1.out]; simp] at hin
 have HIN := Qh hin
 clear hin
 go_wp2_with fail
 refine Calls.mono HIN.out ?_
 rintro e wq ⟨rfl, rfl⟩
 clear HIN
 clear c0 c_se c_li
 have hb := (Below.refl w1.heap.size w1).alloc (Nat.le_refl _) (.cells ([.int .u64 se, .int .u64 li] : List Value).toArray 34)
 replace HB := Qh (bl_next HB.out HB.out.size hb)
 replace HF := Qh (bl_row hb (lt_of_block HF.out) HF.out)
 have HGb1 := Qh (heap_alloc_new w1 (.cells ([.int .u64 se, .int .u64 li] : List Value).toArray 34))
 clear hb
 generalize w1.alloc (.cells ([.int .u64 se, .int .u64 li] : List Value).toArray 34) = w2 at HB HF HGb1 ⊢
 obtain ⟨gb1, hg⟩ : ∃ g, w1.heap.size = g := ⟨_, rfl⟩
 rw [hg] at HGb1 ⊢
 clear hg
 have c0 := cell_row HF.out 0 _ H0.out
 have c_se := cell_row HF.out 8 _ H_se.out
 have c_li := cell_row HF.out 5 _ H_li.out
 cases b1
 ·
  go_wp2_with fail
  go_ret
  exact ⟨by first | rfl | (simp; done) | (simp; omega), HB.out⟩
 ·
  go_wp2_with fail
  go_ret
  exact ⟨by first | rfl | (simp; done) | (simp; omega), HB.out⟩
end Go.Proofs.Ytmbjepcbokbemaa
namespace Go.Proofs.Ytmbjepcbokbemaa
open Go.RowKit
theorem rright4_6 (w : World) (f : Fr) (dv rv : Value) (h : FrAt w f dv rv) (hk : f.kind = 6) :
  Calls Try.prog 18 #[.agg (f.cells dv rv).toArray] w fun e w' => e = .returned (.bool (rightB f)) ∧ Below w.heap.size w w' := by
 have hR : rightB f = (atB f.of_ f.data.length) := by unfold rightB; simp [hk]
 rw [hR]
 have hwf := h.wf
 obtain ⟨da, dn, dc, rfl, hd1, hd2, hd⟩ := h.d
 have hdn : f.data.length = dn := hd.1
 rw [hdn]
 have hd0 : dn ≤ 9223372036854775807 := by omega
 have HRF : Hid ((f.cells (.slice da dn dc) rv).length = 19) := Qh (Fr.len hwf)
 have H0 : Hid ((f.cells (.slice da dn dc) rv)[0]? = some (.int .i64 6)) := Qh (by rw [← hk]; rfl)
 have H_of_ : Hid ((f.cells (.slice da dn dc) rv)[2]? = some (.int .u64 f.of_)) := Qh rfl
 have u_of_ := hwf.of_
 simp only [U64] at u_of_
 have H_d : Hid ((f.cells (.slice da dn dc) rv)[3]? = some (.slice da dn dc)) := Qh rfl
 obtain ⟨RF, hRF⟩ : ∃ R, f.cells (.slice da dn dc) rv = R := ⟨_, rfl⟩
 simp only [hRF] at HRF H0 H_of_ H_d
 rw [hRF]
 obtain ⟨of_, h_of_⟩ : ∃ y, f.of_ = y := ⟨_, rfl⟩
 rw [h_of_] at H_of_ u_of_
 try rw [h_of_]
 obtain ⟨u1_of_, u2_of_⟩ := u_of_
 clear h_of_
 obtain ⟨b1, hb1⟩ : ∃ b, (atB of_ dn) = b := ⟨_, rfl⟩
 rw [hb1]
 have Hb1 := Qh hb1
 clear hb1
 clear hwf h hR hRF hdn hd
 go_enter Try.func18, Try.ntmps18
 go_upto_region 1 with fail
 change Code.wp _ _ _ _ (w.alloc (.cells RF.toArray 39))
 have HB := Qh (Below.refl w.heap.size w)
 have hb := (Below.refl w.heap.size w).alloc (Nat.le_refl _) (.cells RF.toArray 39)
 replace HB := Qh (bl_next HB.out HB.out.size hb)
 have HF := Qh (heap_alloc_new w (.cells RF.toArray 39))
 clear hb
 generalize w.alloc (.cells RF.toArray 39) = w1 at HB HF ⊢
 obtain ⟨gf, hg⟩ : ∃ g, w.heap.size = g := ⟨_, rfl⟩
 rw [hg] at HF ⊢
 clear hg
 have c0 := cell_row HF.out 0 _ H0.out
 have c_of_ := cell_row HF.out 2 _ H_of_.out
 have c_d := cell_row HF.out 3 _ H_d.out
 by_cases hc1 : dn ≤ 512
 ·
  by_cases hc2 : of_ ≤ 1099511627776
  ·
   by_cases hc3 : of_ + dn ≤ 1099511627776
   ·
    obtain rfl : b1 = true := by rw [← Hb1.out]; exact atB_iff.2 ⟨hc1, hc2, hc3⟩
    go_wp2_with fail
    go_ret
    exact ⟨by first | rfl | (simp; done), HB.out⟩
   ·
    obtain rfl : b1 = false := by rw [← Hb1.out]; cases h : atB of_ dn with | false => rfl | true => exact absurd (atB_iff.1 h).2.2 hc3
    go_wp2_with fail
    go_ret
    exact ⟨by first | rfl | (simp; done), HB.out⟩
  ·
   obtain rfl : b1 = false := by rw [← Hb1.out]; cases h : atB of_ dn with | false => rfl | true => exact absurd (atB_iff.1 h).2.1 hc2
   go_wp2_with fail
   go_ret
   exact ⟨by first | rfl | (simp; done), HB.out⟩
 ·
  obtain rfl : b1 = false := by rw [← Hb1.out]; cases h : atB of_ dn with | false => rfl | true => exact absurd (atB_iff.1 h).1 hc1
  go_wp2_with fail
  go_ret
  exact ⟨by first | rfl | (simp; done), HB.out⟩
end Go.Proofs.Ytmbjepcbokbemaa
namespace Go.Proofs.Ytmbjepcbokbemaa
open Go.RowKit
theorem rright4_8 (w : World) (f : Fr) (dv rv : Value) (h : FrAt w f dv rv) (hk : f.kind = 8) :
  Calls Try.prog 18 #[.agg (f.cells dv rv).toArray] w fun e w' => e = .returned (.bool (rightB f)) ∧ Below w.heap.size w w' := by
 have hR : rightB f = (inB f.st && atB f.of_ f.data.length) := by unfold rightB; simp [hk]
 rw [hR]
 have hwf := h.wf
 obtain ⟨da, dn, dc, rfl, hd1, hd2, hd⟩ := h.d
 have hdn : f.data.length = dn := hd.1
 rw [hdn]
 have hd0 : dn ≤ 9223372036854775807 := by omega
 have HRF : Hid ((f.cells (.slice da dn dc) rv).length = 19) := Qh (Fr.len hwf)
 have H0 : Hid ((f.cells (.slice da dn dc) rv)[0]? = some (.int .i64 8)) := Qh (by rw [← hk]; rfl)
 have H_st : Hid ((f.cells (.slice da dn dc) rv)[1]? = some (.int .u64 f.st)) := Qh rfl
 have u_st := hwf.st
 simp only [U64] at u_st
 have H_of_ : Hid ((f.cells (.slice da dn dc) rv)[2]? = some (.int .u64 f.of_)) := Qh rfl
 have u_of_ := hwf.of_
 simp only [U64] at u_of_
 have H_d : Hid ((f.cells (.slice da dn dc) rv)[3]? = some (.slice da dn dc)) := Qh rfl
 obtain ⟨RF, hRF⟩ : ∃ R, f.cells (.slice da dn dc) rv = R := ⟨_, rfl⟩
 simp only [hRF] at HRF H0 H_st H_of_ H_d
 rw [hRF]
 obtain ⟨st, h_st⟩ : ∃ y, f.st = y := ⟨_, rfl⟩
 rw [h_st] at H_st u_st
 try rw [h_st]
 obtain ⟨u1_st, u2_st⟩ := u_st
 clear h_st
 obtain ⟨of_, h_of_⟩ : ∃ y, f.of_ = y := ⟨_, rfl⟩
 rw [h_of_] at H_of_ u_of_
 try rw [h_of_]
 obtain ⟨u1_of_, u2_of_⟩ := u_of_
 clear h_of_
 obtain ⟨b1, hb1⟩ : ∃ b, (inB st) = b := ⟨_, rfl⟩
 rw [hb1]
 have Hb1 := Qh hb1
 clear hb1
 obtain ⟨b2, hb2⟩ : ∃ b, (atB of_ dn) = b := ⟨_, rfl⟩
 rw [hb2]
 have Hb2 := Qh hb2
 clear hb2
 clear hwf h hR hRF hdn hd
 go_enter Try.func18, Try.ntmps18
 go_upto_region 1 with fail
 change Code.wp _ _ _ _ (w.alloc (.cells RF.toArray 39))
 have HB := Qh (Below.refl w.heap.size w)
 have hb := (Below.refl w.heap.size w).alloc (Nat.le_refl _) (.cells RF.toArray 39)
 replace HB := Qh (bl_next HB.out HB.out.size hb)
 have HF := Qh (heap_alloc_new w (.cells RF.toArray 39))
 clear hb
 generalize w.alloc (.cells RF.toArray 39) = w1 at HB HF ⊢
 obtain ⟨gf, hg⟩ : ∃ g, w.heap.size = g := ⟨_, rfl⟩
 rw [hg] at HF ⊢
 clear hg
 have c0 := cell_row HF.out 0 _ H0.out
 have c_st := cell_row HF.out 1 _ H_st.out
 have c_of_ := cell_row HF.out 2 _ H_of_.out
 have c_d := cell_row HF.out 3 _ H_d.out
 have hin := rsmall_any (w1.alloc (.cells ([.int .u64 st] : List Value).toArray 34)) (some ⟨w1.heap.size, 0, none⟩) 1 1 [st] (IntsK.of_row (zs := [st]) (heap_alloc_new _ _) (fun x hx => by simp only [List.mem_cons, List.not_mem_nil, or_false] at hx; subst hx; exact wf_u64r (by omega) (by omega))) (by omega)
 rw [show ([st].all inB) = b1 by rw [← Hb1.out]; simp] at hin
 have HIN := Qh hin
 clear hin
 go_wp2_with fail
 refine Calls.mono HIN.out ?_
 rintro e wq ⟨rfl, rfl⟩
 clear HIN
 clear c0 c_st c_of_ c_d
 have hb := (Below.refl w1.heap.size w1).alloc (Nat.le_refl _) (.cells ([.int .u64 st] : List Value).toArray 34)
 replace HB := Qh (bl_next HB.out HB.out.size hb)
 replace HF := Qh (bl_row hb (lt_of_block HF.out) HF.out)
 have HGb1 := Qh (heap_alloc_new w1 (.cells ([.int .u64 st] : List Value).toArray 34))
 clear hb
 generalize w1.alloc (.cells ([.int .u64 st] : List Value).toArray 34) = w2 at HB HF HGb1 ⊢
 obtain ⟨gb1, hg⟩ : ∃ g, w1.heap.size = g := ⟨_, rfl⟩
 rw [hg] at HGb1 ⊢
 clear hg
 have c0 := cell_row HF.out 0 _ H0.out
 have c_st := cell_row HF.out 1 _ H_st.out
 have c_of_ := cell_row HF.out 2 _ H_of_.out
 have c_d := cell_row HF.out 3 _ H_d.out
 cases b1
 ·
  go_wp2_with fail
  go_ret
  exact ⟨by first | rfl | (simp; done) | (simp; omega), HB.out⟩
 ·
  by_cases hc1 : dn ≤ 512
  ·
   by_cases hc2 : of_ ≤ 1099511627776
   ·
    by_cases hc3 : of_ + dn ≤ 1099511627776
    ·
     obtain rfl : b2 = true := by rw [← Hb2.out]; exact atB_iff.2 ⟨hc1, hc2, hc3⟩
     go_wp2_with fail
     go_ret
     exact ⟨by first | rfl | (simp; done) | (simp; omega), HB.out⟩
    ·
     obtain rfl : b2 = false := by rw [← Hb2.out]; cases h : atB of_ dn with | false => rfl | true => exact absurd (atB_iff.1 h).2.2 hc3
     go_wp2_with fail
     go_ret
     exact ⟨by first | rfl | (simp; done) | (simp; omega), HB.out⟩
   ·
    obtain rfl : b2 = false := by rw [← Hb2.out]; cases h : atB of_ dn with | false => rfl | true => exact absurd (atB_iff.1 h).2.1 hc2
    go_wp2_with fail
    go_ret
    exact ⟨by first | rfl | (simp; done) | (simp; omega), HB.out⟩
  ·
   obtain rfl : b2 = false := by rw [← Hb2.out]; cases h : atB of_ dn with | false => rfl | true => exact absurd (atB_iff.1 h).1 hc1
   go_wp2_with fail
   go_ret
   exact ⟨by first | rfl | (simp; done) | (simp; omega), HB.out⟩
end Go.Proofs.Ytmbjepcbokbemaa
namespace Go.Proofs.Ytmbjepcbokbemaa
open Go.RowKit
theorem rright4_no (w : World) (f : Fr) (dv rv : Value) (h : FrAt w f dv rv) (hk : ¬ (f.kind = 0 ∨ f.kind = 1 ∨ f.kind = 30 ∨ f.kind = 26 ∨ f.kind = 27 ∨ f.kind = 2 ∨ f.kind = 4 ∨ f.kind = 5 ∨ f.kind = 6 ∨ f.kind = 8 ∨ f.kind = 16 ∨ f.kind = 17 ∨ f.kind = 18 ∨ f.kind = 20 ∨ f.kind = 24 ∨ f.kind = 25 ∨ f.kind = 28)) :
  Calls Try.prog 18 #[.agg (f.cells dv rv).toArray] w fun e w' => e = .returned (.bool (rightB f)) ∧ Below w.heap.size w w' := by
 simp only [not_or] at hk
 have hR : rightB f = false := by unfold rightB; simp [hk]
 rw [hR]
 have hkd := h.wf.kind
 have H0 : Hid ((f.cells dv rv)[0]? = some (.int .i64 f.kind)) := Qh rfl
 obtain ⟨RF, hRF⟩ : ∃ R, f.cells dv rv = R := ⟨_, rfl⟩
 rw [hRF] at H0 ⊢
 obtain ⟨k, hkk⟩ : ∃ k, f.kind = k := ⟨_, rfl⟩
 rw [hkk] at H0 hk hkd
 obtain ⟨n0, n1, n30, n26, n27, n2, n4, n5, n6, n8, n16, n17, n18, n20, n24, n25, n28⟩ := hk
 have e0 : (k == 0) = false := by simpa using n0
 have e1 : (k == 1) = false := by simpa using n1
 have e30 : (k == 30) = false := by simpa using n30
 have e26 : (k == 26) = false := by simpa using n26
 have e27 : (k == 27) = false := by simpa using n27
 have e2 : (k == 2) = false := by simpa using n2
 have e4 : (k == 4) = false := by simpa using n4
 have e5 : (k == 5) = false := by simpa using n5
 have e6 : (k == 6) = false := by simpa using n6
 have e8 : (k == 8) = false := by simpa using n8
 have e16 : (k == 16) = false := by simpa using n16
 have e17 : (k == 17) = false := by simpa using n17
 have e18 : (k == 18) = false := by simpa using n18
 have e20 : (k == 20) = false := by simpa using n20
 have e24 : (k == 24) = false := by simpa using n24
 have e25 : (k == 25) = false := by simpa using n25
 have e28 : (k == 28) = false := by simpa using n28
 clear h hR hRF hkk n0 n1 n30 n26 n27 n2 n4 n5 n6 n8 n16 n17 n18 n20 n24 n25 n28
 have HB := Qh (Below.refl w.heap.size w)
 go_enter Try.func18, Try.ntmps18
 go_upto_region 1 with fail
 change Code.wp _ _ _ _ (w.alloc (.cells RF.toArray 39))
 have hb := (Below.refl w.heap.size w).alloc (Nat.le_refl _) (.cells RF.toArray 39)
 replace HB := Qh (bl_next HB.out HB.out.size hb)
 have HF := Qh (heap_alloc_new w (.cells RF.toArray 39))
 clear hb
 generalize w.alloc (.cells RF.toArray 39) = w1 at HB HF ⊢
 obtain ⟨gf, hg⟩ : ∃ g, w.heap.size = g := ⟨_, rfl⟩
 rw [hg] at HF ⊢
 clear hg
 have c0 := cell_row HF.out 0 _ H0.out
 go_wp2_with fail
 go_ret
 exact ⟨rfl, HB.out⟩
end Go.Proofs.Ytmbjepcbokbemaa
namespace Go.Proofs.Ytmbjepcbokbemaa
open Go.RowKit
theorem rises_last : ∀ (l : List (Int × Int)), risesB l = true → ∀ x ∈ l, ∀ y, l.getLast? = some y → x.2 ≤ y.2
 | [], _, x, hx, _, _ => by cases hx
 | [a], _, x, hx, y, hy => by simp at hx hy; subst hx; subst hy; exact Int.le_refl _
 | a :: b :: l, h, x, hx, y, hy => by
  unfold risesB at h
  simp only [Bool.and_eq_true, decide_eq_true_eq] at h
  obtain ⟨⟨h1, h2⟩, h3⟩ := h
  have hb : b.1 < b.2 := by cases l with | nil => simpa [risesB] using h3 | cons c l => unfold risesB at h3; simp only [Bool.and_eq_true, decide_eq_true_eq] at h3; exact h3.1.1
  rw [List.getLast?_cons_cons] at hy
  rcases List.mem_cons.1 hx with rfl | hx
  ·
   have := rises_last (b :: l) h3 b List.mem_cons_self y hy; omega
  ·
   exact rises_last (b :: l) h3 x hx y hy
def rackB (i : Nat) (d e : Int) (p : Option (Int × Int)) : Bool := decide (e ≤ d) || (decide (0 < i) && decide (d ≤ (p.getD (0, 0)).2)) || decide (4611686018427387904 < e)
theorem rack_round {x0 x2 x4 x5 x6 x7 x8 x9 x10 x11 x12 x13 x14 x15 x16 x17 x18 x19 x20 x21 x22 x23 x24 x25 x26 x27 x28 x29 x30 x31 x32 x33 x34 x35 x36 x37 x38 x39 x40 x41 x42 x43 x44 x45 x46 x47 x48 x49 x50 x51 x52 x53 x54 x55 x56 x57 x58 x59 x60 x61 x62 x63 x64 x65 x66 x67 x68 x69 x70 x71 x72 x73 x74 x75 x76 x77 x78 x79 x80 x81 x82 x83 x84 x85 x86 x87 x88 x89 x90 x91 x92 x93 x94 x95 x96 x97 x98 x99 x100 x101 x102 x103 x104 x105 x106 x107 x108 x109 x110 x111 x112 x113 x114 x115 x116 x117 x118 x119 x120 x121 x122 x123 x124 x125 x126 x127 x128 x129 x130 x131 x132 x133 x134 x135 x136 x137 x138 x139 x140 x141 x142 x143 x144 x145 x146 x147 x148 x149 x150 x151 x152 x153 x154 x155 x156 x157 x158 x159 x160 x161 x162 x163 x164 x165 x166 x167 x168 x169 x170 x171 x172 x173 x174 x175 x176 x177 x178 x179 x180 x181 x182 x183 x184 x185 x186 x187 x188 x189 x190 x191 x192 x193 : Value} {a : Option Addr} {n cp gf i : Nat} {RF : List Value} {rs : List (Int × Int)} {d e : Int} (w : World) {Q : Exit → Act → World → Prop}
  (HL : Hid (rgK.At w a n rs)) (HX : Hid (rs[i]? = some (d, e))) (hi : i < n) (hn : n ≤ 16) (HG : Hid (w.heap[gf]? = some (.cells RF.toArray 39 (0, 0)))) (HRF : Hid (RF.length = 19)) (H_r : Hid (RF[10]? = some (.slice a n cp)))
  (hQp : ∀ c a d v w, Q (.panic c) (a.put d v) w → Q (.panic c) a w)
  (hQ : ∀ (y38 y39 y40 y41 y42 y43 y44 y45 y46 y47 y48 y49 y50 y51 y52 y53 y54 y55 y56 y57 y58 y59 y60 y61 y62 y63 y64 y65 y66 y67 y68 y69 y70 y71 y72 y73 y74 y75 y76 y77 y78 : Value) (w' : World), Hid (Below w.heap.size w w') → Q .normal ⟨List.toArray (x0 :: .pointer (some ⟨gf, 0, none⟩) :: x2 :: .int .i64 i :: x4 :: x5 :: x6 :: x7 :: x8 :: x9 :: x10 :: x11 :: x12 :: x13 :: x14 :: x15 :: x16 :: x17 :: x18 :: x19 :: x20 :: x21 :: x22 :: x23 :: x24 :: x25 :: x26 :: x27 :: x28 :: x29 :: x30 :: x31 :: x32 :: x33 :: x34 :: x35 :: x36 :: x37 :: y38 :: y39 :: y40 :: y41 :: y42 :: y43 :: y44 :: y45 :: y46 :: y47 :: y48 :: y49 :: y50 :: y51 :: y52 :: y53 :: y54 :: y55 :: y56 :: y57 :: y58 :: y59 :: y60 :: y61 :: y62 :: y63 :: y64 :: y65 :: y66 :: y67 :: y68 :: y69 :: y70 :: y71 :: y72 :: y73 :: y74 :: y75 :: y76 :: y77 :: y78 :: .bool (rackB i d e rs[i - 1]?) :: x80 :: x81 :: x82 :: x83 :: x84 :: x85 :: x86 :: x87 :: x88 :: x89 :: x90 :: x91 :: x92 :: x93 :: x94 :: x95 :: x96 :: x97 :: x98 :: x99 :: x100 :: x101 :: x102 :: x103 :: x104 :: x105 :: x106 :: x107 :: x108 :: x109 :: x110 :: x111 :: x112 :: x113 :: x114 :: x115 :: x116 :: x117 :: x118 :: x119 :: x120 :: x121 :: x122 :: x123 :: x124 :: x125 :: x126 :: x127 :: x128 :: x129 :: x130 :: x131 :: x132 :: x133 :: x134 :: x135 :: x136 :: x137 :: x138 :: x139 :: x140 :: x141 :: x142 :: x143 :: x144 :: x145 :: x146 :: x147 :: x148 :: x149 :: x150 :: x151 :: x152 :: x153 :: x154 :: x155 :: x156 :: x157 :: x158 :: x159 :: x160 :: x161 :: x162 :: x163 :: x164 :: x165 :: x166 :: x167 :: x168 :: x169 :: x170 :: x171 :: x172 :: x173 :: x174 :: x175 :: x176 :: x177 :: x178 :: x179 :: x180 :: x181 :: x182 :: x183 :: x184 :: x185 :: x186 :: x187 :: x188 :: x189 :: x190 :: x191 :: x192 :: x193 :: []), []⟩ w') :
  Code.wp Try.prog (((Try.f18.body.bind (subRegion 14)).getD .skip)) Q ⟨List.toArray (x0 :: .pointer (some ⟨gf, 0, none⟩) :: x2 :: .int .i64 i :: x4 :: x5 :: x6 :: x7 :: x8 :: x9 :: x10 :: x11 :: x12 :: x13 :: x14 :: x15 :: x16 :: x17 :: x18 :: x19 :: x20 :: x21 :: x22 :: x23 :: x24 :: x25 :: x26 :: x27 :: x28 :: x29 :: x30 :: x31 :: x32 :: x33 :: x34 :: x35 :: x36 :: x37 :: x38 :: x39 :: x40 :: x41 :: x42 :: x43 :: x44 :: x45 :: x46 :: x47 :: x48 :: x49 :: x50 :: x51 :: x52 :: x53 :: x54 :: x55 :: x56 :: x57 :: x58 :: x59 :: x60 :: x61 :: x62 :: x63 :: x64 :: x65 :: x66 :: x67 :: x68 :: x69 :: x70 :: x71 :: x72 :: x73 :: x74 :: x75 :: x76 :: x77 :: x78 :: x79 :: x80 :: x81 :: x82 :: x83 :: x84 :: x85 :: x86 :: x87 :: x88 :: x89 :: x90 :: x91 :: x92 :: x93 :: x94 :: x95 :: x96 :: x97 :: x98 :: x99 :: x100 :: x101 :: x102 :: x103 :: x104 :: x105 :: x106 :: x107 :: x108 :: x109 :: x110 :: x111 :: x112 :: x113 :: x114 :: x115 :: x116 :: x117 :: x118 :: x119 :: x120 :: x121 :: x122 :: x123 :: x124 :: x125 :: x126 :: x127 :: x128 :: x129 :: x130 :: x131 :: x132 :: x133 :: x134 :: x135 :: x136 :: x137 :: x138 :: x139 :: x140 :: x141 :: x142 :: x143 :: x144 :: x145 :: x146 :: x147 :: x148 :: x149 :: x150 :: x151 :: x152 :: x153 :: x154 :: x155 :: x156 :: x157 :: x158 :: x159 :: x160 :: x161 :: x162 :: x163 :: x164 :: x165 :: x166 :: x167 :: x168 :: x169 :: x170 :: x171 :: x172 :: x173 :: x174 :: x175 :: x176 :: x177 :: x178 :: x179 :: x180 :: x181 :: x182 :: x183 :: x184 :: x185 :: x186 :: x187 :: x188 :: x189 :: x190 :: x191 :: x192 :: x193 :: []), []⟩ w := by
 have HK := Qh hQ; have HKP := Qh hQp
 clear hQ hQp
 conv => arg 2; whnf
 obtain ⟨ab, ao, x, rfl, _, hx, hok, hrg⟩ := HL.out.at hi
 rw [HX.out] at hx; injection hx with hx; subst hx
 have hu1 := hok.1; have hu2 := hok.2
 simp only [U64] at hu1 hu2
 have h5 : w.cell? ⟨ab, ao + i * 2, none⟩ = some (.int .u64 d) := hrg 0 _ rfl
 have h6 : w.cell? ⟨ab, ao + i * 2 + 1, none⟩ = some (.int .u64 e) := hrg 1 _ rfl
 have HD9 := Qh h5; have HE9 := Qh h6
 clear hrg hok h5 h6
 obtain ⟨bc, hce⟩ : ∃ b, decide (e ≤ d) = b := ⟨_, rfl⟩
 obtain ⟨bg, hbg⟩ : ∃ b, decide (4611686018427387904 < e) = b := ⟨_, rfl⟩
 simp only [rackB, hce, hbg] at HK
 by_cases h0 : i = 0
 ·
  subst h0
  simp only [Nat.zero_mul, Nat.add_zero] at HD9 HE9
  simp only [show decide (0 < 0) = false from rfl, Bool.false_and] at HK
  have g0 : ∀ z : In (fun y => y.heap[gf]? = some (.cells RF.toArray 39 (0, 0)) ∧ y.cell? ⟨ab, ao, none⟩ = some (.int .u64 d) ∧ y.cell? ⟨ab, ao + 1, none⟩ = some (.int .u64 e)), z.w.cell? ⟨gf, 10, none⟩ = some (.slice (some ⟨ab, ao, none⟩) n cp) := fun z => row_cell z.h.1 10 _ (by rw [List.getElem?_toArray]; exact H_r.out)
  have g1 : ∀ z : In (fun y => y.heap[gf]? = some (.cells RF.toArray 39 (0, 0)) ∧ y.cell? ⟨ab, ao, none⟩ = some (.int .u64 d) ∧ y.cell? ⟨ab, ao + 1, none⟩ = some (.int .u64 e)), z.w.cell? ⟨ab, ao, none⟩ = some (.int .u64 d) := fun z => z.h.2.1
  have g2 : ∀ z : In (fun y => y.heap[gf]? = some (.cells RF.toArray 39 (0, 0)) ∧ y.cell? ⟨ab, ao, none⟩ = some (.int .u64 d) ∧ y.cell? ⟨ab, ao + 1, none⟩ = some (.int .u64 e)), z.w.cell? ⟨ab, ao + 1, none⟩ = some (.int .u64 e) := fun z => z.h.2.2
  cases bc <;> cases bg
  all_goals
   refine wp_plan (.t 0 (.t 1 (.t 2 (.t 3 (.t 4 (.t 5 (.t 6 (.t 7 (.t 8 (.t 9 (.t 10 (.t 11 (.t 12 (.t 13 (.t 14 (.t 15 (.t 16 (.t 17 (.t 18 (.t 19 (.t 20 (.t 21 (.t 22 (.t 23 (.t 24 (.t 25 (.t 26 (.t 27 (.t 28 (.t 29 (.t 30 (.t 31 (.t 32 (.t 33 (.t 34 (.t 35 (.t 36 (.t 37 (.t 38 (.t 39 (.t 40 (.t 41 .done)))))))))))))))))))))))))))))))))))))))))) (fun y => y.heap[gf]? = some (.cells RF.toArray 39 (0, 0)) ∧ y.cell? ⟨ab, ao, none⟩ = some (.int .u64 d) ∧ y.cell? ⟨ab, ao + 1, none⟩ = some (.int .u64 e)) (by kernel_rfl) (by kernel_rfl) (by kernel_rfl) (fun c a d v w h => by first | (cases d <;> exact h) | exact HKP.out c a d v w h) ⟨HG.out, HD9.out, HE9.out⟩ ?_
   haveI hne : Nonempty (In (fun y => y.heap[gf]? = some (.cells RF.toArray 39 (0, 0)) ∧ y.cell? ⟨ab, ao, none⟩ = some (.int .u64 d) ∧ y.cell? ⟨ab, ao + 1, none⟩ = some (.int .u64 e))) := ⟨⟨w, ⟨HG.out, HD9.out, HE9.out⟩⟩⟩
   repeat (first | rw [hce] | rw [hbg] | (refine plan_t (by rfl) ?_; (first | go_big_quiet_skip | (go_big_quiet_want; go_big_quiet_op; go_big_quiet_on)); refine wpQuiet_nil ?_))
   clear hne
   show Q _ _ _
   exact HK.out _ _ _ _ _ _ _ _ _ _ _ _ _ _ _ _ _ _ _ _ _ _ _ _ _ _ _ _ _ _ _ _ _ _ _ _ _ _ _ _ _ w.drew (Qh (Below.refl w.heap.size w).drew)
 ·
  obtain ⟨j, rfl⟩ : ∃ j, i = j + 1 := ⟨i - 1, by omega⟩
  obtain ⟨ab2, ao2, y, e9, _, hy, hok2, hrg2⟩ := HL.out.at (j := j) (by omega)
  injection e9 with e9; injection e9 with e9 e10; subst e9; subst e10
  obtain ⟨p0, q0⟩ := y
  have hv2 := hok2.2
  simp only [U64] at hv2
  have hq : w.cell? ⟨ab, ao + j * 2 + 1, none⟩ = some (.int .u64 q0) := hrg2 1 _ rfl
  have HQ9 := Qh hq
  obtain ⟨bp, hpq⟩ : ∃ b, decide (d ≤ q0) = b := ⟨_, rfl⟩
  have hj0 : decide (0 < ((j + 1 : Nat) : Int)) = true := by simp
  have hj1 : decide (0 < j + 1) = true := by simp
  simp only [Nat.add_sub_cancel, hy, Option.getD_some, hpq, hj1, Bool.true_and] at HK
  clear hrg2 hok2 hq hy hj1
  have g0 : ∀ z : In (fun y => y.heap[gf]? = some (.cells RF.toArray 39 (0, 0)) ∧ y.cell? ⟨ab, ao + (j + 1) * 2, none⟩ = some (.int .u64 d) ∧ y.cell? ⟨ab, ao + (j + 1) * 2 + 1, none⟩ = some (.int .u64 e) ∧ y.cell? ⟨ab, ao + j * 2 + 1, none⟩ = some (.int .u64 q0)), z.w.cell? ⟨gf, 10, none⟩ = some (.slice (some ⟨ab, ao, none⟩) n cp) := fun z => row_cell z.h.1 10 _ (by rw [List.getElem?_toArray]; exact H_r.out)
  have g1 : ∀ z : In (fun y => y.heap[gf]? = some (.cells RF.toArray 39 (0, 0)) ∧ y.cell? ⟨ab, ao + (j + 1) * 2, none⟩ = some (.int .u64 d) ∧ y.cell? ⟨ab, ao + (j + 1) * 2 + 1, none⟩ = some (.int .u64 e) ∧ y.cell? ⟨ab, ao + j * 2 + 1, none⟩ = some (.int .u64 q0)), z.w.cell? ⟨ab, ao + (j + 1) * 2, none⟩ = some (.int .u64 d) := fun z => z.h.2.1
  have g2 : ∀ z : In (fun y => y.heap[gf]? = some (.cells RF.toArray 39 (0, 0)) ∧ y.cell? ⟨ab, ao + (j + 1) * 2, none⟩ = some (.int .u64 d) ∧ y.cell? ⟨ab, ao + (j + 1) * 2 + 1, none⟩ = some (.int .u64 e) ∧ y.cell? ⟨ab, ao + j * 2 + 1, none⟩ = some (.int .u64 q0)), z.w.cell? ⟨ab, ao + (j + 1) * 2 + 1, none⟩ = some (.int .u64 e) := fun z => z.h.2.2.1
  have g3 : ∀ z : In (fun y => y.heap[gf]? = some (.cells RF.toArray 39 (0, 0)) ∧ y.cell? ⟨ab, ao + (j + 1) * 2, none⟩ = some (.int .u64 d) ∧ y.cell? ⟨ab, ao + (j + 1) * 2 + 1, none⟩ = some (.int .u64 e) ∧ y.cell? ⟨ab, ao + j * 2 + 1, none⟩ = some (.int .u64 q0)), z.w.cell? ⟨ab, ao + j * 2 + 1, none⟩ = some (.int .u64 q0) := fun z => z.h.2.2.2
  cases bc <;> cases bp <;> cases bg
  all_goals
   refine wp_plan (.t 0 (.t 1 (.t 2 (.t 3 (.t 4 (.t 5 (.t 6 (.t 7 (.t 8 (.t 9 (.t 10 (.t 11 (.t 12 (.t 13 (.t 14 (.t 15 (.t 16 (.t 17 (.t 18 (.t 19 (.t 20 (.t 21 (.t 22 (.t 23 (.t 24 (.t 25 (.t 26 (.t 27 (.t 28 (.t 29 (.t 30 (.t 31 (.t 32 (.t 33 (.t 34 (.t 35 (.t 36 (.t 37 (.t 38 (.t 39 (.t 40 (.t 41 .done)))))))))))))))))))))))))))))))))))))))))) (fun y => y.heap[gf]? = some (.cells RF.toArray 39 (0, 0)) ∧ y.cell? ⟨ab, ao + (j + 1) * 2, none⟩ = some (.int .u64 d) ∧ y.cell? ⟨ab, ao + (j + 1) * 2 + 1, none⟩ = some (.int .u64 e) ∧ y.cell? ⟨ab, ao + j * 2 + 1, none⟩ = some (.int .u64 q0)) (by kernel_rfl) (by kernel_rfl) (by kernel_rfl) (fun c a d v w h => by first | (cases d <;> exact h) | exact HKP.out c a d v w h) ⟨HG.out, HD9.out, HE9.out, HQ9.out⟩ ?_
   haveI hne : Nonempty (In (fun y => y.heap[gf]? = some (.cells RF.toArray 39 (0, 0)) ∧ y.cell? ⟨ab, ao + (j + 1) * 2, none⟩ = some (.int .u64 d) ∧ y.cell? ⟨ab, ao + (j + 1) * 2 + 1, none⟩ = some (.int .u64 e) ∧ y.cell? ⟨ab, ao + j * 2 + 1, none⟩ = some (.int .u64 q0))) := ⟨⟨w, ⟨HG.out, HD9.out, HE9.out, HQ9.out⟩⟩⟩
   repeat (first | rw [hce] | rw [hbg] | rw [hpq] | rw [hj0] | (refine plan_t (by rfl) ?_; (first | go_big_quiet_skip | (go_big_quiet_want; go_big_quiet_op; go_big_quiet_on)); refine wpQuiet_nil ?_))
   clear hne
   show Q _ _ _
   exact HK.out _ _ _ _ _ _ _ _ _ _ _ _ _ _ _ _ _ _ _ _ _ _ _ _ _ _ _ _ _ _ _ _ _ _ _ _ _ _ _ _ _ w.drew (Qh (Below.refl w.heap.size w).drew)
theorem rright4_2 (w : World) (f : Fr) (dv rv : Value) (h : FrAt w f dv rv) (hk : f.kind = 2) :
  Calls Try.prog 18 #[.agg (f.cells dv rv).toArray] w fun e w' => e = .returned (.bool (rightB f)) ∧ Below w.heap.size w w' := by
 have hR : rightB f = (ackB f.rg && inB f.de) := by unfold rightB; simp [hk]
 rw [hR]
 have hwf := h.wf
 obtain ⟨ra, rn, rc, rfl, hr1, hr2, hr⟩ := h.r
 have HRK := Qh hr
 have hln : f.rg.length = rn := hr.1.symm
 obtain ⟨rs, hrg⟩ : ∃ r, f.rg = r := ⟨_, rfl⟩
 rw [hrg] at HRK hln ⊢
 have HLN := Qh hln
 have hrn0 : rn ≤ 9223372036854775807 := by omega
 clear hrg hr hln
 have HRF : Hid ((f.cells dv (.slice ra rn rc)).length = 19) := Qh (Fr.len hwf)
 have H0 : Hid ((f.cells dv (.slice ra rn rc))[0]? = some (.int .i64 2)) := Qh (by rw [← hk]; rfl)
 have H_de : Hid ((f.cells dv (.slice ra rn rc))[9]? = some (.int .u64 f.de)) := Qh rfl
 have u_de := hwf.de
 simp only [U64] at u_de
 have H_r : Hid ((f.cells dv (.slice ra rn rc))[10]? = some (.slice ra rn rc)) := Qh rfl
 obtain ⟨RF, hRF⟩ : ∃ R, f.cells dv (.slice ra rn rc) = R := ⟨_, rfl⟩
 simp only [hRF] at HRF H0 H_de H_r
 rw [hRF]
 obtain ⟨de, h_de⟩ : ∃ y, f.de = y := ⟨_, rfl⟩
 rw [h_de] at H_de u_de ⊢
 obtain ⟨u1_de, u2_de⟩ := u_de
 clear h_de
 obtain ⟨b1, hb1⟩ : ∃ b, inB de = b := ⟨_, rfl⟩
 rw [hb1]
 have Hb1 := Qh hb1
 clear hb1 hwf h hR hRF
 go_enter Try.func18, Try.ntmps18
 go_upto_region 1 with fail
 change Code.wp _ _ _ _ (w.alloc (.cells RF.toArray 39))
 have HB := Qh (Below.refl w.heap.size w)
 have hb := (Below.refl w.heap.size w).alloc (Nat.le_refl _) (.cells RF.toArray 39)
 replace HB := Qh (bl_next HB.out HB.out.size hb)
 replace HRK := Qh (HRK.out.below hb)
 have HF := Qh (heap_alloc_new w (.cells RF.toArray 39))
 clear hb
 generalize w.alloc (.cells RF.toArray 39) = w1 at HB HRK HF ⊢
 obtain ⟨gf, hg⟩ : ∃ g, w.heap.size = g := ⟨_, rfl⟩
 rw [hg] at HF ⊢
 clear hg
 have c0 := cell_row HF.out 0 _ H0.out
 have c_de := cell_row HF.out 9 _ H_de.out
 have c_r := cell_row HF.out 10 _ H_r.out
 by_cases h1 : 1 ≤ rn
 ·
  by_cases h16 : rn ≤ 16
  ·
   have hd1 : decide ((rn : Int) < 1) = false := by simp; omega
   have hd16 : decide (16 < (rn : Int)) = false := by simp; omega
   have hin := rsmall_any (w1.alloc (.cells ([.int .u64 de] : List Value).toArray 34)) (some ⟨w1.heap.size, 0, none⟩) 1 1 [de] (IntsK.of_row (zs := [de]) (heap_alloc_new _ _) (fun x hx => by simp only [List.mem_cons, List.not_mem_nil, or_false] at hx; subst hx; exact wf_u64r (by omega) (by omega))) (by omega)
   rw [show ([de].all inB) = b1 by rw [← Hb1.out]; simp] at hin
   have HIN := Qh hin
   clear hin
   go_wp2_with (first | rw [hd1] | rw [hd16] | fail)
   refine Calls.mono HIN.out ?_
   rintro e wq ⟨rfl, rfl⟩
   clear HIN hd1 hd16
   clear c0 c_de c_r
   have hb := (Below.refl w1.heap.size w1).alloc (Nat.le_refl _) (.cells ([.int .u64 de] : List Value).toArray 34)
   replace HB := Qh (bl_next HB.out HB.out.size hb)
   replace HRK := Qh (HRK.out.below hb)
   replace HF := Qh (bl_row hb (lt_of_block HF.out) HF.out)
   have HGb1 := Qh (heap_alloc_new w1 (.cells ([.int .u64 de] : List Value).toArray 34))
   clear hb
   generalize w1.alloc (.cells ([.int .u64 de] : List Value).toArray 34) = w2 at HB HRK HF HGb1 ⊢
   obtain ⟨gb1, hg⟩ : ∃ g, w1.heap.size = g := ⟨_, rfl⟩
   rw [hg] at HGb1 ⊢
   clear hg
   have c0 := cell_row HF.out 0 _ H0.out
   have c_de := cell_row HF.out 9 _ H_de.out
   have c_r := cell_row HF.out 10 _ H_r.out
   cases b1
   ·
    go_wp2_with fail
    (try simp only [Exit.inBlock, Exit.then])
    go_ret
    exact ⟨by first | rfl | (simp; done), HB.out⟩
   ·
    go_wp2_with fail
    clear c0 c_de c_r HGb1
    go_loopw [3] (fun s3 wr => ∃ i : Nat, s3 = .int .i64 i ∧ i ≤ rn ∧ Hid (Below w2.heap.size w2 wr) ∧ Hid (risesB (rs.take i) = true) ∧ Hid (∀ x ∈ rs.take i, x.2 ≤ 4611686018427387904)) (fun s _ => rn - (intOf s).toNat)
    case atStart => exact ⟨0, rfl, by omega, Qh (Below.refl _ _), Qh rfl, Qh (by intro x hx; simp at hx)⟩
    case round =>
     obtain ⟨i, rfl, hi, HBL, HA, HM⟩ := hrel
     have HG := Qh (bl_row HBL.out (lt_of_block HF.out) HF.out)
     have c_r := cell_row HG.out 10 _ H_r.out
     by_cases hlt : i < rn
     ·
      have HL1 := Qh (HRK.out.below HBL.out)
      obtain ⟨ab, ao, y, rfl, _, hx, hok, hrg⟩ := HL1.out.at hlt
      obtain ⟨d, e⟩ := y
      have HX := Qh hx
      have HTS := Qh (take_snd4 hx)
      clear hx hok hrg
      go_upto_region 14 with fail
      refine rack_round _ HL1 HX hlt h16 HG HRF H_r (fun c a d v w h => by cases d <;> exact h) ?_
      rintro _ _ _ _ _ _ _ _ _ _ _ _ _ _ _ _ _ _ _ _ _ _ _ _ _ _ _ _ _ _ _ _ _ _ _ _ _ _ _ _ _ w9 HB9
      clear c_r
      obtain ⟨bb, hbb⟩ : ∃ b, rackB i d e rs[i - 1]? = b := ⟨_, rfl⟩
      rw [hbb]
      replace HBL := Qh (bl_next HBL.out HBL.out.size HB9.out)
      cases bb
      ·
       simp only [rackB, Bool.or_eq_false_iff, Bool.and_eq_false_iff, decide_eq_false_iff_not] at hbb
       obtain ⟨⟨hde, hpq⟩, hm⟩ := hbb
       have HN : Hid (risesB (rs.take (i + 1)) = true) := Qh (by rw [HTS.out]; exact risesB_snoc _ _ HA.out (fun z hz => by by_cases h0 : i = 0; exact absurd hz (by subst h0; simp); have hpv := List.getElem?_eq_getElem (l := rs) (i := i - 1) (by rw [HLN.out]; omega); have hlt2 := last_take hpv; rw [show i - 1 + 1 = i by omega] at hlt2; rw [hlt2] at hz; injection hz with hz; subst hz; rw [hpv, Option.getD_some] at hpq; simp only; omega) (by simp only; omega))
       have HM2 : Hid (∀ x ∈ rs.take (i + 1), x.2 ≤ 4611686018427387904) := Qh (by rw [HTS.out]; intro x hx; exact (List.mem_append.1 hx).elim (fun hx => HM.out x hx) (fun hx => by simp at hx; subst hx; simp only; omega))
       clear HB9 HG HL1 hde hpq hm
       go_wp2_with fail
       go_roundw
       case rel => exact ⟨i + 1, by go_num, by omega, HBL, HN, HM2⟩
       case measure => simp [intOf]; omega
      ·
       have HN : Hid (ackB rs = false) := Qh (ackB_no (fun h => by
        simp only [rackB, Bool.or_eq_true, Bool.and_eq_true, decide_eq_true_eq] at hbb
        have h9 := rises_take h.2.2.2 (i + 1)
        rw [HTS.out] at h9
        obtain ⟨_, k1, k2⟩ := rises_snoc_inv h9
        simp only at k1
        rcases hbb with (hbb | ⟨h0, hbb⟩) | hbb
        ·
         omega
        ·
         have hpv := List.getElem?_eq_getElem (l := rs) (i := i - 1) (by rw [HLN.out]; omega)
         have hlt2 := last_take hpv
         rw [show i - 1 + 1 = i by omega] at hlt2
         have := k2 _ hlt2
         rw [hpv, Option.getD_some] at hbb
         simp only at this; omega
        ·
         have h8 := h.2.2.1; obtain ⟨z, hz⟩ : ∃ z, rs.getLast? = some z := ⟨_, List.getLast?_eq_some_getLast (fun h9 => by rw [h9] at HX; cases HX.out)⟩; rw [hz, Option.getD_some] at h8; have := rises_last rs h.2.2.2 (d, e) (List.mem_of_getElem? HX.out) z hz; simp only at this; omega))
       replace HB := Qh (bl_next HB.out HB.out.size HBL.out)
       clear HB9 HG HL1 hbb
       go_wp2_with fail
       (try simp only [Exit.inBlock, Exit.then])
       go_ret
       exact ⟨by rw [HN.out]; rfl, HB.out⟩
     ·
      obtain rfl : i = rn := by omega
      have HN : Hid (ackB rs = true) := Qh (ackB_iff.2 ⟨by rw [HLN.out]; exact h1, by rw [HLN.out]; exact h16, by obtain ⟨z, hz⟩ : ∃ z, rs.getLast? = some z := ⟨_, List.getLast?_eq_some_getLast (fun h9 => by have := HLN.out; rw [h9] at this; simp at this; omega)⟩; rw [hz, Option.getD_some]; exact HM.out z (by rw [List.take_of_length_le (by rw [HLN.out]; exact Nat.le_refl _)]; exact List.mem_of_getLast? hz), by have h9 := HA.out; rw [List.take_of_length_le (by rw [HLN.out]; exact Nat.le_refl _)] at h9; exact h9⟩)
      replace HB := Qh (bl_next HB.out HB.out.size HBL.out)
      go_wp2_with fail
      (try simp only [Exit.inBlock, Exit.then])
      go_ret
      exact ⟨by rw [HN.out]; rfl, HB.out⟩
  ·
   have HN : Hid (ackB rs = false) := Qh (ackB_no (fun h => by have := h.2.1; rw [HLN.out] at this; omega))
   have hd1 : decide ((rn : Int) < 1) = false := by simp; omega
   have hd16 : decide (16 < (rn : Int)) = true := by simp; omega
   go_wp2_with (first | rw [hd1] | rw [hd16] | fail)
   (try simp only [Exit.inBlock, Exit.then])
   go_ret
   exact ⟨by rw [HN.out]; rfl, HB.out⟩
 ·
  have HN : Hid (ackB rs = false) := Qh (ackB_no (fun h => by have := h.1; rw [HLN.out] at this; omega))
  have hd1 : decide ((rn : Int) < 1) = true := by simp; omega
  go_wp2_with (first | rw [hd1] | fail)
  (try simp only [Exit.inBlock, Exit.then])
  go_ret
  exact ⟨by rw [HN.out]; rfl, HB.out⟩
theorem rright4_any (w : World) (f : Fr) (dv rv : Value) (h : FrAt w f dv rv) :
  Calls Try.prog 18 #[.agg (f.cells dv rv).toArray] w fun e w' => e = .returned (.bool (rightB f)) ∧ Below w.heap.size w w' := by
 by_cases hk : f.kind = 0 ∨ f.kind = 1 ∨ f.kind = 30 ∨ f.kind = 26 ∨ f.kind = 27 ∨ f.kind = 2 ∨ f.kind = 4 ∨ f.kind = 5 ∨ f.kind = 6 ∨ f.kind = 8 ∨ f.kind = 16 ∨ f.kind = 17 ∨ f.kind = 18 ∨ f.kind = 20 ∨ f.kind = 24 ∨ f.kind = 25 ∨ f.kind = 28
 ·
  rcases hk with hk | hk | hk | hk | hk | hk | hk | hk | hk | hk | hk | hk | hk | hk | hk | hk | hk
  ·
   exact rright4_0 w f dv rv h hk
  ·
   exact rright4_1 w f dv rv h hk
  ·
   exact rright4_30 w f dv rv h hk
  ·
   exact rright4_26 w f dv rv h hk
  ·
   exact rright4_27 w f dv rv h hk
  ·
   exact rright4_2 w f dv rv h hk
  ·
   exact rright4_4 w f dv rv h hk
  ·
   exact rright4_5 w f dv rv h hk
  ·
   exact rright4_6 w f dv rv h hk
  ·
   exact rright4_8 w f dv rv h hk
  ·
   exact rright4_16 w f dv rv h hk
  ·
   exact rright4_17 w f dv rv h hk
  ·
   exact rright4_18 w f dv rv h hk
  ·
   exact rright4_20 w f dv rv h hk
  ·
   exact rright4_24 w f dv rv h hk
  ·
   exact rright4_25 w f dv rv h hk
  ·
   exact rright4_28 w f dv rv h hk
 ·
  exact rright4_no w f dv rv h hk
end Go.Proofs.Ytmbjepcbokbemaa
namespace Go.Proofs.Ytmbjepcbokbemaa
open Go.RowKit
theorem fall_at : ∀ {l : List (Int × Int)} {m : Nat} {a b : Int × Int}, fallB l → l[m]? = some a → l[m + 1]? = some b → 0 ≤ b.1 ∧ b.1 < b.2 ∧ b.2 < a.1 ∧ a.1 ≤ 4611686018427387904
 | [], m, a, b, _, h, _ => by cases h
 | [x], m, a, b, _, _, h => by simp at h
 | x :: y :: l, 0, a, b, hf, h1, h2 => by
  injection h1 with h1; injection h2 with h2
  subst h1; subst h2
  obtain ⟨f1, f2, f3, f4, f5⟩ := hf
  cases l with
  | nil => exact ⟨f5.1, f5.2.1, f4, by omega⟩
  | cons z l => exact ⟨f5.1, f5.2.1, f4, by omega⟩
 | x :: y :: l, m + 1, a, b, hf, h1, h2 => fall_at (l := y :: l) (m := m) hf.2.2.2.2 h1 h2
theorem ack_fall {f : Fr} (hr : rightB f = true) (hk : f.kind = 2) (hg : RgOk f) : fallB f.rg.reverse ∧ 1 ≤ f.rg.length ∧ f.rg.length ≤ 16 ∧ f.de ≤ 4611686018427387903 := by
 have h : (ackB f.rg && inB f.de) = true := by rw [← hr]; unfold rightB; simp [hk]
 rw [Bool.and_eq_true] at h
 obtain ⟨h1, h2, h3, h4⟩ := ackB_iff.1 h.1
 refine ⟨fall_of _ (by rw [List.reverse_reverse]; exact h4) (fun x hx => hg x (List.mem_reverse.1 hx)) (fun x hx => ?_), h1, h2, inB_iff.1 h.2⟩
 rw [List.head?_reverse] at hx
 rw [hx] at h3
 exact h3
theorem WrU.start {w : World} {B p : Nat} {v : Value} {bs : List Int} (h : Wr w B p v bs) : WrU w B p v w bs := ⟨v, h, Ch.refl _ _ _, .inl rfl⟩
theorem WrU.next {w w1 w2 : World} {B p : Nat} {v v1 : Value} {bs : List Int} (hc : Ch w w1 p v.ownBlock) (ho : v1.ownBlock = v.ownBlock ∨ ∃ k, w.heap.size ≤ k ∧ v1.ownBlock = some k) (h : WrU w1 B p v1 w2 bs) : WrU w B p v w2 bs := by
 obtain ⟨v2, h1, h2, h3⟩ := h
 exact ⟨v2, h1, hc.next h2 ho, own_next hc.size ho h3⟩
theorem Ch.to {w y z : World} {p : Nat} {q : Option Nat} (h : Ch w y p q) (hb : Below y.heap.size y z) : Ch w z p q :=
 ⟨hb.os.trans h.os, hb.tape.trans h.tape, hb.output.trans h.output, Nat.le_trans h.size hb.size, fun i h1 h2 h3 => (hb.block i (Nat.lt_of_lt_of_le h1 h.size)).trans (h.block i h1 h2 h3)⟩
theorem WrU.to {w y z : World} {B p : Nat} {v : Value} {bs : List Int} (h : WrU w B p v y bs) (hb : Below y.heap.size y z) : WrU w B p v z bs := by
 obtain ⟨v2, h1, h2, h3⟩ := h
 exact ⟨v2, h1.to hb, h2.to hb, h3⟩
theorem WrU.row {w y : World} {B p g : Nat} {v : Value} {bs : List Int} {cs : Array Value} {t : TypeId} {fr : Nat × Nat} (h : WrU w B p v y bs) (hr : w.heap[g]? = some (.cells cs t fr)) (hp : g ≠ p) (ho : v.ownBlock ≠ some g) : y.heap[g]? = some (.cells cs t fr) := by
 obtain ⟨v2, h1, h2, h3⟩ := h
 exact (h2.block g (lt_of_block hr) hp ho).trans hr
theorem WrU.size {w y : World} {B p : Nat} {v : Value} {bs : List Int} (h : WrU w B p v y bs) : w.heap.size ≤ y.heap.size := by
 obtain ⟨v2, h1, h2, h3⟩ := h; exact h2.size
theorem WrU.vars {w y : World} {B p : Nat} {v : Value} {bs : List Int} (h : WrU w B p v y bs) (zs : List Int) (n : Nat) (hn : zs.length = n) (hz : ∀ x ∈ zs, (Lit.int .u64 x).wf = true) (hl : bs.length ≤ 100000) (hzl : n ≤ 1000) :
  Calls Try.prog 56 #[.pointer (some ⟨p, 0, none⟩), .slice (some ⟨y.heap.size, 0, none⟩) n n] (y.alloc (.cells (zs.map (Value.int .u64)).toArray 34)) fun e w' => e = .returned (.tuple #[]) ∧ WrU w B p v w' (bs ++ varsM zs) := by
 obtain ⟨v1, h1, h2, h3⟩ := h
 have hb := (Below.refl y.heap.size y).alloc (Nat.le_refl _) (.cells (zs.map (Value.int .u64)).toArray 34)
 subst hn
 refine Calls.mono (vars4_any _ B p v1 bs _ zs.length zs.length zs (by omega) (by omega) (h1.to hb) (IntsK.of_row (heap_alloc_new y (.cells (zs.map (Value.int .u64)).toArray 34)) hz) (fun x hx => ?_)) (fun e w' hq => ⟨hq.1, ?_⟩)
 ·
  injection hx with hx; subst hx
  exact ⟨by have := h1.lt; show y.heap.size ≠ p; omega, fun e => by have h9 := (h1.own.lt _ e).2; exact absurd h9 (Nat.lt_irrefl _)⟩
 ·
  exact WrU.next h2 h3 (WrU.from hb hq.2)
theorem RK.At.chb {α : Type} {K : RK α} {w y : World} {p : Nat} {q : Option Nat} {a : Option Addr} {n : Nat} {l : List α} (h : K.At w a n l) (hc : Ch w y p q) (ha : ∀ x, a = some x → x.block ≠ p ∧ q ≠ some x.block) : K.At y a n l := by
 refine ⟨h.1, h.2.1, ?_⟩
 rcases h.2.2 with h0 | ⟨b, off, rfl, hl, hcell⟩
 ·
  exact .inl h0
 ·
  refine .inr ⟨b, off, rfl, Nat.lt_of_lt_of_le hl hc.size, fun j u hu => ?_⟩
  rw [← hcell j u hu]
  simp only [World.cell?, hc.block b hl (ha _ rfl).1 (ha _ rfl).2]
theorem gaps_len : ∀ l : List (Int × Int), (revGaps l).length ≤ 2 * l.length
 | [] => by simp [revGaps]
 | [x] => by simp [revGaps]
 | x :: y :: l => by have := gaps_len (y :: l); simp only [revGaps, List.length_cons] at this ⊢; omega
theorem putack_any (W0 w : World) (p : Nat) (v : Value) (bs : List Int) (f : Fr) (dv rv : Value) (h : FrAt W0 f dv rv) (hb0 : Below W0.heap.size W0 w) (hk : f.kind = 2) (hr : rightB f = true) (hg : RgOk f) (hW : Wr w W0.heap.size p v bs) (hl : bs.length ≤ 20000) :
  Calls Try.prog 55 #[.pointer (some ⟨p, 0, none⟩), .agg (f.cells dv rv).toArray] w fun e w' => e = .returned (.tuple #[]) ∧ WrU w W0.heap.size p v w' (bs ++ varsM (ackV f.rg f.de)) := by
 obtain ⟨hfall, hn1, hn16, hde⟩ := ack_fall hr hk hg
 obtain ⟨ra, rn, rc, rfl, hr1, hr2, hR⟩ := h.r
 have hde2 := h.wf.de
 simp only [U64] at hde2
 have hln : f.rg.length = rn := hR.1.symm
 have H9 : Hid ((f.cells dv (.slice ra rn rc))[9]? = some (.int .u64 f.de)) := Qh rfl
 have H10 : Hid ((f.cells dv (.slice ra rn rc))[10]? = some (.slice ra rn rc)) := Qh rfl
 obtain ⟨RF, hRF⟩ : ∃ R, f.cells dv (.slice ra rn rc) = R := ⟨_, rfl⟩
 rw [hRF] at H9 H10 ⊢
 obtain ⟨rg, hrg⟩ : ∃ r, f.rg = r := ⟨_, rfl⟩
 obtain ⟨de, hdee⟩ : ∃ r, f.de = r := ⟨_, rfl⟩
 rw [hrg] at hln hfall hn1 hn16 hR ⊢
 rw [hdee] at hde hde2 H9 ⊢
 clear hRF hrg hdee hr hg hk h
 rw [hln] at hn1 hn16
 obtain ⟨d0, d1⟩ := hde2
 obtain ⟨m, rfl⟩ : ∃ m, rn = m + 1 := ⟨rn - 1, by omega⟩
 have HLN := Qh hln
 obtain ⟨ab, ao, x, rfl, hab, hx, hok, hrgx⟩ := hR.at (j := m) (by omega)
 obtain ⟨d, e⟩ := x
 have hu1 := hok.1; have hu2 := hok.2
 simp only [U64] at hu1 hu2
 have hrev0 : rg.reverse[0]? = some (d, e) := by rw [rev_at hln (by omega)]; exact hx
 obtain ⟨tl, htl⟩ : ∃ tl, rg.reverse = (d, e) :: tl := by
  cases hq : rg.reverse with
  | nil => rw [hq] at hrev0; cases hrev0
  | cons y l => rw [hq] at hrev0; injection hrev0 with e9; exact ⟨l, by rw [e9]⟩
 have htll : tl.length = m := by have := congrArg List.length htl; rw [List.length_reverse, hln, List.length_cons] at this; omega
 have htop : e ≤ 4611686018427387904 ∧ d < e := by rw [htl] at hfall; cases tl with
  | nil => exact ⟨hfall.2.2, hfall.2.1⟩
  | cons z l => exact ⟨hfall.2.2.1, hfall.2.1⟩
 have hack : ackV rg de = [e - 1, de, (m : Int), e - 1 - d] ++ revGaps rg.reverse := by unfold ackV; rw [htl]; simp only; rw [htll]
 have hrev1 : revGaps (rg.reverse.take (0 + 1)) = [] := gaps_one
 rw [hack]
 have HREV := Qh hrev1
 have HFALL := Qh hfall
 obtain ⟨t1, t2⟩ := htop
 have HRW := Qh (hR.below hb0)
 have HRGX : Hid (w.rangeAt ab (ao + m * 2) [.int .u64 d, .int .u64 e]) := Qh (by
  obtain ⟨ab', ao', x', e1, _, hx', _, hrg'⟩ := (hR.below hb0).at (j := m) (by omega)
  injection e1 with e1; injection e1 with e1 e2; subst e1; subst e2
  rw [hx] at hx'; injection hx' with hx'; subst hx'; exact hrg')
 have hab2 : ab < W0.heap.size := hab
 have HAB := Qh hab2
 have HW := Qh hW
 have HBB := Qh hb0
 have HU0 := Qh hfall
 obtain ⟨u1, u2⟩ := hu1
 obtain ⟨u3, u4⟩ := hu2
 clear hR hx hok hrgx hrev0 htl htll hack hrev1 hfall hab hab2 hW hb0 HU0 tl hln
 go_enter Try.func55, Try.ntmps55
 have HB := Qh (Below.refl w.heap.size w)
 go_upto_region 1 with fail
 change Code.wp _ _ _ _ (w.alloc (.cells RF.toArray 39))
 have hgp : w.heap.size ≠ p ∧ v.ownBlock ≠ some w.heap.size := ⟨by have := HW.out.lt; omega, fun e => by have := (HW.out.own.lt _ e).2; omega⟩
 have HGP := Qh hgp
 clear hgp
 replace HRGX : Hid ((w.alloc (.cells RF.toArray 39)).rangeAt ab (ao + m * 2) [.int .u64 d, .int .u64 e]) := Qh (fun i x hi => bl_cell ((Below.refl w.heap.size w).alloc (Nat.le_refl _) (.cells RF.toArray 39)) (p := ⟨ab, ao + m * 2 + i, none⟩) (Nat.lt_of_lt_of_le HAB.out HBB.out.size) (HRGX.out i x hi))
 have hb := (Below.refl w.heap.size w).alloc (Nat.le_refl _) (.cells RF.toArray 39)
 replace HRW := Qh (HRW.out.below hb)
 replace HW := Qh (HW.out.to hb)
 replace HB := Qh (bl_next HB.out HB.out.size hb)
 have HF := Qh (heap_alloc_new w (.cells RF.toArray 39))
 clear hb
 generalize w.alloc (.cells RF.toArray 39) = w1 at HRW HW HB HRGX HF ⊢
 obtain ⟨gf, hg⟩ : ∃ g, w.heap.size = g := ⟨_, rfl⟩
 rw [hg] at HF HGP ⊢
 clear hg
 have c9 := cell_row HF.out 9 _ H9.out
 have c10 := cell_row HF.out 10 _ H10.out
 go_upto_region 3 with (first | (refine wpList_load_mid rfl 71 _ rfl ab (ao + m * 2) rfl [.int .u64 d, .int .u64 e] _ HRGX.out Try.underlying71 rfl rfl ?_) | fail)
 change Code.wp _ _ _ _ (w1.alloc (.cells ([.int .u64 d, .int .u64 e] : List Value).toArray 71))
 have hgr : gf ≠ w1.heap.size := by have := lt_of_block HF.out; omega
 clear c9 c10 HRGX
 have hb := (Below.refl w1.heap.size w1).alloc (Nat.le_refl _) (.cells ([.int .u64 d, .int .u64 e] : List Value).toArray 71)
 replace HRW := Qh (HRW.out.below hb)
 replace HW := Qh (HW.out.to hb)
 replace HB := Qh (bl_next HB.out HB.out.size hb)
 replace HF := Qh (bl_row hb (lt_of_block HF.out) HF.out)
 have HG := Qh (heap_alloc_new w1 (.cells ([.int .u64 d, .int .u64 e] : List Value).toArray 71))
 clear hb
 generalize w1.alloc (.cells ([.int .u64 d, .int .u64 e] : List Value).toArray 71) = w2 at HRW HW HB HF HG ⊢
 obtain ⟨gr, hg⟩ : ∃ g, w1.heap.size = g := ⟨_, rfl⟩
 rw [hg] at HG hgr ⊢
 clear hg hgr
 have c9 := cell_row HF.out 9 _ H9.out
 have c10 := cell_row HF.out 10 _ H10.out
 have c11 := row_cell HG.out 0 _ rfl
 have c12 := row_cell HG.out 1 _ rfl
 have hcl := (WrU.start HW.out).vars [e - 1, de, (m : Int), e - 1 - d] 4 rfl (fun x hx => by simp only [List.mem_cons, List.not_mem_nil, or_false] at hx; rcases hx with rfl | rfl | rfl | rfl <;> exact wf_u64r (by omega) (by omega)) (by omega) (by omega)
 have HCL := Qh hcl
 clear hcl
 go_wp2_with fail
 refine Calls.mono HCL.out ?_
 rintro e9 w3 ⟨rfl, hu⟩
 have HU := Qh hu
 clear hu HCL c9 c10 c11 c12 HG
 go_wp2_with fail
 go_loopw [6] (fun s6 wr => ∃ j : Nat, s6 = .int .i64 ((m : Int) - 1 - j) ∧ j ≤ m ∧ Hid (WrU w2 W0.heap.size p v wr (bs ++ varsM ([e - 1, de, (m : Int), e - 1 - d] ++ revGaps (rg.reverse.take (j + 1)))))) (fun s _ => (intOf s + 1).toNat)
 case atStart => exact ⟨0, by simp, by omega, Qh (by rw [HREV.out, List.append_nil]; exact HU.out)⟩
 case round =>
  clear HU
  obtain ⟨j, rfl, hj, HU⟩ := hrel
  by_cases hlt : j < m
  ·
   obtain ⟨i, hi⟩ : ∃ i : Nat, m = i + j + 1 := ⟨m - 1 - j, by omega⟩
   obtain ⟨i2, hi2⟩ : ∃ i2 : Int, (m : Int) - 1 - j = i2 := ⟨_, rfl⟩
   have hi3 : i2 = (i : Int) := by omega
   rw [hi2, hi3]
   clear hi2 hi3 i2
   obtain ⟨v1, hw1, hc1, ho1⟩ := HU.out
   have hrw : rgK.At wr (some ⟨ab, ao, none⟩) (m + 1) rg := HRW.out.chb hc1 (fun b hb => by injection hb with hb; subst hb; exact ⟨by have := HW.out.lo; have := HAB.out; show ab ≠ p; omega, fun e => absurd (own_base HW.out.own ab e) (by have := HAB.out; omega)⟩)
   obtain ⟨ab', ao', x, e1, _, hx, hok, hrgx⟩ := hrw.at (j := i) (by omega)
   injection e1 with e1; injection e1 with e1 e2; subst e1; subst e2
   obtain ⟨ab', ao', y, e1, _, hy, hok2, hrgy⟩ := hrw.at (j := i + 1) (by omega)
   injection e1 with e1; injection e1 with e1 e2; subst e1; subst e2
   obtain ⟨lo, hi9⟩ := x
   obtain ⟨lo2, hi29⟩ := y
   have hra : rg.reverse[j]? = some (lo2, hi29) := by rw [rev_at HLN.out (by omega), show m + 1 - 1 - j = i + 1 by omega]; exact hy
   have hrb : rg.reverse[j + 1]? = some (lo, hi9) := by rw [rev_at HLN.out (by omega), show m + 1 - 1 - (j + 1) = i by omega]; exact hx
   have HGS := Qh (gaps_snoc hra hrb)
   have hfa := fall_at HFALL.out hra hrb
   simp only at hfa
   have hlo2c : wr.cell? ⟨ab, ao + (i + 1) * 2, none⟩ = some (.int .u64 lo2) := hrgy 0 _ rfl
   have HRX : Hid (wr.rangeAt ab (ao + i * 2) [.int .u64 lo, .int .u64 hi9]) := Qh hrgx
   have HL2 := Qh hlo2c
   have HFW : Hid (wr.heap[gf]? = some (.cells RF.toArray 39 (0, 0))) := Qh (HU.out.row HF.out HGP.out.1 HGP.out.2)
   have HW1 := Qh hw1; have HC1 := Qh hc1; have HO1 := Qh ho1
   clear hw1 hc1 ho1 hrw hx hok hrgx hy hok2 hrgy hra hrb hlo2c
   obtain ⟨f1, f2, f3, f4⟩ := hfa
   have HIJ := Qh hi
   have hin9 : i + 1 < m + 1 := by omega
   have hle9 := varsM_le ([e - 1, de, (m : Int), e - 1 - d] ++ revGaps (rg.reverse.take (j + 1)))
   have hlg : (revGaps (rg.reverse.take (j + 1))).length ≤ 40 := by have := gaps_len (rg.reverse.take (j + 1)); have h9 := List.length_take_le (j + 1) rg.reverse; omega
   simp only [List.length_append, List.length_cons, List.length_nil] at hle9
   have hbl : (bs ++ varsM ([e - 1, de, (m : Int), e - 1 - d] ++ revGaps (rg.reverse.take (j + 1)))).length ≤ 100000 := by rw [List.length_append]; omega
   have HBL := Qh hbl
   clear hle9 hlg hbl hi
   have c10 := cell_row HFW.out 10 _ H10.out
   go_upto_region 8 with (first | (refine wpList_load_mid rfl 71 _ rfl ab (ao + i * 2) rfl [.int .u64 lo, .int .u64 hi9] _ HRX.out Try.underlying71 rfl rfl ?_) | fail)
   change Code.wp _ _ _ _ (wr.alloc (.cells ([.int .u64 lo, .int .u64 hi9] : List Value).toArray 71))
   clear c10 HRX
   have hb := (Below.refl wr.heap.size wr).alloc (Nat.le_refl _) (.cells ([.int .u64 lo, .int .u64 hi9] : List Value).toArray 71)
   have hg4 : wr.heap.size ≠ p ∧ v1.ownBlock ≠ some wr.heap.size := ⟨by have := HW1.out.lt; omega, fun e => by have := (HW1.out.own.lt _ e).2; omega⟩
   have hg5 : gf ≠ p ∧ v1.ownBlock ≠ some gf := ⟨HGP.out.1, fun e => by rcases HO1.out with h9 | ⟨k, hk, h9⟩ <;> rw [h9] at e; exact HGP.out.2 e; injection e with e; have := lt_of_block HF.out; omega⟩
   have hg6 : ab ≠ p ∧ v1.ownBlock ≠ some ab := ⟨by have := HW.out.lo; have := HAB.out; omega, fun e => by have := own_base HW1.out.own _ e; have := HAB.out; omega⟩
   have habw : ab < wr.heap.size := by have := HAB.out; have := HC1.out.size; have := HB.out.size; have := HBB.out.size; omega
   have HGG := Qh (And.intro hg5 (And.intro hg4 (And.intro hg6 (Nat.lt_of_lt_of_le habw hb.size))))
   clear hg4 hg5 hg6
   replace HFW := Qh (bl_row hb (lt_of_block HFW.out) HFW.out)
   replace HL2 := Qh (bl_cell hb (p := ⟨ab, ao + (i + 1) * 2, none⟩) habw HL2.out)
   replace HW1 := Qh (HW1.out.to hb)
   have HBX := Qh hb
   have HG := Qh (heap_alloc_new wr (.cells ([.int .u64 lo, .int .u64 hi9] : List Value).toArray 71))
   clear hb habw
   generalize wr.alloc (.cells ([.int .u64 lo, .int .u64 hi9] : List Value).toArray 71) = w5 at HFW HL2 HW1 HBX HG HGG ⊢
   obtain ⟨gr, hg⟩ : ∃ g, wr.heap.size = g := ⟨_, rfl⟩
   rw [hg] at HG HGG ⊢
   clear hg
   refine pa_gap _ HW1 HBL.out HFW H10 HG HL2 hin9 hn16 ⟨f1, f2, f3, f4⟩ HGG (fun c a d v w h => by cases d <;> exact h) ?_
   rintro _ _ _ _ _ _ _ _ _ _ _ _ _ _ _ _ _ _ _ _ w6 HU6
   have HN : Hid (WrU w2 W0.heap.size p v w6 (bs ++ varsM ([e - 1, de, (m : Int), e - 1 - d] ++ revGaps (rg.reverse.take (j + 1 + 1))))) := Qh (by rw [show j + 1 + 1 = j + 2 by omega, HGS.out, ← List.append_assoc [e - 1, de, (m : Int), e - 1 - d], varsM_app _ [lo2 - hi9 - 1, hi9 - 1 - lo], ← List.append_assoc]; exact WrU.next HC1.out HO1.out (WrU.from HBX.out HU6.out))
   clear HU6 HG HGG HL2 HFW HW1 HC1 HO1 HBX HGS HU HBL
   go_wp2_with fail
   go_roundw
   case rel => exact ⟨j + 1, by rw [show ((m : Int) - 1 - ((j + 1 : Nat) : Int)) = (i : Int) - 1 by have := HIJ.out; omega], by omega, HN⟩
   case measure => have := HIJ.out; simp [intOf] <;> omega
  ·
   obtain rfl : j = m := by omega
   have hN : WrU w W0.heap.size p v wr (bs ++ varsM ([e - 1, de, (j : Int), e - 1 - d] ++ revGaps rg.reverse)) := by have h9 := HU.out; rw [List.take_of_length_le (by rw [List.length_reverse, HLN.out]; exact Nat.le_refl _)] at h9; exact WrU.from HB.out h9
   have HN := Qh hN
   clear hN HU
   rw [show (j : Int) - 1 - j = -1 by omega]
   go_wp2_with fail
   (try simp only [Exit.inBlock, Exit.then])
   refine bodyPost_end (results_none rfl _ _ _) rfl ?_
   exact ⟨rfl, HN.out⟩
end Go.Proofs.Ytmbjepcbokbemaa
