/- texts of the proof, laid together: Frm6, Grow2, OctW, Frm7, Frm8, Frm9, FrmA. -/
import Derived.Test.YtmbjepcbokbemaaU3
import Derived.Test.YtmbjepcbokbemaaU1
import Derived.Maps.AppendAt
set_option linter.unusedVariables false
set_option linter.unusedSimpArgs false
set_option maxRecDepth 100000
set_option maxHeartbeats 16000000
namespace Go.Proofs.Ytmbjepcbokbemaa
open Go.RowKit
theorem right4_0 (w : World) (f : Fr) (dv rv : Value) (h : FrAt w f dv rv) (hk : f.kind = 0) :
  Calls Try.prog 27 #[.agg (f.cells dv rv).toArray] w fun e w' => e = .returned (.bool (rightB f)) ∧ Below w.heap.size w w' := by
 have hR : rightB f = (true) := by unfold rightB; simp [hk]
 rw [hR]
 have hwf := h.wf
 have HRF : Hid ((f.cells dv rv).length = 19) := Qh (Fr.len hwf)
 have H0 : Hid ((f.cells dv rv)[0]? = some (.int .i64 0)) := Qh (by rw [← hk]; rfl)
 obtain ⟨RF, hRF⟩ : ∃ R, f.cells dv rv = R := ⟨_, rfl⟩
 simp only [hRF] at HRF H0
 rw [hRF]
 clear hwf h hR hRF
 go_enter Try.func27, Try.ntmps27
 go_upto_region 1 with fail
 change Code.wp _ _ _ _ (w.alloc (.cells RF.toArray 39))
 have HB := Qh (Below.refl w.heap.size w)
 have hb := (Below.refl w.heap.size w).alloc (Nat.le_refl _) (.cells RF.toArray 39)
 replace HB := Qh (bl_next HB.out HB.out.size hb)
 have HF := Qh (heap_alloc_new w (.cells RF.toArray 39))
 clear hb
 generalize w.alloc (.cells RF.toArray 39) = w1 at HB HF ⊢
 obtain ⟨gf, hg⟩ : ∃ g, w.heap.size = g := ⟨_, rfl⟩
 rw [hg] at HF ⊢
 clear hg
 have c0 := cell_row HF.out 0 _ H0.out
 go_wp2_with fail
 go_ret
 exact ⟨by first | rfl | (simp; done) | (simp; omega), HB.out⟩
theorem right4_1 (w : World) (f : Fr) (dv rv : Value) (h : FrAt w f dv rv) (hk : f.kind = 1) :
  Calls Try.prog 27 #[.agg (f.cells dv rv).toArray] w fun e w' => e = .returned (.bool (rightB f)) ∧ Below w.heap.size w w' := by
 have hR : rightB f = (true) := by unfold rightB; simp [hk]
 rw [hR]
 have hwf := h.wf
 have HRF : Hid ((f.cells dv rv).length = 19) := Qh (Fr.len hwf)
 have H0 : Hid ((f.cells dv rv)[0]? = some (.int .i64 1)) := Qh (by rw [← hk]; rfl)
 obtain ⟨RF, hRF⟩ : ∃ R, f.cells dv rv = R := ⟨_, rfl⟩
 simp only [hRF] at HRF H0
 rw [hRF]
 clear hwf h hR hRF
 go_enter Try.func27, Try.ntmps27
 go_upto_region 1 with fail
 change Code.wp _ _ _ _ (w.alloc (.cells RF.toArray 39))
 have HB := Qh (Below.refl w.heap.size w)
 have hb := (Below.refl w.heap.size w).alloc (Nat.le_refl _) (.cells RF.toArray 39)
 replace HB := Qh (bl_next HB.out HB.out.size hb)
 have HF := Qh (heap_alloc_new w (.cells RF.toArray 39))
 clear hb
 generalize w.alloc (.cells RF.toArray 39) = w1 at HB HF ⊢
 obtain ⟨gf, hg⟩ : ∃ g, w.heap.size = g := ⟨_, rfl⟩
 rw [hg] at HF ⊢
 clear hg
 have c0 := cell_row HF.out 0 _ H0.out
 go_wp2_with fail
 go_ret
 exact ⟨by first | rfl | (simp; done) | (simp; omega), HB.out⟩
theorem right4_30 (w : World) (f : Fr) (dv rv : Value) (h : FrAt w f dv rv) (hk : f.kind = 30) :
  Calls Try.prog 27 #[.agg (f.cells dv rv).toArray] w fun e w' => e = .returned (.bool (rightB f)) ∧ Below w.heap.size w w' := by
 have hR : rightB f = (true) := by unfold rightB; simp [hk]
 rw [hR]
 have hwf := h.wf
 have HRF : Hid ((f.cells dv rv).length = 19) := Qh (Fr.len hwf)
 have H0 : Hid ((f.cells dv rv)[0]? = some (.int .i64 30)) := Qh (by rw [← hk]; rfl)
 obtain ⟨RF, hRF⟩ : ∃ R, f.cells dv rv = R := ⟨_, rfl⟩
 simp only [hRF] at HRF H0
 rw [hRF]
 clear hwf h hR hRF
 go_enter Try.func27, Try.ntmps27
 go_upto_region 1 with fail
 change Code.wp _ _ _ _ (w.alloc (.cells RF.toArray 39))
 have HB := Qh (Below.refl w.heap.size w)
 have hb := (Below.refl w.heap.size w).alloc (Nat.le_refl _) (.cells RF.toArray 39)
 replace HB := Qh (bl_next HB.out HB.out.size hb)
 have HF := Qh (heap_alloc_new w (.cells RF.toArray 39))
 clear hb
 generalize w.alloc (.cells RF.toArray 39) = w1 at HB HF ⊢
 obtain ⟨gf, hg⟩ : ∃ g, w.heap.size = g := ⟨_, rfl⟩
 rw [hg] at HF ⊢
 clear hg
 have c0 := cell_row HF.out 0 _ H0.out
 go_wp2_with fail
 go_ret
 exact ⟨by first | rfl | (simp; done) | (simp; omega), HB.out⟩
theorem right4_26 (w : World) (f : Fr) (dv rv : Value) (h : FrAt w f dv rv) (hk : f.kind = 26) :
  Calls Try.prog 27 #[.agg (f.cells dv rv).toArray] w fun e w' => e = .returned (.bool (rightB f)) ∧ Below w.heap.size w w' := by
 have hR : rightB f = (true) := by unfold rightB; simp [hk]
 rw [hR]
 have hwf := h.wf
 have HRF : Hid ((f.cells dv rv).length = 19) := Qh (Fr.len hwf)
 have H0 : Hid ((f.cells dv rv)[0]? = some (.int .i64 26)) := Qh (by rw [← hk]; rfl)
 obtain ⟨RF, hRF⟩ : ∃ R, f.cells dv rv = R := ⟨_, rfl⟩
 simp only [hRF] at HRF H0
 rw [hRF]
 clear hwf h hR hRF
 go_enter Try.func27, Try.ntmps27
 go_upto_region 1 with fail
 change Code.wp _ _ _ _ (w.alloc (.cells RF.toArray 39))
 have HB := Qh (Below.refl w.heap.size w)
 have hb := (Below.refl w.heap.size w).alloc (Nat.le_refl _) (.cells RF.toArray 39)
 replace HB := Qh (bl_next HB.out HB.out.size hb)
 have HF := Qh (heap_alloc_new w (.cells RF.toArray 39))
 clear hb
 generalize w.alloc (.cells RF.toArray 39) = w1 at HB HF ⊢
 obtain ⟨gf, hg⟩ : ∃ g, w.heap.size = g := ⟨_, rfl⟩
 rw [hg] at HF ⊢
 clear hg
 have c0 := cell_row HF.out 0 _ H0.out
 go_wp2_with fail
 go_ret
 exact ⟨by first | rfl | (simp; done) | (simp; omega), HB.out⟩
theorem right4_27 (w : World) (f : Fr) (dv rv : Value) (h : FrAt w f dv rv) (hk : f.kind = 27) :
  Calls Try.prog 27 #[.agg (f.cells dv rv).toArray] w fun e w' => e = .returned (.bool (rightB f)) ∧ Below w.heap.size w w' := by
 have hR : rightB f = (true) := by unfold rightB; simp [hk]
 rw [hR]
 have hwf := h.wf
 have HRF : Hid ((f.cells dv rv).length = 19) := Qh (Fr.len hwf)
 have H0 : Hid ((f.cells dv rv)[0]? = some (.int .i64 27)) := Qh (by rw [← hk]; rfl)
 obtain ⟨RF, hRF⟩ : ∃ R, f.cells dv rv = R := ⟨_, rfl⟩
 simp only [hRF] at HRF H0
 rw [hRF]
 clear hwf h hR hRF
 go_enter Try.func27, Try.ntmps27
 go_upto_region 1 with fail
 change Code.wp _ _ _ _ (w.alloc (.cells RF.toArray 39))
 have HB := Qh (Below.refl w.heap.size w)
 have hb := (Below.refl w.heap.size w).alloc (Nat.le_refl _) (.cells RF.toArray 39)
 replace HB := Qh (bl_next HB.out HB.out.size hb)
 have HF := Qh (heap_alloc_new w (.cells RF.toArray 39))
 clear hb
 generalize w.alloc (.cells RF.toArray 39) = w1 at HB HF ⊢
 obtain ⟨gf, hg⟩ : ∃ g, w.heap.size = g := ⟨_, rfl⟩
 rw [hg] at HF ⊢
 clear hg
 have c0 := cell_row HF.out 0 _ H0.out
 go_wp2_with fail
 go_ret
 exact ⟨by first | rfl | (simp; done) | (simp; omega), HB.out⟩
theorem right4_2 (w : World) (f : Fr) (dv rv : Value) (h : FrAt w f dv rv) (hk : f.kind = 2) :
  Calls Try.prog 27 #[.agg (f.cells dv rv).toArray] w fun e w' => e = .returned (.bool (rightB f)) ∧ Below w.heap.size w w' := by
 have hR : rightB f = (ackB f.rg && inB f.de) := by unfold rightB; simp [hk]
 rw [hR]
 have hwf := h.wf
 obtain ⟨ra, rn, rc, rfl, hr1, hr2, hr⟩ := h.r
 have HRK := Qh hr
 obtain ⟨rg, hrg⟩ : ∃ r, f.rg = r := ⟨_, rfl⟩
 rw [hrg] at HRK ⊢
 clear hrg hr
 have HRF : Hid ((f.cells dv (.slice ra rn rc)).length = 19) := Qh (Fr.len hwf)
 have H0 : Hid ((f.cells dv (.slice ra rn rc))[0]? = some (.int .i64 2)) := Qh (by rw [← hk]; rfl)
 have H_de : Hid ((f.cells dv (.slice ra rn rc))[9]? = some (.int .u64 f.de)) := Qh rfl
 have u_de := hwf.de
 simp only [U64] at u_de
 have H_r : Hid ((f.cells dv (.slice ra rn rc))[10]? = some (.slice ra rn rc)) := Qh rfl
 obtain ⟨RF, hRF⟩ : ∃ R, f.cells dv (.slice ra rn rc) = R := ⟨_, rfl⟩
 simp only [hRF] at HRF H0 H_de H_r
 rw [hRF]
 obtain ⟨de, h_de⟩ : ∃ y, f.de = y := ⟨_, rfl⟩
 rw [h_de] at H_de u_de
 try rw [h_de]
 obtain ⟨u1_de, u2_de⟩ := u_de
 clear h_de
 obtain ⟨b1, hb1⟩ : ∃ b, (ackB rg) = b := ⟨_, rfl⟩
 rw [hb1]
 have Hb1 := Qh hb1
 clear hb1
 obtain ⟨b2, hb2⟩ : ∃ b, (inB de) = b := ⟨_, rfl⟩
 rw [hb2]
 have Hb2 := Qh hb2
 clear hb2
 clear hwf h hR hRF
 go_enter Try.func27, Try.ntmps27
 go_upto_region 1 with fail
 change Code.wp _ _ _ _ (w.alloc (.cells RF.toArray 39))
 have HB := Qh (Below.refl w.heap.size w)
 have hb := (Below.refl w.heap.size w).alloc (Nat.le_refl _) (.cells RF.toArray 39)
 replace HB := Qh (bl_next HB.out HB.out.size hb)
 replace HRK := Qh (HRK.out.below hb)
 have HF := Qh (heap_alloc_new w (.cells RF.toArray 39))
 clear hb
 generalize w.alloc (.cells RF.toArray 39) = w1 at HB HRK HF ⊢
 obtain ⟨gf, hg⟩ : ∃ g, w.heap.size = g := ⟨_, rfl⟩
 rw [hg] at HF ⊢
 clear hg
 have c0 := cell_row HF.out 0 _ H0.out
 have c_de := cell_row HF.out 9 _ H_de.out
 have c_r := cell_row HF.out 10 _ H_r.out
 have hak := ack4_any w1 ra rn rc rg HRK.out ⟨hr1, hr2⟩
 rw [Hb1.out] at hak
 have HAK := Qh hak
 clear hak
 go_wp2_with fail
 refine Calls.mono HAK.out ?_
 rintro e w9 ⟨rfl, hb⟩
 clear c0 c_de c_r
 replace HB := Qh (bl_next HB.out HB.out.size hb)
 replace HF := Qh (bl_row hb (lt_of_block HF.out) HF.out)
 clear hb HAK HRK
 have c0 := cell_row HF.out 0 _ H0.out
 have c_de := cell_row HF.out 9 _ H_de.out
 have c_r := cell_row HF.out 10 _ H_r.out
 cases b1
 ·
  go_wp2_with fail
  go_ret
  exact ⟨by first | rfl | (simp; done) | (simp; omega), HB.out⟩
 ·
  have hin := in_any (w9.alloc (.cells ([.int .u64 de] : List Value).toArray 34)) (some ⟨w9.heap.size, 0, none⟩) 1 1 [de] (IntsK.of_row (zs := [de]) (heap_alloc_new _ _) (fun x hx => by simp only [List.mem_cons, List.not_mem_nil, or_false] at hx; subst hx; exact wf_u64r (by omega) (by omega))) (by omega)
  rw [show ([de].all inB) = b2 by rw [← Hb2.out]; simp] at hin
  have HIN := Qh hin
  clear hin
  go_wp2_with fail
  refine Calls.mono HIN.out ?_
  rintro e wq ⟨rfl, rfl⟩
  clear HIN
  clear c0 c_de c_r
  have hb := (Below.refl w9.heap.size w9).alloc (Nat.le_refl _) (.cells ([.int .u64 de] : List Value).toArray 34)
  replace HB := Qh (bl_next HB.out HB.out.size hb)
  replace HF := Qh (bl_row hb (lt_of_block HF.out) HF.out)
  have HGb2 := Qh (heap_alloc_new w9 (.cells ([.int .u64 de] : List Value).toArray 34))
  clear hb
  generalize w9.alloc (.cells ([.int .u64 de] : List Value).toArray 34) = w10 at HB HF HGb2 ⊢
  obtain ⟨gb2, hg⟩ : ∃ g, w9.heap.size = g := ⟨_, rfl⟩
  rw [hg] at HGb2 ⊢
  clear hg
  have c0 := cell_row HF.out 0 _ H0.out
  have c_de := cell_row HF.out 9 _ H_de.out
  have c_r := cell_row HF.out 10 _ H_r.out
  go_wp2_with fail
  go_ret
  exact ⟨by first | rfl | (simp; done) | (simp; omega), HB.out⟩
theorem right4_4 (w : World) (f : Fr) (dv rv : Value) (h : FrAt w f dv rv) (hk : f.kind = 4) :
  Calls Try.prog 27 #[.agg (f.cells dv rv).toArray] w fun e w' => e = .returned (.bool (rightB f)) ∧ Below w.heap.size w w' := by
 have hR : rightB f = (inB f.st && inB f.co && decide (f.fi ≤ 1099511627776)) := by unfold rightB; simp [hk]
 rw [hR]
 have hwf := h.wf
 have HRF : Hid ((f.cells dv rv).length = 19) := Qh (Fr.len hwf)
 have H0 : Hid ((f.cells dv rv)[0]? = some (.int .i64 4)) := Qh (by rw [← hk]; rfl)
 have H_st : Hid ((f.cells dv rv)[1]? = some (.int .u64 f.st)) := Qh rfl
 have u_st := hwf.st
 simp only [U64] at u_st
 have H_co : Hid ((f.cells dv rv)[6]? = some (.int .u64 f.co)) := Qh rfl
 have u_co := hwf.co
 simp only [U64] at u_co
 have H_fi : Hid ((f.cells dv rv)[7]? = some (.int .u64 f.fi)) := Qh rfl
 have u_fi := hwf.fi
 simp only [U64] at u_fi
 obtain ⟨RF, hRF⟩ : ∃ R, f.cells dv rv = R := ⟨_, rfl⟩
 simp only [hRF] at HRF H0 H_st H_co H_fi
 rw [hRF]
 obtain ⟨st, h_st⟩ : ∃ y, f.st = y := ⟨_, rfl⟩
 rw [h_st] at H_st u_st
 try rw [h_st]
 obtain ⟨u1_st, u2_st⟩ := u_st
 clear h_st
 obtain ⟨co, h_co⟩ : ∃ y, f.co = y := ⟨_, rfl⟩
 rw [h_co] at H_co u_co
 try rw [h_co]
 obtain ⟨u1_co, u2_co⟩ := u_co
 clear h_co
 obtain ⟨fi, h_fi⟩ : ∃ y, f.fi = y := ⟨_, rfl⟩
 rw [h_fi] at H_fi u_fi
 try rw [h_fi]
 obtain ⟨u1_fi, u2_fi⟩ := u_fi
 clear h_fi
 obtain ⟨b1, hb1⟩ : ∃ b, (inB st && inB co) = b := ⟨_, rfl⟩
 rw [hb1]
 have Hb1 := Qh hb1
 clear hb1
 clear hwf h hR hRF
 go_enter Try.func27, Try.ntmps27
 go_upto_region 1 with fail
 change Code.wp _ _ _ _ (w.alloc (.cells RF.toArray 39))
 have HB := Qh (Below.refl w.heap.size w)
 have hb := (Below.refl w.heap.size w).alloc (Nat.le_refl _) (.cells RF.toArray 39)
 replace HB := Qh (bl_next HB.out HB.out.size hb)
 have HF := Qh (heap_alloc_new w (.cells RF.toArray 39))
 clear hb
 generalize w.alloc (.cells RF.toArray 39) = w1 at HB HF ⊢
 obtain ⟨gf, hg⟩ : ∃ g, w.heap.size = g := ⟨_, rfl⟩
 rw [hg] at HF ⊢
 clear hg
 have c0 := cell_row HF.out 0 _ H0.out
 have c_st := cell_row HF.out 1 _ H_st.out
 have c_co := cell_row HF.out 6 _ H_co.out
 have c_fi := cell_row HF.out 7 _ H_fi.out
 have hin := in_any (w1.alloc (.cells ([.int .u64 st, .int .u64 co] : List Value).toArray 34)) (some ⟨w1.heap.size, 0, none⟩) 2 2 [st, co] (IntsK.of_row (zs := [st, co]) (heap_alloc_new _ _) (fun x hx => by simp only [List.mem_cons, List.not_mem_nil, or_false] at hx; rcases hx with rfl | rfl <;> exact wf_u64r (by omega) (by omega))) (by omega)
 rw [show ([st, co].all inB) = b1 by rw [← Hb1.out]; simp] at hin
 have HIN := Qh hin
 clear hin
 go_wp2_with fail
 refine Calls.mono HIN.out ?_
 rintro e wq ⟨rfl, rfl⟩
 clear HIN
 clear c0 c_st c_co c_fi
 have hb := (Below.refl w1.heap.size w1).alloc (Nat.le_refl _) (.cells ([.int .u64 st, .int .u64 co] : List Value).toArray 34)
 replace HB := Qh (bl_next HB.out HB.out.size hb)
 replace HF := Qh (bl_row hb (lt_of_block HF.out) HF.out)
 have HGb1 := Qh (heap_alloc_new w1 (.cells ([.int .u64 st, .int .u64 co] : List Value).toArray 34))
 clear hb
 generalize w1.alloc (.cells ([.int .u64 st, .int .u64 co] : List Value).toArray 34) = w2 at HB HF HGb1 ⊢
 obtain ⟨gb1, hg⟩ : ∃ g, w1.heap.size = g := ⟨_, rfl⟩
 rw [hg] at HGb1 ⊢
 clear hg
 have c0 := cell_row HF.out 0 _ H0.out
 have c_st := cell_row HF.out 1 _ H_st.out
 have c_co := cell_row HF.out 6 _ H_co.out
 have c_fi := cell_row HF.out 7 _ H_fi.out
 cases b1
 ·
  go_wp2_with fail
  go_ret
  exact ⟨by first | rfl | (simp; done) | (simp; omega), HB.out⟩
 ·
  go_wp2_with fail
  go_ret
  exact ⟨by first | rfl | (simp; done) | (simp; omega), HB.out⟩
theorem right4_5 (w : World) (f : Fr) (dv rv : Value) (h : FrAt w f dv rv) (hk : f.kind = 5) :
  Calls Try.prog 27 #[.agg (f.cells dv rv).toArray] w fun e w' => e = .returned (.bool (rightB f)) ∧ Below w.heap.size w w' := by
 have hR : rightB f = (inB f.st && inB f.co) := by unfold rightB; simp [hk]
 rw [hR]
 have hwf := h.wf
 have HRF : Hid ((f.cells dv rv).length = 19) := Qh (Fr.len hwf)
 have H0 : Hid ((f.cells dv rv)[0]? = some (.int .i64 5)) := Qh (by rw [← hk]; rfl)
 have H_st : Hid ((f.cells dv rv)[1]? = some (.int .u64 f.st)) := Qh rfl
 have u_st := hwf.st
 simp only [U64] at u_st
 have H_co : Hid ((f.cells dv rv)[6]? = some (.int .u64 f.co)) := Qh rfl
 have u_co := hwf.co
 simp only [U64] at u_co
 obtain ⟨RF, hRF⟩ : ∃ R, f.cells dv rv = R := ⟨_, rfl⟩
 simp only [hRF] at HRF H0 H_st H_co
 rw [hRF]
 obtain ⟨st, h_st⟩ : ∃ y, f.st = y := ⟨_, rfl⟩
 rw [h_st] at H_st u_st
 try rw [h_st]
 obtain ⟨u1_st, u2_st⟩ := u_st
 clear h_st
 obtain ⟨co, h_co⟩ : ∃ y, f.co = y := ⟨_, rfl⟩
 rw [h_co] at H_co u_co
 try rw [h_co]
 obtain ⟨u1_co, u2_co⟩ := u_co
 clear h_co
 obtain ⟨b1, hb1⟩ : ∃ b, (inB st && inB co) = b := ⟨_, rfl⟩
 rw [hb1]
 have Hb1 := Qh hb1
 clear hb1
 clear hwf h hR hRF
 go_enter Try.func27, Try.ntmps27
 go_upto_region 1 with fail
 change Code.wp _ _ _ _ (w.alloc (.cells RF.toArray 39))
 have HB := Qh (Below.refl w.heap.size w)
 have hb := (Below.refl w.heap.size w).alloc (Nat.le_refl _) (.cells RF.toArray 39)
 replace HB := Qh (bl_next HB.out HB.out.size hb)
 have HF := Qh (heap_alloc_new w (.cells RF.toArray 39))
 clear hb
 generalize w.alloc (.cells RF.toArray 39) = w1 at HB HF ⊢
 obtain ⟨gf, hg⟩ : ∃ g, w.heap.size = g := ⟨_, rfl⟩
 rw [hg] at HF ⊢
 clear hg
 have c0 := cell_row HF.out 0 _ H0.out
 have c_st := cell_row HF.out 1 _ H_st.out
 have c_co := cell_row HF.out 6 _ H_co.out
 have hin := in_any (w1.alloc (.cells ([.int .u64 st, .int .u64 co] : List Value).toArray 34)) (some ⟨w1.heap.size, 0, none⟩) 2 2 [st, co] (IntsK.of_row (zs := [st, co]) (heap_alloc_new _ _) (fun x hx => by simp only [List.mem_cons, List.not_mem_nil, or_false] at hx; rcases hx with rfl | rfl <;> exact wf_u64r (by omega) (by omega))) (by omega)
 rw [show ([st, co].all inB) = b1 by rw [← Hb1.out]; simp] at hin
 have HIN := Qh hin
 clear hin
 go_wp2_with fail
 refine Calls.mono HIN.out ?_
 rintro e wq ⟨rfl, rfl⟩
 clear HIN
 clear c0 c_st c_co
 have hb := (Below.refl w1.heap.size w1).alloc (Nat.le_refl _) (.cells ([.int .u64 st, .int .u64 co] : List Value).toArray 34)
 replace HB := Qh (bl_next HB.out HB.out.size hb)
 replace HF := Qh (bl_row hb (lt_of_block HF.out) HF.out)
 have HGb1 := Qh (heap_alloc_new w1 (.cells ([.int .u64 st, .int .u64 co] : List Value).toArray 34))
 clear hb
 generalize w1.alloc (.cells ([.int .u64 st, .int .u64 co] : List Value).toArray 34) = w2 at HB HF HGb1 ⊢
 obtain ⟨gb1, hg⟩ : ∃ g, w1.heap.size = g := ⟨_, rfl⟩
 rw [hg] at HGb1 ⊢
 clear hg
 have c0 := cell_row HF.out 0 _ H0.out
 have c_st := cell_row HF.out 1 _ H_st.out
 have c_co := cell_row HF.out 6 _ H_co.out
 cases b1
 ·
  go_wp2_with fail
  go_ret
  exact ⟨by first | rfl | (simp; done) | (simp; omega), HB.out⟩
 ·
  go_wp2_with fail
  go_ret
  exact ⟨by first | rfl | (simp; done) | (simp; omega), HB.out⟩
theorem right4_6 (w : World) (f : Fr) (dv rv : Value) (h : FrAt w f dv rv) (hk : f.kind = 6) :
  Calls Try.prog 27 #[.agg (f.cells dv rv).toArray] w fun e w' => e = .returned (.bool (rightB f)) ∧ Below w.heap.size w w' := by
 have hR : rightB f = (atB f.of_ f.data.length) := by unfold rightB; simp [hk]
 rw [hR]
 have hwf := h.wf
 obtain ⟨da, dn, dc, rfl, hd1, hd2, hd⟩ := h.d
 have hdn : f.data.length = dn := hd.1
 rw [hdn]
 have hd0 : dn ≤ 9223372036854775807 := by omega
 have HRF : Hid ((f.cells (.slice da dn dc) rv).length = 19) := Qh (Fr.len hwf)
 have H0 : Hid ((f.cells (.slice da dn dc) rv)[0]? = some (.int .i64 6)) := Qh (by rw [← hk]; rfl)
 have H_of_ : Hid ((f.cells (.slice da dn dc) rv)[2]? = some (.int .u64 f.of_)) := Qh rfl
 have u_of_ := hwf.of_
 simp only [U64] at u_of_
 have H_d : Hid ((f.cells (.slice da dn dc) rv)[3]? = some (.slice da dn dc)) := Qh rfl
 obtain ⟨RF, hRF⟩ : ∃ R, f.cells (.slice da dn dc) rv = R := ⟨_, rfl⟩
 simp only [hRF] at HRF H0 H_of_ H_d
 rw [hRF]
 obtain ⟨of_, h_of_⟩ : ∃ y, f.of_ = y := ⟨_, rfl⟩
 rw [h_of_] at H_of_ u_of_
 try rw [h_of_]
 obtain ⟨u1_of_, u2_of_⟩ := u_of_
 clear h_of_
 obtain ⟨b1, hb1⟩ : ∃ b, (atB of_ dn) = b := ⟨_, rfl⟩
 rw [hb1]
 have Hb1 := Qh hb1
 clear hb1
 clear hwf h hR hRF hdn hd
 go_enter Try.func27, Try.ntmps27
 go_upto_region 1 with fail
 change Code.wp _ _ _ _ (w.alloc (.cells RF.toArray 39))
 have HB := Qh (Below.refl w.heap.size w)
 have hb := (Below.refl w.heap.size w).alloc (Nat.le_refl _) (.cells RF.toArray 39)
 replace HB := Qh (bl_next HB.out HB.out.size hb)
 have HF := Qh (heap_alloc_new w (.cells RF.toArray 39))
 clear hb
 generalize w.alloc (.cells RF.toArray 39) = w1 at HB HF ⊢
 obtain ⟨gf, hg⟩ : ∃ g, w.heap.size = g := ⟨_, rfl⟩
 rw [hg] at HF ⊢
 clear hg
 have c0 := cell_row HF.out 0 _ H0.out
 have c_of_ := cell_row HF.out 2 _ H_of_.out
 have c_d := cell_row HF.out 3 _ H_d.out
 have hat := at4_any w1 of_ da dn dc ⟨u1_of_, u2_of_⟩ ⟨hd1, hd2⟩
 rw [Hb1.out] at hat
 have HAT := Qh hat
 clear hat
 go_wp2_with fail
 refine Calls.mono HAT.out ?_
 rintro e wq ⟨rfl, rfl⟩
 go_wp2_with fail
 go_ret
 exact ⟨by first | rfl | (simp; done) | (simp; omega), HB.out⟩
theorem right4_8 (w : World) (f : Fr) (dv rv : Value) (h : FrAt w f dv rv) (hk : f.kind = 8) :
  Calls Try.prog 27 #[.agg (f.cells dv rv).toArray] w fun e w' => e = .returned (.bool (rightB f)) ∧ Below w.heap.size w w' := by
 have hR : rightB f = (inB f.st && atB f.of_ f.data.length) := by unfold rightB; simp [hk]
 rw [hR]
 have hwf := h.wf
 obtain ⟨da, dn, dc, rfl, hd1, hd2, hd⟩ := h.d
 have hdn : f.data.length = dn := hd.1
 rw [hdn]
 have hd0 : dn ≤ 9223372036854775807 := by omega
 have HRF : Hid ((f.cells (.slice da dn dc) rv).length = 19) := Qh (Fr.len hwf)
 have H0 : Hid ((f.cells (.slice da dn dc) rv)[0]? = some (.int .i64 8)) := Qh (by rw [← hk]; rfl)
 have H_st : Hid ((f.cells (.slice da dn dc) rv)[1]? = some (.int .u64 f.st)) := Qh rfl
 have u_st := hwf.st
 simp only [U64] at u_st
 have H_of_ : Hid ((f.cells (.slice da dn dc) rv)[2]? = some (.int .u64 f.of_)) := Qh rfl
 have u_of_ := hwf.of_
 simp only [U64] at u_of_
 have H_d : Hid ((f.cells (.slice da dn dc) rv)[3]? = some (.slice da dn dc)) := Qh rfl
 obtain ⟨RF, hRF⟩ : ∃ R, f.cells (.slice da dn dc) rv = R := ⟨_, rfl⟩
 simp only [hRF] at HRF H0 H_st H_of_ H_d
 rw [hRF]
 obtain ⟨st, h_st⟩ : ∃ y, f.st = y := ⟨_, rfl⟩
 rw [h_st] at H_st u_st
 try rw [h_st]
 obtain ⟨u1_st, u2_st⟩ := u_st
 clear h_st
 obtain ⟨of_, h_of_⟩ : ∃ y, f.of_ = y := ⟨_, rfl⟩
 rw [h_of_] at H_of_ u_of_
 try rw [h_of_]
 obtain ⟨u1_of_, u2_of_⟩ := u_of_
 clear h_of_
 obtain ⟨b1, hb1⟩ : ∃ b, (inB st) = b := ⟨_, rfl⟩
 rw [hb1]
 have Hb1 := Qh hb1
 clear hb1
 obtain ⟨b2, hb2⟩ : ∃ b, (atB of_ dn) = b := ⟨_, rfl⟩
 rw [hb2]
 have Hb2 := Qh hb2
 clear hb2
 clear hwf h hR hRF hdn hd
 go_enter Try.func27, Try.ntmps27
 go_upto_region 1 with fail
 change Code.wp _ _ _ _ (w.alloc (.cells RF.toArray 39))
 have HB := Qh (Below.refl w.heap.size w)
 have hb := (Below.refl w.heap.size w).alloc (Nat.le_refl _) (.cells RF.toArray 39)
 replace HB := Qh (bl_next HB.out HB.out.size hb)
 have HF := Qh (heap_alloc_new w (.cells RF.toArray 39))
 clear hb
 generalize w.alloc (.cells RF.toArray 39) = w1 at HB HF ⊢
 obtain ⟨gf, hg⟩ : ∃ g, w.heap.size = g := ⟨_, rfl⟩
 rw [hg] at HF ⊢
 clear hg
 have c0 := cell_row HF.out 0 _ H0.out
 have c_st := cell_row HF.out 1 _ H_st.out
 have c_of_ := cell_row HF.out 2 _ H_of_.out
 have c_d := cell_row HF.out 3 _ H_d.out
 have hin := in_any (w1.alloc (.cells ([.int .u64 st] : List Value).toArray 34)) (some ⟨w1.heap.size, 0, none⟩) 1 1 [st] (IntsK.of_row (zs := [st]) (heap_alloc_new _ _) (fun x hx => by simp only [List.mem_cons, List.not_mem_nil, or_false] at hx; subst hx; exact wf_u64r (by omega) (by omega))) (by omega)
 rw [show ([st].all inB) = b1 by rw [← Hb1.out]; simp] at hin
 have HIN := Qh hin
 clear hin
 go_wp2_with fail
 refine Calls.mono HIN.out ?_
 rintro e wq ⟨rfl, rfl⟩
 clear HIN
 clear c0 c_st c_of_ c_d
 have hb := (Below.refl w1.heap.size w1).alloc (Nat.le_refl _) (.cells ([.int .u64 st] : List Value).toArray 34)
 replace HB := Qh (bl_next HB.out HB.out.size hb)
 replace HF := Qh (bl_row hb (lt_of_block HF.out) HF.out)
 have HGb1 := Qh (heap_alloc_new w1 (.cells ([.int .u64 st] : List Value).toArray 34))
 clear hb
 generalize w1.alloc (.cells ([.int .u64 st] : List Value).toArray 34) = w2 at HB HF HGb1 ⊢
 obtain ⟨gb1, hg⟩ : ∃ g, w1.heap.size = g := ⟨_, rfl⟩
 rw [hg] at HGb1 ⊢
 clear hg
 have c0 := cell_row HF.out 0 _ H0.out
 have c_st := cell_row HF.out 1 _ H_st.out
 have c_of_ := cell_row HF.out 2 _ H_of_.out
 have c_d := cell_row HF.out 3 _ H_d.out
 have hat := at4_any w2 of_ da dn dc ⟨u1_of_, u2_of_⟩ ⟨hd1, hd2⟩
 rw [Hb2.out] at hat
 have HAT := Qh hat
 clear hat
 cases b1
 ·
  go_wp2_with fail
  go_ret
  exact ⟨by first | rfl | (simp; done) | (simp; omega), HB.out⟩
 ·
  go_wp2_with fail
  refine Calls.mono HAT.out ?_
  rintro e wq ⟨rfl, rfl⟩
  go_wp2_with fail
  go_ret
  exact ⟨by first | rfl | (simp; done) | (simp; omega), HB.out⟩
theorem right4_16 (w : World) (f : Fr) (dv rv : Value) (h : FrAt w f dv rv) (hk : f.kind = 16) :
  Calls Try.prog 27 #[.agg (f.cells dv rv).toArray] w fun e w' => e = .returned (.bool (rightB f)) ∧ Below w.heap.size w w' := by
 have hR : rightB f = (decide (f.li ≤ 1099511627776)) := by unfold rightB; simp [hk]
 rw [hR]
 have hwf := h.wf
 have HRF : Hid ((f.cells dv rv).length = 19) := Qh (Fr.len hwf)
 have H0 : Hid ((f.cells dv rv)[0]? = some (.int .i64 16)) := Qh (by rw [← hk]; rfl)
 have H_li : Hid ((f.cells dv rv)[5]? = some (.int .u64 f.li)) := Qh rfl
 have u_li := hwf.li
 simp only [U64] at u_li
 obtain ⟨RF, hRF⟩ : ∃ R, f.cells dv rv = R := ⟨_, rfl⟩
 simp only [hRF] at HRF H0 H_li
 rw [hRF]
 obtain ⟨li, h_li⟩ : ∃ y, f.li = y := ⟨_, rfl⟩
 rw [h_li] at H_li u_li
 try rw [h_li]
 obtain ⟨u1_li, u2_li⟩ := u_li
 clear h_li
 clear hwf h hR hRF
 go_enter Try.func27, Try.ntmps27
 go_upto_region 1 with fail
 change Code.wp _ _ _ _ (w.alloc (.cells RF.toArray 39))
 have HB := Qh (Below.refl w.heap.size w)
 have hb := (Below.refl w.heap.size w).alloc (Nat.le_refl _) (.cells RF.toArray 39)
 replace HB := Qh (bl_next HB.out HB.out.size hb)
 have HF := Qh (heap_alloc_new w (.cells RF.toArray 39))
 clear hb
 generalize w.alloc (.cells RF.toArray 39) = w1 at HB HF ⊢
 obtain ⟨gf, hg⟩ : ∃ g, w.heap.size = g := ⟨_, rfl⟩
 rw [hg] at HF ⊢
 clear hg
 have c0 := cell_row HF.out 0 _ H0.out
 have c_li := cell_row HF.out 5 _ H_li.out
 go_wp2_with fail
 go_ret
 exact ⟨by first | rfl | (simp; done) | (simp; omega), HB.out⟩
theorem right4_17 (w : World) (f : Fr) (dv rv : Value) (h : FrAt w f dv rv) (hk : f.kind = 17) :
  Calls Try.prog 27 #[.agg (f.cells dv rv).toArray] w fun e w' => e = .returned (.bool (rightB f)) ∧ Below w.heap.size w w' := by
 have hR : rightB f = (inB f.st && decide (f.li ≤ 1099511627776)) := by unfold rightB; simp [hk]
 rw [hR]
 have hwf := h.wf
 have HRF : Hid ((f.cells dv rv).length = 19) := Qh (Fr.len hwf)
 have H0 : Hid ((f.cells dv rv)[0]? = some (.int .i64 17)) := Qh (by rw [← hk]; rfl)
 have H_st : Hid ((f.cells dv rv)[1]? = some (.int .u64 f.st)) := Qh rfl
 have u_st := hwf.st
 simp only [U64] at u_st
 have H_li : Hid ((f.cells dv rv)[5]? = some (.int .u64 f.li)) := Qh rfl
 have u_li := hwf.li
 simp only [U64] at u_li
 obtain ⟨RF, hRF⟩ : ∃ R, f.cells dv rv = R := ⟨_, rfl⟩
 simp only [hRF] at HRF H0 H_st H_li
 rw [hRF]
 obtain ⟨st, h_st⟩ : ∃ y, f.st = y := ⟨_, rfl⟩
 rw [h_st] at H_st u_st
 try rw [h_st]
 obtain ⟨u1_st, u2_st⟩ := u_st
 clear h_st
 obtain ⟨li, h_li⟩ : ∃ y, f.li = y := ⟨_, rfl⟩
 rw [h_li] at H_li u_li
 try rw [h_li]
 obtain ⟨u1_li, u2_li⟩ := u_li
 clear h_li
 obtain ⟨b1, hb1⟩ : ∃ b, (inB st) = b := ⟨_, rfl⟩
 rw [hb1]
 have Hb1 := Qh hb1
 clear hb1
 clear hwf h hR hRF
 go_enter Try.func27, Try.ntmps27
 go_upto_region 1 with fail
 change Code.wp _ _ _ _ (w.alloc (.cells RF.toArray 39))
 have HB := Qh (Below.refl w.heap.size w)
 have hb := (Below.refl w.heap.size w).alloc (Nat.le_refl _) (.cells RF.toArray 39)
 replace HB := Qh (bl_next HB.out HB.out.size hb)
 have HF := Qh (heap_alloc_new w (.cells RF.toArray 39))
 clear hb
 generalize w.alloc (.cells RF.toArray 39) = w1 at HB HF ⊢
 obtain ⟨gf, hg⟩ : ∃ g, w.heap.size = g := ⟨_, rfl⟩
 rw [hg] at HF ⊢
 clear hg
 have c0 := cell_row HF.out 0 _ H0.out
 have c_st := cell_row HF.out 1 _ H_st.out
 have c_li := cell_row HF.out 5 _ H_li.out
 have hin := in_any (w1.alloc (.cells ([.int .u64 st] : List Value).toArray 34)) (some ⟨w1.heap.size, 0, none⟩) 1 1 [st] (IntsK.of_row (zs := [st]) (heap_alloc_new _ _) (fun x hx => by simp only [List.mem_cons, List.not_mem_nil, or_false] at hx; subst hx; exact wf_u64r (by omega) (by omega))) (by omega)
 rw [show ([st].all inB) = b1 by rw [← Hb1.out]; simp] at hin
 have HIN := Qh hin
 clear hin
 go_wp2_with fail
 refine Calls.mono HIN.out ?_
 rintro e wq ⟨rfl, rfl⟩
 clear HIN
 clear c0 c_st c_li
 have hb := (Below.refl w1.heap.size w1).alloc (Nat.le_refl _) (.cells ([.int .u64 st] : List Value).toArray 34)
 replace HB := Qh (bl_next HB.out HB.out.size hb)
 replace HF := Qh (bl_row hb (lt_of_block HF.out) HF.out)
 have HGb1 := Qh (heap_alloc_new w1 (.cells ([.int .u64 st] : List Value).toArray 34))
 clear hb
 generalize w1.alloc (.cells ([.int .u64 st] : List Value).toArray 34) = w2 at HB HF HGb1 ⊢
 obtain ⟨gb1, hg⟩ : ∃ g, w1.heap.size = g := ⟨_, rfl⟩
 rw [hg] at HGb1 ⊢
 clear hg
 have c0 := cell_row HF.out 0 _ H0.out
 have c_st := cell_row HF.out 1 _ H_st.out
 have c_li := cell_row HF.out 5 _ H_li.out
 cases b1
 ·
  go_wp2_with fail
  go_ret
  exact ⟨by first | rfl | (simp; done) | (simp; omega), HB.out⟩
 ·
  go_wp2_with fail
  go_ret
  exact ⟨by first | rfl | (simp; done) | (simp; omega), HB.out⟩
theorem right4_18 (w : World) (f : Fr) (dv rv : Value) (h : FrAt w f dv rv) (hk : f.kind = 18) :
  Calls Try.prog 27 #[.agg (f.cells dv rv).toArray] w fun e w' => e = .returned (.bool (rightB f)) ∧ Below w.heap.size w w' := by
 have hR : rightB f = (decide (f.li ≤ 1048576)) := by unfold rightB; simp [hk]
 rw [hR]
 have hwf := h.wf
 have HRF : Hid ((f.cells dv rv).length = 19) := Qh (Fr.len hwf)
 have H0 : Hid ((f.cells dv rv)[0]? = some (.int .i64 18)) := Qh (by rw [← hk]; rfl)
 have H_li : Hid ((f.cells dv rv)[5]? = some (.int .u64 f.li)) := Qh rfl
 have u_li := hwf.li
 simp only [U64] at u_li
 obtain ⟨RF, hRF⟩ : ∃ R, f.cells dv rv = R := ⟨_, rfl⟩
 simp only [hRF] at HRF H0 H_li
 rw [hRF]
 obtain ⟨li, h_li⟩ : ∃ y, f.li = y := ⟨_, rfl⟩
 rw [h_li] at H_li u_li
 try rw [h_li]
 obtain ⟨u1_li, u2_li⟩ := u_li
 clear h_li
 clear hwf h hR hRF
 go_enter Try.func27, Try.ntmps27
 go_upto_region 1 with fail
 change Code.wp _ _ _ _ (w.alloc (.cells RF.toArray 39))
 have HB := Qh (Below.refl w.heap.size w)
 have hb := (Below.refl w.heap.size w).alloc (Nat.le_refl _) (.cells RF.toArray 39)
 replace HB := Qh (bl_next HB.out HB.out.size hb)
 have HF := Qh (heap_alloc_new w (.cells RF.toArray 39))
 clear hb
 generalize w.alloc (.cells RF.toArray 39) = w1 at HB HF ⊢
 obtain ⟨gf, hg⟩ : ∃ g, w.heap.size = g := ⟨_, rfl⟩
 rw [hg] at HF ⊢
 clear hg
 have c0 := cell_row HF.out 0 _ H0.out
 have c_li := cell_row HF.out 5 _ H_li.out
 go_wp2_with fail
 go_ret
 exact ⟨by first | rfl | (simp; done) | (simp; omega), HB.out⟩
theorem right4_20 (w : World) (f : Fr) (dv rv : Value) (h : FrAt w f dv rv) (hk : f.kind = 20) :
  Calls Try.prog 27 #[.agg (f.cells dv rv).toArray] w fun e w' => e = .returned (.bool (rightB f)) ∧ Below w.heap.size w w' := by
 have hR : rightB f = (inB f.li) := by unfold rightB; simp [hk]
 rw [hR]
 have hwf := h.wf
 have HRF : Hid ((f.cells dv rv).length = 19) := Qh (Fr.len hwf)
 have H0 : Hid ((f.cells dv rv)[0]? = some (.int .i64 20)) := Qh (by rw [← hk]; rfl)
 have H_li : Hid ((f.cells dv rv)[5]? = some (.int .u64 f.li)) := Qh rfl
 have u_li := hwf.li
 simp only [U64] at u_li
 obtain ⟨RF, hRF⟩ : ∃ R, f.cells dv rv = R := ⟨_, rfl⟩
 simp only [hRF] at HRF H0 H_li
 rw [hRF]
 obtain ⟨li, h_li⟩ : ∃ y, f.li = y := ⟨_, rfl⟩
 rw [h_li] at H_li u_li
 try rw [h_li]
 obtain ⟨u1_li, u2_li⟩ := u_li
 clear h_li
 obtain ⟨b1, hb1⟩ : ∃ b, (inB li) = b := ⟨_, rfl⟩
 rw [hb1]
 have Hb1 := Qh hb1
 clear hb1
 clear hwf h hR hRF
 go_enter Try.func27, Try.ntmps27
 go_upto_region 1 with fail
 change Code.wp _ _ _ _ (w.alloc (.cells RF.toArray 39))
 have HB := Qh (Below.refl w.heap.size w)
 have hb := (Below.refl w.heap.size w).alloc (Nat.le_refl _) (.cells RF.toArray 39)
 replace HB := Qh (bl_next HB.out HB.out.size hb)
 have HF := Qh (heap_alloc_new w (.cells RF.toArray 39))
 clear hb
 generalize w.alloc (.cells RF.toArray 39) = w1 at HB HF ⊢
 obtain ⟨gf, hg⟩ : ∃ g, w.heap.size = g := ⟨_, rfl⟩
 rw [hg] at HF ⊢
 clear hg
 have c0 := cell_row HF.out 0 _ H0.out
 have c_li := cell_row HF.out 5 _ H_li.out
 have hin := in_any (w1.alloc (.cells ([.int .u64 li] : List Value).toArray 34)) (some ⟨w1.heap.size, 0, none⟩) 1 1 [li] (IntsK.of_row (zs := [li]) (heap_alloc_new _ _) (fun x hx => by simp only [List.mem_cons, List.not_mem_nil, or_false] at hx; subst hx; exact wf_u64r (by omega) (by omega))) (by omega)
 rw [show ([li].all inB) = b1 by rw [← Hb1.out]; simp] at hin
 have HIN := Qh hin
 clear hin
 go_wp2_with fail
 refine Calls.mono HIN.out ?_
 rintro e wq ⟨rfl, rfl⟩
 clear HIN
 clear c0 c_li
 have hb := (Below.refl w1.heap.size w1).alloc (Nat.le_refl _) (.cells ([.int .u64 li] : List Value).toArray 34)
 replace HB := Qh (bl_next HB.out HB.out.size hb)
 replace HF := Qh (bl_row hb (lt_of_block HF.out) HF.out)
 have HGb1 := Qh (heap_alloc_new w1 (.cells ([.int .u64 li] : List Value).toArray 34))
 clear hb
 generalize w1.alloc (.cells ([.int .u64 li] : List Value).toArray 34) = w2 at HB HF HGb1 ⊢
 obtain ⟨gb1, hg⟩ : ∃ g, w1.heap.size = g := ⟨_, rfl⟩
 rw [hg] at HGb1 ⊢
 clear hg
 have c0 := cell_row HF.out 0 _ H0.out
 have c_li := cell_row HF.out 5 _ H_li.out
 cases b1
 ·
  go_wp2_with fail
  go_ret
  exact ⟨by first | rfl | (simp; done) | (simp; omega), HB.out⟩
 ·
  go_wp2_with fail
  go_ret
  exact ⟨by first | rfl | (simp; done) | (simp; omega), HB.out⟩
theorem right4_24 (w : World) (f : Fr) (dv rv : Value) (h : FrAt w f dv rv) (hk : f.kind = 24) :
  Calls Try.prog 27 #[.agg (f.cells dv rv).toArray] w fun e w' => e = .returned (.bool (rightB f)) ∧ Below w.heap.size w w' := by
 have hR : rightB f = (inB f.se && decide (f.li ≤ f.se)) := by unfold rightB; simp [hk]
 rw [hR]
 have hwf := h.wf
 have HRF : Hid ((f.cells dv rv).length = 19) := Qh (Fr.len hwf)
 have H0 : Hid ((f.cells dv rv)[0]? = some (.int .i64 24)) := Qh (by rw [← hk]; rfl)
 have H_se : Hid ((f.cells dv rv)[8]? = some (.int .u64 f.se)) := Qh rfl
 have u_se := hwf.se
 simp only [U64] at u_se
 have H_li : Hid ((f.cells dv rv)[5]? = some (.int .u64 f.li)) := Qh rfl
 have u_li := hwf.li
 simp only [U64] at u_li
 obtain ⟨RF, hRF⟩ : ∃ R, f.cells dv rv = R := ⟨_, rfl⟩
 simp only [hRF] at HRF H0 H_se H_li
 rw [hRF]
 obtain ⟨se, h_se⟩ : ∃ y, f.se = y := ⟨_, rfl⟩
 rw [h_se] at H_se u_se
 try rw [h_se]
 obtain ⟨u1_se, u2_se⟩ := u_se
 clear h_se
 obtain ⟨li, h_li⟩ : ∃ y, f.li = y := ⟨_, rfl⟩
 rw [h_li] at H_li u_li
 try rw [h_li]
 obtain ⟨u1_li, u2_li⟩ := u_li
 clear h_li
 obtain ⟨b1, hb1⟩ : ∃ b, (inB se) = b := ⟨_, rfl⟩
 rw [hb1]
 have Hb1 := Qh hb1
 clear hb1
 clear hwf h hR hRF
 go_enter Try.func27, Try.ntmps27
 go_upto_region 1 with fail
 change Code.wp _ _ _ _ (w.alloc (.cells RF.toArray 39))
 have HB := Qh (Below.refl w.heap.size w)
 have hb := (Below.refl w.heap.size w).alloc (Nat.le_refl _) (.cells RF.toArray 39)
 replace HB := Qh (bl_next HB.out HB.out.size hb)
 have HF := Qh (heap_alloc_new w (.cells RF.toArray 39))
 clear hb
 generalize w.alloc (.cells RF.toArray 39) = w1 at HB HF ⊢
 obtain ⟨gf, hg⟩ : ∃ g, w.heap.size = g := ⟨_, rfl⟩
 rw [hg] at HF ⊢
 clear hg
 have c0 := cell_row HF.out 0 _ H0.out
 have c_se := cell_row HF.out 8 _ H_se.out
 have c_li := cell_row HF.out 5 _ H_li.out
 have hin := in_any (w1.alloc (.cells ([.int .u64 se] : List Value).toArray 34)) (some ⟨w1.heap.size, 0, none⟩) 1 1 [se] (IntsK.of_row (zs := [se]) (heap_alloc_new _ _) (fun x hx => by simp only [List.mem_cons, List.not_mem_nil, or_false] at hx; subst hx; exact wf_u64r (by omega) (by omega))) (by omega)
 rw [show ([se].all inB) = b1 by rw [← Hb1.out]; simp] at hin
 have HIN := Qh hin
 clear hin
 go_wp2_with fail
 refine Calls.mono HIN.out ?_
 rintro e wq ⟨rfl, rfl⟩
 clear HIN
 clear c0 c_se c_li
 have hb := (Below.refl w1.heap.size w1).alloc (Nat.le_refl _) (.cells ([.int .u64 se] : List Value).toArray 34)
 replace HB := Qh (bl_next HB.out HB.out.size hb)
 replace HF := Qh (bl_row hb (lt_of_block HF.out) HF.out)
 have HGb1 := Qh (heap_alloc_new w1 (.cells ([.int .u64 se] : List Value).toArray 34))
 clear hb
 generalize w1.alloc (.cells ([.int .u64 se] : List Value).toArray 34) = w2 at HB HF HGb1 ⊢
 obtain ⟨gb1, hg⟩ : ∃ g, w1.heap.size = g := ⟨_, rfl⟩
 rw [hg] at HGb1 ⊢
 clear hg
 have c0 := cell_row HF.out 0 _ H0.out
 have c_se := cell_row HF.out 8 _ H_se.out
 have c_li := cell_row HF.out 5 _ H_li.out
 cases b1
 ·
  go_wp2_with fail
  go_ret
  exact ⟨by first | rfl | (simp; done) | (simp; omega), HB.out⟩
 ·
  go_wp2_with fail
  go_ret
  exact ⟨by first | rfl | (simp; done) | (simp; omega), HB.out⟩
theorem right4_25 (w : World) (f : Fr) (dv rv : Value) (h : FrAt w f dv rv) (hk : f.kind = 25) :
  Calls Try.prog 27 #[.agg (f.cells dv rv).toArray] w fun e w' => e = .returned (.bool (rightB f)) ∧ Below w.heap.size w w' := by
 have hR : rightB f = (inB f.se) := by unfold rightB; simp [hk]
 rw [hR]
 have hwf := h.wf
 have HRF : Hid ((f.cells dv rv).length = 19) := Qh (Fr.len hwf)
 have H0 : Hid ((f.cells dv rv)[0]? = some (.int .i64 25)) := Qh (by rw [← hk]; rfl)
 have H_se : Hid ((f.cells dv rv)[8]? = some (.int .u64 f.se)) := Qh rfl
 have u_se := hwf.se
 simp only [U64] at u_se
 obtain ⟨RF, hRF⟩ : ∃ R, f.cells dv rv = R := ⟨_, rfl⟩
 simp only [hRF] at HRF H0 H_se
 rw [hRF]
 obtain ⟨se, h_se⟩ : ∃ y, f.se = y := ⟨_, rfl⟩
 rw [h_se] at H_se u_se
 try rw [h_se]
 obtain ⟨u1_se, u2_se⟩ := u_se
 clear h_se
 obtain ⟨b1, hb1⟩ : ∃ b, (inB se) = b := ⟨_, rfl⟩
 rw [hb1]
 have Hb1 := Qh hb1
 clear hb1
 clear hwf h hR hRF
 go_enter Try.func27, Try.ntmps27
 go_upto_region 1 with fail
 change Code.wp _ _ _ _ (w.alloc (.cells RF.toArray 39))
 have HB := Qh (Below.refl w.heap.size w)
 have hb := (Below.refl w.heap.size w).alloc (Nat.le_refl _) (.cells RF.toArray 39)
 replace HB := Qh (bl_next HB.out HB.out.size hb)
 have HF := Qh (heap_alloc_new w (.cells RF.toArray 39))
 clear hb
 generalize w.alloc (.cells RF.toArray 39) = w1 at HB HF ⊢
 obtain ⟨gf, hg⟩ : ∃ g, w.heap.size = g := ⟨_, rfl⟩
 rw [hg] at HF ⊢
 clear hg
 have c0 := cell_row HF.out 0 _ H0.out
 have c_se := cell_row HF.out 8 _ H_se.out
 have hin := in_any (w1.alloc (.cells ([.int .u64 se] : List Value).toArray 34)) (some ⟨w1.heap.size, 0, none⟩) 1 1 [se] (IntsK.of_row (zs := [se]) (heap_alloc_new _ _) (fun x hx => by simp only [List.mem_cons, List.not_mem_nil, or_false] at hx; subst hx; exact wf_u64r (by omega) (by omega))) (by omega)
 rw [show ([se].all inB) = b1 by rw [← Hb1.out]; simp] at hin
 have HIN := Qh hin
 clear hin
 go_wp2_with fail
 refine Calls.mono HIN.out ?_
 rintro e wq ⟨rfl, rfl⟩
 clear HIN
 clear c0 c_se
 have hb := (Below.refl w1.heap.size w1).alloc (Nat.le_refl _) (.cells ([.int .u64 se] : List Value).toArray 34)
 replace HB := Qh (bl_next HB.out HB.out.size hb)
 replace HF := Qh (bl_row hb (lt_of_block HF.out) HF.out)
 have HGb1 := Qh (heap_alloc_new w1 (.cells ([.int .u64 se] : List Value).toArray 34))
 clear hb
 generalize w1.alloc (.cells ([.int .u64 se] : List Value).toArray 34) = w2 at HB HF HGb1 ⊢
 obtain ⟨gb1, hg⟩ : ∃ g, w1.heap.size = g := ⟨_, rfl⟩
 rw [hg] at HGb1 ⊢
 clear hg
 have c0 := cell_row HF.out 0 _ H0.out
 have c_se := cell_row HF.out 8 _ H_se.out
 cases b1
 ·
  go_wp2_with fail
  go_ret
  exact ⟨by first | rfl | (simp; done) | (simp; omega), HB.out⟩
 ·
  go_wp2_with fail
  go_ret
  exact ⟨by first | rfl | (simp; done) | (simp; omega), HB.out⟩
theorem right4_28 (w : World) (f : Fr) (dv rv : Value) (h : FrAt w f dv rv) (hk : f.kind = 28) :
  Calls Try.prog 27 #[.agg (f.cells dv rv).toArray] w fun e w' => e = .returned (.bool (rightB f)) ∧ Below w.heap.size w w' := by
 have hR : rightB f = (inB f.co && decide (f.data.length ≤ 32)) := by unfold rightB; simp [hk]
 rw [hR]
 have hwf := h.wf
 obtain ⟨da, dn, dc, rfl, hd1, hd2, hd⟩ := h.d
 have hdn : f.data.length = dn := hd.1
 rw [hdn]
 have hd0 : dn ≤ 9223372036854775807 := by omega
 have HRF : Hid ((f.cells (.slice da dn dc) rv).length = 19) := Qh (Fr.len hwf)
 have H0 : Hid ((f.cells (.slice da dn dc) rv)[0]? = some (.int .i64 28)) := Qh (by rw [← hk]; rfl)
 have H_co : Hid ((f.cells (.slice da dn dc) rv)[6]? = some (.int .u64 f.co)) := Qh rfl
 have u_co := hwf.co
 simp only [U64] at u_co
 have H_d : Hid ((f.cells (.slice da dn dc) rv)[3]? = some (.slice da dn dc)) := Qh rfl
 obtain ⟨RF, hRF⟩ : ∃ R, f.cells (.slice da dn dc) rv = R := ⟨_, rfl⟩
 simp only [hRF] at HRF H0 H_co H_d
 rw [hRF]
 obtain ⟨co, h_co⟩ : ∃ y, f.co = y := ⟨_, rfl⟩
 rw [h_co] at H_co u_co
 try rw [h_co]
 obtain ⟨u1_co, u2_co⟩ := u_co
 clear h_co
 obtain ⟨b1, hb1⟩ : ∃ b, (inB co) = b := ⟨_, rfl⟩
 rw [hb1]
 have Hb1 := Qh hb1
 clear hb1
 clear hwf h hR hRF hdn hd
 go_enter Try.func27, Try.ntmps27
 go_upto_region 1 with fail
 change Code.wp _ _ _ _ (w.alloc (.cells RF.toArray 39))
 have HB := Qh (Below.refl w.heap.size w)
 have hb := (Below.refl w.heap.size w).alloc (Nat.le_refl _) (.cells RF.toArray 39)
 replace HB := Qh (bl_next HB.out HB.out.size hb)
 have HF := Qh (heap_alloc_new w (.cells RF.toArray 39))
 clear hb
 generalize w.alloc (.cells RF.toArray 39) = w1 at HB HF ⊢
 obtain ⟨gf, hg⟩ : ∃ g, w.heap.size = g := ⟨_, rfl⟩
 rw [hg] at HF ⊢
 clear hg
 have c0 := cell_row HF.out 0 _ H0.out
 have c_co := cell_row HF.out 6 _ H_co.out
 have c_d := cell_row HF.out 3 _ H_d.out
 have hin := in_any (w1.alloc (.cells ([.int .u64 co] : List Value).toArray 34)) (some ⟨w1.heap.size, 0, none⟩) 1 1 [co] (IntsK.of_row (zs := [co]) (heap_alloc_new _ _) (fun x hx => by simp only [List.mem_cons, List.not_mem_nil, or_false] at hx; subst hx; exact wf_u64r (by omega) (by omega))) (by omega)
 rw [show ([co].all inB) = b1 by rw [← Hb1.out]; simp] at hin
 have HIN := Qh hin
 clear hin
 go_wp2_with fail
 refine Calls.mono HIN.out ?_
 rintro e wq ⟨rfl, rfl⟩
 clear HIN
 clear c0 c_co c_d
 have hb := (Below.refl w1.heap.size w1).alloc (Nat.le_refl _) (.cells ([.int .u64 co] : List Value).toArray 34)
 replace HB := Qh (bl_next HB.out HB.out.size hb)
 replace HF := Qh (bl_row hb (lt_of_block HF.out) HF.out)
 have HGb1 := Qh (heap_alloc_new w1 (.cells ([.int .u64 co] : List Value).toArray 34))
 clear hb
 generalize w1.alloc (.cells ([.int .u64 co] : List Value).toArray 34) = w2 at HB HF HGb1 ⊢
 obtain ⟨gb1, hg⟩ : ∃ g, w1.heap.size = g := ⟨_, rfl⟩
 rw [hg] at HGb1 ⊢
 clear hg
 have c0 := cell_row HF.out 0 _ H0.out
 have c_co := cell_row HF.out 6 _ H_co.out
 have c_d := cell_row HF.out 3 _ H_d.out
 cases b1
 ·
  go_wp2_with fail
  go_ret
  exact ⟨by first | rfl | (simp; done) | (simp; omega), HB.out⟩
 ·
  go_wp2_with fail
  go_ret
  exact ⟨by first | rfl | (simp; done) | (simp; omega), HB.out⟩
theorem right4_no (w : World) (f : Fr) (dv rv : Value) (h : FrAt w f dv rv) (hk : ¬ (f.kind = 0 ∨ f.kind = 1 ∨ f.kind = 30 ∨ f.kind = 26 ∨ f.kind = 27 ∨ f.kind = 2 ∨ f.kind = 4 ∨ f.kind = 5 ∨ f.kind = 6 ∨ f.kind = 8 ∨ f.kind = 16 ∨ f.kind = 17 ∨ f.kind = 18 ∨ f.kind = 20 ∨ f.kind = 24 ∨ f.kind = 25 ∨ f.kind = 28)) :
  Calls Try.prog 27 #[.agg (f.cells dv rv).toArray] w fun e w' => e = .returned (.bool (rightB f)) ∧ Below w.heap.size w w' := by
 simp only [not_or] at hk
 have hR : rightB f = false := by unfold rightB; simp [hk]
 rw [hR]
 have hkd := h.wf.kind
 have H0 : Hid ((f.cells dv rv)[0]? = some (.int .i64 f.kind)) := Qh rfl
 obtain ⟨RF, hRF⟩ : ∃ R, f.cells dv rv = R := ⟨_, rfl⟩
 rw [hRF] at H0 ⊢
 obtain ⟨k, hkk⟩ : ∃ k, f.kind = k := ⟨_, rfl⟩
 rw [hkk] at H0 hk hkd
 obtain ⟨n0, n1, n30, n26, n27, n2, n4, n5, n6, n8, n16, n17, n18, n20, n24, n25, n28⟩ := hk
 have e0 : (k == 0) = false := by simpa using n0
 have e1 : (k == 1) = false := by simpa using n1
 have e30 : (k == 30) = false := by simpa using n30
 have e26 : (k == 26) = false := by simpa using n26
 have e27 : (k == 27) = false := by simpa using n27
 have e2 : (k == 2) = false := by simpa using n2
 have e4 : (k == 4) = false := by simpa using n4
 have e5 : (k == 5) = false := by simpa using n5
 have e6 : (k == 6) = false := by simpa using n6
 have e8 : (k == 8) = false := by simpa using n8
 have e16 : (k == 16) = false := by simpa using n16
 have e17 : (k == 17) = false := by simpa using n17
 have e18 : (k == 18) = false := by simpa using n18
 have e20 : (k == 20) = false := by simpa using n20
 have e24 : (k == 24) = false := by simpa using n24
 have e25 : (k == 25) = false := by simpa using n25
 have e28 : (k == 28) = false := by simpa using n28
 clear h hR hRF hkk n0 n1 n30 n26 n27 n2 n4 n5 n6 n8 n16 n17 n18 n20 n24 n25 n28
 have HB := Qh (Below.refl w.heap.size w)
 go_enter Try.func27, Try.ntmps27
 go_upto_region 1 with fail
 change Code.wp _ _ _ _ (w.alloc (.cells RF.toArray 39))
 have hb := (Below.refl w.heap.size w).alloc (Nat.le_refl _) (.cells RF.toArray 39)
 replace HB := Qh (bl_next HB.out HB.out.size hb)
 have HF := Qh (heap_alloc_new w (.cells RF.toArray 39))
 clear hb
 generalize w.alloc (.cells RF.toArray 39) = w1 at HB HF ⊢
 obtain ⟨gf, hg⟩ : ∃ g, w.heap.size = g := ⟨_, rfl⟩
 rw [hg] at HF ⊢
 clear hg
 have c0 := cell_row HF.out 0 _ H0.out
 go_wp2_with fail
 go_ret
 exact ⟨rfl, HB.out⟩
theorem right4_any (w : World) (f : Fr) (dv rv : Value) (h : FrAt w f dv rv) :
  Calls Try.prog 27 #[.agg (f.cells dv rv).toArray] w fun e w' => e = .returned (.bool (rightB f)) ∧ Below w.heap.size w w' := by
 by_cases hk : f.kind = 0 ∨ f.kind = 1 ∨ f.kind = 30 ∨ f.kind = 26 ∨ f.kind = 27 ∨ f.kind = 2 ∨ f.kind = 4 ∨ f.kind = 5 ∨ f.kind = 6 ∨ f.kind = 8 ∨ f.kind = 16 ∨ f.kind = 17 ∨ f.kind = 18 ∨ f.kind = 20 ∨ f.kind = 24 ∨ f.kind = 25 ∨ f.kind = 28
 ·
  rcases hk with hk | hk | hk | hk | hk | hk | hk | hk | hk | hk | hk | hk | hk | hk | hk | hk | hk
  ·
   exact right4_0 w f dv rv h hk
  ·
   exact right4_1 w f dv rv h hk
  ·
   exact right4_30 w f dv rv h hk
  ·
   exact right4_26 w f dv rv h hk
  ·
   exact right4_27 w f dv rv h hk
  ·
   exact right4_2 w f dv rv h hk
  ·
   exact right4_4 w f dv rv h hk
  ·
   exact right4_5 w f dv rv h hk
  ·
   exact right4_6 w f dv rv h hk
  ·
   exact right4_8 w f dv rv h hk
  ·
   exact right4_16 w f dv rv h hk
  ·
   exact right4_17 w f dv rv h hk
  ·
   exact right4_18 w f dv rv h hk
  ·
   exact right4_20 w f dv rv h hk
  ·
   exact right4_24 w f dv rv h hk
  ·
   exact right4_25 w f dv rv h hk
  ·
   exact right4_28 w f dv rv h hk
 ·
  exact right4_no w f dv rv h hk
end Go.Proofs.Ytmbjepcbokbemaa
namespace Go.Proofs.Ytmbjepcbokbemaa
open Go.RowKit
theorem append_bytes_at (w : World) (ty : TypeId) (base n : Nat) (v : Value) (xs : List Int) (hown : w.ownsRow base 5 1 v n (xs.map (Value.int .u8))) (xa : Option Addr) (m c : Nat) (bs : List Int) (hI : IntsK .u8 w xa m bs)
  (hb : n + m ≤ 140737488355328) (hbase : base ≤ w.heap.size) :
  ∃ v' w', (Builtin.append_ #[25, 25] ty #[v, .slice xa m c]).run Try.prog w = .ok v' w' ∧ w'.ownsRow base 5 1 v' (n + m) ((xs ++ bs).map (Value.int .u8)) ∧ w.grownBy w' v.ownBlock ∧ (v'.ownBlock = v.ownBlock ∨ v'.ownBlock = some w.heap.size) := by
 obtain ⟨i0, hi, hz0, hz1, hz2⟩ := info_parts infoU8
 have hlen := hI.1
 cases xa with
 | none =>
  have hm : m = 0 := by
   rcases hI.2.2 with h | ⟨b, off, h, _⟩
   ·
    exact h
   ·
    cases h
  subst hm
  obtain rfl : bs = [] := List.eq_nil_of_length_eq_zero hlen
  have hsrc : Src Try.prog i0.size 25 (.slice none 0 c) 0 [] w := Src.ofNil w Try.underlying25 c
  obtain ⟨b, l, cp, rfl, hle⟩ : ∃ b l cp, v = .slice b l cp ∧ l ≤ cp := by
   rcases hown.2 with ⟨rfl, rfl⟩ | ⟨g, cap, cur, rfl, hg, hrow, hn, hc, hsz, htk⟩
   ·
    exact ⟨_, _, _, rfl, Nat.le_refl _⟩
   ·
    exact ⟨_, _, _, rfl, hn⟩
  exact ⟨_, w, run_append_nothing w 25 25 ty 5 i0 Try.underlying25 hi b l cp hle _ hsrc, by simpa using hown, grown_refl _ _, .inl rfl⟩
 | some ad =>
  have hnews : ∀ j u, (bs.map (Value.int .u8))[j]? = some u → w.cell? (ad.add j) = some u := by
   by_cases h0 : 0 < m
   ·
    obtain ⟨ad', e, _, h⟩ := hI.src h0
    injection e with e; subst e; exact h
   ·
    intro j u hu
    have := lt_of_get hu
    simp at this; omega
  obtain ⟨v', w', hr, h2, h3, h4, h5⟩ := run_append_own_at (P := Try.prog) w base 25 ty 5 i0 (.int .u8 0) 1 1 Try.underlying25 hi hz0 hz1 hz2 rfl (by decide) v n _ hown ad m c (bs.map (Value.int .u8)) (by simp [hlen]) hnews ints_one (by unfold maxLen; omega) (by omega) hbase
  exact ⟨v', w', hr, by rw [List.map_append]; exact h2, h3, h5⟩
theorem wpList_append_bytes_at {ops : Array Oper} {rest : List Oper} {o : Oper} {a : Act} {w : World} {Q : Exit → Act → World → Prop} (hgd : o.guard = none) (s x : Operand)
  (ho : o.op = .call { callee := .builtin .append, args := #[s, x], argTypes := #[25, 25] })
  (base n : Nat) (v : Value) (xs : List Int) (hs : a.eval s = v) (hown : w.ownsRow base 5 1 v n (xs.map (Value.int .u8))) (xa : Option Addr) (m c : Nat) (bs : List Int) (hx : a.eval x = .slice xa m c) (hI : IntsK .u8 w xa m bs)
  (hb : n + m ≤ 140737488355328) (hbase : base ≤ w.heap.size)
  (h : ∀ v' w', w'.ownsRow base 5 1 v' (n + m) ((xs ++ bs).map (Value.int .u8)) → w.grownBy w' v.ownBlock → (v'.ownBlock = v.ownBlock ∨ v'.ownBlock = some w.heap.size) → wpList Try.prog ops Q rest (a.put o.dst v') w') : wpList Try.prog ops Q (o :: rest) a w := by
 refine wpList_plain hgd fun K hK => ?_
 obtain ⟨v', w', hr, h2, h3, h4⟩ := append_bytes_at w o.type base n v xs hown xa m c bs hI hb hbase
 unfold Oper.wp execOp
 simp only [ho, resolve, invoke, builtin, Sem.run_bind, Sem.run_pure, Result.andThen_ok, List.map_toArray, List.map_cons, List.map_nil, hs, hx, hr]
 exact hK _ _ (h v' w' h2 h3 h4)
end Go.Proofs.Ytmbjepcbokbemaa
namespace Go.Proofs.Ytmbjepcbokbemaa
open Go.RowKit
structure Ch (w w' : World) (p : Nat) (q : Option Nat) : Prop where
 os : w'.os = w.os
 tape : w'.tape = w.tape
 output : w'.output = w.output
 size : w.heap.size ≤ w'.heap.size
 block : ∀ i, i < w.heap.size → i ≠ p → q ≠ some i → w'.heap[i]? = w.heap[i]?
theorem Ch.below {w w' W : World} {p : Nat} {q : Option Nat} {B : Nat} (h : Ch w w' p q) (hb : Below B W w) (hs : B ≤ w.heap.size) (hp : B ≤ p) (hq : ∀ k, q = some k → B ≤ k) : Below B W w' :=
 ⟨h.os.trans hb.os, h.tape.trans hb.tape, h.output.trans hb.output, Nat.le_trans hb.size h.size, fun k hk => (h.block k (by omega) (by omega) (by intro e; have := hq k e; omega)).trans (hb.block k hk)⟩
structure Wr (w : World) (B p : Nat) (v : Value) (bs : List Int) : Prop where
 lo : B ≤ p
 row : w.heap[p]? = some (.cells #[v] 88 (0, 0))
 own : w.ownsRow B 5 1 v bs.length (bs.map (Value.int .u8))
 ne : v.ownBlock ≠ some p
theorem own_ch {w w' : World} {base e size n : Nat} {v : Value} {xs : List Value} (h : w.ownsRow base e size v n xs) (hk : ∀ k, v.ownBlock = some k → k < w.heap.size → w'.heap[k]? = w.heap[k]?) : w'.ownsRow base e size v n xs := by
 refine ⟨h.1, ?_⟩
 rcases h.2 with ⟨rfl, rfl⟩ | ⟨g, cap, cur, rfl, hg, hrow, hn, hc, hsz, htk⟩
 ·
  exact .inl ⟨rfl, rfl⟩
 ·
  exact .inr ⟨g, cap, cur, rfl, hg, (hk g (by simp [Value.ownBlock]) (lt_of_block hrow)).trans hrow, hn, hc, hsz, htk⟩
theorem Wr.lt {w : World} {B p : Nat} {v : Value} {bs : List Int} (h : Wr w B p v bs) : p < w.heap.size := lt_of_block h.row
theorem Wr.ch {w w' : World} {B p : Nat} {v : Value} {bs : List Int} (h : Wr w B p v bs) (hp : w'.heap[p]? = w.heap[p]?) (hk : ∀ k, v.ownBlock = some k → k < w.heap.size → w'.heap[k]? = w.heap[k]?) : Wr w' B p v bs :=
 ⟨h.lo, hp.trans h.row, own_ch h.own hk, h.ne⟩
theorem Wr.to {w w' : World} {B p : Nat} {v : Value} {bs : List Int} (h : Wr w B p v bs) (hb : Below w.heap.size w w') : Wr w' B p v bs :=
 h.ch (hb.block p h.lt) (fun k _ hk => hb.block k hk)
theorem Wr.grow {w W1 w1 : World} {B p : Nat} {v v' : Value} {bs bs' : List Int} (h : Wr w B p v bs) (hb : Below w.heap.size w W1) (hg : W1.grownBy w1 v.ownBlock)
  (ho : w1.ownsRow B 5 1 v' bs'.length (bs'.map (Value.int .u8))) (hv : v'.ownBlock = v.ownBlock ∨ v'.ownBlock = some W1.heap.size) :
  Wr (w1.setCell ⟨p, 0, none⟩ v') B p v' bs' ∧ Ch w (w1.setCell ⟨p, 0, none⟩ v') p v.ownBlock ∧ (v'.ownBlock = v.ownBlock ∨ ∃ k, w.heap.size ≤ k ∧ v'.ownBlock = some k) := by
 have hs := hb.size
 have hlt := h.lt
 have hrow1 : w1.heap[p]? = some (.cells #[v] 88 (0, 0)) := (hg.block p (by omega) (fun e => h.ne e.symm)).trans (bl_row hb hlt h.row)
 have hne : v'.ownBlock ≠ some p := by
  rcases hv with e | e
  ·
   rw [e]; exact h.ne
  ·
   rw [e]; intro e2; injection e2 with e2; omega
 refine ⟨⟨h.lo, ((At.base hrow1).set 0 v').row, own_ch ho (fun k hk _ => Below.heap_setCell _ _ _ _ (fun e => hne (by rw [hk]; simp at e; rw [e]))), hne⟩, ⟨hg.os.trans hb.os, hg.tape.trans hb.tape, hg.output.trans hb.output, by have := hg.size; simp; omega, fun i hi hip hq => ?_⟩, ?_⟩
 ·
  rw [Below.heap_setCell _ _ _ _ (fun e => hip (by simpa using e))]
  exact (hg.block i (by omega) (fun e => hq e.symm)).trans (hb.block i hi)
 ·
  rcases hv with e | e
  ·
   exact .inl e
  ·
   exact .inr ⟨_, hs, e⟩
theorem new_any (w : World) : Calls Try.prog 26 #[] w fun e w' => e = .returned (.pointer (some ⟨w.heap.size, 0, none⟩)) ∧ Wr w' w.heap.size w.heap.size (.slice none 0 0) [] ∧ Below w.heap.size w w' := by
 go_enter Try.func26, Try.ntmps26
 go_wp2_with fail
 go_ret
 exact ⟨rfl, ⟨Nat.le_refl _, heap_alloc_new _ _, World.ownsRow_nil _ _ _ _, by simp [Value.ownBlock]⟩, (Below.refl _ _).alloc (Nat.le_refl _) _⟩
theorem wraw_any (w : World) (B p : Nat) (v : Value) (bs : List Int) (a : Option Addr) (len cap : Nat) (xs : List Int) (hl : bs.length + len ≤ 140737488355328) (h : Wr w B p v bs) (hI : IntsK .u8 w a len xs) :
  Calls Try.prog 59 #[.pointer (some ⟨p, 0, none⟩), .slice a len cap] w fun e w' => ∃ v', e = .returned (.tuple #[]) ∧ Wr w' B p v' (bs ++ xs) ∧ Ch w w' p v.ownBlock ∧ (v'.ownBlock = v.ownBlock ∨ ∃ k, w.heap.size ≤ k ∧ v'.ownBlock = some k) := by
 have c0 : w.cell? ⟨p, 0, none⟩ = some v := row_cell h.row 0 _ rfl
 have hB : B ≤ w.heap.size := Nat.le_trans h.lo (Nat.le_of_lt h.lt)
 have HW := Qh h; have HI := Qh hI
 clear h hI
 go_enter Try.func59, Try.ntmps59
 go_wp2_with (first | (at_builtin; refine wpList_append_bytes_at rfl _ _ rfl B _ v bs rfl HW.out.own _ _ _ _ rfl HI.out hl hB ?_; intro v' w1 hown hgrow hv; obtain ⟨b2, cp2, rfl, _⟩ := own_slice hown; have HO := Qh hown; have HG := Qh hgrow; have HV := Qh hv; clear hown hgrow hv; have f0 : w1.frozen? ⟨p, 0, none⟩ = false := row_free (grown_row HG.out (fun e => HW.out.ne e.symm) HW.out.row) 0; have g0 : w1.cell? ⟨p, 0, none⟩ = some v := row_cell (grown_row HG.out (fun e => HW.out.ne e.symm) HW.out.row) 0 _ rfl) | fail)
 go_end0
 have ho : w1.ownsRow B 5 1 (.slice b2 (bs.length + len) cp2) (bs ++ xs).length ((bs ++ xs).map (Value.int .u8)) := by rw [List.length_append, HI.out.1]; exact HO.out
 exact ⟨_, rfl, HW.out.grow (Below.refl _ _) HG.out ho HV.out⟩
theorem wbyte_any (w : World) (B p : Nat) (v : Value) (bs : List Int) (x : Int) (hl : bs.length + 1 ≤ 140737488355328) (h : Wr w B p v bs) (hx : (Lit.int .u8 x).wf = true) :
  Calls Try.prog 58 #[.pointer (some ⟨p, 0, none⟩), .int .u8 x] w fun e w' => ∃ v', e = .returned (.tuple #[]) ∧ Wr w' B p v' (bs ++ [x]) ∧ Ch w w' p v.ownBlock ∧ (v'.ownBlock = v.ownBlock ∨ ∃ k, w.heap.size ≤ k ∧ v'.ownBlock = some k) := by
 have c0 : w.cell? ⟨p, 0, none⟩ = some v := row_cell h.row 0 _ rfl
 have hB : B ≤ w.heap.size := Nat.le_trans h.lo (Nat.le_of_lt h.lt)
 have HW := Qh h; have HX := Qh hx
 have HBA := Qh ((Below.refl w.heap.size w).alloc (Nat.le_refl _) (.cells #[.int .u8 x] 5))
 clear h hx
 go_enter Try.func58, Try.ntmps58
 go_wp2_with (first | (at_builtin; refine wpList_append_bytes_at rfl _ _ rfl B _ v bs rfl (own_below HW.out.own HBA.out) _ _ _ _ rfl (ints_made _ _ HX.out) hl (by simp; omega) ?_; intro v' w1 hown hgrow hv; obtain ⟨b2, cp2, rfl, _⟩ := own_slice hown; have HO := Qh hown; have HG := Qh hgrow; have HV := Qh hv; clear hown hgrow hv; have f0 : w1.frozen? ⟨p, 0, none⟩ = false := row_free (grown_row HG.out (fun e => HW.out.ne e.symm) (bl_row HBA.out HW.out.lt HW.out.row)) 0; have g0 : w1.cell? ⟨p, 0, none⟩ = some v := row_cell (grown_row HG.out (fun e => HW.out.ne e.symm) (bl_row HBA.out HW.out.lt HW.out.row)) 0 _ rfl) | fail)
 go_end0
 have ho : w1.ownsRow B 5 1 (.slice b2 (bs.length + 1) cp2) (bs ++ [x]).length ((bs ++ [x]).map (Value.int .u8)) := by rw [List.length_append]; exact HO.out
 exact ⟨_, rfl, HW.out.grow HBA.out HG.out ho HV.out⟩
theorem wvar_any (w : World) (B p : Nat) (v : Value) (bs : List Int) (n : Int) (hl : bs.length + 8 ≤ 140737488355328) (h : Wr w B p v bs) (hn : 0 ≤ n ∧ n < 18446744073709551616) :
  Calls Try.prog 53 #[.pointer (some ⟨p, 0, none⟩), .int .u64 n] w fun e w' => ∃ v', e = .returned (.bool (decide (sizeM n ≠ 0))) ∧ Wr w' B p v' (bs ++ putM n) ∧ Ch w w' p v.ownBlock ∧ (v'.ownBlock = v.ownBlock ∨ ∃ k, w.heap.size ≤ k ∧ v'.ownBlock = some k) := by
 have hB : B ≤ w.heap.size := Nat.le_trans h.lo (Nat.le_of_lt h.lt)
 have HW := Qh h
 have hs8 : sizeM n ≤ 8 := by have := sizeM_cases n; omega
 clear h
 go_enter Try.func53, Try.ntmps53
 go_wp2_with fail
 refine Calls.mono (put_any w none 0 0 [] n hn (by omega) (IntsK.nil _ _ _)) ?_
 rintro e W1 ⟨vp, rfl, hb, ho⟩
 rw [List.nil_append, Nat.zero_add] at ho
 obtain ⟨ap, capp, rfl, _, hi, _⟩ := ints_of_own ho (putM_wf n hn.1)
 have HBA := Qh hb; have HI := Qh hi
 have hrow := bl_row hb HW.out.lt HW.out.row
 have c0 : W1.cell? ⟨p, 0, none⟩ = some v := row_cell hrow 0 _ rfl
 have hB1 : B ≤ W1.heap.size := Nat.le_trans hB hb.size
 have HROW := Qh hrow
 clear hb ho hi hrow
 obtain ⟨ok, hok⟩ : ∃ ok, decide (sizeM n ≠ 0) = ok := ⟨_, rfl⟩
 have HOK := Qh hok
 rw [hok]
 clear hok
 go_wp2_with (first | (at_builtin; refine wpList_append_bytes_at rfl _ _ rfl B _ v bs rfl (own_below HW.out.own HBA.out) _ _ _ _ rfl HI.out (by omega) hB1 ?_; intro v' w1 hown hgrow hv; obtain ⟨b2, cp2, rfl, _⟩ := own_slice hown; have HO := Qh hown; have HG := Qh hgrow; have HV := Qh hv; clear hown hgrow hv; have f0 : w1.frozen? ⟨p, 0, none⟩ = false := row_free (grown_row HG.out (fun e => HW.out.ne e.symm) HROW.out) 0; have g0 : w1.cell? ⟨p, 0, none⟩ = some v := row_cell (grown_row HG.out (fun e => HW.out.ne e.symm) HROW.out) 0 _ rfl) | fail)
 go_ret
 have ho : w1.ownsRow B 5 1 (.slice b2 (bs.length + sizeM n) cp2) (bs ++ putM n).length ((bs ++ putM n).map (Value.int .u8)) := by rw [List.length_append, putM_len]; exact HO.out
 exact ⟨_, by rw [HOK.out]; rfl, HW.out.grow HBA.out HG.out ho HV.out⟩
theorem Ch.next {w w1 w2 : World} {p : Nat} {q q1 : Option Nat} (h : Ch w w1 p q) (k : Ch w1 w2 p q1) (hq : q1 = q ∨ ∃ k, w.heap.size ≤ k ∧ q1 = some k) : Ch w w2 p q :=
 ⟨k.os.trans h.os, k.tape.trans h.tape, k.output.trans h.output, Nat.le_trans h.size k.size, fun i hi hip hiq => (k.block i (Nat.lt_of_lt_of_le hi h.size) hip (by
  rcases hq with e | ⟨m, hm, e⟩
  ·
   rw [e]; exact hiq
  ·
   rw [e]; intro e2; injection e2 with e2; omega)).trans (h.block i hi hip hiq)⟩
theorem own_next {w w1 : World} {q q1 q2 : Option Nat} (hs : w.heap.size ≤ w1.heap.size) (h1 : q1 = q ∨ ∃ k, w.heap.size ≤ k ∧ q1 = some k) (h2 : q2 = q1 ∨ ∃ k, w1.heap.size ≤ k ∧ q2 = some k) : q2 = q ∨ ∃ k, w.heap.size ≤ k ∧ q2 = some k := by
 rcases h2 with e | ⟨m, hm, e⟩
 ·
  rw [e]; exact h1
 ·
  exact .inr ⟨m, by omega, e⟩
theorem wtext_any (w : World) (B p : Nat) (v : Value) (bs : List Int) (a : Option Addr) (len cap : Nat) (xs : List Int) (hl : bs.length + 8 + len ≤ 140737488355328) (h : Wr w B p v bs) (hI : IntsK .u8 w a len xs) (hap : 0 < len → ∀ x, a = some x → x.block ≠ p ∧ v.ownBlock ≠ some x.block) :
  Calls Try.prog 57 #[.pointer (some ⟨p, 0, none⟩), .slice a len cap] w fun e w' => ∃ v', e = .returned (.tuple #[]) ∧ Wr w' B p v' (bs ++ (putM len ++ xs)) ∧ Ch w w' p v.ownBlock ∧ (v'.ownBlock = v.ownBlock ∨ ∃ k, w.heap.size ≤ k ∧ v'.ownBlock = some k) := by
 have hs8 : sizeM len ≤ 8 := by have := sizeM_cases (len : Int); omega
 have HW := Qh h; have HI := Qh hI
 clear h hI
 go_enter Try.func57, Try.ntmps57
 go_wp2_with fail
 refine Calls.mono (wvar_any w B p v bs len (by omega) HW.out ⟨by omega, by omega⟩) ?_
 rintro e w1 ⟨v1, rfl, hW1, hC1, hV1⟩
 have HW1 := Qh hW1; have HC1 := Qh hC1; have HV1 := Qh hV1
 have hI1 : IntsK .u8 w1 a len xs := by
  refine ⟨HI.out.1, HI.out.2.1, ?_⟩
  rcases HI.out.2.2 with h0 | ⟨b, off, rfl, hbl, hc⟩
  ·
   exact .inl h0
  ·
   by_cases hl0 : len = 0
   ·
    exact .inl hl0
   obtain ⟨hp1, hp2⟩ := hap (by omega) _ rfl
   refine .inr ⟨b, off, rfl, Nat.lt_of_lt_of_le hbl HC1.out.size, fun i hi => ?_⟩
   have h5 := hc i hi
   have hm := HC1.out.block b hbl hp1 hp2
   unfold World.cell? at h5 ⊢
   simp only at h5 ⊢
   rw [hm]; exact h5
 have HI1 := Qh hI1
 clear hW1 hC1 hV1 hI1
 go_wp2_with fail
 refine Calls.mono (wraw_any w1 B p v1 (bs ++ putM len) a len cap xs (by rw [List.length_append, putM_len]; omega) HW1.out HI1.out) ?_
 rintro e w2 ⟨v2, rfl, hW2, hC2, hV2⟩
 rw [List.append_assoc] at hW2
 have HW2 := Qh hW2; have HC2 := Qh hC2; have HV2 := Qh hV2
 clear hW2 hC2 hV2
 go_wp2_with fail
 go_end0
 exact ⟨v2, rfl, HW2.out, HC1.out.next HC2.out HV1.out, own_next HC1.out.size HV1.out HV2.out⟩
theorem wdone_any (w : World) (B p : Nat) (v : Value) (bs : List Int) (hl : bs.length ≤ 140737488355328) (hwf : ∀ x ∈ bs, (Lit.int .u8 x).wf = true) (h : Wr w B p v bs) :
  Calls Try.prog 29 #[.pointer (some ⟨p, 0, none⟩)] w fun e w' => ∃ a cap, e = .returned (.slice a bs.length cap) ∧ bs.length ≤ cap ∧ cap ≤ 9223372036854775807 ∧ IntsK .u8 w' a bs.length bs ∧ (∀ x, a = some x → w.heap.size ≤ x.block) ∧ Below w.heap.size w w' := by
 obtain ⟨b, cp, rfl, _, hi, _⟩ := ints_of_own h.own hwf
 have c0 : w.cell? ⟨p, 0, none⟩ = some (.slice b bs.length cp) := row_cell h.row 0 _ rfl
 have HI := Qh hi
 clear h hi
 go_enter Try.func29, Try.ntmps29
 go_wp2_with fail
 refine Calls.mono (clone_any w b bs.length cp bs hl HI.out) ?_
 rintro e w' ⟨v2, rfl, hb, ho⟩
 have hcm := own_cap ho
 obtain ⟨a1, cap1, rfl, hc1, hi1, hlow⟩ := ints_of_own ho HI.out.2.1
 replace hcm := hcm _ _ _ rfl
 have HB := Qh hb; have HI1 := Qh hi1
 clear hb ho hi1
 go_wp2_with fail
 go_ret
 exact ⟨a1, cap1, rfl, hc1, hcm, HI1.out, hlow, HB.out⟩
end Go.Proofs.Ytmbjepcbokbemaa
namespace Go.Proofs.Ytmbjepcbokbemaa
open Go.RowKit
def WrU (w : World) (B p : Nat) (v : Value) (w' : World) (bs' : List Int) : Prop := ∃ v', Wr w' B p v' bs' ∧ Ch w w' p v.ownBlock ∧ (v'.ownBlock = v.ownBlock ∨ ∃ k, w.heap.size ≤ k ∧ v'.ownBlock = some k)
theorem Ch.refl (w : World) (p : Nat) (q : Option Nat) : Ch w w p q := ⟨rfl, rfl, rfl, Nat.le_refl _, fun _ _ _ _ => rfl⟩
theorem IntsK.ch {k : IntKind} {w y : World} {p : Nat} {q : Option Nat} {a : Option Addr} {n : Nat} {zs : List Int} (h : IntsK k w a n zs) (hc : Ch w y p q) (ha : ∀ x, a = some x → x.block ≠ p ∧ q ≠ some x.block) : IntsK k y a n zs := by
 refine ⟨h.1, h.2.1, ?_⟩
 rcases h.2.2 with h0 | ⟨b, off, e, hb, hcell⟩
 ·
  exact .inl h0
 ·
  refine .inr ⟨b, off, e, Nat.lt_of_lt_of_le hb hc.size, fun i hi => ?_⟩
  have := hcell i hi
  have hbk := hc.block b hb (ha _ e).1 (ha _ e).2
  unfold World.cell? at this ⊢
  rw [hbk]; exact this
theorem putM_le (n : Int) : (putM n).length ≤ 8 := by rw [putM_len]; have := sizeM_cases n; omega
theorem varsM_snoc (l : List Int) (x : Int) : varsM (l ++ [x]) = varsM l ++ putM x := by unfold varsM; simp
theorem varsM_le : ∀ l : List Int, (varsM l).length ≤ 8 * l.length
 | [] => Nat.zero_le _
 | x :: l => by have h1 := varsM_le l; have h2 := putM_le x; rw [varsM_cons, List.length_append, List.length_cons]; omega
theorem vars4_any (w : World) (B p : Nat) (v : Value) (bs : List Int) (a : Option Addr) (n cp : Nat) (zs : List Int) (hl : bs.length + 8 * n ≤ 140737488355328) (hn : n ≤ 1000000) (h : Wr w B p v bs) (hI : IntsK .u64 w a n zs) (hap : ∀ x, a = some x → x.block ≠ p ∧ v.ownBlock ≠ some x.block) :
  Calls Try.prog 56 #[.pointer (some ⟨p, 0, none⟩), .slice a n cp] w fun e w' => e = .returned (.tuple #[]) ∧ WrU w B p v w' (bs ++ varsM zs) := by
 have HI := Qh hI; have HW := Qh h; have HAP := Qh hap
 have hln : zs.length = n := hI.1
 have HLN := Qh hln
 clear hI h hap hln
 go_enter Try.func56, Try.ntmps56
 go_wp2_with fail
 go_loopw [8] (fun s8 wr => ∃ i : Nat, s8 = .int .i64 i ∧ i ≤ n ∧ Hid (WrU w B p v wr (bs ++ varsM (zs.take i)))) (fun s _ => n - (intOf s).toNat)
 case atStart => exact ⟨0, rfl, by omega, Qh ⟨v, by rw [show bs ++ varsM (zs.take 0) = bs by simp [varsM]]; exact HW.out, Ch.refl _ _ _, .inl rfl⟩⟩
 case round =>
  obtain ⟨i, rfl, hi, HU⟩ := hrel
  obtain ⟨v1, hw1, hc1, ho1⟩ := HU.out
  have HI1 := Qh (HI.out.ch hc1 HAP.out)
  have HW1 := Qh hw1; have HC1 := Qh hc1; have HO1 := Qh ho1
  clear hw1 hc1 ho1 HU
  by_cases hlt : i < n
  ·
   obtain ⟨b, off, x, rfl, hbl, hx, hwx, hc⟩ := HI1.out.at (Below.refl _ _) (j := i) hlt
   have hxe : zs[i]? = some x := by rw [hx, List.getD_eq_getElem?_getD, List.getElem?_eq_getElem (by rw [HLN.out]; exact hlt)]; rfl
   have HTS := Qh (take_snd4 hxe)
   have hux := bdU64 hwx
   have hle := varsM_le (zs.take i)
   rw [List.length_take] at hle
   have HC := Qh (wvar_any wr B p v1 (bs ++ varsM (zs.take i)) x (by rw [List.length_append]; have : min i zs.length ≤ i := Nat.min_le_left ..; omega) HW1.out hux)
   obtain ⟨hu1, hu2⟩ := hux
   clear hx hwx hxe hle
   go_wp2_with fail
   refine Calls.mono HC.out ?_
   rintro e w2 ⟨v2, rfl, hw2, hc2, ho2⟩
   have HN : Hid (WrU w B p v w2 (bs ++ varsM (zs.take (i + 1)))) := Qh ⟨v2, by rw [HTS.out, varsM_snoc, ← List.append_assoc]; exact hw2, HC1.out.next hc2 HO1.out, own_next HC1.out.size HO1.out ho2⟩
   clear hw2 hc2 ho2 HC HI1 HW1 HC1 HO1
   go_wp2_with fail
   go_roundw
   case rel => exact ⟨i + 1, by go_num, by omega, HN⟩
   case measure => simp [intOf]; omega
  ·
   obtain rfl : i = n := by omega
   have htk : zs.take i = zs := List.take_of_length_le (by rw [HLN.out]; exact Nat.le_refl _)
   have HN : Hid (WrU w B p v wr (bs ++ varsM zs)) := Qh ⟨v1, by have h9 := HW1.out; rw [htk] at h9; exact h9, HC1.out, HO1.out⟩
   clear htk HI1 HW1 HC1 HO1
   go_wp2_with fail
   (try simp only [Exit.inBlock, Exit.then])
   refine bodyPost_end (results_none rfl _ _ _) rfl ?_
   exact ⟨rfl, HN.out⟩
theorem kind8_00 (w : World) (f : Fr) (dv rv : Value) (hw : f.Wf) (hk : f.kind = 8) (ho : f.of_ = 0) (hf : f.fin = false) :
  Calls Try.prog 54 #[.agg (f.cells dv rv).toArray] w fun e w' => e = .returned (.int .u64 10) ∧ Below w.heap.size w w' := by
 have H0 : Hid ((f.cells dv rv)[0]? = some (.int .i64 8)) := Qh (by rw [← hk]; rfl)
 have H2 : Hid ((f.cells dv rv)[2]? = some (.int .u64 f.of_)) := Qh rfl
 have H4 : Hid ((f.cells dv rv)[4]? = some (.bool f.fin)) := Qh rfl
 have u2 := hw.of_
 simp only [U64] at u2
 obtain ⟨of_, h_of⟩ : ∃ y, f.of_ = y := ⟨_, rfl⟩
 rw [h_of] at H2 u2 ho
 rw [hf] at H4
 obtain ⟨u3, u4⟩ := u2
 have b1 : bits .or .u64 8 2 = 10 := by decide
 have b2 : bits .or .u64 10 4 = 14 := by decide
 have b3 : bits .or .u64 10 1 = 11 := by decide
 have b4 : bits .or .u64 14 1 = 15 := by decide
 clear hw hk hf h_of
 obtain ⟨RF, hRF⟩ : ∃ R, f.cells dv rv = R := ⟨_, rfl⟩
 simp only [hRF] at H0 H2 H4
 rw [hRF]
 have HB := Qh (Below.refl w.heap.size w)
 clear hRF
 go_enter Try.func54, Try.ntmps54
 go_upto_region 1 with fail
 change Code.wp _ _ _ _ (w.alloc (.cells RF.toArray 39))
 have hb := (Below.refl w.heap.size w).alloc (Nat.le_refl _) (.cells RF.toArray 39)
 replace HB := Qh (bl_next HB.out HB.out.size hb)
 have HF := Qh (heap_alloc_new w (.cells RF.toArray 39))
 clear hb
 generalize w.alloc (.cells RF.toArray 39) = w1 at HB HF ⊢
 obtain ⟨gf, hg⟩ : ∃ g, w.heap.size = g := ⟨_, rfl⟩
 rw [hg] at HF ⊢
 clear hg
 have c0 := cell_row HF.out 0 _ H0.out
 have c2 := cell_row HF.out 2 _ H2.out
 have c4 := cell_row HF.out 4 _ H4.out
 subst ho
 go_wp2_with fail
 go_ret
 exact ⟨by first | rfl | (simp [b1, b2, b3, b4]; done), HB.out⟩
theorem kind8_01 (w : World) (f : Fr) (dv rv : Value) (hw : f.Wf) (hk : f.kind = 8) (ho : f.of_ = 0) (hf : f.fin = true) :
  Calls Try.prog 54 #[.agg (f.cells dv rv).toArray] w fun e w' => e = .returned (.int .u64 11) ∧ Below w.heap.size w w' := by
 have H0 : Hid ((f.cells dv rv)[0]? = some (.int .i64 8)) := Qh (by rw [← hk]; rfl)
 have H2 : Hid ((f.cells dv rv)[2]? = some (.int .u64 f.of_)) := Qh rfl
 have H4 : Hid ((f.cells dv rv)[4]? = some (.bool f.fin)) := Qh rfl
 have u2 := hw.of_
 simp only [U64] at u2
 obtain ⟨of_, h_of⟩ : ∃ y, f.of_ = y := ⟨_, rfl⟩
 rw [h_of] at H2 u2 ho
 rw [hf] at H4
 obtain ⟨u3, u4⟩ := u2
 have b1 : bits .or .u64 8 2 = 10 := by decide
 have b2 : bits .or .u64 10 4 = 14 := by decide
 have b3 : bits .or .u64 10 1 = 11 := by decide
 have b4 : bits .or .u64 14 1 = 15 := by decide
 clear hw hk hf h_of
 obtain ⟨RF, hRF⟩ : ∃ R, f.cells dv rv = R := ⟨_, rfl⟩
 simp only [hRF] at H0 H2 H4
 rw [hRF]
 have HB := Qh (Below.refl w.heap.size w)
 clear hRF
 go_enter Try.func54, Try.ntmps54
 go_upto_region 1 with fail
 change Code.wp _ _ _ _ (w.alloc (.cells RF.toArray 39))
 have hb := (Below.refl w.heap.size w).alloc (Nat.le_refl _) (.cells RF.toArray 39)
 replace HB := Qh (bl_next HB.out HB.out.size hb)
 have HF := Qh (heap_alloc_new w (.cells RF.toArray 39))
 clear hb
 generalize w.alloc (.cells RF.toArray 39) = w1 at HB HF ⊢
 obtain ⟨gf, hg⟩ : ∃ g, w.heap.size = g := ⟨_, rfl⟩
 rw [hg] at HF ⊢
 clear hg
 have c0 := cell_row HF.out 0 _ H0.out
 have c2 := cell_row HF.out 2 _ H2.out
 have c4 := cell_row HF.out 4 _ H4.out
 subst ho
 go_wp2_with fail
 go_ret
 exact ⟨by first | rfl | (simp [b1, b2, b3, b4]; done), HB.out⟩
theorem kind8_10 (w : World) (f : Fr) (dv rv : Value) (hw : f.Wf) (hk : f.kind = 8) (ho : 0 < f.of_) (hf : f.fin = false) :
  Calls Try.prog 54 #[.agg (f.cells dv rv).toArray] w fun e w' => e = .returned (.int .u64 14) ∧ Below w.heap.size w w' := by
 have H0 : Hid ((f.cells dv rv)[0]? = some (.int .i64 8)) := Qh (by rw [← hk]; rfl)
 have H2 : Hid ((f.cells dv rv)[2]? = some (.int .u64 f.of_)) := Qh rfl
 have H4 : Hid ((f.cells dv rv)[4]? = some (.bool f.fin)) := Qh rfl
 have u2 := hw.of_
 simp only [U64] at u2
 obtain ⟨of_, h_of⟩ : ∃ y, f.of_ = y := ⟨_, rfl⟩
 rw [h_of] at H2 u2 ho
 rw [hf] at H4
 obtain ⟨u3, u4⟩ := u2
 have b1 : bits .or .u64 8 2 = 10 := by decide
 have b2 : bits .or .u64 10 4 = 14 := by decide
 have b3 : bits .or .u64 10 1 = 11 := by decide
 have b4 : bits .or .u64 14 1 = 15 := by decide
 clear hw hk hf h_of
 obtain ⟨RF, hRF⟩ : ∃ R, f.cells dv rv = R := ⟨_, rfl⟩
 simp only [hRF] at H0 H2 H4
 rw [hRF]
 have HB := Qh (Below.refl w.heap.size w)
 clear hRF
 go_enter Try.func54, Try.ntmps54
 go_upto_region 1 with fail
 change Code.wp _ _ _ _ (w.alloc (.cells RF.toArray 39))
 have hb := (Below.refl w.heap.size w).alloc (Nat.le_refl _) (.cells RF.toArray 39)
 replace HB := Qh (bl_next HB.out HB.out.size hb)
 have HF := Qh (heap_alloc_new w (.cells RF.toArray 39))
 clear hb
 generalize w.alloc (.cells RF.toArray 39) = w1 at HB HF ⊢
 obtain ⟨gf, hg⟩ : ∃ g, w.heap.size = g := ⟨_, rfl⟩
 rw [hg] at HF ⊢
 clear hg
 have c0 := cell_row HF.out 0 _ H0.out
 have c2 := cell_row HF.out 2 _ H2.out
 have c4 := cell_row HF.out 4 _ H4.out
 go_wp2_with fail
 go_ret
 exact ⟨by first | rfl | (simp [b1, b2, b3, b4]; done), HB.out⟩
theorem kind8_11 (w : World) (f : Fr) (dv rv : Value) (hw : f.Wf) (hk : f.kind = 8) (ho : 0 < f.of_) (hf : f.fin = true) :
  Calls Try.prog 54 #[.agg (f.cells dv rv).toArray] w fun e w' => e = .returned (.int .u64 15) ∧ Below w.heap.size w w' := by
 have H0 : Hid ((f.cells dv rv)[0]? = some (.int .i64 8)) := Qh (by rw [← hk]; rfl)
 have H2 : Hid ((f.cells dv rv)[2]? = some (.int .u64 f.of_)) := Qh rfl
 have H4 : Hid ((f.cells dv rv)[4]? = some (.bool f.fin)) := Qh rfl
 have u2 := hw.of_
 simp only [U64] at u2
 obtain ⟨of_, h_of⟩ : ∃ y, f.of_ = y := ⟨_, rfl⟩
 rw [h_of] at H2 u2 ho
 rw [hf] at H4
 obtain ⟨u3, u4⟩ := u2
 have b1 : bits .or .u64 8 2 = 10 := by decide
 have b2 : bits .or .u64 10 4 = 14 := by decide
 have b3 : bits .or .u64 10 1 = 11 := by decide
 have b4 : bits .or .u64 14 1 = 15 := by decide
 clear hw hk hf h_of
 obtain ⟨RF, hRF⟩ : ∃ R, f.cells dv rv = R := ⟨_, rfl⟩
 simp only [hRF] at H0 H2 H4
 rw [hRF]
 have HB := Qh (Below.refl w.heap.size w)
 clear hRF
 go_enter Try.func54, Try.ntmps54
 go_upto_region 1 with fail
 change Code.wp _ _ _ _ (w.alloc (.cells RF.toArray 39))
 have hb := (Below.refl w.heap.size w).alloc (Nat.le_refl _) (.cells RF.toArray 39)
 replace HB := Qh (bl_next HB.out HB.out.size hb)
 have HF := Qh (heap_alloc_new w (.cells RF.toArray 39))
 clear hb
 generalize w.alloc (.cells RF.toArray 39) = w1 at HB HF ⊢
 obtain ⟨gf, hg⟩ : ∃ g, w.heap.size = g := ⟨_, rfl⟩
 rw [hg] at HF ⊢
 clear hg
 have c0 := cell_row HF.out 0 _ H0.out
 have c2 := cell_row HF.out 2 _ H2.out
 have c4 := cell_row HF.out 4 _ H4.out
 go_wp2_with fail
 go_ret
 exact ⟨by first | rfl | (simp [b1, b2, b3, b4]; done), HB.out⟩
theorem kind_no8 (w : World) (f : Fr) (dv rv : Value) (hk : ¬ f.kind = 8) (h0 : 0 ≤ f.kind ∧ f.kind ≤ 30) :
  Calls Try.prog 54 #[.agg (f.cells dv rv).toArray] w fun e w' => e = .returned (.int .u64 f.kind) ∧ Below w.heap.size w w' := by
 have H0 : Hid ((f.cells dv rv)[0]? = some (.int .i64 f.kind)) := Qh rfl
 obtain ⟨k, hkk⟩ : ∃ y, f.kind = y := ⟨_, rfl⟩
 rw [hkk] at H0 hk h0
 rw [hkk]
 obtain ⟨k1, k2⟩ := h0
 have hke : (k == 8) = false := by simpa using hk
 clear hk hkk
 obtain ⟨RF, hRF⟩ : ∃ R, f.cells dv rv = R := ⟨_, rfl⟩
 simp only [hRF] at H0
 rw [hRF]
 have HB := Qh (Below.refl w.heap.size w)
 clear hRF
 go_enter Try.func54, Try.ntmps54
 go_upto_region 1 with fail
 change Code.wp _ _ _ _ (w.alloc (.cells RF.toArray 39))
 have hb := (Below.refl w.heap.size w).alloc (Nat.le_refl _) (.cells RF.toArray 39)
 replace HB := Qh (bl_next HB.out HB.out.size hb)
 have HF := Qh (heap_alloc_new w (.cells RF.toArray 39))
 clear hb
 generalize w.alloc (.cells RF.toArray 39) = w1 at HB HF ⊢
 obtain ⟨gf, hg⟩ : ∃ g, w.heap.size = g := ⟨_, rfl⟩
 rw [hg] at HF ⊢
 clear hg
 have c0 := cell_row HF.out 0 _ H0.out
 go_wp2_with fail
 go_ret
 exact ⟨by first | rfl | simp, HB.out⟩
theorem kind4_any (w : World) (f : Fr) (dv rv : Value) (hw : f.Wf) (hr : rightB f = true) :
  Calls Try.prog 54 #[.agg (f.cells dv rv).toArray] w fun e w' => e = .returned (.int .u64 (kindM f)) ∧ Below w.heap.size w w' := by
 by_cases hk : f.kind = 8
 ·
  have h0 := hw.of_.1
  unfold kindM
  rw [if_pos hk]
  by_cases ho : 0 < f.of_
  ·
   rw [if_pos ho]
   cases hf : f.fin
   ·
    exact kind8_10 w f dv rv hw hk ho hf
   ·
    exact kind8_11 w f dv rv hw hk ho hf
  ·
   rw [if_neg ho]
   cases hf : f.fin
   ·
    exact kind8_00 w f dv rv hw hk (by omega) hf
   ·
    exact kind8_01 w f dv rv hw hk (by omega) hf
 ·
  unfold kindM
  rw [if_neg hk]
  have := right_kind hr
  exact kind_no8 w f dv rv hk (by omega)
end Go.Proofs.Ytmbjepcbokbemaa
namespace Go.Proofs.Ytmbjepcbokbemaa
open Go.RowKit
theorem asks4_any (w : World) (f : Fr) (dv rv : Value) (hw : f.Wf) :
  Calls Try.prog 30 #[.agg (f.cells dv rv).toArray] w fun e w' => e = .returned (.bool (asksB f)) ∧ Below w.heap.size w w' := by
 have H0 : Hid ((f.cells dv rv)[0]? = some (.int .i64 f.kind)) := Qh rfl
 have hkd := hw.kind
 obtain ⟨b, hb⟩ : ∃ b, asksB f = b := ⟨_, rfl⟩
 have hb2 : decide (f.kind ≠ 0 ∧ f.kind ≠ 2 ∧ f.kind ≠ 28) = b := hb
 rw [hb]
 obtain ⟨k, hkk⟩ : ∃ y, f.kind = y := ⟨_, rfl⟩
 rw [hkk] at H0 hkd hb2
 obtain ⟨RF, hRF⟩ : ∃ R, f.cells dv rv = R := ⟨_, rfl⟩
 rw [hRF] at H0 ⊢
 have HB := Qh (Below.refl w.heap.size w)
 clear hw hkk hRF hb
 by_cases h0 : k = 0
 ·
  subst h0
  obtain rfl : b = false := by rw [← hb2]; rfl
  clear hb2
  go_enter Try.func30, Try.ntmps30
  go_upto_region 1 with fail
  change Code.wp _ _ _ _ (w.alloc (.cells RF.toArray 39))
  have hb := (Below.refl w.heap.size w).alloc (Nat.le_refl _) (.cells RF.toArray 39)
  replace HB := Qh (bl_next HB.out HB.out.size hb)
  have HF := Qh (heap_alloc_new w (.cells RF.toArray 39))
  clear hb
  generalize w.alloc (.cells RF.toArray 39) = w1 at HB HF ⊢
  obtain ⟨gf, hg⟩ : ∃ g, w.heap.size = g := ⟨_, rfl⟩
  rw [hg] at HF ⊢
  clear hg
  have c0 := cell_row HF.out 0 _ H0.out
  go_wp2_with fail
  go_ret
  exact ⟨by first | rfl | (simp; done), HB.out⟩
 by_cases h2 : k = 2
 ·
  subst h2
  obtain rfl : b = false := by rw [← hb2]; rfl
  clear hb2 h0
  go_enter Try.func30, Try.ntmps30
  go_upto_region 1 with fail
  change Code.wp _ _ _ _ (w.alloc (.cells RF.toArray 39))
  have hb := (Below.refl w.heap.size w).alloc (Nat.le_refl _) (.cells RF.toArray 39)
  replace HB := Qh (bl_next HB.out HB.out.size hb)
  have HF := Qh (heap_alloc_new w (.cells RF.toArray 39))
  clear hb
  generalize w.alloc (.cells RF.toArray 39) = w1 at HB HF ⊢
  obtain ⟨gf, hg⟩ : ∃ g, w.heap.size = g := ⟨_, rfl⟩
  rw [hg] at HF ⊢
  clear hg
  have c0 := cell_row HF.out 0 _ H0.out
  go_wp2_with fail
  go_ret
  exact ⟨by first | rfl | (simp; done), HB.out⟩
 by_cases h28 : k = 28
 ·
  subst h28
  obtain rfl : b = false := by rw [← hb2]; rfl
  clear hb2 h0 h2
  go_enter Try.func30, Try.ntmps30
  go_upto_region 1 with fail
  change Code.wp _ _ _ _ (w.alloc (.cells RF.toArray 39))
  have hb := (Below.refl w.heap.size w).alloc (Nat.le_refl _) (.cells RF.toArray 39)
  replace HB := Qh (bl_next HB.out HB.out.size hb)
  have HF := Qh (heap_alloc_new w (.cells RF.toArray 39))
  clear hb
  generalize w.alloc (.cells RF.toArray 39) = w1 at HB HF ⊢
  obtain ⟨gf, hg⟩ : ∃ g, w.heap.size = g := ⟨_, rfl⟩
  rw [hg] at HF ⊢
  clear hg
  have c0 := cell_row HF.out 0 _ H0.out
  go_wp2_with fail
  go_ret
  exact ⟨by first | rfl | (simp; done), HB.out⟩
 obtain rfl : b = true := by rw [← hb2]; simp [h0, h2, h28]
 have e0 : (k != 0) = true := by simpa using h0
 have e2 : (k != 2) = true := by simpa using h2
 have e28 : (k != 28) = true := by simpa using h28
 clear hb2 h0 h2 h28
 go_enter Try.func30, Try.ntmps30
 go_upto_region 1 with fail
 change Code.wp _ _ _ _ (w.alloc (.cells RF.toArray 39))
 have hb := (Below.refl w.heap.size w).alloc (Nat.le_refl _) (.cells RF.toArray 39)
 replace HB := Qh (bl_next HB.out HB.out.size hb)
 have HF := Qh (heap_alloc_new w (.cells RF.toArray 39))
 clear hb
 generalize w.alloc (.cells RF.toArray 39) = w1 at HB HF ⊢
 obtain ⟨gf, hg⟩ : ∃ g, w.heap.size = g := ⟨_, rfl⟩
 rw [hg] at HF ⊢
 clear hg
 have c0 := cell_row HF.out 0 _ H0.out
 go_wp2_with fail
 go_ret
 exact ⟨by first | rfl | (simp; done), HB.out⟩
theorem rasks4_any (w : World) (f : Fr) (dv rv : Value) (hw : f.Wf) :
  Calls Try.prog 38 #[.agg (f.cells dv rv).toArray] w fun e w' => e = .returned (.bool (asksB f)) ∧ Below w.heap.size w w' := by
 have H0 : Hid ((f.cells dv rv)[0]? = some (.int .i64 f.kind)) := Qh rfl
 have hkd := hw.kind
 obtain ⟨b, hb⟩ : ∃ b, asksB f = b := ⟨_, rfl⟩
 have hb2 : decide (f.kind ≠ 0 ∧ f.kind ≠ 2 ∧ f.kind ≠ 28) = b := hb
 rw [hb]
 obtain ⟨k, hkk⟩ : ∃ y, f.kind = y := ⟨_, rfl⟩
 rw [hkk] at H0 hkd hb2
 obtain ⟨RF, hRF⟩ : ∃ R, f.cells dv rv = R := ⟨_, rfl⟩
 rw [hRF] at H0 ⊢
 have HB := Qh (Below.refl w.heap.size w)
 clear hw hkk hRF hb
 by_cases h0 : k = 0
 ·
  subst h0
  obtain rfl : b = false := by rw [← hb2]; rfl
  clear hb2
  go_enter Try.func38, Try.ntmps38
  go_upto_region 1 with fail
  change Code.wp _ _ _ _ (w.alloc (.cells RF.toArray 39))
  have hb := (Below.refl w.heap.size w).alloc (Nat.le_refl _) (.cells RF.toArray 39)
  replace HB := Qh (bl_next HB.out HB.out.size hb)
  have HF := Qh (heap_alloc_new w (.cells RF.toArray 39))
  clear hb
  generalize w.alloc (.cells RF.toArray 39) = w1 at HB HF ⊢
  obtain ⟨gf, hg⟩ : ∃ g, w.heap.size = g := ⟨_, rfl⟩
  rw [hg] at HF ⊢
  clear hg
  have c0 := cell_row HF.out 0 _ H0.out
  go_wp2_with fail
  go_ret
  exact ⟨by first | rfl | (simp; done), HB.out⟩
 by_cases h2 : k = 2
 ·
  subst h2
  obtain rfl : b = false := by rw [← hb2]; rfl
  clear hb2 h0
  go_enter Try.func38, Try.ntmps38
  go_upto_region 1 with fail
  change Code.wp _ _ _ _ (w.alloc (.cells RF.toArray 39))
  have hb := (Below.refl w.heap.size w).alloc (Nat.le_refl _) (.cells RF.toArray 39)
  replace HB := Qh (bl_next HB.out HB.out.size hb)
  have HF := Qh (heap_alloc_new w (.cells RF.toArray 39))
  clear hb
  generalize w.alloc (.cells RF.toArray 39) = w1 at HB HF ⊢
  obtain ⟨gf, hg⟩ : ∃ g, w.heap.size = g := ⟨_, rfl⟩
  rw [hg] at HF ⊢
  clear hg
  have c0 := cell_row HF.out 0 _ H0.out
  go_wp2_with fail
  go_ret
  exact ⟨by first | rfl | (simp; done), HB.out⟩
 by_cases h28 : k = 28
 ·
  subst h28
  obtain rfl : b = false := by rw [← hb2]; rfl
  clear hb2 h0 h2
  go_enter Try.func38, Try.ntmps38
  go_upto_region 1 with fail
  change Code.wp _ _ _ _ (w.alloc (.cells RF.toArray 39))
  have hb := (Below.refl w.heap.size w).alloc (Nat.le_refl _) (.cells RF.toArray 39)
  replace HB := Qh (bl_next HB.out HB.out.size hb)
  have HF := Qh (heap_alloc_new w (.cells RF.toArray 39))
  clear hb
  generalize w.alloc (.cells RF.toArray 39) = w1 at HB HF ⊢
  obtain ⟨gf, hg⟩ : ∃ g, w.heap.size = g := ⟨_, rfl⟩
  rw [hg] at HF ⊢
  clear hg
  have c0 := cell_row HF.out 0 _ H0.out
  go_wp2_with fail
  go_ret
  exact ⟨by first | rfl | (simp; done), HB.out⟩
 obtain rfl : b = true := by rw [← hb2]; simp [h0, h2, h28]
 have e0 : (k != 0) = true := by simpa using h0
 have e2 : (k != 2) = true := by simpa using h2
 have e28 : (k != 28) = true := by simpa using h28
 clear hb2 h0 h2 h28
 go_enter Try.func38, Try.ntmps38
 go_upto_region 1 with fail
 change Code.wp _ _ _ _ (w.alloc (.cells RF.toArray 39))
 have hb := (Below.refl w.heap.size w).alloc (Nat.le_refl _) (.cells RF.toArray 39)
 replace HB := Qh (bl_next HB.out HB.out.size hb)
 have HF := Qh (heap_alloc_new w (.cells RF.toArray 39))
 clear hb
 generalize w.alloc (.cells RF.toArray 39) = w1 at HB HF ⊢
 obtain ⟨gf, hg⟩ : ∃ g, w.heap.size = g := ⟨_, rfl⟩
 rw [hg] at HF ⊢
 clear hg
 have c0 := cell_row HF.out 0 _ H0.out
 go_wp2_with fail
 go_ret
 exact ⟨by first | rfl | (simp; done), HB.out⟩
end Go.Proofs.Ytmbjepcbokbemaa
namespace Go.Proofs.Ytmbjepcbokbemaa
open Go.RowKit
theorem WrU.from {w y z : World} {B p : Nat} {v : Value} {bs : List Int} (hb : Below w.heap.size w y) (h : WrU y B p v z bs) : WrU w B p v z bs := by
 obtain ⟨v', h1, h2, h3⟩ := h
 refine ⟨v', h1, ⟨h2.os.trans hb.os, h2.tape.trans hb.tape, h2.output.trans hb.output, Nat.le_trans hb.size h2.size, fun i hi hip hiq => (h2.block i (Nat.lt_of_lt_of_le hi hb.size) hip hiq).trans (hb.block i hi)⟩, ?_⟩
 rcases h3 with e | ⟨k, hk, e⟩
 ·
  exact .inl e
 ·
  exact .inr ⟨k, Nat.le_trans hb.size hk, e⟩
theorem pa_gap {x1 x2 x4 x5 x8 x9 x10 x11 x12 x13 x14 x15 x16 x17 x18 x19 x20 x21 x22 x23 x24 x25 x26 x27 x28 x29 x30 x31 x32 x33 x34 x35 x36 x37 x38 x39 x40 x41 x42 x43 x44 x45 x46 x47 x48 x49 x50 x51 x52 x53 x54 x55 x56 x57 x58 x59 x60 x61 x62 x63 : Value} {p gf gr i n cp B ab ao : Nat} {v : Value} {bs : List Int} {RF : List Value} {lo hi lo2 : Int} (w : World) {Q : Exit → Act → World → Prop}
  (HW : Hid (Wr w B p v bs)) (hbl : bs.length ≤ 100000) (HF : Hid (w.heap[gf]? = some (.cells RF.toArray 39 (0, 0)))) (H10 : Hid (RF[10]? = some (.slice (some ⟨ab, ao, none⟩) n cp))) (HG : Hid (w.heap[gr]? = some (.cells ([.int .u64 lo, .int .u64 hi] : List Value).toArray 71 (0, 0)))) (HC : Hid (w.cell? ⟨ab, ao + (i + 1) * 2, none⟩ = some (.int .u64 lo2))) (hin : i + 1 < n) (hn : n ≤ 16) (hlo : 0 ≤ lo ∧ lo < hi ∧ hi < lo2 ∧ lo2 ≤ 4611686018427387904) (HD : Hid ((gf ≠ p ∧ v.ownBlock ≠ some gf) ∧ (gr ≠ p ∧ v.ownBlock ≠ some gr) ∧ (ab ≠ p ∧ v.ownBlock ≠ some ab) ∧ ab < w.heap.size))
  (hQp : ∀ c a d v w, Q (.panic c) (a.put d v) w → Q (.panic c) a w)
  (hQ : ∀ (y44 y45 y46 y47 y48 y49 y50 y51 y52 y53 y54 y55 y56 y57 y58 y59 y60 y61 y62 y63 : Value) (w' : World), Hid (WrU w B p v w' (bs ++ varsM [lo2 - hi - 1, hi - 1 - lo])) → Q .normal ⟨List.toArray (.pointer (some ⟨p, 0, none⟩) :: x1 :: x2 :: .pointer (some ⟨gf, 0, none⟩) :: x4 :: x5 :: .int .i64 i :: .pointer (some ⟨gr, 0, none⟩) :: x8 :: x9 :: x10 :: x11 :: x12 :: x13 :: x14 :: x15 :: x16 :: x17 :: x18 :: x19 :: x20 :: x21 :: x22 :: x23 :: x24 :: x25 :: x26 :: x27 :: x28 :: x29 :: x30 :: x31 :: x32 :: x33 :: x34 :: x35 :: x36 :: x37 :: x38 :: x39 :: x40 :: x41 :: x42 :: x43 :: y44 :: y45 :: y46 :: y47 :: y48 :: y49 :: y50 :: y51 :: y52 :: y53 :: y54 :: y55 :: y56 :: y57 :: y58 :: y59 :: y60 :: y61 :: y62 :: y63 :: []), []⟩ w') :
  Code.wp Try.prog (((Try.f55.body.bind (subRegion 8)).getD .skip)) Q ⟨List.toArray (.pointer (some ⟨p, 0, none⟩) :: x1 :: x2 :: .pointer (some ⟨gf, 0, none⟩) :: x4 :: x5 :: .int .i64 i :: .pointer (some ⟨gr, 0, none⟩) :: x8 :: x9 :: x10 :: x11 :: x12 :: x13 :: x14 :: x15 :: x16 :: x17 :: x18 :: x19 :: x20 :: x21 :: x22 :: x23 :: x24 :: x25 :: x26 :: x27 :: x28 :: x29 :: x30 :: x31 :: x32 :: x33 :: x34 :: x35 :: x36 :: x37 :: x38 :: x39 :: x40 :: x41 :: x42 :: x43 :: x44 :: x45 :: x46 :: x47 :: x48 :: x49 :: x50 :: x51 :: x52 :: x53 :: x54 :: x55 :: x56 :: x57 :: x58 :: x59 :: x60 :: x61 :: x62 :: x63 :: []), []⟩ w := by
 have HK := Qh hQ; have HKP := Qh hQp
 clear hQ hQp
 conv => arg 2; whnf
 obtain ⟨l1, l2, l3, l4⟩ := hlo
 have g0 : ∀ z : In (fun y => y.heap[gf]? = some (.cells RF.toArray 39 (0, 0)) ∧ y.heap[gr]? = some (.cells ([.int .u64 lo, .int .u64 hi] : List Value).toArray 71 (0, 0)) ∧ y.cell? ⟨ab, ao + (i + 1) * 2, none⟩ = some (.int .u64 lo2)), z.w.cell? ⟨gf, 10, none⟩ = some (.slice (some ⟨ab, ao, none⟩) n cp) := fun z => cell_row z.h.1 10 _ H10.out
 have g1 : ∀ z : In (fun y => y.heap[gf]? = some (.cells RF.toArray 39 (0, 0)) ∧ y.heap[gr]? = some (.cells ([.int .u64 lo, .int .u64 hi] : List Value).toArray 71 (0, 0)) ∧ y.cell? ⟨ab, ao + (i + 1) * 2, none⟩ = some (.int .u64 lo2)), z.w.cell? ⟨gr, 0, none⟩ = some (.int .u64 lo) := fun z => row_cell z.h.2.1 0 _ rfl
 have g2 : ∀ z : In (fun y => y.heap[gf]? = some (.cells RF.toArray 39 (0, 0)) ∧ y.heap[gr]? = some (.cells ([.int .u64 lo, .int .u64 hi] : List Value).toArray 71 (0, 0)) ∧ y.cell? ⟨ab, ao + (i + 1) * 2, none⟩ = some (.int .u64 lo2)), z.w.cell? ⟨gr, 1, none⟩ = some (.int .u64 hi) := fun z => row_cell z.h.2.1 1 _ rfl
 have g3 : ∀ z : In (fun y => y.heap[gf]? = some (.cells RF.toArray 39 (0, 0)) ∧ y.heap[gr]? = some (.cells ([.int .u64 lo, .int .u64 hi] : List Value).toArray 71 (0, 0)) ∧ y.cell? ⟨ab, ao + (i + 1) * 2, none⟩ = some (.int .u64 lo2)), z.w.cell? ⟨ab, ao + (i + 1) * 2, none⟩ = some (.int .u64 lo2) := fun z => z.h.2.2
 refine wp_plan (.t 0 (.t 1 (.t 2 (.t 3 (.t 4 (.t 5 (.t 6 (.t 7 (.t 8 (.t 9 (.t 10 (.t 11 (.t 12 (.t 13 (.t 14 (.t 15 (.t 16 (.t 17 (.u 18 (.u 19 .done)))))))))))))))))))) (fun y => y.heap[gf]? = some (.cells RF.toArray 39 (0, 0)) ∧ y.heap[gr]? = some (.cells ([.int .u64 lo, .int .u64 hi] : List Value).toArray 71 (0, 0)) ∧ y.cell? ⟨ab, ao + (i + 1) * 2, none⟩ = some (.int .u64 lo2)) (by kernel_rfl) (by kernel_rfl) (by kernel_rfl) (fun c a d v w h => by first | (cases d <;> exact h) | exact HKP.out c a d v w h) ⟨HF.out, HG.out, HC.out⟩ ?_
 have hdr := (Below.refl w.heap.size w).drew
 have HB := Qh hdr
 have hS : w.drew.heap[gf]? = _ ∧ w.drew.heap[gr]? = _ ∧ w.drew.cell? _ = _ := ⟨HF.out, HG.out, HC.out⟩
 generalize w.drew = w1 at HB hS hdr ⊢
 clear hdr
 haveI hne : Nonempty (In (fun y => y.heap[gf]? = some (.cells RF.toArray 39 (0, 0)) ∧ y.heap[gr]? = some (.cells ([.int .u64 lo, .int .u64 hi] : List Value).toArray 71 (0, 0)) ∧ y.cell? ⟨ab, ao + (i + 1) * 2, none⟩ = some (.int .u64 lo2))) := ⟨⟨w1, hS⟩⟩
 repeat (first | (refine plan_t (by rfl) ?_; (first | go_big_quiet_skip | (go_big_quiet_want; go_big_quiet_op; go_big_quiet_on)); refine wpQuiet_nil ?_))
 clear g0 g1 g2 g3
 have HS := Qh hS
 clear hS
 refine plan_us (by rfl) (by kernel_rfl) ?_
 intro K hK
 go_wp2_with fail
 have hal := (Below.refl w1.heap.size w1).alloc (Nat.le_refl _) (.cells ([.int .u64 (lo2 - hi - 1), .int .u64 (hi - 1 - lo)] : List Value).toArray 34)
 have hrow := heap_alloc_new w1 (.cells ([.int .u64 (lo2 - hi - 1), .int .u64 (hi - 1 - lo)] : List Value).toArray 34)
 have hsz := HB.out.size
 have hab : ab < w1.heap.size := Nat.lt_of_lt_of_le HD.out.2.2.2 hsz
 have hpl := (HW.out.to HB.out).lt
 have hol : v.ownBlock ≠ some w1.heap.size := fun e => by have := ((HW.out.to HB.out).own.lt _ e).2; omega
 have hS2 : ((w1.alloc (.cells ([.int .u64 (lo2 - hi - 1), .int .u64 (hi - 1 - lo)] : List Value).toArray 34)).heap[gf]? = some (.cells RF.toArray 39 (0, 0)) ∧ (w1.alloc (.cells ([.int .u64 (lo2 - hi - 1), .int .u64 (hi - 1 - lo)] : List Value).toArray 34)).heap[gr]? = some (.cells ([.int .u64 lo, .int .u64 hi] : List Value).toArray 71 (0, 0)) ∧ (w1.alloc (.cells ([.int .u64 (lo2 - hi - 1), .int .u64 (hi - 1 - lo)] : List Value).toArray 34)).cell? ⟨ab, ao + (i + 1) * 2, none⟩ = some (.int .u64 lo2)) := ⟨bl_row hal (lt_of_block HS.out.1) HS.out.1, bl_row hal (lt_of_block HS.out.2.1) HS.out.2.1, bl_cell hal (p := ⟨ab, ao + (i + 1) * 2, none⟩) hab HS.out.2.2⟩
 refine ⟨hS2, ?_⟩
 have hw2 := (HW.out.to HB.out).to hal
 have hb2 := bl_next HB.out HB.out.size hal
 have hab2 := Nat.lt_of_lt_of_le hab hal.size
 change Plan.wp _ _ _ _ _ _ (w1.alloc (.cells ([.int .u64 (lo2 - hi - 1), .int .u64 (hi - 1 - lo)] : List Value).toArray 34))
 generalize w1.alloc (.cells ([.int .u64 (lo2 - hi - 1), .int .u64 (hi - 1 - lo)] : List Value).toArray 34) = w2 at hS2 hw2 hb2 hrow hab2 ⊢
 clear hal HB hab hsz
 obtain ⟨gs, hgs⟩ : ∃ g, w1.heap.size = g := ⟨_, rfl⟩
 rw [hgs] at hrow hpl hol ⊢
 clear hgs HS
 have hcl := vars4_any w2 B p v bs (some ⟨gs, 0, none⟩) 2 2 [lo2 - hi - 1, hi - 1 - lo] (by omega) (by omega) hw2 (IntsK.of_row (zs := [lo2 - hi - 1, hi - 1 - lo]) hrow (fun x hx => by simp only [List.mem_cons, List.not_mem_nil, or_false] at hx; rcases hx with rfl | rfl <;> exact wf_u64r (by omega) (by omega))) (fun x hx => by injection hx with hx; subst hx; exact ⟨by simp only; omega, hol⟩)
 have HCL := Qh hcl; have HS2 := Qh hS2; have HB2 := Qh hb2
 clear hcl hS2 hw2 hb2 hrow hpl hol
 refine plan_us (by rfl) (by kernel_rfl) ?_
 intro K2 hK2
 go_wp2_with fail
 refine Calls.mono HCL.out ?_
 rintro e w3 ⟨rfl, hu⟩
 obtain ⟨v', k1, k2, k3⟩ := hu
 have hc3 : w3.cell? ⟨ab, ao + (i + 1) * 2, none⟩ = some (.int .u64 lo2) := by have hbk := k2.block ab hab2 HD.out.2.2.1.1 HD.out.2.2.1.2; have h9 := HS2.out.2.2; unfold World.cell? at h9 ⊢; rw [hbk]; exact h9
 have hS3 : w3.heap[gf]? = _ ∧ w3.heap[gr]? = _ ∧ w3.cell? ⟨ab, ao + (i + 1) * 2, none⟩ = _ := ⟨(k2.block gf (lt_of_block HS2.out.1) HD.out.1.1 HD.out.1.2).trans HS2.out.1, (k2.block gr (lt_of_block HS2.out.2.1) HD.out.2.1.1 HD.out.2.1.2).trans HS2.out.2.1, hc3⟩
 have HU : Hid (WrU w B p v w3 (bs ++ varsM [lo2 - hi - 1, hi - 1 - lo])) := Qh (WrU.from HB2.out ⟨v', k1, k2, k3⟩)
 clear k1 k2 k3
 go_wp2_with fail
 refine ⟨hS3, ?_⟩
 clear hS3 hne
 show Q _ _ _
 exact HK.out _ _ _ _ _ _ _ _ _ _ _ _ _ _ _ _ _ _ _ _ w3 HU
end Go.Proofs.Ytmbjepcbokbemaa
namespace Go.Proofs.Ytmbjepcbokbemaa
open Go.RowKit
theorem gaps_one : ∀ {l : List (Int × Int)}, revGaps (l.take 1) = []
 | [] => rfl
 | [_] => rfl
 | _ :: _ :: _ => rfl
theorem gaps_snoc : ∀ {l : List (Int × Int)} {m : Nat} {a b : Int × Int}, l[m]? = some a → l[m + 1]? = some b → revGaps (l.take (m + 2)) = revGaps (l.take (m + 1)) ++ [a.1 - b.2 - 1, b.2 - 1 - b.1]
 | [], m, a, b, h, _ => by cases h
 | [x], m, a, b, _, h => by simp at h
 | x :: y :: l, 0, a, b, h1, h2 => by
  injection h1 with h1; injection h2 with h2
  subst h1; subst h2
  cases l <;> rfl
 | x :: y :: l, m + 1, a, b, h1, h2 => by
  have ih := gaps_snoc (l := y :: l) (m := m) (a := a) (b := b) h1 h2
  have e1 : revGaps ((x :: y :: l).take (m + 1 + 2)) = (x.1 - y.2 - 1) :: (y.2 - 1 - y.1) :: revGaps ((y :: l).take (m + 2)) := rfl
  have e2 : revGaps ((x :: y :: l).take (m + 1 + 1)) = (x.1 - y.2 - 1) :: (y.2 - 1 - y.1) :: revGaps ((y :: l).take (m + 1)) := rfl
  rw [e1, e2, ih]; rfl
theorem rev_at {α : Type} {l : List α} {n m : Nat} (hl : l.length = n) (hm : m < n) : l.reverse[m]? = l[n - 1 - m]? := by
 rw [List.getElem?_reverse (by omega), hl]
theorem varsM_app (a b : List Int) : varsM (a ++ b) = varsM a ++ varsM b := by unfold varsM; simp
end Go.Proofs.Ytmbjepcbokbemaa
