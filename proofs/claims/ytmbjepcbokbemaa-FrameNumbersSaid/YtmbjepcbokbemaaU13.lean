/- texts of the proof, laid together: FrmB, FrmC, FrmD, FrmE, FrmF, Fra, Frb, Grow3, PutR, OctS. -/
import Derived.Test.YtmbjepcbokbemaaU4
import Derived.Test.YtmbjepcbokbemaaU1
import Derived.Deep.DeepCutAuto
import Derived.Deep.CutBlock
set_option linter.unusedVariables false
set_option linter.unusedSimpArgs false
set_option maxRecDepth 100000
set_option maxHeartbeats 16000000
namespace Go.Proofs.Ytmbjepcbokbemaa
open Go.RowKit
theorem rsmall_any (w : World) (a : Option Addr) (len cap : Nat) (zs : List Int) (hI : IntsK .u64 w a len zs) (hlen : len ≤ 1000) :
  Calls Try.prog 40 #[.slice a len cap] w fun e w' => e = .returned (.bool (zs.all inB)) ∧ w = w' := by
 have HI := Qh hI
 have hl := hI.1
 clear hI
 go_enter Try.func40, Try.ntmps40
 go_wp2_with fail
 go_loop [3] (fun s8 => ∃ j : Nat, s8 = .int .i64 j ∧ j ≤ len ∧ Hid ((zs.take j).all inB = true)) (fun s8 => len - (intOf s8).toNat)
 case atStart => exact ⟨0, rfl, by omega, Qh rfl⟩
 case round =>
  obtain ⟨j, rfl, hj, HN⟩ := hrel
  by_cases hlt : j < len
  ·
   obtain ⟨b, off, x, rfl, hbl, hx, hwx, hc⟩ := HI.out.at (Below.refl _ _) (j := j) hlt
   have hjj : zs[j]? = some x := by rw [hx, List.getD_eq_getElem?_getD, List.getElem?_eq_getElem (by omega)]; rfl
   have HTS := Qh (take_snd4 hjj)
   have HMEM : Hid (x ∈ zs) := Qh (List.mem_of_getElem? hjj)
   have hux : U64 x := bdU64 hwx
   obtain ⟨hu1, hu2⟩ := hux
   clear hx hwx hjj
   by_cases hv : x ≤ 4611686018427387903
   ·
    have HV : Hid (inB x = true) := Qh (inB_iff.2 hv)
    go_wp2_with fail
    go_round
    case rel => exact ⟨j + 1, by go_num, by omega, Qh (by rw [HTS.out, List.all_append, HN.out]; simp [HV.out])⟩
    case measure => simp [intOf]; omega
   ·
    have HV : Hid (zs.all inB = false) := Qh (by
     cases h : zs.all inB with
     | false => rfl
     | true => exact absurd (inB_iff.1 (List.all_eq_true.1 h x HMEM.out)) hv)
    go_wp2_with fail
    go_ret
    exact ⟨by rw [HV.out]; rfl, rfl⟩
  ·
   obtain rfl : j = len := by omega
   have HNI : Hid (zs.all inB = true) := Qh (by have h := HN.out; rw [List.take_of_length_le (by omega)] at h; exact h)
   go_wp2_with fail
   go_ret
   exact ⟨by rw [HNI.out]; rfl, rfl⟩
end Go.Proofs.Ytmbjepcbokbemaa
namespace Go.Proofs.Ytmbjepcbokbemaa
open Go.RowKit
theorem rright4_0 (w : World) (f : Fr) (dv rv : Value) (h : FrAt w f dv rv) (hk : f.kind = 0) :
  Calls Try.prog 18 #[.agg (f.cells dv rv).toArray] w fun e w' => e = .returned (.bool (rightB f)) ∧ Below w.heap.size w w' := by
 have hR : rightB f = (true) := by unfold rightB; simp [hk]
 rw [hR]
 have hwf := h.wf
 have HRF : Hid ((f.cells dv rv).length = 19) := Qh (Fr.len hwf)
 have H0 : Hid ((f.cells dv rv)[0]? = some (.int .i64 0)) := Qh (by rw [← hk]; rfl)
 obtain ⟨RF, hRF⟩ : ∃ R, f.cells dv rv = R := ⟨_, rfl⟩
 simp only [hRF] at HRF H0
 rw [hRF]
 clear hwf h hR hRF
 go_enter Try.func18, Try.ntmps18
 go_upto_region 1 with fail
 change Code.wp _ _ _ _ (w.alloc (.cells RF.toArray 39))
 have HB := Qh (Below.refl w.heap.size w)
 have hb := (Below.refl w.heap.size w).alloc (Nat.le_refl _) (.cells RF.toArray 39)
 replace HB := Qh (bl_next HB.out HB.out.size hb)
 have HF := Qh (heap_alloc_new w (.cells RF.toArray 39))
 clear hb
 generalize w.alloc (.cells RF.toArray 39) = w1 at HB HF ⊢
 obtain ⟨gf, hg⟩ : ∃ g, w.heap.size = g := ⟨_, rfl⟩
 rw [hg] at HF ⊢
 clear hg
 have c0 := cell_row HF.out 0 _ H0.out
 go_wp2_with fail
 go_ret
 exact ⟨by first | rfl | (simp; done) | (simp; omega), HB.out⟩
theorem rright4_1 (w : World) (f : Fr) (dv rv : Value) (h : FrAt w f dv rv) (hk : f.kind = 1) :
  Calls Try.prog 18 #[.agg (f.cells dv rv).toArray] w fun e w' => e = .returned (.bool (rightB f)) ∧ Below w.heap.size w w' := by
 have hR : rightB f = (true) := by unfold rightB; simp [hk]
 rw [hR]
 have hwf := h.wf
 have HRF : Hid ((f.cells dv rv).length = 19) := Qh (Fr.len hwf)
 have H0 : Hid ((f.cells dv rv)[0]? = some (.int .i64 1)) := Qh (by rw [← hk]; rfl)
 obtain ⟨RF, hRF⟩ : ∃ R, f.cells dv rv = R := ⟨_, rfl⟩
 simp only [hRF] at HRF H0
 rw [hRF]
 clear hwf h hR hRF
 go_enter Try.func18, Try.ntmps18
 go_upto_region 1 with fail
 change Code.wp _ _ _ _ (w.alloc (.cells RF.toArray 39))
 have HB := Qh (Below.refl w.heap.size w)
 have hb := (Below.refl w.heap.size w).alloc (Nat.le_refl _) (.cells RF.toArray 39)
 replace HB := Qh (bl_next HB.out HB.out.size hb)
 have HF := Qh (heap_alloc_new w (.cells RF.toArray 39))
 clear hb
 generalize w.alloc (.cells RF.toArray 39) = w1 at HB HF ⊢
 obtain ⟨gf, hg⟩ : ∃ g, w.heap.size = g := ⟨_, rfl⟩
 rw [hg] at HF ⊢
 clear hg
 have c0 := cell_row HF.out 0 _ H0.out
 go_wp2_with fail
 go_ret
 exact ⟨by first | rfl | (simp; done) | (simp; omega), HB.out⟩
theorem rright4_30 (w : World) (f : Fr) (dv rv : Value) (h : FrAt w f dv rv) (hk : f.kind = 30) :
  Calls Try.prog 18 #[.agg (f.cells dv rv).toArray] w fun e w' => e = .returned (.bool (rightB f)) ∧ Below w.heap.size w w' := by
 have hR : rightB f = (true) := by unfold rightB; simp [hk]
 rw [hR]
 have hwf := h.wf
 have HRF : Hid ((f.cells dv rv).length = 19) := Qh (Fr.len hwf)
 have H0 : Hid ((f.cells dv rv)[0]? = some (.int .i64 30)) := Qh (by rw [← hk]; rfl)
 obtain ⟨RF, hRF⟩ : ∃ R, f.cells dv rv = R := ⟨_, rfl⟩
 simp only [hRF] at HRF H0
 rw [hRF]
 clear hwf h hR hRF
 go_enter Try.func18, Try.ntmps18
 go_upto_region 1 with fail
 change Code.wp _ _ _ _ (w.alloc (.cells RF.toArray 39))
 have HB := Qh (Below.refl w.heap.size w)
 have hb := (Below.refl w.heap.size w).alloc (Nat.le_refl _) (.cells RF.toArray 39)
 replace HB := Qh (bl_next HB.out HB.out.size hb)
 have HF := Qh (heap_alloc_new w (.cells RF.toArray 39))
 clear hb
 generalize w.alloc (.cells RF.toArray 39) = w1 at HB HF ⊢
 obtain ⟨gf, hg⟩ : ∃ g, w.heap.size = g := ⟨_, rfl⟩
 rw [hg] at HF ⊢
 clear hg
 have c0 := cell_row HF.out 0 _ H0.out
 go_wp2_with fail
 go_ret
 exact ⟨by first | rfl | (simp; done) | (simp; omega), HB.out⟩
theorem rright4_26 (w : World) (f : Fr) (dv rv : Value) (h : FrAt w f dv rv) (hk : f.kind = 26) :
  Calls Try.prog 18 #[.agg (f.cells dv rv).toArray] w fun e w' => e = .returned (.bool (rightB f)) ∧ Below w.heap.size w w' := by
 have hR : rightB f = (true) := by unfold rightB; simp [hk]
 rw [hR]
 have hwf := h.wf
 have HRF : Hid ((f.cells dv rv).length = 19) := Qh (Fr.len hwf)
 have H0 : Hid ((f.cells dv rv)[0]? = some (.int .i64 26)) := Qh (by rw [← hk]; rfl)
 obtain ⟨RF, hRF⟩ : ∃ R, f.cells dv rv = R := ⟨_, rfl⟩
 simp only [hRF] at HRF H0
 rw [hRF]
 clear hwf h hR hRF
 go_enter Try.func18, Try.ntmps18
 go_upto_region 1 with fail
 change Code.wp _ _ _ _ (w.alloc (.cells RF.toArray 39))
 have HB := Qh (Below.refl w.heap.size w)
 have hb := (Below.refl w.heap.size w).alloc (Nat.le_refl _) (.cells RF.toArray 39)
 replace HB := Qh (bl_next HB.out HB.out.size hb)
 have HF := Qh (heap_alloc_new w (.cells RF.toArray 39))
 clear hb
 generalize w.alloc (.cells RF.toArray 39) = w1 at HB HF ⊢
 obtain ⟨gf, hg⟩ : ∃ g, w.heap.size = g := ⟨_, rfl⟩
 rw [hg] at HF ⊢
 clear hg
 have c0 := cell_row HF.out 0 _ H0.out
 go_wp2_with fail
 go_ret
 exact ⟨by first | rfl | (simp; done) | (simp; omega), HB.out⟩
theorem rright4_27 (w : World) (f : Fr) (dv rv : Value) (h : FrAt w f dv rv) (hk : f.kind = 27) :
  Calls Try.prog 18 #[.agg (f.cells dv rv).toArray] w fun e w' => e = .returned (.bool (rightB f)) ∧ Below w.heap.size w w' := by
 have hR : rightB f = (true) := by unfold rightB; simp [hk]
 rw [hR]
 have hwf := h.wf
 have HRF : Hid ((f.cells dv rv).length = 19) := Qh (Fr.len hwf)
 have H0 : Hid ((f.cells dv rv)[0]? = some (.int .i64 27)) := Qh (by rw [← hk]; rfl)
 obtain ⟨RF, hRF⟩ : ∃ R, f.cells dv rv = R := ⟨_, rfl⟩
 simp only [hRF] at HRF H0
 rw [hRF]
 clear hwf h hR hRF
 go_enter Try.func18, Try.ntmps18
 go_upto_region 1 with fail
 change Code.wp _ _ _ _ (w.alloc (.cells RF.toArray 39))
 have HB := Qh (Below.refl w.heap.size w)
 have hb := (Below.refl w.heap.size w).alloc (Nat.le_refl _) (.cells RF.toArray 39)
 replace HB := Qh (bl_next HB.out HB.out.size hb)
 have HF := Qh (heap_alloc_new w (.cells RF.toArray 39))
 clear hb
 generalize w.alloc (.cells RF.toArray 39) = w1 at HB HF ⊢
 obtain ⟨gf, hg⟩ : ∃ g, w.heap.size = g := ⟨_, rfl⟩
 rw [hg] at HF ⊢
 clear hg
 have c0 := cell_row HF.out 0 _ H0.out
 go_wp2_with fail
 go_ret
 exact ⟨by first | rfl | (simp; done) | (simp; omega), HB.out⟩
theorem rright4_4 (w : World) (f : Fr) (dv rv : Value) (h : FrAt w f dv rv) (hk : f.kind = 4) :
  Calls Try.prog 18 #[.agg (f.cells dv rv).toArray] w fun e w' => e = .returned (.bool (rightB f)) ∧ Below w.heap.size w w' := by
 have hR : rightB f = (inB f.st && inB f.co && decide (f.fi ≤ 1099511627776)) := by unfold rightB; simp [hk]
 rw [hR]
 have hwf := h.wf
 have HRF : Hid ((f.cells dv rv).length = 19) := Qh (Fr.len hwf)
 have H0 : Hid ((f.cells dv rv)[0]? = some (.int .i64 4)) := Qh (by rw [← hk]; rfl)
 have H_st : Hid ((f.cells dv rv)[1]? = some (.int .u64 f.st)) := Qh rfl
 have u_st := hwf.st
 simp only [U64] at u_st
 have H_co : Hid ((f.cells dv rv)[6]? = some (.int .u64 f.co)) := Qh rfl
 have u_co := hwf.co
 simp only [U64] at u_co
 have H_fi : Hid ((f.cells dv rv)[7]? = some (.int .u64 f.fi)) := Qh rfl
 have u_fi := hwf.fi
 simp only [U64] at u_fi
 obtain ⟨RF, hRF⟩ : ∃ R, f.cells dv rv = R := ⟨_, rfl⟩
 simp only [hRF] at HRF H0 H_st H_co H_fi
 rw [hRF]
 obtain ⟨st, h_st⟩ : ∃ y, f.st = y := ⟨_, rfl⟩
 rw [h_st] at H_st u_st
 try rw [h_st]
 obtain ⟨u1_st, u2_st⟩ := u_st
 clear h_st
 obtain ⟨co, h_co⟩ : ∃ y, f.co = y := ⟨_, rfl⟩
 rw [h_co] at H_co u_co
 try rw [h_co]
 obtain ⟨u1_co, u2_co⟩ := u_co
 clear h_co
 obtain ⟨fi, h_fi⟩ : ∃ y, f.fi = y := ⟨_, rfl⟩
 rw [h_fi] at H_fi u_fi
 try rw [h_fi]
 obtain ⟨u1_fi, u2_fi⟩ := u_fi
 clear h_fi
 obtain ⟨b1, hb1⟩ : ∃ b, (inB st && inB co) = b := ⟨_, rfl⟩
 rw [hb1]
 have Hb1 := Qh hb1
 clear hb1
 clear hwf h hR hRF
 go_enter Try.func18, Try.ntmps18
 go_upto_region 1 with fail
 change Code.wp _ _ _ _ (w.alloc (.cells RF.toArray 39))
 have HB := Qh (Below.refl w.heap.size w)
 have hb := (Below.refl w.heap.size w).alloc (Nat.le_refl _) (.cells RF.toArray 39)
 replace HB := Qh (bl_next HB.out HB.out.size hb)
 have HF := Qh (heap_alloc_new w (.cells RF.toArray 39))
 clear hb
 generalize w.alloc (.cells RF.toArray 39) = w1 at HB HF ⊢
 obtain ⟨gf, hg⟩ : ∃ g, w.heap.size = g := ⟨_, rfl⟩
 rw [hg] at HF ⊢
 clear hg
 have c0 := cell_row HF.out 0 _ H0.out
 have c_st := cell_row HF.out 1 _ H_st.out
 have c_co := cell_row HF.out 6 _ H_co.out
 have c_fi := cell_row HF.out 7 _ H_fi.out
 have hin := rsmall_any (w1.alloc (.cells ([.int .u64 st, .int .u64 co] : List Value).toArray 34)) (some ⟨w1.heap.size, 0, none⟩) 2 2 [st, co] (IntsK.of_row (zs := [st, co]) (heap_alloc_new _ _) (fun x hx => by simp only [List.mem_cons, List.not_mem_nil, or_false] at hx; rcases hx with rfl | rfl <;> exact wf_u64r (by omega) (by omega))) (by omega)
 rw [show ([st, co].all inB) = b1 by rw [← Hb1.out]; simp] at hin
 have HIN := Qh hin
 clear hin
 go_wp2_with fail
 refine Calls.mono HIN.out ?_
 rintro e wq ⟨rfl, rfl⟩
 clear HIN
 clear c0 c_st c_co c_fi
 have hb := (Below.refl w1.heap.size w1).alloc (Nat.le_refl _) (.cells ([.int .u64 st, .int .u64 co] : List Value).toArray 34)
 replace HB := Qh (bl_next HB.out HB.out.size hb)
 replace HF := Qh (bl_row hb (lt_of_block HF.out) HF.out)
 have HGb1 := Qh (heap_alloc_new w1 (.cells ([.int .u64 st, .int .u64 co] : List Value).toArray 34))
 clear hb
 generalize w1.alloc (.cells ([.int .u64 st, .int .u64 co] : List Value).toArray 34) = w2 at HB HF HGb1 ⊢
 obtain ⟨gb1, hg⟩ : ∃ g, w1.heap.size = g := ⟨_, rfl⟩
 rw [hg] at HGb1 ⊢
 clear hg
 have c0 := cell_row HF.out 0 _ H0.out
 have c_st := cell_row HF.out 1 _ H_st.out
 have c_co := cell_row HF.out 6 _ H_co.out
 have c_fi := cell_row HF.out 7 _ H_fi.out
 cases b1
 ·
  go_wp2_with fail
  go_ret
  exact ⟨by first | rfl | (simp; done) | (simp; omega), HB.out⟩
 ·
  go_wp2_with fail
  go_ret
  exact ⟨by first | rfl | (simp; done) | (simp; omega), HB.out⟩
theorem rright4_5 (w : World) (f : Fr) (dv rv : Value) (h : FrAt w f dv rv) (hk : f.kind = 5) :
  Calls Try.prog 18 #[.agg (f.cells dv rv).toArray] w fun e w' => e = .returned (.bool (rightB f)) ∧ Below w.heap.size w w' := by
 have hR : rightB f = (inB f.st && inB f.co) := by unfold rightB; simp [hk]
 rw [hR]
 have hwf := h.wf
 have HRF : Hid ((f.cells dv rv).length = 19) := Qh (Fr.len hwf)
 have H0 : Hid ((f.cells dv rv)[0]? = some (.int .i64 5)) := Qh (by rw [← hk]; rfl)
 have H_st : Hid ((f.cells dv rv)[1]? = some (.int .u64 f.st)) := Qh rfl
 have u_st := hwf.st
 simp only [U64] at u_st
 have H_co : Hid ((f.cells dv rv)[6]? = some (.int .u64 f.co)) := Qh rfl
 have u_co := hwf.co
 simp only [U64] at u_co
 obtain ⟨RF, hRF⟩ : ∃ R, f.cells dv rv = R := ⟨_, rfl⟩
 simp only [hRF] at HRF H0 H_st H_co
 rw [hRF]
 obtain ⟨st, h_st⟩ : ∃ y, f.st = y := ⟨_, rfl⟩
 rw [h_st] at H_st u_st
 try rw [h_st]
 obtain ⟨u1_st, u2_st⟩ := u_st
 clear h_st
 obtain ⟨co, h_co⟩ : ∃ y, f.co = y := ⟨_, rfl⟩
 rw [h_co] at H_co u_co
 try rw [h_co]
 obtain ⟨u1_co, u2_co⟩ := u_co
 clear h_co
 obtain ⟨b1, hb1⟩ : ∃ b, (inB st && inB co) = b := ⟨_, rfl⟩
 rw [hb1]
 have Hb1 := Qh hb1
 clear hb1
 clear hwf h hR hRF
 go_enter Try.func18, Try.ntmps18
 go_upto_region 1 with fail
 change Code.wp _ _ _ _ (w.alloc (.cells RF.toArray 39))
 have HB := Qh (Below.refl w.heap.size w)
 have hb := (Below.refl w.heap.size w).alloc (Nat.le_refl _) (.cells RF.toArray 39)
 replace HB := Qh (bl_next HB.out HB.out.size hb)
 have HF := Qh (heap_alloc_new w (.cells RF.toArray 39))
 clear hb
 generalize w.alloc (.cells RF.toArray 39) = w1 at HB HF ⊢
 obtain ⟨gf, hg⟩ : ∃ g, w.heap.size = g := ⟨_, rfl⟩
 rw [hg] at HF ⊢
 clear hg
 have c0 := cell_row HF.out 0 _ H0.out
 have c_st := cell_row HF.out 1 _ H_st.out
 have c_co := cell_row HF.out 6 _ H_co.out
 have hin := rsmall_any (w1.alloc (.cells ([.int .u64 st, .int .u64 co] : List Value).toArray 34)) (some ⟨w1.heap.size, 0, none⟩) 2 2 [st, co] (IntsK.of_row (zs := [st, co]) (heap_alloc_new _ _) (fun x hx => by simp only [List.mem_cons, List.not_mem_nil, or_false] at hx; rcases hx with rfl | rfl <;> exact wf_u64r (by omega) (by omega))) (by omega)
 rw [show ([st, co].all inB) = b1 by rw [← Hb1.out]; simp] at hin
 have HIN := Qh hin
 clear hin
 go_wp2_with fail
 refine Calls.mono HIN.out ?_
 rintro e wq ⟨rfl, rfl⟩
 clear HIN
 clear c0 c_st c_co
 have hb := (Below.refl w1.heap.size w1).alloc (Nat.le_refl _) (.cells ([.int .u64 st, .int .u64 co] : List Value).toArray 34)
 replace HB := Qh (bl_next HB.out HB.out.size hb)
 replace HF := Qh (bl_row hb (lt_of_block HF.out) HF.out)
 have HGb1 := Qh (heap_alloc_new w1 (.cells ([.int .u64 st, .int .u64 co] : List Value).toArray 34))
 clear hb
 generalize w1.alloc (.cells ([.int .u64 st, .int .u64 co] : List Value).toArray 34) = w2 at HB HF HGb1 ⊢
 obtain ⟨gb1, hg⟩ : ∃ g, w1.heap.size = g := ⟨_, rfl⟩
 rw [hg] at HGb1 ⊢
 clear hg
 have c0 := cell_row HF.out 0 _ H0.out
 have c_st := cell_row HF.out 1 _ H_st.out
 have c_co := cell_row HF.out 6 _ H_co.out
 cases b1
 ·
  go_wp2_with fail
  go_ret
  exact ⟨by first | rfl | (simp; done) | (simp; omega), HB.out⟩
 ·
  go_wp2_with fail
  go_ret
  exact ⟨by first | rfl | (simp; done) | (simp; omega), HB.out⟩
theorem rright4_16 (w : World) (f : Fr) (dv rv : Value) (h : FrAt w f dv rv) (hk : f.kind = 16) :
  Calls Try.prog 18 #[.agg (f.cells dv rv).toArray] w fun e w' => e = .returned (.bool (rightB f)) ∧ Below w.heap.size w w' := by
 have hR : rightB f = (decide (f.li ≤ 1099511627776)) := by unfold rightB; simp [hk]
 rw [hR]
 have hwf := h.wf
 have HRF : Hid ((f.cells dv rv).length = 19) := Qh (Fr.len hwf)
 have H0 : Hid ((f.cells dv rv)[0]? = some (.int .i64 16)) := Qh (by rw [← hk]; rfl)
 have H_li : Hid ((f.cells dv rv)[5]? = some (.int .u64 f.li)) := Qh rfl
 have u_li := hwf.li
 simp only [U64] at u_li
 obtain ⟨RF, hRF⟩ : ∃ R, f.cells dv rv = R := ⟨_, rfl⟩
 simp only [hRF] at HRF H0 H_li
 rw [hRF]
 obtain ⟨li, h_li⟩ : ∃ y, f.li = y := ⟨_, rfl⟩
 rw [h_li] at H_li u_li
 try rw [h_li]
 obtain ⟨u1_li, u2_li⟩ := u_li
 clear h_li
 clear hwf h hR hRF
 go_enter Try.func18, Try.ntmps18
 go_upto_region 1 with fail
 change Code.wp _ _ _ _ (w.alloc (.cells RF.toArray 39))
 have HB := Qh (Below.refl w.heap.size w)
 have hb := (Below.refl w.heap.size w).alloc (Nat.le_refl _) (.cells RF.toArray 39)
 replace HB := Qh (bl_next HB.out HB.out.size hb)
 have HF := Qh (heap_alloc_new w (.cells RF.toArray 39))
 clear hb
 generalize w.alloc (.cells RF.toArray 39) = w1 at HB HF ⊢
 obtain ⟨gf, hg⟩ : ∃ g, w.heap.size = g := ⟨_, rfl⟩
 rw [hg] at HF ⊢
 clear hg
 have c0 := cell_row HF.out 0 _ H0.out
 have c_li := cell_row HF.out 5 _ H_li.out
 go_wp2_with fail
 go_ret
 exact ⟨by first | rfl | (simp; done) | (simp; omega), HB.out⟩
theorem rright4_17 (w : World) (f : Fr) (dv rv : Value) (h : FrAt w f dv rv) (hk : f.kind = 17) :
  Calls Try.prog 18 #[.agg (f.cells dv rv).toArray] w fun e w' => e = .returned (.bool (rightB f)) ∧ Below w.heap.size w w' := by
 have hR : rightB f = (inB f.st && decide (f.li ≤ 1099511627776)) := by unfold rightB; simp [hk]
 rw [hR]
 have hwf := h.wf
 have HRF : Hid ((f.cells dv rv).length = 19) := Qh (Fr.len hwf)
 have H0 : Hid ((f.cells dv rv)[0]? = some (.int .i64 17)) := Qh (by rw [← hk]; rfl)
 have H_st : Hid ((f.cells dv rv)[1]? = some (.int .u64 f.st)) := Qh rfl
 have u_st := hwf.st
 simp only [U64] at u_st
 have H_li : Hid ((f.cells dv rv)[5]? = some (.int .u64 f.li)) := Qh rfl
 have u_li := hwf.li
 simp only [U64] at u_li
 obtain ⟨RF, hRF⟩ : ∃ R, f.cells dv rv = R := ⟨_, rfl⟩
 simp only [hRF] at HRF H0 H_st H_li
 rw [hRF]
 obtain ⟨st, h_st⟩ : ∃ y, f.st = y := ⟨_, rfl⟩
 rw [h_st] at H_st u_st
 try rw [h_st]
 obtain ⟨u1_st, u2_st⟩ := u_st
 clear h_st
 obtain ⟨li, h_li⟩ : ∃ y, f.li = y := ⟨_, rfl⟩
 rw [h_li] at H_li u_li
 try rw [h_li]
 obtain ⟨u1_li, u2_li⟩ := u_li
 clear h_li
 obtain ⟨b1, hb1⟩ : ∃ b, (inB st) = b := ⟨_, rfl⟩
 rw [hb1]
 have Hb1 := Qh hb1
 clear hb1
 clear hwf h hR hRF
 go_enter Try.func18, Try.ntmps18
 go_upto_region 1 with fail
 change Code.wp _ _ _ _ (w.alloc (.cells RF.toArray 39))
 have HB := Qh (Below.refl w.heap.size w)
 have hb := (Below.refl w.heap.size w).alloc (Nat.le_refl _) (.cells RF.toArray 39)
 replace HB := Qh (bl_next HB.out HB.out.size hb)
 have HF := Qh (heap_alloc_new w (.cells RF.toArray 39))
 clear hb
 generalize w.alloc (.cells RF.toArray 39) = w1 at HB HF ⊢
 obtain ⟨gf, hg⟩ : ∃ g, w.heap.size = g := ⟨_, rfl⟩
 rw [hg] at HF ⊢
 clear hg
 have c0 := cell_row HF.out 0 _ H0.out
 have c_st := cell_row HF.out 1 _ H_st.out
 have c_li := cell_row HF.out 5 _ H_li.out
 have hin := rsmall_any (w1.alloc (.cells ([.int .u64 st] : List Value).toArray 34)) (some ⟨w1.heap.size, 0, none⟩) 1 1 [st] (IntsK.of_row (zs := [st]) (heap_alloc_new _ _) (fun x hx => by simp only [List.mem_cons, List.not_mem_nil, or_false] at hx; subst hx; exact wf_u64r (by omega) (by omega))) (by omega)
 rw [show ([st].all inB) = b1 by rw [← Hb1.out]; simp] at hin
 have HIN := Qh hin
 clear hin
 go_wp2_with fail
 refine Calls.mono HIN.out ?_
 rintro e wq ⟨rfl, rfl⟩
 clear HIN
 clear c0 c_st c_li
 have hb := (Below.refl w1.heap.size w1).alloc (Nat.le_refl _) (.cells ([.int .u64 st] : List Value).toArray 34)
 replace HB := Qh (bl_next HB.out HB.out.size hb)
 replace HF := Qh (bl_row hb (lt_of_block HF.out) HF.out)
 have HGb1 := Qh (heap_alloc_new w1 (.cells ([.int .u64 st] : List Value).toArray 34))
 clear hb
 generalize w1.alloc (.cells ([.int .u64 st] : List Value).toArray 34) = w2 at HB HF HGb1 ⊢
 obtain ⟨gb1, hg⟩ : ∃ g, w1.heap.size = g := ⟨_, rfl⟩
 rw [hg] at HGb1 ⊢
 clear hg
 have c0 := cell_row HF.out 0 _ H0.out
 have c_st := cell_row HF.out 1 _ H_st.out
 have c_li := cell_row HF.out 5 _ H_li.out
 cases b1
 ·
  go_wp2_with fail
  go_ret
  exact ⟨by first | rfl | (simp; done) | (simp; omega), HB.out⟩
 ·
  go_wp2_with fail
  go_ret
  exact ⟨by first | rfl | (simp; done) | (simp; omega), HB.out⟩
theorem rright4_18 (w : World) (f : Fr) (dv rv : Value) (h : FrAt w f dv rv) (hk : f.kind = 18) :
  Calls Try.prog 18 #[.agg (f.cells dv rv).toArray] w fun e w' => e = .returned (.bool (rightB f)) ∧ Below w.heap.size w w' := by
 have hR : rightB f = (decide (f.li ≤ 1048576)) := by unfold rightB; simp [hk]
 rw [hR]
 have hwf := h.wf
 have HRF : Hid ((f.cells dv rv).length = 19) := Qh (Fr.len hwf)
 have H0 : Hid ((f.cells dv rv)[0]? = some (.int .i64 18)) := Qh (by rw [← hk]; rfl)
 have H_li : Hid ((f.cells dv rv)[5]? = some (.int .u64 f.li)) := Qh rfl
 have u_li := hwf.li
 simp only [U64] at u_li
 obtain ⟨RF, hRF⟩ : ∃ R, f.cells dv rv = R := ⟨_, rfl⟩
 simp only [hRF] at HRF H0 H_li
 rw [hRF]
 obtain ⟨li, h_li⟩ : ∃ y, f.li = y := ⟨_, rfl⟩
 rw [h_li] at H_li u_li
 try rw [h_li]
 obtain ⟨u1_li, u2_li⟩ := u_li
 clear h_li
 clear hwf h hR hRF
 go_enter Try.func18, Try.ntmps18
 go_upto_region 1 with fail
 change Code.wp _ _ _ _ (w.alloc (.cells RF.toArray 39))
 have HB := Qh (Below.refl w.heap.size w)
 have hb := (Below.refl w.heap.size w).alloc (Nat.le_refl _) (.cells RF.toArray 39)
 replace HB := Qh (bl_next HB.out HB.out.size hb)
 have HF := Qh (heap_alloc_new w (.cells RF.toArray 39))
 clear hb
 generalize w.alloc (.cells RF.toArray 39) = w1 at HB HF ⊢
 obtain ⟨gf, hg⟩ : ∃ g, w.heap.size = g := ⟨_, rfl⟩
 rw [hg] at HF ⊢
 clear hg
 have c0 := cell_row HF.out 0 _ H0.out
 have c_li := cell_row HF.out 5 _ H_li.out
 go_wp2_with fail
 go_ret
 exact ⟨by first | rfl | (simp; done) | (simp; omega), HB.out⟩
theorem rright4_20 (w : World) (f : Fr) (dv rv : Value) (h : FrAt w f dv rv) (hk : f.kind = 20) :
  Calls Try.prog 18 #[.agg (f.cells dv rv).toArray] w fun e w' => e = .returned (.bool (rightB f)) ∧ Below w.heap.size w w' := by
 have hR : rightB f = (inB f.li) := by unfold rightB; simp [hk]
 rw [hR]
 have hwf := h.wf
 have HRF : Hid ((f.cells dv rv).length = 19) := Qh (Fr.len hwf)
 have H0 : Hid ((f.cells dv rv)[0]? = some (.int .i64 20)) := Qh (by rw [← hk]; rfl)
 have H_li : Hid ((f.cells dv rv)[5]? = some (.int .u64 f.li)) := Qh rfl
 have u_li := hwf.li
 simp only [U64] at u_li
 obtain ⟨RF, hRF⟩ : ∃ R, f.cells dv rv = R := ⟨_, rfl⟩
 simp only [hRF] at HRF H0 H_li
 rw [hRF]
 obtain ⟨li, h_li⟩ : ∃ y, f.li = y := ⟨_, rfl⟩
 rw [h_li] at H_li u_li
 try rw [h_li]
 obtain ⟨u1_li, u2_li⟩ := u_li
 clear h_li
 obtain ⟨b1, hb1⟩ : ∃ b, (inB li) = b := ⟨_, rfl⟩
 rw [hb1]
 have Hb1 := Qh hb1
 clear hb1
 clear hwf h hR hRF
 go_enter Try.func18, Try.ntmps18
 go_upto_region 1 with fail
 change Code.wp _ _ _ _ (w.alloc (.cells RF.toArray 39))
 have HB := Qh (Below.refl w.heap.size w)
 have hb := (Below.refl w.heap.size w).alloc (Nat.le_refl _) (.cells RF.toArray 39)
 replace HB := Qh (bl_next HB.out HB.out.size hb)
 have HF := Qh (heap_alloc_new w (.cells RF.toArray 39))
 clear hb
 generalize w.alloc (.cells RF.toArray 39) = w1 at HB HF ⊢
 obtain ⟨gf, hg⟩ : ∃ g, w.heap.size = g := ⟨_, rfl⟩
 rw [hg] at HF ⊢
 clear hg
 have c0 := cell_row HF.out 0 _ H0.out
 have c_li := cell_row HF.out 5 _ H_li.out
 have hin := rsmall_any (w1.alloc (.cells ([.int .u64 li] : List Value).toArray 34)) (some ⟨w1.heap.size, 0, none⟩) 1 1 [li] (IntsK.of_row (zs := [li]) (heap_alloc_new _ _) (fun x hx => by simp only [List.mem_cons, List.not_mem_nil, or_false] at hx; subst hx; exact wf_u64r (by omega) (by omega))) (by omega)
 rw [show ([li].all inB) = b1 by rw [← Hb1.out]; simp] at hin
 have HIN := Qh hin
 clear hin
 go_wp2_with fail
 refine Calls.mono HIN.out ?_
 rintro e wq ⟨rfl, rfl⟩
 clear HIN
 clear c0 c_li
 have hb := (Below.refl w1.heap.size w1).alloc (Nat.le_refl _) (.cells ([.int .u64 li] : List Value).toArray 34)
 replace HB := Qh (bl_next HB.out HB.out.size hb)
 replace HF := Qh (bl_row hb (lt_of_block HF.out) HF.out)
 have HGb1 := Qh (heap_alloc_new w1 (.cells ([.int .u64 li] : List Value).toArray 34))
 clear hb
 generalize w1.alloc (.cells ([.int .u64 li] : List Value).toArray 34) = w2 at HB HF HGb1 ⊢
 obtain ⟨gb1, hg⟩ : ∃ g, w1.heap.size = g := ⟨_, rfl⟩
 rw [hg] at HGb1 ⊢
 clear hg
 have c0 := cell_row HF.out 0 _ H0.out
 have c_li := cell_row HF.out 5 _ H_li.out
 cases b1
 ·
  go_wp2_with fail
  go_ret
  exact ⟨by first | rfl | (simp; done) | (simp; omega), HB.out⟩
 ·
  go_wp2_with fail
  go_ret
  exact ⟨by first | rfl | (simp; done) | (simp; omega), HB.out⟩
theorem rright4_25 (w : World) (f : Fr) (dv rv : Value) (h : FrAt w f dv rv) (hk : f.kind = 25) :
  Calls Try.prog 18 #[.agg (f.cells dv rv).toArray] w fun e w' => e = .returned (.bool (rightB f)) ∧ Below w.heap.size w w' := by
 have hR : rightB f = (inB f.se) := by unfold rightB; simp [hk]
 rw [hR]
 have hwf := h.wf
 have HRF : Hid ((f.cells dv rv).length = 19) := Qh (Fr.len hwf)
 have H0 : Hid ((f.cells dv rv)[0]? = some (.int .i64 25)) := Qh (by rw [← hk]; rfl)
 have H_se : Hid ((f.cells dv rv)[8]? = some (.int .u64 f.se)) := Qh rfl
 have u_se := hwf.se
 simp only [U64] at u_se
 obtain ⟨RF, hRF⟩ : ∃ R, f.cells dv rv = R := ⟨_, rfl⟩
 simp only [hRF] at HRF H0 H_se
 rw [hRF]
 obtain ⟨se, h_se⟩ : ∃ y, f.se = y := ⟨_, rfl⟩
 rw [h_se] at H_se u_se
 try rw [h_se]
 obtain ⟨u1_se, u2_se⟩ := u_se
 clear h_se
 obtain ⟨b1, hb1⟩ : ∃ b, (inB se) = b := ⟨_, rfl⟩
 rw [hb1]
 have Hb1 := Qh hb1
 clear hb1
 clear hwf h hR hRF
 go_enter Try.func18, Try.ntmps18
 go_upto_region 1 with fail
 change Code.wp _ _ _ _ (w.alloc (.cells RF.toArray 39))
 have HB := Qh (Below.refl w.heap.size w)
 have hb := (Below.refl w.heap.size w).alloc (Nat.le_refl _) (.cells RF.toArray 39)
 replace HB := Qh (bl_next HB.out HB.out.size hb)
 have HF := Qh (heap_alloc_new w (.cells RF.toArray 39))
 clear hb
 generalize w.alloc (.cells RF.toArray 39) = w1 at HB HF ⊢
 obtain ⟨gf, hg⟩ : ∃ g, w.heap.size = g := ⟨_, rfl⟩
 rw [hg] at HF ⊢
 clear hg
 have c0 := cell_row HF.out 0 _ H0.out
 have c_se := cell_row HF.out 8 _ H_se.out
 have hin := rsmall_any (w1.alloc (.cells ([.int .u64 se] : List Value).toArray 34)) (some ⟨w1.heap.size, 0, none⟩) 1 1 [se] (IntsK.of_row (zs := [se]) (heap_alloc_new _ _) (fun x hx => by simp only [List.mem_cons, List.not_mem_nil, or_false] at hx; subst hx; exact wf_u64r (by omega) (by omega))) (by omega)
 rw [show ([se].all inB) = b1 by rw [← Hb1.out]; simp] at hin
 have HIN := Qh hin
 clear hin
 go_wp2_with fail
 refine Calls.mono HIN.out ?_
 rintro e wq ⟨rfl, rfl⟩
 clear HIN
 clear c0 c_se
 have hb := (Below.refl w1.heap.size w1).alloc (Nat.le_refl _) (.cells ([.int .u64 se] : List Value).toArray 34)
 replace HB := Qh (bl_next HB.out HB.out.size hb)
 replace HF := Qh (bl_row hb (lt_of_block HF.out) HF.out)
 have HGb1 := Qh (heap_alloc_new w1 (.cells ([.int .u64 se] : List Value).toArray 34))
 clear hb
 generalize w1.alloc (.cells ([.int .u64 se] : List Value).toArray 34) = w2 at HB HF HGb1 ⊢
 obtain ⟨gb1, hg⟩ : ∃ g, w1.heap.size = g := ⟨_, rfl⟩
 rw [hg] at HGb1 ⊢
 clear hg
 have c0 := cell_row HF.out 0 _ H0.out
 have c_se := cell_row HF.out 8 _ H_se.out
 cases b1
 ·
  go_wp2_with fail
  go_ret
  exact ⟨by first | rfl | (simp; done) | (simp; omega), HB.out⟩
 ·
  go_wp2_with fail
  go_ret
  exact ⟨by first | rfl | (simp; done) | (simp; omega), HB.out⟩
theorem rright4_28 (w : World) (f : Fr) (dv rv : Value) (h : FrAt w f dv rv) (hk : f.kind = 28) :
  Calls Try.prog 18 #[.agg (f.cells dv rv).toArray] w fun e w' => e = .returned (.bool (rightB f)) ∧ Below w.heap.size w w' := by
 have hR : rightB f = (inB f.co && decide (f.data.length ≤ 32)) := by unfold rightB; simp [hk]
 rw [hR]
 have hwf := h.wf
 obtain ⟨da, dn, dc, rfl, hd1, hd2, hd⟩ := h.d
 have hdn : f.data.length = dn := hd.1
 rw [hdn]
 have hd0 : dn ≤ 9223372036854775807 := by omega
 have HRF : Hid ((f.cells (.slice da dn dc) rv).length = 19) := Qh (Fr.len hwf)
 have H0 : Hid ((f.cells (.slice da dn dc) rv)[0]? = some (.int .i64 28)) := Qh (by rw [← hk]; rfl)
 have H_co : Hid ((f.cells (.slice da dn dc) rv)[6]? = some (.int .u64 f.co)) := Qh rfl
 have u_co := hwf.co
 simp only [U64] at u_co
 have H_d : Hid ((f.cells (.slice da dn dc) rv)[3]? = some (.slice da dn dc)) := Qh rfl
 obtain ⟨RF, hRF⟩ : ∃ R, f.cells (.slice da dn dc) rv = R := ⟨_, rfl⟩
 simp only [hRF] at HRF H0 H_co H_d
 rw [hRF]
 obtain ⟨co, h_co⟩ : ∃ y, f.co = y := ⟨_, rfl⟩
 rw [h_co] at H_co u_co
 try rw [h_co]
 obtain ⟨u1_co, u2_co⟩ := u_co
 clear h_co
 obtain ⟨b1, hb1⟩ : ∃ b, (inB co) = b := ⟨_, rfl⟩
 rw [hb1]
 have Hb1 := Qh hb1
 clear hb1
 clear hwf h hR hRF hdn hd
 go_enter Try.func18, Try.ntmps18
 go_upto_region 1 with fail
 change Code.wp _ _ _ _ (w.alloc (.cells RF.toArray 39))
 have HB := Qh (Below.refl w.heap.size w)
 have hb := (Below.refl w.heap.size w).alloc (Nat.le_refl _) (.cells RF.toArray 39)
 replace HB := Qh (bl_next HB.out HB.out.size hb)
 have HF := Qh (heap_alloc_new w (.cells RF.toArray 39))
 clear hb
 generalize w.alloc (.cells RF.toArray 39) = w1 at HB HF ⊢
 obtain ⟨gf, hg⟩ : ∃ g, w.heap.size = g := ⟨_, rfl⟩
 rw [hg] at HF ⊢
 clear hg
 have c0 := cell_row HF.out 0 _ H0.out
 have c_co := cell_row HF.out 6 _ H_co.out
 have c_d := cell_row HF.out 3 _ H_d.out
 have hin := rsmall_any (w1.alloc (.cells ([.int .u64 co] : List Value).toArray 34)) (some ⟨w1.heap.size, 0, none⟩) 1 1 [co] (IntsK.of_row (zs := [co]) (heap_alloc_new _ _) (fun x hx => by simp only [List.mem_cons, List.not_mem_nil, or_false] at hx; subst hx; exact wf_u64r (by omega) (by omega))) (by omega)
 rw [show ([co].all inB) = b1 by rw [← Hb1.out]; simp] at hin
 have HIN := Qh hin
 clear hin
 go_wp2_with fail
 refine Calls.mono HIN.out ?_
 rintro e wq ⟨rfl, rfl⟩
 clear HIN
 clear c0 c_co c_d
 have hb := (Below.refl w1.heap.size w1).alloc (Nat.le_refl _) (.cells ([.int .u64 co] : List Value).toArray 34)
 replace HB := Qh (bl_next HB.out HB.out.size hb)
 replace HF := Qh (bl_row hb (lt_of_block HF.out) HF.out)
 have HGb1 := Qh (heap_alloc_new w1 (.cells ([.int .u64 co] : List Value).toArray 34))
 clear hb
 generalize w1.alloc (.cells ([.int .u64 co] : List Value).toArray 34) = w2 at HB HF HGb1 ⊢
 obtain ⟨gb1, hg⟩ : ∃ g, w1.heap.size = g := ⟨_, rfl⟩
 rw [hg] at HGb1 ⊢
 clear hg
 have c0 := cell_row HF.out 0 _ H0.out
 have c_co := cell_row HF.out 6 _ H_co.out
 have c_d := cell_row HF.out 3 _ H_d.out
 cases b1
 ·
  go_wp2_with fail
  go_ret
  exact ⟨by first | rfl | (simp; done) | (simp; omega), HB.out⟩
 ·
  go_wp2_with fail
  go_ret
  exact ⟨by first | rfl | (simp; done) | (simp; omega), HB.out⟩
end Go.Proofs.Ytmbjepcbokbemaa
namespace Go.Proofs.Ytmbjepcbokbemaa
open Go.RowKit
theorem rright4_24 (w : World) (f : Fr) (dv rv : Value) (h : FrAt w f dv rv) (hk : f.kind = 24) :
  Calls Try.prog 18 #[.agg (f.cells dv rv).toArray] w fun e w' => e = .returned (.bool (rightB f)) ∧ Below w.heap.size w w' := by
 have hR : rightB f = (inB f.se && inB f.li && decide (f.li ≤ f.se)) := by
  have h9 : rightB f = (inB f.se && decide (f.li ≤ f.se)) := by unfold rightB; simp [hk]
  rw [h9]
  by_cases h1 : inB f.se = true
  ·
   by_cases h2 : f.li ≤ f.se
   ·
    have h3 : inB f.li = true := inB_iff.2 (by have := inB_iff.1 h1; omega)
    simp [h1, h2, h3]
   ·
    simp [h2]
  ·
   simp [h1]
 rw [hR]
 have hwf := h.wf
 have HRF : Hid ((f.cells dv rv).length = 19) := Qh (Fr.len hwf)
 have H0 : Hid ((f.cells dv rv)[0]? = some (.int .i64 24)) := Qh (by rw [← hk]; rfl)
 have H_se : Hid ((f.cells dv rv)[8]? = some (.int .u64 f.se)) := Qh rfl
 have u_se := hwf.se
 simp only [U64] at u_se
 have H_li : Hid ((f.cells dv rv)[5]? = some (.int .u64 f.li)) := Qh rfl
 have u_li := hwf.li
 simp only [U64] at u_li
 obtain ⟨RF, hRF⟩ : ∃ R, f.cells dv rv = R := ⟨_, rfl⟩
 simp only [hRF] at HRF H0 H_se H_li
 rw [hRF]
 obtain ⟨se, h_se⟩ : ∃ y, f.se = y := ⟨_, rfl⟩
 rw [h_se] at H_se u_se
 try rw [h_se]
 obtain ⟨u1_se, u2_se⟩ := u_se
 clear h_se
 obtain ⟨li, h_li⟩ : ∃ y, f.li = y := ⟨_, rfl⟩
 rw [h_li] at H_li u_li
 try rw [h_li]
 obtain ⟨u1_li, u2_li⟩ := u_li
 clear h_li
 obtain ⟨b1, hb1⟩ : ∃ b, (inB se && inB li) = b := ⟨_, rfl⟩
 rw [hb1]
 have Hb1 := Qh hb1
 clear hb1
 clear hwf h hR hRF
 go_enter Try.func18, Try.ntmps18
 go_upto_region 1 with fail
 change Code.wp _ _ _ _ (w.alloc (.cells RF.toArray 39))
 have HB := Qh (Below.refl w.heap.size w)
 have hb := (Below.refl w.heap.size w).alloc (Nat.le_refl _) (.cells RF.toArray 39)
 replace HB := Qh (bl_next HB.out HB.out.size hb)
 have HF := Qh (heap_alloc_new w (.cells RF.toArray 39))
 clear hb
 generalize w.alloc (.cells RF.toArray 39) = w1 at HB HF ⊢
 obtain ⟨gf, hg⟩ : ∃ g, w.heap.size = g := ⟨_, rfl⟩
 rw [hg] at HF ⊢
 clear hg
 have c0 := cell_row HF.out 0 _ H0.out
 have c_se := cell_row HF.out 8 _ H_se.out
 have c_li := cell_row HF.out 5 _ H_li.out
 have hin := rsmall_any (w1.alloc (.cells ([.int .u64 se, .int .u64 li] : List Value).toArray 34)) (some ⟨w1.heap.size, 0, none⟩) 2 2 [se, li] (IntsK.of_row (zs := [se, li]) (heap_alloc_new _ _) (fun x hx => by simp only [List.mem_cons, List.not_mem_nil, or_false] at hx; rcases hx with rfl | rfl <;> exact wf_u64r (by omega) (by omega))) (by omega)
 rw [show ([se, li].all inB) = b1 by rw [← Hb1.out]; simp] at hin
 have HIN := Qh hin
 clear hin
 go_wp2_with fail
 refine Calls.mono HIN.out ?_
 rintro e wq ⟨rfl, rfl⟩
 clear HIN
 clear c0 c_se c_li
 have hb := (Below.refl w1.heap.size w1).alloc (Nat.le_refl _) (.cells ([.int .u64 se, .int .u64 li] : List Value).toArray 34)
 replace HB := Qh (bl_next HB.out HB.out.size hb)
 replace HF := Qh (bl_row hb (lt_of_block HF.out) HF.out)
 have HGb1 := Qh (heap_alloc_new w1 (.cells ([.int .u64 se, .int .u64 li] : List Value).toArray 34))
 clear hb
 generalize w1.alloc (.cells ([.int .u64 se, .int .u64 li] : List Value).toArray 34) = w2 at HB HF HGb1 ⊢
 obtain ⟨gb1, hg⟩ : ∃ g, w1.heap.size = g := ⟨_, rfl⟩
 rw [hg] at HGb1 ⊢
 clear hg
 have c0 := cell_row HF.out 0 _ H0.out
 have c_se := cell_row HF.out 8 _ H_se.out
 have c_li := cell_row HF.out 5 _ H_li.out
 cases b1
 ·
  go_wp2_with fail
  go_ret
  exact ⟨by first | rfl | (simp; done) | (simp; omega), HB.out⟩
 ·
  go_wp2_with fail
  go_ret
  exact ⟨by first | rfl | (simp; done) | (simp; omega), HB.out⟩
end Go.Proofs.Ytmbjepcbokbemaa
namespace Go.Proofs.Ytmbjepcbokbemaa
open Go.RowKit
theorem rright4_6 (w : World) (f : Fr) (dv rv : Value) (h : FrAt w f dv rv) (hk : f.kind = 6) :
  Calls Try.prog 18 #[.agg (f.cells dv rv).toArray] w fun e w' => e = .returned (.bool (rightB f)) ∧ Below w.heap.size w w' := by
 have hR : rightB f = (atB f.of_ f.data.length) := by unfold rightB; simp [hk]
 rw [hR]
 have hwf := h.wf
 obtain ⟨da, dn, dc, rfl, hd1, hd2, hd⟩ := h.d
 have hdn : f.data.length = dn := hd.1
 rw [hdn]
 have hd0 : dn ≤ 9223372036854775807 := by omega
 have HRF : Hid ((f.cells (.slice da dn dc) rv).length = 19) := Qh (Fr.len hwf)
 have H0 : Hid ((f.cells (.slice da dn dc) rv)[0]? = some (.int .i64 6)) := Qh (by rw [← hk]; rfl)
 have H_of_ : Hid ((f.cells (.slice da dn dc) rv)[2]? = some (.int .u64 f.of_)) := Qh rfl
 have u_of_ := hwf.of_
 simp only [U64] at u_of_
 have H_d : Hid ((f.cells (.slice da dn dc) rv)[3]? = some (.slice da dn dc)) := Qh rfl
 obtain ⟨RF, hRF⟩ : ∃ R, f.cells (.slice da dn dc) rv = R := ⟨_, rfl⟩
 simp only [hRF] at HRF H0 H_of_ H_d
 rw [hRF]
 obtain ⟨of_, h_of_⟩ : ∃ y, f.of_ = y := ⟨_, rfl⟩
 rw [h_of_] at H_of_ u_of_
 try rw [h_of_]
 obtain ⟨u1_of_, u2_of_⟩ := u_of_
 clear h_of_
 obtain ⟨b1, hb1⟩ : ∃ b, (atB of_ dn) = b := ⟨_, rfl⟩
 rw [hb1]
 have Hb1 := Qh hb1
 clear hb1
 clear hwf h hR hRF hdn hd
 go_enter Try.func18, Try.ntmps18
 go_upto_region 1 with fail
 change Code.wp _ _ _ _ (w.alloc (.cells RF.toArray 39))
 have HB := Qh (Below.refl w.heap.size w)
 have hb := (Below.refl w.heap.size w).alloc (Nat.le_refl _) (.cells RF.toArray 39)
 replace HB := Qh (bl_next HB.out HB.out.size hb)
 have HF := Qh (heap_alloc_new w (.cells RF.toArray 39))
 clear hb
 generalize w.alloc (.cells RF.toArray 39) = w1 at HB HF ⊢
 obtain ⟨gf, hg⟩ : ∃ g, w.heap.size = g := ⟨_, rfl⟩
 rw [hg] at HF ⊢
 clear hg
 have c0 := cell_row HF.out 0 _ H0.out
 have c_of_ := cell_row HF.out 2 _ H_of_.out
 have c_d := cell_row HF.out 3 _ H_d.out
 by_cases hc1 : dn ≤ 512
 ·
  by_cases hc2 : of_ ≤ 1099511627776
  ·
   by_cases hc3 : of_ + dn ≤ 1099511627776
   ·
    obtain rfl : b1 = true := by rw [← Hb1.out]; exact atB_iff.2 ⟨hc1, hc2, hc3⟩
    go_wp2_with fail
    go_ret
    exact ⟨by first | rfl | (simp; done), HB.out⟩
   ·
    obtain rfl : b1 = false := by rw [← Hb1.out]; cases h : atB of_ dn with | false => rfl | true => exact absurd (atB_iff.1 h).2.2 hc3
    go_wp2_with fail
    go_ret
    exact ⟨by first | rfl | (simp; done), HB.out⟩
  ·
   obtain rfl : b1 = false := by rw [← Hb1.out]; cases h : atB of_ dn with | false => rfl | true => exact absurd (atB_iff.1 h).2.1 hc2
   go_wp2_with fail
   go_ret
   exact ⟨by first | rfl | (simp; done), HB.out⟩
 ·
  obtain rfl : b1 = false := by rw [← Hb1.out]; cases h : atB of_ dn with | false => rfl | true => exact absurd (atB_iff.1 h).1 hc1
  go_wp2_with fail
  go_ret
  exact ⟨by first | rfl | (simp; done), HB.out⟩
end Go.Proofs.Ytmbjepcbokbemaa
namespace Go.Proofs.Ytmbjepcbokbemaa
open Go.RowKit
theorem rright4_8 (w : World) (f : Fr) (dv rv : Value) (h : FrAt w f dv rv) (hk : f.kind = 8) :
  Calls Try.prog 18 #[.agg (f.cells dv rv).toArray] w fun e w' => e = .returned (.bool (rightB f)) ∧ Below w.heap.size w w' := by
 have hR : rightB f = (inB f.st && atB f.of_ f.data.length) := by unfold rightB; simp [hk]
 rw [hR]
 have hwf := h.wf
 obtain ⟨da, dn, dc, rfl, hd1, hd2, hd⟩ := h.d
 have hdn : f.data.length = dn := hd.1
 rw [hdn]
 have hd0 : dn ≤ 9223372036854775807 := by omega
 have HRF : Hid ((f.cells (.slice da dn dc) rv).length = 19) := Qh (Fr.len hwf)
 have H0 : Hid ((f.cells (.slice da dn dc) rv)[0]? = some (.int .i64 8)) := Qh (by rw [← hk]; rfl)
 have H_st : Hid ((f.cells (.slice da dn dc) rv)[1]? = some (.int .u64 f.st)) := Qh rfl
 have u_st := hwf.st
 simp only [U64] at u_st
 have H_of_ : Hid ((f.cells (.slice da dn dc) rv)[2]? = some (.int .u64 f.of_)) := Qh rfl
 have u_of_ := hwf.of_
 simp only [U64] at u_of_
 have H_d : Hid ((f.cells (.slice da dn dc) rv)[3]? = some (.slice da dn dc)) := Qh rfl
 obtain ⟨RF, hRF⟩ : ∃ R, f.cells (.slice da dn dc) rv = R := ⟨_, rfl⟩
 simp only [hRF] at HRF H0 H_st H_of_ H_d
 rw [hRF]
 obtain ⟨st, h_st⟩ : ∃ y, f.st = y := ⟨_, rfl⟩
 rw [h_st] at H_st u_st
 try rw [h_st]
 obtain ⟨u1_st, u2_st⟩ := u_st
 clear h_st
 obtain ⟨of_, h_of_⟩ : ∃ y, f.of_ = y := ⟨_, rfl⟩
 rw [h_of_] at H_of_ u_of_
 try rw [h_of_]
 obtain ⟨u1_of_, u2_of_⟩ := u_of_
 clear h_of_
 obtain ⟨b1, hb1⟩ : ∃ b, (inB st) = b := ⟨_, rfl⟩
 rw [hb1]
 have Hb1 := Qh hb1
 clear hb1
 obtain ⟨b2, hb2⟩ : ∃ b, (atB of_ dn) = b := ⟨_, rfl⟩
 rw [hb2]
 have Hb2 := Qh hb2
 clear hb2
 clear hwf h hR hRF hdn hd
 go_enter Try.func18, Try.ntmps18
 go_upto_region 1 with fail
 change Code.wp _ _ _ _ (w.alloc (.cells RF.toArray 39))
 have HB := Qh (Below.refl w.heap.size w)
 have hb := (Below.refl w.heap.size w).alloc (Nat.le_refl _) (.cells RF.toArray 39)
 replace HB := Qh (bl_next HB.out HB.out.size hb)
 have HF := Qh (heap_alloc_new w (.cells RF.toArray 39))
 clear hb
 generalize w.alloc (.cells RF.toArray 39) = w1 at HB HF ⊢
 obtain ⟨gf, hg⟩ : ∃ g, w.heap.size = g := ⟨_, rfl⟩
 rw [hg] at HF ⊢
 clear hg
 have c0 := cell_row HF.out 0 _ H0.out
 have c_st := cell_row HF.out 1 _ H_st.out
 have c_of_ := cell_row HF.out 2 _ H_of_.out
 have c_d := cell_row HF.out 3 _ H_d.out
 have hin := rsmall_any (w1.alloc (.cells ([.int .u64 st] : List Value).toArray 34)) (some ⟨w1.heap.size, 0, none⟩) 1 1 [st] (IntsK.of_row (zs := [st]) (heap_alloc_new _ _) (fun x hx => by simp only [List.mem_cons, List.not_mem_nil, or_false] at hx; subst hx; exact wf_u64r (by omega) (by omega))) (by omega)
 rw [show ([st].all inB) = b1 by rw [← Hb1.out]; simp] at hin
 have HIN := Qh hin
 clear hin
 go_wp2_with fail
 refine Calls.mono HIN.out ?_
 rintro e wq ⟨rfl, rfl⟩
 clear HIN
 clear c0 c_st c_of_ c_d
 have hb := (Below.refl w1.heap.size w1).alloc (Nat.le_refl _) (.cells ([.int .u64 st] : List Value).toArray 34)
 replace HB := Qh (bl_next HB.out HB.out.size hb)
 replace HF := Qh (bl_row hb (lt_of_block HF.out) HF.out)
 have HGb1 := Qh (heap_alloc_new w1 (.cells ([.int .u64 st] : List Value).toArray 34))
 clear hb
 generalize w1.alloc (.cells ([.int .u64 st] : List Value).toArray 34) = w2 at HB HF HGb1 ⊢
 obtain ⟨gb1, hg⟩ : ∃ g, w1.heap.size = g := ⟨_, rfl⟩
 rw [hg] at HGb1 ⊢
 clear hg
 have c0 := cell_row HF.out 0 _ H0.out
 have c_st := cell_row HF.out 1 _ H_st.out
 have c_of_ := cell_row HF.out 2 _ H_of_.out
 have c_d := cell_row HF.out 3 _ H_d.out
 cases b1
 ·
  go_wp2_with fail
  go_ret
  exact ⟨by first | rfl | (simp; done) | (simp; omega), HB.out⟩
 ·
  by_cases hc1 : dn ≤ 512
  ·
   by_cases hc2 : of_ ≤ 1099511627776
   ·
    by_cases hc3 : of_ + dn ≤ 1099511627776
    ·
     obtain rfl : b2 = true := by rw [← Hb2.out]; exact atB_iff.2 ⟨hc1, hc2, hc3⟩
     go_wp2_with fail
     go_ret
     exact ⟨by first | rfl | (simp; done) | (simp; omega), HB.out⟩
    ·
     obtain rfl : b2 = false := by rw [← Hb2.out]; cases h : atB of_ dn with | false => rfl | true => exact absurd (atB_iff.1 h).2.2 hc3
     go_wp2_with fail
     go_ret
     exact ⟨by first | rfl | (simp; done) | (simp; omega), HB.out⟩
   ·
    obtain rfl : b2 = false := by rw [← Hb2.out]; cases h : atB of_ dn with | false => rfl | true => exact absurd (atB_iff.1 h).2.1 hc2
    go_wp2_with fail
    go_ret
    exact ⟨by first | rfl | (simp; done) | (simp; omega), HB.out⟩
  ·
   obtain rfl : b2 = false := by rw [← Hb2.out]; cases h : atB of_ dn with | false => rfl | true => exact absurd (atB_iff.1 h).1 hc1
   go_wp2_with fail
   go_ret
   exact ⟨by first | rfl | (simp; done) | (simp; omega), HB.out⟩
end Go.Proofs.Ytmbjepcbokbemaa
namespace Go.Proofs.Ytmbjepcbokbemaa
open Go.RowKit
theorem rright4_no (w : World) (f : Fr) (dv rv : Value) (h : FrAt w f dv rv) (hk : ¬ (f.kind = 0 ∨ f.kind = 1 ∨ f.kind = 30 ∨ f.kind = 26 ∨ f.kind = 27 ∨ f.kind = 2 ∨ f.kind = 4 ∨ f.kind = 5 ∨ f.kind = 6 ∨ f.kind = 8 ∨ f.kind = 16 ∨ f.kind = 17 ∨ f.kind = 18 ∨ f.kind = 20 ∨ f.kind = 24 ∨ f.kind = 25 ∨ f.kind = 28)) :
  Calls Try.prog 18 #[.agg (f.cells dv rv).toArray] w fun e w' => e = .returned (.bool (rightB f)) ∧ Below w.heap.size w w' := by
 simp only [not_or] at hk
 have hR : rightB f = false := by unfold rightB; simp [hk]
 rw [hR]
 have hkd := h.wf.kind
 have H0 : Hid ((f.cells dv rv)[0]? = some (.int .i64 f.kind)) := Qh rfl
 obtain ⟨RF, hRF⟩ : ∃ R, f.cells dv rv = R := ⟨_, rfl⟩
 rw [hRF] at H0 ⊢
 obtain ⟨k, hkk⟩ : ∃ k, f.kind = k := ⟨_, rfl⟩
 rw [hkk] at H0 hk hkd
 obtain ⟨n0, n1, n30, n26, n27, n2, n4, n5, n6, n8, n16, n17, n18, n20, n24, n25, n28⟩ := hk
 have e0 : (k == 0) = false := by simpa using n0
 have e1 : (k == 1) = false := by simpa using n1
 have e30 : (k == 30) = false := by simpa using n30
 have e26 : (k == 26) = false := by simpa using n26
 have e27 : (k == 27) = false := by simpa using n27
 have e2 : (k == 2) = false := by simpa using n2
 have e4 : (k == 4) = false := by simpa using n4
 have e5 : (k == 5) = false := by simpa using n5
 have e6 : (k == 6) = false := by simpa using n6
 have e8 : (k == 8) = false := by simpa using n8
 have e16 : (k == 16) = false := by simpa using n16
 have e17 : (k == 17) = false := by simpa using n17
 have e18 : (k == 18) = false := by simpa using n18
 have e20 : (k == 20) = false := by simpa using n20
 have e24 : (k == 24) = false := by simpa using n24
 have e25 : (k == 25) = false := by simpa using n25
 have e28 : (k == 28) = false := by simpa using n28
 clear h hR hRF hkk n0 n1 n30 n26 n27 n2 n4 n5 n6 n8 n16 n17 n18 n20 n24 n25 n28
 have HB := Qh (Below.refl w.heap.size w)
 go_enter Try.func18, Try.ntmps18
 go_upto_region 1 with fail
 change Code.wp _ _ _ _ (w.alloc (.cells RF.toArray 39))
 have hb := (Below.refl w.heap.size w).alloc (Nat.le_refl _) (.cells RF.toArray 39)
 replace HB := Qh (bl_next HB.out HB.out.size hb)
 have HF := Qh (heap_alloc_new w (.cells RF.toArray 39))
 clear hb
 generalize w.alloc (.cells RF.toArray 39) = w1 at HB HF ⊢
 obtain ⟨gf, hg⟩ : ∃ g, w.heap.size = g := ⟨_, rfl⟩
 rw [hg] at HF ⊢
 clear hg
 have c0 := cell_row HF.out 0 _ H0.out
 go_wp2_with fail
 go_ret
 exact ⟨rfl, HB.out⟩
end Go.Proofs.Ytmbjepcbokbemaa
namespace Go.Proofs.Ytmbjepcbokbemaa
open Go.RowKit
theorem rises_last : ∀ (l : List (Int × Int)), risesB l = true → ∀ x ∈ l, ∀ y, l.getLast? = some y → x.2 ≤ y.2
 | [], _, x, hx, _, _ => by cases hx
 | [a], _, x, hx, y, hy => by simp at hx hy; subst hx; subst hy; exact Int.le_refl _
 | a :: b :: l, h, x, hx, y, hy => by
  unfold risesB at h
  simp only [Bool.and_eq_true, decide_eq_true_eq] at h
  obtain ⟨⟨h1, h2⟩, h3⟩ := h
  have hb : b.1 < b.2 := by cases l with | nil => simpa [risesB] using h3 | cons c l => unfold risesB at h3; simp only [Bool.and_eq_true, decide_eq_true_eq] at h3; exact h3.1.1
  rw [List.getLast?_cons_cons] at hy
  rcases List.mem_cons.1 hx with rfl | hx
  ·
   have := rises_last (b :: l) h3 b List.mem_cons_self y hy; omega
  ·
   exact rises_last (b :: l) h3 x hx y hy
def rackB (i : Nat) (d e : Int) (p : Option (Int × Int)) : Bool := decide (e ≤ d) || (decide (0 < i) && decide (d ≤ (p.getD (0, 0)).2)) || decide (4611686018427387904 < e)
theorem rack_round {x0 x2 x4 x5 x6 x7 x8 x9 x10 x11 x12 x13 x14 x15 x16 x17 x18 x19 x20 x21 x22 x23 x24 x25 x26 x27 x28 x29 x30 x31 x32 x33 x34 x35 x36 x37 x38 x39 x40 x41 x42 x43 x44 x45 x46 x47 x48 x49 x50 x51 x52 x53 x54 x55 x56 x57 x58 x59 x60 x61 x62 x63 x64 x65 x66 x67 x68 x69 x70 x71 x72 x73 x74 x75 x76 x77 x78 x79 x80 x81 x82 x83 x84 x85 x86 x87 x88 x89 x90 x91 x92 x93 x94 x95 x96 x97 x98 x99 x100 x101 x102 x103 x104 x105 x106 x107 x108 x109 x110 x111 x112 x113 x114 x115 x116 x117 x118 x119 x120 x121 x122 x123 x124 x125 x126 x127 x128 x129 x130 x131 x132 x133 x134 x135 x136 x137 x138 x139 x140 x141 x142 x143 x144 x145 x146 x147 x148 x149 x150 x151 x152 x153 x154 x155 x156 x157 x158 x159 x160 x161 x162 x163 x164 x165 x166 x167 x168 x169 x170 x171 x172 x173 x174 x175 x176 x177 x178 x179 x180 x181 x182 x183 x184 x185 x186 x187 x188 x189 x190 x191 x192 x193 : Value} {a : Option Addr} {n cp gf i : Nat} {RF : List Value} {rs : List (Int × Int)} {d e : Int} (w : World) {Q : Exit → Act → World → Prop}
  (HL : Hid (rgK.At w a n rs)) (HX : Hid (rs[i]? = some (d, e))) (hi : i < n) (hn : n ≤ 16) (HG : Hid (w.heap[gf]? = some (.cells RF.toArray 39 (0, 0)))) (HRF : Hid (RF.length = 19)) (H_r : Hid (RF[10]? = some (.slice a n cp)))
  (hQp : ∀ c a d v w, Q (.panic c) (a.put d v) w → Q (.panic c) a w)
  (hQ : ∀ (y38 y39 y40 y41 y42 y43 y44 y45 y46 y47 y48 y49 y50 y51 y52 y53 y54 y55 y56 y57 y58 y59 y60 y61 y62 y63 y64 y65 y66 y67 y68 y69 y70 y71 y72 y73 y74 y75 y76 y77 y78 : Value) (w' : World), Hid (Below w.heap.size w w') → Q .normal ⟨List.toArray (x0 :: .pointer (some ⟨gf, 0, none⟩) :: x2 :: .int .i64 i :: x4 :: x5 :: x6 :: x7 :: x8 :: x9 :: x10 :: x11 :: x12 :: x13 :: x14 :: x15 :: x16 :: x17 :: x18 :: x19 :: x20 :: x21 :: x22 :: x23 :: x24 :: x25 :: x26 :: x27 :: x28 :: x29 :: x30 :: x31 :: x32 :: x33 :: x34 :: x35 :: x36 :: x37 :: y38 :: y39 :: y40 :: y41 :: y42 :: y43 :: y44 :: y45 :: y46 :: y47 :: y48 :: y49 :: y50 :: y51 :: y52 :: y53 :: y54 :: y55 :: y56 :: y57 :: y58 :: y59 :: y60 :: y61 :: y62 :: y63 :: y64 :: y65 :: y66 :: y67 :: y68 :: y69 :: y70 :: y71 :: y72 :: y73 :: y74 :: y75 :: y76 :: y77 :: y78 :: .bool (rackB i d e rs[i - 1]?) :: x80 :: x81 :: x82 :: x83 :: x84 :: x85 :: x86 :: x87 :: x88 :: x89 :: x90 :: x91 :: x92 :: x93 :: x94 :: x95 :: x96 :: x97 :: x98 :: x99 :: x100 :: x101 :: x102 :: x103 :: x104 :: x105 :: x106 :: x107 :: x108 :: x109 :: x110 :: x111 :: x112 :: x113 :: x114 :: x115 :: x116 :: x117 :: x118 :: x119 :: x120 :: x121 :: x122 :: x123 :: x124 :: x125 :: x126 :: x127 :: x128 :: x129 :: x130 :: x131 :: x132 :: x133 :: x134 :: x135 :: x136 :: x137 :: x138 :: x139 :: x140 :: x141 :: x142 :: x143 :: x144 :: x145 :: x146 :: x147 :: x148 :: x149 :: x150 :: x151 :: x152 :: x153 :: x154 :: x155 :: x156 :: x157 :: x158 :: x159 :: x160 :: x161 :: x162 :: x163 :: x164 :: x165 :: x166 :: x167 :: x168 :: x169 :: x170 :: x171 :: x172 :: x173 :: x174 :: x175 :: x176 :: x177 :: x178 :: x179 :: x180 :: x181 :: x182 :: x183 :: x184 :: x185 :: x186 :: x187 :: x188 :: x189 :: x190 :: x191 :: x192 :: x193 :: []), []⟩ w') :
  Code.wp Try.prog (((Try.f18.body.bind (subRegion 14)).getD .skip)) Q ⟨List.toArray (x0 :: .pointer (some ⟨gf, 0, none⟩) :: x2 :: .int .i64 i :: x4 :: x5 :: x6 :: x7 :: x8 :: x9 :: x10 :: x11 :: x12 :: x13 :: x14 :: x15 :: x16 :: x17 :: x18 :: x19 :: x20 :: x21 :: x22 :: x23 :: x24 :: x25 :: x26 :: x27 :: x28 :: x29 :: x30 :: x31 :: x32 :: x33 :: x34 :: x35 :: x36 :: x37 :: x38 :: x39 :: x40 :: x41 :: x42 :: x43 :: x44 :: x45 :: x46 :: x47 :: x48 :: x49 :: x50 :: x51 :: x52 :: x53 :: x54 :: x55 :: x56 :: x57 :: x58 :: x59 :: x60 :: x61 :: x62 :: x63 :: x64 :: x65 :: x66 :: x67 :: x68 :: x69 :: x70 :: x71 :: x72 :: x73 :: x74 :: x75 :: x76 :: x77 :: x78 :: x79 :: x80 :: x81 :: x82 :: x83 :: x84 :: x85 :: x86 :: x87 :: x88 :: x89 :: x90 :: x91 :: x92 :: x93 :: x94 :: x95 :: x96 :: x97 :: x98 :: x99 :: x100 :: x101 :: x102 :: x103 :: x104 :: x105 :: x106 :: x107 :: x108 :: x109 :: x110 :: x111 :: x112 :: x113 :: x114 :: x115 :: x116 :: x117 :: x118 :: x119 :: x120 :: x121 :: x122 :: x123 :: x124 :: x125 :: x126 :: x127 :: x128 :: x129 :: x130 :: x131 :: x132 :: x133 :: x134 :: x135 :: x136 :: x137 :: x138 :: x139 :: x140 :: x141 :: x142 :: x143 :: x144 :: x145 :: x146 :: x147 :: x148 :: x149 :: x150 :: x151 :: x152 :: x153 :: x154 :: x155 :: x156 :: x157 :: x158 :: x159 :: x160 :: x161 :: x162 :: x163 :: x164 :: x165 :: x166 :: x167 :: x168 :: x169 :: x170 :: x171 :: x172 :: x173 :: x174 :: x175 :: x176 :: x177 :: x178 :: x179 :: x180 :: x181 :: x182 :: x183 :: x184 :: x185 :: x186 :: x187 :: x188 :: x189 :: x190 :: x191 :: x192 :: x193 :: []), []⟩ w := by
 have HK := Qh hQ; have HKP := Qh hQp
 clear hQ hQp
 conv => arg 2; whnf
 obtain ⟨ab, ao, x, rfl, _, hx, hok, hrg⟩ := HL.out.at hi
 rw [HX.out] at hx; injection hx with hx; subst hx
 have hu1 := hok.1; have hu2 := hok.2
 simp only [U64] at hu1 hu2
 have h5 : w.cell? ⟨ab, ao + i * 2, none⟩ = some (.int .u64 d) := hrg 0 _ rfl
 have h6 : w.cell? ⟨ab, ao + i * 2 + 1, none⟩ = some (.int .u64 e) := hrg 1 _ rfl
 have HD9 := Qh h5; have HE9 := Qh h6
 clear hrg hok h5 h6
 obtain ⟨bc, hce⟩ : ∃ b, decide (e ≤ d) = b := ⟨_, rfl⟩
 obtain ⟨bg, hbg⟩ : ∃ b, decide (4611686018427387904 < e) = b := ⟨_, rfl⟩
 simp only [rackB, hce, hbg] at HK
 by_cases h0 : i = 0
 ·
  subst h0
  simp only [Nat.zero_mul, Nat.add_zero] at HD9 HE9
  simp only [show decide (0 < 0) = false from rfl, Bool.false_and] at HK
  have g0 : ∀ z : In (fun y => y.heap[gf]? = some (.cells RF.toArray 39 (0, 0)) ∧ y.cell? ⟨ab, ao, none⟩ = some (.int .u64 d) ∧ y.cell? ⟨ab, ao + 1, none⟩ = some (.int .u64 e)), z.w.cell? ⟨gf, 10, none⟩ = some (.slice (some ⟨ab, ao, none⟩) n cp) := fun z => row_cell z.h.1 10 _ (by rw [List.getElem?_toArray]; exact H_r.out)
  have g1 : ∀ z : In (fun y => y.heap[gf]? = some (.cells RF.toArray 39 (0, 0)) ∧ y.cell? ⟨ab, ao, none⟩ = some (.int .u64 d) ∧ y.cell? ⟨ab, ao + 1, none⟩ = some (.int .u64 e)), z.w.cell? ⟨ab, ao, none⟩ = some (.int .u64 d) := fun z => z.h.2.1
  have g2 : ∀ z : In (fun y => y.heap[gf]? = some (.cells RF.toArray 39 (0, 0)) ∧ y.cell? ⟨ab, ao, none⟩ = some (.int .u64 d) ∧ y.cell? ⟨ab, ao + 1, none⟩ = some (.int .u64 e)), z.w.cell? ⟨ab, ao + 1, none⟩ = some (.int .u64 e) := fun z => z.h.2.2
  cases bc <;> cases bg
  all_goals
   refine wp_plan (.t 0 (.t 1 (.t 2 (.t 3 (.t 4 (.t 5 (.t 6 (.t 7 (.t 8 (.t 9 (.t 10 (.t 11 (.t 12 (.t 13 (.t 14 (.t 15 (.t 16 (.t 17 (.t 18 (.t 19 (.t 20 (.t 21 (.t 22 (.t 23 (.t 24 (.t 25 (.t 26 (.t 27 (.t 28 (.t 29 (.t 30 (.t 31 (.t 32 (.t 33 (.t 34 (.t 35 (.t 36 (.t 37 (.t 38 (.t 39 (.t 40 (.t 41 .done)))))))))))))))))))))))))))))))))))))))))) (fun y => y.heap[gf]? = some (.cells RF.toArray 39 (0, 0)) ∧ y.cell? ⟨ab, ao, none⟩ = some (.int .u64 d) ∧ y.cell? ⟨ab, ao + 1, none⟩ = some (.int .u64 e)) (by kernel_rfl) (by kernel_rfl) (by kernel_rfl) (fun c a d v w h => by first | (cases d <;> exact h) | exact HKP.out c a d v w h) ⟨HG.out, HD9.out, HE9.out⟩ ?_
   haveI hne : Nonempty (In (fun y => y.heap[gf]? = some (.cells RF.toArray 39 (0, 0)) ∧ y.cell? ⟨ab, ao, none⟩ = some (.int .u64 d) ∧ y.cell? ⟨ab, ao + 1, none⟩ = some (.int .u64 e))) := ⟨⟨w, ⟨HG.out, HD9.out, HE9.out⟩⟩⟩
   repeat (first | rw [hce] | rw [hbg] | (refine plan_t (by rfl) ?_; (first | go_big_quiet_skip | (go_big_quiet_want; go_big_quiet_op; go_big_quiet_on)); refine wpQuiet_nil ?_))
   clear hne
   show Q _ _ _
   exact HK.out _ _ _ _ _ _ _ _ _ _ _ _ _ _ _ _ _ _ _ _ _ _ _ _ _ _ _ _ _ _ _ _ _ _ _ _ _ _ _ _ _ w.drew (Qh (Below.refl w.heap.size w).drew)
 ·
  obtain ⟨j, rfl⟩ : ∃ j, i = j + 1 := ⟨i - 1, by omega⟩
  obtain ⟨ab2, ao2, y, e9, _, hy, hok2, hrg2⟩ := HL.out.at (j := j) (by omega)
  injection e9 with e9; injection e9 with e9 e10; subst e9; subst e10
  obtain ⟨p0, q0⟩ := y
  have hv2 := hok2.2
  simp only [U64] at hv2
  have hq : w.cell? ⟨ab, ao + j * 2 + 1, none⟩ = some (.int .u64 q0) := hrg2 1 _ rfl
  have HQ9 := Qh hq
  obtain ⟨bp, hpq⟩ : ∃ b, decide (d ≤ q0) = b := ⟨_, rfl⟩
  have hj0 : decide (0 < ((j + 1 : Nat) : Int)) = true := by simp
  have hj1 : decide (0 < j + 1) = true := by simp
  simp only [Nat.add_sub_cancel, hy, Option.getD_some, hpq, hj1, Bool.true_and] at HK
  clear hrg2 hok2 hq hy hj1
  have g0 : ∀ z : In (fun y => y.heap[gf]? = some (.cells RF.toArray 39 (0, 0)) ∧ y.cell? ⟨ab, ao + (j + 1) * 2, none⟩ = some (.int .u64 d) ∧ y.cell? ⟨ab, ao + (j + 1) * 2 + 1, none⟩ = some (.int .u64 e) ∧ y.cell? ⟨ab, ao + j * 2 + 1, none⟩ = some (.int .u64 q0)), z.w.cell? ⟨gf, 10, none⟩ = some (.slice (some ⟨ab, ao, none⟩) n cp) := fun z => row_cell z.h.1 10 _ (by rw [List.getElem?_toArray]; exact H_r.out)
  have g1 : ∀ z : In (fun y => y.heap[gf]? = some (.cells RF.toArray 39 (0, 0)) ∧ y.cell? ⟨ab, ao + (j + 1) * 2, none⟩ = some (.int .u64 d) ∧ y.cell? ⟨ab, ao + (j + 1) * 2 + 1, none⟩ = some (.int .u64 e) ∧ y.cell? ⟨ab, ao + j * 2 + 1, none⟩ = some (.int .u64 q0)), z.w.cell? ⟨ab, ao + (j + 1) * 2, none⟩ = some (.int .u64 d) := fun z => z.h.2.1
  have g2 : ∀ z : In (fun y => y.heap[gf]? = some (.cells RF.toArray 39 (0, 0)) ∧ y.cell? ⟨ab, ao + (j + 1) * 2, none⟩ = some (.int .u64 d) ∧ y.cell? ⟨ab, ao + (j + 1) * 2 + 1, none⟩ = some (.int .u64 e) ∧ y.cell? ⟨ab, ao + j * 2 + 1, none⟩ = some (.int .u64 q0)), z.w.cell? ⟨ab, ao + (j + 1) * 2 + 1, none⟩ = some (.int .u64 e) := fun z => z.h.2.2.1
  have g3 : ∀ z : In (fun y => y.heap[gf]? = some (.cells RF.toArray 39 (0, 0)) ∧ y.cell? ⟨ab, ao + (j + 1) * 2, none⟩ = some (.int .u64 d) ∧ y.cell? ⟨ab, ao + (j + 1) * 2 + 1, none⟩ = some (.int .u64 e) ∧ y.cell? ⟨ab, ao + j * 2 + 1, none⟩ = some (.int .u64 q0)), z.w.cell? ⟨ab, ao + j * 2 + 1, none⟩ = some (.int .u64 q0) := fun z => z.h.2.2.2
  cases bc <;> cases bp <;> cases bg
  all_goals
   refine wp_plan (.t 0 (.t 1 (.t 2 (.t 3 (.t 4 (.t 5 (.t 6 (.t 7 (.t 8 (.t 9 (.t 10 (.t 11 (.t 12 (.t 13 (.t 14 (.t 15 (.t 16 (.t 17 (.t 18 (.t 19 (.t 20 (.t 21 (.t 22 (.t 23 (.t 24 (.t 25 (.t 26 (.t 27 (.t 28 (.t 29 (.t 30 (.t 31 (.t 32 (.t 33 (.t 34 (.t 35 (.t 36 (.t 37 (.t 38 (.t 39 (.t 40 (.t 41 .done)))))))))))))))))))))))))))))))))))))))))) (fun y => y.heap[gf]? = some (.cells RF.toArray 39 (0, 0)) ∧ y.cell? ⟨ab, ao + (j + 1) * 2, none⟩ = some (.int .u64 d) ∧ y.cell? ⟨ab, ao + (j + 1) * 2 + 1, none⟩ = some (.int .u64 e) ∧ y.cell? ⟨ab, ao + j * 2 + 1, none⟩ = some (.int .u64 q0)) (by kernel_rfl) (by kernel_rfl) (by kernel_rfl) (fun c a d v w h => by first | (cases d <;> exact h) | exact HKP.out c a d v w h) ⟨HG.out, HD9.out, HE9.out, HQ9.out⟩ ?_
   haveI hne : Nonempty (In (fun y => y.heap[gf]? = some (.cells RF.toArray 39 (0, 0)) ∧ y.cell? ⟨ab, ao + (j + 1) * 2, none⟩ = some (.int .u64 d) ∧ y.cell? ⟨ab, ao + (j + 1) * 2 + 1, none⟩ = some (.int .u64 e) ∧ y.cell? ⟨ab, ao + j * 2 + 1, none⟩ = some (.int .u64 q0))) := ⟨⟨w, ⟨HG.out, HD9.out, HE9.out, HQ9.out⟩⟩⟩
   repeat (first | rw [hce] | rw [hbg] | rw [hpq] | rw [hj0] | (refine plan_t (by rfl) ?_; (first | go_big_quiet_skip | (go_big_quiet_want; go_big_quiet_op; go_big_quiet_on)); refine wpQuiet_nil ?_))
   clear hne
   show Q _ _ _
   exact HK.out _ _ _ _ _ _ _ _ _ _ _ _ _ _ _ _ _ _ _ _ _ _ _ _ _ _ _ _ _ _ _ _ _ _ _ _ _ _ _ _ _ w.drew (Qh (Below.refl w.heap.size w).drew)
theorem rright4_2 (w : World) (f : Fr) (dv rv : Value) (h : FrAt w f dv rv) (hk : f.kind = 2) :
  Calls Try.prog 18 #[.agg (f.cells dv rv).toArray] w fun e w' => e = .returned (.bool (rightB f)) ∧ Below w.heap.size w w' := by
 have hR : rightB f = (ackB f.rg && inB f.de) := by unfold rightB; simp [hk]
 rw [hR]
 have hwf := h.wf
 obtain ⟨ra, rn, rc, rfl, hr1, hr2, hr⟩ := h.r
 have HRK := Qh hr
 have hln : f.rg.length = rn := hr.1.symm
 obtain ⟨rs, hrg⟩ : ∃ r, f.rg = r := ⟨_, rfl⟩
 rw [hrg] at HRK hln ⊢
 have HLN := Qh hln
 have hrn0 : rn ≤ 9223372036854775807 := by omega
 clear hrg hr hln
 have HRF : Hid ((f.cells dv (.slice ra rn rc)).length = 19) := Qh (Fr.len hwf)
 have H0 : Hid ((f.cells dv (.slice ra rn rc))[0]? = some (.int .i64 2)) := Qh (by rw [← hk]; rfl)
 have H_de : Hid ((f.cells dv (.slice ra rn rc))[9]? = some (.int .u64 f.de)) := Qh rfl
 have u_de := hwf.de
 simp only [U64] at u_de
 have H_r : Hid ((f.cells dv (.slice ra rn rc))[10]? = some (.slice ra rn rc)) := Qh rfl
 obtain ⟨RF, hRF⟩ : ∃ R, f.cells dv (.slice ra rn rc) = R := ⟨_, rfl⟩
 simp only [hRF] at HRF H0 H_de H_r
 rw [hRF]
 obtain ⟨de, h_de⟩ : ∃ y, f.de = y := ⟨_, rfl⟩
 rw [h_de] at H_de u_de ⊢
 obtain ⟨u1_de, u2_de⟩ := u_de
 clear h_de
 obtain ⟨b1, hb1⟩ : ∃ b, inB de = b := ⟨_, rfl⟩
 rw [hb1]
 have Hb1 := Qh hb1
 clear hb1 hwf h hR hRF
 go_enter Try.func18, Try.ntmps18
 go_upto_region 1 with fail
 change Code.wp _ _ _ _ (w.alloc (.cells RF.toArray 39))
 have HB := Qh (Below.refl w.heap.size w)
 have hb := (Below.refl w.heap.size w).alloc (Nat.le_refl _) (.cells RF.toArray 39)
 replace HB := Qh (bl_next HB.out HB.out.size hb)
 replace HRK := Qh (HRK.out.below hb)
 have HF := Qh (heap_alloc_new w (.cells RF.toArray 39))
 clear hb
 generalize w.alloc (.cells RF.toArray 39) = w1 at HB HRK HF ⊢
 obtain ⟨gf, hg⟩ : ∃ g, w.heap.size = g := ⟨_, rfl⟩
 rw [hg] at HF ⊢
 clear hg
 have c0 := cell_row HF.out 0 _ H0.out
 have c_de := cell_row HF.out 9 _ H_de.out
 have c_r := cell_row HF.out 10 _ H_r.out
 by_cases h1 : 1 ≤ rn
 ·
  by_cases h16 : rn ≤ 16
  ·
   have hd1 : decide ((rn : Int) < 1) = false := by simp; omega
   have hd16 : decide (16 < (rn : Int)) = false := by simp; omega
   have hin := rsmall_any (w1.alloc (.cells ([.int .u64 de] : List Value).toArray 34)) (some ⟨w1.heap.size, 0, none⟩) 1 1 [de] (IntsK.of_row (zs := [de]) (heap_alloc_new _ _) (fun x hx => by simp only [List.mem_cons, List.not_mem_nil, or_false] at hx; subst hx; exact wf_u64r (by omega) (by omega))) (by omega)
   rw [show ([de].all inB) = b1 by rw [← Hb1.out]; simp] at hin
   have HIN := Qh hin
   clear hin
   go_wp2_with (first | rw [hd1] | rw [hd16] | fail)
   refine Calls.mono HIN.out ?_
   rintro e wq ⟨rfl, rfl⟩
   clear HIN hd1 hd16
   clear c0 c_de c_r
   have hb := (Below.refl w1.heap.size w1).alloc (Nat.le_refl _) (.cells ([.int .u64 de] : List Value).toArray 34)
   replace HB := Qh (bl_next HB.out HB.out.size hb)
   replace HRK := Qh (HRK.out.below hb)
   replace HF := Qh (bl_row hb (lt_of_block HF.out) HF.out)
   have HGb1 := Qh (heap_alloc_new w1 (.cells ([.int .u64 de] : List Value).toArray 34))
   clear hb
   generalize w1.alloc (.cells ([.int .u64 de] : List Value).toArray 34) = w2 at HB HRK HF HGb1 ⊢
   obtain ⟨gb1, hg⟩ : ∃ g, w1.heap.size = g := ⟨_, rfl⟩
   rw [hg] at HGb1 ⊢
   clear hg
   have c0 := cell_row HF.out 0 _ H0.out
   have c_de := cell_row HF.out 9 _ H_de.out
   have c_r := cell_row HF.out 10 _ H_r.out
   cases b1
   ·
    go_wp2_with fail
    (try simp only [Exit.inBlock, Exit.then])
    go_ret
    exact ⟨by first | rfl | (simp; done), HB.out⟩
   ·
    go_wp2_with fail
    clear c0 c_de c_r HGb1
    go_loopw [3] (fun s3 wr => ∃ i : Nat, s3 = .int .i64 i ∧ i ≤ rn ∧ Hid (Below w2.heap.size w2 wr) ∧ Hid (risesB (rs.take i) = true) ∧ Hid (∀ x ∈ rs.take i, x.2 ≤ 4611686018427387904)) (fun s _ => rn - (intOf s).toNat)
    case atStart => exact ⟨0, rfl, by omega, Qh (Below.refl _ _), Qh rfl, Qh (by intro x hx; simp at hx)⟩
    case round =>
     obtain ⟨i, rfl, hi, HBL, HA, HM⟩ := hrel
     have HG := Qh (bl_row HBL.out (lt_of_block HF.out) HF.out)
     have c_r := cell_row HG.out 10 _ H_r.out
     by_cases hlt : i < rn
     ·
      have HL1 := Qh (HRK.out.below HBL.out)
      obtain ⟨ab, ao, y, rfl, _, hx, hok, hrg⟩ := HL1.out.at hlt
      obtain ⟨d, e⟩ := y
      have HX := Qh hx
      have HTS := Qh (take_snd4 hx)
      clear hx hok hrg
      go_upto_region 14 with fail
      refine rack_round _ HL1 HX hlt h16 HG HRF H_r (fun c a d v w h => by cases d <;> exact h) ?_
      rintro _ _ _ _ _ _ _ _ _ _ _ _ _ _ _ _ _ _ _ _ _ _ _ _ _ _ _ _ _ _ _ _ _ _ _ _ _ _ _ _ _ w9 HB9
      clear c_r
      obtain ⟨bb, hbb⟩ : ∃ b, rackB i d e rs[i - 1]? = b := ⟨_, rfl⟩
      rw [hbb]
      replace HBL := Qh (bl_next HBL.out HBL.out.size HB9.out)
      cases bb
      ·
       simp only [rackB, Bool.or_eq_false_iff, Bool.and_eq_false_iff, decide_eq_false_iff_not] at hbb
       obtain ⟨⟨hde, hpq⟩, hm⟩ := hbb
       have HN : Hid (risesB (rs.take (i + 1)) = true) := Qh (by rw [HTS.out]; exact risesB_snoc _ _ HA.out (fun z hz => by by_cases h0 : i = 0; exact absurd hz (by subst h0; simp); have hpv := List.getElem?_eq_getElem (l := rs) (i := i - 1) (by rw [HLN.out]; omega); have hlt2 := last_take hpv; rw [show i - 1 + 1 = i by omega] at hlt2; rw [hlt2] at hz; injection hz with hz; subst hz; rw [hpv, Option.getD_some] at hpq; simp only; omega) (by simp only; omega))
       have HM2 : Hid (∀ x ∈ rs.take (i + 1), x.2 ≤ 4611686018427387904) := Qh (by rw [HTS.out]; intro x hx; exact (List.mem_append.1 hx).elim (fun hx => HM.out x hx) (fun hx => by simp at hx; subst hx; simp only; omega))
       clear HB9 HG HL1 hde hpq hm
       go_wp2_with fail
       go_roundw
       case rel => exact ⟨i + 1, by go_num, by omega, HBL, HN, HM2⟩
       case measure => simp [intOf]; omega
      ·
       have HN : Hid (ackB rs = false) := Qh (ackB_no (fun h => by
        simp only [rackB, Bool.or_eq_true, Bool.and_eq_true, decide_eq_true_eq] at hbb
        have h9 := rises_take h.2.2.2 (i + 1)
        rw [HTS.out] at h9
        obtain ⟨_, k1, k2⟩ := rises_snoc_inv h9
        simp only at k1
        rcases hbb with (hbb | ⟨h0, hbb⟩) | hbb
        ·
         omega
        ·
         have hpv := List.getElem?_eq_getElem (l := rs) (i := i - 1) (by rw [HLN.out]; omega)
         have hlt2 := last_take hpv
         rw [show i - 1 + 1 = i by omega] at hlt2
         have := k2 _ hlt2
         rw [hpv, Option.getD_some] at hbb
         simp only at this; omega
        ·
         have h8 := h.2.2.1; obtain ⟨z, hz⟩ : ∃ z, rs.getLast? = some z := ⟨_, List.getLast?_eq_some_getLast (fun h9 => by rw [h9] at HX; cases HX.out)⟩; rw [hz, Option.getD_some] at h8; have := rises_last rs h.2.2.2 (d, e) (List.mem_of_getElem? HX.out) z hz; simp only at this; omega))
       replace HB := Qh (bl_next HB.out HB.out.size HBL.out)
       clear HB9 HG HL1 hbb
       go_wp2_with fail
       (try simp only [Exit.inBlock, Exit.then])
       go_ret
       exact ⟨by rw [HN.out]; rfl, HB.out⟩
     ·
      obtain rfl : i = rn := by omega
      have HN : Hid (ackB rs = true) := Qh (ackB_iff.2 ⟨by rw [HLN.out]; exact h1, by rw [HLN.out]; exact h16, by obtain ⟨z, hz⟩ : ∃ z, rs.getLast? = some z := ⟨_, List.getLast?_eq_some_getLast (fun h9 => by have := HLN.out; rw [h9] at this; simp at this; omega)⟩; rw [hz, Option.getD_some]; exact HM.out z (by rw [List.take_of_length_le (by rw [HLN.out]; exact Nat.le_refl _)]; exact List.mem_of_getLast? hz), by have h9 := HA.out; rw [List.take_of_length_le (by rw [HLN.out]; exact Nat.le_refl _)] at h9; exact h9⟩)
      replace HB := Qh (bl_next HB.out HB.out.size HBL.out)
      go_wp2_with fail
      (try simp only [Exit.inBlock, Exit.then])
      go_ret
      exact ⟨by rw [HN.out]; rfl, HB.out⟩
  ·
   have HN : Hid (ackB rs = false) := Qh (ackB_no (fun h => by have := h.2.1; rw [HLN.out] at this; omega))
   have hd1 : decide ((rn : Int) < 1) = false := by simp; omega
   have hd16 : decide (16 < (rn : Int)) = true := by simp; omega
   go_wp2_with (first | rw [hd1] | rw [hd16] | fail)
   (try simp only [Exit.inBlock, Exit.then])
   go_ret
   exact ⟨by rw [HN.out]; rfl, HB.out⟩
 ·
  have HN : Hid (ackB rs = false) := Qh (ackB_no (fun h => by have := h.1; rw [HLN.out] at this; omega))
  have hd1 : decide ((rn : Int) < 1) = true := by simp; omega
  go_wp2_with (first | rw [hd1] | fail)
  (try simp only [Exit.inBlock, Exit.then])
  go_ret
  exact ⟨by rw [HN.out]; rfl, HB.out⟩
theorem rright4_any (w : World) (f : Fr) (dv rv : Value) (h : FrAt w f dv rv) :
  Calls Try.prog 18 #[.agg (f.cells dv rv).toArray] w fun e w' => e = .returned (.bool (rightB f)) ∧ Below w.heap.size w w' := by
 by_cases hk : f.kind = 0 ∨ f.kind = 1 ∨ f.kind = 30 ∨ f.kind = 26 ∨ f.kind = 27 ∨ f.kind = 2 ∨ f.kind = 4 ∨ f.kind = 5 ∨ f.kind = 6 ∨ f.kind = 8 ∨ f.kind = 16 ∨ f.kind = 17 ∨ f.kind = 18 ∨ f.kind = 20 ∨ f.kind = 24 ∨ f.kind = 25 ∨ f.kind = 28
 ·
  rcases hk with hk | hk | hk | hk | hk | hk | hk | hk | hk | hk | hk | hk | hk | hk | hk | hk | hk
  ·
   exact rright4_0 w f dv rv h hk
  ·
   exact rright4_1 w f dv rv h hk
  ·
   exact rright4_30 w f dv rv h hk
  ·
   exact rright4_26 w f dv rv h hk
  ·
   exact rright4_27 w f dv rv h hk
  ·
   exact rright4_2 w f dv rv h hk
  ·
   exact rright4_4 w f dv rv h hk
  ·
   exact rright4_5 w f dv rv h hk
  ·
   exact rright4_6 w f dv rv h hk
  ·
   exact rright4_8 w f dv rv h hk
  ·
   exact rright4_16 w f dv rv h hk
  ·
   exact rright4_17 w f dv rv h hk
  ·
   exact rright4_18 w f dv rv h hk
  ·
   exact rright4_20 w f dv rv h hk
  ·
   exact rright4_24 w f dv rv h hk
  ·
   exact rright4_25 w f dv rv h hk
  ·
   exact rright4_28 w f dv rv h hk
 ·
  exact rright4_no w f dv rv h hk
end Go.Proofs.Ytmbjepcbokbemaa
namespace Go.Proofs.Ytmbjepcbokbemaa
open Go.RowKit
theorem wp_append_bytes_at {o : Oper} {a : Act} {w : World} {K : Act → World → Prop} {Q : Exit → Act → World → Prop} (s x : Operand)
  (ho : o.op = .call { callee := .builtin .append, args := #[s, x], argTypes := #[25, 25] })
  (base n : Nat) (v : Value) (xs : List Int) (hs : a.eval s = v) (hown : w.ownsRow base 5 1 v n (xs.map (Value.int .u8))) (xa : Option Addr) (m c : Nat) (bs : List Int) (hx : a.eval x = .slice xa m c) (hI : IntsK .u8 w xa m bs)
  (hb : n + m ≤ 140737488355328) (hbase : base ≤ w.heap.size)
  (h : ∀ v' w', w'.ownsRow base 5 1 v' (n + m) ((xs ++ bs).map (Value.int .u8)) → w.grownBy w' v.ownBlock → (v'.ownBlock = v.ownBlock ∨ v'.ownBlock = some w.heap.size) → K (a.put o.dst v') w') : Oper.wp Try.prog o a w K Q := by
 obtain ⟨v', w', hr, h2, h3, h4⟩ := append_bytes_at w o.type base n v xs hown xa m c bs hI hb hbase
 unfold Oper.wp execOp
 simp only [ho, resolve, invoke, builtin, Sem.run_bind, Sem.run_pure, Result.andThen_ok, List.map_toArray, List.map_cons, List.map_nil, hs, hx, hr]
 exact h v' w' h2 h3 h4
end Go.Proofs.Ytmbjepcbokbemaa
namespace Go.Proofs.Ytmbjepcbokbemaa
open Go.RowKit
theorem or_u8 (x y : Int) (i : Nat) (hy : y % 2 ^ i = 0) (h0 : 0 ≤ x) (h1 : x < 2 ^ i) (h2 : 0 ≤ y) (h3 : x < 256) (h4 : y < 256) : bits .or .u8 x y = x + y := by
 rw [u8_or _ _ h0 h3 h2 h4, Nat.or_comm]
 have e : ((2 ^ i : Nat) : Int) = (2 : Int) ^ i := by simp
 rw [nat_join i y.toNat x.toNat (by
  have h6 : ((y.toNat : Int)) % ((2 ^ i : Nat) : Int) = 0 := by rw [Int.toNat_of_nonneg h2, e]; exact hy
  exact_mod_cast h6) (by
  have h7 : ((x.toNat : Int)) < ((2 ^ i : Nat) : Int) := by rw [Int.toNat_of_nonneg h0, e]; exact h1
  exact_mod_cast h7)]
 omega
theorem putM_at {n : Int} {s j : Nat} (es : sizeM n = s) (hs : s = 1 ∨ s = 2 ∨ s = 4 ∨ s = 8) (hj : 1 ≤ j) (h : j < s) : (putM n)[j]? = some (n / 2 ^ (8 * (s - 1 - j)) % 256) := by
 rcases hs with rfl | rfl | rfl | rfl
 ·
  omega
 ·
  obtain rfl : j = 1 := by omega
  simp [putM, es]
 ·
  have hc : j = 1 ∨ j = 2 ∨ j = 3 := by omega
  rcases hc with rfl | rfl | rfl <;> simp [putM, es]
 ·
  have hc : j = 1 ∨ j = 2 ∨ j = 3 ∨ j = 4 ∨ j = 5 ∨ j = 6 ∨ j = 7 := by omega
  rcases hc with rfl | rfl | rfl | rfl | rfl | rfl | rfl <;> simp [putM, es]
theorem take_snoc {α : Type} {l : List α} {j : Nat} {x : α} (h : l[j]? = some x) : l.take j ++ [x] = l.take (j + 1) := by
 rw [List.take_add_one, h]; rfl
theorem rput_any (w : World) (a : Option Addr) (len cap : Nat) (bs : List Int) (n : Int) (hn : 0 ≤ n ∧ n ≤ 4611686018427387903) (hlen : len + 8 ≤ 140737488355328) (hI : IntsK .u8 w a len bs) :
  Calls Try.prog 66 #[.slice a len cap, .int .u64 n] w fun e w' => ∃ v, e = .returned v ∧ Below w.heap.size w w' ∧
   w'.ownsRow w.heap.size 5 1 v (len + sizeM n) ((bs ++ putM n).map (Value.int .u8)) := by
 have HI := Qh hI; clear hI
 have hsz := sizeM_cases n
 obtain ⟨s, es⟩ : ∃ s, sizeM n = s := ⟨_, rfl⟩
 have hputl := putM_len n
 rw [es] at hputl hsz
 have ES := Qh es; clear es
 have hn1 := hn.1
 have hs : s = 1 ∨ s = 2 ∨ s = 4 ∨ s = 8 := by omega
 go_enter Try.func66, Try.ntmps66
 go_wp2_with fail
 refine Calls.mono (rsize_any _ n) ?_
 rintro e w' ⟨rfl, rfl⟩
 rw [ES.out]
 go_wp2_with (first | (at_builtin; refine wpList_append_bytes rfl _ _ rfl w'.heap.size 0 (.slice (some ⟨w'.heap.size, 0, none⟩) 0 0) [] rfl (World.ownsRow_made _ _ _ (Nat.le_refl _) (by unfold maxLen; omega) (by rfl)) _ _ _ _ rfl (HI.out.below ((Below.refl _ _).alloc (Nat.le_refl _) _)) (by omega) (by simp) ?_; intro v1 w1 hown1 hgrow1; have HO := Qh hown1; have HL := Qh (((Below.refl w'.heap.size w').alloc (Nat.le_refl _) _).grown hgrow1 (by simp) (by intro k hk; simp [Value.ownBlock] at hk; omega)); clear hown1 hgrow1) | fail)
 have HO0 : Hid (w1.ownsRow w'.heap.size 5 1 v1 (len + 0) ((bs ++ (putM n).take 0).map (Value.int .u8))) := Qh (by simpa using HO.out)
 have hl : bs.length = len := HI.out.1
 clear HO
 go_loopw [6, 7] (fun s6 s7 wr => ∃ (j : Nat), s7 = .int .i64 j ∧ j ≤ s ∧ Hid (Below w'.heap.size w' wr) ∧ Hid (wr.ownsRow w'.heap.size 5 1 s6 (len + j) ((bs ++ (putM n).take j).map (Value.int .u8)))) (fun _ s7 _ => s - (intOf s7).toNat)
 case atStart => exact ⟨0, rfl, by omega, HL, HO0⟩
 case round =>
  clear HO0 HL
  obtain ⟨j, rfl, hj, HL, HO⟩ := hrel
  have hm := HL.out.size
  by_cases hlt : j < s
  ·
   by_cases hj0 : j = 0
   ·
    subst hj0
    rcases hs with rfl | rfl | rfl | rfl
    ·
     have HX : Hid (bits .or .u8 (n) 0 = n) := Qh (by rw [or_u8 _ _ 6 (by decide) (by omega) (by rw [show (2 : Int) ^ 6 = 64 from by decide]; omega) (by omega) (by omega) (by omega)]; try omega)
     have HP : Hid ((putM n)[0]? = some (n)) := Qh (by simp [putM, ES.out])
     have HWF := Qh (putM_wf n hn.1 _ (List.mem_of_getElem? HP.out))
     go_upto_region 9 with fail
     rw [HX.out]
     have HO2 := Qh (own_below HO.out ((Below.refl _ _).alloc (Nat.le_refl _) (.cells #[.int .u8 0, .int .u8 0, .int .u8 64, .int .u8 0, .int .u8 128, .int .u8 0, .int .u8 0, .int .u8 0, .int .u8 192] 5)))
     have HL2 := Qh (HL.out.alloc HL.out.size (.cells #[.int .u8 0, .int .u8 0, .int .u8 64, .int .u8 0, .int .u8 128, .int .u8 0, .int .u8 0, .int .u8 0, .int .u8 192] 5))
     clear HO HL hm
     generalize wr.alloc (.cells #[.int .u8 0, .int .u8 0, .int .u8 64, .int .u8 0, .int .u8 128, .int .u8 0, .int .u8 0, .int .u8 0, .int .u8 192] 5) = W1 at HO2 HL2 ⊢
     have hm := HL2.out.size
     go_wp2_with (first | (at_builtin; refine wpList_append_bytes rfl _ _ rfl w'.heap.size _ _ _ rfl (own_below HO2.out ((Below.refl _ _).alloc (Nat.le_refl _) _)) _ _ _ _ rfl (ints_made _ _ HWF.out) (by omega) (by simp; omega) ?_; intro v3 w3 hown3 hgrow3; have HO3 := Qh hown3; have HL3 := Qh ((HL2.out.alloc HL2.out.size _).grown hgrow3 (by simp; omega) (own_base HO2.out)); clear hown3 hgrow3) | fail)
     have HO4 : Hid (w3.ownsRow w'.heap.size 5 1 v3 (len + (0 + 1)) ((bs ++ (putM n).take (0 + 1)).map (Value.int .u8))) := Qh (by
      have h := HO3.out
      rw [List.append_assoc, take_snoc HP.out] at h
      exact h)
     clear HO3 HO2 HL2 hm
     go_roundw
     case rel => exact ⟨1, rfl, by omega, Qh (by have h := HO4.out; simpa using h)⟩
     case measure => simp [intOf]
    ·
     have HX : Hid (bits .or .u8 (n / 256) 64 = n / 256 + 64) := Qh (by rw [or_u8 _ _ 6 (by decide) (by omega) (by rw [show (2 : Int) ^ 6 = 64 from by decide]; omega) (by omega) (by omega) (by omega)]; try omega)
     have HP : Hid ((putM n)[0]? = some (n / 256 + 64)) := Qh (by simp [putM, ES.out])
     have HWF := Qh (putM_wf n hn.1 _ (List.mem_of_getElem? HP.out))
     go_upto_region 9 with fail
     rw [HX.out]
     have HO2 := Qh (own_below HO.out ((Below.refl _ _).alloc (Nat.le_refl _) (.cells #[.int .u8 0, .int .u8 0, .int .u8 64, .int .u8 0, .int .u8 128, .int .u8 0, .int .u8 0, .int .u8 0, .int .u8 192] 5)))
     have HL2 := Qh (HL.out.alloc HL.out.size (.cells #[.int .u8 0, .int .u8 0, .int .u8 64, .int .u8 0, .int .u8 128, .int .u8 0, .int .u8 0, .int .u8 0, .int .u8 192] 5))
     clear HO HL hm
     generalize wr.alloc (.cells #[.int .u8 0, .int .u8 0, .int .u8 64, .int .u8 0, .int .u8 128, .int .u8 0, .int .u8 0, .int .u8 0, .int .u8 192] 5) = W1 at HO2 HL2 ⊢
     have hm := HL2.out.size
     go_wp2_with (first | (at_builtin; refine wpList_append_bytes rfl _ _ rfl w'.heap.size _ _ _ rfl (own_below HO2.out ((Below.refl _ _).alloc (Nat.le_refl _) _)) _ _ _ _ rfl (ints_made _ _ HWF.out) (by omega) (by simp; omega) ?_; intro v3 w3 hown3 hgrow3; have HO3 := Qh hown3; have HL3 := Qh ((HL2.out.alloc HL2.out.size _).grown hgrow3 (by simp; omega) (own_base HO2.out)); clear hown3 hgrow3) | fail)
     have HO4 : Hid (w3.ownsRow w'.heap.size 5 1 v3 (len + (0 + 1)) ((bs ++ (putM n).take (0 + 1)).map (Value.int .u8))) := Qh (by
      have h := HO3.out
      rw [List.append_assoc, take_snoc HP.out] at h
      exact h)
     clear HO3 HO2 HL2 hm
     go_roundw
     case rel => exact ⟨1, rfl, by omega, Qh (by have h := HO4.out; simpa using h)⟩
     case measure => simp [intOf]
    ·
     have HX : Hid (bits .or .u8 (n / 16777216) 128 = n / 16777216 + 128) := Qh (by rw [or_u8 _ _ 6 (by decide) (by omega) (by rw [show (2 : Int) ^ 6 = 64 from by decide]; omega) (by omega) (by omega) (by omega)]; try omega)
     have HP : Hid ((putM n)[0]? = some (n / 16777216 + 128)) := Qh (by simp [putM, ES.out])
     have HWF := Qh (putM_wf n hn.1 _ (List.mem_of_getElem? HP.out))
     go_upto_region 9 with fail
     rw [HX.out]
     have HO2 := Qh (own_below HO.out ((Below.refl _ _).alloc (Nat.le_refl _) (.cells #[.int .u8 0, .int .u8 0, .int .u8 64, .int .u8 0, .int .u8 128, .int .u8 0, .int .u8 0, .int .u8 0, .int .u8 192] 5)))
     have HL2 := Qh (HL.out.alloc HL.out.size (.cells #[.int .u8 0, .int .u8 0, .int .u8 64, .int .u8 0, .int .u8 128, .int .u8 0, .int .u8 0, .int .u8 0, .int .u8 192] 5))
     clear HO HL hm
     generalize wr.alloc (.cells #[.int .u8 0, .int .u8 0, .int .u8 64, .int .u8 0, .int .u8 128, .int .u8 0, .int .u8 0, .int .u8 0, .int .u8 192] 5) = W1 at HO2 HL2 ⊢
     have hm := HL2.out.size
     go_wp2_with (first | (at_builtin; refine wpList_append_bytes rfl _ _ rfl w'.heap.size _ _ _ rfl (own_below HO2.out ((Below.refl _ _).alloc (Nat.le_refl _) _)) _ _ _ _ rfl (ints_made _ _ HWF.out) (by omega) (by simp; omega) ?_; intro v3 w3 hown3 hgrow3; have HO3 := Qh hown3; have HL3 := Qh ((HL2.out.alloc HL2.out.size _).grown hgrow3 (by simp; omega) (own_base HO2.out)); clear hown3 hgrow3) | fail)
     have HO4 : Hid (w3.ownsRow w'.heap.size 5 1 v3 (len + (0 + 1)) ((bs ++ (putM n).take (0 + 1)).map (Value.int .u8))) := Qh (by
      have h := HO3.out
      rw [List.append_assoc, take_snoc HP.out] at h
      exact h)
     clear HO3 HO2 HL2 hm
     go_roundw
     case rel => exact ⟨1, rfl, by omega, Qh (by have h := HO4.out; simpa using h)⟩
     case measure => simp [intOf]
    ·
     have HX : Hid (bits .or .u8 (n / 72057594037927936) 192 = n / 72057594037927936 + 192) := Qh (by rw [or_u8 _ _ 6 (by decide) (by omega) (by rw [show (2 : Int) ^ 6 = 64 from by decide]; omega) (by omega) (by omega) (by omega)]; try omega)
     have HP : Hid ((putM n)[0]? = some (n / 72057594037927936 + 192)) := Qh (by simp [putM, ES.out])
     have HWF := Qh (putM_wf n hn.1 _ (List.mem_of_getElem? HP.out))
     go_upto_region 9 with fail
     rw [HX.out]
     have HO2 := Qh (own_below HO.out ((Below.refl _ _).alloc (Nat.le_refl _) (.cells #[.int .u8 0, .int .u8 0, .int .u8 64, .int .u8 0, .int .u8 128, .int .u8 0, .int .u8 0, .int .u8 0, .int .u8 192] 5)))
     have HL2 := Qh (HL.out.alloc HL.out.size (.cells #[.int .u8 0, .int .u8 0, .int .u8 64, .int .u8 0, .int .u8 128, .int .u8 0, .int .u8 0, .int .u8 0, .int .u8 192] 5))
     clear HO HL hm
     generalize wr.alloc (.cells #[.int .u8 0, .int .u8 0, .int .u8 64, .int .u8 0, .int .u8 128, .int .u8 0, .int .u8 0, .int .u8 0, .int .u8 192] 5) = W1 at HO2 HL2 ⊢
     have hm := HL2.out.size
     go_wp2_with (first | (at_builtin; refine wpList_append_bytes rfl _ _ rfl w'.heap.size _ _ _ rfl (own_below HO2.out ((Below.refl _ _).alloc (Nat.le_refl _) _)) _ _ _ _ rfl (ints_made _ _ HWF.out) (by omega) (by simp; omega) ?_; intro v3 w3 hown3 hgrow3; have HO3 := Qh hown3; have HL3 := Qh ((HL2.out.alloc HL2.out.size _).grown hgrow3 (by simp; omega) (own_base HO2.out)); clear hown3 hgrow3) | fail)
     have HO4 : Hid (w3.ownsRow w'.heap.size 5 1 v3 (len + (0 + 1)) ((bs ++ (putM n).take (0 + 1)).map (Value.int .u8))) := Qh (by
      have h := HO3.out
      rw [List.append_assoc, take_snoc HP.out] at h
      exact h)
     clear HO3 HO2 HL2 hm
     go_roundw
     case rel => exact ⟨1, rfl, by omega, Qh (by have h := HO4.out; simpa using h)⟩
     case measure => simp [intOf]
   ·
    have hx := putM_at ES.out hs (by omega) hlt
    have HX := Qh hx; clear hx
    go_wp2_with (first | (at_builtin; refine wpList_append_bytes rfl _ _ rfl w'.heap.size _ _ _ rfl (own_below HO.out ((Below.refl _ _).alloc (Nat.le_refl _) _)) _ _ _ _ rfl (ints_made _ _ (wf_u8_mod _)) (by omega) (by simp; omega) ?_; intro v3 w3 hown3 hgrow3; have HO3 := Qh hown3; have HL3 := Qh ((HL.out.alloc HL.out.size _).grown hgrow3 (by simp; omega) (own_base HO.out)); clear hown3 hgrow3) | fail)
    have HO4 : Hid (w3.ownsRow w'.heap.size 5 1 v3 (len + (j + 1)) ((bs ++ (putM n).take (j + 1)).map (Value.int .u8))) := Qh (by
     have h := HO3.out
     rw [List.append_assoc, take_snoc HX.out] at h
     exact h)
    clear HO3 HO HL hm
    go_roundw
    case rel => exact ⟨j + 1, by go_num, by omega, HL3, HO4⟩
    case measure => simp [intOf]; omega
  ·
   obtain rfl : j = s := by omega
   go_wp2_with fail
   go_ret
   refine ⟨_, rfl, HL.out, ?_⟩
   have h := HO.out
   rw [List.take_of_length_le (by omega)] at h
   rw [ES.out]; exact h
end Go.Proofs.Ytmbjepcbokbemaa
namespace Go.Proofs.Ytmbjepcbokbemaa
open Go.RowKit
theorem rraw_any (W0 w : World) (L p : Nat) (bs : List Int) (bad : Bool) (n : Int) (hn : -9223372036854775808 ≤ n ∧ n ≤ 9223372036854775807) (h : Rd W0 w L p 105 bs bad) :
  Calls Try.prog 69 #[.pointer (some ⟨p, 0, none⟩), .int .i64 n] w fun e w' => ∃ a m cap, e = .returned (.slice a m cap) ∧ (m ≤ cap ∧ cap ≤ 9223372036854775807) ∧ IntsK .u8 w' a m (rdM bs bad n).1 ∧ Rd W0 w' L p 105 (rdM bs bad n).2.1 (rdM bs bad n).2.2 ∧ w.grownBy w' (some p) ∧ (∀ x, a = some x → w.heap.size ≤ x.block) := by
 obtain ⟨a, len, cap, hr, h1, h2, h3, h4⟩ := h.ex
 have c0 : w.cell? ⟨p, 0, none⟩ = some (.slice a len cap) := row_cell hr 0 _ rfl
 have c1 : w.cell? ⟨p, 1, none⟩ = some (.bool bad) := row_cell hr 1 _ rfl
 have hl := h3.1
 have hsm := h.small
 have HR := Qh h; have H3 := Qh h3
 clear h h3
 by_cases hb : bad = true ∨ n < 0 ∨ (bs.length : Int) < n
 ·
  have HM := Qh (rdM_bad hb)
  have f0 := row_free hr 0
  have f1 := row_free hr 1
  have hA := ((At.base hr).set 1 (.bool true)).set 0 (.slice none 0 0)
  have HA := Qh hA
  clear hr hA
  rw [hl] at hb
  have hb2 : bad = true ∨ (bad = false ∧ n < 0) ∨ (bad = false ∧ ¬ n < 0 ∧ (len : Int) < n) := by cases bad <;> simp at hb ⊢; omega
  clear hb
  go_enter Try.func69, Try.ntmps69
  rcases hb2 with rfl | ⟨rfl, h⟩ | ⟨rfl, h, h'⟩
  all_goals
   go_wp2_with fail
   go_ret
   refine ⟨none, 0, 0, rfl, ⟨Nat.le_refl _, by omega⟩, ?_, ?_, HA.out.rest, by simp⟩
   ·
    rw [HM.out]; exact IntsK.nil _ _ _
   ·
    rw [HM.out]; exact HR.out.set HA.out.rest HA.out.row (Nat.le_refl _) (by omega) (by simp) (IntsK.nil _ _ _) (by simp)
 ·
  have hb1 : bad = false := by cases bad <;> simp_all
  subst hb1
  obtain ⟨m, rfl⟩ : ∃ m : Nat, n = m := ⟨n.toNat, by omega⟩
  have hm : m ≤ len := by omega
  have HM := Qh (rdM_ok (bs := bs) (n := m) (by omega))
  clear hb
  have HPRE := Qh ((HR.out.ints H3.out h4).pre m hm)
  have hpw := HR.out.lt
  go_enter Try.func69, Try.ntmps69
  have HROW0 := Qh hr; clear hr
  go_upto_region 5 with (first | (at_builtin; refine wpList_append_bytes rfl _ _ rfl w.heap.size 0 (.slice (some ⟨w.heap.size, 0, none⟩) 0 0) [] rfl (World.ownsRow_made _ _ _ (Nat.le_refl _) (by unfold maxLen; omega) (by rfl)) _ _ _ _ rfl (HPRE.out.below ((Below.refl _ _).alloc (Nat.le_refl _) _)) (by omega) (by simp) ?_; intro v1 w' hown1 hgrow1; have HO := Qh hown1; have HB := Qh (((Below.refl w.heap.size w).alloc (Nat.le_refl _) _).grown hgrow1 (by simp) (by intro k hk; simp [Value.ownBlock] at hk; omega)); clear hown1 hgrow1) | fail)
  have hcm := own_cap HO.out
  obtain ⟨a1, cap1, rfl, hc1, hi1, hlow⟩ := ints_of_own (n := m) (ys := bs.take m) (by simpa using HO.out) HPRE.out.2.1
  replace hcm := hcm _ _ _ rfl
  have hrow := bl_row HB.out hpw HROW0.out
  have c0' : w'.cell? ⟨p, 0, none⟩ = some (.slice a len cap) := row_cell hrow 0 _ rfl
  have f0 := row_free hrow 0
  have HROW := Qh hrow; have HI1 := Qh hi1
  have hpa : ∀ x, a1 = some x → some x.block ≠ some p := fun x hx => by
   have h := hlow x hx
   simp; omega
  clear hrow hi1 HO c0
  by_cases hlt : m < len
  ·
   rcases H3.out.2.2 with h0 | ⟨ba, off, rfl, _, _⟩
   ·
    omega
   ·
    go_wp2_with fail
    go_ret
    refine ⟨_, _, _, rfl, ⟨hc1, hcm⟩, ?_, ?_, grown_trans (grown_below HB.out _) (grown_setCell _ _ _ _), hlow⟩
    ·
     rw [HM.out]; exact HI1.out.grown (grown_setCell _ _ _ _) hpa
    ·
     rw [HM.out]
     exact HR.out.set (grown_trans (grown_below HB.out _) (grown_setCell _ _ _ _)) ((At.base HROW.out).set 0 _).row (by omega) (by omega) (by simp) (H3.out.rest m hm _ fun _ => ⟨ba, off, rfl, rfl⟩) (fun x hx => by injection hx with hx; subst hx; exact h4 ⟨ba, off, none⟩ rfl)
  ·
   obtain rfl : m = len := by omega
   go_wp2_with fail
   all_goals
    go_ret
    refine ⟨_, _, _, rfl, ⟨hc1, hcm⟩, ?_, ?_, grown_trans (grown_below HB.out _) (grown_setCell _ _ _ _), hlow⟩
    ·
     rw [HM.out]; exact HI1.out.grown (grown_setCell _ _ _ _) hpa
    ·
     rw [HM.out]
     exact HR.out.set (grown_trans (grown_below HB.out _) (grown_setCell _ _ _ _)) ((At.base HROW.out).set 0 _).row (by omega) (by omega) (by simp) (by rw [show (bs.take m, bs.drop m, false).2.1 = [] from List.drop_of_length_le (by omega)]; exact IntsK.nil _ _ _) (by first | exact h4 | exact low_rest h4)
theorem rvar_any (W0 w : World) (L p : Nat) (bs : List Int) (bad : Bool) (h : Rd W0 w L p 105 bs bad) :
  Calls Try.prog 67 #[.pointer (some ⟨p, 0, none⟩)] w fun e w' => e = .returned (.int .u64 (varM bs bad).1) ∧ Rd W0 w' L p 105 (varM bs bad).2.1 (varM bs bad).2.2 ∧ w.grownBy w' (some p) := by
 obtain ⟨a, len, cap, hr, h1, h2, h3, h4⟩ := h.ex
 have c0 : w.cell? ⟨p, 0, none⟩ = some (.slice a len cap) := row_cell hr 0 _ rfl
 have c1 : w.cell? ⟨p, 1, none⟩ = some (.bool bad) := row_cell hr 1 _ rfl
 have f0 := row_free hr 0
 have f1 := row_free hr 1
 have hA := ((At.base hr).set 1 (.bool true)).set 0 (.slice none 0 0)
 have HA := Qh hA
 have hl := h3.1
 have hsm := h.small
 have HR := Qh h; have H3 := Qh h3; have HROW := Qh hr
 clear h h3 hr hA
 have hgs : getS bs ≤ bs.length := getS_le bs
 go_enter Try.func67, Try.ntmps67
 go_wp2_with fail
 refine Calls.mono (rget_any w a len cap bs (by omega) h1 (HR.out.ints H3.out h4)) ?_
 rintro e w' ⟨rfl, rfl⟩
 by_cases hb : bad = true ∨ getS bs = 0
 ·
  have HM : Hid (varM bs bad = (0, [], true)) := Qh (if_pos hb)
  have hb2 : bad = true ∨ (bad = false ∧ getS bs = 0) := by cases bad <;> simp at hb ⊢; exact hb
  clear hb
  rcases hb2 with rfl | ⟨rfl, h⟩
  ·
   go_wp2_with fail
   go_ret
   exact ⟨by rw [HM.out]; rfl, by rw [HM.out]; exact HR.out.set HA.out.rest HA.out.row (Nat.le_refl _) (by omega) (by simp) (IntsK.nil _ _ _) (by simp), HA.out.rest⟩
  ·
   rw [h]
   go_wp2_with fail
   go_ret
   exact ⟨by rw [HM.out]; rfl, by rw [HM.out]; exact HR.out.set HA.out.rest HA.out.row (Nat.le_refl _) (by omega) (by simp) (IntsK.nil _ _ _) (by simp), HA.out.rest⟩
 ·
  have hb1 : bad = false := by cases bad <;> simp_all
  subst hb1
  have HM : Hid (varM bs false = (getN bs, bs.drop (getS bs), false)) := Qh (if_neg hb)
  obtain ⟨s, es⟩ : ∃ s, getS bs = s := ⟨_, rfl⟩
  rw [es] at hgs HM ⊢
  have hs0 : s ≠ 0 := by rw [← es]; simp at hb; exact hb
  clear es hb
  have hsl : s ≤ len := by omega
  by_cases hlt : s < len
  ·
   rcases H3.out.2.2 with h0 | ⟨ba, off, rfl, _, _⟩
   ·
    omega
   ·
    go_wp2_with fail
    go_ret
    refine ⟨by rw [HM.out]; rfl, ?_, grown_setCell _ _ _ _⟩
    rw [HM.out]
    exact HR.out.set (grown_setCell _ _ _ _) ((At.base HROW.out).set 0 _).row (by omega) (by omega) (by simp) (H3.out.rest s hsl _ fun _ => ⟨ba, off, rfl, rfl⟩) (fun x hx => by injection hx with hx; subst hx; exact h4 ⟨ba, off, none⟩ rfl)
  ·
   obtain rfl : s = len := by omega
   go_wp2_with fail
   all_goals
    go_ret
    refine ⟨by rw [HM.out]; rfl, ?_, grown_setCell _ _ _ _⟩
    rw [HM.out]
    exact HR.out.set (grown_setCell _ _ _ _) ((At.base HROW.out).set 0 _).row (by omega) (by omega) (by simp) (by rw [show (getN bs, bs.drop s, false).2.1 = [] from List.drop_of_length_le (by omega)]; exact IntsK.nil _ _ _) (by first | exact h4 | exact low_rest h4)
theorem rbyte_any (W0 w : World) (L p : Nat) (bs : List Int) (bad : Bool) (h : Rd W0 w L p 105 bs bad) :
  Calls Try.prog 71 #[.pointer (some ⟨p, 0, none⟩)] w fun e w' => e = .returned (.int .u8 (byteM bs bad).1) ∧ Rd W0 w' L p 105 (byteM bs bad).2.1 (byteM bs bad).2.2 ∧ w.grownBy w' (some p) := by
 have HRAW := Qh (rraw_any W0 w L p bs bad 1 (by omega) h)
 have hlen := rdM_len bs bad 1
 have hb : byteM bs bad = ((rdM bs bad 1).1.headD 0, (rdM bs bad 1).2) := rfl
 rw [hb]
 clear hb h
 have e1 : rdM bs bad ((1 : Nat) : Int) = rdM bs bad 1 := rfl
 rw [e1] at hlen
 obtain ⟨⟨r, bs', bad'⟩, hr⟩ : ∃ r, rdM bs bad 1 = r := ⟨_, rfl⟩
 rw [hr] at HRAW hlen ⊢
 clear e1 hr
 go_enter Try.func71, Try.ntmps71
 go_wp2_with fail
 refine Calls.mono HRAW.out ?_
 rintro e w' ⟨a, m, cap, rfl, hmc, hi, hR, hg, _⟩
 have HR := Qh hR; have HG := Qh hg
 have hml : r.length = m := hi.1
 clear hR hg HRAW
 rcases hlen with rfl | hlen
 ·
  obtain rfl : m = 0 := by simpa using hml.symm
  go_wp2_with fail
  go_ret
  exact ⟨rfl, HR.out, HG.out⟩
 ·
  obtain ⟨x, rfl⟩ : ∃ x, r = [x] := by
   match r, hlen with
   | [x], _ => exact ⟨x, rfl⟩
  obtain rfl : m = 1 := by simpa using hml.symm
  obtain ⟨b, off, y, rfl, _, hy, _, hc⟩ := hi.at (Below.refl _ _) (j := 0) (by omega)
  obtain rfl : y = x := by rw [hy]; rfl
  have hc0 : w'.cell? ⟨b, off, none⟩ = some (.int .u8 y) := by simpa using hc
  clear hc hi hml hlen hy
  go_wp2_with fail
  go_ret
  exact ⟨rfl, HR.out, HG.out⟩
theorem rtext_any (W0 w : World) (L p : Nat) (bs : List Int) (bad : Bool) (h : Rd W0 w L p 105 bs bad) :
  Calls Try.prog 68 #[.pointer (some ⟨p, 0, none⟩)] w fun e w' => ∃ a m cap, e = .returned (.slice a m cap) ∧ (m ≤ cap ∧ cap ≤ 9223372036854775807) ∧ IntsK .u8 w' a m (textM bs bad).1 ∧ Rd W0 w' L p 105 (textM bs bad).2.1 (textM bs bad).2.2 ∧ w.grownBy w' (some p) ∧ (∀ x, a = some x → w.heap.size ≤ x.block) := by
 have HV := Qh (rvar_any W0 w L p bs bad h)
 have hvi := varM_in bs bad h.bytes
 have ht : textM bs bad = if ((varM bs bad).2.1.length : Int) < (varM bs bad).1 then ([], [], true) else rdM (varM bs bad).2.1 (varM bs bad).2.2 (varM bs bad).1 := rfl
 clear h
 obtain ⟨⟨n, bs', bad'⟩, hv⟩ : ∃ r, varM bs bad = r := ⟨_, rfl⟩
 rw [hv] at HV hvi ht
 have HT := Qh ht
 clear hv ht
 simp only at hvi
 go_enter Try.func68, Try.ntmps68
 go_wp2_with fail
 refine Calls.mono HV.out ?_
 rintro e w' ⟨rfl, hR, hg⟩
 obtain ⟨a, len, cap, hr, h1, h2, h3, h4⟩ := hR.ex
 have c0 : w'.cell? ⟨p, 0, none⟩ = some (.slice a len cap) := row_cell hr 0 _ rfl
 have c1 : w'.cell? ⟨p, 1, none⟩ = some (.bool bad') := row_cell hr 1 _ rfl
 have f0 := row_free hr 0
 have f1 := row_free hr 1
 have hA := ((At.base hr).set 1 (.bool true)).set 0 (.slice none 0 0)
 have HA := Qh hA
 have hl : bs'.length = len := h3.1
 have HR := Qh hR; have HG := Qh hg
 clear hR hg h3 hr HV hA
 have HT2 := HT.out
 have HT2 : textM bs bad = if (bs'.length : Int) < n then ([], [], true) else rdM bs' bad' n := HT2
 rw [hl] at HT2
 by_cases hf : bad' = true ∨ (len : Int) < n
 ·
  have HT3 : Hid (textM bs bad = ([], [], true)) := Qh (by
   rw [HT2]; split
   ·
    rfl
   ·
    rcases hf with rfl | h
    ·
     exact rdM_bad (.inl rfl)
    ·
     contradiction)
  clear HT2 HT
  have hf2 : bad' = true ∨ (bad' = false ∧ (len : Int) < n) := by cases bad' <;> simp at hf ⊢; omega
  clear hf
  rcases hf2 with rfl | ⟨rfl, h⟩
  all_goals
   go_wp2_with fail
   go_ret
   refine ⟨none, 0, 0, rfl, ⟨Nat.le_refl _, by omega⟩, ?_, ?_, grown_trans HG.out HA.out.rest, by simp⟩
   ·
    rw [HT3.out]; exact IntsK.nil _ _ _
   ·
    rw [HT3.out]; exact HR.out.set HA.out.rest HA.out.row (Nat.le_refl _) (by omega) (by simp) (IntsK.nil _ _ _) (by simp)
 ·
  have hb1 : bad' = false := by cases bad' <;> simp_all
  subst hb1
  have hlt : ¬ (len : Int) < n := fun h => hf (.inr h)
  rw [if_neg hlt] at HT2
  replace HT2 := Qh HT2; clear HT hf HA
  go_wp2_with fail
  refine Calls.mono (rraw_any W0 w' L p bs' false n (by omega) HR.out) ?_
  rintro e w2 ⟨a2, m2, cap2, rfl, hc2, hi2, hR2, hg2, hlo2⟩
  have HR2 := Qh hR2; have HG2 := Qh hg2; have HI2 := Qh hi2
  clear hR2 hg2 hi2
  go_wp2_with fail
  go_ret
  exact ⟨a2, m2, cap2, rfl, hc2, by rw [HT2.out]; exact HI2.out, by rw [HT2.out]; exact HR2.out, grown_trans HG.out HG2.out, fun x hx => Nat.le_trans HG.out.size (hlo2 x hx)⟩
theorem rwtext_any (w : World) (a : Option Addr) (len cap : Nat) (bs : List Int) (xa : Option Addr) (xl xc : Nat) (xs : List Int) (hlen : len + 8 + xl ≤ 140737488355328) (hI : IntsK .u8 w a len bs) (hX : IntsK .u8 w xa xl xs) :
  Calls Try.prog 42 #[.slice a len cap, .slice xa xl xc] w fun e w' => ∃ v, e = .returned v ∧ Below w.heap.size w w' ∧ w'.ownsRow w.heap.size 5 1 v (bs ++ (putM xl ++ xs)).length ((bs ++ (putM xl ++ xs)).map (Value.int .u8)) := by
 have HI := Qh hI; have HX := Qh hX; clear hI hX
 have hs8 : sizeM xl ≤ 8 := by have := sizeM_cases (xl : Int); omega
 go_enter Try.func42, Try.ntmps42
 go_wp2_with fail
 refine Calls.mono (rput_any w a len cap bs xl ⟨by omega, by omega⟩ (by omega) HI.out) ?_
 rintro e w1 ⟨v1, rfl, hb, ho⟩
 obtain ⟨b1, cp1, rfl, _⟩ := own_slice ho
 have HB := Qh hb; have HO := Qh ho
 have hsz := hb.size
 clear hb ho
 go_wp2_with (first | (at_builtin; refine wpList_append_bytes rfl _ _ rfl w.heap.size _ _ _ rfl HO.out _ _ _ _ rfl (HX.out.below HB.out) (by omega) hsz ?_; intro v2 w2 hown2 hgrow2; have HO2 := Qh hown2; have HL2 := Qh (HB.out.grown hgrow2 hsz (own_base HO.out)); clear hown2 hgrow2) | fail)
 go_ret
 refine ⟨_, rfl, HL2.out, ?_⟩
 have h := HO2.out
 rw [List.append_assoc] at h
 rw [show (bs ++ (putM xl ++ xs)).length = len + sizeM xl + xl by rw [List.length_append, List.length_append, HI.out.1, HX.out.1, putM_len]; omega]
 exact h
end Go.Proofs.Ytmbjepcbokbemaa
