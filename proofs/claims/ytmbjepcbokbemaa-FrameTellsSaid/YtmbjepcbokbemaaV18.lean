/- texts of the proof, laid together: Frs, Frl. -/
import Derived.Test.YtmbjepcbokbemaaV16
import Derived.Test.YtmbjepcbokbemaaV13
import Derived.Test.YtmbjepcbokbemaaV15
import Derived.Test.YtmbjepcbokbemaaV14
import Derived.Test.YtmbjepcbokbemaaV1
import Derived.Test.YtmbjepcbokbemaaV17
set_option linter.unusedVariables false
set_option linter.unusedSimpArgs false
set_option maxRecDepth 100000
set_option maxHeartbeats 16000000
namespace Go.Proofs.Ytmbjepcbokbemaa
open Go.RowKit
theorem same4_core (w : World) (N M : Fr) (RA RB : List Value) (HLA : Hid (RA.length = 19)) (HLB : Hid (RB.length = 19)) (hrl : N.rg.length ≤ 1000000) (hrm : M.rg.length ≤ 1000000) (HCA : Hid (∀ u, Below w.heap.size w u → Calls Try.prog 25 #[.agg RA.toArray] u fun e w' => ∃ dv' rv', e = .returned (.agg (N.cells dv' rv').toArray) ∧ FrAt w' N dv' rv' ∧ FrLo u.heap.size dv' rv' ∧ Below u.heap.size u w')) (HCB : Hid (∀ u, Below w.heap.size w u → Calls Try.prog 25 #[.agg RB.toArray] u fun e w' => ∃ dv' rv', e = .returned (.agg (M.cells dv' rv').toArray) ∧ FrAt w' M dv' rv' ∧ FrLo u.heap.size dv' rv' ∧ Below u.heap.size u w')) :
  Calls Try.prog 17 #[.agg RA.toArray, .agg RB.toArray] w fun e w' => e = .returned (.bool (eqN N M)) ∧ Below w.heap.size w w' := by
 have HB := Qh (Below.refl w.heap.size w)
 unfold eqN
 go_enter Try.func17, Try.ntmps17
 go_upto_region 1 with fail
 change Code.wp _ _ _ _ ((w.alloc (.cells RA.toArray 39)).alloc (.cells RB.toArray 39))
 obtain ⟨ga, hg0⟩ : ∃ g, w.heap.size = g := ⟨_, rfl⟩
 try rw [hg0]
 have hb := (Below.refl w.heap.size w).alloc (Nat.le_refl _) (.cells RA.toArray 39)
 have hrw := heap_alloc_new w (.cells RA.toArray 39)
 have hsz : (w.alloc (.cells RA.toArray 39)).heap.size = ga + 1 := by simp [hg0]
 rw [hg0] at hrw
 replace HB := Qh (bl_next HB.out HB.out.size hb)
 have HA := Qh hrw
 clear hb hrw
 generalize w.alloc (.cells RA.toArray 39) = w1 at HB HA hsz ⊢
 have hg1 := hsz
 clear hsz
 have HG0 := Qh hg0
 clear hg0
 have hb := (Below.refl w1.heap.size w1).alloc (Nat.le_refl _) (.cells RB.toArray 39)
 have hrw := heap_alloc_new w1 (.cells RB.toArray 39)
 have hsz : (w1.alloc (.cells RB.toArray 39)).heap.size = ga + 1 + 1 := by simp [hg1]
 rw [hg1] at hrw
 replace HB := Qh (bl_next HB.out HB.out.size hb)
 replace HA := Qh (bl_row hb (lt_of_block HA.out) HA.out)
 have HG := Qh hrw
 clear hb hrw
 generalize w1.alloc (.cells RB.toArray 39) = w2 at HB HA HG hsz ⊢
 have hg2 := hsz
 clear hsz
 clear hg1
 obtain ⟨gb, hgg⟩ : ∃ g, ga + 1 = g := ⟨_, rfl⟩
 rw [hgg] at HG hg2 ⊢
 have HLTgb : Hid (ga < gb) := Qh (by omega)
 clear hgg
 clear hg2
 have hne : ga ≠ gb := by have := HLTgb.out; omega
 refine sm_copy _ HA HG HLA HLB hne (Qh (fun u hu => HCA.out u (bl_next HB.out HB.out.size hu))) (Qh (fun u hu => HCB.out u (bl_next HB.out HB.out.size hu))) (fun c a d v w h => by cases d <;> exact h) ?_
 rintro _ _ _ _ w9 d1 r1 d2 r2 HA9 HG9 HF1 HF2 HBB
 have HB9 : Hid (Below w.heap.size w w9) := Qh (by have h9 := HBB.out w.heap.size (by have := HG0.out; omega) (by have := HG0.out; have := HLTgb.out; omega) HB.out.size; exact HB.out.trans h9)
 clear HBB HCA HCB HA HG HB hne
 go_upto_region 2 with fail
 refine sm_nums _ HA9 HG9 (fun c a d v w h => by cases d <;> exact h) ?_
 rintro _ _ _ _ _ _ _ _ _ _ _ _ _ _ _ _ _ _ _ _ _ _ _ _ _ _ _ _ _ _ _ _ _ _ _ _ _ _ _ _ _ _ _ _ _ _ _ _ _ _ _ _ _ _ wn HWN
 obtain rfl := HWN.out
 obtain ⟨b5, hb5⟩ : ∃ b, eqN1 N M = b := ⟨_, rfl⟩
 rw [hb5]
 have HB5 := Qh hb5
 clear hb5
 go_upto_region 3 with fail
 refine sm_rest _ HA9 HG9 HF1 HF2 hrl hrm (fun c a d v w h => by cases d <;> exact h) ?_
 rintro _ _ _ _ _ _ _ _ _ _ _ _ _ _ _ _ _ _ _ _ _ _ _ _ _ _ _ _ _ _ _ w10 HB10
 have HBZ := Qh (bl_next HB9.out HB9.out.size HB10.out)
 go_wp2_with fail
 go_ret
 exact ⟨by rw [HB5.out]; rfl, HBZ.out⟩
theorem nrm_rg_le {f : Fr} (h : f.kind = 2 → f.rg.length ≤ 1000000) : (nrmF f).rg.length ≤ 1000000 := by
 by_cases h2 : f.kind = 2
 ·
  unfold nrmF; rw [if_pos h2]; exact h h2
 ·
  unfold nrmF
  rw [if_neg h2]
  repeat' split
  all_goals simp [zeroF]
theorem nrm_kindT (f : Fr) : (nrmF f).kind = f.kind := by
 unfold nrmF
 by_cases h2 : f.kind = 2
 ·
  rw [if_pos h2]; exact h2.symm
 rw [if_neg h2]
 by_cases h4 : f.kind = 4
 ·
  rw [if_pos h4]; exact h4.symm
 rw [if_neg h4]
 by_cases h5 : f.kind = 5
 ·
  rw [if_pos h5]; exact h5.symm
 rw [if_neg h5]
 by_cases h6 : f.kind = 6
 ·
  rw [if_pos h6]; exact h6.symm
 rw [if_neg h6]
 by_cases h8 : f.kind = 8
 ·
  rw [if_pos h8]; exact h8.symm
 rw [if_neg h8]
 by_cases h16 : f.kind = 16 ∨ f.kind = 18 ∨ f.kind = 20
 ·
  rw [if_pos h16]; rfl
 rw [if_neg h16]
 by_cases h17 : f.kind = 17
 ·
  rw [if_pos h17]; exact h17.symm
 rw [if_neg h17]
 by_cases h24 : f.kind = 24
 ·
  rw [if_pos h24]; exact h24.symm
 rw [if_neg h24]
 by_cases h25 : f.kind = 25
 ·
  rw [if_pos h25]; exact h25.symm
 rw [if_neg h25]
 by_cases h26 : f.kind = 26 ∨ f.kind = 27
 ·
  rw [if_pos h26]; rfl
 rw [if_neg h26]
 by_cases h28 : f.kind = 28
 ·
  rw [if_pos h28]; exact h28.symm
 rw [if_neg h28]
 rfl
theorem bool_beq (x y : Bool) : (x == y) = decide (x = y) := by cases x <;> cases y <;> rfl
theorem cid_beq (x y : List Int) : (x == y) = decide (x = y) := by rw [Bool.eq_iff_iff]; simp
theorem and_ac (a b c : Bool) : (a && (b && c)) = (b && (a && c)) := by cases a <;> cases b <;> rfl
theorem eq_same (f g : Fr) : eqN (nrmF f) (nrmF g) = sameF f g := by
 by_cases hk : f.kind = g.kind
 ·
  have hd : ∀ x y : Int, (x == y) = decide (x = y) := int_beq
  by_cases h2 : f.kind = 2
  ·
   have hg2 : g.kind = 2 := by omega
   simp [nrmF, sameF, eqN, eqN1, eqN2, h2, hg2, zeroF, hd, bool_beq, cid_beq, Bool.and_assoc, and_ac]
  by_cases h4 : f.kind = 4
  ·
   have hg4 : g.kind = 4 := by omega
   simp [nrmF, sameF, eqN, eqN1, eqN2, h4, hg4, zeroF, hd, bool_beq, cid_beq, Bool.and_assoc, and_ac]
  by_cases h5 : f.kind = 5
  ·
   have hg5 : g.kind = 5 := by omega
   simp [nrmF, sameF, eqN, eqN1, eqN2, h5, hg5, zeroF, hd, bool_beq, cid_beq, Bool.and_assoc, and_ac]
  by_cases h6 : f.kind = 6
  ·
   have hg6 : g.kind = 6 := by omega
   simp [nrmF, sameF, eqN, eqN1, eqN2, h6, hg6, zeroF, hd, bool_beq, cid_beq, Bool.and_assoc, and_ac]
  by_cases h8 : f.kind = 8
  ·
   have hg8 : g.kind = 8 := by omega
   simp [nrmF, sameF, eqN, eqN1, eqN2, h8, hg8, zeroF, hd, bool_beq, cid_beq, Bool.and_assoc, and_ac]
   generalize decide (f.fin = g.fin) = a; generalize decide (f.st = g.st) = b; generalize decide (f.of_ = g.of_) = c; generalize decide (f.data = g.data) = d
   cases a <;> cases b <;> cases c <;> cases d <;> rfl
  by_cases h17 : f.kind = 17
  ·
   have hg17 : g.kind = 17 := by omega
   simp [nrmF, sameF, eqN, eqN1, eqN2, h17, hg17, zeroF, hd, bool_beq, cid_beq, Bool.and_assoc, and_ac]
  by_cases h24 : f.kind = 24
  ·
   have hg24 : g.kind = 24 := by omega
   simp [nrmF, sameF, eqN, eqN1, eqN2, h24, hg24, zeroF, hd, bool_beq, cid_beq, Bool.and_assoc, and_ac]
  by_cases h25 : f.kind = 25
  ·
   have hg25 : g.kind = 25 := by omega
   simp [nrmF, sameF, eqN, eqN1, eqN2, h25, hg25, zeroF, hd, bool_beq, cid_beq, Bool.and_assoc, and_ac]
  by_cases h28 : f.kind = 28
  ·
   have hg28 : g.kind = 28 := by omega
   simp [nrmF, sameF, eqN, eqN1, eqN2, h28, hg28, zeroF, hd, bool_beq, cid_beq, Bool.and_assoc, and_ac]
  by_cases h16 : f.kind = 16 ∨ f.kind = 18 ∨ f.kind = 20
  ·
   rcases h16 with h | h | h
   all_goals
    have hg := hk.symm.trans h
    simp [nrmF, sameF, eqN, eqN1, eqN2, h, hg, zeroF, hd, bool_beq, cid_beq]
  by_cases h26 : f.kind = 26 ∨ f.kind = 27
  ·
   rcases h26 with h | h
   all_goals
    have hg := hk.symm.trans h
    simp [nrmF, sameF, eqN, eqN1, eqN2, h, hg, zeroF, hd, bool_beq, cid_beq]
  have e : ∀ x : Fr, x.kind = f.kind → nrmF x = zeroF x.kind := fun x hx => by
   unfold nrmF
   rw [hx]
   simp [h2, h4, h5, h6, h8, h17, h24, h25, h28, not_or.1 h16, not_or.1 (not_or.1 h16).2, not_or.1 h26]
  rw [e f rfl, e g hk.symm]
  have hs : sameF f g = true := by
   unfold sameF
   simp [hk.symm, h2, h4, h5, h6, h8, h17, h24, h25, h28, not_or.1 h16, not_or.1 (not_or.1 h16).2, not_or.1 h26]
  rw [hs, hk]
  simp [eqN, eqN1, eqN2, zeroF]
 ·
  have h1 : sameF f g = false := by unfold sameF; simp [hk]
  rw [h1]
  unfold eqN eqN1
  rw [nrm_kindT, nrm_kindT]
  simp [hk]
theorem same4_any (w : World) (f g : Fr) (dv rv dw rw_ : Value) (hf : FrAt w f dv rv) (hg : FrAt w g dw rw_) (h1 : f.kind = 6 ∨ f.kind = 8 ∨ f.kind = 28 → f.data.length ≤ 1000000) (h2 : g.kind = 6 ∨ g.kind = 8 ∨ g.kind = 28 → g.data.length ≤ 1000000) (h3 : f.kind = 2 → f.rg.length ≤ 1000000) (h4 : g.kind = 2 → g.rg.length ≤ 1000000) :
  Calls Try.prog 17 #[.agg (f.cells dv rv).toArray, .agg (g.cells dw rw_).toArray] w fun e w' => e = .returned (.bool (sameF f g)) ∧ Below w.heap.size w w' := by
 rw [← eq_same]
 exact same4_core w (nrmF f) (nrmF g) _ _ (Qh (Fr.len hf.wf)) (Qh (Fr.len hg.wf)) (nrm_rg_le h3) (nrm_rg_le h4)
  (Qh (fun u hu => copy4_any u f dv rv (hf.below hu) h1 h3))
  (Qh (fun u hu => copy4_any u g dw rw_ (hg.below hu) h2 h4))
end Go.Proofs.Ytmbjepcbokbemaa
namespace Go.Proofs.Ytmbjepcbokbemaa
open Go.RowKit
theorem rng_lt {w : World} {b o : Nat} {v : Value} {l : List Value} (h : w.rangeAt b o (v :: l)) : b < w.heap.size := by
 have h9 := h 0 v rfl
 by_cases h : b < w.heap.size
 ·
  exact h
 ·
  unfold World.cell? at h9; simp [Array.getElem?_eq_none (Nat.le_of_not_lt h)] at h9
theorem tl_round {x0 x1 x2 x3 x4 x5 x6 x7 x8 x9 x10 x11 x12 x16 x17 x18 x19 x20 x21 x22 x23 x24 x25 x26 x27 x28 x29 x30 x31 x32 x33 x34 x35 x36 x37 x38 x39 x40 x41 x42 x43 x44 x45 x46 x47 x48 x49 x50 x51 x52 x53 x54 x55 x56 x57 x58 x59 x60 x61 x62 x63 x64 x65 x66 x67 x68 x69 x70 x71 x72 x73 x74 x75 x76 x77 x78 x79 x80 x81 x82 x83 x84 x85 x86 x87 x88 x89 x90 : Value} {ab ao bb bo n c1 m c2 i : Nat} {f g : Fr} {d1 r1 d2 r2 : Value} (w : World) {Q : Exit → Act → World → Prop}
  (HA : Hid (w.rangeAt ab (ao + i * 19) (f.cells d1 r1))) (HG : Hid (w.rangeAt bb (bo + i * 19) (g.cells d2 r2))) (HF1 : Hid (FrAt w f d1 r1)) (HF2 : Hid (FrAt w g d2 r2)) (HR : Hid (rightB f = true ∧ rightB g = true)) (hi : i < n) (hj : i < m) (hn : n ≤ 1000) (hm : m ≤ 1000)
  (hQp : ∀ c a d v w, Q (.panic c) (a.put d v) w → Q (.panic c) a w)
  (hQ : ∀ (y38 y39 y40 y41 y42 y43 y44 y45 y46 y47 y48 y49 y50 y51 y52 y53 y54 y55 : Value) (w' : World), Hid (Below w.heap.size w w') → Q .normal ⟨List.toArray (x0 :: x1 :: x2 :: x3 :: x4 :: x5 :: x6 :: x7 :: x8 :: x9 :: x10 :: x11 :: x12 :: .slice (some ⟨ab, ao, none⟩) n c1 :: .slice (some ⟨bb, bo, none⟩) m c2 :: .int .i64 i :: x16 :: x17 :: x18 :: x19 :: x20 :: x21 :: x22 :: x23 :: x24 :: x25 :: x26 :: x27 :: x28 :: x29 :: x30 :: x31 :: x32 :: x33 :: x34 :: x35 :: x36 :: x37 :: y38 :: y39 :: y40 :: y41 :: y42 :: y43 :: y44 :: y45 :: y46 :: y47 :: y48 :: y49 :: y50 :: y51 :: y52 :: y53 :: y54 :: y55 :: .bool false :: x57 :: x58 :: x59 :: x60 :: x61 :: x62 :: x63 :: x64 :: x65 :: x66 :: x67 :: x68 :: x69 :: x70 :: x71 :: x72 :: x73 :: x74 :: x75 :: x76 :: x77 :: x78 :: x79 :: x80 :: x81 :: x82 :: x83 :: x84 :: x85 :: x86 :: x87 :: x88 :: x89 :: x90 :: []), []⟩ w') :
  Code.wp Try.prog (((Try.f5.body.bind (subRegion 7)).getD .skip)) Q ⟨List.toArray (x0 :: x1 :: x2 :: x3 :: x4 :: x5 :: x6 :: x7 :: x8 :: x9 :: x10 :: x11 :: x12 :: .slice (some ⟨ab, ao, none⟩) n c1 :: .slice (some ⟨bb, bo, none⟩) m c2 :: .int .i64 i :: x16 :: x17 :: x18 :: x19 :: x20 :: x21 :: x22 :: x23 :: x24 :: x25 :: x26 :: x27 :: x28 :: x29 :: x30 :: x31 :: x32 :: x33 :: x34 :: x35 :: x36 :: x37 :: x38 :: x39 :: x40 :: x41 :: x42 :: x43 :: x44 :: x45 :: x46 :: x47 :: x48 :: x49 :: x50 :: x51 :: x52 :: x53 :: x54 :: x55 :: x56 :: x57 :: x58 :: x59 :: x60 :: x61 :: x62 :: x63 :: x64 :: x65 :: x66 :: x67 :: x68 :: x69 :: x70 :: x71 :: x72 :: x73 :: x74 :: x75 :: x76 :: x77 :: x78 :: x79 :: x80 :: x81 :: x82 :: x83 :: x84 :: x85 :: x86 :: x87 :: x88 :: x89 :: x90 :: []), []⟩ w := by
 have HK := Qh hQ; have HKP := Qh hQp
 clear hQ hQp
 conv => arg 2; whnf
 have HLA : Hid ((f.cells d1 r1).length = 19) := Qh (Fr.len HF1.out.wf); have HLB : Hid ((g.cells d2 r2).length = 19) := Qh (Fr.len HF2.out.wf)
 have HOA : Hid (ab < w.heap.size) := Qh (rng_lt HA.out); have HOB : Hid (bb < w.heap.size) := Qh (rng_lt HG.out)
 have hs1 := fun u h1 h2 => same4_any u f g d1 r1 d2 r2 h1 h2 (right_data6q HR.out.1) (right_data6q HR.out.2) (right_rgq HR.out.1) (right_rgq HR.out.2)
 have hs2 := fun u h1 h2 => rsame4_any u f g d1 r1 d2 r2 h1 h2 (right_rgq HR.out.1)
 obtain ⟨RA, hRA⟩ : ∃ R, f.cells d1 r1 = R := ⟨_, rfl⟩
 obtain ⟨RB, hRB⟩ : ∃ R, g.cells d2 r2 = R := ⟨_, rfl⟩
 simp only [hRA, hRB] at HA HG HLA HLB hs1 hs2
 have HS1 := Qh hs1; have HS2 := Qh hs2
 clear hs1 hs2 hRA hRB
 obtain ⟨sb, hsb⟩ : ∃ s, sameF f g = s := ⟨_, rfl⟩
 simp only [hsb] at HS1 HS2
 clear hsb
 have q1 : (sb != sb) = false := by cases sb <;> rfl
 have HD : Hid (Below w.heap.size w w.drew) := Qh (Below.refl _ _).drew
 refine wp_plan (.t 0 (.t 1 (.t 2 (.t 3 (.t 4 (.t 5 (.t 6 (.t 7 (.t 9 (.t 10 (.t 11 (.t 12 (.t 13 (.t 14 (.t 15 (.t 16 (.u 8 (.u 17 (.t 18 .done))))))))))))))))))) (fun y => y.rangeAt ab (ao + i * 19) RA ∧ y.rangeAt bb (bo + i * 19) RB) (by kernel_rfl) (by kernel_rfl) (by kernel_rfl) (fun c a d v w h => by first | (cases d <;> exact h) | exact HKP.out c a d v w h) ⟨HA.out, HG.out⟩ ?_
 replace HF1 := Qh (HF1.out.below HD.out)
 replace HF2 := Qh (HF2.out.below HD.out)
 have HA2 := Qh (rng_bl HD.out HOA.out HA.out); have HG2 := Qh (rng_bl HD.out HOB.out HG.out)
 generalize w.drew = wa at HD HF1 HF2 HA2 HG2 ⊢
 haveI hne : Nonempty (In (fun y => y.rangeAt ab (ao + i * 19) RA ∧ y.rangeAt bb (bo + i * 19) RB)) := ⟨⟨w, HA.out, HG.out⟩⟩
 repeat (first | (refine plan_t_load (by rfl) (by kernel_rfl) 39 _ rfl ab (ao + i * 19) rfl RA _ (fun y hy => hy.1) Try.underlying39 rfl (by rw [HLA.out]; rfl) ?_; simp only [Act.put, List.setIfInBounds_toArray, List.set_cons_succ, List.set_cons_zero]) | (refine plan_t_load (by rfl) (by kernel_rfl) 39 _ rfl bb (bo + i * 19) rfl RB _ (fun y hy => hy.2) Try.underlying39 rfl (by rw [HLB.out]; rfl) ?_; simp only [Act.put, List.setIfInBounds_toArray, List.set_cons_succ, List.set_cons_zero]) | rw [q1] | (refine plan_t (by rfl) ?_; (first | go_big_quiet_skip | (go_big_quiet_want; go_big_quiet_op; go_big_quiet_on)); refine wpQuiet_nil ?_))
 refine plan_us (by rfl) (by kernel_rfl) ?_
 intro K hK
 have HCL := Qh (HS1.out wa HF1.out HF2.out)
 go_wp2_with fail
 refine Calls.mono HCL.out ?_
 rintro e v1 ⟨rfl, hb⟩
 clear HCL
 replace HA2 := Qh (rng_bl hb (Nat.lt_of_lt_of_le HOA.out HD.out.size) HA2.out)
 replace HG2 := Qh (rng_bl hb (Nat.lt_of_lt_of_le HOB.out HD.out.size) HG2.out)
 replace HD := Qh (bl_next HD.out HD.out.size hb)
 replace HF1 := Qh (HF1.out.below hb)
 replace HF2 := Qh (HF2.out.below hb)
 clear hb
 go_wp2_with fail
 refine ⟨⟨HA2.out, HG2.out⟩, ?_⟩
 repeat (first | (refine plan_t_load (by rfl) (by kernel_rfl) 39 _ rfl ab (ao + i * 19) rfl RA _ (fun y hy => hy.1) Try.underlying39 rfl (by rw [HLA.out]; rfl) ?_; simp only [Act.put, List.setIfInBounds_toArray, List.set_cons_succ, List.set_cons_zero]) | (refine plan_t_load (by rfl) (by kernel_rfl) 39 _ rfl bb (bo + i * 19) rfl RB _ (fun y hy => hy.2) Try.underlying39 rfl (by rw [HLB.out]; rfl) ?_; simp only [Act.put, List.setIfInBounds_toArray, List.set_cons_succ, List.set_cons_zero]) | rw [q1] | (refine plan_t (by rfl) ?_; (first | go_big_quiet_skip | (go_big_quiet_want; go_big_quiet_op; go_big_quiet_on)); refine wpQuiet_nil ?_))
 refine plan_us (by rfl) (by kernel_rfl) ?_
 intro K hK
 have HCL := Qh (HS2.out v1 HF1.out HF2.out)
 go_wp2_with fail
 refine Calls.mono HCL.out ?_
 rintro e v2 ⟨rfl, hb⟩
 clear HCL
 replace HA2 := Qh (rng_bl hb (Nat.lt_of_lt_of_le HOA.out HD.out.size) HA2.out)
 replace HG2 := Qh (rng_bl hb (Nat.lt_of_lt_of_le HOB.out HD.out.size) HG2.out)
 replace HD := Qh (bl_next HD.out HD.out.size hb)
 replace HF1 := Qh (HF1.out.below hb)
 replace HF2 := Qh (HF2.out.below hb)
 clear hb
 go_wp2_with fail
 refine ⟨⟨HA2.out, HG2.out⟩, ?_⟩
 repeat (first | (refine plan_t_load (by rfl) (by kernel_rfl) 39 _ rfl ab (ao + i * 19) rfl RA _ (fun y hy => hy.1) Try.underlying39 rfl (by rw [HLA.out]; rfl) ?_; simp only [Act.put, List.setIfInBounds_toArray, List.set_cons_succ, List.set_cons_zero]) | (refine plan_t_load (by rfl) (by kernel_rfl) 39 _ rfl bb (bo + i * 19) rfl RB _ (fun y hy => hy.2) Try.underlying39 rfl (by rw [HLB.out]; rfl) ?_; simp only [Act.put, List.setIfInBounds_toArray, List.set_cons_succ, List.set_cons_zero]) | rw [q1] | (refine plan_t (by rfl) ?_; (first | go_big_quiet_skip | (go_big_quiet_want; go_big_quiet_op; go_big_quiet_on)); refine wpQuiet_nil ?_))
 clear hne
 show Q _ _ _
 exact HK.out _ _ _ _ _ _ _ _ _ _ _ _ _ _ _ _ _ _ v2 HD
theorem cut4 (w : World) (a : Option Addr) (len cap : Nat) (h : len ≤ cap) (hc : cap ≤ 9223372036854775807) : Calls Try.prog 23 #[.slice a len cap, .int .i64 80] w fun e w' => e = .returned (.slice a (min len 80) cap) ∧ w = w' := by exact cut_any w a len cap 80 h hc
theorem tells4_any (W : World) (a0 : Option Addr) (len0 cap0 : Nat) (a1 : Option Addr) (len1 cap1 : Nat) (a2 : Option Addr) (len2 cap2 : Nat) (a3 : Option Addr) (len3 cap3 : Nat) (bs : List Int) (att turn : Int)
  (hx : Kfs W a0 len0) (h0 : len0 ≤ 140737488355328) (hy : Kfs W a1 len1) (h1 : len1 ≤ 140737488355328) (hr : Fxs W a2 len2 ∧ cap2 ≤ 9223372036854775807) (h2 : len2 ≤ cap2) (hb : IntsK .u8 W a3 len3 bs) (h3 : len3 ≤ cap3) (h3c : cap3 ≤ 9223372036854775807) (hat : -9223372036854775808 ≤ att ∧ att ≤ 9223372036854775807) :
  Calls Try.prog 5 #[.slice a0 len0 cap0, .slice a1 len1 cap1, .slice a2 len2 cap2, .slice a3 len3 cap3, .int .i64 att, .int .u8 turn] W fun e w' => e = .returned (.bool true) ∧ Below W.heap.size W w' := by
 obtain ⟨⟨RL, hRL⟩, hc2⟩ := hr
 have HKX := Qh (kframes_any W a0 len0 cap0 8 hx (by omega) h0)
 have HKY := Qh hy; have HRL := Qh hRL; have HBS := Qh hb
 clear hx hy hRL hb
 have hbl : bs.length = len3 := HBS.out.1
 have HBL := Qh hbl
 clear hbl
 go_enter Try.func5, Try.ntmps5
 go_wp2_with fail
 refine Calls.mono HKX.out ?_
 rintro e w1 ⟨X, b1, c1, rfl, hc1, hl1, hX, hXr, hb⟩
 have HX := Qh hX; have HXR := Qh hXr; have HB := Qh hb
 have hcl := kframes_any w1 a1 len1 cap1 8 (HKY.out.below hb) (by omega) h1
 have HCL := Qh hcl
 clear hX hXr hb HKX hcl
 go_wp2_with fail
 refine Calls.mono HCL.out ?_
 rintro e w2 ⟨Y, b2, c2, rfl, hc3, hl2, hY, hYr, hb⟩
 replace HX := Qh (HX.out.below hb)
 have HY := Qh hY; have HYR := Qh hYr
 replace HB := Qh (bl_next HB.out HB.out.size hb)
 clear hY hYr hb HCL HKY
 obtain ⟨n1, hn1⟩ : ∃ n, X.length = n := ⟨_, rfl⟩
 obtain ⟨m1, hm1⟩ : ∃ n, Y.length = n := ⟨_, rfl⟩
 rw [hn1] at HX hc1 hl1 ⊢
 rw [hm1] at HY hc3 hl2 ⊢
 have HN1 := Qh hn1; have HM1 := Qh hm1
 clear hn1 hm1
 have hl1' : n1 ≤ 8 := by omega
 have hl2' : m1 ≤ 8 := by omega
 by_cases h4 : 4 < len2
 ·
  have HEC : Hid (∀ u, Below W.heap.size W u → Calls Try.prog 16 #[.slice a2 4 cap2] u fun e w' => e = .returned (.bool true) ∧ Below u.heap.size u w') := Qh (fun u hu => encodes4_any u a2 4 cap2 (RL.take 4) ((HRL.out.pre 4 (by omega)).below hu) (by omega) ⟨by omega, hc2⟩)
  clear HRL
  go_wp2_with fail
  go_loopw [15] (fun s15 wr => ∃ i : Nat, s15 = .int .i64 i ∧ i ≤ n1 ∧ i ≤ m1 ∧ Hid (Below w2.heap.size w2 wr)) (fun s _ => n1 - (intOf s).toNat)
  case atStart => exact ⟨0, rfl, by omega, by omega, Qh (Below.refl _ _)⟩
  case round =>
   obtain ⟨i, rfl, hi, hi2, HBR⟩ := hrel
   by_cases hlt : i < n1 ∧ i < m1
   ·
    obtain ⟨hlt1, hlt2⟩ := hlt
    have HXW := Qh (HX.out.below HBR.out); have HYW := Qh (HY.out.below HBR.out)
    obtain ⟨ab, ao, x, rfl, _, hxx, _, hrg⟩ := HXW.out.row.at hlt1
    obtain ⟨bb, bo, y, rfl, _, hyy, _, hrg2⟩ := HYW.out.row.at hlt2
    obtain ⟨f, d1, r1⟩ := x
    obtain ⟨g, d2, r2⟩ := y
    have HA : Hid (wr.rangeAt ab (ao + i * 19) (f.cells d1 r1)) := Qh hrg; have HG : Hid (wr.rangeAt bb (bo + i * 19) (g.cells d2 r2)) := Qh hrg2
    have HF1 : Hid (FrAt wr f d1 r1) := Qh (HXW.out.fr _ (List.mem_of_getElem? hxx)); have HF2 : Hid (FrAt wr g d2 r2) := Qh (HYW.out.fr _ (List.mem_of_getElem? hyy))
    have HR : Hid (rightB f = true ∧ rightB g = true) := Qh ⟨HXR.out _ (List.mem_of_getElem? hxx), HYR.out _ (List.mem_of_getElem? hyy)⟩
    clear hxx hyy hrg hrg2 HXW HYW
    go_upto_region 7 with fail
    refine tl_round _ HA HG HF1 HF2 HR hlt1 hlt2 (by omega) (by omega) (fun c a d v w h => by cases d <;> exact h) ?_
    rintro _ _ _ _ _ _ _ _ _ _ _ _ _ _ _ _ _ _ w9 HB9
    replace HBR := Qh (bl_next HBR.out HBR.out.size HB9.out)
    clear HB9 HA HG HF1 HF2 HR
    go_wp2_with fail
    go_roundw
    case rel => exact ⟨i + 1, by go_num, by omega, by omega, HBR⟩
    case measure => simp [intOf]; omega
   ·
    have hor : (n1 ≤ i) ∨ (i < n1 ∧ m1 ≤ i) := by omega
    have HW2 := Qh (bl_next HB.out HB.out.size HBR.out)
    replace HX := Qh (HX.out.below HBR.out)
    clear HB HBR HY
    have hall : X.all (fun x => rightB x.f) = true := List.all_eq_true.2 HXR.out
    have hel := encM_le X (fun x hx => (HX.out.fr x hx).wf) hall
    rw [HN1.out] at hel
    have HEL := Qh hel
    have hcl := rencode4_any wr b1 n1 c1 X HX.out (by omega) hc1 hall
    have HCL := Qh hcl
    have HALL := Qh hall
    clear hcl hel hall hlt
    rcases hor with hor | ⟨hor, hor2⟩
    all_goals
     go_wp2_with fail
     refine Calls.mono HCL.out ?_
     rintro e w5 ⟨v5, rfl, hu⟩
     obtain ⟨a5, c5, rfl, hz1, hz2, hi5⟩ := hu.ints
     have HU := Qh hu; have HI5 := Qh hi5
     obtain ⟨zs, hzs⟩ : ∃ z, encM X = z := ⟨_, rfl⟩
     rw [hzs] at HU HI5 hz1 HEL ⊢
     have HEW : Hid (∀ y ∈ zs, (Lit.int .u8 y).wf = true) := Qh HU.out.2.2
     obtain ⟨N, hN⟩ : ∃ n, zs.length = n := ⟨_, rfl⟩
     have hNe := HEL.out
     rw [hN] at HI5 hz1 hNe ⊢
     have HO5 : Hid (w5.ownsRow wr.heap.size 5 1 (.slice a5 N c5) N (zs.map (Value.int .u8))) := Qh (by rw [← hN]; exact HU.out.2.1)
     have HNZ := Qh hN
     have HB5 := Qh HU.out.1
     clear hu hi5 hzs hN HU HCL HEL
     by_cases hz0 : 0 < N
     ·
      go_wp2_with fail
      refine Calls.mono (within_any _ att 0 ((N : Int) - 1) (by omega) (by omega) (by omega) hat) ?_
      rintro e w6 ⟨rfl, rfl⟩
      have hj := within_in att 0 ((N : Int) - 1) (by omega)
      obtain ⟨j, ej⟩ : ∃ j : Nat, within att 0 ((N : Int) - 1) = j := ⟨(within att 0 ((N : Int) - 1)).toNat, by omega⟩
      rw [ej] at hj ⊢
      clear ej
      have hzl := HNZ.out
      obtain ⟨x, hx⟩ : ∃ x, zs[j]? = some x := ⟨_, List.getElem?_eq_getElem (by omega)⟩
      obtain ⟨g2, rfl, hg2, hg2l, hfz, hcells, _⟩ := own_set HO5.out (Below.refl _ _) (i := j) (by omega) (.int .u8 0) rfl
      have hc9 : w5.cell? ⟨g2, j, none⟩ = some (.int .u8 x) := hcells _ _ (by rw [List.getElem?_map, hx]; rfl)
      have hput := own_put HO5.out (i := j) (by omega) (.int .u8 (bits .xor .u8 x turn)) rfl
      rw [← List.map_set] at hput
      have hwy : ∀ y ∈ zs.set j (bits .xor .u8 x turn), (Lit.int .u8 y).wf = true := by
       intro y hy
       rcases List.mem_or_eq_of_mem_set hy with h | h
       ·
        exact HEW.out y h
       ·
        rw [h]; exact wf_bits _ _ _ _
      obtain ⟨_, _, e5, hc5, hi6, _⟩ := ints_of_own hput hwy
      injection e5 with e51 e52 e53
      subst e51 e53
      have hgs := grown_setCell w5 g2 j (.int .u8 (bits .xor .u8 x turn))
      have HB6 := Qh (HB5.out.grown hgs HB5.out.size (by intro k hk; injection hk with hk; omega))
      have HI6 := Qh hi6
      clear hcells hx hput hwy hi6 e52 hgs hzl
      go_upto_region 12 with fail
      generalize w5.setCell ⟨g2, j, none⟩ (.int .u8 (bits .xor .u8 x turn)) = w7 at HB6 HI6 ⊢
      clear hc9 hfz hg2l
      obtain ⟨zs2, hzs2⟩ : ∃ z, zs.set j (bits .xor .u8 x turn) = z := ⟨_, rfl⟩
      rw [hzs2] at HI6
      clear hzs2
      have HXZ := Qh (HX.out.below HB6.out)
      have HWZ := Qh (bl_next HW2.out HW2.out.size HB6.out)
      have HCL := Qh (encodes4_any w7 b1 n1 c1 X HXZ.out (by omega) hc1)
      clear HXZ
      go_wp2_with fail
      refine Calls.mono HCL.out ?_
      rintro e y1 ⟨rfl, hb⟩
      replace HWZ := Qh (bl_next HWZ.out HWZ.out.size hb)
      replace HI6 := Qh (HI6.out.below hb)
      clear hb HCL
      have HCL := Qh (HEC.out y1 HWZ.out)
      go_wp2_with fail
      refine Calls.mono HCL.out ?_
      rintro e y2 ⟨rfl, hb⟩
      replace HWZ := Qh (bl_next HWZ.out HWZ.out.size hb)
      replace HI6 := Qh (HI6.out.below hb)
      clear hb HCL
      have HCL := Qh (decodes4_any y2 (some ⟨g2, 0, none⟩) N c5 _ HI6.out (by omega) ⟨by omega, by omega⟩)
      go_wp2_with fail
      refine Calls.mono HCL.out ?_
      rintro e y3 ⟨rfl, hb⟩
      replace HWZ := Qh (bl_next HWZ.out HWZ.out.size hb)
      clear hb HCL HI6
      have HCL := Qh (cut4 y3 a3 len3 cap3 h3 h3c)
      go_wp2_with fail
      refine Calls.mono HCL.out ?_
      rintro e wq ⟨rfl, rfl⟩
      clear HCL
      have HIB := Qh ((HBS.out.below HWZ.out).pre (min len3 80) (Nat.min_le_left ..))
      obtain ⟨q, hq⟩ : ∃ q, min len3 80 = q := ⟨_, rfl⟩
      rw [hq] at HIB ⊢
      have hq80 : q ≤ 80 ∧ q ≤ len3 := by omega
      clear hq
      have HCL := Qh (decodes4_any y3 a3 q cap3 _ HIB.out (by omega) ⟨by omega, h3c⟩)
      go_wp2_with fail
      refine Calls.mono HCL.out ?_
      rintro e y4 ⟨rfl, hb⟩
      replace HWZ := Qh (bl_next HWZ.out HWZ.out.size hb)
      clear hb HCL HIB
      have HCL := Qh (known4_any y4)
      go_wp2_with fail
      refine Calls.mono HCL.out ?_
      rintro e y5 ⟨rfl, hb⟩
      replace HWZ := Qh (bl_next HWZ.out HWZ.out.size hb)
      clear hb HCL
      go_wp2_with fail
      go_ret
      exact ⟨rfl, HWZ.out⟩
     ·
      have HB6 := HB5; have HI6 := HI5
      have HXZ := Qh (HX.out.below HB6.out)
      have HWZ := Qh (bl_next HW2.out HW2.out.size HB6.out)
      have HCL := Qh (encodes4_any w5 b1 n1 c1 X HXZ.out (by omega) hc1)
      clear HXZ
      go_wp2_with fail
      refine Calls.mono HCL.out ?_
      rintro e y1 ⟨rfl, hb⟩
      replace HWZ := Qh (bl_next HWZ.out HWZ.out.size hb)
      replace HI6 := Qh (HI6.out.below hb)
      clear hb HCL
      have HCL := Qh (HEC.out y1 HWZ.out)
      go_wp2_with fail
      refine Calls.mono HCL.out ?_
      rintro e y2 ⟨rfl, hb⟩
      replace HWZ := Qh (bl_next HWZ.out HWZ.out.size hb)
      replace HI6 := Qh (HI6.out.below hb)
      clear hb HCL
      have HCL := Qh (decodes4_any y2 a5 N c5 _ HI6.out (by omega) ⟨by omega, by omega⟩)
      go_wp2_with fail
      refine Calls.mono HCL.out ?_
      rintro e y3 ⟨rfl, hb⟩
      replace HWZ := Qh (bl_next HWZ.out HWZ.out.size hb)
      clear hb HCL HI6
      have HCL := Qh (cut4 y3 a3 len3 cap3 h3 h3c)
      go_wp2_with fail
      refine Calls.mono HCL.out ?_
      rintro e wq ⟨rfl, rfl⟩
      clear HCL
      have HIB := Qh ((HBS.out.below HWZ.out).pre (min len3 80) (Nat.min_le_left ..))
      obtain ⟨q, hq⟩ : ∃ q, min len3 80 = q := ⟨_, rfl⟩
      rw [hq] at HIB ⊢
      have hq80 : q ≤ 80 ∧ q ≤ len3 := by omega
      clear hq
      have HCL := Qh (decodes4_any y3 a3 q cap3 _ HIB.out (by omega) ⟨by omega, h3c⟩)
      go_wp2_with fail
      refine Calls.mono HCL.out ?_
      rintro e y4 ⟨rfl, hb⟩
      replace HWZ := Qh (bl_next HWZ.out HWZ.out.size hb)
      clear hb HCL HIB
      have HCL := Qh (known4_any y4)
      go_wp2_with fail
      refine Calls.mono HCL.out ?_
      rintro e y5 ⟨rfl, hb⟩
      replace HWZ := Qh (bl_next HWZ.out HWZ.out.size hb)
      clear hb HCL
      go_wp2_with fail
      go_ret
      exact ⟨rfl, HWZ.out⟩
 ·
  have HEC : Hid (∀ u, Below W.heap.size W u → Calls Try.prog 16 #[.slice a2 len2 cap2] u fun e w' => e = .returned (.bool true) ∧ Below u.heap.size u w') := Qh (fun u hu => encodes4_any u a2 len2 cap2 RL (HRL.out.below hu) (by omega) ⟨by omega, hc2⟩)
  clear HRL
  go_wp2_with fail
  go_loopw [15] (fun s15 wr => ∃ i : Nat, s15 = .int .i64 i ∧ i ≤ n1 ∧ i ≤ m1 ∧ Hid (Below w2.heap.size w2 wr)) (fun s _ => n1 - (intOf s).toNat)
  case atStart => exact ⟨0, rfl, by omega, by omega, Qh (Below.refl _ _)⟩
  case round =>
   obtain ⟨i, rfl, hi, hi2, HBR⟩ := hrel
   by_cases hlt : i < n1 ∧ i < m1
   ·
    obtain ⟨hlt1, hlt2⟩ := hlt
    have HXW := Qh (HX.out.below HBR.out); have HYW := Qh (HY.out.below HBR.out)
    obtain ⟨ab, ao, x, rfl, _, hxx, _, hrg⟩ := HXW.out.row.at hlt1
    obtain ⟨bb, bo, y, rfl, _, hyy, _, hrg2⟩ := HYW.out.row.at hlt2
    obtain ⟨f, d1, r1⟩ := x
    obtain ⟨g, d2, r2⟩ := y
    have HA : Hid (wr.rangeAt ab (ao + i * 19) (f.cells d1 r1)) := Qh hrg; have HG : Hid (wr.rangeAt bb (bo + i * 19) (g.cells d2 r2)) := Qh hrg2
    have HF1 : Hid (FrAt wr f d1 r1) := Qh (HXW.out.fr _ (List.mem_of_getElem? hxx)); have HF2 : Hid (FrAt wr g d2 r2) := Qh (HYW.out.fr _ (List.mem_of_getElem? hyy))
    have HR : Hid (rightB f = true ∧ rightB g = true) := Qh ⟨HXR.out _ (List.mem_of_getElem? hxx), HYR.out _ (List.mem_of_getElem? hyy)⟩
    clear hxx hyy hrg hrg2 HXW HYW
    go_upto_region 7 with fail
    refine tl_round _ HA HG HF1 HF2 HR hlt1 hlt2 (by omega) (by omega) (fun c a d v w h => by cases d <;> exact h) ?_
    rintro _ _ _ _ _ _ _ _ _ _ _ _ _ _ _ _ _ _ w9 HB9
    replace HBR := Qh (bl_next HBR.out HBR.out.size HB9.out)
    clear HB9 HA HG HF1 HF2 HR
    go_wp2_with fail
    go_roundw
    case rel => exact ⟨i + 1, by go_num, by omega, by omega, HBR⟩
    case measure => simp [intOf]; omega
   ·
    have hor : (n1 ≤ i) ∨ (i < n1 ∧ m1 ≤ i) := by omega
    have HW2 := Qh (bl_next HB.out HB.out.size HBR.out)
    replace HX := Qh (HX.out.below HBR.out)
    clear HB HBR HY
    have hall : X.all (fun x => rightB x.f) = true := List.all_eq_true.2 HXR.out
    have hel := encM_le X (fun x hx => (HX.out.fr x hx).wf) hall
    rw [HN1.out] at hel
    have HEL := Qh hel
    have hcl := rencode4_any wr b1 n1 c1 X HX.out (by omega) hc1 hall
    have HCL := Qh hcl
    have HALL := Qh hall
    clear hcl hel hall hlt
    rcases hor with hor | ⟨hor, hor2⟩
    all_goals
     go_wp2_with fail
     refine Calls.mono HCL.out ?_
     rintro e w5 ⟨v5, rfl, hu⟩
     obtain ⟨a5, c5, rfl, hz1, hz2, hi5⟩ := hu.ints
     have HU := Qh hu; have HI5 := Qh hi5
     obtain ⟨zs, hzs⟩ : ∃ z, encM X = z := ⟨_, rfl⟩
     rw [hzs] at HU HI5 hz1 HEL ⊢
     have HEW : Hid (∀ y ∈ zs, (Lit.int .u8 y).wf = true) := Qh HU.out.2.2
     obtain ⟨N, hN⟩ : ∃ n, zs.length = n := ⟨_, rfl⟩
     have hNe := HEL.out
     rw [hN] at HI5 hz1 hNe ⊢
     have HO5 : Hid (w5.ownsRow wr.heap.size 5 1 (.slice a5 N c5) N (zs.map (Value.int .u8))) := Qh (by rw [← hN]; exact HU.out.2.1)
     have HNZ := Qh hN
     have HB5 := Qh HU.out.1
     clear hu hi5 hzs hN HU HCL HEL
     by_cases hz0 : 0 < N
     ·
      go_wp2_with fail
      refine Calls.mono (within_any _ att 0 ((N : Int) - 1) (by omega) (by omega) (by omega) hat) ?_
      rintro e w6 ⟨rfl, rfl⟩
      have hj := within_in att 0 ((N : Int) - 1) (by omega)
      obtain ⟨j, ej⟩ : ∃ j : Nat, within att 0 ((N : Int) - 1) = j := ⟨(within att 0 ((N : Int) - 1)).toNat, by omega⟩
      rw [ej] at hj ⊢
      clear ej
      have hzl := HNZ.out
      obtain ⟨x, hx⟩ : ∃ x, zs[j]? = some x := ⟨_, List.getElem?_eq_getElem (by omega)⟩
      obtain ⟨g2, rfl, hg2, hg2l, hfz, hcells, _⟩ := own_set HO5.out (Below.refl _ _) (i := j) (by omega) (.int .u8 0) rfl
      have hc9 : w5.cell? ⟨g2, j, none⟩ = some (.int .u8 x) := hcells _ _ (by rw [List.getElem?_map, hx]; rfl)
      have hput := own_put HO5.out (i := j) (by omega) (.int .u8 (bits .xor .u8 x turn)) rfl
      rw [← List.map_set] at hput
      have hwy : ∀ y ∈ zs.set j (bits .xor .u8 x turn), (Lit.int .u8 y).wf = true := by
       intro y hy
       rcases List.mem_or_eq_of_mem_set hy with h | h
       ·
        exact HEW.out y h
       ·
        rw [h]; exact wf_bits _ _ _ _
      obtain ⟨_, _, e5, hc5, hi6, _⟩ := ints_of_own hput hwy
      injection e5 with e51 e52 e53
      subst e51 e53
      have hgs := grown_setCell w5 g2 j (.int .u8 (bits .xor .u8 x turn))
      have HB6 := Qh (HB5.out.grown hgs HB5.out.size (by intro k hk; injection hk with hk; omega))
      have HI6 := Qh hi6
      clear hcells hx hput hwy hi6 e52 hgs hzl
      go_upto_region 12 with fail
      generalize w5.setCell ⟨g2, j, none⟩ (.int .u8 (bits .xor .u8 x turn)) = w7 at HB6 HI6 ⊢
      clear hc9 hfz hg2l
      obtain ⟨zs2, hzs2⟩ : ∃ z, zs.set j (bits .xor .u8 x turn) = z := ⟨_, rfl⟩
      rw [hzs2] at HI6
      clear hzs2
      have HXZ := Qh (HX.out.below HB6.out)
      have HWZ := Qh (bl_next HW2.out HW2.out.size HB6.out)
      have HCL := Qh (encodes4_any w7 b1 n1 c1 X HXZ.out (by omega) hc1)
      clear HXZ
      go_wp2_with fail
      refine Calls.mono HCL.out ?_
      rintro e y1 ⟨rfl, hb⟩
      replace HWZ := Qh (bl_next HWZ.out HWZ.out.size hb)
      replace HI6 := Qh (HI6.out.below hb)
      clear hb HCL
      have HCL := Qh (HEC.out y1 HWZ.out)
      go_wp2_with fail
      refine Calls.mono HCL.out ?_
      rintro e y2 ⟨rfl, hb⟩
      replace HWZ := Qh (bl_next HWZ.out HWZ.out.size hb)
      replace HI6 := Qh (HI6.out.below hb)
      clear hb HCL
      have HCL := Qh (decodes4_any y2 (some ⟨g2, 0, none⟩) N c5 _ HI6.out (by omega) ⟨by omega, by omega⟩)
      go_wp2_with fail
      refine Calls.mono HCL.out ?_
      rintro e y3 ⟨rfl, hb⟩
      replace HWZ := Qh (bl_next HWZ.out HWZ.out.size hb)
      clear hb HCL HI6
      have HCL := Qh (cut4 y3 a3 len3 cap3 h3 h3c)
      go_wp2_with fail
      refine Calls.mono HCL.out ?_
      rintro e wq ⟨rfl, rfl⟩
      clear HCL
      have HIB := Qh ((HBS.out.below HWZ.out).pre (min len3 80) (Nat.min_le_left ..))
      obtain ⟨q, hq⟩ : ∃ q, min len3 80 = q := ⟨_, rfl⟩
      rw [hq] at HIB ⊢
      have hq80 : q ≤ 80 ∧ q ≤ len3 := by omega
      clear hq
      have HCL := Qh (decodes4_any y3 a3 q cap3 _ HIB.out (by omega) ⟨by omega, h3c⟩)
      go_wp2_with fail
      refine Calls.mono HCL.out ?_
      rintro e y4 ⟨rfl, hb⟩
      replace HWZ := Qh (bl_next HWZ.out HWZ.out.size hb)
      clear hb HCL HIB
      have HCL := Qh (known4_any y4)
      go_wp2_with fail
      refine Calls.mono HCL.out ?_
      rintro e y5 ⟨rfl, hb⟩
      replace HWZ := Qh (bl_next HWZ.out HWZ.out.size hb)
      clear hb HCL
      go_wp2_with fail
      go_ret
      exact ⟨rfl, HWZ.out⟩
     ·
      have HB6 := HB5; have HI6 := HI5
      have HXZ := Qh (HX.out.below HB6.out)
      have HWZ := Qh (bl_next HW2.out HW2.out.size HB6.out)
      have HCL := Qh (encodes4_any w5 b1 n1 c1 X HXZ.out (by omega) hc1)
      clear HXZ
      go_wp2_with fail
      refine Calls.mono HCL.out ?_
      rintro e y1 ⟨rfl, hb⟩
      replace HWZ := Qh (bl_next HWZ.out HWZ.out.size hb)
      replace HI6 := Qh (HI6.out.below hb)
      clear hb HCL
      have HCL := Qh (HEC.out y1 HWZ.out)
      go_wp2_with fail
      refine Calls.mono HCL.out ?_
      rintro e y2 ⟨rfl, hb⟩
      replace HWZ := Qh (bl_next HWZ.out HWZ.out.size hb)
      replace HI6 := Qh (HI6.out.below hb)
      clear hb HCL
      have HCL := Qh (decodes4_any y2 a5 N c5 _ HI6.out (by omega) ⟨by omega, by omega⟩)
      go_wp2_with fail
      refine Calls.mono HCL.out ?_
      rintro e y3 ⟨rfl, hb⟩
      replace HWZ := Qh (bl_next HWZ.out HWZ.out.size hb)
      clear hb HCL HI6
      have HCL := Qh (cut4 y3 a3 len3 cap3 h3 h3c)
      go_wp2_with fail
      refine Calls.mono HCL.out ?_
      rintro e wq ⟨rfl, rfl⟩
      clear HCL
      have HIB := Qh ((HBS.out.below HWZ.out).pre (min len3 80) (Nat.min_le_left ..))
      obtain ⟨q, hq⟩ : ∃ q, min len3 80 = q := ⟨_, rfl⟩
      rw [hq] at HIB ⊢
      have hq80 : q ≤ 80 ∧ q ≤ len3 := by omega
      clear hq
      have HCL := Qh (decodes4_any y3 a3 q cap3 _ HIB.out (by omega) ⟨by omega, h3c⟩)
      go_wp2_with fail
      refine Calls.mono HCL.out ?_
      rintro e y4 ⟨rfl, hb⟩
      replace HWZ := Qh (bl_next HWZ.out HWZ.out.size hb)
      clear hb HCL HIB
      have HCL := Qh (known4_any y4)
      go_wp2_with fail
      refine Calls.mono HCL.out ?_
      rintro e y5 ⟨rfl, hb⟩
      replace HWZ := Qh (bl_next HWZ.out HWZ.out.size hb)
      clear hb HCL
      go_wp2_with fail
      go_ret
      exact ⟨rfl, HWZ.out⟩
end Go.Proofs.Ytmbjepcbokbemaa
