/- texts of the proof, laid together: Frz. -/
import Derived.Test.YtmbjepcbokbemaaU15
import Derived.Test.YtmbjepcbokbemaaU17
import Derived.Test.YtmbjepcbokbemaaU18
import Derived.Test.YtmbjepcbokbemaaU13
set_option linter.unusedVariables false
set_option linter.unusedSimpArgs false
set_option maxRecDepth 100000
set_option maxHeartbeats 16000000
namespace Go.Proofs.Ytmbjepcbokbemaa
open Go.RowKit
theorem rng_lt {w : World} {b o : Nat} {v : Value} {l : List Value} (h : w.rangeAt b o (v :: l)) : b < w.heap.size := by
 have h9 := h 0 v rfl
 by_cases h : b < w.heap.size
 ·
  exact h
 ·
  unfold World.cell? at h9; simp [Array.getElem?_eq_none (Nat.le_of_not_lt h)] at h9
theorem FrsAt.two {w : World} {f : Fr} {dv rv : Value} (h : FrAt w f dv rv) : FrsAt (w.alloc (.cells (frK.flat [⟨zeroF 1, .slice none 0 0, .slice none 0 0⟩, ⟨f, dv, rv⟩]).toArray 39)) (some ⟨w.heap.size, 0, none⟩) 2 [⟨zeroF 1, .slice none 0 0, .slice none 0 0⟩, ⟨f, dv, rv⟩] := by
 have hz := FrAt.zero w 1 (by omega)
 have hm : ∀ x ∈ ([⟨zeroF 1, .slice none 0 0, .slice none 0 0⟩, ⟨f, dv, rv⟩] : List FX), FrAt w x.f x.dv x.rv := fun x hx => by
  simp only [List.mem_cons, List.not_mem_nil, or_false] at hx; rcases hx with rfl | rfl
  ·
   exact hz
  ·
   exact h
 exact ⟨RK.At.of_row (K := frK) (l := ([⟨zeroF 1, .slice none 0 0, .slice none 0 0⟩, ⟨f, dv, rv⟩] : List FX)) (heap_alloc_new w _) (fun x hx => (hm x hx).ok), fun x hx => (hm x hx).below ((Below.refl _ _).alloc (Nat.le_refl _) _)⟩
theorem nb_round {x0 x3 x4 x5 x6 x7 x8 x9 x10 x11 x12 x13 x14 x15 x16 x17 x18 x19 x20 x21 x22 x23 x24 x25 x26 x27 x28 x29 x30 x31 x32 x33 x34 x35 x36 x37 x38 x39 x40 x41 x42 x43 x44 x45 x46 x47 x48 x49 x50 x51 x52 x53 x54 x55 x56 x57 x58 x59 x60 x61 x62 x63 x64 x65 x66 x67 x68 x69 x70 x71 x72 x73 x74 x75 x76 x77 x78 x79 x80 x81 x82 x83 x84 x85 x86 x87 x88 x89 x90 x91 x92 x93 x94 x95 x96 x97 x98 x99 x100 x101 x102 x103 x104 x105 x106 x107 x108 x109 x110 x111 x112 x113 x114 x115 x116 x117 x118 x119 x120 x121 x122 : Value} {ab ao i j : Nat} {f g : Fr} {d1 r1 d2 r2 : Value} (w : World) {Q : Exit → Act → World → Prop}
  (HA : Hid (w.rangeAt ab (ao + i * 19) (f.cells d1 r1))) (HG : Hid (w.rangeAt ab (ao + j * 19) (g.cells d2 r2))) (HF1 : Hid (FrAt w f d1 r1)) (HF2 : Hid (FrAt w g d2 r2)) (HL : Hid ((f.data.length ≤ 1000 ∧ f.rg.length ≤ 1000) ∧ g.data.length ≤ 1000 ∧ g.rg.length ≤ 1000)) (hi : i < 39) (hj : j < 39) (hij : (i + 1 < 39 ∧ j = i + 1) ∨ (i = 38 ∧ j = 0))
  (hQp : ∀ c a d v w, Q (.panic c) (a.put d v) w → Q (.panic c) a w)
  (hQ : ∀ (y13 y14 y15 y16 y17 y18 y19 y20 y21 y22 y23 y24 y25 y26 y27 y28 y29 y30 y31 y32 y33 y34 y35 y36 y37 y38 y39 y40 y41 y42 y43 y44 y45 y46 y47 y48 y49 y50 y51 y52 y53 y54 y55 y56 y57 : Value) (w' : World), Hid (Below w.heap.size w w') → Q .normal ⟨List.toArray (x0 :: .slice (some ⟨ab, ao, none⟩) 39 39 :: .int .i64 i :: x3 :: x4 :: x5 :: x6 :: x7 :: x8 :: x9 :: x10 :: x11 :: x12 :: y13 :: y14 :: y15 :: y16 :: y17 :: y18 :: y19 :: y20 :: y21 :: y22 :: y23 :: y24 :: y25 :: y26 :: y27 :: y28 :: y29 :: y30 :: y31 :: y32 :: y33 :: y34 :: y35 :: y36 :: y37 :: y38 :: y39 :: y40 :: y41 :: y42 :: y43 :: y44 :: y45 :: y46 :: y47 :: y48 :: y49 :: y50 :: y51 :: y52 :: y53 :: y54 :: y55 :: y56 :: y57 :: .bool false :: x59 :: x60 :: x61 :: x62 :: x63 :: x64 :: x65 :: x66 :: x67 :: x68 :: x69 :: x70 :: x71 :: x72 :: x73 :: x74 :: x75 :: x76 :: x77 :: x78 :: x79 :: x80 :: x81 :: x82 :: x83 :: x84 :: x85 :: x86 :: x87 :: x88 :: x89 :: x90 :: x91 :: x92 :: x93 :: x94 :: x95 :: x96 :: x97 :: x98 :: x99 :: x100 :: x101 :: x102 :: x103 :: x104 :: x105 :: x106 :: x107 :: x108 :: x109 :: x110 :: x111 :: x112 :: x113 :: x114 :: x115 :: x116 :: x117 :: x118 :: x119 :: x120 :: x121 :: x122 :: []), []⟩ w') :
  Code.wp Try.prog (((Try.f4.body.bind (subRegion 5)).getD .skip)) Q ⟨List.toArray (x0 :: .slice (some ⟨ab, ao, none⟩) 39 39 :: .int .i64 i :: x3 :: x4 :: x5 :: x6 :: x7 :: x8 :: x9 :: x10 :: x11 :: x12 :: x13 :: x14 :: x15 :: x16 :: x17 :: x18 :: x19 :: x20 :: x21 :: x22 :: x23 :: x24 :: x25 :: x26 :: x27 :: x28 :: x29 :: x30 :: x31 :: x32 :: x33 :: x34 :: x35 :: x36 :: x37 :: x38 :: x39 :: x40 :: x41 :: x42 :: x43 :: x44 :: x45 :: x46 :: x47 :: x48 :: x49 :: x50 :: x51 :: x52 :: x53 :: x54 :: x55 :: x56 :: x57 :: x58 :: x59 :: x60 :: x61 :: x62 :: x63 :: x64 :: x65 :: x66 :: x67 :: x68 :: x69 :: x70 :: x71 :: x72 :: x73 :: x74 :: x75 :: x76 :: x77 :: x78 :: x79 :: x80 :: x81 :: x82 :: x83 :: x84 :: x85 :: x86 :: x87 :: x88 :: x89 :: x90 :: x91 :: x92 :: x93 :: x94 :: x95 :: x96 :: x97 :: x98 :: x99 :: x100 :: x101 :: x102 :: x103 :: x104 :: x105 :: x106 :: x107 :: x108 :: x109 :: x110 :: x111 :: x112 :: x113 :: x114 :: x115 :: x116 :: x117 :: x118 :: x119 :: x120 :: x121 :: x122 :: []), []⟩ w := by
 have HK := Qh hQ; have HKP := Qh hQp
 clear hQ hQp
 conv => arg 2; whnf
 have HLA : Hid ((f.cells d1 r1).length = 19) := Qh (Fr.len HF1.out.wf); have HLB : Hid ((g.cells d2 r2).length = 19) := Qh (Fr.len HF2.out.wf)
 have HOA : Hid (ab < w.heap.size) := Qh (rng_lt HA.out)
 have hs1 := fun u h1 h2 => same4_any u f g d1 r1 d2 r2 h1 h2 (fun _ => by have := HL.out.1.1; omega) (fun _ => by have := HL.out.2.1; omega) (fun _ => by have := HL.out.1.2; omega) (fun _ => by have := HL.out.2.2; omega)
 have hs2 := fun u h1 h2 => rsame4_any u f g d1 r1 d2 r2 h1 h2 (fun _ => by have := HL.out.1.2; omega)
 have he1 := fun u (hu : FrAt u f d1 r1) => encodes4_any (u.alloc (.cells (frK.flat [⟨f, d1, r1⟩]).toArray 39)) (some ⟨u.heap.size, 0, none⟩) 1 1 [⟨f, d1, r1⟩] (FrsAt.one hu) (by omega) (by omega)
 have he2 := fun u (hu : FrAt u f d1 r1) => encodes4_any (u.alloc (.cells (frK.flat [⟨zeroF 1, .slice none 0 0, .slice none 0 0⟩, ⟨f, d1, r1⟩]).toArray 39)) (some ⟨u.heap.size, 0, none⟩) 2 2 [⟨zeroF 1, .slice none 0 0, .slice none 0 0⟩, ⟨f, d1, r1⟩] (FrsAt.two hu) (by omega) (by omega)
 have HE1 := Qh he1; have HE2 := Qh he2
 clear he1 he2
 have HRA : Hid (∃ R, f.cells d1 r1 = R) := Qh ⟨_, rfl⟩
 obtain ⟨RA, hRA⟩ := HRA.out
 obtain ⟨RB, hRB⟩ : ∃ R, g.cells d2 r2 = R := ⟨_, rfl⟩
 have HRE := Qh hRA
 simp only [hRA, hRB] at HA HG HLA HLB hs1 hs2
 have HS1 := Qh hs1; have HS2 := Qh hs2
 clear hs1 hs2 hRA hRB HRA
 obtain ⟨sb, hsb⟩ : ∃ s, sameF f g = s := ⟨_, rfl⟩
 simp only [hsb] at HS1 HS2
 clear hsb
 have q1 : (sb != sb) = false := by cases sb <;> rfl
 have HD : Hid (Below w.heap.size w w.drew) := Qh (Below.refl _ _).drew
 refine wp_plan (.t 0 (.t 1 (.t 2 (.t 3 (.u 4 (.u 5 (.t 6 (.t 7 (.t 8 (.t 9 (.t 10 (.t 11 (.t 12 (.u 13 (.u 14 (.t 15 (.t 16 (.t 17 (.t 18 (.t 19 (.t 20 (.t 21 (.t 22 (.t 23 (.t 24 (.t 25 (.t 26 (.t 27 (.t 28 (.t 29 (.t 31 (.t 32 (.t 33 (.t 34 (.t 35 (.t 36 (.t 37 (.t 38 (.t 39 (.t 40 (.t 41 (.t 42 (.u 30 (.u 43 (.t 44 (.t 45 .done)))))))))))))))))))))))))))))))))))))))))))))) (fun y => y.rangeAt ab (ao + i * 19) RA ∧ y.rangeAt ab (ao + j * 19) RB) (by kernel_rfl) (by kernel_rfl) (by kernel_rfl) (fun c a d v w h => by first | (cases d <;> exact h) | exact HKP.out c a d v w h) ⟨HA.out, HG.out⟩ ?_
 replace HF1 := Qh (HF1.out.below HD.out)
 replace HF2 := Qh (HF2.out.below HD.out)
 have HA2 := Qh (rng_bl HD.out HOA.out HA.out); have HG2 := Qh (rng_bl HD.out HOA.out HG.out)
 generalize w.drew = wa at HD HF1 HF2 HA2 HG2 ⊢
 haveI hne : Nonempty (In (fun y => y.rangeAt ab (ao + i * 19) RA ∧ y.rangeAt ab (ao + j * 19) RB)) := ⟨⟨w, HA.out, HG.out⟩⟩
 have hrem : ((i : Int) + 1).tmod 39 = (j : Int) := by rcases hij with ⟨h1, rfl⟩ | ⟨rfl, rfl⟩ <;> first | rfl | (rw [Int.tmod_eq_emod_of_nonneg (by omega)]; omega)
 repeat (first | (refine plan_t_load (by rfl) (by kernel_rfl) 39 _ rfl ab (ao + i * 19) rfl RA _ (fun y hy => hy.1) Try.underlying39 rfl (by rw [HLA.out]; rfl) ?_; simp only [Act.put, List.setIfInBounds_toArray, List.set_cons_succ, List.set_cons_zero]) | (refine plan_t_load (by rfl) (by kernel_rfl) 39 _ rfl ab (ao + j * 19) rfl RB _ (fun y hy => hy.2) Try.underlying39 rfl (by rw [HLB.out]; rfl) ?_; simp only [Act.put, List.setIfInBounds_toArray, List.set_cons_succ, List.set_cons_zero]) | rw [q1] | rw [hrem] | (refine plan_t (by rfl) ?_; (first | go_big_quiet_skip | (go_big_quiet_want; go_big_quiet_op; go_big_quiet_on)); refine wpQuiet_nil ?_))
 refine plan_us (by rfl) (by kernel_rfl) ?_
 intro K hK
 have HCE := Qh (HE1.out wa HF1.out)
 have hb := (Below.refl wa.heap.size wa).alloc (Nat.le_refl _) (.cells (frK.flat [⟨f, d1, r1⟩]).toArray 39)
 have hok : ∀ x ∈ ([⟨f, d1, r1⟩] : List FX), frK.ok x := fun x hx => by
  simp only [List.mem_cons, List.not_mem_nil, or_false] at hx
  subst hx; exact HF1.out.ok
 replace HA2 := Qh (rng_bl hb (Nat.lt_of_lt_of_le HOA.out HD.out.size) HA2.out)
 replace HG2 := Qh (rng_bl hb (Nat.lt_of_lt_of_le HOA.out HD.out.size) HG2.out)
 replace HD := Qh (bl_next HD.out HD.out.size hb)
 replace HF1 := Qh (HF1.out.below hb)
 replace HF2 := Qh (HF2.out.below hb)
 refine wp_build_many frT _ [⟨f, d1, r1⟩] 1 rfl (by omega) rfl hok (by simp only [List.map_toArray, List.map_cons, List.map_nil]; rw [show frK.enc ⟨f, d1, r1⟩ = RA from HRE.out]; rfl) (hK _ _ ⟨⟨HA2.out, HG2.out⟩, ?_⟩)
 clear hK K hb hok
 simp only [Act.put, List.setIfInBounds_toArray, List.set_cons_succ, List.set_cons_zero]
 generalize wa.alloc (.cells (frK.flat [⟨f, d1, r1⟩]).toArray 39) = v1 at HCE HA2 HG2 HD HF1 HF2 ⊢
 generalize wa.heap.size = gv1 at HCE ⊢
 repeat (first | (refine plan_t_load (by rfl) (by kernel_rfl) 39 _ rfl ab (ao + i * 19) rfl RA _ (fun y hy => hy.1) Try.underlying39 rfl (by rw [HLA.out]; rfl) ?_; simp only [Act.put, List.setIfInBounds_toArray, List.set_cons_succ, List.set_cons_zero]) | (refine plan_t_load (by rfl) (by kernel_rfl) 39 _ rfl ab (ao + j * 19) rfl RB _ (fun y hy => hy.2) Try.underlying39 rfl (by rw [HLB.out]; rfl) ?_; simp only [Act.put, List.setIfInBounds_toArray, List.set_cons_succ, List.set_cons_zero]) | rw [q1] | rw [hrem] | (refine plan_t (by rfl) ?_; (first | go_big_quiet_skip | (go_big_quiet_want; go_big_quiet_op; go_big_quiet_on)); refine wpQuiet_nil ?_))
 refine plan_us (by rfl) (by kernel_rfl) ?_
 intro K hK
 have HCL := Qh (HCE.out)
 go_wp2_with fail
 refine Calls.mono HCL.out ?_
 rintro e v2 ⟨rfl, hb⟩
 clear HCL
 replace HA2 := Qh (rng_bl hb (Nat.lt_of_lt_of_le HOA.out HD.out.size) HA2.out)
 replace HG2 := Qh (rng_bl hb (Nat.lt_of_lt_of_le HOA.out HD.out.size) HG2.out)
 replace HD := Qh (bl_next HD.out HD.out.size hb)
 replace HF1 := Qh (HF1.out.below hb)
 replace HF2 := Qh (HF2.out.below hb)
 clear hb
 go_wp2_with fail
 refine ⟨⟨HA2.out, HG2.out⟩, ?_⟩
 repeat (first | (refine plan_t_load (by rfl) (by kernel_rfl) 39 _ rfl ab (ao + i * 19) rfl RA _ (fun y hy => hy.1) Try.underlying39 rfl (by rw [HLA.out]; rfl) ?_; simp only [Act.put, List.setIfInBounds_toArray, List.set_cons_succ, List.set_cons_zero]) | (refine plan_t_load (by rfl) (by kernel_rfl) 39 _ rfl ab (ao + j * 19) rfl RB _ (fun y hy => hy.2) Try.underlying39 rfl (by rw [HLB.out]; rfl) ?_; simp only [Act.put, List.setIfInBounds_toArray, List.set_cons_succ, List.set_cons_zero]) | rw [q1] | rw [hrem] | (refine plan_t (by rfl) ?_; (first | go_big_quiet_skip | (go_big_quiet_want; go_big_quiet_op; go_big_quiet_on)); refine wpQuiet_nil ?_))
 refine plan_us (by rfl) (by kernel_rfl) ?_
 intro K hK
 have HCE := Qh (HE2.out v2 HF1.out)
 have hb := (Below.refl v2.heap.size v2).alloc (Nat.le_refl _) (.cells (frK.flat [⟨zeroF 1, .slice none 0 0, .slice none 0 0⟩, ⟨f, d1, r1⟩]).toArray 39)
 have hok : ∀ x ∈ ([⟨zeroF 1, .slice none 0 0, .slice none 0 0⟩, ⟨f, d1, r1⟩] : List FX), frK.ok x := fun x hx => by
  simp only [List.mem_cons, List.not_mem_nil, or_false] at hx
  rcases hx with rfl | rfl; exact (FrAt.zero v2 1 (by omega)).ok; exact HF1.out.ok
 replace HA2 := Qh (rng_bl hb (Nat.lt_of_lt_of_le HOA.out HD.out.size) HA2.out)
 replace HG2 := Qh (rng_bl hb (Nat.lt_of_lt_of_le HOA.out HD.out.size) HG2.out)
 replace HD := Qh (bl_next HD.out HD.out.size hb)
 replace HF1 := Qh (HF1.out.below hb)
 replace HF2 := Qh (HF2.out.below hb)
 refine wp_build_many frT _ [⟨zeroF 1, .slice none 0 0, .slice none 0 0⟩, ⟨f, d1, r1⟩] 2 rfl (by omega) rfl hok (by simp only [List.map_toArray, List.map_cons, List.map_nil]; rw [show frK.enc ⟨f, d1, r1⟩ = RA from HRE.out]; rfl) (hK _ _ ⟨⟨HA2.out, HG2.out⟩, ?_⟩)
 clear hK K hb hok
 simp only [Act.put, List.setIfInBounds_toArray, List.set_cons_succ, List.set_cons_zero]
 generalize v2.alloc (.cells (frK.flat [⟨zeroF 1, .slice none 0 0, .slice none 0 0⟩, ⟨f, d1, r1⟩]).toArray 39) = v3 at HCE HA2 HG2 HD HF1 HF2 ⊢
 generalize v2.heap.size = gv3 at HCE ⊢
 repeat (first | (refine plan_t_load (by rfl) (by kernel_rfl) 39 _ rfl ab (ao + i * 19) rfl RA _ (fun y hy => hy.1) Try.underlying39 rfl (by rw [HLA.out]; rfl) ?_; simp only [Act.put, List.setIfInBounds_toArray, List.set_cons_succ, List.set_cons_zero]) | (refine plan_t_load (by rfl) (by kernel_rfl) 39 _ rfl ab (ao + j * 19) rfl RB _ (fun y hy => hy.2) Try.underlying39 rfl (by rw [HLB.out]; rfl) ?_; simp only [Act.put, List.setIfInBounds_toArray, List.set_cons_succ, List.set_cons_zero]) | rw [q1] | rw [hrem] | (refine plan_t (by rfl) ?_; (first | go_big_quiet_skip | (go_big_quiet_want; go_big_quiet_op; go_big_quiet_on)); refine wpQuiet_nil ?_))
 refine plan_us (by rfl) (by kernel_rfl) ?_
 intro K hK
 have HCL := Qh (HCE.out)
 go_wp2_with fail
 refine Calls.mono HCL.out ?_
 rintro e v4 ⟨rfl, hb⟩
 clear HCL
 replace HA2 := Qh (rng_bl hb (Nat.lt_of_lt_of_le HOA.out HD.out.size) HA2.out)
 replace HG2 := Qh (rng_bl hb (Nat.lt_of_lt_of_le HOA.out HD.out.size) HG2.out)
 replace HD := Qh (bl_next HD.out HD.out.size hb)
 replace HF1 := Qh (HF1.out.below hb)
 replace HF2 := Qh (HF2.out.below hb)
 clear hb
 go_wp2_with fail
 refine ⟨⟨HA2.out, HG2.out⟩, ?_⟩
 repeat (first | (refine plan_t_load (by rfl) (by kernel_rfl) 39 _ rfl ab (ao + i * 19) rfl RA _ (fun y hy => hy.1) Try.underlying39 rfl (by rw [HLA.out]; rfl) ?_; simp only [Act.put, List.setIfInBounds_toArray, List.set_cons_succ, List.set_cons_zero]) | (refine plan_t_load (by rfl) (by kernel_rfl) 39 _ rfl ab (ao + j * 19) rfl RB _ (fun y hy => hy.2) Try.underlying39 rfl (by rw [HLB.out]; rfl) ?_; simp only [Act.put, List.setIfInBounds_toArray, List.set_cons_succ, List.set_cons_zero]) | rw [q1] | rw [hrem] | (refine plan_t (by rfl) ?_; (first | go_big_quiet_skip | (go_big_quiet_want; go_big_quiet_op; go_big_quiet_on)); refine wpQuiet_nil ?_))
 refine plan_us (by rfl) (by kernel_rfl) ?_
 intro K hK
 have HCL := Qh (HS1.out v4 HF1.out HF2.out)
 go_wp2_with fail
 refine Calls.mono HCL.out ?_
 rintro e v5 ⟨rfl, hb⟩
 clear HCL
 replace HA2 := Qh (rng_bl hb (Nat.lt_of_lt_of_le HOA.out HD.out.size) HA2.out)
 replace HG2 := Qh (rng_bl hb (Nat.lt_of_lt_of_le HOA.out HD.out.size) HG2.out)
 replace HD := Qh (bl_next HD.out HD.out.size hb)
 replace HF1 := Qh (HF1.out.below hb)
 replace HF2 := Qh (HF2.out.below hb)
 clear hb
 go_wp2_with fail
 refine ⟨⟨HA2.out, HG2.out⟩, ?_⟩
 repeat (first | (refine plan_t_load (by rfl) (by kernel_rfl) 39 _ rfl ab (ao + i * 19) rfl RA _ (fun y hy => hy.1) Try.underlying39 rfl (by rw [HLA.out]; rfl) ?_; simp only [Act.put, List.setIfInBounds_toArray, List.set_cons_succ, List.set_cons_zero]) | (refine plan_t_load (by rfl) (by kernel_rfl) 39 _ rfl ab (ao + j * 19) rfl RB _ (fun y hy => hy.2) Try.underlying39 rfl (by rw [HLB.out]; rfl) ?_; simp only [Act.put, List.setIfInBounds_toArray, List.set_cons_succ, List.set_cons_zero]) | rw [q1] | rw [hrem] | (refine plan_t (by rfl) ?_; (first | go_big_quiet_skip | (go_big_quiet_want; go_big_quiet_op; go_big_quiet_on)); refine wpQuiet_nil ?_))
 refine plan_us (by rfl) (by kernel_rfl) ?_
 intro K hK
 have HCL := Qh (HS2.out v5 HF1.out HF2.out)
 go_wp2_with fail
 refine Calls.mono HCL.out ?_
 rintro e v6 ⟨rfl, hb⟩
 clear HCL
 replace HA2 := Qh (rng_bl hb (Nat.lt_of_lt_of_le HOA.out HD.out.size) HA2.out)
 replace HG2 := Qh (rng_bl hb (Nat.lt_of_lt_of_le HOA.out HD.out.size) HG2.out)
 replace HD := Qh (bl_next HD.out HD.out.size hb)
 replace HF1 := Qh (HF1.out.below hb)
 replace HF2 := Qh (HF2.out.below hb)
 clear hb
 go_wp2_with fail
 refine ⟨⟨HA2.out, HG2.out⟩, ?_⟩
 repeat (first | (refine plan_t_load (by rfl) (by kernel_rfl) 39 _ rfl ab (ao + i * 19) rfl RA _ (fun y hy => hy.1) Try.underlying39 rfl (by rw [HLA.out]; rfl) ?_; simp only [Act.put, List.setIfInBounds_toArray, List.set_cons_succ, List.set_cons_zero]) | (refine plan_t_load (by rfl) (by kernel_rfl) 39 _ rfl ab (ao + j * 19) rfl RB _ (fun y hy => hy.2) Try.underlying39 rfl (by rw [HLB.out]; rfl) ?_; simp only [Act.put, List.setIfInBounds_toArray, List.set_cons_succ, List.set_cons_zero]) | rw [q1] | rw [hrem] | (refine plan_t (by rfl) ?_; (first | go_big_quiet_skip | (go_big_quiet_want; go_big_quiet_op; go_big_quiet_on)); refine wpQuiet_nil ?_))
 clear hne
 show Q _ _ _
 exact HK.out _ _ _ _ _ _ _ _ _ _ _ _ _ _ _ _ _ _ _ _ _ _ _ _ _ _ _ _ _ _ _ _ _ _ _ _ _ _ _ _ _ _ _ _ _ v6 HD
theorem nb_cut {x0 x1 x2 x5 x6 x7 x8 x9 x10 x11 x12 x13 x14 x15 x16 x17 x18 x19 x20 x21 x22 x23 x24 x25 x26 x27 x28 x29 x30 x31 x32 x33 x34 x35 x36 x37 x38 x39 x40 x41 x42 x43 x44 x45 x46 x47 x48 x49 x50 x51 x52 x53 x54 x55 x56 x57 x58 x59 x60 x61 x62 x63 x64 x65 x66 x67 x68 x69 x70 x71 x72 x73 x74 x75 x76 x77 x78 x79 x80 x81 x82 x83 x84 x85 x86 x87 x88 x89 x90 x91 x92 x93 x94 x95 x96 x97 x98 x99 x100 x101 x102 x103 x104 x105 x106 x107 x108 x109 x110 x111 x112 x113 x114 x115 x116 x117 x118 x119 x120 x121 x122 : Value} {bb bo L c n : Nat} {bs : List Int} (w : World) {Q : Exit → Act → World → Prop}
  (HI : Hid (IntsK .u8 w (some ⟨bb, bo, none⟩) L bs)) (hn : n ≤ L) (hL : L ≤ 1000) (hc : L ≤ c ∧ c ≤ 9223372036854775807)
  (hQp : ∀ c a d v w, Q (.panic c) (a.put d v) w → Q (.panic c) a w)
  (hQ : ∀ (y80 y81 y82 y83 y84 y85 y86 y87 y88 y89 y90 y91 y92 y93 y94 : Value) (w' : World), Hid (Below w.heap.size w w') → Q .normal ⟨List.toArray (x0 :: x1 :: x2 :: .slice (some ⟨bb, bo, none⟩) L c :: .int .i64 n :: x5 :: x6 :: x7 :: x8 :: x9 :: x10 :: x11 :: x12 :: x13 :: x14 :: x15 :: x16 :: x17 :: x18 :: x19 :: x20 :: x21 :: x22 :: x23 :: x24 :: x25 :: x26 :: x27 :: x28 :: x29 :: x30 :: x31 :: x32 :: x33 :: x34 :: x35 :: x36 :: x37 :: x38 :: x39 :: x40 :: x41 :: x42 :: x43 :: x44 :: x45 :: x46 :: x47 :: x48 :: x49 :: x50 :: x51 :: x52 :: x53 :: x54 :: x55 :: x56 :: x57 :: x58 :: x59 :: x60 :: x61 :: x62 :: x63 :: x64 :: x65 :: x66 :: x67 :: x68 :: x69 :: x70 :: x71 :: x72 :: x73 :: x74 :: x75 :: x76 :: x77 :: x78 :: x79 :: y80 :: y81 :: y82 :: y83 :: y84 :: y85 :: y86 :: y87 :: y88 :: y89 :: y90 :: y91 :: y92 :: y93 :: y94 :: .bool false :: x96 :: x97 :: x98 :: x99 :: x100 :: x101 :: x102 :: x103 :: x104 :: x105 :: x106 :: x107 :: x108 :: x109 :: x110 :: x111 :: x112 :: x113 :: x114 :: x115 :: x116 :: x117 :: x118 :: x119 :: x120 :: x121 :: x122 :: []), []⟩ w') :
  Code.wp Try.prog (((Try.f4.body.bind (subRegion 12)).getD .skip)) Q ⟨List.toArray (x0 :: x1 :: x2 :: .slice (some ⟨bb, bo, none⟩) L c :: .int .i64 n :: x5 :: x6 :: x7 :: x8 :: x9 :: x10 :: x11 :: x12 :: x13 :: x14 :: x15 :: x16 :: x17 :: x18 :: x19 :: x20 :: x21 :: x22 :: x23 :: x24 :: x25 :: x26 :: x27 :: x28 :: x29 :: x30 :: x31 :: x32 :: x33 :: x34 :: x35 :: x36 :: x37 :: x38 :: x39 :: x40 :: x41 :: x42 :: x43 :: x44 :: x45 :: x46 :: x47 :: x48 :: x49 :: x50 :: x51 :: x52 :: x53 :: x54 :: x55 :: x56 :: x57 :: x58 :: x59 :: x60 :: x61 :: x62 :: x63 :: x64 :: x65 :: x66 :: x67 :: x68 :: x69 :: x70 :: x71 :: x72 :: x73 :: x74 :: x75 :: x76 :: x77 :: x78 :: x79 :: x80 :: x81 :: x82 :: x83 :: x84 :: x85 :: x86 :: x87 :: x88 :: x89 :: x90 :: x91 :: x92 :: x93 :: x94 :: x95 :: x96 :: x97 :: x98 :: x99 :: x100 :: x101 :: x102 :: x103 :: x104 :: x105 :: x106 :: x107 :: x108 :: x109 :: x110 :: x111 :: x112 :: x113 :: x114 :: x115 :: x116 :: x117 :: x118 :: x119 :: x120 :: x121 :: x122 :: []), []⟩ w := by
 have HK := Qh hQ; have HKP := Qh hQp
 clear hQ hQp
 conv => arg 2; whnf
 obtain ⟨hc1, hc2⟩ := hc
 have HP := Qh (HI.out.pre n hn)
 have HD : Hid (Below w.heap.size w w.drew) := Qh (Below.refl _ _).drew
 refine wp_plan (.t 0 (.t 1 (.t 2 (.u 3 (.t 4 (.t 5 (.t 7 (.t 9 (.t 10 (.t 11 (.u 6 (.u 8 (.u 12 (.u 13 (.t 14 (.t 15 .done)))))))))))))))) (fun y => Below w.heap.size w y) (by kernel_rfl) (by kernel_rfl) (by kernel_rfl) (fun c a d v w h => by first | (cases d <;> exact h) | exact HKP.out c a d v w h) HD.out ?_
 generalize w.drew = wa at HD ⊢
 haveI hne : Nonempty (In (fun y => Below w.heap.size w y)) := ⟨⟨w, Below.refl _ _⟩⟩
 repeat (first | (refine plan_t (by rfl) ?_; (first | go_big_quiet_skip | (go_big_quiet_want; go_big_quiet_op; go_big_quiet_on)); refine wpQuiet_nil ?_))
 refine plan_us (by rfl) (by kernel_rfl) ?_
 intro K hK
 have HCL := Qh (decodes4_any wa (some ⟨bb, bo, none⟩) n c _ (HP.out.below HD.out) (by omega) ⟨by omega, hc2⟩)
 go_wp2_with fail
 refine Calls.mono HCL.out ?_
 rintro e v1 ⟨rfl, hb⟩
 clear HCL
 replace HD := Qh (bl_next HD.out HD.out.size hb)
 clear hb
 go_wp2_with fail
 refine ⟨HD.out, ?_⟩
 repeat (first | (refine plan_t (by rfl) ?_; (first | go_big_quiet_skip | (go_big_quiet_want; go_big_quiet_op; go_big_quiet_on)); refine wpQuiet_nil ?_))
 refine plan_us (by rfl) (by kernel_rfl) ?_
 intro K hK
 go_wp2_with fail
 have hal := (Below.refl v1.heap.size v1).alloc (Nat.le_refl _) (.cells #[] 5)
 have HOE : Hid ((v1.alloc (.cells #[] 5)).ownsRow v1.heap.size 5 1 (.slice (some ⟨v1.heap.size, 0, none⟩) 0 0) 0 (([] : List Int).map (Value.int .u8))) := Qh ⟨rfl, .inr ⟨_, 0, #[], rfl, Nat.le_refl _, heap_alloc_new v1 _, Nat.le_refl _, by unfold maxLen; omega, rfl, rfl⟩⟩
 have HDV := HD
 have HBV := Qh hal
 replace HD := Qh (bl_next HD.out HD.out.size hal)
 refine ⟨HD.out, ?_⟩
 change Plan.wp _ _ _ _ _ _ (v1.alloc (.cells #[] 5))
 generalize v1.alloc (.cells #[] 5) = v2 at HOE HBV HD ⊢
 have hgw0 : w.heap.size ≤ v1.heap.size := HDV.out.size
 obtain ⟨gb, hgb⟩ : ∃ g, v1.heap.size = g := ⟨_, rfl⟩
 have HGB : Hid (gb ≤ v2.heap.size) := Qh (by rw [← hgb]; exact HBV.out.size)
 rw [hgb] at HOE hgw0 ⊢
 have HGW := Qh hgw0
 clear hgb hal
 repeat (first | (refine plan_t (by rfl) ?_; (first | go_big_quiet_skip | (go_big_quiet_want; go_big_quiet_op; go_big_quiet_on)); refine wpQuiet_nil ?_))
 refine plan_us (by rfl) (by kernel_rfl) ?_
 intro K hK
 refine wp_append_bytes_at _ _ rfl gb 0 _ [] rfl HOE.out (some ⟨bb, bo, none⟩) L c _ rfl (HI.out.below HD.out) (by omega) (HGB.out) ?_
 intro u9 v3 hown hgrow _
 have hD2 := HD.out.grown hgrow HD.out.size (fun k hk => Nat.le_trans HGW.out (own_base HOE.out k hk))
 refine hK _ _ ⟨hD2, ?_⟩
 clear hK K
 simp only [Act.put, List.setIfInBounds_toArray, List.set_cons_succ, List.set_cons_zero]
 replace HD := Qh hD2
 have HO3 := Qh hown
 have HGB2 : Hid (gb ≤ v3.heap.size) := Qh (Nat.le_trans HGB.out hgrow.size)
 clear hown hgrow hD2
 obtain ⟨bav3, cav3, rfl, hcav3, hcbv3⟩ := sl_own HO3.out
 repeat (first | (refine plan_t (by rfl) ?_; (first | go_big_quiet_skip | (go_big_quiet_want; go_big_quiet_op; go_big_quiet_on)); refine wpQuiet_nil ?_))
 refine plan_us (by rfl) (by kernel_rfl) ?_
 intro K hK
 refine wp_append_bytes_at _ _ rfl gb (0 + L) _ ([] ++ bs) rfl HO3.out (some ⟨bb, bo, none⟩) n c _ rfl (HP.out.below HD.out) (by omega) (HGB2.out) ?_
 intro u9 v4 hown hgrow _
 have hD2 := HD.out.grown hgrow HD.out.size (fun k hk => Nat.le_trans HGW.out (own_base HO3.out k hk))
 refine hK _ _ ⟨hD2, ?_⟩
 clear hK K
 simp only [Act.put, List.setIfInBounds_toArray, List.set_cons_succ, List.set_cons_zero]
 replace HD := Qh hD2
 have HO4 := Qh hown
 clear hown hgrow hD2
 obtain ⟨bav4, cav4, rfl, hcav4, hcbv4⟩ := sl_own HO4.out
 repeat (first | (refine plan_t (by rfl) ?_; (first | go_big_quiet_skip | (go_big_quiet_want; go_big_quiet_op; go_big_quiet_on)); refine wpQuiet_nil ?_))
 have hwf : ∀ x ∈ [] ++ bs ++ bs.take n, (Lit.int .u8 x).wf = true := fun x hx => by
  rw [List.nil_append] at hx
  exact (List.mem_append.1 hx).elim (HI.out.2.1 x) (fun h => HI.out.2.1 x (List.mem_of_mem_take h))
 obtain ⟨a5, c5, e5, _, hi5, _⟩ := ints_of_own HO4.out hwf
 injection e5 with e51 e52 e53
 have HI5 : Hid (IntsK .u8 v4 bav4 (L + n) ([] ++ bs ++ bs.take n)) := Qh (by rw [e51]; have h9 := hi5; rw [Nat.zero_add] at h9; exact h9)
 clear hi5 hwf e51 e52 e53
 refine plan_us (by rfl) (by kernel_rfl) ?_
 intro K hK
 have HCL := Qh (decodes4_any v4 bav4 (L + n) cav4 _ HI5.out (by omega) ⟨by omega, hcbv4⟩)
 go_wp2_with fail
 refine Calls.mono HCL.out ?_
 rintro e v5 ⟨rfl, hb⟩
 clear HCL
 replace HD := Qh (bl_next HD.out HD.out.size hb)
 clear hb
 go_wp2_with fail
 refine ⟨HD.out, ?_⟩
 repeat (first | (refine plan_t (by rfl) ?_; (first | go_big_quiet_skip | (go_big_quiet_want; go_big_quiet_op; go_big_quiet_on)); refine wpQuiet_nil ?_))
 clear hne
 show Q _ _ _
 exact HK.out _ _ _ _ _ _ _ _ _ _ _ _ _ _ _ v5 HD
theorem one_posN {f : Fr} (hr : rightB f = true) : 1 ≤ (oneFM f).length := by
 unfold oneFM
 have hk := kindM_in hr
 rw [List.length_append, putM_len]
 have := sizeM_cases (kindM f)
 omega
theorem numbers4_any (w : World) : Makes Try.prog 4 #[] w (.bool true) := by
 have HSO := Qh (some_any w)
 go_enter Try.func4, Try.ntmps4
 go_wp2_with fail
 refine Calls.mono HSO.out ?_
 rintro e w1 ⟨a, X, rfl, hX, hXb, hb⟩
 have hxl : X.length = 39 := hX.row.1.symm
 obtain ⟨ab, ao, _, rfl, _, _, _, _⟩ := hX.row.at (j := 0) (by omega)
 have HX := Qh hX; have HXB := Qh hXb; have HB := Qh hb; have HXL := Qh hxl
 clear hX hXb hb hxl HSO
 go_wp2_with fail
 go_loopw [2] (fun s2 wr => ∃ i : Nat, s2 = .int .i64 i ∧ i ≤ 39 ∧ Hid (Below w1.heap.size w1 wr)) (fun s _ => 39 - (intOf s).toNat)
 case atStart => exact ⟨0, rfl, by omega, Qh (Below.refl _ _)⟩
 case round =>
  obtain ⟨i, rfl, hi, HBR⟩ := hrel
  by_cases hlt : i < 39
  ·
   have HXW := Qh (HX.out.below HBR.out)
   obtain ⟨j, hj, hij⟩ : ∃ j, j < 39 ∧ ((i + 1 < 39 ∧ j = i + 1) ∨ (i = 38 ∧ j = 0)) := by
    by_cases h : i + 1 < 39
    ·
     exact ⟨i + 1, h, .inl ⟨h, rfl⟩⟩
    ·
     exact ⟨0, by omega, .inr ⟨by omega, rfl⟩⟩
   obtain ⟨ab2, ao2, x, e2, _, hx, hok, hrg⟩ := HXW.out.row.at hlt
   injection e2 with e2; injection e2 with e2 e3; subst e2; subst e3
   obtain ⟨ab2, ao2, y, e2, _, hy, _, hrg2⟩ := HXW.out.row.at hj
   injection e2 with e2; injection e2 with e2 e3; subst e2; subst e3
   obtain ⟨f, d1, r1⟩ := x
   obtain ⟨g, d2, r2⟩ := y
   have HA : Hid (wr.rangeAt ab (ao + i * 19) (f.cells d1 r1)) := Qh hrg
   have HG : Hid (wr.rangeAt ab (ao + j * 19) (g.cells d2 r2)) := Qh hrg2
   have HF1 : Hid (FrAt wr f d1 r1) := Qh (HXW.out.fr _ (List.mem_of_getElem? hx))
   have HF2 : Hid (FrAt wr g d2 r2) := Qh (HXW.out.fr _ (List.mem_of_getElem? hy))
   have HL : Hid ((f.data.length ≤ 1000 ∧ f.rg.length ≤ 1000) ∧ g.data.length ≤ 1000 ∧ g.rg.length ≤ 1000) := Qh ⟨HXB.out _ (List.mem_of_getElem? hx), HXB.out _ (List.mem_of_getElem? hy)⟩
   have HRF : Hid ((f.cells d1 r1).length = 19) := Qh (Fr.len hok.1)
   have HOB : Hid (ab < wr.heap.size) := Qh (rng_lt hrg)
   clear hx hy hok hrg hrg2 HXW
   go_upto_region 5 with fail
   refine nb_round _ HA HG HF1 HF2 HL hlt hj hij (fun c a d v w h => by cases d <;> exact h) ?_
   rintro _ _ _ _ _ _ _ _ _ _ _ _ _ _ _ _ _ _ _ _ _ _ _ _ _ _ _ _ _ _ _ _ _ _ _ _ _ _ _ _ _ _ _ _ _ w2 HB2
   replace HA := Qh (rng_bl HB2.out HOB.out HA.out)
   replace HF1 := Qh (HF1.out.below HB2.out)
   replace HBR := Qh (bl_next HBR.out HBR.out.size HB2.out)
   have HOB2 := Qh (Nat.lt_of_lt_of_le HOB.out HB2.out.size)
   clear HB2 HG HF2 HL hij hj HOB
   have hrr := rright4_any w2 f d1 r1 HF1.out
   obtain ⟨b, hbb⟩ : ∃ b, rightB f = b := ⟨_, rfl⟩
   rw [hbb] at hrr
   have HBB := Qh hbb
   obtain ⟨RF, hRF⟩ : ∃ R, f.cells d1 r1 = R := ⟨_, rfl⟩
   have HRE := Qh hRF
   rw [hRF] at hrr HA HRF
   have HRR := Qh hrr
   clear hrr hbb hRF
   go_wp2_with (first | (refine wpList_load_mid rfl 39 _ rfl ab (ao + i * 19) rfl RF _ HA.out Try.underlying39 rfl (by rw [HRF.out]; rfl) ?_) | fail)
   refine Calls.mono HRR.out ?_
   rintro e w3 ⟨rfl, hb⟩
   replace HA := Qh (rng_bl hb HOB2.out HA.out)
   replace HF1 := Qh (HF1.out.below hb)
   replace HBR := Qh (bl_next HBR.out HBR.out.size hb)
   have HOB3 := Qh (Nat.lt_of_lt_of_le HOB2.out hb.size)
   clear hb HRR HOB2
   cases b
   ·
    go_wp2_with fail
    go_roundw
    case rel => exact ⟨i + 1, by go_num, by omega, HBR⟩
    case measure => simp [intOf]; omega
   ·
    have hcl := one4_any w3 f d1 r1 HF1.out HBB.out HF1.out.rgok
    rw [HRE.out] at hcl
    have HCL := Qh hcl
    have hol := one_le HBB.out HF1.out.wf
    have hop := one_posN HBB.out
    clear hcl
    go_wp2_with (first | (refine wpList_load_mid rfl 39 _ rfl ab (ao + i * 19) rfl RF _ HA.out Try.underlying39 rfl (by rw [HRF.out]; rfl) ?_) | fail)
    refine Calls.mono HCL.out ?_
    rintro e w4 ⟨v4, rfl, hu⟩
    obtain ⟨a5, c5, rfl, hc1, hc2, hi5⟩ := hu.ints
    replace HBR := Qh (bl_next HBR.out HBR.out.size hu.1)
    obtain ⟨bs, hbs⟩ : ∃ b, oneFM f = b := ⟨_, rfl⟩
    rw [hbs] at hi5 hc1 hol hop ⊢
    obtain ⟨L, hL⟩ : ∃ n, bs.length = n := ⟨_, rfl⟩
    rw [hL] at hi5 hc1 hol hop ⊢
    obtain ⟨bb, bo, rfl⟩ : ∃ bb bo, a5 = some ⟨bb, bo, none⟩ := by
     rcases hi5.2.2 with h9 | ⟨b9, o9, h9, _⟩
     ·
      omega
     ·
      exact ⟨b9, o9, h9⟩
    have HI := Qh hi5
    clear hu hi5 HCL hbs hL HA HF1 HOB3
    go_wp2_with fail
    generalize wr = wy at *
    go_loopw [4] (fun s4 wr => ∃ k : Nat, s4 = .int .i64 k ∧ k ≤ 60 ∧ k ≤ L + 1 ∧ Hid (Below w4.heap.size w4 wr)) (fun s _ => 60 - (intOf s).toNat)
    case atStart => exact ⟨0, rfl, by omega, by omega, Qh (Below.refl _ _)⟩
    case round =>
     obtain ⟨k, rfl, hk, hk2, HBK⟩ := hrel
     by_cases hkl : k ≤ L ∧ k < 60
     ·
      obtain ⟨hkl1, hkl2⟩ := hkl
      go_upto_region 12 with fail
      refine nb_cut _ (Qh (HI.out.below HBK.out)) hkl1 (by omega) ⟨hc1, hc2⟩ (fun c a d v w h => by cases d <;> exact h) ?_
      rintro _ _ _ _ _ _ _ _ _ _ _ _ _ _ _ w9 HB9
      replace HBK := Qh (bl_next HBK.out HBK.out.size HB9.out)
      clear HB9
      go_wp2_with fail
      go_roundw
      case rel => exact ⟨k + 1, by go_num, by omega, by omega, HBK⟩
      case measure => simp [intOf]; omega
     ·
      have hor : L < k ∨ (k ≤ L ∧ 60 ≤ k) := by omega
      replace HBR := Qh (bl_next HBR.out HBR.out.size HBK.out)
      clear HBK hkl
      rcases hor with h | ⟨h, h'⟩
      all_goals
       go_wp2_with fail
       go_roundw
       case rel => exact ⟨i + 1, by go_num, by omega, HBR⟩
       case measure => simp [intOf]; omega
  ·
   have HB2 := Qh (bl_next HB.out HB.out.size HBR.out)
   clear HX HXB HB HBR HXL
   go_wp2_with fail
   generalize wr = wy at *
   go_loopw [5] (fun s5 wr => ∃ x : Nat, s5 = .int .i64 x ∧ x ≤ 256 ∧ Hid (Below w.heap.size w wr)) (fun s _ => 256 - (intOf s).toNat)
   case atStart => exact ⟨0, rfl, by omega, HB2⟩
   case round =>
    clear HB2
    obtain ⟨x, rfl, hx, HBR⟩ := hrel
    by_cases hlt2 : x < 256
    ·
     have hwf : ∀ z ∈ ([(x : Int), 1, 2, 3, 0, 8, 1, 2, 3, 4, 5, 6, 7, 8, 9] : List Int), (Lit.int .u8 z).wf = true := fun z hz => by
      simp only [List.mem_cons, List.not_mem_nil, or_false] at hz
      rcases hz with rfl | rfl | rfl | rfl | rfl | rfl | rfl | rfl | rfl | rfl | rfl | rfl | rfl | rfl | rfl <;> first | rfl | exact wf_u8_of (by omega) (by omega)
     have hal := (Below.refl wr.heap.size wr).alloc (Nat.le_refl _) (.cells ([.int .u8 (x : Int), .int .u8 1, .int .u8 2, .int .u8 3, .int .u8 0, .int .u8 8, .int .u8 1, .int .u8 2, .int .u8 3, .int .u8 4, .int .u8 5, .int .u8 6, .int .u8 7, .int .u8 8, .int .u8 9] : List Value).toArray 5)
     have HCL := Qh (decodes4_any (wr.alloc (.cells ([.int .u8 (x : Int), .int .u8 1, .int .u8 2, .int .u8 3, .int .u8 0, .int .u8 8, .int .u8 1, .int .u8 2, .int .u8 3, .int .u8 4, .int .u8 5, .int .u8 6, .int .u8 7, .int .u8 8, .int .u8 9] : List Value).toArray 5)) (some ⟨wr.heap.size, 0, none⟩) 15 15 [(x : Int), 1, 2, 3, 0, 8, 1, 2, 3, 4, 5, 6, 7, 8, 9] (IntsK.of_row (zs := [(x : Int), 1, 2, 3, 0, 8, 1, 2, 3, 4, 5, 6, 7, 8, 9]) (heap_alloc_new _ _) hwf) (by omega) (by omega))
     replace HBR := Qh (bl_next HBR.out HBR.out.size hal)
     clear hwf hal
     go_wp2_with fail
     refine Calls.mono HCL.out ?_
     rintro e y0 ⟨rfl, hb⟩
     replace HBR := Qh (bl_next HBR.out HBR.out.size hb)
     clear hb HCL
     have hwf : ∀ z ∈ ([64, (x : Int), 5, 1, 8, 0] : List Int), (Lit.int .u8 z).wf = true := fun z hz => by
      simp only [List.mem_cons, List.not_mem_nil, or_false] at hz
      rcases hz with rfl | rfl | rfl | rfl | rfl | rfl <;> first | rfl | exact wf_u8_of (by omega) (by omega)
     have hal := (Below.refl y0.heap.size y0).alloc (Nat.le_refl _) (.cells ([.int .u8 64, .int .u8 (x : Int), .int .u8 5, .int .u8 1, .int .u8 8, .int .u8 0] : List Value).toArray 5)
     have HCL := Qh (decodes4_any (y0.alloc (.cells ([.int .u8 64, .int .u8 (x : Int), .int .u8 5, .int .u8 1, .int .u8 8, .int .u8 0] : List Value).toArray 5)) (some ⟨y0.heap.size, 0, none⟩) 6 6 [64, (x : Int), 5, 1, 8, 0] (IntsK.of_row (zs := [64, (x : Int), 5, 1, 8, 0]) (heap_alloc_new _ _) hwf) (by omega) (by omega))
     replace HBR := Qh (bl_next HBR.out HBR.out.size hal)
     clear hwf hal
     go_wp2_with fail
     refine Calls.mono HCL.out ?_
     rintro e y1 ⟨rfl, hb⟩
     replace HBR := Qh (bl_next HBR.out HBR.out.size hb)
     clear hb HCL
     have hwf : ∀ z ∈ ([(x : Int)] : List Int), (Lit.int .u8 z).wf = true := fun z hz => by
      simp only [List.mem_cons, List.not_mem_nil, or_false] at hz
      subst hz; exact wf_u8_of (by omega) (by omega)
     have hal := (Below.refl y1.heap.size y1).alloc (Nat.le_refl _) (.cells ([.int .u8 (x : Int)] : List Value).toArray 5)
     have HCL := Qh (decodes4_any (y1.alloc (.cells ([.int .u8 (x : Int)] : List Value).toArray 5)) (some ⟨y1.heap.size, 0, none⟩) 1 1 [(x : Int)] (IntsK.of_row (zs := [(x : Int)]) (heap_alloc_new _ _) hwf) (by omega) (by omega))
     replace HBR := Qh (bl_next HBR.out HBR.out.size hal)
     clear hwf hal
     go_wp2_with fail
     refine Calls.mono HCL.out ?_
     rintro e y2 ⟨rfl, hb⟩
     replace HBR := Qh (bl_next HBR.out HBR.out.size hb)
     clear hb HCL
     go_wp2_with fail
     go_roundw
     case rel => exact ⟨x + 1, by go_num, by omega, HBR⟩
     case measure => simp [intOf]; omega
    ·
     obtain rfl : x = 256 := by omega
     have HCL := Qh (encodes4_any wr none 0 0 [] ⟨RK.At.nil _ _, fun x hx => by cases hx⟩ (by omega) (by omega))
     go_wp2_with fail
     refine Calls.mono HCL.out ?_
     rintro e y1 ⟨rfl, hb⟩
     replace HBR := Qh (bl_next HBR.out HBR.out.size hb)
     clear hb HCL
     have HCL := Qh (known4_any y1)
     go_wp2_with fail
     refine Calls.mono HCL.out ?_
     rintro e y2 ⟨rfl, hb⟩
     replace HBR := Qh (bl_next HBR.out HBR.out.size hb)
     clear hb HCL
     go_wp2_with fail
     go_ret
     exact ⟨rfl, HBR.out⟩
end Go.Proofs.Ytmbjepcbokbemaa
