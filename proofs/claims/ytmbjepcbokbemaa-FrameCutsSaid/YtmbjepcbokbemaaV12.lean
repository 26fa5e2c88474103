/- texts of the proof, laid together: FrmW, FrmX, FrmY. -/
import Derived.Test.YtmbjepcbokbemaaV11
import Derived.Test.YtmbjepcbokbemaaV10
namespace Go.Proofs.Ytmbjepcbokbemaa
open Go.RowKit
set_option linter.unusedVariables false
set_option linter.unusedSimpArgs false

set_option maxRecDepth 100000 in
set_option maxHeartbeats 4000000 in
theorem rge_round {x2 x3 x4 x6 x7 x8 x9 x10 x11 x12 x13 x14 x15 x16 x17 x18 x19 x20 x21 x22 x23 x24 x25 : Value} {ab ao bb bo n c1 c2 i : Nat} {a b : Int} (w : World) {Q : Exit → Act → World → Prop}
    (HX : Hid (w.rangeAt ab (ao + i * 2) [.int .u64 a, .int .u64 b])) (HY : Hid (w.rangeAt bb (bo + i * 2) [.int .u64 a, .int .u64 b])) (hi : i < n) (hn : n ≤ 1000000)
    (hQp : ∀ c a d v w, Q (.panic c) (a.put d v) w → Q (.panic c) a w)
    (hQ : ∀ (y16 y17 y18 y19 y20 y21 y22 y23 : Value) (w' : World), Hid (Below w.heap.size w w') → Q .normal ⟨List.toArray (.slice (some ⟨ab, ao, none⟩) n c1 :: .slice (some ⟨bb, bo, none⟩) n c2 :: x2 :: x3 :: x4 :: .int .i64 i :: x6 :: x7 :: x8 :: x9 :: x10 :: x11 :: x12 :: x13 :: x14 :: x15 :: y16 :: y17 :: y18 :: y19 :: y20 :: y21 :: y22 :: y23 :: .bool false :: x25 :: []), []⟩ w') :
    Code.wp Try.prog (((Try.f39.body.bind (subRegion 6)).getD .skip)) Q ⟨List.toArray (.slice (some ⟨ab, ao, none⟩) n c1 :: .slice (some ⟨bb, bo, none⟩) n c2 :: x2 :: x3 :: x4 :: .int .i64 i :: x6 :: x7 :: x8 :: x9 :: x10 :: x11 :: x12 :: x13 :: x14 :: x15 :: x16 :: x17 :: x18 :: x19 :: x20 :: x21 :: x22 :: x23 :: x24 :: x25 :: []), []⟩ w := by
  have HK := Lib.hid hQ; have HKP := Lib.hid hQp
  clear hQ hQp
  conv => arg 2; whnf
  have q1 : (a == a) = true := by simp
  have q2 : (b == b) = true := by simp
  refine wp_plan (.t 0 (.t 1 (.t 2 (.t 3 (.t 4 (.t 5 (.t 6 (.t 7 (.t 8 .done))))))))) (fun y => y.rangeAt ab (ao + i * 2) [.int .u64 a, .int .u64 b] ∧ y.rangeAt bb (bo + i * 2) [.int .u64 a, .int .u64 b]) (by kernel_rfl) (by kernel_rfl) (by kernel_rfl) (fun c a d v w h => by first | (cases d <;> exact h) | exact HKP.out c a d v w h) ⟨HX.out, HY.out⟩ ?_
  haveI hne : Nonempty (In (fun y => y.rangeAt ab (ao + i * 2) [.int .u64 a, .int .u64 b] ∧ y.rangeAt bb (bo + i * 2) [.int .u64 a, .int .u64 b])) := ⟨⟨w, HX.out, HY.out⟩⟩
  repeat (first | (refine plan_t_load (by rfl) (by kernel_rfl) 71 _ rfl ab (ao + i * 2) rfl [.int .u64 a, .int .u64 b] _ (fun y hy => hy.1) Try.underlying71 rfl (by rfl) ?_; simp only [Act.put, List.setIfInBounds_toArray, List.set_cons_succ, List.set_cons_zero]) | (refine plan_t_load (by rfl) (by kernel_rfl) 71 _ rfl bb (bo + i * 2) rfl [.int .u64 a, .int .u64 b] _ (fun y hy => hy.2) Try.underlying71 rfl (by rfl) ?_; simp only [Act.put, List.setIfInBounds_toArray, List.set_cons_succ, List.set_cons_zero]) | (refine plan_t (by rfl) ?_; (first | go_big_quiet_skip | (go_big_quiet_want; go_big_quiet_op; go_big_quiet_on)); refine wpQuiet_nil ?_))
  clear hne
  show Q _ _ _
  exact HK.out _ _ _ _ _ _ _ _ w.drew (Lib.hid (Below.refl w.heap.size w).drew)
set_option maxRecDepth 100000 in
set_option maxHeartbeats 8000000 in
theorem rgequal_true (w : World) (a b : Option Addr) (n c1 c2 : Nat) (rs : List (Int × Int)) (hX : rgK.At w a n rs) (hZ : rgK.At w b n rs) (hn : n ≤ 1000000) :
    Calls Try.prog 39 #[.slice a n c1, .slice b n c2] w fun e w' => e = .returned (.bool true) ∧ Below w.heap.size w w' := by
  have HX := Lib.hid hX; have HZ := Lib.hid hZ
  clear hX hZ
  have q1 : ((n : Int) != (n : Int)) = false := by simp
  go_enter Try.func39, Try.ntmps39
  go_wp2_with fail
  go_loopw [13] (fun s13 wr => ∃ i : Nat, s13 = .int .i64 i ∧ i ≤ n ∧ Hid (Below w.heap.size w wr)) (fun s _ => n - (intOf s).toNat)
  case atStart => exact ⟨0, rfl, by omega, Lib.hid (Below.refl _ _)⟩
  case round =>
    obtain ⟨i, rfl, hi, HB⟩ := hrel
    by_cases hlt : i < n
    · skip
      obtain ⟨ab, ao, x, rfl, _, hx, hok, hrx⟩ := (HX.out.below HB.out).at hlt
      obtain ⟨bb, bo, z, rfl, _, hz, hok2, hrz⟩ := (HZ.out.below HB.out).at hlt
      rw [hx] at hz; injection hz with hz; subst hz
      obtain ⟨xa, xb⟩ := x
      have HXR : Hid (wr.rangeAt ab (ao + i * 2) [.int .u64 xa, .int .u64 xb]) := Lib.hid hrx; have HZR : Hid (wr.rangeAt bb (bo + i * 2) [.int .u64 xa, .int .u64 xb]) := Lib.hid hrz
      clear hx hok hok2 hrx hrz
      go_upto_region 6 with fail
      refine rge_round _ HXR HZR hlt hn (fun c a d v w h => by cases d <;> exact h) ?_
      rintro _ _ _ _ _ _ _ _ w9 HB9
      replace HB := Lib.hid (bl_next HB.out HB.out.size HB9.out)
      clear HB9 HXR HZR
      go_wp2_with fail
      go_roundw
      case rel => exact ⟨i + 1, by go_num, by omega, HB⟩
      case measure => simp [intOf]; omega
    · skip
      go_wp2_with fail
      (try simp only [Exit.inBlock, Exit.then])
      go_wp2_with fail
      go_ret
      exact ⟨rfl, HB.out⟩
set_option maxRecDepth 100000 in
set_option maxHeartbeats 4000000 in
theorem sm_copy {x0 x1 x4 x5 x6 x7 x8 x9 x10 x11 x12 x13 x14 x15 x16 x17 x18 x19 x20 x21 x22 x23 x24 x25 x26 x27 x28 x29 x30 x31 x32 x33 x34 x35 x36 x37 x38 x39 x40 x41 x42 x43 x44 x45 x46 x47 x48 x49 x50 x51 x52 x53 x54 x55 x56 x57 x58 x59 x60 x61 x62 x63 x64 x65 x66 x67 x68 x69 x70 x71 x72 x73 x74 x75 x76 x77 x78 x79 x80 x81 x82 x83 x84 x85 x86 x87 x88 x89 x90 x91 x92 x93 x94 : Value} {ga gb : Nat} {RA RB : List Value} {f g : Fr} (w : World) {Q : Exit → Act → World → Prop}
    (HA : Hid (w.heap[ga]? = some (.cells RA.toArray 39 (0, 0)))) (HG : Hid (w.heap[gb]? = some (.cells RB.toArray 39 (0, 0)))) (HLA : Hid (RA.length = 19)) (HLB : Hid (RB.length = 19)) (hne : ga ≠ gb) (HCA : Hid (∀ u, Below w.heap.size w u → Calls Try.prog 25 #[.agg RA.toArray] u fun e w' => ∃ dv' rv', e = .returned (.agg (f.cells dv' rv').toArray) ∧ FrAt w' f dv' rv' ∧ FrLo u.heap.size dv' rv' ∧ Below u.heap.size u w')) (HCB : Hid (∀ u, Below w.heap.size w u → Calls Try.prog 25 #[.agg RB.toArray] u fun e w' => ∃ dv' rv', e = .returned (.agg (g.cells dv' rv').toArray) ∧ FrAt w' g dv' rv' ∧ FrLo u.heap.size dv' rv' ∧ Below u.heap.size u w'))
    (hQp : ∀ c a d v w, Q (.panic c) (a.put d v) w → Q (.panic c) a w)
    (hQ : ∀ (y6 y7 y8 y9 : Value) (w' : World) (d1 r1 d2 r2 : Value), Hid (w'.heap[ga]? = some (.cells (f.cells d1 r1).toArray 39 (0, 0))) → Hid (w'.heap[gb]? = some (.cells (g.cells d2 r2).toArray 39 (0, 0))) → Hid (FrAt w' f d1 r1) → Hid (FrAt w' g d2 r2) → Hid (∀ B, B ≤ ga → B ≤ gb → B ≤ w.heap.size → Below B w w') → Q .normal ⟨List.toArray (x0 :: x1 :: .pointer (some ⟨ga, 0, none⟩) :: .pointer (some ⟨gb, 0, none⟩) :: x4 :: x5 :: y6 :: y7 :: y8 :: y9 :: x10 :: x11 :: x12 :: x13 :: x14 :: x15 :: x16 :: x17 :: x18 :: x19 :: x20 :: x21 :: x22 :: x23 :: x24 :: x25 :: x26 :: x27 :: x28 :: x29 :: x30 :: x31 :: x32 :: x33 :: x34 :: x35 :: x36 :: x37 :: x38 :: x39 :: x40 :: x41 :: x42 :: x43 :: x44 :: x45 :: x46 :: x47 :: x48 :: x49 :: x50 :: x51 :: x52 :: x53 :: x54 :: x55 :: x56 :: x57 :: x58 :: x59 :: x60 :: x61 :: x62 :: x63 :: x64 :: x65 :: x66 :: x67 :: x68 :: x69 :: x70 :: x71 :: x72 :: x73 :: x74 :: x75 :: x76 :: x77 :: x78 :: x79 :: x80 :: x81 :: x82 :: x83 :: x84 :: x85 :: x86 :: x87 :: x88 :: x89 :: x90 :: x91 :: x92 :: x93 :: x94 :: []), []⟩ w') :
    Code.wp Try.prog (((Try.f17.body.bind (subRegion 1)).getD .skip)) Q ⟨List.toArray (x0 :: x1 :: .pointer (some ⟨ga, 0, none⟩) :: .pointer (some ⟨gb, 0, none⟩) :: x4 :: x5 :: x6 :: x7 :: x8 :: x9 :: x10 :: x11 :: x12 :: x13 :: x14 :: x15 :: x16 :: x17 :: x18 :: x19 :: x20 :: x21 :: x22 :: x23 :: x24 :: x25 :: x26 :: x27 :: x28 :: x29 :: x30 :: x31 :: x32 :: x33 :: x34 :: x35 :: x36 :: x37 :: x38 :: x39 :: x40 :: x41 :: x42 :: x43 :: x44 :: x45 :: x46 :: x47 :: x48 :: x49 :: x50 :: x51 :: x52 :: x53 :: x54 :: x55 :: x56 :: x57 :: x58 :: x59 :: x60 :: x61 :: x62 :: x63 :: x64 :: x65 :: x66 :: x67 :: x68 :: x69 :: x70 :: x71 :: x72 :: x73 :: x74 :: x75 :: x76 :: x77 :: x78 :: x79 :: x80 :: x81 :: x82 :: x83 :: x84 :: x85 :: x86 :: x87 :: x88 :: x89 :: x90 :: x91 :: x92 :: x93 :: x94 :: []), []⟩ w := by
  have HK := Lib.hid hQ; have HKP := Lib.hid hQp
  clear hQ hQp
  conv => arg 2; whnf
  have HNE := Lib.hid hne
  clear hne
  refine wp_plan2 5 (.t 2 (.u 0 (.u 1 (.u 3 (.u 4 .done))))) (.u 5 .done) (fun y => y.heap[gb]? = some (.cells RB.toArray 39 (0, 0))) (by kernel_rfl) (by kernel_rfl) (by kernel_rfl) (fun c a d v w h => by first | (cases d <;> exact h) | exact HKP.out c a d v w h) HG.out ?_
  have HD : Hid (Below w.heap.size w w.drew) := Lib.hid (Below.refl _ _).drew
  have HA1 := Lib.hid (bl_row HD.out (lt_of_block HA.out) HA.out); have HG1 := Lib.hid (bl_row HD.out (lt_of_block HG.out) HG.out)
  generalize w.drew = w1 at HD HA1 HG1 ⊢
  haveI hne : Nonempty (In fun y => y.heap[gb]? = some (.cells RB.toArray 39 (0, 0))) := ⟨⟨w1, HG1.out⟩⟩
  refine plan_t_load (by rfl) (by kernel_rfl) 39 _ rfl gb 0 rfl RB _ (fun y hy => rngL hy) Try.underlying39 rfl (by rw [HLB.out]; rfl) ?_
  simp only [Act.put, List.setIfInBounds_toArray, List.set_cons_succ, List.set_cons_zero]
  refine plan_us (by rfl) (by kernel_rfl) ?_
  intro K hK
  refine wp_load_mid 39 _ rfl ga 0 rfl RA _ (rngL HA1.out) Try.underlying39 rfl (by rw [HLA.out]; rfl) ?_
  refine hK _ _ ⟨HG1.out, ?_⟩
  clear hK K
  simp only [Act.put, List.setIfInBounds_toArray, List.set_cons_succ, List.set_cons_zero]
  refine plan_us (by rfl) (by kernel_rfl) ?_
  intro K hK
  have HCL := Lib.hid (HCA.out w1 HD.out)
  go_wp2_with fail
  refine Calls.mono HCL.out ?_
  rintro e w2 ⟨d1, r1, rfl, hf1, hl1, hb⟩
  have HL1 : Hid (FrLo w.heap.size d1 r1) := Lib.hid (hl1.less HD.out.size)
  replace HD := Lib.hid (bl_next HD.out HD.out.size hb)
  replace HA1 := Lib.hid (bl_row hb (lt_of_block HA1.out) HA1.out)
  replace HG1 := Lib.hid (bl_row hb (lt_of_block HG1.out) HG1.out)
  have HF1 := Lib.hid hf1
  have HR1 : Hid ((f.cells d1 r1).length = 19) := Lib.hid (Fr.len hf1.wf)
  have HO1 : Hid (∀ v ∈ f.cells d1 r1, v.oneCell' = true) := Lib.hid (Fr.one hf1)
  clear hb hf1 hl1 HCL
  obtain ⟨RF, hRF⟩ : ∃ R, f.cells d1 r1 = R := ⟨_, rfl⟩
  have HRF := Lib.hid hRF
  rw [hRF] at HR1 HO1 ⊢
  clear hRF
  go_wp2_with fail
  refine ⟨HG1.out, ?_⟩
  refine plan_us (by rfl) (by kernel_rfl) ?_
  intro K hK
  have HCL := Lib.hid (HCB.out w2 HD.out)
  go_wp2_with fail
  refine Calls.mono HCL.out ?_
  rintro e w3 ⟨d2, r2, rfl, hf2, hl2, hb⟩
  have HL2 : Hid (FrLo w.heap.size d2 r2) := Lib.hid (hl2.less HD.out.size)
  replace HD := Lib.hid (bl_next HD.out HD.out.size hb)
  replace HA1 := Lib.hid (bl_row hb (lt_of_block HA1.out) HA1.out)
  replace HG1 := Lib.hid (bl_row hb (lt_of_block HG1.out) HG1.out)
  replace HF1 := Lib.hid (HF1.out.below hb)
  have HF2 := Lib.hid hf2
  have HR2 : Hid ((g.cells d2 r2).length = 19) := Lib.hid (Fr.len hf2.wf)
  have HO2 : Hid (∀ v ∈ g.cells d2 r2, v.oneCell' = true) := Lib.hid (Fr.one hf2)
  clear hb hf2 hl2 HCL
  obtain ⟨RG2, hRG⟩ : ∃ R, g.cells d2 r2 = R := ⟨_, rfl⟩
  have HRG := Lib.hid hRG
  rw [hRG] at HR2 HO2 ⊢
  clear hRG
  go_wp2_with fail
  refine ⟨HG1.out, ?_⟩
  refine plan_us (by rfl) (by kernel_rfl) ?_
  intro K hK
  refine wp_store_mid 39 _ _ rfl ga 0 RF.toArray rfl rfl (there_row HA1.out (by rw [List.size_toArray, HR1.out, HLA.out]; exact Nat.le_refl _)) (by rw [List.size_toArray, HR1.out]; rfl) (all_oneCell_toArray HO1.out) ?_
  obtain ⟨hz8, hg8⟩ := setCells_row (g := ga) (t := 39) RF [] RA w3 (by simpa using HA1.out) (by rw [HR1.out, HLA.out])
  simp only [List.length_nil, List.nil_append] at hz8 hg8
  change K _ (w3.setCells ga 0 RF)
  have HZ8 := Lib.hid hz8; have HG8 := Lib.hid hg8
  clear hz8 hg8
  generalize w3.setCells ga 0 RF = w4 at HZ8 HG8 ⊢
  have HG4 := Lib.hid (grown_row HG8.out (by intro e; injection e with e; exact HNE.out e.symm) HG1.out)
  refine hK _ _ ⟨HG4.out, ?_⟩
  clear hK K
  simp only [Act.put, List.setIfInBounds_toArray, List.set_cons_succ, List.set_cons_zero]
  refine ⟨fun _ => True, trivial, ?_⟩
  refine plan_us (by rfl) (by kernel_rfl) ?_
  intro K hK
  refine wp_store_mid 39 _ _ rfl gb 0 RG2.toArray rfl rfl (there_row HG4.out (by rw [List.size_toArray, HR2.out, HLB.out]; exact Nat.le_refl _)) (by rw [List.size_toArray, HR2.out]; rfl) (all_oneCell_toArray HO2.out) ?_
  obtain ⟨hz9, hg9⟩ := setCells_row (g := gb) (t := 39) RG2 [] RB w4 (by simpa using HG4.out) (by rw [HR2.out, HLB.out])
  simp only [List.length_nil, List.nil_append] at hz9 hg9
  change K _ (w4.setCells gb 0 RG2)
  have HZ9 := Lib.hid hz9; have HG9 := Lib.hid hg9
  clear hz9 hg9
  generalize w4.setCells gb 0 RG2 = w5 at HZ9 HG9 ⊢
  have HZ85 := Lib.hid (grown_row HG9.out (by intro e; injection e with e; exact HNE.out e) HZ8.out)
  have HGA : Hid (ga < w.heap.size) := Lib.hid (lt_of_block HA.out); have HGB : Hid (gb < w.heap.size) := Lib.hid (lt_of_block HG.out)
  have HF1e := Lib.hid ((HF1.out.cellBut HL1.out HG8.out HGA.out).cellBut HL1.out HG9.out HGB.out); have HF2e := Lib.hid ((HF2.out.cellBut HL2.out HG8.out HGA.out).cellBut HL2.out HG9.out HGB.out)
  have HBB : Hid (∀ B, B ≤ ga → B ≤ gb → B ≤ w.heap.size → Below B w w5) := Lib.hid (fun B h1 h2 h3 => ((HD.out.mono h3).grown HG8.out (Nat.le_trans h3 HD.out.size) (by intro k hk; injection hk with hk; omega)).grown HG9.out (Nat.le_trans (Nat.le_trans h3 HD.out.size) HG8.out.size) (by intro k hk; injection hk with hk; omega))
  refine hK _ _ ⟨trivial, ?_⟩
  clear hK K
  simp only [Act.put, List.setIfInBounds_toArray, List.set_cons_succ, List.set_cons_zero]
  clear hne
  show Q _ _ _
  exact HK.out _ _ _ _ w5 d1 r1 d2 r2 (Lib.hid (by rw [HRF.out]; exact HZ85.out)) (Lib.hid (by rw [HRG.out]; exact HZ9.out)) HF1e HF2e HBB
set_option maxRecDepth 100000 in
set_option maxHeartbeats 8000000 in
theorem same4_core (w : World) (N : Fr) (RA RB : List Value) (HLA : Hid (RA.length = 19)) (HLB : Hid (RB.length = 19)) (hrl : N.rg.length ≤ 1000000)
    (HCA : Hid (∀ u, Below w.heap.size w u → Calls Try.prog 25 #[.agg RA.toArray] u fun e w' => ∃ dv' rv', e = .returned (.agg (N.cells dv' rv').toArray) ∧ FrAt w' N dv' rv' ∧ FrLo u.heap.size dv' rv' ∧ Below u.heap.size u w'))
    (HCB : Hid (∀ u, Below w.heap.size w u → Calls Try.prog 25 #[.agg RB.toArray] u fun e w' => ∃ dv' rv', e = .returned (.agg (N.cells dv' rv').toArray) ∧ FrAt w' N dv' rv' ∧ FrLo u.heap.size dv' rv' ∧ Below u.heap.size u w')) :
    Calls Try.prog 17 #[.agg RA.toArray, .agg RB.toArray] w fun e w' => e = .returned (.bool true) ∧ Below w.heap.size w w' := by
  have HB := Lib.hid (Below.refl w.heap.size w)
  have HRL := Lib.hid hrl
  clear hrl
  go_enter Try.func17, Try.ntmps17
  go_upto_region 1 with fail
  change Code.wp _ _ _ _ ((w.alloc (.cells RA.toArray 39)).alloc (.cells RB.toArray 39))
  obtain ⟨ga, hg0⟩ : ∃ g, w.heap.size = g := ⟨_, rfl⟩
  try rw [hg0]
  have hb := (Below.refl w.heap.size w).alloc (Nat.le_refl _) (.cells RA.toArray 39)
  have hrw := heap_alloc_new w (.cells RA.toArray 39)
  have hsz : (w.alloc (.cells RA.toArray 39)).heap.size = ga + 1 := by simp [hg0]
  rw [hg0] at hrw
  replace HB := Lib.hid (bl_next HB.out HB.out.size hb)
  have HA := Lib.hid hrw
  clear hb hrw
  generalize w.alloc (.cells RA.toArray 39) = w1 at HB HA hsz ⊢
  have hg1 := hsz
  clear hsz
  have HG0 := Lib.hid hg0
  clear hg0
  have hb := (Below.refl w1.heap.size w1).alloc (Nat.le_refl _) (.cells RB.toArray 39)
  have hrw := heap_alloc_new w1 (.cells RB.toArray 39)
  have hsz : (w1.alloc (.cells RB.toArray 39)).heap.size = ga + 1 + 1 := by simp [hg1]
  rw [hg1] at hrw
  replace HB := Lib.hid (bl_next HB.out HB.out.size hb)
  replace HA := Lib.hid (bl_row hb (lt_of_block HA.out) HA.out)
  have HG := Lib.hid hrw
  clear hb hrw
  generalize w1.alloc (.cells RB.toArray 39) = w2 at HB HA HG hsz ⊢
  have hg2 := hsz
  clear hsz
  clear hg1
  obtain ⟨gb, hgg⟩ : ∃ g, ga + 1 = g := ⟨_, rfl⟩
  rw [hgg] at HG hg2 ⊢
  have HLTgb : Hid (ga < gb) := Lib.hid (by omega)
  clear hgg
  clear hg2
  have hne : ga ≠ gb := by have := HLTgb.out; omega
  refine sm_copy _ HA HG HLA HLB hne (Lib.hid (fun u hu => HCA.out u (bl_next HB.out HB.out.size hu))) (Lib.hid (fun u hu => HCB.out u (bl_next HB.out HB.out.size hu))) (fun c a d v w h => by cases d <;> exact h) ?_
  rintro _ _ _ _ w9 d1 r1 d2 r2 HA9 HG9 HF1 HF2 HBB
  have HB9 : Hid (Below w.heap.size w w9) := Lib.hid (by have h9 := HBB.out w.heap.size (by have := HG0.out; omega) (by have := HG0.out; have := HLTgb.out; omega) HB.out.size; exact HB.out.trans h9)
  clear HBB HCA HCB HA HG HB hne
  obtain ⟨da, dn, dc, rfl, _, _, hd⟩ := HF1.out.d
  obtain ⟨ea, en, ec, rfl, _, _, he⟩ := HF2.out.d
  obtain ⟨ra, rn, rc, rfl, _, _, hr⟩ := HF1.out.r
  obtain ⟨sa, sn, sc, rfl, _, _, hs⟩ := HF2.out.r
  have hde : dn = en := hd.1.symm.trans he.1
  have hrs : rn = sn := hr.1.trans hs.1.symm
  subst hde; subst hrs
  have hrn : rn ≤ 1000000 := by rw [hr.1]; exact HRL.out
  have HEQ := Lib.hid (rgequal_true w9 ra sa rn rc sc N.rg hr hs hrn)
  have HDA := Lib.hid hd; have HDB := Lib.hid he
  clear hd he hr hs
  have ca_kind := cell_row HA9.out 0 (.int .i64 N.kind) rfl
  have ca_st := cell_row HA9.out 1 (.int .u64 N.st) rfl
  have ca_of_ := cell_row HA9.out 2 (.int .u64 N.of_) rfl
  have ca_li := cell_row HA9.out 5 (.int .u64 N.li) rfl
  have ca_co := cell_row HA9.out 6 (.int .u64 N.co) rfl
  have ca_fi := cell_row HA9.out 7 (.int .u64 N.fi) rfl
  have ca_se := cell_row HA9.out 8 (.int .u64 N.se) rfl
  have ca_de := cell_row HA9.out 9 (.int .u64 N.de) rfl
  have ca_fin := cell_row HA9.out 4 (.bool N.fin) rfl
  have ca_d := cell_row HA9.out 3 (.slice da dn dc) rfl
  have ca_r := cell_row HA9.out 10 (.slice ra rn rc) rfl
  have cb_kind := cell_row HG9.out 0 (.int .i64 N.kind) rfl
  have cb_st := cell_row HG9.out 1 (.int .u64 N.st) rfl
  have cb_of_ := cell_row HG9.out 2 (.int .u64 N.of_) rfl
  have cb_li := cell_row HG9.out 5 (.int .u64 N.li) rfl
  have cb_co := cell_row HG9.out 6 (.int .u64 N.co) rfl
  have cb_fi := cell_row HG9.out 7 (.int .u64 N.fi) rfl
  have cb_se := cell_row HG9.out 8 (.int .u64 N.se) rfl
  have cb_de := cell_row HG9.out 9 (.int .u64 N.de) rfl
  have cb_fin := cell_row HG9.out 4 (.bool N.fin) rfl
  have cb_d := cell_row HG9.out 3 (.slice ea dn ec) rfl
  have cb_r := cell_row HG9.out 10 (.slice sa rn sc) rfl
  have HRA := Lib.hid (rng_row HA9.out 11 _ (cells_cid N (.slice da dn dc) (.slice ra rn rc))); have HRB := Lib.hid (rng_row HG9.out 11 _ (cells_cid N (.slice ea dn ec) (.slice sa rn sc)))
  have hc1 : (convert 25 9 (.slice da dn dc)).run Try.prog w9 = .ok (.string (strOfNums N.data)) w9 := conv_ints _ 5 _ _ Try.underlying25 Try.underlying5 Try.underlying9 HDA.out
  have hc2 : (convert 25 9 (.slice ea dn ec)).run Try.prog w9 = .ok (.string (strOfNums N.data)) w9 := conv_ints _ 5 _ _ Try.underlying25 Try.underlying5 Try.underlying9 HDB.out
  have HCO : Hid (cidOk N.cid) := Lib.hid ⟨HF1.out.wf.cidl, HF1.out.wf.cid⟩
  have h18 : (N.cid.map (Value.int .u8)).length = 8 := by simp [HCO.out.1]
  clear HA9 HG9 HF1 HF2 HDA HDB
  obtain ⟨kind1, h1⟩ : ∃ y, N.kind = y := ⟨_, rfl⟩
  rw [h1] at ca_kind cb_kind
  have q_kind : (kind1 == kind1) = true := by simp
  clear h1
  obtain ⟨st1, h1⟩ : ∃ y, N.st = y := ⟨_, rfl⟩
  rw [h1] at ca_st cb_st
  have q_st : (st1 == st1) = true := by simp
  clear h1
  obtain ⟨of1, h1⟩ : ∃ y, N.of_ = y := ⟨_, rfl⟩
  rw [h1] at ca_of_ cb_of_
  have q_of_ : (of1 == of1) = true := by simp
  clear h1
  obtain ⟨li1, h1⟩ : ∃ y, N.li = y := ⟨_, rfl⟩
  rw [h1] at ca_li cb_li
  have q_li : (li1 == li1) = true := by simp
  clear h1
  obtain ⟨co1, h1⟩ : ∃ y, N.co = y := ⟨_, rfl⟩
  rw [h1] at ca_co cb_co
  have q_co : (co1 == co1) = true := by simp
  clear h1
  obtain ⟨fi1, h1⟩ : ∃ y, N.fi = y := ⟨_, rfl⟩
  rw [h1] at ca_fi cb_fi
  have q_fi : (fi1 == fi1) = true := by simp
  clear h1
  obtain ⟨se1, h1⟩ : ∃ y, N.se = y := ⟨_, rfl⟩
  rw [h1] at ca_se cb_se
  have q_se : (se1 == se1) = true := by simp
  clear h1
  obtain ⟨de1, h1⟩ : ∃ y, N.de = y := ⟨_, rfl⟩
  rw [h1] at ca_de cb_de
  have q_de : (de1 == de1) = true := by simp
  clear h1
  obtain ⟨data1, h1⟩ : ∃ y, N.data = y := ⟨_, rfl⟩
  rw [h1] at hc1 hc2
  clear h1
  obtain ⟨cid1, h1⟩ : ∃ y, N.cid = y := ⟨_, rfl⟩
  rw [h1] at HRA HRB HCO h18
  clear h1
  obtain ⟨fin1, h1⟩ : ∃ y, N.fin = y := ⟨_, rfl⟩
  rw [h1] at ca_fin cb_fin
  have q_fin : (fin1 == fin1) = true := by cases fin1 <;> rfl
  clear h1
  obtain ⟨STR, h1⟩ : ∃ y, strOfNums data1 = y := ⟨_, rfl⟩
  rw [h1] at hc1 hc2
  have q_str : (STR.toList == STR.toList) = true := by simp
  clear h1
  have hcq : (cid1 == cid1) = true := by simp
  obtain ⟨CX, hCX⟩ : ∃ C, cid1.map (Value.int .u8) = C := ⟨_, rfl⟩
  have HCX := Lib.hid hCX
  rw [hCX] at HRA HRB h18
  have H18 := Lib.hid h18
  clear hCX h18
  go_upto_region 3 with fail
  go_wp2_with (first | (refine wpList_load_g 37 _ rfl (by kernel_rfl) ga 11 rfl CX _ HRA.out Try.underlying37 rfl (by rw [H18.out]; rfl) ?_) | (refine wpList_load_g 37 _ rfl (by kernel_rfl) gb 11 rfl CX _ HRB.out Try.underlying37 rfl (by rw [H18.out]; rfl) ?_) | (refine wpList_eql_cid_g (by kernel_rfl) _ _ _ rfl cid1 cid1 (by rw [HCX.out]; rfl) (by rw [HCX.out]; rfl) HCO.out HCO.out ?_; rw [hcq]) | fail)
  refine Calls.mono HEQ.out ?_
  rintro e w10 ⟨rfl, hb⟩
  have HBZ := Lib.hid (bl_next HB9.out HB9.out.size hb)
  clear hb
  go_wp2_with fail
  go_ret
  exact ⟨rfl, HBZ.out⟩
theorem nrm_rg_le {f : Fr} (h : f.kind = 2 → f.rg.length ≤ 1000000) : (nrmF f).rg.length ≤ 1000000 := by
  by_cases h2 : f.kind = 2
  · rw [nrm_rg (by rw [nrm_kind]; exact h2)]; exact h h2
  · unfold nrmF
    rw [if_neg h2]
    repeat' split
    all_goals simp [zeroF]
theorem nrm_nrm (f : Fr) : nrmF (nrmF f) = nrmF f := by
  unfold nrmF
  by_cases h2 : f.kind = 2
  · simp [h2, zeroF]
  by_cases h4 : f.kind = 4
  · simp [h4, zeroF]
  by_cases h5 : f.kind = 5
  · simp [h5, zeroF]
  by_cases h6 : f.kind = 6
  · simp [h6, zeroF]
  by_cases h8 : f.kind = 8
  · simp [h8, zeroF]
  by_cases h16 : f.kind = 16 ∨ f.kind = 18 ∨ f.kind = 20
  · rcases h16 with h | h | h <;> simp [h, zeroF]
  by_cases h17 : f.kind = 17
  · simp [h17, zeroF]
  by_cases h24 : f.kind = 24
  · simp [h24, zeroF]
  by_cases h25 : f.kind = 25
  · simp [h25, zeroF]
  by_cases h26 : f.kind = 26 ∨ f.kind = 27
  · rcases h26 with h | h <;> simp [h, zeroF]
  by_cases h28 : f.kind = 28
  · simp [h28, zeroF]
  · rw [if_neg h2, if_neg h4, if_neg h5, if_neg h6, if_neg h8, if_neg h16, if_neg h17, if_neg h24, if_neg h25, if_neg h26, if_neg h28]
    simp [h2, h4, h5, h6, h8, h17, h24, h25, h28, zeroF, not_or.1 h16, not_or.1 (not_or.1 h16).2, not_or.1 h26]
theorem right_data6 {f : Fr} (hr : rightB f = true) (hk : f.kind = 6 ∨ f.kind = 8 ∨ f.kind = 28) : f.data.length ≤ 1000000 := Nat.le_trans (right_data hr hk) (by omega)
theorem same4_true (w : World) (f g : Fr) (dv rv dw rw_ : Value) (hf : FrAt w f dv rv) (hg : FrAt w g dw rw_) (hn : nrmF f = nrmF g) (hrf : rightB f = true) (hrg : rightB g = true) :
    Calls Try.prog 17 #[.agg (f.cells dv rv).toArray, .agg (g.cells dw rw_).toArray] w fun e w' => e = .returned (.bool true) ∧ Below w.heap.size w w' :=
  same4_core w (nrmF f) _ _ (Lib.hid (Fr.len hf.wf)) (Lib.hid (Fr.len hg.wf)) (nrm_rg_le (right_rg hrf))
    (Lib.hid (fun u hu => copy4_any u f dv rv (hf.below hu) (right_data6 hrf) (right_rg hrf)))
    (Lib.hid (fun u hu => by rw [hn]; exact copy4_any u g dw rw_ (hg.below hu) (right_data6 hrg) (right_rg hrg)))
end Go.Proofs.Ytmbjepcbokbemaa
namespace Go.Proofs.Ytmbjepcbokbemaa
open Go.RowKit
set_option linter.unusedVariables false
set_option linter.unusedSimpArgs false

theorem encM_rep (k : Nat) (x : FX) : encM (List.replicate k x) = (List.replicate k (oneFM x.f)).flatten := by
  unfold encM
  rw [List.flatMap_def, List.map_replicate]
theorem rep_snoc {α : Type} (k : Nat) (l : List α) : (List.replicate (k + 1) l).flatten = (List.replicate k l).flatten ++ l := by
  rw [List.replicate_succ', List.flatten_append]; simp
theorem rep_len {α : Type} (k : Nat) (l : List α) : (List.replicate k l).flatten.length = k * l.length := by
  induction k with
  | zero => simp
  | succ k ih => rw [rep_snoc, List.length_append, ih, Nat.add_mul]; omega
set_option maxRecDepth 100000 in
set_option maxHeartbeats 4000000 in
theorem cu_same {x0 x1 x2 x3 x4 x5 x6 x8 x9 x10 x11 x12 x13 x14 x15 x17 x19 x20 x21 x22 x23 x24 x25 x26 x27 x28 x29 x30 x31 x32 x33 x34 x35 x36 x37 x38 x39 x40 x41 x42 x43 x44 x45 x46 x47 x48 x49 x50 x51 x52 x53 x54 x55 x56 x57 x58 x59 x60 x61 x62 x63 x64 x65 x66 x67 x68 x69 x70 x71 x72 x73 x74 x75 x76 x77 x78 x79 x80 x81 x82 x83 x84 x85 x86 x87 x88 x89 x90 x91 x92 x93 x94 x95 x96 x97 x98 x99 x100 x101 x102 x103 x104 x105 x106 x107 x108 x109 x110 x111 x112 x113 x114 x115 x116 x117 x118 x119 x120 x121 : Value} {gf zb zo n zc i : Nat} {RF RZ : List Value} (w : World) {Q : Exit → Act → World → Prop}
    (HF : Hid (w.heap[gf]? = some (.cells RF.toArray 39 (0, 0)))) (HZ : Hid (w.rangeAt zb (zo + i * 19) RZ)) (hzb : zb < w.heap.size) (HLF : Hid (RF.length = 19)) (HLZ : Hid (RZ.length = 19)) (HS : Hid (∀ u, Below w.heap.size w u → Calls Try.prog 17 #[.agg RZ.toArray, .agg RF.toArray] u fun e w' => e = .returned (.bool true) ∧ Below u.heap.size u w')) (hi : i < n) (hn : n ≤ 1000000)
    (hQp : ∀ c a d v w, Q (.panic c) (a.put d v) w → Q (.panic c) a w)
    (hQ : ∀ (y91 y92 y93 y94 y95 y96 : Value) (w' : World), Hid (Below w.heap.size w w') → Q .normal ⟨List.toArray (x0 :: x1 :: x2 :: x3 :: x4 :: x5 :: x6 :: .pointer (some ⟨gf, 0, none⟩) :: x8 :: x9 :: x10 :: x11 :: x12 :: x13 :: x14 :: x15 :: .slice (some ⟨zb, zo, none⟩) n zc :: x17 :: .int .i64 i :: x19 :: x20 :: x21 :: x22 :: x23 :: x24 :: x25 :: x26 :: x27 :: x28 :: x29 :: x30 :: x31 :: x32 :: x33 :: x34 :: x35 :: x36 :: x37 :: x38 :: x39 :: x40 :: x41 :: x42 :: x43 :: x44 :: x45 :: x46 :: x47 :: x48 :: x49 :: x50 :: x51 :: x52 :: x53 :: x54 :: x55 :: x56 :: x57 :: x58 :: x59 :: x60 :: x61 :: x62 :: x63 :: x64 :: x65 :: x66 :: x67 :: x68 :: x69 :: x70 :: x71 :: x72 :: x73 :: x74 :: x75 :: x76 :: x77 :: x78 :: x79 :: x80 :: x81 :: x82 :: x83 :: x84 :: x85 :: x86 :: x87 :: x88 :: x89 :: x90 :: y91 :: y92 :: y93 :: y94 :: y95 :: y96 :: .bool false :: x98 :: x99 :: x100 :: x101 :: x102 :: x103 :: x104 :: x105 :: x106 :: x107 :: x108 :: x109 :: x110 :: x111 :: x112 :: x113 :: x114 :: x115 :: x116 :: x117 :: x118 :: x119 :: x120 :: x121 :: []), []⟩ w') :
    Code.wp Try.prog (((Try.f6.body.bind (subRegion 18)).getD .skip)) Q ⟨List.toArray (x0 :: x1 :: x2 :: x3 :: x4 :: x5 :: x6 :: .pointer (some ⟨gf, 0, none⟩) :: x8 :: x9 :: x10 :: x11 :: x12 :: x13 :: x14 :: x15 :: .slice (some ⟨zb, zo, none⟩) n zc :: x17 :: .int .i64 i :: x19 :: x20 :: x21 :: x22 :: x23 :: x24 :: x25 :: x26 :: x27 :: x28 :: x29 :: x30 :: x31 :: x32 :: x33 :: x34 :: x35 :: x36 :: x37 :: x38 :: x39 :: x40 :: x41 :: x42 :: x43 :: x44 :: x45 :: x46 :: x47 :: x48 :: x49 :: x50 :: x51 :: x52 :: x53 :: x54 :: x55 :: x56 :: x57 :: x58 :: x59 :: x60 :: x61 :: x62 :: x63 :: x64 :: x65 :: x66 :: x67 :: x68 :: x69 :: x70 :: x71 :: x72 :: x73 :: x74 :: x75 :: x76 :: x77 :: x78 :: x79 :: x80 :: x81 :: x82 :: x83 :: x84 :: x85 :: x86 :: x87 :: x88 :: x89 :: x90 :: x91 :: x92 :: x93 :: x94 :: x95 :: x96 :: x97 :: x98 :: x99 :: x100 :: x101 :: x102 :: x103 :: x104 :: x105 :: x106 :: x107 :: x108 :: x109 :: x110 :: x111 :: x112 :: x113 :: x114 :: x115 :: x116 :: x117 :: x118 :: x119 :: x120 :: x121 :: []), []⟩ w := by
  have HK := Lib.hid hQ; have HKP := Lib.hid hQp
  clear hQ hQp
  conv => arg 2; whnf
  have HZB := Lib.hid (fun (y : World) (h : Below w.heap.size w y) => (fun j v hj => bl_cell h (p := ⟨zb, zo + i * 19 + j, none⟩) hzb (HZ.out j v hj) : y.rangeAt zb (zo + i * 19) RZ))
  have HFB := Lib.hid (fun (y : World) (h : Below w.heap.size w y) => bl_row h (lt_of_block HF.out) HF.out)
  refine wp_plan (.t 0 (.t 1 (.t 2 (.t 3 (.t 4 (.u 5 (.t 6 .done))))))) (fun y => Below w.heap.size w y) (by kernel_rfl) (by kernel_rfl) (by kernel_rfl) (fun c a d v w h => by first | (cases d <;> exact h) | exact HKP.out c a d v w h) (Below.refl _ _).drew ?_
  have HB := Lib.hid (Below.refl w.heap.size w).drew
  generalize w.drew = w1 at HB ⊢
  haveI hne : Nonempty (In (fun y => Below w.heap.size w y)) := ⟨⟨w, Below.refl _ _⟩⟩
  repeat (first | (refine plan_t_load (by rfl) (by kernel_rfl) 39 _ rfl zb (zo + i * 19) rfl RZ _ (fun y hy => HZB.out y hy) Try.underlying39 rfl (by rw [HLZ.out]; rfl) ?_; simp only [Act.put, List.setIfInBounds_toArray, List.set_cons_succ, List.set_cons_zero]) | (refine plan_t_load (by rfl) (by kernel_rfl) 39 _ rfl gf 0 rfl RF _ (fun y hy => rngL (HFB.out y hy)) Try.underlying39 rfl (by rw [HLF.out]; rfl) ?_; simp only [Act.put, List.setIfInBounds_toArray, List.set_cons_succ, List.set_cons_zero]) | (refine plan_t (by rfl) ?_; (first | go_big_quiet_skip | (go_big_quiet_want; go_big_quiet_op; go_big_quiet_on)); refine wpQuiet_nil ?_))
  refine plan_us (by rfl) (by kernel_rfl) ?_
  intro K hK
  have HCL := Lib.hid (HS.out w1 HB.out)
  go_wp2_with fail
  refine Calls.mono HCL.out ?_
  rintro e w2 ⟨rfl, hb⟩
  replace HB := Lib.hid (bl_next HB.out HB.out.size hb)
  clear hb HCL
  go_wp2_with fail
  refine ⟨HB.out, ?_⟩
  repeat (first | (refine plan_t (by rfl) ?_; (first | go_big_quiet_skip | (go_big_quiet_want; go_big_quiet_op; go_big_quiet_on)); refine wpQuiet_nil ?_))
  clear hne
  show Q _ _ _
  exact HK.out _ _ _ _ _ _ w2 HB
set_option maxRecDepth 100000 in
set_option maxHeartbeats 4000000 in
theorem cu_last {x0 x1 x2 x3 x4 x5 x6 x8 x9 x10 x11 x12 x13 x14 x15 x17 x18 x19 x20 x21 x22 x23 x24 x25 x26 x27 x28 x29 x30 x31 x32 x33 x34 x35 x36 x37 x38 x39 x40 x41 x42 x43 x44 x45 x46 x47 x48 x49 x50 x51 x52 x53 x54 x55 x56 x57 x58 x59 x60 x61 x62 x63 x64 x65 x66 x67 x68 x69 x70 x71 x72 x73 x74 x75 x76 x77 x78 x79 x80 x81 x82 x83 x84 x85 x86 x87 x88 x89 x90 x91 x92 x93 x94 x95 x96 x97 x98 x99 x100 x101 x102 x103 x104 x105 x106 x107 x108 x109 x110 x111 x112 x113 x114 x115 x116 x117 x118 x119 x120 x121 : Value} {gf zb zo n zc i : Nat} {RF RZ : List Value} (w : World) {Q : Exit → Act → World → Prop}
    (HF : Hid (w.heap[gf]? = some (.cells RF.toArray 39 (0, 0)))) (HZ : Hid (w.rangeAt zb (zo) RZ)) (hzb : zb < w.heap.size) (HLF : Hid (RF.length = 19)) (HLZ : Hid (RZ.length = 19)) (HS : Hid (∀ u, Below w.heap.size w u → Calls Try.prog 17 #[.agg RZ.toArray, .agg RF.toArray] u fun e w' => e = .returned (.bool true) ∧ Below u.heap.size u w')) (hi : 0 < n) (hn : n ≤ 1000000)
    (hQp : ∀ c a d v w, Q (.panic c) (a.put d v) w → Q (.panic c) a w)
    (hQ : ∀ (y114 y115 y116 y117 y118 y119 y120 y121 : Value) (w' : World), Hid (Below w.heap.size w w') → Q .normal ⟨List.toArray (x0 :: x1 :: x2 :: x3 :: x4 :: x5 :: .bool true :: .pointer (some ⟨gf, 0, none⟩) :: x8 :: x9 :: x10 :: x11 :: x12 :: x13 :: x14 :: x15 :: .slice (some ⟨zb, zo, none⟩) n zc :: x17 :: x18 :: x19 :: x20 :: x21 :: x22 :: x23 :: x24 :: x25 :: x26 :: x27 :: x28 :: x29 :: x30 :: x31 :: x32 :: x33 :: x34 :: x35 :: x36 :: x37 :: x38 :: x39 :: x40 :: x41 :: x42 :: x43 :: x44 :: x45 :: x46 :: x47 :: x48 :: x49 :: x50 :: x51 :: x52 :: x53 :: x54 :: x55 :: x56 :: x57 :: x58 :: x59 :: x60 :: x61 :: x62 :: x63 :: x64 :: x65 :: x66 :: x67 :: x68 :: x69 :: x70 :: x71 :: x72 :: x73 :: x74 :: x75 :: x76 :: x77 :: x78 :: x79 :: x80 :: x81 :: x82 :: x83 :: x84 :: x85 :: x86 :: x87 :: x88 :: x89 :: x90 :: x91 :: x92 :: x93 :: x94 :: x95 :: x96 :: x97 :: x98 :: x99 :: x100 :: x101 :: x102 :: x103 :: x104 :: x105 :: x106 :: x107 :: x108 :: x109 :: x110 :: x111 :: x112 :: x113 :: y114 :: y115 :: y116 :: y117 :: y118 :: y119 :: y120 :: y121 :: []), []⟩ w') :
    Code.wp Try.prog (((Try.f6.body.bind (subRegion 25)).getD .skip)) Q ⟨List.toArray (x0 :: x1 :: x2 :: x3 :: x4 :: x5 :: x6 :: .pointer (some ⟨gf, 0, none⟩) :: x8 :: x9 :: x10 :: x11 :: x12 :: x13 :: x14 :: x15 :: .slice (some ⟨zb, zo, none⟩) n zc :: x17 :: x18 :: x19 :: x20 :: x21 :: x22 :: x23 :: x24 :: x25 :: x26 :: x27 :: x28 :: x29 :: x30 :: x31 :: x32 :: x33 :: x34 :: x35 :: x36 :: x37 :: x38 :: x39 :: x40 :: x41 :: x42 :: x43 :: x44 :: x45 :: x46 :: x47 :: x48 :: x49 :: x50 :: x51 :: x52 :: x53 :: x54 :: x55 :: x56 :: x57 :: x58 :: x59 :: x60 :: x61 :: x62 :: x63 :: x64 :: x65 :: x66 :: x67 :: x68 :: x69 :: x70 :: x71 :: x72 :: x73 :: x74 :: x75 :: x76 :: x77 :: x78 :: x79 :: x80 :: x81 :: x82 :: x83 :: x84 :: x85 :: x86 :: x87 :: x88 :: x89 :: x90 :: x91 :: x92 :: x93 :: x94 :: x95 :: x96 :: x97 :: x98 :: x99 :: x100 :: x101 :: x102 :: x103 :: x104 :: x105 :: x106 :: x107 :: x108 :: x109 :: x110 :: x111 :: x112 :: x113 :: x114 :: x115 :: x116 :: x117 :: x118 :: x119 :: x120 :: x121 :: []), []⟩ w := by
  have HK := Lib.hid hQ; have HKP := Lib.hid hQp
  clear hQ hQp
  conv => arg 2; whnf
  have HZB := Lib.hid (fun (y : World) (h : Below w.heap.size w y) => (fun j v hj => bl_cell h (p := ⟨zb, zo + j, none⟩) hzb (HZ.out j v hj) : y.rangeAt zb (zo) RZ))
  have HFB := Lib.hid (fun (y : World) (h : Below w.heap.size w y) => bl_row h (lt_of_block HF.out) HF.out)
  refine wp_plan (.t 0 (.t 1 (.t 2 (.t 3 (.u 4 (.t 5 (.u 6 (.t 7 (.t 8 .done))))))))) (fun y => Below w.heap.size w y) (by kernel_rfl) (by kernel_rfl) (by kernel_rfl) (fun c a d v w h => by first | (cases d <;> exact h) | exact HKP.out c a d v w h) (Below.refl _ _).drew ?_
  have HB := Lib.hid (Below.refl w.heap.size w).drew
  generalize w.drew = w1 at HB ⊢
  haveI hne : Nonempty (In (fun y => Below w.heap.size w y)) := ⟨⟨w, Below.refl _ _⟩⟩
  repeat (first | (refine plan_t_load (by rfl) (by kernel_rfl) 39 _ rfl zb (zo) rfl RZ _ (fun y hy => HZB.out y hy) Try.underlying39 rfl (by rw [HLZ.out]; rfl) ?_; simp only [Act.put, List.setIfInBounds_toArray, List.set_cons_succ, List.set_cons_zero]) | (refine plan_t_load (by rfl) (by kernel_rfl) 39 _ rfl gf 0 rfl RF _ (fun y hy => rngL (HFB.out y hy)) Try.underlying39 rfl (by rw [HLF.out]; rfl) ?_; simp only [Act.put, List.setIfInBounds_toArray, List.set_cons_succ, List.set_cons_zero]) | (refine plan_t (by rfl) ?_; (first | go_big_quiet_skip | (go_big_quiet_want; go_big_quiet_op; go_big_quiet_on)); refine wpQuiet_nil ?_))
  refine plan_us (by rfl) (by kernel_rfl) ?_
  intro K hK
  have HCL := Lib.hid (HS.out w1 HB.out)
  go_wp2_with fail
  refine Calls.mono HCL.out ?_
  rintro e w2 ⟨rfl, hb⟩
  replace HB := Lib.hid (bl_next HB.out HB.out.size hb)
  clear hb HCL
  go_wp2_with fail
  refine ⟨HB.out, ?_⟩
  repeat (first | (refine plan_t (by rfl) ?_; (first | go_big_quiet_skip | (go_big_quiet_want; go_big_quiet_op; go_big_quiet_on)); refine wpQuiet_nil ?_))
  refine plan_us (by rfl) (by kernel_rfl) ?_
  intro K hK
  have HKN := Lib.hid (known4_any w2)
  go_wp2_with fail
  refine Calls.mono HKN.out ?_
  rintro e w3 ⟨rfl, hb⟩
  replace HB := Lib.hid (bl_next HB.out HB.out.size hb)
  clear hb HKN
  go_wp2_with fail
  refine ⟨HB.out, ?_⟩
  repeat (first | (refine plan_t (by rfl) ?_; (first | go_big_quiet_skip | (go_big_quiet_want; go_big_quiet_op; go_big_quiet_on)); refine wpQuiet_nil ?_))
  clear hne
  show Q _ _ _
  exact HK.out _ _ _ _ _ _ _ _ w3 HB
end Go.Proofs.Ytmbjepcbokbemaa
namespace Go.Proofs.Ytmbjepcbokbemaa
open Go.RowKit Go.WideShapes Go.ChangeShapes
set_option linter.unusedVariables false
set_option linter.unusedSimpArgs false

theorem nrm_data_le {f : Fr} (hr : rightB f = true) : (nrmF f).data.length ≤ 1000000 := by
  unfold nrmF
  by_cases h2 : f.kind = 2
  · simp [h2, zeroF]
  by_cases h4 : f.kind = 4
  · simp [h4, zeroF]
  by_cases h5 : f.kind = 5
  · simp [h5, zeroF]
  by_cases h6 : f.kind = 6
  · have h9 := right_data6 hr (by omega); simpa [h6, zeroF] using h9
  by_cases h8 : f.kind = 8
  · have h9 := right_data6 hr (by omega); simpa [h8, zeroF] using h9
  by_cases h17 : f.kind = 17
  · simp [h17, zeroF]
  by_cases h24 : f.kind = 24
  · simp [h24, zeroF]
  by_cases h25 : f.kind = 25
  · simp [h25, zeroF]
  by_cases h28 : f.kind = 28
  · have h9 := right_data6 hr (by omega); simpa [h28, zeroF] using h9
  by_cases h16 : f.kind = 16 ∨ f.kind = 18 ∨ f.kind = 20
  · rcases h16 with h | h | h <;> simp [h, zeroF]
  by_cases h26 : f.kind = 26 ∨ f.kind = 27
  · rcases h26 with h | h <;> simp [h, zeroF]
  · rw [if_neg h2, if_neg h4, if_neg h5, if_neg h6, if_neg h8, if_neg h16, if_neg h17, if_neg h24, if_neg h25, if_neg h26, if_neg h28]; simp [zeroF]
theorem wf_u8q {n : Int} (h0 : 0 ≤ n) (h1 : n ≤ 255) : (Lit.int .u8 n).wf = true := by
  simp [Lit.wf, IntKind.min, IntKind.max, IntKind.signed, IntKind.bits]; omega
theorem FrAp.of {w : World} {f : Fr} {dv rv : Value} (h : FrAt w f dv rv) {o : Option Nat} (ho : ∀ k, o = some k → w.heap.size ≤ k) : FrAp o dv rv := by
  cases o with
  | none => exact ⟨fun a n c _ _ e => (by cases e), fun a n c _ _ e => (by cases e)⟩
  | some k => exact h.apart (ho k rfl)
def CuI (wA : World) (k bl : Nat) (bs : List Int) (s14 s15 : Value) (wr : World) : Prop := ∃ i : Nat, s15 = .int .i64 i ∧ i ≤ k ∧ Hid (Below wA.heap.size wA wr) ∧ Hid (wr.ownsRow wA.heap.size 5 1 s14 (i * bl) ((List.replicate i bs).flatten.map (Value.int .u8)))
theorem rep_wf {k : Nat} {bs : List Int} (h : ∀ x ∈ bs, (Lit.int .u8 x).wf = true) : ∀ x ∈ (List.replicate k bs).flatten, (Lit.int .u8 x).wf = true := by
  intro x hx
  obtain ⟨l, hl, hx⟩ := List.mem_flatten.1 hx
  rw [(List.mem_replicate.1 hl).2] at hx
  exact h x hx
theorem all_rep {w : World} {f : Fr} {dv rv : Value} (h : FrAt w f dv rv) (hr : rightB f = true) (k : Nat) : allB (List.replicate k (oneFM f)).flatten = some (List.replicate k (nrmF f)) := by
  have h9 := all_back (List.replicate k (⟨f, dv, rv⟩ : FX)) (w := w) (fun x hx => by rw [(List.mem_replicate.1 hx).2]; exact h) (fun x hx => by rw [(List.mem_replicate.1 hx).2]; exact hr)
  rw [encM_rep, List.map_replicate] at h9
  exact h9
set_option maxRecDepth 100000 in
set_option maxHeartbeats 8000000 in
theorem cuts4_any (w : World) (x : KfV) (hx : x.At w) (cut times : Int) (hc : -9223372036854775808 ≤ cut ∧ cut ≤ 9223372036854775807) (ht : -9223372036854775808 ≤ times ∧ times ≤ 9223372036854775807) :
    Calls Try.prog 6 #[.agg x.cells.toArray, .int .i64 cut, .int .i64 times] w fun e w' => e = .returned (.bool true) ∧ Below w.heap.size w w' := by
  have HKX := Lib.hid hx
  clear hx
  go_enter Try.func6, Try.ntmps6
  go_upto_region 1 with fail
  change Code.wp _ _ _ _ (w.alloc (.cells x.cells.toArray 55))
  have HB := Lib.hid (Below.refl w.heap.size w)
  have hb := (Below.refl w.heap.size w).alloc (Nat.le_refl _) (.cells x.cells.toArray 55)
  replace HB := Lib.hid (bl_next HB.out HB.out.size hb)
  replace HKX := Lib.hid (HKX.out.below hb)
  have HX := Lib.hid (heap_alloc_new w (.cells x.cells.toArray 55))
  clear hb
  generalize w.alloc (.cells x.cells.toArray 55) = w1 at HB HKX HX ⊢
  obtain ⟨gx, hg⟩ : ∃ g, w.heap.size = g := ⟨_, rfl⟩
  rw [hg] at HX ⊢
  clear hg
  have HKF := Lib.hid (kframe_any w1 x.xk x.xa x.xb x.xc x.xn x.xf x.da x.ra x.dn x.dc x.rn x.rc x.data x.rows HKX.out.d HKX.out.dc.1 HKX.out.dc.2 HKX.out.r HKX.out.rc HKX.out.xk HKX.out.xa HKX.out.xb HKX.out.xc HKX.out.xn)
  go_wp2_with (first | (refine wpList_load_mid rfl 55 _ rfl gx 0 rfl x.cells _ (rngL HX.out) Try.underlying55 rfl rfl ?_) | fail)
  refine Calls.mono HKF.out ?_
  rintro e w2 ⟨f, dv, rv, rfl, hfr, hrt, hb⟩
  replace HB := Lib.hid (bl_next HB.out HB.out.size hb)
  have HFR := Lib.hid hfr; have HRT := Lib.hid hrt; have HOK := Lib.hid hfr.ok
  clear hb hfr hrt HKF HX HKX
  have HRF : Hid ((f.cells dv rv).length = 19) := Lib.hid (Fr.len HFR.out.wf)
  have HRO : Hid (∀ v ∈ f.cells dv rv, v.oneCell' = true) := Lib.hid (Fr.one HFR.out)
  obtain ⟨RF, hRF⟩ : ∃ R, f.cells dv rv = R := ⟨_, rfl⟩
  have HRE := Lib.hid hRF
  rw [hRF] at HRF HRO ⊢
  clear hRF
  go_upto_region 2 with (first | (refine wpList_store_row rfl 39 _ _ rfl _ rfl RF ([.int .i64 0, .int .u64 0, .int .u64 0, .slice none 0 0, .bool false, .int .u64 0, .int .u64 0, .int .u64 0, .int .u64 0, .int .u64 0, .slice none 0 0, .int .u8 0, .int .u8 0, .int .u8 0, .int .u8 0, .int .u8 0, .int .u8 0, .int .u8 0, .int .u8 0] : List Value) rfl 39 (heap_alloc_new _ _) (by rw [HRF.out]; rfl) (by rw [HRF.out]; rfl) HRO.out ?_; intro w3 hr hg) | fail)
  have hal := (Below.refl w2.heap.size w2).alloc (Nat.le_refl _) (.cells (([.int .i64 0, .int .u64 0, .int .u64 0, .slice none 0 0, .bool false, .int .u64 0, .int .u64 0, .int .u64 0, .int .u64 0, .int .u64 0, .slice none 0 0, .int .u8 0, .int .u8 0, .int .u8 0, .int .u8 0, .int .u8 0, .int .u8 0, .int .u8 0, .int .u8 0] : List Value)).toArray 39)
  have hb : Below w2.heap.size w2 w3 := hal.grown hg hal.size (by intro k hk; injection hk with hk; omega)
  replace HB := Lib.hid (bl_next HB.out HB.out.size hb)
  replace HFR := Lib.hid (HFR.out.below hb)
  have HF := Lib.hid (hr)
  clear hr hg hal hb
  obtain ⟨gf, hg⟩ : ∃ g, w2.heap.size = g := ⟨_, rfl⟩
  rw [hg] at HF ⊢
  clear hg
  have HEN := Lib.hid (encode4_any _ _ 1 1 _ (FrsAt.one HFR.out) (by omega) ⟨Nat.le_refl _, by omega⟩)
  go_wp2_with (first | (refine wpList_load_mid rfl 39 _ rfl gf 0 rfl RF _ (rngL HF.out) Try.underlying39 rfl (by rw [HRF.out]; rfl) ?_) | (refine wpList_build_rk frT rfl _ rfl ⟨f, dv, rv⟩ HOK.out (by show _ = Value.agg (f.cells dv rv).toArray; rw [HRE.out]; rfl) ?_) | fail)
  refine Calls.mono HEN.out ?_
  rintro e w4 ⟨hb4, hr⟩
  have hb : Below w3.heap.size w3 w4 := bl_next ((Below.refl w3.heap.size w3).alloc (Nat.le_refl _) (.cells (frK.flat [(⟨f, dv, rv⟩ : FX)]).toArray 39)) ((Below.refl w3.heap.size w3).alloc (Nat.le_refl _) (.cells (frK.flat [(⟨f, dv, rv⟩ : FX)]).toArray 39)).size hb4
  clear hb4 HEN
  replace HB := Lib.hid (bl_next HB.out HB.out.size hb)
  replace HFR := Lib.hid (HFR.out.below hb)
  replace HF := Lib.hid (bl_row hb (lt_of_block HF.out) HF.out)
  clear hb
  rcases hr with ⟨_, eb, ec, rfl, h1, h2, h3, _⟩ | ⟨h9, _⟩
  rotate_left
  · simp [HRT.out] at h9
  have hbs : encM [(⟨f, dv, rv⟩ : FX)] = oneFM f := encM_one _
  rw [hbs] at h1 h3 ⊢
  have hp1 := one_pos f HRT.out
  have hp2 := one_le HRT.out HFR.out.wf
  have HWB := Lib.hid (one_wf HFR.out HRT.out)
  have hcut := fun (p s : List Int) (h : p ++ s = oneFM f) (hs : s ≠ []) => dec_cut HRT.out HFR.out.wf HFR.out.rgok h hs
  have HCUT := Lib.hid hcut
  have HREP := Lib.hid (fun k => all_rep HFR.out HRT.out k)
  have hsz := size4_any w4 f dv rv HFR.out
  have hse : sizeF f = (oneFM f).length := by unfold sizeF; rw [if_pos HRT.out]
  rw [hse, HRE.out] at hsz
  clear hcut hbs hse
  obtain ⟨bs, hbs⟩ : ∃ q, oneFM f = q := ⟨_, rfl⟩
  rw [hbs] at h1 h3 hp1 hp2 hsz HWB ⊢
  simp only [hbs] at HCUT HREP
  obtain ⟨bl, hbl⟩ : ∃ q, bs.length = q := ⟨_, rfl⟩
  have HBL := Lib.hid hbl
  rw [hbl] at h1 h3 hp1 hp2 hsz ⊢
  have HI := Lib.hid h3
  have HSZ := Lib.hid hsz
  clear h3 hsz hbs hbl
  obtain ⟨bb, bo, rfl⟩ : ∃ bb bo, eb = some ⟨bb, bo, none⟩ := by
    rcases HI.out.2.2 with h9 | ⟨b, off, h9, _⟩
    · omega
    · exact ⟨b, off, h9⟩
  have q0 : ((bl : Int) == 0) = false := by rw [beq_eq_false_iff_ne]; omega
  have q1 : ((bl : Int) != (bl : Int)) = false := by simp
  go_wp2_with (first | (refine wpList_load_g 39 _ rfl (by kernel_rfl) gf 0 rfl RF _ (rngL HF.out) Try.underlying39 rfl (by rw [HRF.out]; rfl) ?_) | fail)
  refine Calls.mono HSZ.out ?_
  rintro e w5 ⟨rfl, hb⟩
  replace HB := Lib.hid (bl_next HB.out HB.out.size hb)
  replace HFR := Lib.hid (HFR.out.below hb)
  replace HF := Lib.hid (bl_row hb (lt_of_block HF.out) HF.out)
  replace HI := Lib.hid (HI.out.below hb)
  clear hb HSZ
  have hwi := within_in cut 0 ((bl : Int) - 1) (by omega)
  have HWI := Lib.hid (within_any w5 cut 0 ((bl : Int) - 1) (by omega) (by omega) (by omega) hc)
  obtain ⟨m, hm⟩ : ∃ m : Nat, within cut 0 ((bl : Int) - 1) = m := ⟨(within cut 0 ((bl : Int) - 1)).toNat, by omega⟩
  rw [hm] at hwi HWI
  obtain ⟨hw1, hw2⟩ := hwi
  have hmb : m < bl := by omega
  clear hm hw1 hw2
  go_wp2_with fail
  refine Calls.mono HWI.out ?_
  rintro e wq ⟨rfl, hwq⟩
  subst hwq
  clear HWI
  have hmc : m ≤ ec := by omega
  have HDC := Lib.hid (dec4_any w5 (some ⟨bb, bo, none⟩) m ec _ (HI.out.pre m (by omega)) (by omega) ⟨hmc, h2⟩)
  have hdn : decF (bs.take m) = none := HCUT.out (bs.take m) (bs.drop m) (List.take_append_drop _ _) (by intro e; have := congrArg List.length e; rw [List.length_drop, HBL.out] at this; simp at this; omega)
  have HDN := Lib.hid hdn
  clear hdn
  go_wp2_with fail
  refine Calls.mono HDC.out ?_
  rintro e w6 ⟨hb, hr⟩
  replace HB := Lib.hid (bl_next HB.out HB.out.size hb)
  replace HFR := Lib.hid (HFR.out.below hb)
  replace HF := Lib.hid (bl_row hb (lt_of_block HF.out) HF.out)
  replace HI := Lib.hid (HI.out.below hb)
  clear hb HDC
  rcases hr with ⟨_, rfl⟩ | ⟨f9, r9, d9, v9, h9, _⟩
  rotate_left
  · rw [HDN.out] at h9; cases h9
  obtain ⟨RZ, hRZ⟩ : ∃ R, ((zeroF 0).cells (.slice none 0 0) (.slice none 0 0)) = R := ⟨_, rfl⟩
  have HRZ : Hid (RZ.length = 19) := Lib.hid (by rw [← hRZ]; rfl)
  have HZO : Hid (∀ v ∈ RZ, v.oneCell' = true) := Lib.hid (by rw [← hRZ]; exact one19 rfl rfl)
  rw [hRZ]
  clear hRZ HDN
  go_upto_region 6 with (first | (refine wpList_store_row rfl 39 _ _ rfl _ rfl RZ ([.int .i64 0, .int .u64 0, .int .u64 0, .slice none 0 0, .bool false, .int .u64 0, .int .u64 0, .int .u64 0, .int .u64 0, .int .u64 0, .slice none 0 0, .int .u8 0, .int .u8 0, .int .u8 0, .int .u8 0, .int .u8 0, .int .u8 0, .int .u8 0, .int .u8 0] : List Value) rfl 39 (heap_alloc_new _ _) (by rw [HRZ.out]; rfl) (by rw [HRZ.out]; rfl) HZO.out ?_; intro w7 hr hg) | fail)
  have hal := (Below.refl w6.heap.size w6).alloc (Nat.le_refl _) (.cells (([.int .i64 0, .int .u64 0, .int .u64 0, .slice none 0 0, .bool false, .int .u64 0, .int .u64 0, .int .u64 0, .int .u64 0, .int .u64 0, .slice none 0 0, .int .u8 0, .int .u8 0, .int .u8 0, .int .u8 0, .int .u8 0, .int .u8 0, .int .u8 0, .int .u8 0] : List Value)).toArray 39)
  have hb : Below w6.heap.size w6 w7 := hal.grown hg hal.size (by intro k hk; injection hk with hk; omega)
  replace HB := Lib.hid (bl_next HB.out HB.out.size hb)
  replace HFR := Lib.hid (HFR.out.below hb)
  replace HF := Lib.hid (bl_row hb (lt_of_block HF.out) HF.out)
  replace HI := Lib.hid (HI.out.below hb)
  have HZ0 := Lib.hid (hr)
  clear hr hg hal hb
  obtain ⟨gz, hg⟩ : ∃ g, w6.heap.size = g := ⟨_, rfl⟩
  rw [hg] at HZ0 ⊢
  clear hg
  clear HZ0 HZO HRZ
  have hwi := within_in times 1 5 (by omega)
  have HWI := Lib.hid (within_any w7 times 1 5 (by omega) (by omega) (by omega) ht)
  obtain ⟨k, hk⟩ : ∃ k : Nat, within times 1 5 = k := ⟨(within times 1 5).toNat, by omega⟩
  rw [hk] at hwi HWI
  obtain ⟨hk1, hk5⟩ := hwi
  clear hk
  go_wp2_with fail
  refine Calls.mono HWI.out ?_
  rintro e wq ⟨rfl, hwq⟩
  subst hwq
  clear HWI
  go_wp2_with fail
  skip
  go_loopw [14, 15] (fun s14 s15 wr => CuI w7 k bl bs s14 s15 wr) (fun s14 s15 _ => k - (intOf s15).toNat)
  case atStart => exact ⟨0, rfl, by omega, Lib.hid (Below.refl _ _), Lib.hid (by rw [Nat.zero_mul]; exact World.ownsRow_nil _ _ _ _)⟩
  case round =>
    obtain ⟨i, rfl, hi, HBR, HO⟩ := hrel
    generalize u14 = v at HO ⊢
    by_cases hlt : i < k
    · skip
      have HIR := Lib.hid (HI.out.below HBR.out)
      have hib : i * bl + bl ≤ 140737488355328 := by have : i * bl ≤ 5 * 700 := Nat.mul_le_mul (by omega) hp2; omega
      have HSB := Lib.hid HBR.out.size
      obtain ⟨va, vc, rfl, hvc⟩ := own_slice HO.out
      go_wp2_with (first | (at_builtin; refine wpList_append_bytes rfl _ _ rfl w7.heap.size (i * bl) (.slice va (i * bl) vc) (List.replicate i bs).flatten rfl HO.out _ _ _ _ rfl HIR.out hib HSB.out ?_; intro v' w9 hown hgrow; have HO9 := Lib.hid hown; have HG9 := Lib.hid hgrow; clear hown hgrow) | fail)
      have HB9 : Hid (Below w7.heap.size w7 w9) := Lib.hid (HBR.out.grown HG9.out HSB.out (own_base HO.out))
      have HN : Hid (w9.ownsRow w7.heap.size 5 1 v' ((i + 1) * bl) ((List.replicate (i + 1) bs).flatten.map (Value.int .u8))) := Lib.hid (by rw [rep_snoc, Nat.add_mul, Nat.one_mul]; exact HO9.out)
      clear HO HO9 HG9 HBR HIR
      go_roundw
      case rel => first | exact ⟨i + 1, by go_num, by omega, HB9, HN⟩ | (refine ⟨_, _, _, ?_, rfl, rfl, rfl⟩; exact ⟨i + 1, by go_num, by omega, HB9, HN⟩)
      case measure => simp [intOf]; omega
    · skip
      obtain rfl : i = k := by omega
      obtain ⟨mb, mc, rfl, hmc2, hmi, _⟩ := ints_of_own HO.out (rep_wf HWB.out)
      have hmm := own_capm HO.out
      replace hmm := hmm _ _ _ rfl
      have HB8 := Lib.hid (bl_next HB.out HB.out.size HBR.out)
      have HF8 := Lib.hid (bl_row HBR.out (lt_of_block HF.out) HF.out)
      have HFR8 := Lib.hid (HFR.out.below HBR.out)
      have hkb : i * bl ≤ 100000 := by have : i * bl ≤ 5 * 700 := Nat.mul_le_mul (by omega) hp2; omega
      have HAL := Lib.hid (all4_any wr mb (i * bl) mc _ hmi hkb ⟨hmc2, by omega⟩)
      clear HBR HO hmi hmm HB HF HFR
      go_wp2_with fail
      (try simp only [Exit.inBlock, Exit.then])
      go_wp2_with fail
      refine Calls.mono HAL.out ?_
      rintro e wa ⟨hb, hr⟩
      have HA9 := Lib.hid (HREP.out i)
      have HB9 := Lib.hid (bl_next HB8.out HB8.out.size hb)
      have HF9 := Lib.hid (bl_row hb (lt_of_block HF8.out) HF8.out)
      have HFR9 := Lib.hid (HFR8.out.below hb)
      clear hb HB8 HF8 HFR8 HAL
      rcases hr with ⟨h9, rfl⟩ | ⟨_, Z, za, zc, hz, rfl, ⟨hz1, hz2⟩, hzf⟩
      · exfalso
        rcases h9 with h9 | h9
        · have := congrArg List.length h9; rw [rep_len, HBL.out] at this; simp at this; have : 0 < i * bl := Nat.mul_pos (by omega) (by omega); omega
        · rw [HA9.out] at h9; cases h9
      rw [HA9.out] at hz; injection hz with hz
      have hzl : Z.length = i := by have := congrArg List.length hz; rw [List.length_replicate, List.length_map] at this; exact this.symm
      have HZN : Hid (∀ z ∈ Z, z.f = nrmF f) := Lib.hid (fun z hz9 => by have : z.f ∈ Z.map FX.f := List.mem_map_of_mem hz9; rw [← hz] at this; exact (List.mem_replicate.1 this).2)
      rw [hzl] at hzf hz1 ⊢
      have HZF := Lib.hid hzf
      clear hz hzl hzf hz1 hz2
      have q2 : ((i : Int) != (i : Int)) = false := by simp
      go_wp2_with fail
      have hrn := (body_back HRT.out HFR9.out.wf HFR9.out.rgok []).2
      have HRN := Lib.hid hrn
      clear hrn
      go_loopw [18] (fun s18 wr => ∃ j : Nat, s18 = .int .i64 j ∧ j ≤ i ∧ Hid (Below wa.heap.size wa wr)) (fun s _ => i - (intOf s).toNat)
      case atStart => exact ⟨0, rfl, by omega, Lib.hid (Below.refl _ _)⟩
      case round =>
        obtain ⟨j, rfl, hj, HBR⟩ := hrel
        by_cases hlj : j < i
        · skip
          have HZR := Lib.hid (HZF.out.below HBR.out)
          obtain ⟨zb, zo, z, rfl, hzb, hz, hok, hrg⟩ := HZR.out.row.at hlj
          have hzm := List.mem_of_getElem? hz
          have HFZ := Lib.hid (HZR.out.fr z hzm)
          have HZE := Lib.hid (HZN.out z hzm)
          have HRG : Hid (wr.rangeAt zb (zo + j * 19) (z.f.cells z.dv z.rv)) := Lib.hid hrg
          have HLZ : Hid ((z.f.cells z.dv z.rv).length = 19) := Lib.hid (Fr.len hok.1)
          have HFW := Lib.hid (bl_row HBR.out (lt_of_block HF9.out) HF9.out)
          have HFRW := Lib.hid (HFR9.out.below HBR.out)
          have HSS : Hid (∀ u, Below wr.heap.size wr u → Calls Try.prog 17 #[.agg (z.f.cells z.dv z.rv).toArray, .agg RF.toArray] u fun e w' => e = .returned (.bool true) ∧ Below u.heap.size u w') := Lib.hid (fun u hu => by rw [← HRE.out]; exact same4_true u z.f f z.dv z.rv dv rv (HFZ.out.below hu) (HFRW.out.below hu) (by rw [HZE.out, nrm_nrm]) (by rw [HZE.out]; exact HRN.out) HRT.out)
          obtain ⟨RZ9, hRZ⟩ : ∃ R, z.f.cells z.dv z.rv = R := ⟨_, rfl⟩
          rw [hRZ] at HRG HLZ
          simp only [hRZ] at HSS
          clear hRZ hz hok hrg hzm
          go_upto_region 18 with fail
          refine cu_same _ HFW HRG hzb HRF HLZ HSS hlj (by omega) (fun c a d v w h => by cases d <;> exact h) ?_
          rintro _ _ _ _ _ _ w18 HB18
          replace HBR := Lib.hid (bl_next HBR.out HBR.out.size HB18.out)
          clear HB18 HSS HRG HLZ HFW HFRW HFZ HZR hzb
          go_wp2_with fail
          go_roundw
          case rel => exact ⟨j + 1, by go_num, by omega, HBR⟩
          case measure => simp [intOf]; omega
        · skip
          have HB10 := Lib.hid (bl_next HB9.out HB9.out.size HBR.out)
          have HF10 := Lib.hid (bl_row HBR.out (lt_of_block HF9.out) HF9.out)
          have HFR10 := Lib.hid (HFR9.out.below HBR.out)
          have HZ10 := Lib.hid (HZF.out.below HBR.out)
          clear HBR HB9 HF9 HFR9 HZF
          generalize wr = wy at HB10 HF10 HFR10 HZ10 ⊢
          have hcp := copyD_any wy f dv rv HFR10.out (right_data6 HRT.out) (right_rg HRT.out)
          rw [HRE.out] at hcp
          have HCP := Lib.hid hcp
          clear hcp
          go_wp2_with (first | (refine wpList_load_mid rfl 39 _ rfl gf 0 rfl RF _ (rngL HF10.out) Try.underlying39 rfl (by rw [HRF.out]; rfl) ?_) | fail)
          refine Calls.mono HCP.out ?_
          rintro e wc ⟨d', r', rfl, hfc, hlc, hb, nn, how⟩
          have HWW : Hid (w.heap.size ≤ wy.heap.size) := Lib.hid HB10.out.size
          have HB11 := Lib.hid (bl_next HB10.out HB10.out.size hb)
          have HFL : Hid (gf < wy.heap.size) := Lib.hid (lt_of_block HF10.out)
          have HF11 := Lib.hid (bl_row hb (lt_of_block HF10.out) HF10.out)
          have HFRW := HFR10
          replace HFR10 := Lib.hid (HFR10.out.below hb)
          have HZW := HZ10
          replace HZ10 := Lib.hid (HZ10.out.below hb)
          have HOW := Lib.hid how; have HLC := Lib.hid hlc; have HFC := Lib.hid hfc
          obtain ⟨ca, cc, rfl, hc1, hc2⟩ := sl_own how
          have HBW := Lib.hid hb
          clear hb hfc hlc how HCP HB10 HF10
          have HRC : Hid (((nrmF f).cells (.slice ca nn cc) r').length = 19) := Lib.hid (Fr.len HFC.out.wf)
          have HCO : Hid (∀ v ∈ (nrmF f).cells (.slice ca nn cc) r', v.oneCell' = true) := Lib.hid (Fr.one HFC.out)
          have HC3 : Hid (((nrmF f).cells (.slice ca nn cc) r')[3]? = some (.slice ca nn cc)) := Lib.hid rfl
          obtain ⟨RC, hRC⟩ : ∃ R, (nrmF f).cells (.slice ca nn cc) r' = R := ⟨_, rfl⟩
          rw [hRC] at HRC HCO HC3 ⊢
          clear hRC
          have HOWL := Lib.hid (fun k (hk : (Value.slice ca nn cc).ownBlock = some k) => (⟨own_base HOW.out k hk, (HOW.out.lt k hk).2⟩ : wy.heap.size ≤ k ∧ k < wc.heap.size))
          go_upto_region 21 with (first | (refine wpList_store_row rfl 39 _ _ rfl _ rfl RC ([.int .i64 0, .int .u64 0, .int .u64 0, .slice none 0 0, .bool false, .int .u64 0, .int .u64 0, .int .u64 0, .int .u64 0, .int .u64 0, .slice none 0 0, .int .u8 0, .int .u8 0, .int .u8 0, .int .u8 0, .int .u8 0, .int .u8 0, .int .u8 0, .int .u8 0] : List Value) rfl 39 (heap_alloc_new _ _) (by rw [HRC.out]; rfl) (by rw [HRC.out]; rfl) HCO.out ?_; intro w21 hr hg) | fail)
          have hal := (Below.refl wc.heap.size wc).alloc (Nat.le_refl _) (.cells (([.int .i64 0, .int .u64 0, .int .u64 0, .slice none 0 0, .bool false, .int .u64 0, .int .u64 0, .int .u64 0, .int .u64 0, .int .u64 0, .slice none 0 0, .int .u8 0, .int .u8 0, .int .u8 0, .int .u8 0, .int .u8 0, .int .u8 0, .int .u8 0, .int .u8 0] : List Value)).toArray 39)
          have hb : Below wc.heap.size wc w21 := hal.grown hg hal.size (by intro k hk; injection hk with hk; omega)
          replace HB11 := Lib.hid (bl_next HB11.out HB11.out.size hb)
          replace HF11 := Lib.hid (bl_row hb (lt_of_block HF11.out) HF11.out)
          replace HOW := Lib.hid (own_below HOW.out hb)
          replace HFR10 := Lib.hid (HFR10.out.below hb)
          replace HZ10 := Lib.hid (HZ10.out.below hb)
          have HGC := Lib.hid (hr)
          clear hr hg hal hb
          obtain ⟨gc, hg⟩ : ∃ g, wc.heap.size = g := ⟨_, rfl⟩
          have HGCE := Lib.hid hg
          rw [hg] at HGC ⊢
          clear hg
          have HNNB : Hid (nn ≤ 1000000) := Lib.hid (by have h9 := HOW.out.1; rw [List.length_map] at h9; have := right_data6 (f := nrmF f) HRN.out; have h8 := nrm_data_le HRT.out; omega)
          go_wp2_with fail
          go_loopw [20] (fun s20 wr => ∃ j : Nat, s20 = .int .i64 j ∧ j ≤ nn ∧ Hid (w21.grownBy wr (Value.slice ca nn cc).ownBlock) ∧ Hid (∃ ys : List Int, ys.length = nn ∧ (∀ y ∈ ys, (Lit.int .u8 y).wf = true) ∧ wr.ownsRow wy.heap.size 5 1 (.slice ca nn cc) nn (ys.map (Value.int .u8)))) (fun s _ => nn - (intOf s).toNat)
          case atStart => exact ⟨0, rfl, by omega, Lib.hid (grown_refl _ _), Lib.hid ⟨_, by have h9 := HOW.out.1; rw [List.length_map] at h9; omega, HFC.out.dwf, HOW.out⟩⟩
          case round =>
            obtain ⟨j, rfl, hj, HGR, HOR⟩ := hrel
            have HRW := Lib.hid (grown_row HGR.out (fun e => by have h9 := HOWL.out gc e.symm; have := HGCE.out; omega) HGC.out)
            have c3 := cell_row HRW.out 3 _ HC3.out
            by_cases hlj : j < nn
            · skip
              obtain ⟨ys, hy1, hy2, hyo⟩ := HOR.out
              have HYO := Lib.hid hyo; have HY2 := Lib.hid hy2; have HY1 := Lib.hid hy1
              clear hy2 hyo HOR
              obtain ⟨g, hca, hg1, _, hfz, hcl, _⟩ := own_set HYO.out (Below.refl _ _) hlj (.int .u8 0) rfl
              subst hca
              obtain ⟨y, hy⟩ : ∃ y, ys[j]? = some y := ⟨ys[j]'(by rw [hy1]; exact hlj), List.getElem?_eq_getElem _⟩
              have cy := hcl j (.int .u8 y) (by rw [List.getElem?_map, hy]; rfl)
              have hyw := HY2.out y (List.mem_of_getElem? hy)
              obtain ⟨y1, y2⟩ := bounds_u8 hyw
              clear hcl hy hyw hy1 hg1
              by_cases h255 : y = 255
              · skip
                subst h255
                go_wp2_with fail
                clear cy hfz c3
                have HN : Hid (∃ ys : List Int, ys.length = nn ∧ (∀ y ∈ ys, (Lit.int .u8 y).wf = true) ∧ (wr.setCell ⟨g, j, none⟩ (.int .u8 0)).ownsRow wy.heap.size 5 1 (.slice (some ⟨g, 0, none⟩) nn cc) nn (ys.map (Value.int .u8))) := Lib.hid ⟨ys.set j 0, by rw [List.length_set, HY1.out], fun z hz => (by rcases List.mem_or_eq_of_mem_set hz with h9 | h9; exact HY2.out z h9; rw [h9]; exact wf_u8q (by omega) (by omega)), by rw [List.map_set]; exact own_put HYO.out hlj _ rfl⟩
                have HG9 : Hid (w21.grownBy (wr.setCell ⟨g, j, none⟩ (.int .u8 0)) (Value.slice (some ⟨g, 0, none⟩) nn cc).ownBlock) := Lib.hid (grown_trans HGR.out (grown_setCell wr g j (.int .u8 0)))
                clear HGR HYO
                generalize wr.setCell ⟨g, j, none⟩ (.int .u8 0) = wn at HN HG9 ⊢
                go_roundw
                case rel => exact ⟨j + 1, by go_num, by omega, HG9, HN⟩
                case measure => simp [intOf]; omega
              · skip
                have y3 : y ≤ 254 := by omega
                clear h255
                go_wp2_with fail
                clear cy hfz c3
                have HN : Hid (∃ ys : List Int, ys.length = nn ∧ (∀ y ∈ ys, (Lit.int .u8 y).wf = true) ∧ (wr.setCell ⟨g, j, none⟩ (.int .u8 (y + 1))).ownsRow wy.heap.size 5 1 (.slice (some ⟨g, 0, none⟩) nn cc) nn (ys.map (Value.int .u8))) := Lib.hid ⟨ys.set j (y + 1), by rw [List.length_set, HY1.out], fun z hz => (by rcases List.mem_or_eq_of_mem_set hz with h9 | h9; exact HY2.out z h9; rw [h9]; exact wf_u8q (by omega) (by omega)), by rw [List.map_set]; exact own_put HYO.out hlj _ rfl⟩
                have HG9 : Hid (w21.grownBy (wr.setCell ⟨g, j, none⟩ (.int .u8 (y + 1))) (Value.slice (some ⟨g, 0, none⟩) nn cc).ownBlock) := Lib.hid (grown_trans HGR.out (grown_setCell wr g j (.int .u8 (y + 1))))
                clear HGR HYO
                generalize wr.setCell ⟨g, j, none⟩ (.int .u8 (y + 1)) = wn at HN HG9 ⊢
                go_roundw
                case rel => exact ⟨j + 1, by go_num, by omega, HG9, HN⟩
                case measure => simp [intOf]; omega
            · skip
              have hob : ∀ q, (Value.slice ca nn cc).ownBlock = some q → wy.heap.size ≤ q := fun q hq => (HOWL.out q hq).1
              have HFl := Lib.hid (grown_row HGR.out (fun e => by have := hob gf e.symm; have := HFL.out; omega) HF11.out)
              have HFRl := Lib.hid (HFR10.out.grown HGR.out (FrAp.of HFRW.out hob))
              obtain ⟨zb, zo, z, rfl, hzb, hz, hok, hrg0⟩ := HZW.out.row.at (j := 0) (by omega)
              have hzm := List.mem_of_getElem? hz
              have HZE := Lib.hid (HZN.out z hzm)
              have HFZ := Lib.hid ((HZ10.out.fr z hzm).grown HGR.out (FrAp.of (HZW.out.fr z hzm) hob))
              have hzg := HZ10.out.row.grown HGR.out (fun x hx e => by injection hx with hx; subst hx; have := hob zb e.symm; omega)
              obtain ⟨zb', zo', z', e9, hzb2, hz', _, hrg⟩ := hzg.at (j := 0) (by omega)
              injection e9 with e9; injection e9 with e1 e2; subst e1; subst e2
              rw [hz] at hz'; injection hz' with hz'; subst hz'
              rw [Nat.zero_mul, Nat.add_zero] at hrg
              have HRG : Hid (wr.rangeAt zb zo (z.f.cells z.dv z.rv)) := Lib.hid hrg
              have HLZ : Hid ((z.f.cells z.dv z.rv).length = 19) := Lib.hid (Fr.len hok.1)
              have HSS : Hid (∀ u, Below wr.heap.size wr u → Calls Try.prog 17 #[.agg (z.f.cells z.dv z.rv).toArray, .agg RF.toArray] u fun e w' => e = .returned (.bool true) ∧ Below u.heap.size u w') := Lib.hid (fun u hu => by rw [← HRE.out]; exact same4_true u z.f f z.dv z.rv dv rv (HFZ.out.below hu) (HFRl.out.below hu) (by rw [HZE.out, nrm_nrm]) (by rw [HZE.out]; exact HRN.out) HRT.out)
              have HBL2 := Lib.hid (HB11.out.grown HGR.out HB11.out.size (fun q hq => Nat.le_trans HWW.out (hob q hq)))
              obtain ⟨RZ9, hRZ⟩ : ∃ R, z.f.cells z.dv z.rv = R := ⟨_, rfl⟩
              rw [hRZ] at HRG HLZ
              simp only [hRZ] at HSS
              clear hRZ hz hok hrg hrg0 hzm hzg hob
              go_upto_region 25 with fail
              refine cu_last (i := 0) _ HFl HRG hzb2 HRF HLZ HSS (by omega) (by omega) (fun c a d v w h => by cases d <;> exact h) ?_
              rintro _ _ _ _ _ _ _ _ w25 HB25
              have HBE := Lib.hid (bl_next HBL2.out HBL2.out.size HB25.out)
              clear HB25 HSS
              go_wp2_with fail
              (try simp only [Exit.inBlock, Exit.then])
              go_wp2_with fail
              go_ret
              exact ⟨rfl, HBE.out⟩
            skip
set_option maxRecDepth 100000 in
theorem kf_open {H : Type} {enc : TypeId × Value → H} {w : World} {base b0 : Nat} {r : Reach} {spare : Nat → Bool} {held : Bool} {v : Value} {d : DataW H} {p : List MemPlace}
    (hv : Value.okWide Try.prog w r b0 55 v) (h : DataW.Trod enc Try.prog w base spare held 55 v d p) : ∃ q : KfV, v = .agg q.cells.toArray ∧ q.At w := by
  simp only [Value.okWide, Try.underlying55] at hv
  obtain ⟨cs, rfl, _, _⟩ := hv
  obtain ⟨fuel, hf⟩ := h
  simp only [Value.cells] at hf
  have hl := (trod_fields Try.underlying55 hf).1
  have hl8 : cs.toList.length = 8 := hl.trans (by kernel_rfl)
  obtain ⟨x, hx, hc⟩ := kf_cells hf
  refine ⟨x, ?_, hx⟩
  have e : cs.toList = x.cells := by
    apply List.ext_getElem?
    intro i
    by_cases hi : i < 8
    · have h8 : x.cells[i]? = some (x.cells[i]'(by simpa [KfV.cells] using hi)) := List.getElem?_eq_getElem _
      rw [h8]; exact hc i _ h8
    · rw [List.getElem?_eq_none (by omega), List.getElem?_eq_none (by simp [KfV.cells]; omega)]
  show Value.agg cs = Value.agg _
  rw [← e]
end Go.Proofs.Ytmbjepcbokbemaa
