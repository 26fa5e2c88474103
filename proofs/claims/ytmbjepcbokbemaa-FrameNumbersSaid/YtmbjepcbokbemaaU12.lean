/- texts of the proof, laid together: Frs0. -/
import Derived.Test.YtmbjepcbokbemaaU10
import Derived.Test.YtmbjepcbokbemaaU11
set_option linter.unusedVariables false
set_option linter.unusedSimpArgs false
set_option maxRecDepth 100000
set_option maxHeartbeats 16000000
namespace Go.Proofs.Ytmbjepcbokbemaa
open Go.RowKit
theorem rge_round {x2 x3 x4 x6 x7 x8 x9 x10 x11 x12 x13 x14 x15 x16 x17 x18 x19 x20 x21 x22 x23 x24 x25 : Value} {ab ao bb bo n c1 c2 i : Nat} {a b c d : Int} (w : World) {Q : Exit → Act → World → Prop}
  (HX : Hid (w.rangeAt ab (ao + i * 2) [.int .u64 a, .int .u64 b])) (HY : Hid (w.rangeAt bb (bo + i * 2) [.int .u64 c, .int .u64 d])) (hi : i < n) (hn : n ≤ 1000000)
  (hQp : ∀ c a d v w, Q (.panic c) (a.put d v) w → Q (.panic c) a w)
  (hQ : ∀ (y16 y17 y18 y19 y20 y21 y22 y23 : Value) (w' : World), Hid (Below w.heap.size w w') → Q .normal ⟨List.toArray (.slice (some ⟨ab, ao, none⟩) n c1 :: .slice (some ⟨bb, bo, none⟩) n c2 :: x2 :: x3 :: x4 :: .int .i64 i :: x6 :: x7 :: x8 :: x9 :: x10 :: x11 :: x12 :: x13 :: x14 :: x15 :: y16 :: y17 :: y18 :: y19 :: y20 :: y21 :: y22 :: y23 :: .bool (!((a == c) && (b == d))) :: x25 :: []), []⟩ w') :
  Code.wp Try.prog (((Try.f39.body.bind (subRegion 6)).getD .skip)) Q ⟨List.toArray (.slice (some ⟨ab, ao, none⟩) n c1 :: .slice (some ⟨bb, bo, none⟩) n c2 :: x2 :: x3 :: x4 :: .int .i64 i :: x6 :: x7 :: x8 :: x9 :: x10 :: x11 :: x12 :: x13 :: x14 :: x15 :: x16 :: x17 :: x18 :: x19 :: x20 :: x21 :: x22 :: x23 :: x24 :: x25 :: []), []⟩ w := by
 have HK := Qh hQ; have HKP := Qh hQp
 clear hQ hQp
 conv => arg 2; whnf
 obtain ⟨r1, q1⟩ : ∃ b, (a == c) = b := ⟨_, rfl⟩
 obtain ⟨r2, q2⟩ : ∃ z, (b == d) = z := ⟨_, rfl⟩
 rw [q1, q2] at HK
 cases r1 <;> cases r2
 all_goals
  refine wp_plan (.t 0 (.t 1 (.t 2 (.t 3 (.t 4 (.t 5 (.t 6 (.t 7 (.t 8 .done))))))))) (fun y => y.rangeAt ab (ao + i * 2) [.int .u64 a, .int .u64 b] ∧ y.rangeAt bb (bo + i * 2) [.int .u64 c, .int .u64 d]) (by kernel_rfl) (by kernel_rfl) (by kernel_rfl) (fun c a d v w h => by first | (cases d <;> exact h) | exact HKP.out c a d v w h) ⟨HX.out, HY.out⟩ ?_
  haveI hne : Nonempty (In (fun y => y.rangeAt ab (ao + i * 2) [.int .u64 a, .int .u64 b] ∧ y.rangeAt bb (bo + i * 2) [.int .u64 c, .int .u64 d])) := ⟨⟨w, HX.out, HY.out⟩⟩
  repeat (first | rw [q1] | rw [q2] | (refine plan_t_load (by rfl) (by kernel_rfl) 71 _ rfl ab (ao + i * 2) rfl [.int .u64 a, .int .u64 b] _ (fun y hy => hy.1) Try.underlying71 rfl (by rfl) ?_; simp only [Act.put, List.setIfInBounds_toArray, List.set_cons_succ, List.set_cons_zero]) | (refine plan_t_load (by rfl) (by kernel_rfl) 71 _ rfl bb (bo + i * 2) rfl [.int .u64 c, .int .u64 d] _ (fun y hy => hy.2) Try.underlying71 rfl (by rfl) ?_; simp only [Act.put, List.setIfInBounds_toArray, List.set_cons_succ, List.set_cons_zero]) | (refine plan_t (by rfl) ?_; (first | go_big_quiet_skip | (go_big_quiet_want; go_big_quiet_op; go_big_quiet_on)); refine wpQuiet_nil ?_))
  clear hne
  show Q _ _ _
  exact HK.out _ _ _ _ _ _ _ _ w.drew (Qh (Below.refl w.heap.size w).drew)
theorem rgequal_any (w : World) (a b : Option Addr) (n m c1 c2 : Nat) (rs zs : List (Int × Int)) (hX : rgK.At w a n rs) (hZ : rgK.At w b m zs) (hn : n ≤ 1000000) (hm : m ≤ 1000000) :
  Calls Try.prog 39 #[.slice a n c1, .slice b m c2] w fun e w' => e = .returned (.bool (decide (rs = zs))) ∧ Below w.heap.size w w' := by
 have HX := Qh hX; have HZ := Qh hZ
 have hln := hX.1; have hlm := hZ.1
 have HLN := Qh hln; have HLM := Qh hlm
 clear hX hZ hln hlm
 by_cases hnm : n = m
 ·
  subst hnm
  have q1 : ((n : Int) != (n : Int)) = false := by simp
  go_enter Try.func39, Try.ntmps39
  go_wp2_with fail
  go_loopw [13] (fun s13 wr => ∃ i : Nat, s13 = .int .i64 i ∧ i ≤ n ∧ Hid (Below w.heap.size w wr) ∧ Hid (rs.take i = zs.take i)) (fun s _ => n - (intOf s).toNat)
  case atStart => exact ⟨0, rfl, by omega, Qh (Below.refl _ _), Qh rfl⟩
  case round =>
   obtain ⟨i, rfl, hi, HB, HT⟩ := hrel
   by_cases hlt : i < n
   ·
    obtain ⟨ab, ao, x, rfl, _, hx, hok, hrx⟩ := (HX.out.below HB.out).at hlt
    obtain ⟨bb, bo, z, rfl, _, hz, hok2, hrz⟩ := (HZ.out.below HB.out).at hlt
    obtain ⟨xa, xb⟩ := x
    obtain ⟨za, zb⟩ := z
    have HXR : Hid (wr.rangeAt ab (ao + i * 2) [.int .u64 xa, .int .u64 xb]) := Qh hrx; have HZR : Hid (wr.rangeAt bb (bo + i * 2) [.int .u64 za, .int .u64 zb]) := Qh hrz
    have HTX := Qh (take_snd4 hx); have HTZ := Qh (take_snd4 hz); have HIX := Qh hx; have HIZ := Qh hz
    clear hx hz hok hok2 hrx hrz
    go_upto_region 6 with fail
    refine rge_round _ HXR HZR hlt hn (fun c a d v w h => by cases d <;> exact h) ?_
    rintro _ _ _ _ _ _ _ _ w9 HB9
    replace HB := Qh (bl_next HB.out HB.out.size HB9.out)
    clear HB9 HXR HZR
    obtain ⟨bb9, hbb⟩ : ∃ b, ((xa == za) && (xb == zb)) = b := ⟨_, rfl⟩
    rw [hbb]
    have HBB := Qh hbb
    clear hbb
    cases bb9
    ·
     have HN : Hid (decide (rs = zs) = false) := Qh (by
      rw [decide_eq_false_iff_not]; intro e; subst e; have h9 := HIX.out; rw [HIZ.out] at h9; injection h9 with h9; injection h9 with h1 h2; subst h1; subst h2; have := HBB.out; simp at this)
     go_wp2_with fail
     (try simp only [Exit.inBlock, Exit.then])
     go_ret
     exact ⟨by rw [HN.out]; rfl, HB.out⟩
    ·
     have HT2 : Hid (rs.take (i + 1) = zs.take (i + 1)) := Qh (by have h9 := HBB.out; simp only [Bool.and_eq_true, beq_iff_eq] at h9; rw [HTX.out, HTZ.out, HT.out, h9.1, h9.2])
     clear HT HBB HTX HTZ HIX HIZ
     go_wp2_with fail
     go_roundw
     case rel => exact ⟨i + 1, by go_num, by omega, HB, HT2⟩
     case measure => simp [intOf]; omega
   ·
    obtain rfl : i = n := by omega
    have HN : Hid (decide (rs = zs) = true) := Qh (by rw [decide_eq_true_iff]; have h9 := HT.out; rw [List.take_of_length_le (by rw [← HLN.out]; exact Nat.le_refl _), List.take_of_length_le (by rw [← HLM.out]; exact Nat.le_refl _)] at h9; exact h9)
    go_wp2_with fail
    (try simp only [Exit.inBlock, Exit.then])
    go_wp2_with fail
    go_ret
    exact ⟨by rw [HN.out]; rfl, HB.out⟩
 ·
  have HN : Hid (decide (rs = zs) = false) := Qh (by rw [decide_eq_false_iff_not]; intro e; subst e; exact hnm (HLN.out.trans HLM.out.symm))
  have q1 : ((n : Int) != (m : Int)) = true := by simp; omega
  go_enter Try.func39, Try.ntmps39
  go_wp2_with fail
  (try simp only [Exit.inBlock, Exit.then])
  go_ret
  exact ⟨by rw [HN.out]; rfl, Below.refl _ _⟩
theorem sm_copy {x0 x1 x4 x5 x6 x7 x8 x9 x10 x11 x12 x13 x14 x15 x16 x17 x18 x19 x20 x21 x22 x23 x24 x25 x26 x27 x28 x29 x30 x31 x32 x33 x34 x35 x36 x37 x38 x39 x40 x41 x42 x43 x44 x45 x46 x47 x48 x49 x50 x51 x52 x53 x54 x55 x56 x57 x58 x59 x60 x61 x62 x63 x64 x65 x66 x67 x68 x69 x70 x71 x72 x73 x74 x75 x76 x77 x78 x79 x80 x81 x82 x83 x84 x85 x86 x87 x88 x89 x90 x91 x92 x93 x94 : Value} {ga gb : Nat} {RA RB : List Value} {f g : Fr} (w : World) {Q : Exit → Act → World → Prop}
  (HA : Hid (w.heap[ga]? = some (.cells RA.toArray 39 (0, 0)))) (HG : Hid (w.heap[gb]? = some (.cells RB.toArray 39 (0, 0)))) (HLA : Hid (RA.length = 19)) (HLB : Hid (RB.length = 19)) (hne : ga ≠ gb) (HCA : Hid (∀ u, Below w.heap.size w u → Calls Try.prog 25 #[.agg RA.toArray] u fun e w' => ∃ dv' rv', e = .returned (.agg (f.cells dv' rv').toArray) ∧ FrAt w' f dv' rv' ∧ FrLo u.heap.size dv' rv' ∧ Below u.heap.size u w')) (HCB : Hid (∀ u, Below w.heap.size w u → Calls Try.prog 25 #[.agg RB.toArray] u fun e w' => ∃ dv' rv', e = .returned (.agg (g.cells dv' rv').toArray) ∧ FrAt w' g dv' rv' ∧ FrLo u.heap.size dv' rv' ∧ Below u.heap.size u w'))
  (hQp : ∀ c a d v w, Q (.panic c) (a.put d v) w → Q (.panic c) a w)
  (hQ : ∀ (y6 y7 y8 y9 : Value) (w' : World) (d1 r1 d2 r2 : Value), Hid (w'.heap[ga]? = some (.cells (f.cells d1 r1).toArray 39 (0, 0))) → Hid (w'.heap[gb]? = some (.cells (g.cells d2 r2).toArray 39 (0, 0))) → Hid (FrAt w' f d1 r1) → Hid (FrAt w' g d2 r2) → Hid (∀ B, B ≤ ga → B ≤ gb → B ≤ w.heap.size → Below B w w') → Q .normal ⟨List.toArray (x0 :: x1 :: .pointer (some ⟨ga, 0, none⟩) :: .pointer (some ⟨gb, 0, none⟩) :: x4 :: x5 :: y6 :: y7 :: y8 :: y9 :: x10 :: x11 :: x12 :: x13 :: x14 :: x15 :: x16 :: x17 :: x18 :: x19 :: x20 :: x21 :: x22 :: x23 :: x24 :: x25 :: x26 :: x27 :: x28 :: x29 :: x30 :: x31 :: x32 :: x33 :: x34 :: x35 :: x36 :: x37 :: x38 :: x39 :: x40 :: x41 :: x42 :: x43 :: x44 :: x45 :: x46 :: x47 :: x48 :: x49 :: x50 :: x51 :: x52 :: x53 :: x54 :: x55 :: x56 :: x57 :: x58 :: x59 :: x60 :: x61 :: x62 :: x63 :: x64 :: x65 :: x66 :: x67 :: x68 :: x69 :: x70 :: x71 :: x72 :: x73 :: x74 :: x75 :: x76 :: x77 :: x78 :: x79 :: x80 :: x81 :: x82 :: x83 :: x84 :: x85 :: x86 :: x87 :: x88 :: x89 :: x90 :: x91 :: x92 :: x93 :: x94 :: []), []⟩ w') :
  Code.wp Try.prog (((Try.f17.body.bind (subRegion 1)).getD .skip)) Q ⟨List.toArray (x0 :: x1 :: .pointer (some ⟨ga, 0, none⟩) :: .pointer (some ⟨gb, 0, none⟩) :: x4 :: x5 :: x6 :: x7 :: x8 :: x9 :: x10 :: x11 :: x12 :: x13 :: x14 :: x15 :: x16 :: x17 :: x18 :: x19 :: x20 :: x21 :: x22 :: x23 :: x24 :: x25 :: x26 :: x27 :: x28 :: x29 :: x30 :: x31 :: x32 :: x33 :: x34 :: x35 :: x36 :: x37 :: x38 :: x39 :: x40 :: x41 :: x42 :: x43 :: x44 :: x45 :: x46 :: x47 :: x48 :: x49 :: x50 :: x51 :: x52 :: x53 :: x54 :: x55 :: x56 :: x57 :: x58 :: x59 :: x60 :: x61 :: x62 :: x63 :: x64 :: x65 :: x66 :: x67 :: x68 :: x69 :: x70 :: x71 :: x72 :: x73 :: x74 :: x75 :: x76 :: x77 :: x78 :: x79 :: x80 :: x81 :: x82 :: x83 :: x84 :: x85 :: x86 :: x87 :: x88 :: x89 :: x90 :: x91 :: x92 :: x93 :: x94 :: []), []⟩ w := by
 have HK := Qh hQ; have HKP := Qh hQp
 clear hQ hQp
 conv => arg 2; whnf
 have HNE := Qh hne
 clear hne
 refine wp_plan2 5 (.t 2 (.u 0 (.u 1 (.u 3 (.u 4 .done))))) (.u 5 .done) (fun y => y.heap[gb]? = some (.cells RB.toArray 39 (0, 0))) (by kernel_rfl) (by kernel_rfl) (by kernel_rfl) (fun c a d v w h => by first | (cases d <;> exact h) | exact HKP.out c a d v w h) HG.out ?_
 have HD : Hid (Below w.heap.size w w.drew) := Qh (Below.refl _ _).drew
 have HA1 := Qh (bl_row HD.out (lt_of_block HA.out) HA.out); have HG1 := Qh (bl_row HD.out (lt_of_block HG.out) HG.out)
 generalize w.drew = w1 at HD HA1 HG1 ⊢
 haveI hne : Nonempty (In fun y => y.heap[gb]? = some (.cells RB.toArray 39 (0, 0))) := ⟨⟨w1, HG1.out⟩⟩
 refine plan_t_load (by rfl) (by kernel_rfl) 39 _ rfl gb 0 rfl RB _ (fun y hy => rngL hy) Try.underlying39 rfl (by rw [HLB.out]; rfl) ?_
 simp only [Act.put, List.setIfInBounds_toArray, List.set_cons_succ, List.set_cons_zero]
 refine plan_us (by rfl) (by kernel_rfl) ?_
 intro K hK
 refine wp_load_mid 39 _ rfl ga 0 rfl RA _ (rngL HA1.out) Try.underlying39 rfl (by rw [HLA.out]; rfl) ?_
 refine hK _ _ ⟨HG1.out, ?_⟩
 clear hK K
 simp only [Act.put, List.setIfInBounds_toArray, List.set_cons_succ, List.set_cons_zero]
 refine plan_us (by rfl) (by kernel_rfl) ?_
 intro K hK
 have HCL := Qh (HCA.out w1 HD.out)
 go_wp2_with fail
 refine Calls.mono HCL.out ?_
 rintro e w2 ⟨d1, r1, rfl, hf1, hl1, hb⟩
 have HL1 : Hid (FrLo w.heap.size d1 r1) := Qh (hl1.less HD.out.size)
 replace HD := Qh (bl_next HD.out HD.out.size hb)
 replace HA1 := Qh (bl_row hb (lt_of_block HA1.out) HA1.out)
 replace HG1 := Qh (bl_row hb (lt_of_block HG1.out) HG1.out)
 have HF1 := Qh hf1
 have HR1 : Hid ((f.cells d1 r1).length = 19) := Qh (Fr.len hf1.wf)
 have HO1 : Hid (∀ v ∈ f.cells d1 r1, v.oneCell' = true) := Qh (Fr.one hf1)
 clear hb hf1 hl1 HCL
 obtain ⟨RF, hRF⟩ : ∃ R, f.cells d1 r1 = R := ⟨_, rfl⟩
 have HRF := Qh hRF
 rw [hRF] at HR1 HO1 ⊢
 clear hRF
 go_wp2_with fail
 refine ⟨HG1.out, ?_⟩
 refine plan_us (by rfl) (by kernel_rfl) ?_
 intro K hK
 have HCL := Qh (HCB.out w2 HD.out)
 go_wp2_with fail
 refine Calls.mono HCL.out ?_
 rintro e w3 ⟨d2, r2, rfl, hf2, hl2, hb⟩
 have HL2 : Hid (FrLo w.heap.size d2 r2) := Qh (hl2.less HD.out.size)
 replace HD := Qh (bl_next HD.out HD.out.size hb)
 replace HA1 := Qh (bl_row hb (lt_of_block HA1.out) HA1.out)
 replace HG1 := Qh (bl_row hb (lt_of_block HG1.out) HG1.out)
 replace HF1 := Qh (HF1.out.below hb)
 have HF2 := Qh hf2
 have HR2 : Hid ((g.cells d2 r2).length = 19) := Qh (Fr.len hf2.wf)
 have HO2 : Hid (∀ v ∈ g.cells d2 r2, v.oneCell' = true) := Qh (Fr.one hf2)
 clear hb hf2 hl2 HCL
 obtain ⟨RG2, hRG⟩ : ∃ R, g.cells d2 r2 = R := ⟨_, rfl⟩
 have HRG := Qh hRG
 rw [hRG] at HR2 HO2 ⊢
 clear hRG
 go_wp2_with fail
 refine ⟨HG1.out, ?_⟩
 refine plan_us (by rfl) (by kernel_rfl) ?_
 intro K hK
 refine wp_store_mid 39 _ _ rfl ga 0 RF.toArray rfl rfl (there_row HA1.out (by rw [List.size_toArray, HR1.out, HLA.out]; exact Nat.le_refl _)) (by rw [List.size_toArray, HR1.out]; rfl) (all_oneCell_toArray HO1.out) ?_
 obtain ⟨hz8, hg8⟩ := setCells_row (g := ga) (t := 39) RF [] RA w3 (by simpa using HA1.out) (by rw [HR1.out, HLA.out])
 simp only [List.length_nil, List.nil_append] at hz8 hg8
 change K _ (w3.setCells ga 0 RF)
 have HZ8 := Qh hz8; have HG8 := Qh hg8
 clear hz8 hg8
 generalize w3.setCells ga 0 RF = w4 at HZ8 HG8 ⊢
 have HG4 := Qh (grown_row HG8.out (by intro e; injection e with e; exact HNE.out e.symm) HG1.out)
 refine hK _ _ ⟨HG4.out, ?_⟩
 clear hK K
 simp only [Act.put, List.setIfInBounds_toArray, List.set_cons_succ, List.set_cons_zero]
 refine ⟨fun _ => True, trivial, ?_⟩
 refine plan_us (by rfl) (by kernel_rfl) ?_
 intro K hK
 refine wp_store_mid 39 _ _ rfl gb 0 RG2.toArray rfl rfl (there_row HG4.out (by rw [List.size_toArray, HR2.out, HLB.out]; exact Nat.le_refl _)) (by rw [List.size_toArray, HR2.out]; rfl) (all_oneCell_toArray HO2.out) ?_
 obtain ⟨hz9, hg9⟩ := setCells_row (g := gb) (t := 39) RG2 [] RB w4 (by simpa using HG4.out) (by rw [HR2.out, HLB.out])
 simp only [List.length_nil, List.nil_append] at hz9 hg9
 change K _ (w4.setCells gb 0 RG2)
 have HZ9 := Qh hz9; have HG9 := Qh hg9
 clear hz9 hg9
 generalize w4.setCells gb 0 RG2 = w5 at HZ9 HG9 ⊢
 have HZ85 := Qh (grown_row HG9.out (by intro e; injection e with e; exact HNE.out e) HZ8.out)
 have HGA : Hid (ga < w.heap.size) := Qh (lt_of_block HA.out); have HGB : Hid (gb < w.heap.size) := Qh (lt_of_block HG.out)
 have HF1e := Qh ((HF1.out.cellBut HL1.out HG8.out HGA.out).cellBut HL1.out HG9.out HGB.out); have HF2e := Qh ((HF2.out.cellBut HL2.out HG8.out HGA.out).cellBut HL2.out HG9.out HGB.out)
 have HBB : Hid (∀ B, B ≤ ga → B ≤ gb → B ≤ w.heap.size → Below B w w5) := Qh (fun B h1 h2 h3 => ((HD.out.mono h3).grown HG8.out (Nat.le_trans h3 HD.out.size) (by intro k hk; injection hk with hk; omega)).grown HG9.out (Nat.le_trans (Nat.le_trans h3 HD.out.size) HG8.out.size) (by intro k hk; injection hk with hk; omega))
 refine hK _ _ ⟨trivial, ?_⟩
 clear hK K
 simp only [Act.put, List.setIfInBounds_toArray, List.set_cons_succ, List.set_cons_zero]
 clear hne
 show Q _ _ _
 exact HK.out _ _ _ _ w5 d1 r1 d2 r2 (Qh (by rw [HRF.out]; exact HZ85.out)) (Qh (by rw [HRG.out]; exact HZ9.out)) HF1e HF2e HBB
def eqN1 (N M : Fr) : Bool := (N.kind == M.kind) && ((N.st == M.st) && ((N.of_ == M.of_) && ((N.li == M.li) && ((N.co == M.co) && ((N.fi == M.fi) && ((N.se == M.se) && (N.de == M.de)))))))
def eqN2 (N M : Fr) : Bool := (N.fin == M.fin) && ((N.cid == M.cid) && (decide (N.data = M.data) && decide (N.rg = M.rg)))
def eqN (N M : Fr) : Bool := eqN1 N M && eqN2 N M
theorem str_eqQ (l m : List Int) (hl : ∀ x ∈ l, (Lit.int .u8 x).wf = true) (hm : ∀ x ∈ m, (Lit.int .u8 x).wf = true) : ((strOfNums l).toList == (strOfNums m).toList) = decide (l = m) := by
 by_cases h : l = m
 ·
  subst h; simp
 ·
  rw [str_neQ l m hl hm h]; simp [h]
theorem sm_nums {x0 x1 x4 x5 x6 x7 x8 x9 x10 x11 x12 x13 x14 x15 x16 x17 x18 x19 x20 x21 x22 x23 x24 x25 x26 x27 x28 x29 x30 x31 x32 x33 x34 x35 x36 x37 x38 x39 x40 x41 x42 x43 x44 x45 x46 x47 x48 x49 x50 x51 x52 x53 x54 x55 x56 x57 x58 x59 x60 x61 x62 x63 x64 x65 x66 x67 x68 x69 x70 x71 x72 x73 x74 x75 x76 x77 x78 x79 x80 x81 x82 x83 x84 x85 x86 x87 x88 x89 x90 x91 x92 x93 x94 : Value} {ga gb : Nat} {N M : Fr} {d1 r1 d2 r2 : Value} (w : World) {Q : Exit → Act → World → Prop}
  (HA9 : Hid (w.heap[ga]? = some (.cells (N.cells d1 r1).toArray 39 (0, 0)))) (HG9 : Hid (w.heap[gb]? = some (.cells (M.cells d2 r2).toArray 39 (0, 0))))
  (hQp : ∀ c a d v w, Q (.panic c) (a.put d v) w → Q (.panic c) a w)
  (hQ : ∀ (y10 y11 y12 y13 y14 y15 y16 y17 y18 y19 y20 y21 y22 y23 y24 y25 y26 y27 y28 y29 y30 y31 y32 y33 y34 y35 y36 y37 y38 y39 y40 y41 y42 y43 y44 y45 y46 y47 y48 y49 y50 y51 y52 y53 y54 y55 y56 y57 y58 y59 y60 y61 y62 y63 : Value) (w' : World), Hid (w' = w) → Q .normal ⟨List.toArray (x0 :: x1 :: .pointer (some ⟨ga, 0, none⟩) :: .pointer (some ⟨gb, 0, none⟩) :: x4 :: .bool (eqN1 N M) :: x6 :: x7 :: x8 :: x9 :: y10 :: y11 :: y12 :: y13 :: y14 :: y15 :: y16 :: y17 :: y18 :: y19 :: y20 :: y21 :: y22 :: y23 :: y24 :: y25 :: y26 :: y27 :: y28 :: y29 :: y30 :: y31 :: y32 :: y33 :: y34 :: y35 :: y36 :: y37 :: y38 :: y39 :: y40 :: y41 :: y42 :: y43 :: y44 :: y45 :: y46 :: y47 :: y48 :: y49 :: y50 :: y51 :: y52 :: y53 :: y54 :: y55 :: y56 :: y57 :: y58 :: y59 :: y60 :: y61 :: y62 :: y63 :: x64 :: x65 :: x66 :: x67 :: x68 :: x69 :: x70 :: x71 :: x72 :: x73 :: x74 :: x75 :: x76 :: x77 :: x78 :: x79 :: x80 :: x81 :: x82 :: x83 :: x84 :: x85 :: x86 :: x87 :: x88 :: x89 :: x90 :: x91 :: x92 :: x93 :: x94 :: []), []⟩ w') :
  Code.wp Try.prog (((Try.f17.body.bind (subRegion 2)).getD .skip)) Q ⟨List.toArray (x0 :: x1 :: .pointer (some ⟨ga, 0, none⟩) :: .pointer (some ⟨gb, 0, none⟩) :: x4 :: x5 :: x6 :: x7 :: x8 :: x9 :: x10 :: x11 :: x12 :: x13 :: x14 :: x15 :: x16 :: x17 :: x18 :: x19 :: x20 :: x21 :: x22 :: x23 :: x24 :: x25 :: x26 :: x27 :: x28 :: x29 :: x30 :: x31 :: x32 :: x33 :: x34 :: x35 :: x36 :: x37 :: x38 :: x39 :: x40 :: x41 :: x42 :: x43 :: x44 :: x45 :: x46 :: x47 :: x48 :: x49 :: x50 :: x51 :: x52 :: x53 :: x54 :: x55 :: x56 :: x57 :: x58 :: x59 :: x60 :: x61 :: x62 :: x63 :: x64 :: x65 :: x66 :: x67 :: x68 :: x69 :: x70 :: x71 :: x72 :: x73 :: x74 :: x75 :: x76 :: x77 :: x78 :: x79 :: x80 :: x81 :: x82 :: x83 :: x84 :: x85 :: x86 :: x87 :: x88 :: x89 :: x90 :: x91 :: x92 :: x93 :: x94 :: []), []⟩ w := by
 have HK := Qh hQ; have HKP := Qh hQp
 clear hQ hQp
 conv => arg 2; whnf
 have ca_kind := cell_row HA9.out 0 (.int .i64 N.kind) rfl
 have ca_st := cell_row HA9.out 1 (.int .u64 N.st) rfl
 have ca_of_ := cell_row HA9.out 2 (.int .u64 N.of_) rfl
 have ca_li := cell_row HA9.out 5 (.int .u64 N.li) rfl
 have ca_co := cell_row HA9.out 6 (.int .u64 N.co) rfl
 have ca_fi := cell_row HA9.out 7 (.int .u64 N.fi) rfl
 have ca_se := cell_row HA9.out 8 (.int .u64 N.se) rfl
 have ca_de := cell_row HA9.out 9 (.int .u64 N.de) rfl
 have cb_kind := cell_row HG9.out 0 (.int .i64 M.kind) rfl
 have cb_st := cell_row HG9.out 1 (.int .u64 M.st) rfl
 have cb_of_ := cell_row HG9.out 2 (.int .u64 M.of_) rfl
 have cb_li := cell_row HG9.out 5 (.int .u64 M.li) rfl
 have cb_co := cell_row HG9.out 6 (.int .u64 M.co) rfl
 have cb_fi := cell_row HG9.out 7 (.int .u64 M.fi) rfl
 have cb_se := cell_row HG9.out 8 (.int .u64 M.se) rfl
 have cb_de := cell_row HG9.out 9 (.int .u64 M.de) rfl
 unfold eqN1 at HK
 clear HA9 HG9
 obtain ⟨kind1, h1⟩ : ∃ y, N.kind = y := ⟨_, rfl⟩
 obtain ⟨kind2, h2⟩ : ∃ y, M.kind = y := ⟨_, rfl⟩
 rw [h1, h2] at HK
 rw [h1] at ca_kind
 rw [h2] at cb_kind
 clear h1 h2
 obtain ⟨b_kind, q_kind⟩ : ∃ b, (kind1 == kind2) = b := ⟨_, rfl⟩
 rw [q_kind] at HK
 obtain ⟨st1, h1⟩ : ∃ y, N.st = y := ⟨_, rfl⟩
 obtain ⟨st2, h2⟩ : ∃ y, M.st = y := ⟨_, rfl⟩
 rw [h1, h2] at HK
 rw [h1] at ca_st
 rw [h2] at cb_st
 clear h1 h2
 obtain ⟨b_st, q_st⟩ : ∃ b, (st1 == st2) = b := ⟨_, rfl⟩
 rw [q_st] at HK
 obtain ⟨of1, h1⟩ : ∃ y, N.of_ = y := ⟨_, rfl⟩
 obtain ⟨of2, h2⟩ : ∃ y, M.of_ = y := ⟨_, rfl⟩
 rw [h1, h2] at HK
 rw [h1] at ca_of_
 rw [h2] at cb_of_
 clear h1 h2
 obtain ⟨b_of, q_of⟩ : ∃ b, (of1 == of2) = b := ⟨_, rfl⟩
 rw [q_of] at HK
 obtain ⟨li1, h1⟩ : ∃ y, N.li = y := ⟨_, rfl⟩
 obtain ⟨li2, h2⟩ : ∃ y, M.li = y := ⟨_, rfl⟩
 rw [h1, h2] at HK
 rw [h1] at ca_li
 rw [h2] at cb_li
 clear h1 h2
 obtain ⟨b_li, q_li⟩ : ∃ b, (li1 == li2) = b := ⟨_, rfl⟩
 rw [q_li] at HK
 obtain ⟨co1, h1⟩ : ∃ y, N.co = y := ⟨_, rfl⟩
 obtain ⟨co2, h2⟩ : ∃ y, M.co = y := ⟨_, rfl⟩
 rw [h1, h2] at HK
 rw [h1] at ca_co
 rw [h2] at cb_co
 clear h1 h2
 obtain ⟨b_co, q_co⟩ : ∃ b, (co1 == co2) = b := ⟨_, rfl⟩
 rw [q_co] at HK
 obtain ⟨fi1, h1⟩ : ∃ y, N.fi = y := ⟨_, rfl⟩
 obtain ⟨fi2, h2⟩ : ∃ y, M.fi = y := ⟨_, rfl⟩
 rw [h1, h2] at HK
 rw [h1] at ca_fi
 rw [h2] at cb_fi
 clear h1 h2
 obtain ⟨b_fi, q_fi⟩ : ∃ b, (fi1 == fi2) = b := ⟨_, rfl⟩
 rw [q_fi] at HK
 obtain ⟨se1, h1⟩ : ∃ y, N.se = y := ⟨_, rfl⟩
 obtain ⟨se2, h2⟩ : ∃ y, M.se = y := ⟨_, rfl⟩
 rw [h1, h2] at HK
 rw [h1] at ca_se
 rw [h2] at cb_se
 clear h1 h2
 obtain ⟨b_se, q_se⟩ : ∃ b, (se1 == se2) = b := ⟨_, rfl⟩
 rw [q_se] at HK
 obtain ⟨de1, h1⟩ : ∃ y, N.de = y := ⟨_, rfl⟩
 obtain ⟨de2, h2⟩ : ∃ y, M.de = y := ⟨_, rfl⟩
 rw [h1, h2] at HK
 rw [h1] at ca_de
 rw [h2] at cb_de
 clear h1 h2
 obtain ⟨b_de, q_de⟩ : ∃ b, (de1 == de2) = b := ⟨_, rfl⟩
 rw [q_de] at HK
 cases b_kind
 ·
  clear ca_st cb_st q_st ca_of_ cb_of_ q_of ca_li cb_li q_li ca_co cb_co q_co ca_fi cb_fi q_fi ca_se cb_se q_se ca_de cb_de q_de
  simp only [Bool.false_and, Bool.true_and] at HK
  go_wp2_with fail
  exact HK.out _ _ _ _ _ _ _ _ _ _ _ _ _ _ _ _ _ _ _ _ _ _ _ _ _ _ _ _ _ _ _ _ _ _ _ _ _ _ _ _ _ _ _ _ _ _ _ _ _ _ _ _ _ _ w (Qh rfl)
 cases b_st
 ·
  clear ca_of_ cb_of_ q_of ca_li cb_li q_li ca_co cb_co q_co ca_fi cb_fi q_fi ca_se cb_se q_se ca_de cb_de q_de
  simp only [Bool.false_and, Bool.true_and] at HK
  go_wp2_with fail
  exact HK.out _ _ _ _ _ _ _ _ _ _ _ _ _ _ _ _ _ _ _ _ _ _ _ _ _ _ _ _ _ _ _ _ _ _ _ _ _ _ _ _ _ _ _ _ _ _ _ _ _ _ _ _ _ _ w (Qh rfl)
 cases b_of
 ·
  clear ca_li cb_li q_li ca_co cb_co q_co ca_fi cb_fi q_fi ca_se cb_se q_se ca_de cb_de q_de
  simp only [Bool.false_and, Bool.true_and] at HK
  go_wp2_with fail
  exact HK.out _ _ _ _ _ _ _ _ _ _ _ _ _ _ _ _ _ _ _ _ _ _ _ _ _ _ _ _ _ _ _ _ _ _ _ _ _ _ _ _ _ _ _ _ _ _ _ _ _ _ _ _ _ _ w (Qh rfl)
 cases b_li
 ·
  clear ca_co cb_co q_co ca_fi cb_fi q_fi ca_se cb_se q_se ca_de cb_de q_de
  simp only [Bool.false_and, Bool.true_and] at HK
  go_wp2_with fail
  exact HK.out _ _ _ _ _ _ _ _ _ _ _ _ _ _ _ _ _ _ _ _ _ _ _ _ _ _ _ _ _ _ _ _ _ _ _ _ _ _ _ _ _ _ _ _ _ _ _ _ _ _ _ _ _ _ w (Qh rfl)
 cases b_co
 ·
  clear ca_fi cb_fi q_fi ca_se cb_se q_se ca_de cb_de q_de
  simp only [Bool.false_and, Bool.true_and] at HK
  go_wp2_with fail
  exact HK.out _ _ _ _ _ _ _ _ _ _ _ _ _ _ _ _ _ _ _ _ _ _ _ _ _ _ _ _ _ _ _ _ _ _ _ _ _ _ _ _ _ _ _ _ _ _ _ _ _ _ _ _ _ _ w (Qh rfl)
 cases b_fi
 ·
  clear ca_se cb_se q_se ca_de cb_de q_de
  simp only [Bool.false_and, Bool.true_and] at HK
  go_wp2_with fail
  exact HK.out _ _ _ _ _ _ _ _ _ _ _ _ _ _ _ _ _ _ _ _ _ _ _ _ _ _ _ _ _ _ _ _ _ _ _ _ _ _ _ _ _ _ _ _ _ _ _ _ _ _ _ _ _ _ w (Qh rfl)
 cases b_se
 ·
  clear ca_de cb_de q_de
  simp only [Bool.false_and, Bool.true_and] at HK
  go_wp2_with fail
  exact HK.out _ _ _ _ _ _ _ _ _ _ _ _ _ _ _ _ _ _ _ _ _ _ _ _ _ _ _ _ _ _ _ _ _ _ _ _ _ _ _ _ _ _ _ _ _ _ _ _ _ _ _ _ _ _ w (Qh rfl)
 cases b_de
 ·
  simp only [Bool.false_and, Bool.true_and] at HK
  go_wp2_with fail
  exact HK.out _ _ _ _ _ _ _ _ _ _ _ _ _ _ _ _ _ _ _ _ _ _ _ _ _ _ _ _ _ _ _ _ _ _ _ _ _ _ _ _ _ _ _ _ _ _ _ _ _ _ _ _ _ _ w (Qh rfl)
 simp only [Bool.true_and] at HK
 go_wp2_with fail
 exact HK.out _ _ _ _ _ _ _ _ _ _ _ _ _ _ _ _ _ _ _ _ _ _ _ _ _ _ _ _ _ _ _ _ _ _ _ _ _ _ _ _ _ _ _ _ _ _ _ _ _ _ _ _ _ _ w (Qh rfl)
theorem sm_rest {x0 x1 x4 x6 x7 x8 x9 x10 x11 x12 x13 x14 x15 x16 x17 x18 x19 x20 x21 x22 x23 x24 x25 x26 x27 x28 x29 x30 x31 x32 x33 x34 x35 x36 x37 x38 x39 x40 x41 x42 x43 x44 x45 x46 x47 x48 x49 x50 x51 x52 x53 x54 x55 x56 x57 x58 x59 x60 x61 x62 x63 x64 x65 x66 x67 x68 x69 x70 x71 x72 x73 x74 x75 x76 x77 x78 x79 x80 x81 x82 x83 x84 x85 x86 x87 x88 x89 x90 x91 x92 x93 x94 : Value} {ga gb : Nat} {N M : Fr} {d1 r1 d2 r2 : Value} {b5 : Bool} (w : World) {Q : Exit → Act → World → Prop}
  (HA9 : Hid (w.heap[ga]? = some (.cells (N.cells d1 r1).toArray 39 (0, 0)))) (HG9 : Hid (w.heap[gb]? = some (.cells (M.cells d2 r2).toArray 39 (0, 0)))) (HF1 : Hid (FrAt w N d1 r1)) (HF2 : Hid (FrAt w M d2 r2)) (hrl : N.rg.length ≤ 1000000) (hrm : M.rg.length ≤ 1000000)
  (hQp : ∀ c a d v w, Q (.panic c) (a.put d v) w → Q (.panic c) a w)
  (hQ : ∀ (y64 y65 y66 y67 y68 y69 y70 y71 y72 y73 y74 y75 y76 y77 y78 y79 y80 y81 y82 y83 y84 y85 y86 y87 y88 y89 y90 y91 y92 y93 y94 : Value) (w' : World), Hid (Below w.heap.size w w') → Q .normal ⟨List.toArray (x0 :: x1 :: .pointer (some ⟨ga, 0, none⟩) :: .pointer (some ⟨gb, 0, none⟩) :: .bool (b5 && eqN2 N M) :: .bool b5 :: x6 :: x7 :: x8 :: x9 :: x10 :: x11 :: x12 :: x13 :: x14 :: x15 :: x16 :: x17 :: x18 :: x19 :: x20 :: x21 :: x22 :: x23 :: x24 :: x25 :: x26 :: x27 :: x28 :: x29 :: x30 :: x31 :: x32 :: x33 :: x34 :: x35 :: x36 :: x37 :: x38 :: x39 :: x40 :: x41 :: x42 :: x43 :: x44 :: x45 :: x46 :: x47 :: x48 :: x49 :: x50 :: x51 :: x52 :: x53 :: x54 :: x55 :: x56 :: x57 :: x58 :: x59 :: x60 :: x61 :: x62 :: x63 :: y64 :: y65 :: y66 :: y67 :: y68 :: y69 :: y70 :: y71 :: y72 :: y73 :: y74 :: y75 :: y76 :: y77 :: y78 :: y79 :: y80 :: y81 :: y82 :: y83 :: y84 :: y85 :: y86 :: y87 :: y88 :: y89 :: y90 :: y91 :: y92 :: y93 :: y94 :: []), []⟩ w') :
  Code.wp Try.prog (((Try.f17.body.bind (subRegion 3)).getD .skip)) Q ⟨List.toArray (x0 :: x1 :: .pointer (some ⟨ga, 0, none⟩) :: .pointer (some ⟨gb, 0, none⟩) :: x4 :: .bool b5 :: x6 :: x7 :: x8 :: x9 :: x10 :: x11 :: x12 :: x13 :: x14 :: x15 :: x16 :: x17 :: x18 :: x19 :: x20 :: x21 :: x22 :: x23 :: x24 :: x25 :: x26 :: x27 :: x28 :: x29 :: x30 :: x31 :: x32 :: x33 :: x34 :: x35 :: x36 :: x37 :: x38 :: x39 :: x40 :: x41 :: x42 :: x43 :: x44 :: x45 :: x46 :: x47 :: x48 :: x49 :: x50 :: x51 :: x52 :: x53 :: x54 :: x55 :: x56 :: x57 :: x58 :: x59 :: x60 :: x61 :: x62 :: x63 :: x64 :: x65 :: x66 :: x67 :: x68 :: x69 :: x70 :: x71 :: x72 :: x73 :: x74 :: x75 :: x76 :: x77 :: x78 :: x79 :: x80 :: x81 :: x82 :: x83 :: x84 :: x85 :: x86 :: x87 :: x88 :: x89 :: x90 :: x91 :: x92 :: x93 :: x94 :: []), []⟩ w := by
 have HK := Qh hQ; have HKP := Qh hQp
 clear hQ hQp
 conv => arg 2; whnf
 obtain ⟨da, dn, dc, rfl, _, _, hd⟩ := HF1.out.d
 obtain ⟨ea, en, ec, rfl, _, _, he⟩ := HF2.out.d
 obtain ⟨ra, rn, rc, rfl, _, _, hr⟩ := HF1.out.r
 obtain ⟨sa, sn, sc, rfl, _, _, hs⟩ := HF2.out.r
 have hrn : rn ≤ 1000000 := by rw [hr.1]; exact hrl
 have hsn : sn ≤ 1000000 := by rw [hs.1]; exact hrm
 have HEQ := Qh (rgequal_any w ra sa rn sn rc sc N.rg M.rg hr hs hrn hsn)
 have HDA := Qh hd; have HDB := Qh he
 have hse := str_eqQ N.data M.data hd.2.1 he.2.1
 clear hd he hr hs hrl hrm hrn hsn
 have ca_fin := cell_row HA9.out 4 (.bool N.fin) rfl
 have ca_d := cell_row HA9.out 3 (.slice da dn dc) rfl
 have ca_r := cell_row HA9.out 10 (.slice ra rn rc) rfl
 have cb_fin := cell_row HG9.out 4 (.bool M.fin) rfl
 have cb_d := cell_row HG9.out 3 (.slice ea en ec) rfl
 have cb_r := cell_row HG9.out 10 (.slice sa sn sc) rfl
 have HRA := Qh (rng_row HA9.out 11 _ (cells_cid N (.slice da dn dc) (.slice ra rn rc))); have HRB := Qh (rng_row HG9.out 11 _ (cells_cid M (.slice ea en ec) (.slice sa sn sc)))
 have hc1 : (convert 25 9 (.slice da dn dc)).run Try.prog w = .ok (.string (strOfNums N.data)) w := conv_ints _ 5 _ _ Try.underlying25 Try.underlying5 Try.underlying9 HDA.out
 have hc2 : (convert 25 9 (.slice ea en ec)).run Try.prog w = .ok (.string (strOfNums M.data)) w := conv_ints _ 5 _ _ Try.underlying25 Try.underlying5 Try.underlying9 HDB.out
 have HCO : Hid (cidOk N.cid) := Qh ⟨HF1.out.wf.cidl, HF1.out.wf.cid⟩; have HCP : Hid (cidOk M.cid) := Qh ⟨HF2.out.wf.cidl, HF2.out.wf.cid⟩
 have h18 : (N.cid.map (Value.int .u8)).length = 8 := by simp [HCO.out.1]
 have h28 : (M.cid.map (Value.int .u8)).length = 8 := by simp [HCP.out.1]
 clear HA9 HG9 HF1 HF2 HDA HDB
 unfold eqN2 at HK
 rw [← hse] at HK
 clear hse
 obtain ⟨s1, h1⟩ : ∃ y, strOfNums N.data = y := ⟨_, rfl⟩
 obtain ⟨s2, h2⟩ : ∃ y, strOfNums M.data = y := ⟨_, rfl⟩
 rw [h1] at hc1 HK; rw [h2] at hc2 HK
 clear h1 h2
 obtain ⟨fin1, h1⟩ : ∃ y, N.fin = y := ⟨_, rfl⟩
 obtain ⟨fin2, h2⟩ : ∃ y, M.fin = y := ⟨_, rfl⟩
 rw [h1, h2] at HK
 rw [h1] at ca_fin
 rw [h2] at cb_fin
 clear h1 h2
 obtain ⟨b_fin, q_fin⟩ : ∃ b, (fin1 == fin2) = b := ⟨_, rfl⟩
 rw [q_fin] at HK
 obtain ⟨cid1, h1⟩ : ∃ y, N.cid = y := ⟨_, rfl⟩
 obtain ⟨cid2, h2⟩ : ∃ y, M.cid = y := ⟨_, rfl⟩
 rw [h1, h2] at HK
 rw [h1] at HRA HCO h18
 rw [h2] at HRB HCP h28
 clear h1 h2
 obtain ⟨b_cid, q_cid⟩ : ∃ b, (cid1 == cid2) = b := ⟨_, rfl⟩
 rw [q_cid] at HK
 obtain ⟨b_str, q_str⟩ : ∃ b, (s1.toList == s2.toList) = b := ⟨_, rfl⟩
 rw [q_str] at HK
 obtain ⟨b_rg, q_rg⟩ : ∃ b, decide (N.rg = M.rg) = b := ⟨_, rfl⟩
 rw [q_rg] at HK HEQ
 clear q_rg
 obtain ⟨CX, hCX⟩ : ∃ C, cid1.map (Value.int .u8) = C := ⟨_, rfl⟩
 have HCX := Qh hCX
 rw [hCX] at HRA h18
 have H18 := Qh h18
 obtain ⟨CY, hCY⟩ : ∃ C, cid2.map (Value.int .u8) = C := ⟨_, rfl⟩
 have HCY := Qh hCY
 rw [hCY] at HRB h28
 have H28 := Qh h28
 have HCQ := Qh q_cid
 clear hCX hCY h18 h28 q_cid
 cases b5
 ·
  clear ca_fin cb_fin ca_d cb_d ca_r cb_r hc1 hc2 q_fin q_str
  simp only [Bool.false_and, Bool.true_and] at HK
  go_wp2_with fail
  exact HK.out _ _ _ _ _ _ _ _ _ _ _ _ _ _ _ _ _ _ _ _ _ _ _ _ _ _ _ _ _ _ _ w (Qh (Below.refl _ _))
 cases b_fin
 ·
  clear ca_d cb_d ca_r cb_r hc1 hc2 q_str
  simp only [Bool.false_and, Bool.true_and] at HK
  go_wp2_with fail
  exact HK.out _ _ _ _ _ _ _ _ _ _ _ _ _ _ _ _ _ _ _ _ _ _ _ _ _ _ _ _ _ _ _ w (Qh (Below.refl _ _))
 cases b_cid
 ·
  clear ca_d cb_d ca_r cb_r hc1 hc2 q_str
  simp only [Bool.false_and, Bool.true_and] at HK
  go_wp2_with (first | (refine wpList_load_g 37 _ rfl (by kernel_rfl) ga 11 rfl CX _ HRA.out Try.underlying37 rfl (by rw [H18.out]; rfl) ?_) | (refine wpList_load_g 37 _ rfl (by kernel_rfl) gb 11 rfl CY _ HRB.out Try.underlying37 rfl (by rw [H28.out]; rfl) ?_) | (refine wpList_eql_cid_g (by kernel_rfl) _ _ _ rfl cid1 cid2 (by rw [HCX.out]; rfl) (by rw [HCY.out]; rfl) HCO.out HCP.out ?_; rw [HCQ.out]) | fail)
  exact HK.out _ _ _ _ _ _ _ _ _ _ _ _ _ _ _ _ _ _ _ _ _ _ _ _ _ _ _ _ _ _ _ w (Qh (Below.refl _ _))
 cases b_str
 ·
  clear ca_r cb_r
  simp only [Bool.false_and, Bool.true_and] at HK
  go_wp2_with (first | (refine wpList_load_g 37 _ rfl (by kernel_rfl) ga 11 rfl CX _ HRA.out Try.underlying37 rfl (by rw [H18.out]; rfl) ?_) | (refine wpList_load_g 37 _ rfl (by kernel_rfl) gb 11 rfl CY _ HRB.out Try.underlying37 rfl (by rw [H28.out]; rfl) ?_) | (refine wpList_eql_cid_g (by kernel_rfl) _ _ _ rfl cid1 cid2 (by rw [HCX.out]; rfl) (by rw [HCY.out]; rfl) HCO.out HCP.out ?_; rw [HCQ.out]) | fail)
  exact HK.out _ _ _ _ _ _ _ _ _ _ _ _ _ _ _ _ _ _ _ _ _ _ _ _ _ _ _ _ _ _ _ w (Qh (Below.refl _ _))
 simp only [Bool.true_and] at HK
 go_wp2_with (first | (refine wpList_load_g 37 _ rfl (by kernel_rfl) ga 11 rfl CX _ HRA.out Try.underlying37 rfl (by rw [H18.out]; rfl) ?_) | (refine wpList_load_g 37 _ rfl (by kernel_rfl) gb 11 rfl CY _ HRB.out Try.underlying37 rfl (by rw [H28.out]; rfl) ?_) | (refine wpList_eql_cid_g (by kernel_rfl) _ _ _ rfl cid1 cid2 (by rw [HCX.out]; rfl) (by rw [HCY.out]; rfl) HCO.out HCP.out ?_; rw [HCQ.out]) | fail)
 refine Calls.mono HEQ.out ?_
 rintro e w10 ⟨rfl, hb⟩
 have HBZ := Qh hb
 clear hb
 go_wp2_with fail
 exact HK.out _ _ _ _ _ _ _ _ _ _ _ _ _ _ _ _ _ _ _ _ _ _ _ _ _ _ _ _ _ _ _ w10 HBZ
end Go.Proofs.Ytmbjepcbokbemaa
