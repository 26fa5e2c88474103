/- texts of the proof, laid together: Frd, Frq, Fri, Fre. -/
import Derived.Test.YtmbjepcbokbemaaU14
import Derived.Test.YtmbjepcbokbemaaU6
import Derived.Test.YtmbjepcbokbemaaU10
import Derived.Test.YtmbjepcbokbemaaU5
import Derived.Test.YtmbjepcbokbemaaU11
import Derived.Test.YtmbjepcbokbemaaU8
set_option linter.unusedVariables false
set_option linter.unusedSimpArgs false
set_option maxRecDepth 100000
set_option maxHeartbeats 16000000
namespace Go.Proofs.Ytmbjepcbokbemaa
open Go.RowKit
theorem rng_bl {B b off : Nat} {w y : World} {xs : List Value} (hb : Below B w y) (h : b < B) (hr : w.rangeAt b off xs) : y.rangeAt b off xs := fun i x hi => bl_cell hb (p := ⟨b, off + i, none⟩) h (hr i x hi)
theorem one_gap {x0 x2 x4 x5 x8 x9 x10 x11 x12 x13 x14 x15 x16 x17 x18 x19 x20 x21 x22 x23 x24 x25 x26 x27 x28 x29 x30 x31 x32 x33 x34 x35 x36 x37 x38 x39 x40 x41 x42 x43 x44 x45 x46 x47 x48 x49 x50 x51 x52 x53 x54 x55 x56 x57 x58 x59 x60 x61 x62 x63 x64 x65 x66 x67 x68 x69 x70 x71 x72 x73 x74 x75 x76 x77 x78 x79 x80 x81 x82 x83 x84 x85 x86 x87 x88 x89 x90 x91 x92 x93 x94 x95 x96 x97 x98 x99 x100 x101 x102 x103 x104 x105 x106 x107 x108 x109 x110 x111 x112 x113 x114 x115 x116 x117 x118 x119 x120 x121 x122 x123 x124 x125 x126 x127 x128 x129 x130 x131 x132 x133 x134 x135 x136 x137 x138 x139 x140 x141 x142 x143 x144 x145 x146 x147 x148 x149 x150 x151 x152 x153 x154 x155 x156 x157 x158 x159 x160 x161 x162 x163 x164 x165 x166 x167 x168 x169 x170 x171 x172 x173 x174 x175 x176 x177 x178 x179 x180 x181 x182 x183 x184 x185 x186 x187 x188 x189 : Value} {gf gr i n cp ab ao : Nat} {W : World} {v : Value} {bs : List Int} {RF : List Value} {lo hi lo2 : Int} (w : World) {Q : Exit → Act → World → Prop}
  (HU : Hid (RwU W v w bs)) (hbl : bs.length ≤ 100000) (HF : Hid (w.heap[gf]? = some (.cells RF.toArray 39 (0, 0)))) (H10 : Hid (RF[10]? = some (.slice (some ⟨ab, ao, none⟩) n cp))) (HG : Hid (w.heap[gr]? = some (.cells ([.int .u64 lo, .int .u64 hi] : List Value).toArray 71 (0, 0)))) (HC : Hid (w.cell? ⟨ab, ao + (i + 1) * 2, none⟩ = some (.int .u64 lo2))) (hab : ab < w.heap.size) (hin : i + 1 < n) (hn : n ≤ 16) (hlo : 0 ≤ lo ∧ lo < hi ∧ hi < lo2 ∧ lo2 ≤ 4611686018427387904)
  (hQp : ∀ c a d v w, Q (.panic c) (a.put d v) w → Q (.panic c) a w)
  (hQ : ∀ (y55 y56 y57 y58 y59 y60 y61 y62 y63 y64 y65 y66 y67 y68 y69 y70 y71 y72 y73 y74 : Value) (v' : Value) (w' : World), Hid (RwU W v' w' (bs ++ varsM [lo2 - hi - 1, hi - 1 - lo])) → Q .normal ⟨List.toArray (x0 :: .pointer (some ⟨gf, 0, none⟩) :: x2 :: v' :: x4 :: x5 :: .int .i64 i :: .pointer (some ⟨gr, 0, none⟩) :: x8 :: x9 :: x10 :: x11 :: x12 :: x13 :: x14 :: x15 :: x16 :: x17 :: x18 :: x19 :: x20 :: x21 :: x22 :: x23 :: x24 :: x25 :: x26 :: x27 :: x28 :: x29 :: x30 :: x31 :: x32 :: x33 :: x34 :: x35 :: x36 :: x37 :: x38 :: x39 :: x40 :: x41 :: x42 :: x43 :: x44 :: x45 :: x46 :: x47 :: x48 :: x49 :: x50 :: x51 :: x52 :: x53 :: x54 :: y55 :: y56 :: y57 :: y58 :: y59 :: y60 :: y61 :: y62 :: y63 :: y64 :: y65 :: y66 :: y67 :: y68 :: y69 :: y70 :: y71 :: y72 :: y73 :: y74 :: x75 :: x76 :: x77 :: x78 :: x79 :: x80 :: x81 :: x82 :: x83 :: x84 :: x85 :: x86 :: x87 :: x88 :: x89 :: x90 :: x91 :: x92 :: x93 :: x94 :: x95 :: x96 :: x97 :: x98 :: x99 :: x100 :: x101 :: x102 :: x103 :: x104 :: x105 :: x106 :: x107 :: x108 :: x109 :: x110 :: x111 :: x112 :: x113 :: x114 :: x115 :: x116 :: x117 :: x118 :: x119 :: x120 :: x121 :: x122 :: x123 :: x124 :: x125 :: x126 :: x127 :: x128 :: x129 :: x130 :: x131 :: x132 :: x133 :: x134 :: x135 :: x136 :: x137 :: x138 :: x139 :: x140 :: x141 :: x142 :: x143 :: x144 :: x145 :: x146 :: x147 :: x148 :: x149 :: x150 :: x151 :: x152 :: x153 :: x154 :: x155 :: x156 :: x157 :: x158 :: x159 :: x160 :: x161 :: x162 :: x163 :: x164 :: x165 :: x166 :: x167 :: x168 :: x169 :: x170 :: x171 :: x172 :: x173 :: x174 :: x175 :: x176 :: x177 :: x178 :: x179 :: x180 :: x181 :: x182 :: x183 :: x184 :: x185 :: x186 :: x187 :: x188 :: x189 :: []), []⟩ w') :
  Code.wp Try.prog (((Try.f19.body.bind (subRegion 11)).getD .skip)) Q ⟨List.toArray (x0 :: .pointer (some ⟨gf, 0, none⟩) :: x2 :: v :: x4 :: x5 :: .int .i64 i :: .pointer (some ⟨gr, 0, none⟩) :: x8 :: x9 :: x10 :: x11 :: x12 :: x13 :: x14 :: x15 :: x16 :: x17 :: x18 :: x19 :: x20 :: x21 :: x22 :: x23 :: x24 :: x25 :: x26 :: x27 :: x28 :: x29 :: x30 :: x31 :: x32 :: x33 :: x34 :: x35 :: x36 :: x37 :: x38 :: x39 :: x40 :: x41 :: x42 :: x43 :: x44 :: x45 :: x46 :: x47 :: x48 :: x49 :: x50 :: x51 :: x52 :: x53 :: x54 :: x55 :: x56 :: x57 :: x58 :: x59 :: x60 :: x61 :: x62 :: x63 :: x64 :: x65 :: x66 :: x67 :: x68 :: x69 :: x70 :: x71 :: x72 :: x73 :: x74 :: x75 :: x76 :: x77 :: x78 :: x79 :: x80 :: x81 :: x82 :: x83 :: x84 :: x85 :: x86 :: x87 :: x88 :: x89 :: x90 :: x91 :: x92 :: x93 :: x94 :: x95 :: x96 :: x97 :: x98 :: x99 :: x100 :: x101 :: x102 :: x103 :: x104 :: x105 :: x106 :: x107 :: x108 :: x109 :: x110 :: x111 :: x112 :: x113 :: x114 :: x115 :: x116 :: x117 :: x118 :: x119 :: x120 :: x121 :: x122 :: x123 :: x124 :: x125 :: x126 :: x127 :: x128 :: x129 :: x130 :: x131 :: x132 :: x133 :: x134 :: x135 :: x136 :: x137 :: x138 :: x139 :: x140 :: x141 :: x142 :: x143 :: x144 :: x145 :: x146 :: x147 :: x148 :: x149 :: x150 :: x151 :: x152 :: x153 :: x154 :: x155 :: x156 :: x157 :: x158 :: x159 :: x160 :: x161 :: x162 :: x163 :: x164 :: x165 :: x166 :: x167 :: x168 :: x169 :: x170 :: x171 :: x172 :: x173 :: x174 :: x175 :: x176 :: x177 :: x178 :: x179 :: x180 :: x181 :: x182 :: x183 :: x184 :: x185 :: x186 :: x187 :: x188 :: x189 :: []), []⟩ w := by
 have HK := Qh hQ; have HKP := Qh hQp
 clear hQ hQp
 conv => arg 2; whnf
 obtain ⟨l1, l2, l3, l4⟩ := hlo
 have g0 : ∀ z : In (fun y => y.heap[gf]? = some (.cells RF.toArray 39 (0, 0)) ∧ y.heap[gr]? = some (.cells ([.int .u64 lo, .int .u64 hi] : List Value).toArray 71 (0, 0)) ∧ y.cell? ⟨ab, ao + (i + 1) * 2, none⟩ = some (.int .u64 lo2)), z.w.cell? ⟨gf, 10, none⟩ = some (.slice (some ⟨ab, ao, none⟩) n cp) := fun z => cell_row z.h.1 10 _ H10.out
 have g1 : ∀ z : In (fun y => y.heap[gf]? = some (.cells RF.toArray 39 (0, 0)) ∧ y.heap[gr]? = some (.cells ([.int .u64 lo, .int .u64 hi] : List Value).toArray 71 (0, 0)) ∧ y.cell? ⟨ab, ao + (i + 1) * 2, none⟩ = some (.int .u64 lo2)), z.w.cell? ⟨gr, 0, none⟩ = some (.int .u64 lo) := fun z => row_cell z.h.2.1 0 _ rfl
 have g2 : ∀ z : In (fun y => y.heap[gf]? = some (.cells RF.toArray 39 (0, 0)) ∧ y.heap[gr]? = some (.cells ([.int .u64 lo, .int .u64 hi] : List Value).toArray 71 (0, 0)) ∧ y.cell? ⟨ab, ao + (i + 1) * 2, none⟩ = some (.int .u64 lo2)), z.w.cell? ⟨gr, 1, none⟩ = some (.int .u64 hi) := fun z => row_cell z.h.2.1 1 _ rfl
 have g3 : ∀ z : In (fun y => y.heap[gf]? = some (.cells RF.toArray 39 (0, 0)) ∧ y.heap[gr]? = some (.cells ([.int .u64 lo, .int .u64 hi] : List Value).toArray 71 (0, 0)) ∧ y.cell? ⟨ab, ao + (i + 1) * 2, none⟩ = some (.int .u64 lo2)), z.w.cell? ⟨ab, ao + (i + 1) * 2, none⟩ = some (.int .u64 lo2) := fun z => z.h.2.2
 refine wp_plan (.t 0 (.t 1 (.t 2 (.t 3 (.t 4 (.t 5 (.t 6 (.t 7 (.t 8 (.t 9 (.t 10 (.t 11 (.t 12 (.t 13 (.t 14 (.t 15 (.t 16 (.t 17 (.u 18 (.u 19 (.t 20 .done))))))))))))))))))))) (fun y => y.heap[gf]? = some (.cells RF.toArray 39 (0, 0)) ∧ y.heap[gr]? = some (.cells ([.int .u64 lo, .int .u64 hi] : List Value).toArray 71 (0, 0)) ∧ y.cell? ⟨ab, ao + (i + 1) * 2, none⟩ = some (.int .u64 lo2)) (by kernel_rfl) (by kernel_rfl) (by kernel_rfl) (fun c a d v w h => by first | (cases d <;> exact h) | exact HKP.out c a d v w h) ⟨HF.out, HG.out, HC.out⟩ ?_
 have hdr := (Below.refl w.heap.size w).drew
 have hS : w.drew.heap[gf]? = _ ∧ w.drew.heap[gr]? = _ ∧ w.drew.cell? _ = _ := ⟨HF.out, HG.out, HC.out⟩
 have hab1 := Nat.lt_of_lt_of_le hab hdr.size
 replace HU := Qh (HU.out.to hdr)
 generalize w.drew = w1 at HU hS hdr hab1 ⊢
 clear hdr
 haveI hne : Nonempty (In (fun y => y.heap[gf]? = some (.cells RF.toArray 39 (0, 0)) ∧ y.heap[gr]? = some (.cells ([.int .u64 lo, .int .u64 hi] : List Value).toArray 71 (0, 0)) ∧ y.cell? ⟨ab, ao + (i + 1) * 2, none⟩ = some (.int .u64 lo2))) := ⟨⟨w1, hS⟩⟩
 repeat (first | (refine plan_t (by rfl) ?_; (first | go_big_quiet_skip | (go_big_quiet_want; go_big_quiet_op; go_big_quiet_on)); refine wpQuiet_nil ?_))
 clear g0 g1 g2 g3
 have HS := Qh hS
 clear hS
 refine plan_us (by rfl) (by kernel_rfl) ?_
 intro K hK
 go_wp2_with fail
 have hal := (Below.refl w1.heap.size w1).alloc (Nat.le_refl _) (.cells ([.int .u64 (lo2 - hi - 1), .int .u64 (hi - 1 - lo)] : List Value).toArray 34)
 have hrow := heap_alloc_new w1 (.cells ([.int .u64 (lo2 - hi - 1), .int .u64 (hi - 1 - lo)] : List Value).toArray 34)
 have hS2 : ((w1.alloc (.cells ([.int .u64 (lo2 - hi - 1), .int .u64 (hi - 1 - lo)] : List Value).toArray 34)).heap[gf]? = some (.cells RF.toArray 39 (0, 0)) ∧ (w1.alloc (.cells ([.int .u64 (lo2 - hi - 1), .int .u64 (hi - 1 - lo)] : List Value).toArray 34)).heap[gr]? = some (.cells ([.int .u64 lo, .int .u64 hi] : List Value).toArray 71 (0, 0)) ∧ (w1.alloc (.cells ([.int .u64 (lo2 - hi - 1), .int .u64 (hi - 1 - lo)] : List Value).toArray 34)).cell? ⟨ab, ao + (i + 1) * 2, none⟩ = some (.int .u64 lo2)) := ⟨bl_row hal (lt_of_block HS.out.1) HS.out.1, bl_row hal (lt_of_block HS.out.2.1) HS.out.2.1, bl_cell hal (p := ⟨ab, ao + (i + 1) * 2, none⟩) hab1 HS.out.2.2⟩
 refine ⟨hS2, ?_⟩
 replace HU := Qh (HU.out.to hal)
 have hab2 := Nat.lt_of_lt_of_le hab1 hal.size
 change Plan.wp _ _ _ _ _ _ (w1.alloc (.cells ([.int .u64 (lo2 - hi - 1), .int .u64 (hi - 1 - lo)] : List Value).toArray 34))
 generalize w1.alloc (.cells ([.int .u64 (lo2 - hi - 1), .int .u64 (hi - 1 - lo)] : List Value).toArray 34) = w2 at hS2 HU hrow hab2 ⊢
 clear hal hab hab1
 obtain ⟨gs, hgs⟩ : ∃ g, w1.heap.size = g := ⟨_, rfl⟩
 rw [hgs] at hrow ⊢
 clear hgs HS
 have hcl := HU.out.vars (Below.refl w2.heap.size w2) [lo2 - hi - 1, hi - 1 - lo] (some ⟨gs, 0, none⟩) 2 2 (IntsK.of_row (zs := [lo2 - hi - 1, hi - 1 - lo]) hrow (fun x hx => by simp only [List.mem_cons, List.not_mem_nil, or_false] at hx; rcases hx with rfl | rfl <;> exact wf_u64r (by omega) (by omega))) (by omega) (fun x hx => by simp only [List.mem_cons, List.not_mem_nil, or_false] at hx; rcases hx with rfl | rfl <;> omega) (by omega)
 have HCL := Qh hcl; have HS2 := Qh hS2
 clear hcl hS2 hrow
 refine plan_us (by rfl) (by kernel_rfl) ?_
 intro K2 hK2
 go_wp2_with fail
 refine Calls.mono HCL.out ?_
 rintro e w3 ⟨v3, rfl, hb, hu⟩
 have hS3 : w3.heap[gf]? = _ ∧ w3.heap[gr]? = _ ∧ w3.cell? ⟨ab, ao + (i + 1) * 2, none⟩ = _ := ⟨bl_row hb (lt_of_block HS2.out.1) HS2.out.1, bl_row hb (lt_of_block HS2.out.2.1) HS2.out.2.1, bl_cell hb (p := ⟨ab, ao + (i + 1) * 2, none⟩) hab2 HS2.out.2.2⟩
 have HN := Qh hu
 clear hu hb
 go_wp2_with fail
 refine ⟨hS3, ?_⟩
 clear hS3
 repeat (first | (refine plan_t (by rfl) ?_; (first | go_big_quiet_skip | (go_big_quiet_want; go_big_quiet_op; go_big_quiet_on)); refine wpQuiet_nil ?_))
 clear hne
 show Q _ _ _
 exact HK.out _ _ _ _ _ _ _ _ _ _ _ _ _ _ _ _ _ _ _ _ v3 w3 HN
theorem one4_2 (w : World) (f : Fr) (dv rv : Value) (h : FrAt w f dv rv) (hk : f.kind = 2) (hr : rightB f = true) (hg : RgOk f) :
  Calls Try.prog 19 #[.agg (f.cells dv rv).toArray] w fun e w' => OneR w f e w' := by
 have hone : oneFM f = varsM [2] ++ varsM (ackV f.rg f.de) := by unfold oneFM bodyM kindM; simp [hk, varsM]
 unfold OneR
 simp only [hone]
 obtain ⟨hfall, hn1, hn16, hde⟩ := ack_fall hr hk hg
 obtain ⟨ra, rn, rc, rfl, hr1, hr2, hR⟩ := h.r
 have hde2 := h.wf.de
 simp only [U64] at hde2
 have hln : f.rg.length = rn := hR.1.symm
 have H0 : Hid ((f.cells dv (.slice ra rn rc))[0]? = some (.int .i64 2)) := Qh (by rw [← hk]; rfl)
 have H9 : Hid ((f.cells dv (.slice ra rn rc))[9]? = some (.int .u64 f.de)) := Qh rfl
 have H10 : Hid ((f.cells dv (.slice ra rn rc))[10]? = some (.slice ra rn rc)) := Qh rfl
 obtain ⟨RF, hRF⟩ : ∃ R, f.cells dv (.slice ra rn rc) = R := ⟨_, rfl⟩
 rw [hRF] at H0 H9 H10 ⊢
 obtain ⟨rg, hrg⟩ : ∃ r, f.rg = r := ⟨_, rfl⟩
 obtain ⟨de, hdee⟩ : ∃ r, f.de = r := ⟨_, rfl⟩
 rw [hrg] at hln hfall hn1 hn16 hR ⊢
 rw [hdee] at hde hde2 H9 ⊢
 clear hRF hrg hdee hr hg hk h hone
 rw [hln] at hn1 hn16
 obtain ⟨d0, d1⟩ := hde2
 obtain ⟨m, rfl⟩ : ∃ m, rn = m + 1 := ⟨rn - 1, by omega⟩
 have HLN := Qh hln
 obtain ⟨ab, ao, x, rfl, hab, hx, hok, hrgx⟩ := hR.at (j := m) (by omega)
 obtain ⟨d, e⟩ := x
 have hu1 := hok.1; have hu2 := hok.2
 simp only [U64] at hu1 hu2
 have hrev0 : rg.reverse[0]? = some (d, e) := by rw [rev_at hln (by omega)]; exact hx
 obtain ⟨tl, htl⟩ : ∃ tl, rg.reverse = (d, e) :: tl := by
  cases hq : rg.reverse with
  | nil => rw [hq] at hrev0; cases hrev0
  | cons y l => rw [hq] at hrev0; injection hrev0 with e9; exact ⟨l, by rw [e9]⟩
 have htll : tl.length = m := by have := congrArg List.length htl; rw [List.length_reverse, hln, List.length_cons] at this; omega
 have htop : e ≤ 4611686018427387904 ∧ d < e := by rw [htl] at hfall; cases tl with
  | nil => exact ⟨hfall.2.2, hfall.2.1⟩
  | cons z l => exact ⟨hfall.2.2.1, hfall.2.1⟩
 have hack : ackV rg de = [e - 1, de, (m : Int), e - 1 - d] ++ revGaps rg.reverse := by unfold ackV; rw [htl]; simp only; rw [htll]
 have hrev1 : revGaps (rg.reverse.take (0 + 1)) = [] := gaps_one
 rw [hack]
 have HREV := Qh hrev1
 have HFALL := Qh hfall
 obtain ⟨t1, t2⟩ := htop
 have HRW := Qh hR
 have HRGX : Hid (w.rangeAt ab (ao + m * 2) [.int .u64 d, .int .u64 e]) := Qh hrgx
 have hab2 : ab < w.heap.size := hab
 have HAB := Qh hab2
 obtain ⟨u1, u2⟩ := hu1
 obtain ⟨u3, u4⟩ := hu2
 clear hR hx hok hrgx hrev0 htl htll hack hrev1 hfall hab hab2 tl hln
 go_enter Try.func19, Try.ntmps19
 go_upto_region 1 with fail
 change Code.wp _ _ _ _ (w.alloc (.cells RF.toArray 39))
 have HB := Qh (Below.refl w.heap.size w)
 replace HRGX := Qh (rng_bl ((Below.refl w.heap.size w).alloc (Nat.le_refl _) (.cells RF.toArray 39)) HAB.out HRGX.out)
 replace HAB := Qh (Nat.lt_of_lt_of_le HAB.out ((Below.refl w.heap.size w).alloc (Nat.le_refl _) (.cells RF.toArray 39)).size)
 have hb := (Below.refl w.heap.size w).alloc (Nat.le_refl _) (.cells RF.toArray 39)
 replace HB := Qh (bl_next HB.out HB.out.size hb)
 replace HRW := Qh (HRW.out.below hb)
 have HF := Qh (heap_alloc_new w (.cells RF.toArray 39))
 clear hb
 generalize w.alloc (.cells RF.toArray 39) = w1 at HRW HB HRGX HAB HF ⊢
 obtain ⟨gf, hg⟩ : ∃ g, w.heap.size = g := ⟨_, rfl⟩
 rw [hg] at HF ⊢
 clear hg
 have HF0 := HF
 have c0 := cell_row HF.out 0 _ H0.out
 have hcl := rvars_any (w1.alloc (.cells ([.int .u64 (2)] : List Value).toArray 34)) none 0 0 [] (some ⟨w1.heap.size, 0, none⟩) 1 1 [2] (IntsK.nil _ _ _) (IntsK.of_row (zs := [2]) (heap_alloc_new _ _) (fun x hx => by simp only [List.mem_cons, List.not_mem_nil, or_false] at hx; subst hx; exact wf_u64r (by omega) (by omega))) (by omega) (fun x hx => by simp only [List.mem_cons, List.not_mem_nil, or_false] at hx; subst hx; omega) (by omega)
 simp only [List.nil_append] at hcl
 have HCL := Qh hcl
 clear hcl
 go_wp2_with fail
 refine Calls.mono HCL.out ?_
 rintro e9 w2 ⟨vw2, rfl, hu⟩
 clear HCL
 have HU := Qh (RwU.from ((Below.refl w1.heap.size w1).alloc (Nat.le_refl _) (.cells ([.int .u64 (2)] : List Value).toArray 34)) hu)
 clear hu
 clear c0 HF
 have HF := Qh (HU.out.row HF0.out)
 have c0 := cell_row HF.out 0 _ H0.out
 have c9 := cell_row HF.out 9 _ H9.out
 have c10 := cell_row HF.out 10 _ H10.out
 have HRGX0 := HRGX
 replace HRGX := Qh (rng_bl HU.out.1 HAB.out HRGX.out)
 go_upto_region 6 with (first | (refine wpList_load_mid rfl 71 _ rfl ab (ao + m * 2) rfl [.int .u64 d, .int .u64 e] _ HRGX.out Try.underlying71 rfl rfl ?_) | fail)
 change Code.wp _ _ _ _ (w2.alloc (.cells ([.int .u64 d, .int .u64 e] : List Value).toArray 71))
 clear c0 c9 c10 HRGX
 have hb := (Below.refl w2.heap.size w2).alloc (Nat.le_refl _) (.cells ([.int .u64 d, .int .u64 e] : List Value).toArray 71)
 replace HU := Qh (HU.out.to hb)
 replace HF := Qh (HU.out.row HF0.out)
 have HG := Qh (heap_alloc_new w2 (.cells ([.int .u64 d, .int .u64 e] : List Value).toArray 71))
 clear hb
 generalize w2.alloc (.cells ([.int .u64 d, .int .u64 e] : List Value).toArray 71) = w3 at HU HF HG ⊢
 obtain ⟨gr, hg⟩ : ∃ g, w2.heap.size = g := ⟨_, rfl⟩
 rw [hg] at HG ⊢
 clear hg
 have c9 := cell_row HF.out 9 _ H9.out
 have c10 := cell_row HF.out 10 _ H10.out
 have c11 := row_cell HG.out 0 _ rfl
 have c12 := row_cell HG.out 1 _ rfl
 have hcl := HU.out.vars ((Below.refl w3.heap.size w3).alloc (Nat.le_refl _) (.cells ([.int .u64 (e - 1), .int .u64 (de), .int .u64 ((m : Int)), .int .u64 (e - 1 - d)] : List Value).toArray 34)) [e - 1, de, (m : Int), e - 1 - d] (some ⟨w3.heap.size, 0, none⟩) 4 4 (IntsK.of_row (zs := [e - 1, de, (m : Int), e - 1 - d]) (heap_alloc_new _ _) (fun x hx => by simp only [List.mem_cons, List.not_mem_nil, or_false] at hx; rcases hx with rfl | rfl | rfl | rfl <;> exact wf_u64r (by omega) (by omega))) (by omega) (fun x hx => by simp only [List.mem_cons, List.not_mem_nil, or_false] at hx; rcases hx with rfl | rfl | rfl | rfl <;> omega) (by have := varsM_le [(2 : Int)]; simp only [List.length_cons, List.length_nil] at this; omega)
 have HCL := Qh hcl
 clear hcl
 go_wp2_with fail
 refine Calls.mono HCL.out ?_
 rintro e9 w4 ⟨vw4, rfl, _, hu⟩
 clear HCL
 replace HU := Qh hu
 clear hu
 clear c9 c10 c11 c12 HG HF
 go_wp2_with fail
 go_loopw [3, 6] (fun s3 s6 wr => ∃ (j : Nat) (v : Value), s3 = v ∧ s6 = .int .i64 ((m : Int) - 1 - j) ∧ j ≤ m ∧ Hid (RwU w1 v wr (varsM [2] ++ varsM ([e - 1, de, (m : Int), e - 1 - d] ++ revGaps (rg.reverse.take (j + 1)))))) (fun _ s _ => (intOf s + 1).toNat)
 case atStart => exact ⟨0, _, rfl, by simp; omega, by omega, Qh (by rw [HREV.out, List.append_nil]; exact HU.out)⟩
 case round =>
  clear HU
  obtain ⟨j, v, rfl, rfl, hj, HU⟩ := hrel
  by_cases hlt : j < m
  ·
   obtain ⟨i, hi⟩ : ∃ i : Nat, m = i + j + 1 := ⟨m - 1 - j, by omega⟩
   obtain ⟨i2, hi2⟩ : ∃ i2 : Int, (m : Int) - 1 - j = i2 := ⟨_, rfl⟩
   have hi3 : i2 = (i : Int) := by omega
   rw [hi2, hi3]
   clear hi2 hi3 i2
   have hrw : rgK.At wr (some ⟨ab, ao, none⟩) (m + 1) rg := HRW.out.below HU.out.1
   obtain ⟨ab', ao', x, e1, _, hx, hok, hrgx⟩ := hrw.at (j := i) (by omega)
   injection e1 with e1; injection e1 with e1 e2; subst e1; subst e2
   obtain ⟨ab', ao', y, e1, habw, hy, hok2, hrgy⟩ := hrw.at (j := i + 1) (by omega)
   injection e1 with e1; injection e1 with e1 e2; subst e1; subst e2
   obtain ⟨lo, hi9⟩ := x
   obtain ⟨lo2, hi29⟩ := y
   have hra : rg.reverse[j]? = some (lo2, hi29) := by rw [rev_at HLN.out (by omega), show m + 1 - 1 - j = i + 1 by omega]; exact hy
   have hrb : rg.reverse[j + 1]? = some (lo, hi9) := by rw [rev_at HLN.out (by omega), show m + 1 - 1 - (j + 1) = i by omega]; exact hx
   have HGS := Qh (gaps_snoc hra hrb)
   have hfa := fall_at HFALL.out hra hrb
   simp only at hfa
   have hlo2c : wr.cell? ⟨ab, ao + (i + 1) * 2, none⟩ = some (.int .u64 lo2) := hrgy 0 _ rfl
   have HRX : Hid (wr.rangeAt ab (ao + i * 2) [.int .u64 lo, .int .u64 hi9]) := Qh hrgx
   have HL2 := Qh hlo2c
   have HFW := Qh (HU.out.row HF0.out)
   clear hrw hx hok hrgx hy hok2 hrgy hra hrb hlo2c
   obtain ⟨f1, f2, f3, f4⟩ := hfa
   have HIJ := Qh hi
   have hin9 : i + 1 < m + 1 := by omega
   have hle9 := varsM_le ([e - 1, de, (m : Int), e - 1 - d] ++ revGaps (rg.reverse.take (j + 1)))
   have hlg : (revGaps (rg.reverse.take (j + 1))).length ≤ 40 := by have := gaps_len (rg.reverse.take (j + 1)); have h9 := List.length_take_le (j + 1) rg.reverse; omega
   simp only [List.length_append, List.length_cons, List.length_nil] at hle9
   have hbl : (varsM [2] ++ varsM ([e - 1, de, (m : Int), e - 1 - d] ++ revGaps (rg.reverse.take (j + 1)))).length ≤ 100000 := by rw [List.length_append]; have := varsM_le [(2 : Int)]; simp only [List.length_cons, List.length_nil] at this; omega
   have HBL := Qh hbl
   clear hle9 hlg hbl hi
   have c10 := cell_row HFW.out 10 _ H10.out
   go_upto_region 11 with (first | (refine wpList_load_mid rfl 71 _ rfl ab (ao + i * 2) rfl [.int .u64 lo, .int .u64 hi9] _ HRX.out Try.underlying71 rfl rfl ?_) | fail)
   change Code.wp _ _ _ _ (wr.alloc (.cells ([.int .u64 lo, .int .u64 hi9] : List Value).toArray 71))
   clear c10 HRX
   have hb := (Below.refl wr.heap.size wr).alloc (Nat.le_refl _) (.cells ([.int .u64 lo, .int .u64 hi9] : List Value).toArray 71)
   replace HU := Qh (HU.out.to hb)
   replace HFW := Qh (HU.out.row HF0.out)
   replace HL2 := Qh (bl_cell hb (p := ⟨ab, ao + (i + 1) * 2, none⟩) habw HL2.out)
   have HG := Qh (heap_alloc_new wr (.cells ([.int .u64 lo, .int .u64 hi9] : List Value).toArray 71))
   have hab5 := Nat.lt_of_lt_of_le habw hb.size
   clear hb habw
   generalize wr.alloc (.cells ([.int .u64 lo, .int .u64 hi9] : List Value).toArray 71) = w5 at HU HFW HL2 HG hab5 ⊢
   obtain ⟨gr, hg⟩ : ∃ g, wr.heap.size = g := ⟨_, rfl⟩
   rw [hg] at HG ⊢
   clear hg
   refine one_gap _ HU HBL.out HFW H10 HG HL2 hab5 hin9 hn16 ⟨f1, f2, f3, f4⟩ (fun c a d v w h => by cases d <;> exact h) ?_
   rintro _ _ _ _ _ _ _ _ _ _ _ _ _ _ _ _ _ _ _ _ v6 w6 HU6
   have HN : Hid (RwU w1 v6 w6 (varsM [2] ++ varsM ([e - 1, de, (m : Int), e - 1 - d] ++ revGaps (rg.reverse.take (j + 1 + 1))))) := Qh (by rw [show j + 1 + 1 = j + 2 by omega, HGS.out, ← List.append_assoc [e - 1, de, (m : Int), e - 1 - d], varsM_app _ [lo2 - hi9 - 1, hi9 - 1 - lo], ← List.append_assoc]; exact HU6.out)
   clear HU6 HG HL2 HFW HGS HU HBL hab5
   go_wp2_with fail
   go_roundw
   case rel => exact ⟨j + 1, _, rfl, by rw [show ((m : Int) - 1 - ((j + 1 : Nat) : Int)) = (i : Int) - 1 by have := HIJ.out; omega], by omega, HN⟩
   case measure => have := HIJ.out; simp [intOf] <;> omega
  ·
   obtain rfl : j = m := by omega
   have hN := RwU.from HB.out HU.out
   rw [List.take_of_length_le (by rw [List.length_reverse, HLN.out]; exact Nat.le_refl _)] at hN
   have HN := Qh hN
   clear hN HU
   rw [show (j : Int) - 1 - j = -1 by omega]
   go_wp2_with fail
   (try simp only [Exit.inBlock, Exit.then])
   go_ret
   exact ⟨_, rfl, HN.out⟩
theorem one4_any (w : World) (f : Fr) (dv rv : Value) (h : FrAt w f dv rv) (hr : rightB f = true) (hg : RgOk f) :
  Calls Try.prog 19 #[.agg (f.cells dv rv).toArray] w fun e w' => OneR w f e w' := by
 by_cases hk : f.kind = 0 ∨ f.kind = 1 ∨ f.kind = 30 ∨ f.kind = 26 ∨ f.kind = 27 ∨ f.kind = 2 ∨ f.kind = 4 ∨ f.kind = 5 ∨ f.kind = 6 ∨ f.kind = 8 ∨ f.kind = 16 ∨ f.kind = 17 ∨ f.kind = 18 ∨ f.kind = 20 ∨ f.kind = 24 ∨ f.kind = 25 ∨ f.kind = 28
 ·
  rcases hk with hk | hk | hk | hk | hk | hk | hk | hk | hk | hk | hk | hk | hk | hk | hk | hk | hk
  ·
   exact one4_0 w f dv rv h hk hr
  ·
   exact one4_1 w f dv rv h hk hr
  ·
   exact one4_30 w f dv rv h hk hr
  ·
   exact one4_26 w f dv rv h hk hr
  ·
   exact one4_27 w f dv rv h hk hr
  ·
   exact one4_2 w f dv rv h hk hr hg
  ·
   exact one4_4 w f dv rv h hk hr
  ·
   exact one4_5 w f dv rv h hk hr
  ·
   exact one4_6 w f dv rv h hk hr
  ·
   exact one4_8 w f dv rv h hk hr
  ·
   exact one4_16 w f dv rv h hk hr
  ·
   exact one4_17 w f dv rv h hk hr
  ·
   exact one4_18 w f dv rv h hk hr
  ·
   exact one4_20 w f dv rv h hk hr
  ·
   exact one4_24 w f dv rv h hk hr
  ·
   exact one4_25 w f dv rv h hk hr
  ·
   exact one4_28 w f dv rv h hk hr
 ·
  simp only [not_or] at hk
  have hR : rightB f = false := by unfold rightB; simp [hk]
  rw [hR] at hr; cases hr
theorem rencode4_any (w : World) (a : Option Addr) (n cp : Nat) (l : List FX) (h : FrsAt w a n l) (hn : n ≤ 100) (hc : n ≤ cp ∧ cp ≤ 9223372036854775807) (hr : l.all (fun x => rightB x.f) = true) :
  Calls Try.prog 21 #[.slice a n cp] w fun e w' => ∃ v, e = .returned v ∧ RwU w v w' (encM l) := by
 have HL := Qh h; have HR := Qh hr
 have hln : l.length = n := h.row.1.symm
 have HLN := Qh hln
 clear h hr hln
 go_enter Try.func21, Try.ntmps21
 go_wp2_with fail
 go_loopw [3, 4] (fun s3 s4 wr => ∃ (j : Nat) (v : Value), s3 = v ∧ s4 = .int .i64 j ∧ j ≤ n ∧ Hid (RwU w v wr (encM (l.take j)))) (fun _ s4 _ => n - (intOf s4).toNat)
 case atStart => exact ⟨0, _, rfl, rfl, by omega, Qh ⟨Below.refl _ _, World.ownsRow_nil _ _ _ _, fun x hx => by simp [encM] at hx⟩⟩
 case round =>
  obtain ⟨j, v, rfl, rfl, hj, HU⟩ := hrel
  by_cases hlt : j < n
  ·
   have HLR := Qh (HL.out.below HU.out.1)
   obtain ⟨ab, ao, x, rfl, _, hx, hok, hrg⟩ := HLR.out.row.at hlt
   obtain ⟨f, dv, rv⟩ := x
   have HRG : Hid (wr.rangeAt ab (ao + j * 19) (f.cells dv rv)) := Qh hrg
   have hf9 : FrAt wr f dv rv := HLR.out.fr _ (List.mem_of_getElem? hx)
   have HTS := Qh (take_snd4 hx)
   have HRF : Hid ((f.cells dv rv).length = 19) := Qh (Fr.len hok.1)
   have hrb : rightB f = true := List.all_eq_true.1 HR.out _ (List.mem_of_getElem? hx)
   have hel := encM_le (l.take j) (fun y hy => (HL.out.fr y (List.mem_of_mem_take hy)).wf) (List.all_eq_true.2 fun y hy => List.all_eq_true.1 HR.out y (List.mem_of_mem_take hy))
   rw [List.length_take] at hel
   have hmin : min j l.length ≤ j := Nat.min_le_left ..
   have hlo := one_le hrb hok.1
   have hl9 : (encM (l.take j)).length + (oneFM f).length ≤ 140737488355328 := by omega
   have HL9 := Qh hl9
   have hcl := one4_any wr f dv rv hf9 hrb hf9.rgok
   have HWF : Hid (∀ y ∈ oneFM f, (Lit.int .u8 y).wf = true) := Qh (one_wf hf9 hrb)
   obtain ⟨RF, hRF⟩ : ∃ R, f.cells dv rv = R := ⟨_, rfl⟩
   rw [hRF] at HRG HRF hcl
   have HCL := Qh hcl
   clear hx hok hrg hel hmin hlo hl9 HLR hf9 hcl hRF hrb
   go_wp2_with (first | (refine wpList_load_mid rfl 39 _ rfl ab (ao + j * 19) rfl RF _ HRG.out Try.underlying39 rfl (by rw [HRF.out]; rfl) ?_) | fail)
   refine Calls.mono HCL.out ?_
   rintro e9 w1 ⟨v1, rfl, hu⟩
   replace HU := Qh (HU.out.to hu.1)
   obtain ⟨a1, c1, rfl, _, _, hi1⟩ := hu.ints
   obtain ⟨bv, cv, hv9, _, _⟩ := sl_own HU.out.2.1
   subst hv9
   have HSZ := Qh HU.out.1.size; have HO := Qh HU.out.2.1; have HI := Qh hi1
   clear hu hi1 HCL HRG
   go_wp2_with (first | (at_builtin; refine wpList_append_bytes rfl _ _ rfl w.heap.size _ _ _ rfl HO.out a1 (oneFM f).length c1 (oneFM f) rfl HI.out HL9.out HSZ.out ?_; intro v2 w2 hown hgrow; have HN := Qh (HU.out.app (xs := oneFM f) hgrow hown HWF.out); clear hown hgrow) | fail)
   have HN2 : Hid (RwU w v2 w2 (encM (l.take (j + 1)))) := Qh (by rw [HTS.out, encM_snoc]; exact HN.out)
   clear HN HU HO HI
   go_roundw
   case rel => exact ⟨j + 1, _, rfl, by go_num, by omega, HN2⟩
   case measure => simp [intOf]; omega
  ·
   obtain rfl : j = n := by omega
   have htk : l.take j = l := List.take_of_length_le (by rw [HLN.out]; exact Nat.le_refl _)
   rw [htk] at HU
   go_wp2_with fail
   go_ret
   exact ⟨_, rfl, HU.out⟩
end Go.Proofs.Ytmbjepcbokbemaa
namespace Go.Proofs.Ytmbjepcbokbemaa
open Go.RowKit
theorem nrm_rg_leq {f : Fr} (h : f.kind = 2 → f.rg.length ≤ 1000000) : (nrmF f).rg.length ≤ 1000000 := by
 by_cases h2 : f.kind = 2
 ·
  unfold nrmF; rw [if_pos h2]; exact h h2
 ·
  unfold nrmF
  rw [if_neg h2]
  repeat' split
  all_goals simp [zeroF]
theorem right_data6q {f : Fr} (hr : rightB f = true) (hk : f.kind = 6 ∨ f.kind = 8 ∨ f.kind = 28) : f.data.length ≤ 1000000 := Nat.le_trans (right_data hr hk) (by omega)
theorem right_rgq {f : Fr} (hr : rightB f = true) (hk : f.kind = 2) : f.rg.length ≤ 1000000 := by
 have h : (ackB f.rg && inB f.de) = true := by rw [← hr]; unfold rightB; simp [hk]
 rw [Bool.and_eq_true] at h
 have := (ackB_iff.1 h.1).2.1; omega
end Go.Proofs.Ytmbjepcbokbemaa
namespace Go.Proofs.Ytmbjepcbokbemaa
open Go.RowKit
theorem en_round {x1 x2 x3 x4 x5 x9 x10 x11 x12 x13 x14 x15 x16 x17 x18 x19 x20 x21 x22 x23 x24 x25 x26 x27 x28 x29 x30 x31 x32 x33 x34 x35 x36 x37 x38 x39 x40 x41 x42 x43 x44 x45 x46 x47 x48 x49 x50 x51 x52 x53 x54 x55 x56 x57 x58 x59 x60 x61 x62 x63 x64 x65 x66 x67 x68 x69 x70 x71 x72 x73 x74 x75 x76 x77 x78 x79 x80 x81 x82 x83 x84 x85 x86 x87 x88 x89 x90 x91 x92 x93 x94 x95 x96 x97 x98 x99 : Value} {ab ao n cp i : Nat} {b : Bool} {sz0 : Int} {f : Fr} {dv rv : Value} (w : World) {Q : Exit → Act → World → Prop}
  (HSZ0 : Hid ((sizeF f : Int) = sz0)) (HRG : Hid (w.rangeAt ab (ao + i * 19) (f.cells dv rv))) (HF : Hid (FrAt w f dv rv)) (HBB : Hid (rightB f = b)) (hi : i < n) (hn : n ≤ 1000)
  (hQp : ∀ c a d v w, Q (.panic c) (a.put d v) w → Q (.panic c) a w)
  (hQ : ∀ (y36 y37 y38 y39 y40 y41 y42 y43 y44 y45 y46 y47 y48 y49 y50 y51 y52 y53 y54 y55 y56 y57 y58 y59 y60 y61 y62 y63 y64 y65 y66 y67 y68 y69 y70 y71 y72 y73 y74 y75 y76 y77 y78 y79 : Value) (w' : World), Hid (Below w.heap.size w w') → Q .normal ⟨List.toArray (.slice (some ⟨ab, ao, none⟩) n cp :: x1 :: x2 :: x3 :: x4 :: x5 :: .int .i64 i :: .bool b :: .int .i64 sz0 :: x9 :: x10 :: x11 :: x12 :: x13 :: x14 :: x15 :: x16 :: x17 :: x18 :: x19 :: x20 :: x21 :: x22 :: x23 :: x24 :: x25 :: x26 :: x27 :: x28 :: x29 :: x30 :: x31 :: x32 :: x33 :: x34 :: x35 :: y36 :: y37 :: y38 :: y39 :: y40 :: y41 :: y42 :: y43 :: y44 :: y45 :: y46 :: y47 :: y48 :: y49 :: y50 :: y51 :: y52 :: y53 :: y54 :: y55 :: y56 :: y57 :: y58 :: y59 :: y60 :: y61 :: y62 :: y63 :: y64 :: y65 :: y66 :: y67 :: y68 :: y69 :: y70 :: y71 :: y72 :: y73 :: y74 :: y75 :: y76 :: y77 :: y78 :: y79 :: .bool false :: x81 :: x82 :: x83 :: x84 :: x85 :: x86 :: x87 :: x88 :: x89 :: x90 :: x91 :: x92 :: x93 :: x94 :: x95 :: x96 :: x97 :: x98 :: x99 :: []), []⟩ w') :
  Code.wp Try.prog (((Try.f16.body.bind (subRegion 11)).getD .skip)) Q ⟨List.toArray (.slice (some ⟨ab, ao, none⟩) n cp :: x1 :: x2 :: x3 :: x4 :: x5 :: .int .i64 i :: .bool b :: .int .i64 sz0 :: x9 :: x10 :: x11 :: x12 :: x13 :: x14 :: x15 :: x16 :: x17 :: x18 :: x19 :: x20 :: x21 :: x22 :: x23 :: x24 :: x25 :: x26 :: x27 :: x28 :: x29 :: x30 :: x31 :: x32 :: x33 :: x34 :: x35 :: x36 :: x37 :: x38 :: x39 :: x40 :: x41 :: x42 :: x43 :: x44 :: x45 :: x46 :: x47 :: x48 :: x49 :: x50 :: x51 :: x52 :: x53 :: x54 :: x55 :: x56 :: x57 :: x58 :: x59 :: x60 :: x61 :: x62 :: x63 :: x64 :: x65 :: x66 :: x67 :: x68 :: x69 :: x70 :: x71 :: x72 :: x73 :: x74 :: x75 :: x76 :: x77 :: x78 :: x79 :: x80 :: x81 :: x82 :: x83 :: x84 :: x85 :: x86 :: x87 :: x88 :: x89 :: x90 :: x91 :: x92 :: x93 :: x94 :: x95 :: x96 :: x97 :: x98 :: x99 :: []), []⟩ w := by
 have HK := Qh hQ; have HKP := Qh hQp
 clear hQ hQp
 conv => arg 2; whnf
 have HRF : Hid ((f.cells dv rv).length = 19) := Qh (Fr.len HF.out.wf)
 have HOB : Hid (ab < w.heap.size) := Qh (by have h9 := HRG.out 0 (.int .i64 f.kind) rfl; by_cases h : ab < w.heap.size; exact h; unfold World.cell? at h9; simp [Array.getElem?_eq_none (Nat.le_of_not_lt h)] at h9)
 have hrt := fun u hu => right4_any u f dv rv hu
 have has := fun u => asks4_any u f dv rv HF.out.wf
 have hra := fun u => rasks4_any u f dv rv HF.out.wf
 have hsz := fun u hu => size4_any u f dv rv hu
 have hcp := fun u hu => copy4_any u f dv rv hu
 have hsa := fun u d' r' hu hv hl => rsame4_any u (nrmF f) f d' r' dv rv hv hu hl
 obtain ⟨RF, hRF⟩ : ∃ R, f.cells dv rv = R := ⟨_, rfl⟩
 simp only [hRF] at HRG HRF hrt has hra hsz hcp hsa
 have HRT := Qh hrt; have HAS := Qh has; have HRA := Qh hra; have HSZ := Qh hsz; have HCP := Qh hcp; have HSA := Qh hsa
 clear hrt has hra hsz hcp hsa hRF
 obtain ⟨sz, hsz⟩ : ∃ s, sizeF f = s := ⟨_, rfl⟩
 rw [hsz] at HSZ0
 have hsz0 := HSZ0.out
 subst hsz0
 simp only [hsz] at HSZ
 obtain ⟨ab9, hab⟩ : ∃ s, asksB f = s := ⟨_, rfl⟩
 simp only [hab] at HAS HRA
 clear hab
 have HD : Hid (Below w.heap.size w w.drew) := Qh (Below.refl _ _).drew
 refine wp_plan (.t 0 (.t 1 (.t 2 (.t 3 (.t 5 (.u 4 (.t 6 (.t 7 (.t 8 (.t 9 (.t 10 (.t 11 (.t 13 (.t 14 (.t 15 (.t 16 (.u 12 (.u 17 (.t 18 (.t 19 (.t 20 (.t 21 (.t 22 (.t 23 (.t 24 (.t 26 (.u 25 (.t 27 (.t 28 (.t 29 (.t 30 (.t 31 (.t 32 (.t 33 (.t 34 (.t 35 (.t 37 (.t 38 (.t 39 (.t 40 (.u 36 (.u 41 (.t 42 (.t 43 (.t 44 .done))))))))))))))))))))))))))))))))))))))))))))) (fun y => y.rangeAt ab (ao + i * 19) RF) (by kernel_rfl) (by kernel_rfl) (by kernel_rfl) (fun c a d v w h => by first | (cases d <;> exact h) | exact HKP.out c a d v w h) HRG.out ?_
 replace HF := Qh (HF.out.below HD.out)
 have HG := Qh (rng_bl HD.out HOB.out HRG.out)
 generalize w.drew = wa at HD HF HG ⊢
 haveI hne : Nonempty (In (fun y => y.rangeAt ab (ao + i * 19) RF)) := ⟨⟨w, HRG.out⟩⟩
 have q1 : (b != b) = false := by cases b <;> rfl
 have q2 : (ab9 != ab9) = false := by cases ab9 <;> rfl
 have q3 : ((sz : Int) != (sz : Int)) = false := by simp
 repeat (first | (refine plan_t_load (by rfl) (by kernel_rfl) 39 _ rfl ab (ao + i * 19) rfl RF _ (fun y hy => hy) Try.underlying39 rfl (by rw [HRF.out]; rfl) ?_; simp only [Act.put, List.setIfInBounds_toArray, List.set_cons_succ, List.set_cons_zero]) | rw [q1] | rw [q2] | rw [q3] | (refine plan_t (by rfl) ?_; (first | go_big_quiet_skip | (go_big_quiet_want; go_big_quiet_op; go_big_quiet_on)); refine wpQuiet_nil ?_))
 refine plan_us (by rfl) (by kernel_rfl) ?_
 intro K hK
 have HCL := Qh (HRT.out wa HF.out)
 go_wp2_with fail
 refine Calls.mono HCL.out ?_
 rintro e v1 ⟨rfl, hb⟩
 clear HCL
 replace HG := Qh (rng_bl hb (Nat.lt_of_lt_of_le HOB.out HD.out.size) HG.out)
 replace HD := Qh (bl_next HD.out HD.out.size hb)
 replace HF := Qh (HF.out.below hb)
 clear hb
 go_wp2_with fail
 refine ⟨HG.out, ?_⟩
 rw [HBB.out]
 repeat (first | (refine plan_t_load (by rfl) (by kernel_rfl) 39 _ rfl ab (ao + i * 19) rfl RF _ (fun y hy => hy) Try.underlying39 rfl (by rw [HRF.out]; rfl) ?_; simp only [Act.put, List.setIfInBounds_toArray, List.set_cons_succ, List.set_cons_zero]) | rw [q1] | rw [q2] | rw [q3] | (refine plan_t (by rfl) ?_; (first | go_big_quiet_skip | (go_big_quiet_want; go_big_quiet_op; go_big_quiet_on)); refine wpQuiet_nil ?_))
 refine plan_us (by rfl) (by kernel_rfl) ?_
 intro K hK
 have HCL := Qh (HAS.out v1)
 go_wp2_with fail
 refine Calls.mono HCL.out ?_
 rintro e v2 ⟨rfl, hb⟩
 clear HCL
 replace HG := Qh (rng_bl hb (Nat.lt_of_lt_of_le HOB.out HD.out.size) HG.out)
 replace HD := Qh (bl_next HD.out HD.out.size hb)
 replace HF := Qh (HF.out.below hb)
 clear hb
 go_wp2_with fail
 refine ⟨HG.out, ?_⟩
 repeat (first | (refine plan_t_load (by rfl) (by kernel_rfl) 39 _ rfl ab (ao + i * 19) rfl RF _ (fun y hy => hy) Try.underlying39 rfl (by rw [HRF.out]; rfl) ?_; simp only [Act.put, List.setIfInBounds_toArray, List.set_cons_succ, List.set_cons_zero]) | rw [q1] | rw [q2] | rw [q3] | (refine plan_t (by rfl) ?_; (first | go_big_quiet_skip | (go_big_quiet_want; go_big_quiet_op; go_big_quiet_on)); refine wpQuiet_nil ?_))
 refine plan_us (by rfl) (by kernel_rfl) ?_
 intro K hK
 have HCL := Qh (HRA.out v2)
 go_wp2_with fail
 refine Calls.mono HCL.out ?_
 rintro e v3 ⟨rfl, hb⟩
 clear HCL
 replace HG := Qh (rng_bl hb (Nat.lt_of_lt_of_le HOB.out HD.out.size) HG.out)
 replace HD := Qh (bl_next HD.out HD.out.size hb)
 replace HF := Qh (HF.out.below hb)
 clear hb
 go_wp2_with fail
 refine ⟨HG.out, ?_⟩
 repeat (first | (refine plan_t_load (by rfl) (by kernel_rfl) 39 _ rfl ab (ao + i * 19) rfl RF _ (fun y hy => hy) Try.underlying39 rfl (by rw [HRF.out]; rfl) ?_; simp only [Act.put, List.setIfInBounds_toArray, List.set_cons_succ, List.set_cons_zero]) | rw [q1] | rw [q2] | rw [q3] | (refine plan_t (by rfl) ?_; (first | go_big_quiet_skip | (go_big_quiet_want; go_big_quiet_op; go_big_quiet_on)); refine wpQuiet_nil ?_))
 refine plan_us (by rfl) (by kernel_rfl) ?_
 intro K hK
 have HCL := Qh (HSZ.out v3 HF.out)
 go_wp2_with fail
 refine Calls.mono HCL.out ?_
 rintro e v4 ⟨rfl, hb⟩
 clear HCL
 replace HG := Qh (rng_bl hb (Nat.lt_of_lt_of_le HOB.out HD.out.size) HG.out)
 replace HD := Qh (bl_next HD.out HD.out.size hb)
 replace HF := Qh (HF.out.below hb)
 clear hb
 go_wp2_with fail
 refine ⟨HG.out, ?_⟩
 cases b
 ·
  repeat (first | (refine plan_t_load (by rfl) (by kernel_rfl) 39 _ rfl ab (ao + i * 19) rfl RF _ (fun y hy => hy) Try.underlying39 rfl (by rw [HRF.out]; rfl) ?_; simp only [Act.put, List.setIfInBounds_toArray, List.set_cons_succ, List.set_cons_zero]) | rw [q1] | rw [q2] | rw [q3] | (refine plan_t (by rfl) ?_; (first | go_big_quiet_skip | (go_big_quiet_want; go_big_quiet_op; go_big_quiet_on)); refine wpQuiet_nil ?_))
  refine plan_ux (by rfl) (by kernel_rfl) HG.out ?_
  simp only [Act.put, List.setIfInBounds_toArray, List.set_cons_succ, List.set_cons_zero]
  repeat (first | (refine plan_t_load (by rfl) (by kernel_rfl) 39 _ rfl ab (ao + i * 19) rfl RF _ (fun y hy => hy) Try.underlying39 rfl (by rw [HRF.out]; rfl) ?_; simp only [Act.put, List.setIfInBounds_toArray, List.set_cons_succ, List.set_cons_zero]) | rw [q1] | rw [q2] | rw [q3] | (refine plan_t (by rfl) ?_; (first | go_big_quiet_skip | (go_big_quiet_want; go_big_quiet_op; go_big_quiet_on)); refine wpQuiet_nil ?_))
  refine plan_ux (by rfl) (by kernel_rfl) HG.out ?_
  simp only [Act.put, List.setIfInBounds_toArray, List.set_cons_succ, List.set_cons_zero]
  repeat (first | (refine plan_t_load (by rfl) (by kernel_rfl) 39 _ rfl ab (ao + i * 19) rfl RF _ (fun y hy => hy) Try.underlying39 rfl (by rw [HRF.out]; rfl) ?_; simp only [Act.put, List.setIfInBounds_toArray, List.set_cons_succ, List.set_cons_zero]) | rw [q1] | rw [q2] | rw [q3] | (refine plan_t (by rfl) ?_; (first | go_big_quiet_skip | (go_big_quiet_want; go_big_quiet_op; go_big_quiet_on)); refine wpQuiet_nil ?_))
  clear hne
  show Q _ _ _
  exact HK.out _ _ _ _ _ _ _ _ _ _ _ _ _ _ _ _ _ _ _ _ _ _ _ _ _ _ _ _ _ _ _ _ _ _ _ _ _ _ _ _ _ _ _ _ v4 HD
 ·
  have hr1 := right_data6q HBB.out; have hr2 := right_rgq HBB.out
  repeat (first | (refine plan_t_load (by rfl) (by kernel_rfl) 39 _ rfl ab (ao + i * 19) rfl RF _ (fun y hy => hy) Try.underlying39 rfl (by rw [HRF.out]; rfl) ?_; simp only [Act.put, List.setIfInBounds_toArray, List.set_cons_succ, List.set_cons_zero]) | rw [q1] | rw [q2] | rw [q3] | (refine plan_t (by rfl) ?_; (first | go_big_quiet_skip | (go_big_quiet_want; go_big_quiet_op; go_big_quiet_on)); refine wpQuiet_nil ?_))
  refine plan_us (by rfl) (by kernel_rfl) ?_
  intro K hK
  have HCL := Qh (HCP.out v4 HF.out hr1 hr2)
  go_wp2_with fail
  refine Calls.mono HCL.out ?_
  rintro e v5 ⟨d', r', rfl, hf9, _, hb⟩
  clear HCL
  replace HG := Qh (rng_bl hb (Nat.lt_of_lt_of_le HOB.out HD.out.size) HG.out)
  replace HD := Qh (bl_next HD.out HD.out.size hb)
  replace HF := Qh (HF.out.below hb)
  have HFN := Qh hf9
  clear hf9
  clear hb
  go_wp2_with fail
  refine ⟨HG.out, ?_⟩
  have hnl : (nrmF f).kind = 2 → (nrmF f).rg.length ≤ 1000000 := fun _ => nrm_rg_leq hr2
  have hcl9 := HSA.out v5 d' r' HF.out HFN.out hnl
  rw [(same_nrm f).2] at hcl9
  have HCL9 := Qh hcl9
  obtain ⟨RN, hRN⟩ : ∃ R, (nrmF f).cells d' r' = R := ⟨_, rfl⟩
  rw [hRN] at HCL9 ⊢
  clear hcl9 hRN hr1 hr2 hnl
  repeat (first | (refine plan_t_load (by rfl) (by kernel_rfl) 39 _ rfl ab (ao + i * 19) rfl RF _ (fun y hy => hy) Try.underlying39 rfl (by rw [HRF.out]; rfl) ?_; simp only [Act.put, List.setIfInBounds_toArray, List.set_cons_succ, List.set_cons_zero]) | rw [q1] | rw [q2] | rw [q3] | (refine plan_t (by rfl) ?_; (first | go_big_quiet_skip | (go_big_quiet_want; go_big_quiet_op; go_big_quiet_on)); refine wpQuiet_nil ?_))
  refine plan_us (by rfl) (by kernel_rfl) ?_
  intro K hK
  have HCL := Qh (HCL9.out)
  go_wp2_with fail
  refine Calls.mono HCL.out ?_
  rintro e v6 ⟨rfl, hb⟩
  clear HCL
  replace HG := Qh (rng_bl hb (Nat.lt_of_lt_of_le HOB.out HD.out.size) HG.out)
  replace HD := Qh (bl_next HD.out HD.out.size hb)
  replace HF := Qh (HF.out.below hb)
  clear hb
  go_wp2_with fail
  refine ⟨HG.out, ?_⟩
  repeat (first | (refine plan_t_load (by rfl) (by kernel_rfl) 39 _ rfl ab (ao + i * 19) rfl RF _ (fun y hy => hy) Try.underlying39 rfl (by rw [HRF.out]; rfl) ?_; simp only [Act.put, List.setIfInBounds_toArray, List.set_cons_succ, List.set_cons_zero]) | rw [q1] | rw [q2] | rw [q3] | (refine plan_t (by rfl) ?_; (first | go_big_quiet_skip | (go_big_quiet_want; go_big_quiet_op; go_big_quiet_on)); refine wpQuiet_nil ?_))
  clear hne
  show Q _ _ _
  exact HK.out _ _ _ _ _ _ _ _ _ _ _ _ _ _ _ _ _ _ _ _ _ _ _ _ _ _ _ _ _ _ _ _ _ _ _ _ _ _ _ _ _ _ _ _ v6 HD
theorem encodes4_any (w : World) (a : Option Addr) (n cp : Nat) (l : List FX) (h : FrsAt w a n l) (hn : n ≤ 12) (hc : n ≤ cp ∧ cp ≤ 9223372036854775807) :
  Calls Try.prog 16 #[.slice a n cp] w fun e w' => e = .returned (.bool true) ∧ Below w.heap.size w w' := by
 have hln : l.length = n := h.row.1.symm
 have HLN := Qh hln; have HL := Qh h
 have HEN := Qh (encode4_any w a n cp l h hn hc)
 have HREN := Qh (fun u (hu : FrsAt u a n l) hr => rencode4_any u a n cp l hu (by omega) hc hr)
 obtain ⟨hc1, hc2⟩ := hc
 clear h hln
 go_enter Try.func16, Try.ntmps16
 go_wp2_with fail
 refine Calls.mono HEN.out ?_
 rintro e w1 ⟨hb, hres⟩
 have HB := Qh hb
 clear hb HEN
 obtain ⟨vb, ve, he, hR⟩ : ∃ vb ve, e = .returned (.tuple #[vb, .int .i64 ve]) ∧ ((l.all (fun x => rightB x.f) = true ∧ ve = 0 ∧ ∃ b c, vb = .slice b (encM l).length c ∧ IntsK .u8 w1 b (encM l).length (encM l)) ∨ (l.all (fun x => rightB x.f) = false ∧ ve = 1 ∧ vb = .slice none 0 0)) := by
  rcases hres with ⟨h1, b, c, h2, _, _, h5, _⟩ | ⟨h1, h2⟩
  ·
   exact ⟨_, _, h2, .inl ⟨h1, rfl, b, c, rfl, h5⟩⟩
  ·
   exact ⟨_, _, h2, .inr ⟨h1, rfl, rfl⟩⟩
 subst he
 have HRES := Qh hR
 clear hres hR
 go_wp2_with fail
 go_loopw [5, 6] (fun s5 s6 wr => ∃ i : Nat, s5 = .bool ((l.take i).all (fun x => rightB x.f)) ∧ s6 = .int .i64 i ∧ i ≤ n ∧ Hid (Below w1.heap.size w1 wr)) (fun _ s _ => n - (intOf s).toNat)
 case atStart => exact ⟨0, rfl, rfl, by omega, Qh (Below.refl _ _)⟩
 case round =>
  obtain ⟨i, rfl, rfl, hi, HBR⟩ := hrel
  have HLR := Qh ((HL.out.below HB.out).below HBR.out)
  by_cases hlt : i < n
  ·
   obtain ⟨ab, ao, x, rfl, _, hx, hok, hrg⟩ := HLR.out.row.at hlt
   obtain ⟨f, dv, rv⟩ := x
   have HRG : Hid (wr.rangeAt ab (ao + i * 19) (f.cells dv rv)) := Qh hrg
   have HF : Hid (FrAt wr f dv rv) := Qh (HLR.out.fr _ (List.mem_of_getElem? hx))
   have HTS := Qh (take_snd4 hx)
   have HRF : Hid ((f.cells dv rv).length = 19) := Qh (Fr.len hok.1)
   have HOB : Hid (ab < wr.heap.size) := Qh (by have h9 := hrg 0 (.int .i64 f.kind) rfl; by_cases h : ab < wr.heap.size; exact h; unfold World.cell? at h9; simp [Array.getElem?_eq_none (Nat.le_of_not_lt h)] at h9)
   clear hx hok hrg HLR
   obtain ⟨A, hA⟩ : ∃ A, (l.take i).all (fun x => rightB x.f) = A := ⟨_, rfl⟩
   obtain ⟨b, hbb⟩ : ∃ b, rightB f = b := ⟨_, rfl⟩
   have HN : Hid ((l.take (i + 1)).all (fun x => rightB x.f) = (A && b)) := Qh (by rw [HTS.out, List.all_append, hA]; simp [hbb])
   rw [hA]
   have hrt := right4_any wr f dv rv HF.out
   have hrr := rright4_any wr f dv rv HF.out
   rw [hbb] at hrr
   have HRR := Qh hrr; have HBB := Qh hbb
   clear hrt hrr hbb hA HTS
   obtain ⟨RF, hRF⟩ : ∃ R, f.cells dv rv = R := ⟨_, rfl⟩
   have HRE := Qh hRF
   rw [hRF] at HRR HRG HRF
   clear hRF
   cases b
   ·
    have HSF : Hid ((sizeF f : Int) = 0) := Qh (by unfold sizeF; rw [if_neg (by rw [HBB.out]; simp)]; rfl)
    cases A
    all_goals
     go_wp2_with (first | (refine wpList_load_mid rfl 39 _ rfl ab (ao + i * 19) rfl RF _ HRG.out Try.underlying39 rfl (by rw [HRF.out]; rfl) ?_) | fail)
     refine Calls.mono HRR.out ?_
     rintro e w2 ⟨rfl, hb⟩
     have HRG2 : Hid (w2.rangeAt ab (ao + i * 19) (f.cells dv rv)) := Qh (by rw [HRE.out]; exact rng_bl hb HOB.out HRG.out)
     have HF2 := Qh (HF.out.below hb)
     have HBN := Qh (bl_next HBR.out HBR.out.size hb)
     clear hb HRR
     go_upto_region 11 with fail
     refine en_round _ HSF HRG2 HF2 HBB hlt (by omega) (fun c a d v w h => by cases d <;> exact h) ?_
     rintro _ _ _ _ _ _ _ _ _ _ _ _ _ _ _ _ _ _ _ _ _ _ _ _ _ _ _ _ _ _ _ _ _ _ _ _ _ _ _ _ _ _ _ _ w9 HB9
     replace HBN := Qh (bl_next HBN.out HBN.out.size HB9.out)
     clear HB9 HRG HRG2 HF HF2 HSF
     go_wp2_with fail
     go_roundw
     case rel => exact ⟨i + 1, by rw [HN.out]; rfl, by go_num, by omega, HBN⟩
     case measure => simp [intOf]; omega
   ·
    have HSF : Hid ((sizeF f : Int) = (oneFM f).length) := Qh (by unfold sizeF; rw [if_pos HBB.out])
    cases A
    all_goals
     go_wp2_with (first | (refine wpList_load_mid rfl 39 _ rfl ab (ao + i * 19) rfl RF _ HRG.out Try.underlying39 rfl (by rw [HRF.out]; rfl) ?_) | fail)
     refine Calls.mono HRR.out ?_
     rintro e w2 ⟨rfl, hb⟩
     have HRG2 := Qh (rng_bl hb HOB.out HRG.out)
     have HF2 := Qh (HF.out.below hb)
     have HBN := Qh (bl_next HBR.out HBR.out.size hb)
     have HOB2 := Qh (Nat.lt_of_lt_of_le HOB.out hb.size)
     have hcl := one4_any w2 f dv rv HF2.out HBB.out HF2.out.rgok
     rw [HRE.out] at hcl
     have HCL := Qh hcl
     clear hb HRR hcl
     go_wp2_with (first | (refine wpList_load_mid rfl 39 _ rfl ab (ao + i * 19) rfl RF _ HRG2.out Try.underlying39 rfl (by rw [HRF.out]; rfl) ?_) | fail)
     refine Calls.mono HCL.out ?_
     rintro e w3 ⟨v3, rfl, hu⟩
     have hb := hu.1
     obtain ⟨a3, c3, rfl, _, _, _⟩ := hu.ints
     have HRG3 : Hid (w3.rangeAt ab (ao + i * 19) (f.cells dv rv)) := Qh (by rw [HRE.out]; exact rng_bl hb HOB2.out HRG2.out)
     have HF3 := Qh (HF2.out.below hb)
     replace HBN := Qh (bl_next HBN.out HBN.out.size hb)
     clear hb hu HCL
     go_upto_region 11 with fail
     refine en_round _ HSF HRG3 HF3 HBB hlt (by omega) (fun c a d v w h => by cases d <;> exact h) ?_
     rintro _ _ _ _ _ _ _ _ _ _ _ _ _ _ _ _ _ _ _ _ _ _ _ _ _ _ _ _ _ _ _ _ _ _ _ _ _ _ _ _ _ _ _ _ w9 HB9
     replace HBN := Qh (bl_next HBN.out HBN.out.size HB9.out)
     clear HB9 HRG HRG2 HF HF2 HSF HRG3 HF3
     go_wp2_with fail
     go_roundw
     case rel => exact ⟨i + 1, by rw [HN.out]; rfl, by go_num, by omega, HBN⟩
     case measure => simp [intOf]; omega
  ·
   obtain rfl : i = n := by omega
   have htk : l.take i = l := List.take_of_length_le (by rw [HLN.out]; exact Nat.le_refl _)
   rw [htk]
   clear htk
   obtain ⟨h1, rfl, b, c, rfl, hI⟩ | ⟨h1, rfl, rfl⟩ := HRES.out
   ·
    have HALL := Qh h1; have HI := Qh hI
    rw [h1]
    clear h1 hI HRES
    go_upto_region 15 with fail
    refine wp_plan (.t 0 (.t 1 (.t 2 (.t 3 (.t 4 (.t 5 (.u 6 (.t 7 (.t 8 (.t 9 (.t 10 .done))))))))))) (fun y => Below wr.heap.size wr y) (by kernel_rfl) (by kernel_rfl) (by kernel_rfl) (fun c a d v w h => by cases d <;> exact h) (Below.refl _ _).drew ?_
    have HD : Hid (Below wr.heap.size wr wr.drew) := Qh (Below.refl _ _).drew
    generalize wr.drew = w4 at HD ⊢
    haveI hne : Nonempty (In fun y => Below wr.heap.size wr y) := ⟨⟨wr, Below.refl _ _⟩⟩
    have hcv1 : ∀ s : In (fun y => Below wr.heap.size wr y), (convert 25 9 (.slice b (encM l).length c)).run Try.prog s.w = .ok (.string (strOfNums (encM l))) s.w := fun s => conv_ints _ 5 _ _ Try.underlying25 Try.underlying5 Try.underlying9 ((HI.out.below HBR.out).below s.h)
    repeat (first | (refine plan_t (by rfl) ?_; (first | go_big_quiet_skip | (go_big_quiet_want; go_big_quiet_op; go_big_quiet_on)); refine wpQuiet_nil ?_))
    refine plan_un (by rfl) (by kernel_rfl) ?_
    intro K hK
    have HCL := Qh (HREN.out w4 (((HL.out.below HB.out).below HBR.out).below HD.out) HALL.out)
    go_wp2_with fail
    refine Calls.mono HCL.out ?_
    rintro e w5 ⟨v5, rfl, hu⟩
    obtain ⟨a5, c5, rfl, _, _, hi5⟩ := hu.ints
    have hcv2 : ∀ s : In (fun y => Below w5.heap.size w5 y), (convert 25 9 (.slice a5 (encM l).length c5)).run Try.prog s.w = .ok (.string (strOfNums (encM l))) s.w := fun s => conv_ints _ 5 _ _ Try.underlying25 Try.underlying5 Try.underlying9 (hi5.below s.h)
    have HD5 := Qh (bl_next HD.out HD.out.size hu.1)
    clear hu hi5 hcv1 HCL
    go_wp2_with fail
    refine ⟨fun y => Below w5.heap.size w5 y, fun y hy => bl_next HD5.out HD5.out.size hy, Below.refl _ _, ?_⟩
    clear hne
    haveI hne2 : Nonempty (In fun y => Below w5.heap.size w5 y) := ⟨⟨w5, Below.refl _ _⟩⟩
    obtain ⟨STR, hST⟩ : ∃ S, strOfNums (encM l) = S := ⟨_, rfl⟩
    rw [hST] at hcv2 ⊢
    have q_str : (STR.toList == STR.toList) = true := by simp
    repeat (first | (refine plan_t (by rfl) ?_; (first | go_big_quiet_skip | (go_big_quiet_want; go_big_quiet_op; go_big_quiet_on)); refine wpQuiet_nil ?_))
    clear hne2 hcv2
    show Exit.then _ _ _ _ _
    go_wp2_with fail
    go_ret
    exact ⟨rfl, bl_next HB.out HB.out.size (bl_next HBR.out HBR.out.size HD5.out)⟩
   ·
    rw [h1]
    clear h1 HRES
    go_wp2_with fail
    (try simp only [Exit.inBlock, Exit.then])
    go_ret
    exact ⟨rfl, bl_next HB.out HB.out.size HBR.out⟩
end Go.Proofs.Ytmbjepcbokbemaa
namespace Go.Proofs.Ytmbjepcbokbemaa
open Go.RowKit
theorem grown_new {w y z : World} {r : Option Nat} {g : Nat} (h : w.grownBy y r) (hg : y.grownBy z (some g)) (hl : w.heap.size ≤ g) : w.grownBy z r :=
 ⟨hg.os.trans h.os, hg.tape.trans h.tape, hg.output.trans h.output, Nat.le_trans h.size hg.size, fun i hi hr => (hg.block i (Nat.lt_of_lt_of_le hi h.size) (by intro e; injection e with e; omega)).trans (h.block i hi hr)⟩
theorem grown_to {w y z : World} {r : Option Nat} (h : w.grownBy y r) (hb : Below y.heap.size y z) : w.grownBy z r :=
 ⟨hb.os.trans h.os, hb.tape.trans h.tape, hb.output.trans h.output, Nat.le_trans h.size hb.size, fun i hi hr => (hb.block i (Nat.lt_of_lt_of_le hi h.size)).trans (h.block i hi hr)⟩
theorem grown_from {w y z : World} {r : Option Nat} (hb : Below w.heap.size w y) (h : y.grownBy z r) : w.grownBy z r :=
 ⟨h.os.trans hb.os, h.tape.trans hb.tape, h.output.trans hb.output, Nat.le_trans hb.size h.size, fun i hi hr => (h.block i (Nat.lt_of_lt_of_le hi hb.size) hr).trans (hb.block i hi)⟩
theorem splice_name (bs : List Int) (bad : Bool) : splice ([.int .u8 0, .int .u8 0, .int .u8 0, .int .u8 0, .int .u8 0, .int .u8 0, .int .u8 0, .int .u8 0] : List Value) 0 ((rdM bs bad 8).1.map (Value.int .u8)) = (nameR bs bad).1.map (Value.int .u8) := by
 unfold nameR
 rcases rd8 bs bad with ⟨h1, h2⟩ | ⟨h1, h2⟩
 ·
  simp only [h1, if_true, h2]; rfl
 ·
  simp only [h1]
  generalize (rdM bs bad 8).1 = c at h2
  unfold splice
  simp [h2]
theorem rname_any (W0 w : World) (L p : Nat) (bs : List Int) (bad : Bool) (h : Rd W0 w L p 105 bs bad) :
  Calls Try.prog 72 #[.pointer (some ⟨p, 0, none⟩)] w fun e w' => e = .returned (.agg ((nameR bs bad).1.map (Value.int .u8)).toArray) ∧ Rd W0 w' L p 105 (nameR bs bad).2.1 (nameR bs bad).2.2 ∧ w.grownBy w' (some p) := by
 have hyl := rd8_le bs bad
 have hsp := splice_name bs bad
 have hwf := name_wf bad h.bytes
 have hnl := name_len bs bad
 have hnr : (nameR bs bad).2 = (rdM bs bad 8).2 := rfl
 obtain ⟨nm, hnm⟩ : ∃ r, (nameR bs bad).1 = r := ⟨_, rfl⟩
 rw [hnr, hnm]
 rw [hnm] at hsp hnl hwf
 obtain ⟨⟨y1, y2, y3⟩, hy⟩ : ∃ r, rdM bs bad 8 = r := ⟨_, rfl⟩
 rw [hy] at hyl hsp ⊢
 have HY := Qh hy; have HYL := Qh hyl; have HSP := Qh hsp; have HR := Qh h; have HNL := Qh hnl; have HPW := Qh h.lt
 clear hy hyl hsp h hnl hnr hnm hwf
 go_enter Try.func72, Try.ntmps72
 go_upto_region 2 with fail
 change Code.wp _ _ _ _ ((w.alloc (.cells ([.int .u8 0, .int .u8 0, .int .u8 0, .int .u8 0, .int .u8 0, .int .u8 0, .int .u8 0, .int .u8 0] : List Value).toArray 37)).alloc (.cells ([.int .u8 0, .int .u8 0, .int .u8 0, .int .u8 0, .int .u8 0, .int .u8 0, .int .u8 0, .int .u8 0] : List Value).toArray 37))
 have HB := Qh (Below.refl w.heap.size w)
 obtain ⟨go, hg0⟩ : ∃ g, w.heap.size = g := ⟨_, rfl⟩
 try rw [hg0]
 have hb := (Below.refl w.heap.size w).alloc (Nat.le_refl _) (.cells ([.int .u8 0, .int .u8 0, .int .u8 0, .int .u8 0, .int .u8 0, .int .u8 0, .int .u8 0, .int .u8 0] : List Value).toArray 37)
 have hrw := heap_alloc_new w (.cells ([.int .u8 0, .int .u8 0, .int .u8 0, .int .u8 0, .int .u8 0, .int .u8 0, .int .u8 0, .int .u8 0] : List Value).toArray 37)
 have hsz : (w.alloc (.cells ([.int .u8 0, .int .u8 0, .int .u8 0, .int .u8 0, .int .u8 0, .int .u8 0, .int .u8 0, .int .u8 0] : List Value).toArray 37)).heap.size = go + 1 := by simp [hg0]
 rw [hg0] at hrw
 replace HB := Qh (bl_next HB.out HB.out.size hb)
 have HO := Qh hrw
 clear hb hrw
 generalize w.alloc (.cells ([.int .u8 0, .int .u8 0, .int .u8 0, .int .u8 0, .int .u8 0, .int .u8 0, .int .u8 0, .int .u8 0] : List Value).toArray 37) = w1 at HB HO hsz ⊢
 have hg1 := hsz
 clear hsz
 have HG0 := Qh hg0
 clear hg0
 have hb := (Below.refl w1.heap.size w1).alloc (Nat.le_refl _) (.cells ([.int .u8 0, .int .u8 0, .int .u8 0, .int .u8 0, .int .u8 0, .int .u8 0, .int .u8 0, .int .u8 0] : List Value).toArray 37)
 have hrw := heap_alloc_new w1 (.cells ([.int .u8 0, .int .u8 0, .int .u8 0, .int .u8 0, .int .u8 0, .int .u8 0, .int .u8 0, .int .u8 0] : List Value).toArray 37)
 have hsz : (w1.alloc (.cells ([.int .u8 0, .int .u8 0, .int .u8 0, .int .u8 0, .int .u8 0, .int .u8 0, .int .u8 0, .int .u8 0] : List Value).toArray 37)).heap.size = go + 1 + 1 := by simp [hg1]
 rw [hg1] at hrw
 replace HB := Qh (bl_next HB.out HB.out.size hb)
 replace HO := Qh (bl_row hb (lt_of_block HO.out) HO.out)
 have HG := Qh hrw
 clear hb hrw
 generalize w1.alloc (.cells ([.int .u8 0, .int .u8 0, .int .u8 0, .int .u8 0, .int .u8 0, .int .u8 0, .int .u8 0, .int .u8 0] : List Value).toArray 37) = w2 at HB HO HG hsz ⊢
 have hg2 := hsz
 clear hsz
 clear hg1
 obtain ⟨gc, hgg⟩ : ∃ g, go + 1 = g := ⟨_, rfl⟩
 rw [hgg] at HG hg2 ⊢
 have HLTgc : Hid (go < gc) := Qh (by omega)
 clear hgg
 clear hg2
 have hgw : w.heap.size ≤ go := by have := HG0.out; omega
 have hgc : go < gc := HLTgc.out
 refine wp_plan (.t 0 (.t 1 (.u 2 (.u 3 .done)))) (fun y => True) (by kernel_rfl) (by kernel_rfl) (by kernel_rfl) (fun c a d v w h => by cases d <;> exact h) trivial ?_
 haveI hne : Nonempty (In fun y => True) := ⟨⟨w, trivial⟩⟩
 have hd := (Below.refl w2.heap.size w2).drew
 replace HB := Qh (bl_next HB.out HB.out.size hd)
 replace HO := Qh (bl_row hd (lt_of_block HO.out) HO.out)
 replace HG := Qh (bl_row hd (lt_of_block HG.out) HG.out)
 clear hd
 have HRD := Qh (HR.out.to HB.out)
 have HB0 := HB
 generalize w2.drew = w3 at HB0 HB HO HG HRD ⊢
 repeat (refine plan_t (by rfl) ?_; (first | go_big_quiet_skip | (go_big_quiet_want; go_big_quiet_op; go_big_quiet_on)); refine wpQuiet_nil ?_)
 refine plan_us (by rfl) (by kernel_rfl) ?_
 intro K hK
 go_wp2_with fail
 have hb := rraw_any W0 w3 L p bs bad 8 (by omega) HRD.out
 rw [HY.out] at hb
 refine Calls.mono hb ?_
 clear hb
 rintro e w4 ⟨a, m, cap, rfl, hm, hI, hR, hg1, hlo⟩
 have hpc : p < go := by have := HPW.out; omega
 replace HO := Qh (grown_row hg1 (by intro e; injection e with e; omega) HO.out)
 replace HG := Qh (grown_row hg1 (by intro e; injection e with e; omega) HG.out)
 have HGR := Qh (grown_from HB.out hg1)
 have HRD4 := Qh hR
 have hm8 : m ≤ 8 := by have h1 : y1.length = m := hI.1; have := HYL.out; omega
 have HCP := Qh (ints_copy hI 8 hm8)
 have HFIT : Hid (0 + (y1.map (Value.int .u8)).length ≤ ([.int .u8 0, .int .u8 0, .int .u8 0, .int .u8 0, .int .u8 0, .int .u8 0, .int .u8 0, .int .u8 0] : List Value).length) := Qh (by rw [List.length_map]; have := HYL.out; simp only [List.length_cons, List.length_nil]; omega)
 clear hR hg1 hI hlo hm HRD
 go_wp2_with fail
 refine ⟨trivial, ?_⟩
 refine plan_us (by rfl) (by kernel_rfl) ?_
 intro K hK
 refine wp_copy_grown _ _ 25 25 rfl 5 Try.underlying25 infoU8t _ _ _ _ _ _ rfl rfl gc 0 [.int .u8 0, .int .u8 0, .int .u8 0, .int .u8 0, .int .u8 0, .int .u8 0, .int .u8 0, .int .u8 0] 37 HG.out (y1.map (Value.int .u8)) HCP.out.1 (fun h => ⟨rfl, HCP.out.2 h⟩) HFIT.out ints_one ?_
 intro w5 hr5 hg2
 have HRD5 := Qh (HRD4.out.grownG hg2 (by omega) (by have := HRD4.out.lo; omega))
 have HGR5 := Qh (grown_new HGR.out hg2 (by omega))
 replace HO := Qh (grown_row hg2 (by intro e; injection e with e; omega) HO.out)
 rw [HSP.out] at hr5
 have HN := Qh hr5
 refine hK _ _ ⟨trivial, ?_⟩
 clear hK K hg2 hr5 hne HCP HFIT HRD4 HGR HG
 show Exit.then _ _ _ _ _
 simp only [Act.put, List.setIfInBounds_toArray, List.set_cons_succ, List.set_cons_zero]
 have H18 : Hid ((nm.map (Value.int .u8)).length = 8) := Qh (by rw [List.length_map]; exact HNL.out)
 go_wp2_with (first | (refine wpList_load_mid rfl 37 _ rfl gc 0 rfl (nm.map (Value.int .u8)) _ (rngL HN.out) Try.underlying37 rfl (by rw [H18.out]; rfl) ?_) | (refine wpList_store_row rfl 37 _ _ rfl go rfl (nm.map (Value.int .u8)) [.int .u8 0, .int .u8 0, .int .u8 0, .int .u8 0, .int .u8 0, .int .u8 0, .int .u8 0, .int .u8 0] rfl 37 HO.out (by rw [H18.out]; rfl) (by rw [H18.out]; rfl) ints_one ?_; intro w6 hr6 hg6; have HZ := Qh hr6; have HGZ := Qh hg6; clear hr6 hg6) | fail)
 refine bodyPost_ret (results_cell1 rfl _ _ go rfl (nm.map (Value.int .u8)) _ _ HZ.out Try.underlying37 rfl (by rw [H18.out]; rfl)) rfl ?_
 exact ⟨rfl, HRD5.out.grownG HGZ.out (by omega) (by have := HRD5.out.lo; omega), grown_new HGR5.out HGZ.out (by omega)⟩
def contR : Nat → Int → List (Int × Int) → Rdr (Option (List (Int × Int)))
 | 0, _, acc => ret (some acc)
 | n + 1, lo, acc => bnd varM fun gap => if lo < gap + 2 then ret none else acksR n (lo - gap - 2) acc
theorem acksR_eq (n : Nat) (hi : Int) (acc : List (Int × Int)) : acksR n hi acc = bnd varM fun size => if hi < size then ret none else contR n (hi - size) ((hi - size, hi + 1) :: acc) := by cases n <;> rfl
theorem var_bad (bs : List Int) : varM bs true = (0, [], true) := by unfold varM; simp
theorem acks_bad : ∀ (n : Nat) (hi : Int) (acc : List (Int × Int)) (bs : List Int), (acksR n hi acc bs true).2.2 = true ∧ (contR n hi acc bs true).2.2 = true
 | 0, hi, acc, bs => by
  refine ⟨?_, rfl⟩
  rw [acksR_eq]; simp only [bnd, var_bad]; split <;> rfl
 | n + 1, hi, acc, bs => by
  have h1 : ∀ lo a b, (contR (n + 1) lo a b true).2.2 = true := fun lo a b => by
   simp only [contR, bnd, var_bad]; split
   ·
    rfl
   ·
    exact (acks_bad n _ a _).1
  refine ⟨?_, h1 hi acc bs⟩
  rw [acksR_eq]; simp only [bnd, var_bad]; split
  ·
   rfl
  ·
   exact h1 _ _ _
theorem endF_badq {q : Option Fr × List Int × Bool} (h : q.2.2 = true) : endF q = none := by
 obtain ⟨o, r, b⟩ := q
 simp only at h; subst h
 cases o with
 | none => rfl
 | some f => unfold endF; simp
def ackT (de : Int) (q : Option (List (Int × Int)) × List Int × Bool) : Option Fr × List Int × Bool := (q.1.map (ackF de), q.2)
theorem take2_eq {bs b1 b2 b3 b4 : List Int} {bad d1 d2 d3 d4 : Bool} {x1 x2 x3 x4 : Int} (h1 : varM bs bad = (x1, b1, d1)) (h2 : varM b1 d1 = (x2, b2, d2)) (h3 : varM b2 d2 = (x3, b3, d3)) (h4 : varM b3 d3 = (x4, b4, d4)) :
  ((d4 = true ∨ x1 < x4 ∨ 16 ≤ x3) → endF (takeR 2 bs bad) = none) ∧ (¬ x1 < x4 → ¬ 16 ≤ x3 → takeR 2 bs bad = ackT x2 (contR x3.toNat (x1 - x4) [(x1 - x4, x1 + 1)] b4 d4)) := by
 have hq : takeR 2 bs bad = if 16 ≤ x3 then (none, b3, d3) else ackT x2 (if x1 < x4 then (none, b4, d4) else contR x3.toNat (x1 - x4) [(x1 - x4, x1 + 1)] b4 d4) := by
  have e1 : takeR 2 bs bad = if 16 ≤ x3 then (none, b3, d3) else ((acksR x3.toNat x1 [] b3 d3).1.map (ackF x2), (acksR x3.toNat x1 [] b3 d3).2) := by
   simp only [takeR, bnd, if_true, h1, h2, h3]
   split <;> rfl
  have e2 : acksR x3.toNat x1 [] b3 d3 = if x1 < x4 then (none, b4, d4) else contR x3.toNat (x1 - x4) [(x1 - x4, x1 + 1)] b4 d4 := by
   rw [acksR_eq]; simp only [bnd, h4]; split <;> rfl
  rw [e1, e2]; rfl
 rw [hq]
 refine ⟨fun h => ?_, fun ha hb => by rw [if_neg hb, if_neg ha]⟩
 by_cases h16 : 16 ≤ x3
 ·
  rw [if_pos h16]; rfl
 ·
  rw [if_neg h16]
  by_cases h14 : x1 < x4
  ·
   rw [if_pos h14]; rfl
  ·
   rw [if_neg h14]
   have hd : d4 = true := by rcases h with h | h | h <;> first | exact h | omega
   subst hd
   exact endF_badq (acks_bad _ _ _ _).2
theorem cont_no {n : Nat} {lo x5 x6 de : Int} {acc : List (Int × Int)} {b4 b5 b6 : List Int} {d5 d6 : Bool} (h5 : varM b4 false = (x5, b5, d5)) (h6 : varM b5 d5 = (x6, b6, d6)) (h : d6 = true ∨ lo ≤ x5 + 1 ∨ lo - x5 - 2 < x6) : endF (ackT de (contR (n + 1) lo acc b4 false)) = none := by
 have hq : contR (n + 1) lo acc b4 false = if lo < x5 + 2 then (none, b5, d5) else if lo - x5 - 2 < x6 then (none, b6, d6) else contR n (lo - x5 - 2 - x6) ((lo - x5 - 2 - x6, lo - x5 - 2 + 1) :: acc) b6 d6 := by
  have e1 : contR (n + 1) lo acc b4 false = (if lo < x5 + 2 then ret none else acksR n (lo - x5 - 2) acc) b5 d5 := by
   simp only [contR, bnd, h5]
  rw [e1]
  split
  ·
   rfl
  ·
   rw [acksR_eq]; unfold bnd; rw [h6]; simp only; split <;> rfl
 rw [hq]
 by_cases h1 : lo < x5 + 2
 ·
  rw [if_pos h1]; rfl
 ·
  rw [if_neg h1]
  by_cases h2 : lo - x5 - 2 < x6
  ·
   rw [if_pos h2]; rfl
  ·
   rw [if_neg h2]
   have hd : d6 = true := by rcases h with h | h | h <;> first | exact h | omega
   subst hd
   exact endF_badq (acks_bad _ _ _ _).2
theorem cont_yes {n : Nat} {lo x5 x6 : Int} {acc : List (Int × Int)} {b4 b5 b6 : List Int} {d5 d6 : Bool} (h5 : varM b4 false = (x5, b5, d5)) (h6 : varM b5 d5 = (x6, b6, d6)) (h1 : ¬ lo ≤ x5 + 1) (h2 : ¬ lo - x5 - 2 < x6) : contR (n + 1) lo acc b4 false = contR n (lo - x5 - 1 - 1 - x6) ((lo - x5 - 1 - 1 - x6, lo - x5 - 1) :: acc) b6 d6 := by
 have e1 : contR (n + 1) lo acc b4 false = (if lo < x5 + 2 then ret none else acksR n (lo - x5 - 2) acc) b5 d5 := by
  simp only [contR, bnd, h5]
 rw [e1, if_neg (by omega), acksR_eq]
 unfold bnd; rw [h6]; simp only
 rw [if_neg h2, show lo - x5 - 2 - x6 = lo - x5 - 1 - 1 - x6 by omega, show lo - x5 - 2 + 1 = lo - x5 - 1 by omega]
theorem results_tmp3 {P : Program} {fn : Func} {r t u : Tmp} (h : fn.results = #[.tmp r, .tmp t, .tmp u]) (tmps : Array Value) (w : World) :
  (results fn tmps).run P w = .ok (.tuple #[tmps.getD r undef, tmps.getD t undef, tmps.getD u undef]) w := by simp [results, h]
theorem own_range (w : World) (B : Nat) (hB : B ≤ w.heap.size) (x y : Int) : (w.alloc (.cells #[.int .u64 x, .int .u64 y] 71)).ownsRow B 71 2 (.slice (some ⟨w.heap.size, 0, none⟩) 1 1) 1 (rgK.flat [(x, y)]) :=
 ⟨rfl, .inr ⟨_, 1, #[.int .u64 x, .int .u64 y], rfl, hB, heap_alloc_new w _, Nat.le_refl _, by unfold maxLen; omega, rfl, rfl⟩⟩
def RackR (W0 w : World) (L p : Nat) (bs : List Int) (bad : Bool) (e : Ending) (w' : World) : Prop := w.grownBy w' (some p) ∧
 ((e = .returned (.tuple #[.slice none 0 0, .int .u64 0, .bool false]) ∧ endF (takeR 2 bs bad) = none) ∨
  ∃ (v : Value) (acc : List (Int × Int)) (de : Int) (rest : List Int), e = .returned (.tuple #[v, .int .u64 de, .bool true]) ∧ w'.ownsRow w.heap.size 71 2 v acc.length (rgK.flat acc) ∧ (∀ x ∈ acc, rgK.ok x) ∧ Rd W0 w' L p 105 rest false ∧ U64 de ∧ takeR 2 bs bad = (some (ackF de acc), rest, false))
def RackI (W0 w : World) (L p : Nat) (q : Option Fr × List Int × Bool) (m : Nat) (de : Int) (v : Value) (i : Nat) (wr : World) : Prop :=
 ∃ (lo hi : Int) (tl : List (Int × Int)) (b : List Int), Rd W0 wr L p 105 b false ∧ w.grownBy wr (some p) ∧ wr.ownsRow w.heap.size 71 2 v (i + 1) (rgK.flat ((lo, hi) :: tl)) ∧ (∀ x ∈ (lo, hi) :: tl, rgK.ok x) ∧ (tl.length = i ∧ 0 ≤ lo ∧ lo ≤ 4611686018427387903) ∧ q = ackT de (contR (m - i) lo ((lo, hi) :: tl) b false)
theorem racks_any (W0 w : World) (L p : Nat) (bs : List Int) (bad : Bool) (h : Rd W0 w L p 105 bs bad) :
  Calls Try.prog 70 #[.pointer (some ⟨p, 0, none⟩)] w (RackR W0 w L p bs bad) := by
 obtain ⟨⟨x1, b1, d1⟩, hx1⟩ : ∃ r, varM bs bad = r := ⟨_, rfl⟩
 obtain ⟨⟨x2, b2, d2⟩, hx2⟩ : ∃ r, varM b1 d1 = r := ⟨_, rfl⟩
 obtain ⟨⟨x3, b3, d3⟩, hx3⟩ : ∃ r, varM b2 d2 = r := ⟨_, rfl⟩
 obtain ⟨⟨x4, b4, d4⟩, hx4⟩ : ∃ r, varM b3 d3 = r := ⟨_, rfl⟩
 have htk := take2_eq hx1 hx2 hx3 hx4
 obtain ⟨q, hqq⟩ : ∃ q, takeR 2 bs bad = q := ⟨_, rfl⟩
 unfold RackR
 rw [hqq] at htk ⊢
 have HTK := Qh htk
 have HR := Qh h; have HG := Qh (grown_refl w (some p)); have HPW := Qh h.lt
 have HX1 := Qh hx1
 have HX2 := Qh hx2
 have HX3 := Qh hx3
 have HX4 := Qh hx4
 clear h htk hqq hx1 hx2 hx3 hx4
 go_enter Try.func70, Try.ntmps70
 have hb := rvar_any W0 w L p bs bad HR.out
 rw [HX1.out] at hb
 have hu := varM_in bs bad HR.out.bytes
 rw [HX1.out] at hu
 obtain ⟨m1, k1⟩ := hu
 simp only at m1 k1
 have HCL := Qh hb
 clear hb
 go_wp2_with fail
 refine Calls.mono HCL.out ?_
 rintro e w1 ⟨rfl, hR, hg⟩
 replace HR := Qh hR
 replace HG := Qh (grown_trans HG.out hg)
 clear hR hg HCL
 have hb := rvar_any W0 w1 L p b1 d1 HR.out
 rw [HX2.out] at hb
 have hu := varM_in b1 d1 HR.out.bytes
 rw [HX2.out] at hu
 obtain ⟨m2, k2⟩ := hu
 simp only at m2 k2
 have HCL := Qh hb
 clear hb
 go_wp2_with fail
 refine Calls.mono HCL.out ?_
 rintro e w2 ⟨rfl, hR, hg⟩
 replace HR := Qh hR
 replace HG := Qh (grown_trans HG.out hg)
 clear hR hg HCL
 have hb := rvar_any W0 w2 L p b2 d2 HR.out
 rw [HX3.out] at hb
 have hu := varM_in b2 d2 HR.out.bytes
 rw [HX3.out] at hu
 obtain ⟨m3, k3⟩ := hu
 simp only at m3 k3
 have HCL := Qh hb
 clear hb
 go_wp2_with fail
 refine Calls.mono HCL.out ?_
 rintro e w3 ⟨rfl, hR, hg⟩
 replace HR := Qh hR
 replace HG := Qh (grown_trans HG.out hg)
 clear hR hg HCL
 have hb := rvar_any W0 w3 L p b3 d3 HR.out
 rw [HX4.out] at hb
 have hu := varM_in b3 d3 HR.out.bytes
 rw [HX4.out] at hu
 obtain ⟨m4, k4⟩ := hu
 simp only at m4 k4
 have HCL := Qh hb
 clear hb
 go_wp2_with fail
 refine Calls.mono HCL.out ?_
 rintro e w4 ⟨rfl, hR, hg⟩
 replace HR := Qh hR
 replace HG := Qh (grown_trans HG.out hg)
 clear hR hg HCL
 obtain ⟨ra, rn, rc, hrow, _, _, _, _⟩ := HR.out.ex
 have c1 := row_cell hrow 1 _ rfl
 clear hrow
 by_cases hbad : d4 = true ∨ x1 < x4 ∨ 16 ≤ x3
 ·
  have HE := Qh (HTK.out.1 hbad)
  have hb3 : d4 = true ∨ (d4 = false ∧ x1 < x4) ∨ (d4 = false ∧ ¬ x1 < x4 ∧ 16 ≤ x3) := by cases d4 <;> simp_all <;> omega
  clear hbad
  rcases hb3 with rfl | ⟨rfl, h1⟩ | ⟨rfl, h1, h2⟩
  all_goals
   go_wp2_with fail
   (try simp only [Exit.inBlock, Exit.then])
   refine bodyPost_ret (results_tmp3 rfl _ _) rfl ?_
   exact ⟨HG.out, .inl ⟨rfl, HE.out⟩⟩
 ·
  simp only [not_or] at hbad
  obtain ⟨hb1, h1, h2⟩ := hbad
  have hd4 : d4 = false := by cases d4 <;> simp_all
  subst hd4
  have HEQ := Qh (HTK.out.2 (by omega) (by omega))
  clear hb1 HTK
  obtain ⟨m, hm⟩ : ∃ m : Nat, x3 = m := ⟨x3.toNat, by omega⟩
  subst hm
  rw [Int.toNat_natCast] at HEQ
  have hm16 : m < 16 := by omega
  go_wp2_with fail
  have hal := (Below.refl w4.heap.size w4).alloc (Nat.le_refl _) (.cells #[.int .u64 (x1 - x4), .int .u64 (x1 + 1)] 71)
  have HI0 : Hid (RackI W0 w L p q m x2 (.slice (some ⟨w4.heap.size, 0, none⟩) 1 1) 0 (w4.alloc (.cells #[.int .u64 (x1 - x4), .int .u64 (x1 + 1)] 71))) := Qh ⟨x1 - x4, x1 + 1, [], b4, HR.out.to hal, grown_to HG.out hal, own_range w4 _ HG.out.size _ _, (fun x hx => by rw [List.mem_singleton.1 hx]; exact ⟨⟨by omega, by omega⟩, ⟨by omega, by omega⟩⟩), ⟨rfl, by omega, by omega⟩, HEQ.out⟩
  clear hal HR HG HEQ c1
  generalize w4.alloc (.cells #[.int .u64 (x1 - x4), .int .u64 (x1 + 1)] 71) = w5 at HI0 ⊢
  go_loopw [9, 10] (fun s9 s10 wr => ∃ i : Nat, s10 = .int .u64 i ∧ i ≤ m ∧ Hid (RackI W0 w L p q m x2 s9 i wr)) (fun _ s10 _ => m - (intOf s10).toNat)
  case atStart => exact ⟨0, rfl, by omega, HI0⟩
  case round =>
   clear HI0
   obtain ⟨i, rfl, hi, HI⟩ := hrel
   obtain ⟨lo, hi0, tl, bb, hR, hG, hO, hok, ⟨htl, hlo1, hlo2⟩, hq⟩ := HI.out
   obtain ⟨a9, cq, rfl, hc1, hc2⟩ := sl_own hO
   have HR := Qh hR; have HG := Qh hG; have HO := Qh hO; have HOK := Qh hok; have HQ := Qh hq; have HTL := Qh htl
   clear hR hG hO hok hq htl HI
   by_cases hlt : i < m
   ·
    obtain ⟨⟨x5, b5, d5⟩, hx5⟩ : ∃ r, varM bb false = r := ⟨_, rfl⟩
    obtain ⟨⟨x6, b6, d6⟩, hx6⟩ : ∃ r, varM b5 d5 = r := ⟨_, rfl⟩
    have HX5 := Qh hx5; have HX6 := Qh hx6
    clear hx5 hx6
    have hb := rvar_any W0 wr L p bb false HR.out
    rw [HX5.out] at hb
    have hu := varM_in bb false HR.out.bytes
    rw [HX5.out] at hu
    obtain ⟨m5, k5⟩ := hu
    simp only at m5 k5
    have HCL := Qh hb
    clear hb
    go_wp2_with fail
    refine Calls.mono HCL.out ?_
    rintro e w6 ⟨rfl, hR, hg⟩
    replace HR := Qh hR
    replace HG := Qh (grown_trans HG.out hg)
    replace HO := Qh (own_away HO.out hg HPW.out)
    clear hR hg HCL
    have hb := rvar_any W0 w6 L p b5 d5 HR.out
    rw [HX6.out] at hb
    have hu := varM_in b5 d5 HR.out.bytes
    rw [HX6.out] at hu
    obtain ⟨m6, k6⟩ := hu
    simp only at m6 k6
    have HCL := Qh hb
    clear hb
    go_wp2_with fail
    refine Calls.mono HCL.out ?_
    rintro e w7 ⟨rfl, hR, hg⟩
    replace HR := Qh hR
    replace HG := Qh (grown_trans HG.out hg)
    replace HO := Qh (own_away HO.out hg HPW.out)
    clear hR hg HCL
    have hAt := RK.At.of_own (K := rgK) HO.out HOK.out
    obtain ⟨ab, ao, x, rfl, _, hx, _, hrg⟩ := hAt.at (j := 0) (by omega)
    injection hx with hx; subst hx
    have HAT := Qh hAt
    have c9 : w7.cell? ⟨ab, ao, none⟩ = some (.int .u64 lo) := hrg 0 _ rfl
    clear hAt hrg
    obtain ⟨ra, rn, rc, hrow, _, _, _, _⟩ := HR.out.ex
    have c1 : w7.cell? ⟨p, 1, none⟩ = some (.bool d6) := row_cell hrow 1 _ rfl
    clear hrow
    by_cases hbad : d6 = true ∨ lo ≤ x5 + 1 ∨ lo - x5 - 2 < x6
    ·
     have HE : Hid (endF q = none) := Qh (by rw [HQ.out, show m - i = (m - i - 1) + 1 by omega]; exact cont_no HX5.out HX6.out hbad)
     have hb3 : d6 = true ∨ (d6 = false ∧ lo ≤ x5 + 1) ∨ (d6 = false ∧ ¬ lo ≤ x5 + 1 ∧ lo - x5 - 2 < x6) := by cases d6 <;> simp_all <;> omega
     clear hbad
     rcases hb3 with rfl | ⟨rfl, h1⟩ | ⟨rfl, h1, h2⟩
     all_goals
      go_wp2_with fail
      (try simp only [Exit.inBlock, Exit.then])
      refine bodyPost_ret (results_tmp3 rfl _ _) rfl ?_
      exact ⟨HG.out, .inl ⟨rfl, HE.out⟩⟩
    ·
     simp only [not_or] at hbad
     obtain ⟨hb1, h1, h2⟩ := hbad
     have hd6 : d6 = false := by cases d6 <;> simp_all
     subst hd6
     have HQ2 : Hid (q = ackT x2 (contR (m - (i + 1)) (lo - x5 - 1 - 1 - x6) ((lo - x5 - 1 - 1 - x6, lo - x5 - 1) :: (lo, hi0) :: tl) b6 false)) := Qh (by rw [HQ.out, show m - i = (m - (i + 1)) + 1 by omega, cont_yes HX5.out HX6.out h1 h2])
     clear hb1 HQ
     have hal := (Below.refl w7.heap.size w7).alloc (Nat.le_refl _) (.cells #[.int .u64 (lo - x5 - 1 - 1 - x6), .int .u64 (lo - x5 - 1)] 71)
     have HE1 := Qh (own_range w7 w.heap.size HG.out.size (lo - x5 - 1 - 1 - x6) (lo - x5 - 1))
     replace HAT := Qh (HAT.out.below hal)
     have hsz9 : w.heap.size ≤ (w7.alloc (.cells #[.int .u64 (lo - x5 - 1 - 1 - x6), .int .u64 (lo - x5 - 1)] 71)).heap.size := Nat.le_trans HG.out.size hal.size
     have HSZ := Qh hsz9
     replace HR := Qh (HR.out.to hal)
     have HGA := Qh (grown_to HG.out hal)
     have hln9 : 1 + (i + 1) ≤ 1000000 := by omega
     have hpn : p ≠ w7.heap.size := by have := HG.out.size; have := HPW.out; omega
     clear hal hsz9
     go_wp2_with (first | (at_builtin; refine wpList_append_rk rgT rfl _ _ rfl w.heap.size 1 (.slice (some ⟨w7.heap.size, 0, none⟩) 1 1) [(lo - x5 - 1 - 1 - x6, lo - x5 - 1)] rfl HE1.out (some ⟨ab, ao, none⟩) (i + 1) cq ((lo, hi0) :: tl) rfl HAT.out hln9 HSZ.out ?_; intro v8 w8 hown hgrow hor; have HO8 := Qh hown; have HG8 := Qh hgrow; clear hown hgrow hor) | fail)
     have HI2 : Hid (RackI W0 w L p q m x2 v8 (i + 1) w8) := Qh ⟨lo - x5 - 1 - 1 - x6, lo - x5 - 1, (lo, hi0) :: tl, b6, HR.out.grownG HG8.out (Ne.symm hpn) (by show W0.heap.size ≤ w7.heap.size; have := HR.out.lo; have := HPW.out; have := HG.out.size; omega), grown_new HGA.out HG8.out HG.out.size, by have h9 := HO8.out; rw [show i + 1 + 1 = 1 + (i + 1) by omega]; exact h9, (fun x hx => by rcases List.mem_cons.1 hx with hx | hx; rw [hx]; exact ⟨⟨by omega, by omega⟩, ⟨by omega, by omega⟩⟩; exact HOK.out x hx), ⟨by rw [List.length_cons, HTL.out], by omega, by omega⟩, HQ2.out⟩
     clear HQ2 HE1 HAT HSZ HR HGA HG HO HO8 HG8
     go_roundw
     case rel => exact ⟨i + 1, by go_num, by omega, HI2⟩
     case measure => simp [intOf]; omega
   ·
    obtain rfl : i = m := by omega
    have HQ2 : Hid (q = (some (ackF x2 ((lo, hi0) :: tl)), bb, false)) := Qh (by rw [HQ.out, Nat.sub_self]; rfl)
    clear HQ
    go_wp2_with fail
    (try simp only [Exit.inBlock, Exit.then])
    refine bodyPost_ret (results_tmp3 rfl _ _) rfl ?_
    exact ⟨HG.out, .inr ⟨_, (lo, hi0) :: tl, x2, bb, rfl, by rw [List.length_cons, HTL.out]; exact HO.out, HOK.out, HR.out, ⟨by omega, by omega⟩, HQ2.out⟩⟩
end Go.Proofs.Ytmbjepcbokbemaa
