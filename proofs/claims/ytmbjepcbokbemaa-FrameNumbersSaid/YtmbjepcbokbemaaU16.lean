/- texts of the proof, laid together: Frf, Frg. -/
import Derived.Test.YtmbjepcbokbemaaU15
import Derived.Test.YtmbjepcbokbemaaU8
set_option linter.unusedVariables false
set_option linter.unusedSimpArgs false
set_option maxRecDepth 100000
set_option maxHeartbeats 16000000
namespace Go.Proofs.Ytmbjepcbokbemaa
open Go.RowKit
def SwR (W0 w : World) (p gf : Nat) (q : Option Fr × List Int × Bool) (v7 : Value) (w' : World) : Prop := Ch w w' p (some gf) ∧
 ((v7 = .bool false ∧ endF q = none) ∨ ∃ (F : Fr) (dv rv : Value) (rest : List Int) (bad : Bool), v7 = .bool true ∧ w'.heap[gf]? = some (.cells (F.cells dv rv).toArray 39 (0, 0)) ∧ Rd W0 w' 0 p 105 rest bad ∧ FrAt w' F dv rv ∧ FrLo w.heap.size dv rv ∧ q = (some F, rest, bad))
theorem rsw_any {x0 x1 x2 x3 x8 x9 x10 x11 x12 x13 x14 x15 x16 x17 x18 x19 x20 x21 x22 x23 x24 x25 x26 x27 x28 x29 x30 x31 x32 x33 x34 x35 x36 x37 x38 x39 x40 x41 x42 x43 x44 x45 x46 x47 x48 x49 x50 x51 x52 x53 x54 x55 x56 x57 x58 x59 x60 x61 x62 x63 x64 x65 x66 x67 x68 x69 x70 x71 x72 x73 x74 x75 x76 x77 x78 x79 x80 x81 x82 x83 x84 x85 x86 x87 x88 x89 x90 x91 x92 x93 x94 x95 x96 x97 x98 x99 x100 x101 x102 x103 x104 x105 x106 x107 x108 x109 x110 x111 x112 x113 x114 x115 x116 x117 x118 x119 x120 x121 x122 x123 x124 x125 x126 x127 x128 x129 x130 x131 x132 x133 x134 x135 x136 x137 x138 x139 x140 x141 x142 x143 x144 x145 x146 x147 x148 x149 x150 x151 x152 x153 x154 x155 x156 x157 x158 x159 x160 x161 x162 x163 x164 x165 x166 x167 x168 x169 x170 x171 x172 x173 x174 x175 x176 x177 x178 x179 x180 : Value} {W0 : World} {p gf : Nat} {k : Int} {bs : List Int} {bad : Bool} (w : World) {Q : Exit → Act → World → Prop}
  (HR : Hid (Rd W0 w 0 p 105 bs bad)) (HF : Hid (w.heap[gf]? = some (.cells ((zeroF k).cells (.slice none 0 0) (.slice none 0 0)).toArray 39 (0, 0)))) (hgp : gf ≠ p) (hgW : W0.heap.size ≤ gf) (hk : 0 ≤ k ∧ k ≤ 30)
  (hQp : ∀ c a d v w, Q (.panic c) (a.put d v) w → Q (.panic c) a w)
  (hQ : ∀ (y19 y20 y21 y22 y23 y24 y25 y26 y27 y28 y29 y30 y31 y32 y33 y34 y35 y36 y37 y38 y39 y40 y41 y42 y43 y44 y45 y46 y47 y48 y49 y50 y51 y52 y53 y54 y55 y56 y57 y58 y59 y60 y61 y62 y63 y64 y65 y66 y67 y68 y69 y70 y71 y72 y73 y74 y75 y76 y77 y78 y79 y80 y81 y82 y83 y84 y85 y86 y87 y88 y89 y90 y91 y92 y93 y94 y95 y96 y97 y98 y99 y100 y101 y102 y103 y104 y105 y106 y107 y108 y109 y110 y111 y112 y113 y114 y115 y116 y117 y118 y119 y120 y121 y122 y123 y124 y125 y126 y127 y128 y129 y130 y131 y132 y133 y134 y135 y136 y137 y138 y139 y140 y141 y142 y143 y144 y145 y146 y147 y148 y149 y150 y151 y152 y153 y154 y155 y156 y157 : Value) (v7 : Value) (w' : World), Hid (SwR W0 w p gf (frameR k bs bad) v7 w') → Q .normal ⟨List.toArray (x0 :: x1 :: x2 :: x3 :: .pointer (some ⟨p, 0, none⟩) :: .int .u64 k :: .pointer (some ⟨gf, 0, none⟩) :: v7 :: x8 :: x9 :: x10 :: x11 :: x12 :: x13 :: x14 :: x15 :: x16 :: x17 :: x18 :: y19 :: y20 :: y21 :: y22 :: y23 :: y24 :: y25 :: y26 :: y27 :: y28 :: y29 :: y30 :: y31 :: y32 :: y33 :: y34 :: y35 :: y36 :: y37 :: y38 :: y39 :: y40 :: y41 :: y42 :: y43 :: y44 :: y45 :: y46 :: y47 :: y48 :: y49 :: y50 :: y51 :: y52 :: y53 :: y54 :: y55 :: y56 :: y57 :: y58 :: y59 :: y60 :: y61 :: y62 :: y63 :: y64 :: y65 :: y66 :: y67 :: y68 :: y69 :: y70 :: y71 :: y72 :: y73 :: y74 :: y75 :: y76 :: y77 :: y78 :: y79 :: y80 :: y81 :: y82 :: y83 :: y84 :: y85 :: y86 :: y87 :: y88 :: y89 :: y90 :: y91 :: y92 :: y93 :: y94 :: y95 :: y96 :: y97 :: y98 :: y99 :: y100 :: y101 :: y102 :: y103 :: y104 :: y105 :: y106 :: y107 :: y108 :: y109 :: y110 :: y111 :: y112 :: y113 :: y114 :: y115 :: y116 :: y117 :: y118 :: y119 :: y120 :: y121 :: y122 :: y123 :: y124 :: y125 :: y126 :: y127 :: y128 :: y129 :: y130 :: y131 :: y132 :: y133 :: y134 :: y135 :: y136 :: y137 :: y138 :: y139 :: y140 :: y141 :: y142 :: y143 :: y144 :: y145 :: y146 :: y147 :: y148 :: y149 :: y150 :: y151 :: y152 :: y153 :: y154 :: y155 :: y156 :: y157 :: x158 :: x159 :: x160 :: x161 :: x162 :: x163 :: x164 :: x165 :: x166 :: x167 :: x168 :: x169 :: x170 :: x171 :: x172 :: x173 :: x174 :: x175 :: x176 :: x177 :: x178 :: x179 :: x180 :: []), []⟩ w') :
  Code.wp Try.prog (((Try.f43.body.bind (subBlock 0)).getD .skip)) Q ⟨List.toArray (x0 :: x1 :: x2 :: x3 :: .pointer (some ⟨p, 0, none⟩) :: .int .u64 k :: .pointer (some ⟨gf, 0, none⟩) :: .bool true :: x8 :: x9 :: x10 :: x11 :: x12 :: x13 :: x14 :: x15 :: x16 :: x17 :: x18 :: x19 :: x20 :: x21 :: x22 :: x23 :: x24 :: x25 :: x26 :: x27 :: x28 :: x29 :: x30 :: x31 :: x32 :: x33 :: x34 :: x35 :: x36 :: x37 :: x38 :: x39 :: x40 :: x41 :: x42 :: x43 :: x44 :: x45 :: x46 :: x47 :: x48 :: x49 :: x50 :: x51 :: x52 :: x53 :: x54 :: x55 :: x56 :: x57 :: x58 :: x59 :: x60 :: x61 :: x62 :: x63 :: x64 :: x65 :: x66 :: x67 :: x68 :: x69 :: x70 :: x71 :: x72 :: x73 :: x74 :: x75 :: x76 :: x77 :: x78 :: x79 :: x80 :: x81 :: x82 :: x83 :: x84 :: x85 :: x86 :: x87 :: x88 :: x89 :: x90 :: x91 :: x92 :: x93 :: x94 :: x95 :: x96 :: x97 :: x98 :: x99 :: x100 :: x101 :: x102 :: x103 :: x104 :: x105 :: x106 :: x107 :: x108 :: x109 :: x110 :: x111 :: x112 :: x113 :: x114 :: x115 :: x116 :: x117 :: x118 :: x119 :: x120 :: x121 :: x122 :: x123 :: x124 :: x125 :: x126 :: x127 :: x128 :: x129 :: x130 :: x131 :: x132 :: x133 :: x134 :: x135 :: x136 :: x137 :: x138 :: x139 :: x140 :: x141 :: x142 :: x143 :: x144 :: x145 :: x146 :: x147 :: x148 :: x149 :: x150 :: x151 :: x152 :: x153 :: x154 :: x155 :: x156 :: x157 :: x158 :: x159 :: x160 :: x161 :: x162 :: x163 :: x164 :: x165 :: x166 :: x167 :: x168 :: x169 :: x170 :: x171 :: x172 :: x173 :: x174 :: x175 :: x176 :: x177 :: x178 :: x179 :: x180 :: []), []⟩ w := by
 have HK := Qh hQ; have HKP := Qh hQp
 clear hQ hQp
 conv => arg 2; whnf
 have HC := Qh (Ch.refl w p (some gf))
 have HPN := Qh HR.out.lt
 have HGN := Qh (lt_of_block HF.out)
 by_cases hk9 : k = 0 ∨ k = 1 ∨ k = 3 ∨ k = 7 ∨ k = 19 ∨ k = 21 ∨ k = 22 ∨ k = 23 ∨ k = 29 ∨ k = 30
 ·
  have hq : frameR k bs bad = (some (zeroF k), bs, bad) := by rcases hk9 with rfl | rfl | rfl | rfl | rfl | rfl | rfl | rfl | rfl | rfl <;> rfl
  rw [hq] at HK
  have HZ := Qh (FrAt.zero w k (by omega))
  rcases hk9 with rfl | rfl | rfl | rfl | rfl | rfl | rfl | rfl | rfl | rfl
  all_goals
   go_wp2_with fail
   show Q _ _ _
   exact HK.out _ _ _ _ _ _ _ _ _ _ _ _ _ _ _ _ _ _ _ _ _ _ _ _ _ _ _ _ _ _ _ _ _ _ _ _ _ _ _ _ _ _ _ _ _ _ _ _ _ _ _ _ _ _ _ _ _ _ _ _ _ _ _ _ _ _ _ _ _ _ _ _ _ _ _ _ _ _ _ _ _ _ _ _ _ _ _ _ _ _ _ _ _ _ _ _ _ _ _ _ _ _ _ _ _ _ _ _ _ _ _ _ _ _ _ _ _ _ _ _ _ _ _ _ _ _ _ _ _ _ _ _ _ _ _ _ _ _ _ _ w (Qh ⟨HC.out, .inr ⟨_, _, _, _, _, rfl, HF.out, HR.out, HZ.out, FrLo.nil _, rfl⟩⟩)
 ·
  by_cases hk9 : 8 ≤ k ∧ k ≤ 15
  ·
   have hst := hk9
   have hbt : bits .and .u64 k 4 = 4 * (k % 8 / 4) ∧ bits .and .u64 k 2 = 2 * (k % 4 / 2) ∧ bits .and .u64 k 1 = k % 2 := by
      have h9 : k = 8 ∨ k = 9 ∨ k = 10 ∨ k = 11 ∨ k = 12 ∨ k = 13 ∨ k = 14 ∨ k = 15 := by omega
      rcases h9 with rfl | rfl | rfl | rfl | rfl | rfl | rfl | rfl <;> decide
   obtain ⟨hb4, hb2, hb1⟩ := hbt
   have hq : frameR k bs bad = streamR k bs bad := by unfold frameR; rw [if_pos hst]
   rw [hq] at HK
   clear hq
   have e8 : decide (8 ≤ k) = true := by simp; omega
   have e15 : decide (k ≤ 15) = true := by simp; omega
   have hf1 : decide (k % 2 = 1) = !decide (bits .and .u64 k 1 = 0) := by rw [hb1]; by_cases h : k % 2 = 0 <;> simp [h]; omega
   obtain ⟨fb, hfb⟩ : ∃ b, decide (bits .and .u64 k 1 = 0) = b := ⟨_, rfl⟩
   rw [hfb] at hf1
   have HB1 := Qh hb1; have HFB := Qh hfb; have HF1 := Qh hf1
   clear hb1 hf1
   obtain ⟨⟨x1, b1, d1⟩, hx1⟩ : ∃ r, varM bs bad = r := ⟨_, rfl⟩
   by_cases ho : k % 8 / 4 = 1 <;> by_cases hl : k % 4 / 2 = 1
   ·
    obtain ⟨⟨x2, b2, d2⟩, hx2⟩ : ∃ r, varM b1 d1 = r := ⟨_, rfl⟩
    obtain ⟨⟨x3, b3, d3⟩, hx3⟩ : ∃ r, textM b2 d2 = r := ⟨_, rfl⟩
    have hq : streamR k bs bad = (some ({ zeroF 8 with st := x1, of_ := x2, data := x3, fin := !fb } : Fr), b3, d3) := by unfold streamR; simp only [bnd, hx1, ho, hl, if_true, if_false, ret, hx1, hx2, hx3, HF1.out]
    rw [hq] at HK
    clear hq
    have h4 : bits .and .u64 k 4 = 4 := by rw [hb4]; omega
    have h2 : bits .and .u64 k 2 = 2 := by rw [hb2]; omega
    clear hb4 hb2 ho hl
    have HX1 := Qh hx1
    have HX2 := Qh hx2
    have HX3 := Qh hx3
    clear hx1 hx2 hx3
    have c0 := row_cell HF.out 0 _ rfl; have f0 := row_free HF.out 0
    have hat := ((At.base HF.out).set 0 (.int .i64 8)).conv (cs' := ((zeroF 8).cells (.slice none 0 0) (.slice none 0 0)).toArray) (by rfl)
    have HAT := Qh hat
    clear hat
    go_upto_region 7 with (first | rw [e8] | rw [e15] | rw [h4] | rw [h2] | fail)
    clear c0 f0
    replace HR := Qh (HR.out.grownG HAT.out.rest hgp hgW)
    replace HC := Qh (HC.out.byQ HAT.out.rest)
    replace HF := Qh HAT.out.row
    clear HAT
    generalize w.setCell ⟨gf, 0, none⟩ (.int .i64 8) = zw at HR HC HF ⊢
    have hb := rvar_any W0 zw 0 p bs bad HR.out
    rw [HX1.out] at hb
    have hu := varM_in bs bad HR.out.bytes
    rw [HX1.out] at hu
    have HU1 := Qh (u64_of hu)
    have HCL := Qh hb
    clear hb hu
    go_wp2_with (first | rw [e8] | rw [e15] | rw [h4] | rw [h2] | fail)
    refine Calls.mono HCL.out ?_
    rintro e w1 ⟨rfl, hR, hg⟩
    replace HR := Qh hR
    replace HF := Qh (grown_row hg (by intro e; injection e with e; exact hgp e) HF.out)
    replace HC := Qh (HC.out.byP hg)
    clear hR hg HCL
    have c1 := row_cell HF.out 1 _ rfl; have f1 := row_free HF.out 1
    have hat := ((At.base HF.out).set 1 (.int .u64 x1)).conv (cs' := (({ zeroF 8 with st := x1 } : Fr).cells (.slice none 0 0) (.slice none 0 0)).toArray) (by rfl)
    have HAT := Qh hat
    clear hat
    go_upto_region 8 with (first | rw [e8] | rw [e15] | rw [h4] | rw [h2] | fail)
    clear c1 f1
    replace HR := Qh (HR.out.grownG HAT.out.rest hgp hgW)
    replace HC := Qh (HC.out.byQ HAT.out.rest)
    replace HF := Qh HAT.out.row
    clear HAT
    generalize w1.setCell ⟨gf, 1, none⟩ (.int .u64 x1) = zw1 at HR HC HF ⊢
    have hb := rvar_any W0 zw1 0 p b1 d1 HR.out
    rw [HX2.out] at hb
    have hu := varM_in b1 d1 HR.out.bytes
    rw [HX2.out] at hu
    have HU2 := Qh (u64_of hu)
    have HCL := Qh hb
    clear hb hu
    go_wp2_with (first | rw [e8] | rw [e15] | rw [h4] | rw [h2] | fail)
    refine Calls.mono HCL.out ?_
    rintro e w2 ⟨rfl, hR, hg⟩
    replace HR := Qh hR
    replace HF := Qh (grown_row hg (by intro e; injection e with e; exact hgp e) HF.out)
    replace HC := Qh (HC.out.byP hg)
    clear hR hg HCL
    have c2 := row_cell HF.out 2 _ rfl; have f2 := row_free HF.out 2
    have hat := ((At.base HF.out).set 2 (.int .u64 x2)).conv (cs' := (({ zeroF 8 with st := x1, of_ := x2 } : Fr).cells (.slice none 0 0) (.slice none 0 0)).toArray) (by rfl)
    have HAT := Qh hat
    clear hat
    go_upto_region 10 with (first | rw [e8] | rw [e15] | rw [h4] | rw [h2] | fail)
    clear c2 f2
    replace HR := Qh (HR.out.grownG HAT.out.rest hgp hgW)
    replace HC := Qh (HC.out.byQ HAT.out.rest)
    replace HF := Qh HAT.out.row
    clear HAT
    generalize w2.setCell ⟨gf, 2, none⟩ (.int .u64 x2) = zw2 at HR HC HF ⊢
    have hb := rtext_any W0 zw2 0 p b2 d2 HR.out
    rw [HX3.out] at hb
    have HCL := Qh hb
    clear hb
    go_wp2_with (first | rw [e8] | rw [e15] | rw [h4] | rw [h2] | fail)
    refine Calls.mono HCL.out ?_
    rintro e w9 ⟨da, dn, dc, rfl, hdc, hI, hR, hg, hlo⟩
    have HI := Qh hI; have HLO : Hid (∀ x, da = some x → some x.block ≠ some gf) := Qh (fun x hx e => by injection e with e; have := hlo x hx; have := lt_of_block HF.out; omega)
    have HDC := Qh hdc
    have HLB : Hid (∀ x, da = some x → w.heap.size ≤ x.block) := Qh (fun x hx => Nat.le_trans HC.out.size (hlo x hx))
    clear hI hlo hdc
    replace HR := Qh hR
    replace HF := Qh (grown_row hg (by intro e; injection e with e; exact hgp e) HF.out)
    replace HC := Qh (HC.out.byP hg)
    clear hR hg HCL
    have c3 := row_cell HF.out 3 _ rfl; have f3 := row_free HF.out 3
    have hat := ((At.base HF.out).set 3 (.slice da dn dc)).conv (cs' := (({ zeroF 8 with st := x1, of_ := x2, data := x3 } : Fr).cells (.slice da dn dc) (.slice none 0 0)).toArray) (by rfl)
    have HAT := Qh hat
    clear hat
    go_upto_region 13 with (first | rw [e8] | rw [e15] | rw [h4] | rw [h2] | fail)
    clear c3 f3
    replace HR := Qh (HR.out.grownG HAT.out.rest hgp hgW)
    replace HC := Qh (HC.out.byQ HAT.out.rest)
    replace HF := Qh HAT.out.row
    replace HI := Qh (HI.out.grown HAT.out.rest HLO.out)
    clear HAT
    generalize w9.setCell ⟨gf, 3, none⟩ (.slice da dn dc) = zw9 at HR HC HF HI ⊢
    have c4 := row_cell HF.out 4 _ rfl; have f4 := row_free HF.out 4
    have hat := ((At.base HF.out).set 4 (.bool (!decide (bits .and .u64 k 1 = 0)))).conv (cs' := (({ zeroF 8 with st := x1, of_ := x2, data := x3, fin := !fb } : Fr).cells (.slice da dn dc) (.slice none 0 0)).toArray) (by rw [HFB.out]; rfl)
    have HAT := Qh hat
    clear hat
    go_wp2_with fail
    show Q _ _ _
    have hz := zero_wf 8 (by omega)
    have hwf : ({ zeroF 8 with st := x1, of_ := x2, data := x3, fin := !fb } : Fr).Wf := ⟨hz.kind, HU1.out, HU2.out, hz.li, hz.co, hz.fi, hz.se, hz.de, hz.cidl, hz.cid⟩
    exact HK.out _ _ _ _ _ _ _ _ _ _ _ _ _ _ _ _ _ _ _ _ _ _ _ _ _ _ _ _ _ _ _ _ _ _ _ _ _ _ _ _ _ _ _ _ _ _ _ _ _ _ _ _ _ _ _ _ _ _ _ _ _ _ _ _ _ _ _ _ _ _ _ _ _ _ _ _ _ _ _ _ _ _ _ _ _ _ _ _ _ _ _ _ _ _ _ _ _ _ _ _ _ _ _ _ _ _ _ _ _ _ _ _ _ _ _ _ _ _ _ _ _ _ _ _ _ _ _ _ _ _ _ _ _ _ _ _ _ _ _ _ _ (Qh ⟨HC.out.byQ HAT.out.rest, .inr ⟨_, _, _, _, _, rfl, HAT.out.row, HR.out.grownG HAT.out.rest hgp hgW, FrAt.text hwf HDC.out (HI.out.grown HAT.out.rest HLO.out) rfl, FrLo.text HLB.out, rfl⟩⟩)
   ·
    obtain ⟨⟨x2, b2, d2⟩, hx2⟩ : ∃ r, varM b1 d1 = r := ⟨_, rfl⟩
    obtain ⟨⟨x3, b3, d3⟩, hx3⟩ : ∃ r, restR b2 d2 = r := ⟨_, rfl⟩
    have hq : streamR k bs bad = (some ({ zeroF 8 with st := x1, of_ := x2, data := x3, fin := !fb } : Fr), b3, d3) := by unfold streamR; simp only [bnd, hx1, ho, hl, if_true, if_false, ret, hx1, hx2, hx3, HF1.out]
    rw [hq] at HK
    clear hq
    have h4 : bits .and .u64 k 4 = 4 := by rw [hb4]; omega
    have h2 : bits .and .u64 k 2 = 0 := by rw [hb2]; omega
    clear hb4 hb2 ho hl
    have HX1 := Qh hx1
    have HX2 := Qh hx2
    have HX3 := Qh hx3
    clear hx1 hx2 hx3
    have c0 := row_cell HF.out 0 _ rfl; have f0 := row_free HF.out 0
    have hat := ((At.base HF.out).set 0 (.int .i64 8)).conv (cs' := ((zeroF 8).cells (.slice none 0 0) (.slice none 0 0)).toArray) (by rfl)
    have HAT := Qh hat
    clear hat
    go_upto_region 7 with (first | rw [e8] | rw [e15] | rw [h4] | rw [h2] | fail)
    clear c0 f0
    replace HR := Qh (HR.out.grownG HAT.out.rest hgp hgW)
    replace HC := Qh (HC.out.byQ HAT.out.rest)
    replace HF := Qh HAT.out.row
    clear HAT
    generalize w.setCell ⟨gf, 0, none⟩ (.int .i64 8) = zw at HR HC HF ⊢
    have hb := rvar_any W0 zw 0 p bs bad HR.out
    rw [HX1.out] at hb
    have hu := varM_in bs bad HR.out.bytes
    rw [HX1.out] at hu
    have HU1 := Qh (u64_of hu)
    have HCL := Qh hb
    clear hb hu
    go_wp2_with (first | rw [e8] | rw [e15] | rw [h4] | rw [h2] | fail)
    refine Calls.mono HCL.out ?_
    rintro e w1 ⟨rfl, hR, hg⟩
    replace HR := Qh hR
    replace HF := Qh (grown_row hg (by intro e; injection e with e; exact hgp e) HF.out)
    replace HC := Qh (HC.out.byP hg)
    clear hR hg HCL
    have c1 := row_cell HF.out 1 _ rfl; have f1 := row_free HF.out 1
    have hat := ((At.base HF.out).set 1 (.int .u64 x1)).conv (cs' := (({ zeroF 8 with st := x1 } : Fr).cells (.slice none 0 0) (.slice none 0 0)).toArray) (by rfl)
    have HAT := Qh hat
    clear hat
    go_upto_region 8 with (first | rw [e8] | rw [e15] | rw [h4] | rw [h2] | fail)
    clear c1 f1
    replace HR := Qh (HR.out.grownG HAT.out.rest hgp hgW)
    replace HC := Qh (HC.out.byQ HAT.out.rest)
    replace HF := Qh HAT.out.row
    clear HAT
    generalize w1.setCell ⟨gf, 1, none⟩ (.int .u64 x1) = zw1 at HR HC HF ⊢
    have hb := rvar_any W0 zw1 0 p b1 d1 HR.out
    rw [HX2.out] at hb
    have hu := varM_in b1 d1 HR.out.bytes
    rw [HX2.out] at hu
    have HU2 := Qh (u64_of hu)
    have HCL := Qh hb
    clear hb hu
    go_wp2_with (first | rw [e8] | rw [e15] | rw [h4] | rw [h2] | fail)
    refine Calls.mono HCL.out ?_
    rintro e w2 ⟨rfl, hR, hg⟩
    replace HR := Qh hR
    replace HF := Qh (grown_row hg (by intro e; injection e with e; exact hgp e) HF.out)
    replace HC := Qh (HC.out.byP hg)
    clear hR hg HCL
    have c2 := row_cell HF.out 2 _ rfl; have f2 := row_free HF.out 2
    have hat := ((At.base HF.out).set 2 (.int .u64 x2)).conv (cs' := (({ zeroF 8 with st := x1, of_ := x2 } : Fr).cells (.slice none 0 0) (.slice none 0 0)).toArray) (by rfl)
    have HAT := Qh hat
    clear hat
    go_upto_region 10 with (first | rw [e8] | rw [e15] | rw [h4] | rw [h2] | fail)
    clear c2 f2
    replace HR := Qh (HR.out.grownG HAT.out.rest hgp hgW)
    replace HC := Qh (HC.out.byQ HAT.out.rest)
    replace HF := Qh HAT.out.row
    clear HAT
    generalize w2.setCell ⟨gf, 2, none⟩ (.int .u64 x2) = zw2 at HR HC HF ⊢
    obtain ⟨ra, rn, rc, hrow, _, _, hri, _⟩ := HR.out.ex
    have hrl := hri.1
    have c9 := row_cell hrow 0 _ rfl
    have hsm := HR.out.small
    clear hrow hri
    have hb := rraw_any W0 zw2 0 p b2 d2 rn (by omega) HR.out
    rw [show rdM b2 d2 (rn : Int) = (x3, b3, d3) from (by rw [← hrl]; exact HX3.out)] at hb
    have HCL := Qh hb
    clear hb hsm hrl
    go_wp2_with (first | rw [e8] | rw [e15] | rw [h4] | rw [h2] | fail)
    refine Calls.mono HCL.out ?_
    rintro e w9 ⟨da, dn, dc, rfl, hdc, hI, hR, hg, hlo⟩
    have HI := Qh hI; have HLO : Hid (∀ x, da = some x → some x.block ≠ some gf) := Qh (fun x hx e => by injection e with e; have := hlo x hx; have := lt_of_block HF.out; omega)
    have HDC := Qh hdc
    have HLB : Hid (∀ x, da = some x → w.heap.size ≤ x.block) := Qh (fun x hx => Nat.le_trans HC.out.size (hlo x hx))
    clear hI hlo hdc
    replace HR := Qh hR
    replace HF := Qh (grown_row hg (by intro e; injection e with e; exact hgp e) HF.out)
    replace HC := Qh (HC.out.byP hg)
    clear hR hg HCL
    clear c9
    have c3 := row_cell HF.out 3 _ rfl; have f3 := row_free HF.out 3
    have hat := ((At.base HF.out).set 3 (.slice da dn dc)).conv (cs' := (({ zeroF 8 with st := x1, of_ := x2, data := x3 } : Fr).cells (.slice da dn dc) (.slice none 0 0)).toArray) (by rfl)
    have HAT := Qh hat
    clear hat
    go_upto_region 13 with (first | rw [e8] | rw [e15] | rw [h4] | rw [h2] | fail)
    clear c3 f3
    replace HR := Qh (HR.out.grownG HAT.out.rest hgp hgW)
    replace HC := Qh (HC.out.byQ HAT.out.rest)
    replace HF := Qh HAT.out.row
    replace HI := Qh (HI.out.grown HAT.out.rest HLO.out)
    clear HAT
    generalize w9.setCell ⟨gf, 3, none⟩ (.slice da dn dc) = zw9 at HR HC HF HI ⊢
    have c4 := row_cell HF.out 4 _ rfl; have f4 := row_free HF.out 4
    have hat := ((At.base HF.out).set 4 (.bool (!decide (bits .and .u64 k 1 = 0)))).conv (cs' := (({ zeroF 8 with st := x1, of_ := x2, data := x3, fin := !fb } : Fr).cells (.slice da dn dc) (.slice none 0 0)).toArray) (by rw [HFB.out]; rfl)
    have HAT := Qh hat
    clear hat
    go_wp2_with fail
    show Q _ _ _
    have hz := zero_wf 8 (by omega)
    have hwf : ({ zeroF 8 with st := x1, of_ := x2, data := x3, fin := !fb } : Fr).Wf := ⟨hz.kind, HU1.out, HU2.out, hz.li, hz.co, hz.fi, hz.se, hz.de, hz.cidl, hz.cid⟩
    exact HK.out _ _ _ _ _ _ _ _ _ _ _ _ _ _ _ _ _ _ _ _ _ _ _ _ _ _ _ _ _ _ _ _ _ _ _ _ _ _ _ _ _ _ _ _ _ _ _ _ _ _ _ _ _ _ _ _ _ _ _ _ _ _ _ _ _ _ _ _ _ _ _ _ _ _ _ _ _ _ _ _ _ _ _ _ _ _ _ _ _ _ _ _ _ _ _ _ _ _ _ _ _ _ _ _ _ _ _ _ _ _ _ _ _ _ _ _ _ _ _ _ _ _ _ _ _ _ _ _ _ _ _ _ _ _ _ _ _ _ _ _ _ (Qh ⟨HC.out.byQ HAT.out.rest, .inr ⟨_, _, _, _, _, rfl, HAT.out.row, HR.out.grownG HAT.out.rest hgp hgW, FrAt.text hwf HDC.out (HI.out.grown HAT.out.rest HLO.out) rfl, FrLo.text HLB.out, rfl⟩⟩)
   ·
    obtain ⟨⟨x2, b2, d2⟩, hx2⟩ : ∃ r, textM b1 d1 = r := ⟨_, rfl⟩
    have hq : streamR k bs bad = (some ({ zeroF 8 with st := x1, data := x2, fin := !fb } : Fr), b2, d2) := by unfold streamR; simp only [bnd, hx1, ho, hl, if_true, if_false, ret, hx1, hx2, HF1.out]; rfl
    rw [hq] at HK
    clear hq
    have h4 : bits .and .u64 k 4 = 0 := by rw [hb4]; omega
    have h2 : bits .and .u64 k 2 = 2 := by rw [hb2]; omega
    clear hb4 hb2 ho hl
    have HX1 := Qh hx1
    have HX2 := Qh hx2
    clear hx1 hx2
    have c0 := row_cell HF.out 0 _ rfl; have f0 := row_free HF.out 0
    have hat := ((At.base HF.out).set 0 (.int .i64 8)).conv (cs' := ((zeroF 8).cells (.slice none 0 0) (.slice none 0 0)).toArray) (by rfl)
    have HAT := Qh hat
    clear hat
    go_upto_region 7 with (first | rw [e8] | rw [e15] | rw [h4] | rw [h2] | fail)
    clear c0 f0
    replace HR := Qh (HR.out.grownG HAT.out.rest hgp hgW)
    replace HC := Qh (HC.out.byQ HAT.out.rest)
    replace HF := Qh HAT.out.row
    clear HAT
    generalize w.setCell ⟨gf, 0, none⟩ (.int .i64 8) = zw at HR HC HF ⊢
    have hb := rvar_any W0 zw 0 p bs bad HR.out
    rw [HX1.out] at hb
    have hu := varM_in bs bad HR.out.bytes
    rw [HX1.out] at hu
    have HU1 := Qh (u64_of hu)
    have HCL := Qh hb
    clear hb hu
    go_wp2_with (first | rw [e8] | rw [e15] | rw [h4] | rw [h2] | fail)
    refine Calls.mono HCL.out ?_
    rintro e w1 ⟨rfl, hR, hg⟩
    replace HR := Qh hR
    replace HF := Qh (grown_row hg (by intro e; injection e with e; exact hgp e) HF.out)
    replace HC := Qh (HC.out.byP hg)
    clear hR hg HCL
    have c1 := row_cell HF.out 1 _ rfl; have f1 := row_free HF.out 1
    have hat := ((At.base HF.out).set 1 (.int .u64 x1)).conv (cs' := (({ zeroF 8 with st := x1 } : Fr).cells (.slice none 0 0) (.slice none 0 0)).toArray) (by rfl)
    have HAT := Qh hat
    clear hat
    go_upto_region 8 with (first | rw [e8] | rw [e15] | rw [h4] | rw [h2] | fail)
    clear c1 f1
    replace HR := Qh (HR.out.grownG HAT.out.rest hgp hgW)
    replace HC := Qh (HC.out.byQ HAT.out.rest)
    replace HF := Qh HAT.out.row
    clear HAT
    generalize w1.setCell ⟨gf, 1, none⟩ (.int .u64 x1) = zw1 at HR HC HF ⊢
    have hb := rtext_any W0 zw1 0 p b1 d1 HR.out
    rw [HX2.out] at hb
    have HCL := Qh hb
    clear hb
    go_wp2_with (first | rw [e8] | rw [e15] | rw [h4] | rw [h2] | fail)
    refine Calls.mono HCL.out ?_
    rintro e w9 ⟨da, dn, dc, rfl, hdc, hI, hR, hg, hlo⟩
    have HI := Qh hI; have HLO : Hid (∀ x, da = some x → some x.block ≠ some gf) := Qh (fun x hx e => by injection e with e; have := hlo x hx; have := lt_of_block HF.out; omega)
    have HDC := Qh hdc
    have HLB : Hid (∀ x, da = some x → w.heap.size ≤ x.block) := Qh (fun x hx => Nat.le_trans HC.out.size (hlo x hx))
    clear hI hlo hdc
    replace HR := Qh hR
    replace HF := Qh (grown_row hg (by intro e; injection e with e; exact hgp e) HF.out)
    replace HC := Qh (HC.out.byP hg)
    clear hR hg HCL
    have c3 := row_cell HF.out 3 _ rfl; have f3 := row_free HF.out 3
    have hat := ((At.base HF.out).set 3 (.slice da dn dc)).conv (cs' := (({ zeroF 8 with st := x1, data := x2 } : Fr).cells (.slice da dn dc) (.slice none 0 0)).toArray) (by rfl)
    have HAT := Qh hat
    clear hat
    go_upto_region 13 with (first | rw [e8] | rw [e15] | rw [h4] | rw [h2] | fail)
    clear c3 f3
    replace HR := Qh (HR.out.grownG HAT.out.rest hgp hgW)
    replace HC := Qh (HC.out.byQ HAT.out.rest)
    replace HF := Qh HAT.out.row
    replace HI := Qh (HI.out.grown HAT.out.rest HLO.out)
    clear HAT
    generalize w9.setCell ⟨gf, 3, none⟩ (.slice da dn dc) = zw9 at HR HC HF HI ⊢
    have c4 := row_cell HF.out 4 _ rfl; have f4 := row_free HF.out 4
    have hat := ((At.base HF.out).set 4 (.bool (!decide (bits .and .u64 k 1 = 0)))).conv (cs' := (({ zeroF 8 with st := x1, data := x2, fin := !fb } : Fr).cells (.slice da dn dc) (.slice none 0 0)).toArray) (by rw [HFB.out]; rfl)
    have HAT := Qh hat
    clear hat
    go_wp2_with fail
    show Q _ _ _
    have hz := zero_wf 8 (by omega)
    have hwf : ({ zeroF 8 with st := x1, data := x2, fin := !fb } : Fr).Wf := ⟨hz.kind, HU1.out, hz.of_, hz.li, hz.co, hz.fi, hz.se, hz.de, hz.cidl, hz.cid⟩
    exact HK.out _ _ _ _ _ _ _ _ _ _ _ _ _ _ _ _ _ _ _ _ _ _ _ _ _ _ _ _ _ _ _ _ _ _ _ _ _ _ _ _ _ _ _ _ _ _ _ _ _ _ _ _ _ _ _ _ _ _ _ _ _ _ _ _ _ _ _ _ _ _ _ _ _ _ _ _ _ _ _ _ _ _ _ _ _ _ _ _ _ _ _ _ _ _ _ _ _ _ _ _ _ _ _ _ _ _ _ _ _ _ _ _ _ _ _ _ _ _ _ _ _ _ _ _ _ _ _ _ _ _ _ _ _ _ _ _ _ _ _ _ _ (Qh ⟨HC.out.byQ HAT.out.rest, .inr ⟨_, _, _, _, _, rfl, HAT.out.row, HR.out.grownG HAT.out.rest hgp hgW, FrAt.text hwf HDC.out (HI.out.grown HAT.out.rest HLO.out) rfl, FrLo.text HLB.out, rfl⟩⟩)
   ·
    obtain ⟨⟨x2, b2, d2⟩, hx2⟩ : ∃ r, restR b1 d1 = r := ⟨_, rfl⟩
    have hq : streamR k bs bad = (some ({ zeroF 8 with st := x1, data := x2, fin := !fb } : Fr), b2, d2) := by unfold streamR; simp only [bnd, hx1, ho, hl, if_true, if_false, ret, hx1, hx2, HF1.out]; rfl
    rw [hq] at HK
    clear hq
    have h4 : bits .and .u64 k 4 = 0 := by rw [hb4]; omega
    have h2 : bits .and .u64 k 2 = 0 := by rw [hb2]; omega
    clear hb4 hb2 ho hl
    have HX1 := Qh hx1
    have HX2 := Qh hx2
    clear hx1 hx2
    have c0 := row_cell HF.out 0 _ rfl; have f0 := row_free HF.out 0
    have hat := ((At.base HF.out).set 0 (.int .i64 8)).conv (cs' := ((zeroF 8).cells (.slice none 0 0) (.slice none 0 0)).toArray) (by rfl)
    have HAT := Qh hat
    clear hat
    go_upto_region 7 with (first | rw [e8] | rw [e15] | rw [h4] | rw [h2] | fail)
    clear c0 f0
    replace HR := Qh (HR.out.grownG HAT.out.rest hgp hgW)
    replace HC := Qh (HC.out.byQ HAT.out.rest)
    replace HF := Qh HAT.out.row
    clear HAT
    generalize w.setCell ⟨gf, 0, none⟩ (.int .i64 8) = zw at HR HC HF ⊢
    have hb := rvar_any W0 zw 0 p bs bad HR.out
    rw [HX1.out] at hb
    have hu := varM_in bs bad HR.out.bytes
    rw [HX1.out] at hu
    have HU1 := Qh (u64_of hu)
    have HCL := Qh hb
    clear hb hu
    go_wp2_with (first | rw [e8] | rw [e15] | rw [h4] | rw [h2] | fail)
    refine Calls.mono HCL.out ?_
    rintro e w1 ⟨rfl, hR, hg⟩
    replace HR := Qh hR
    replace HF := Qh (grown_row hg (by intro e; injection e with e; exact hgp e) HF.out)
    replace HC := Qh (HC.out.byP hg)
    clear hR hg HCL
    have c1 := row_cell HF.out 1 _ rfl; have f1 := row_free HF.out 1
    have hat := ((At.base HF.out).set 1 (.int .u64 x1)).conv (cs' := (({ zeroF 8 with st := x1 } : Fr).cells (.slice none 0 0) (.slice none 0 0)).toArray) (by rfl)
    have HAT := Qh hat
    clear hat
    go_upto_region 8 with (first | rw [e8] | rw [e15] | rw [h4] | rw [h2] | fail)
    clear c1 f1
    replace HR := Qh (HR.out.grownG HAT.out.rest hgp hgW)
    replace HC := Qh (HC.out.byQ HAT.out.rest)
    replace HF := Qh HAT.out.row
    clear HAT
    generalize w1.setCell ⟨gf, 1, none⟩ (.int .u64 x1) = zw1 at HR HC HF ⊢
    obtain ⟨ra, rn, rc, hrow, _, _, hri, _⟩ := HR.out.ex
    have hrl := hri.1
    have c9 := row_cell hrow 0 _ rfl
    have hsm := HR.out.small
    clear hrow hri
    have hb := rraw_any W0 zw1 0 p b1 d1 rn (by omega) HR.out
    rw [show rdM b1 d1 (rn : Int) = (x2, b2, d2) from (by rw [← hrl]; exact HX2.out)] at hb
    have HCL := Qh hb
    clear hb hsm hrl
    go_wp2_with (first | rw [e8] | rw [e15] | rw [h4] | rw [h2] | fail)
    refine Calls.mono HCL.out ?_
    rintro e w9 ⟨da, dn, dc, rfl, hdc, hI, hR, hg, hlo⟩
    have HI := Qh hI; have HLO : Hid (∀ x, da = some x → some x.block ≠ some gf) := Qh (fun x hx e => by injection e with e; have := hlo x hx; have := lt_of_block HF.out; omega)
    have HDC := Qh hdc
    have HLB : Hid (∀ x, da = some x → w.heap.size ≤ x.block) := Qh (fun x hx => Nat.le_trans HC.out.size (hlo x hx))
    clear hI hlo hdc
    replace HR := Qh hR
    replace HF := Qh (grown_row hg (by intro e; injection e with e; exact hgp e) HF.out)
    replace HC := Qh (HC.out.byP hg)
    clear hR hg HCL
    clear c9
    have c3 := row_cell HF.out 3 _ rfl; have f3 := row_free HF.out 3
    have hat := ((At.base HF.out).set 3 (.slice da dn dc)).conv (cs' := (({ zeroF 8 with st := x1, data := x2 } : Fr).cells (.slice da dn dc) (.slice none 0 0)).toArray) (by rfl)
    have HAT := Qh hat
    clear hat
    go_upto_region 13 with (first | rw [e8] | rw [e15] | rw [h4] | rw [h2] | fail)
    clear c3 f3
    replace HR := Qh (HR.out.grownG HAT.out.rest hgp hgW)
    replace HC := Qh (HC.out.byQ HAT.out.rest)
    replace HF := Qh HAT.out.row
    replace HI := Qh (HI.out.grown HAT.out.rest HLO.out)
    clear HAT
    generalize w9.setCell ⟨gf, 3, none⟩ (.slice da dn dc) = zw9 at HR HC HF HI ⊢
    have c4 := row_cell HF.out 4 _ rfl; have f4 := row_free HF.out 4
    have hat := ((At.base HF.out).set 4 (.bool (!decide (bits .and .u64 k 1 = 0)))).conv (cs' := (({ zeroF 8 with st := x1, data := x2, fin := !fb } : Fr).cells (.slice da dn dc) (.slice none 0 0)).toArray) (by rw [HFB.out]; rfl)
    have HAT := Qh hat
    clear hat
    go_wp2_with fail
    show Q _ _ _
    have hz := zero_wf 8 (by omega)
    have hwf : ({ zeroF 8 with st := x1, data := x2, fin := !fb } : Fr).Wf := ⟨hz.kind, HU1.out, hz.of_, hz.li, hz.co, hz.fi, hz.se, hz.de, hz.cidl, hz.cid⟩
    exact HK.out _ _ _ _ _ _ _ _ _ _ _ _ _ _ _ _ _ _ _ _ _ _ _ _ _ _ _ _ _ _ _ _ _ _ _ _ _ _ _ _ _ _ _ _ _ _ _ _ _ _ _ _ _ _ _ _ _ _ _ _ _ _ _ _ _ _ _ _ _ _ _ _ _ _ _ _ _ _ _ _ _ _ _ _ _ _ _ _ _ _ _ _ _ _ _ _ _ _ _ _ _ _ _ _ _ _ _ _ _ _ _ _ _ _ _ _ _ _ _ _ _ _ _ _ _ _ _ _ _ _ _ _ _ _ _ _ _ _ _ _ _ (Qh ⟨HC.out.byQ HAT.out.rest, .inr ⟨_, _, _, _, _, rfl, HAT.out.row, HR.out.grownG HAT.out.rest hgp hgW, FrAt.text hwf HDC.out (HI.out.grown HAT.out.rest HLO.out) rfl, FrLo.text HLB.out, rfl⟩⟩)
  ·
   by_cases hk9 : k = 2
   ·
    subst hk9
    have hb := racks_any W0 w 0 p bs bad HR.out
    unfold RackR at hb
    obtain ⟨q, hq⟩ : ∃ q, takeR 2 bs bad = q := ⟨_, rfl⟩
    have hq2 : frameR 2 bs bad = takeR 2 bs bad := by simp [frameR]
    rw [hq2, hq] at HK
    rw [hq] at hb
    have HCL := Qh hb
    clear hb hq hq2
    go_wp2_with fail
    refine Calls.mono HCL.out ?_
    rintro e w1 ⟨hg, ⟨rfl, hn⟩ | ⟨v, acc, de, rest, rfl, ho, hok, hR, hd, hq⟩⟩
    ·
     replace HF := Qh (grown_row hg (by intro e; injection e with e; exact hgp e) HF.out)
     have HC := Qh (HC.out.byP hg)
     have HN := Qh hn
     clear hg hn
     have c10 := row_cell HF.out 10 _ rfl; have f10 := row_free HF.out 10; have c9 := row_cell HF.out 9 _ rfl; have f9 := row_free HF.out 9
     have hat := (((At.base HF.out).set 10 (.slice none 0 0)).set 9 (.int .u64 0)).conv (cs' := (({ zeroF 2 with de := 0 } : Fr).cells (.slice none 0 0) (.slice none 0 0)).toArray) (by rfl)
     have HAT := Qh hat
     clear hat
     go_wp2_with fail
     show Q _ _ _
     exact HK.out _ _ _ _ _ _ _ _ _ _ _ _ _ _ _ _ _ _ _ _ _ _ _ _ _ _ _ _ _ _ _ _ _ _ _ _ _ _ _ _ _ _ _ _ _ _ _ _ _ _ _ _ _ _ _ _ _ _ _ _ _ _ _ _ _ _ _ _ _ _ _ _ _ _ _ _ _ _ _ _ _ _ _ _ _ _ _ _ _ _ _ _ _ _ _ _ _ _ _ _ _ _ _ _ _ _ _ _ _ _ _ _ _ _ _ _ _ _ _ _ _ _ _ _ _ _ _ _ _ _ _ _ _ _ _ _ _ _ _ _ _ (Qh ⟨HC.out.byQ HAT.out.rest, .inl ⟨rfl, HN.out⟩⟩)
    ·
     obtain ⟨a, c, rfl, _, _⟩ := sl_own ho
     replace HF := Qh (grown_row hg (by intro e; injection e with e; exact hgp e) HF.out)
     have HC := Qh (HC.out.byP hg)
     have HO := Qh ho; have HOK := Qh hok; have HRR := Qh hR; have HD := Qh hd; have HQ := Qh hq
     clear hg ho hok hR hd hq
     have c10 := row_cell HF.out 10 _ rfl; have f10 := row_free HF.out 10; have c9 := row_cell HF.out 9 _ rfl; have f9 := row_free HF.out 9
     have hat := (((At.base HF.out).set 10 (.slice a acc.length c)).set 9 (.int .u64 de)).conv (cs' := (({ zeroF 2 with de := de } : Fr).cells (.slice none 0 0) (.slice a acc.length c)).toArray) (by rfl)
     have HAT := Qh hat
     clear hat
     go_wp2_with fail
     show Q _ _ _
     have hgl := lt_of_block HF.out
     have hgn : (Value.slice a acc.length c).ownBlock ≠ some gf := fun e => absurd (own_base HO.out _ e) (by have := HGN.out; omega)
     have hoz := own_ch HO.out (fun g hg hl => HAT.out.rest.block g hl (by intro e; injection e with e; subst e; exact hgn hg))
     exact HK.out _ _ _ _ _ _ _ _ _ _ _ _ _ _ _ _ _ _ _ _ _ _ _ _ _ _ _ _ _ _ _ _ _ _ _ _ _ _ _ _ _ _ _ _ _ _ _ _ _ _ _ _ _ _ _ _ _ _ _ _ _ _ _ _ _ _ _ _ _ _ _ _ _ _ _ _ _ _ _ _ _ _ _ _ _ _ _ _ _ _ _ _ _ _ _ _ _ _ _ _ _ _ _ _ _ _ _ _ _ _ _ _ _ _ _ _ _ _ _ _ _ _ _ _ _ _ _ _ _ _ _ _ _ _ _ _ _ _ _ _ _ (Qh ⟨HC.out.byQ HAT.out.rest, .inr ⟨ackF de acc, (.slice none 0 0), _, _, _, rfl, HAT.out.row, HRR.out.grownG HAT.out.rest hgp hgW, FrAt.acks HD.out hoz HOK.out, FrLo.own HO.out, HQ.out⟩⟩)
   ·
    by_cases hk9 : k = 4
    ·
     subst hk9
     obtain ⟨⟨x1, b1, d1⟩, hx1⟩ : ∃ r, varM bs bad = r := ⟨_, rfl⟩
     obtain ⟨⟨x2, b2, d2⟩, hx2⟩ : ∃ r, varM b1 d1 = r := ⟨_, rfl⟩
     obtain ⟨⟨x3, b3, d3⟩, hx3⟩ : ∃ r, varM b2 d2 = r := ⟨_, rfl⟩
     have hq : frameR 4 bs bad = (some ({ zeroF 4 with st := x1, co := x2, fi := x3 } : Fr), b3, d3) := by simp [frameR, takeR, bnd, ret, hx1, hx2, hx3]
     rw [hq] at HK
     clear hq
     have HX1 := Qh hx1
     have HX2 := Qh hx2
     have HX3 := Qh hx3
     clear hx1 hx2 hx3
     have hz := zero_wf 4 (by omega)
     have hb := rvar_any W0 w 0 p bs bad HR.out
     rw [HX1.out] at hb
     have hu := varM_in bs bad HR.out.bytes
     rw [HX1.out] at hu
     have HU1 := Qh (u64_of hu)
     clear hu
     have HCL := Qh hb
     clear hb
     go_wp2_with fail
     refine Calls.mono HCL.out ?_
     rintro e w1 ⟨rfl, hR, hg⟩
     replace HR := Qh hR
     replace HF := Qh (grown_row hg (by intro e; injection e with e; exact hgp e) HF.out)
     replace HC := Qh (HC.out.byP hg)
     clear hR hg HCL
     have hb := rvar_any W0 w1 0 p b1 d1 HR.out
     rw [HX2.out] at hb
     have hu := varM_in b1 d1 HR.out.bytes
     rw [HX2.out] at hu
     have HU2 := Qh (u64_of hu)
     clear hu
     have HCL := Qh hb
     clear hb
     go_wp2_with fail
     refine Calls.mono HCL.out ?_
     rintro e w2 ⟨rfl, hR, hg⟩
     replace HR := Qh hR
     replace HF := Qh (grown_row hg (by intro e; injection e with e; exact hgp e) HF.out)
     replace HC := Qh (HC.out.byP hg)
     clear hR hg HCL
     have hb := rvar_any W0 w2 0 p b2 d2 HR.out
     rw [HX3.out] at hb
     have hu := varM_in b2 d2 HR.out.bytes
     rw [HX3.out] at hu
     have HU3 := Qh (u64_of hu)
     clear hu
     have HCL := Qh hb
     clear hb
     go_wp2_with fail
     refine Calls.mono HCL.out ?_
     rintro e w3 ⟨rfl, hR, hg⟩
     replace HR := Qh hR
     replace HF := Qh (grown_row hg (by intro e; injection e with e; exact hgp e) HF.out)
     replace HC := Qh (HC.out.byP hg)
     clear hR hg HCL
     have c_st := row_cell HF.out 1 _ rfl
     have c_co := row_cell HF.out 6 _ rfl
     have c_fi := row_cell HF.out 7 _ rfl
     have f_st := row_free HF.out 1
     have f_co := row_free HF.out 6
     have f_fi := row_free HF.out 7
     have hat := ((((At.base HF.out).set 1 (.int .u64 x1)).set 6 (.int .u64 x2)).set 7 (.int .u64 x3)).conv (cs' := (({ zeroF 4 with st := x1, co := x2, fi := x3 } : Fr).cells (.slice none 0 0) (.slice none 0 0)).toArray) (by rfl)
     have HAT := Qh hat
     clear hat
     go_wp2_with fail
     clear c_st f_st c_co f_co c_fi f_fi
     replace HR := Qh (HR.out.grownG HAT.out.rest hgp hgW)
     replace HC := Qh (HC.out.byQ HAT.out.rest)
     replace HF := Qh HAT.out.row
     clear HAT
     generalize (((w3.setCell ⟨gf, 1, none⟩ (.int .u64 x1)).setCell ⟨gf, 6, none⟩ (.int .u64 x2)).setCell ⟨gf, 7, none⟩ (.int .u64 x3)) = zw3 at HR HC HF ⊢
     have hwf : ({ zeroF 4 with st := x1, co := x2, fi := x3 } : Fr).Wf := ⟨hz.kind, HU1.out, hz.of_, hz.li, HU2.out, HU3.out, hz.se, hz.de, hz.cidl, hz.cid⟩
     have HWF := Qh hwf
     clear hwf hz
     show Q _ _ _
     exact HK.out _ _ _ _ _ _ _ _ _ _ _ _ _ _ _ _ _ _ _ _ _ _ _ _ _ _ _ _ _ _ _ _ _ _ _ _ _ _ _ _ _ _ _ _ _ _ _ _ _ _ _ _ _ _ _ _ _ _ _ _ _ _ _ _ _ _ _ _ _ _ _ _ _ _ _ _ _ _ _ _ _ _ _ _ _ _ _ _ _ _ _ _ _ _ _ _ _ _ _ _ _ _ _ _ _ _ _ _ _ _ _ _ _ _ _ _ _ _ _ _ _ _ _ _ _ _ _ _ _ _ _ _ _ _ _ _ _ _ _ _ zw3 (Qh ⟨HC.out, .inr ⟨_, _, _, _, _, rfl, HF.out, HR.out, FrAt.bare HWF.out rfl rfl, FrLo.nil _, rfl⟩⟩)
    ·
     by_cases hk9 : k = 5
     ·
      subst hk9
      obtain ⟨⟨x1, b1, d1⟩, hx1⟩ : ∃ r, varM bs bad = r := ⟨_, rfl⟩
      obtain ⟨⟨x2, b2, d2⟩, hx2⟩ : ∃ r, varM b1 d1 = r := ⟨_, rfl⟩
      have hq : frameR 5 bs bad = (some ({ zeroF 5 with st := x1, co := x2 } : Fr), b2, d2) := by simp [frameR, takeR, bnd, ret, hx1, hx2]
      rw [hq] at HK
      clear hq
      have HX1 := Qh hx1
      have HX2 := Qh hx2
      clear hx1 hx2
      have hz := zero_wf 5 (by omega)
      have hb := rvar_any W0 w 0 p bs bad HR.out
      rw [HX1.out] at hb
      have hu := varM_in bs bad HR.out.bytes
      rw [HX1.out] at hu
      have HU1 := Qh (u64_of hu)
      clear hu
      have HCL := Qh hb
      clear hb
      go_wp2_with fail
      refine Calls.mono HCL.out ?_
      rintro e w1 ⟨rfl, hR, hg⟩
      replace HR := Qh hR
      replace HF := Qh (grown_row hg (by intro e; injection e with e; exact hgp e) HF.out)
      replace HC := Qh (HC.out.byP hg)
      clear hR hg HCL
      have hb := rvar_any W0 w1 0 p b1 d1 HR.out
      rw [HX2.out] at hb
      have hu := varM_in b1 d1 HR.out.bytes
      rw [HX2.out] at hu
      have HU2 := Qh (u64_of hu)
      clear hu
      have HCL := Qh hb
      clear hb
      go_wp2_with fail
      refine Calls.mono HCL.out ?_
      rintro e w2 ⟨rfl, hR, hg⟩
      replace HR := Qh hR
      replace HF := Qh (grown_row hg (by intro e; injection e with e; exact hgp e) HF.out)
      replace HC := Qh (HC.out.byP hg)
      clear hR hg HCL
      have c_st := row_cell HF.out 1 _ rfl
      have c_co := row_cell HF.out 6 _ rfl
      have f_st := row_free HF.out 1
      have f_co := row_free HF.out 6
      have hat := (((At.base HF.out).set 1 (.int .u64 x1)).set 6 (.int .u64 x2)).conv (cs' := (({ zeroF 5 with st := x1, co := x2 } : Fr).cells (.slice none 0 0) (.slice none 0 0)).toArray) (by rfl)
      have HAT := Qh hat
      clear hat
      go_wp2_with fail
      clear c_st f_st c_co f_co
      replace HR := Qh (HR.out.grownG HAT.out.rest hgp hgW)
      replace HC := Qh (HC.out.byQ HAT.out.rest)
      replace HF := Qh HAT.out.row
      clear HAT
      generalize ((w2.setCell ⟨gf, 1, none⟩ (.int .u64 x1)).setCell ⟨gf, 6, none⟩ (.int .u64 x2)) = zw2 at HR HC HF ⊢
      have hwf : ({ zeroF 5 with st := x1, co := x2 } : Fr).Wf := ⟨hz.kind, HU1.out, hz.of_, hz.li, HU2.out, hz.fi, hz.se, hz.de, hz.cidl, hz.cid⟩
      have HWF := Qh hwf
      clear hwf hz
      show Q _ _ _
      exact HK.out _ _ _ _ _ _ _ _ _ _ _ _ _ _ _ _ _ _ _ _ _ _ _ _ _ _ _ _ _ _ _ _ _ _ _ _ _ _ _ _ _ _ _ _ _ _ _ _ _ _ _ _ _ _ _ _ _ _ _ _ _ _ _ _ _ _ _ _ _ _ _ _ _ _ _ _ _ _ _ _ _ _ _ _ _ _ _ _ _ _ _ _ _ _ _ _ _ _ _ _ _ _ _ _ _ _ _ _ _ _ _ _ _ _ _ _ _ _ _ _ _ _ _ _ _ _ _ _ _ _ _ _ _ _ _ _ _ _ _ _ zw2 (Qh ⟨HC.out, .inr ⟨_, _, _, _, _, rfl, HF.out, HR.out, FrAt.bare HWF.out rfl rfl, FrLo.nil _, rfl⟩⟩)
     ·
      by_cases hk9 : k = 6
      ·
       subst hk9
       obtain ⟨⟨x1, b1, d1⟩, hx1⟩ : ∃ r, varM bs bad = r := ⟨_, rfl⟩
       obtain ⟨⟨x2, b2, d2⟩, hx2⟩ : ∃ r, textM b1 d1 = r := ⟨_, rfl⟩
       have hq : frameR 6 bs bad = (some ({ zeroF 6 with of_ := x1, data := x2 } : Fr), b2, d2) := by simp [frameR, takeR, bnd, ret, hx1, hx2]
       rw [hq] at HK
       clear hq
       have HX1 := Qh hx1
       have HX2 := Qh hx2
       clear hx1 hx2
       have hz := zero_wf 6 (by omega)
       have hb := rvar_any W0 w 0 p bs bad HR.out
       rw [HX1.out] at hb
       have hu := varM_in bs bad HR.out.bytes
       rw [HX1.out] at hu
       have HU1 := Qh (u64_of hu)
       clear hu
       have HCL := Qh hb
       clear hb
       go_wp2_with fail
       refine Calls.mono HCL.out ?_
       rintro e w1 ⟨rfl, hR, hg⟩
       replace HR := Qh hR
       replace HF := Qh (grown_row hg (by intro e; injection e with e; exact hgp e) HF.out)
       replace HC := Qh (HC.out.byP hg)
       clear hR hg HCL
       have hb := rtext_any W0 w1 0 p b1 d1 HR.out
       rw [HX2.out] at hb
       have HCL := Qh hb
       clear hb
       go_wp2_with fail
       refine Calls.mono HCL.out ?_
       rintro e w2 ⟨da, dn, dc, rfl, hdc, hI, hR, hg, hlo⟩
       have HI := Qh hI; have HLO : Hid (∀ x, da = some x → some x.block ≠ some gf) := Qh (fun x hx e => by injection e with e; have := hlo x hx; have := lt_of_block HF.out; omega)
       have HDC := Qh hdc
       have HLB : Hid (∀ x, da = some x → w.heap.size ≤ x.block) := Qh (fun x hx => Nat.le_trans HC.out.size (hlo x hx))
       clear hI hlo hdc
       replace HR := Qh hR
       replace HF := Qh (grown_row hg (by intro e; injection e with e; exact hgp e) HF.out)
       replace HC := Qh (HC.out.byP hg)
       clear hR hg HCL
       have c_of_ := row_cell HF.out 2 _ rfl
       have c_data := row_cell HF.out 3 _ rfl
       have f_of_ := row_free HF.out 2
       have f_data := row_free HF.out 3
       have hat := (((At.base HF.out).set 2 (.int .u64 x1)).set 3 (.slice da dn dc)).conv (cs' := (({ zeroF 6 with of_ := x1, data := x2 } : Fr).cells (.slice da dn dc) (.slice none 0 0)).toArray) (by rfl)
       have HAT := Qh hat
       clear hat
       go_wp2_with fail
       clear c_of_ f_of_ c_data f_data
       replace HR := Qh (HR.out.grownG HAT.out.rest hgp hgW)
       replace HC := Qh (HC.out.byQ HAT.out.rest)
       replace HF := Qh HAT.out.row
       replace HI := Qh (HI.out.grown HAT.out.rest HLO.out)
       clear HAT
       generalize ((w2.setCell ⟨gf, 2, none⟩ (.int .u64 x1)).setCell ⟨gf, 3, none⟩ (.slice da dn dc)) = zw2 at HR HC HF HI ⊢
       have hwf : ({ zeroF 6 with of_ := x1, data := x2 } : Fr).Wf := ⟨hz.kind, hz.st, HU1.out, hz.li, hz.co, hz.fi, hz.se, hz.de, hz.cidl, hz.cid⟩
       have HWF := Qh hwf
       clear hwf hz
       show Q _ _ _
       exact HK.out _ _ _ _ _ _ _ _ _ _ _ _ _ _ _ _ _ _ _ _ _ _ _ _ _ _ _ _ _ _ _ _ _ _ _ _ _ _ _ _ _ _ _ _ _ _ _ _ _ _ _ _ _ _ _ _ _ _ _ _ _ _ _ _ _ _ _ _ _ _ _ _ _ _ _ _ _ _ _ _ _ _ _ _ _ _ _ _ _ _ _ _ _ _ _ _ _ _ _ _ _ _ _ _ _ _ _ _ _ _ _ _ _ _ _ _ _ _ _ _ _ _ _ _ _ _ _ _ _ _ _ _ _ _ _ _ _ _ _ _ zw2 (Qh ⟨HC.out, .inr ⟨_, _, _, _, _, rfl, HF.out, HR.out, FrAt.text HWF.out HDC.out HI.out rfl, FrLo.text HLB.out, rfl⟩⟩)
      ·
       by_cases hk9 : k = 16 ∨ k = 18 ∨ k = 20
       ·
        obtain ⟨⟨x1, b1, d1⟩, hx1⟩ : ∃ r, varM bs bad = r := ⟨_, rfl⟩
        have hq : frameR k bs bad = (some ({ zeroF k with li := x1 } : Fr), b1, d1) := by rcases hk9 with rfl | rfl | rfl <;> simp [frameR, takeR, bnd, ret, hx1]
        rw [hq] at HK
        clear hq
        have HX1 := Qh hx1
        clear hx1
        have hcv : ∀ cs : Array Value, cs = (({ zeroF k with li := x1 } : Fr).cells (.slice none 0 0) (.slice none 0 0)).toArray → cs = (({ zeroF k with li := x1 } : Fr).cells (.slice none 0 0) (.slice none 0 0)).toArray := fun _ h => h
        have hz := zero_wf k (by omega)
        obtain ⟨FX, hFX⟩ : ∃ F, F = ({ zeroF k with li := x1 } : Fr) := ⟨_, rfl⟩
        rw [← hFX] at HK
        clear hcv
        rcases hk9 with rfl | rfl | rfl
        all_goals
         have hb := rvar_any W0 w 0 p bs bad HR.out
         rw [HX1.out] at hb
         have hu := varM_in bs bad HR.out.bytes
         rw [HX1.out] at hu
         have HU1 := Qh (u64_of hu)
         clear hu
         have HCL := Qh hb
         clear hb
         go_wp2_with fail
         refine Calls.mono HCL.out ?_
         rintro e w1 ⟨rfl, hR, hg⟩
         replace HR := Qh hR
         replace HF := Qh (grown_row hg (by intro e; injection e with e; exact hgp e) HF.out)
         replace HC := Qh (HC.out.byP hg)
         clear hR hg HCL
         have c_li := row_cell HF.out 5 _ rfl
         have f_li := row_free HF.out 5
         have hat := ((At.base HF.out).set 5 (.int .u64 x1)).conv (cs' := (FX.cells (.slice none 0 0) (.slice none 0 0)).toArray) (by rw [hFX]; rfl)
         have HAT := Qh hat
         clear hat
         go_wp2_with fail
         clear c_li f_li
         replace HR := Qh (HR.out.grownG HAT.out.rest hgp hgW)
         replace HC := Qh (HC.out.byQ HAT.out.rest)
         replace HF := Qh HAT.out.row
         clear HAT
         generalize (w1.setCell ⟨gf, 5, none⟩ (.int .u64 x1)) = zw1 at HR HC HF ⊢
         have hwf : FX.Wf := by rw [hFX]; exact ⟨hz.kind, hz.st, hz.of_, HU1.out, hz.co, hz.fi, hz.se, hz.de, hz.cidl, hz.cid⟩
         have HWF := Qh hwf
         clear hwf hz
         show Q _ _ _
         exact HK.out _ _ _ _ _ _ _ _ _ _ _ _ _ _ _ _ _ _ _ _ _ _ _ _ _ _ _ _ _ _ _ _ _ _ _ _ _ _ _ _ _ _ _ _ _ _ _ _ _ _ _ _ _ _ _ _ _ _ _ _ _ _ _ _ _ _ _ _ _ _ _ _ _ _ _ _ _ _ _ _ _ _ _ _ _ _ _ _ _ _ _ _ _ _ _ _ _ _ _ _ _ _ _ _ _ _ _ _ _ _ _ _ _ _ _ _ _ _ _ _ _ _ _ _ _ _ _ _ _ _ _ _ _ _ _ _ _ _ _ _ zw1 (Qh ⟨HC.out, .inr ⟨_, _, _, _, _, rfl, HF.out, HR.out, FrAt.bare HWF.out (by rw [hFX]; rfl) (by rw [hFX]; rfl), FrLo.nil _, rfl⟩⟩)
       ·
        by_cases hk9 : k = 17
        ·
         subst hk9
         obtain ⟨⟨x1, b1, d1⟩, hx1⟩ : ∃ r, varM bs bad = r := ⟨_, rfl⟩
         obtain ⟨⟨x2, b2, d2⟩, hx2⟩ : ∃ r, varM b1 d1 = r := ⟨_, rfl⟩
         have hq : frameR 17 bs bad = (some ({ zeroF 17 with st := x1, li := x2 } : Fr), b2, d2) := by simp [frameR, takeR, bnd, ret, hx1, hx2]
         rw [hq] at HK
         clear hq
         have HX1 := Qh hx1
         have HX2 := Qh hx2
         clear hx1 hx2
         have hz := zero_wf 17 (by omega)
         have hb := rvar_any W0 w 0 p bs bad HR.out
         rw [HX1.out] at hb
         have hu := varM_in bs bad HR.out.bytes
         rw [HX1.out] at hu
         have HU1 := Qh (u64_of hu)
         clear hu
         have HCL := Qh hb
         clear hb
         go_wp2_with fail
         refine Calls.mono HCL.out ?_
         rintro e w1 ⟨rfl, hR, hg⟩
         replace HR := Qh hR
         replace HF := Qh (grown_row hg (by intro e; injection e with e; exact hgp e) HF.out)
         replace HC := Qh (HC.out.byP hg)
         clear hR hg HCL
         have hb := rvar_any W0 w1 0 p b1 d1 HR.out
         rw [HX2.out] at hb
         have hu := varM_in b1 d1 HR.out.bytes
         rw [HX2.out] at hu
         have HU2 := Qh (u64_of hu)
         clear hu
         have HCL := Qh hb
         clear hb
         go_wp2_with fail
         refine Calls.mono HCL.out ?_
         rintro e w2 ⟨rfl, hR, hg⟩
         replace HR := Qh hR
         replace HF := Qh (grown_row hg (by intro e; injection e with e; exact hgp e) HF.out)
         replace HC := Qh (HC.out.byP hg)
         clear hR hg HCL
         have c_st := row_cell HF.out 1 _ rfl
         have c_li := row_cell HF.out 5 _ rfl
         have f_st := row_free HF.out 1
         have f_li := row_free HF.out 5
         have hat := (((At.base HF.out).set 1 (.int .u64 x1)).set 5 (.int .u64 x2)).conv (cs' := (({ zeroF 17 with st := x1, li := x2 } : Fr).cells (.slice none 0 0) (.slice none 0 0)).toArray) (by rfl)
         have HAT := Qh hat
         clear hat
         go_wp2_with fail
         clear c_st f_st c_li f_li
         replace HR := Qh (HR.out.grownG HAT.out.rest hgp hgW)
         replace HC := Qh (HC.out.byQ HAT.out.rest)
         replace HF := Qh HAT.out.row
         clear HAT
         generalize ((w2.setCell ⟨gf, 1, none⟩ (.int .u64 x1)).setCell ⟨gf, 5, none⟩ (.int .u64 x2)) = zw2 at HR HC HF ⊢
         have hwf : ({ zeroF 17 with st := x1, li := x2 } : Fr).Wf := ⟨hz.kind, HU1.out, hz.of_, HU2.out, hz.co, hz.fi, hz.se, hz.de, hz.cidl, hz.cid⟩
         have HWF := Qh hwf
         clear hwf hz
         show Q _ _ _
         exact HK.out _ _ _ _ _ _ _ _ _ _ _ _ _ _ _ _ _ _ _ _ _ _ _ _ _ _ _ _ _ _ _ _ _ _ _ _ _ _ _ _ _ _ _ _ _ _ _ _ _ _ _ _ _ _ _ _ _ _ _ _ _ _ _ _ _ _ _ _ _ _ _ _ _ _ _ _ _ _ _ _ _ _ _ _ _ _ _ _ _ _ _ _ _ _ _ _ _ _ _ _ _ _ _ _ _ _ _ _ _ _ _ _ _ _ _ _ _ _ _ _ _ _ _ _ _ _ _ _ _ _ _ _ _ _ _ _ _ _ _ _ zw2 (Qh ⟨HC.out, .inr ⟨_, _, _, _, _, rfl, HF.out, HR.out, FrAt.bare HWF.out rfl rfl, FrLo.nil _, rfl⟩⟩)
        ·
         by_cases hk9 : k = 24
         ·
          subst hk9
          obtain ⟨⟨x1, b1, d1⟩, hx1⟩ : ∃ r, varM bs bad = r := ⟨_, rfl⟩
          obtain ⟨⟨x2, b2, d2⟩, hx2⟩ : ∃ r, varM b1 d1 = r := ⟨_, rfl⟩
          obtain ⟨⟨x3, b3, d3⟩, hx3⟩ : ∃ r, byteM b2 d2 = r := ⟨_, rfl⟩
          obtain ⟨⟨x4, b4, d4⟩, hx4⟩ : ∃ r, nameR b3 d3 = r := ⟨_, rfl⟩
          have hn8 := name_len b3 d3
          rw [hx4] at hn8
          simp only at hn8
          have HN8 := Qh hn8
          clear hn8
          have hq : frameR 24 bs bad = ((if x3 = 8 then some ({ zeroF 24 with se := x1, li := x2, cid := x4 } : Fr) else none), b4, d4) := by simp [frameR, takeR, bnd, ret, hx1, hx2, hx3, hx4]
          rw [hq] at HK
          clear hq
          have HX1 := Qh hx1
          have HX2 := Qh hx2
          have HX3 := Qh hx3
          have HX4 := Qh hx4
          clear hx1 hx2 hx3 hx4
          have hz := zero_wf 24 (by omega)
          have hb := rvar_any W0 w 0 p bs bad HR.out
          rw [HX1.out] at hb
          have hu := varM_in bs bad HR.out.bytes
          rw [HX1.out] at hu
          have HU1 := Qh (u64_of hu)
          clear hu
          have HCL := Qh hb
          clear hb
          go_wp2_with fail
          refine Calls.mono HCL.out ?_
          rintro e w1 ⟨rfl, hR, hg⟩
          replace HR := Qh hR
          replace HF := Qh (grown_row hg (by intro e; injection e with e; exact hgp e) HF.out)
          replace HC := Qh (HC.out.byP hg)
          clear hR hg HCL
          have hb := rvar_any W0 w1 0 p b1 d1 HR.out
          rw [HX2.out] at hb
          have hu := varM_in b1 d1 HR.out.bytes
          rw [HX2.out] at hu
          have HU2 := Qh (u64_of hu)
          clear hu
          have HCL := Qh hb
          clear hb
          go_wp2_with fail
          refine Calls.mono HCL.out ?_
          rintro e w2 ⟨rfl, hR, hg⟩
          replace HR := Qh hR
          replace HF := Qh (grown_row hg (by intro e; injection e with e; exact hgp e) HF.out)
          replace HC := Qh (HC.out.byP hg)
          clear hR hg HCL
          have c_se := row_cell HF.out 8 _ rfl
          have c_li := row_cell HF.out 5 _ rfl
          have f_se := row_free HF.out 8
          have f_li := row_free HF.out 5
          have hat := (((At.base HF.out).set 8 (.int .u64 x1)).set 5 (.int .u64 x2)).conv (cs' := (({ zeroF 24 with se := x1, li := x2 } : Fr).cells (.slice none 0 0) (.slice none 0 0)).toArray) (by rfl)
          have HAT := Qh hat
          clear hat
          go_wp2_with fail
          clear c_se f_se c_li f_li
          replace HR := Qh (HR.out.grownG HAT.out.rest hgp hgW)
          replace HC := Qh (HC.out.byQ HAT.out.rest)
          replace HF := Qh HAT.out.row
          clear HAT
          generalize ((w2.setCell ⟨gf, 8, none⟩ (.int .u64 x1)).setCell ⟨gf, 5, none⟩ (.int .u64 x2)) = zw2 at HR HC HF ⊢
          have hb := rbyte_any W0 zw2 0 p b2 d2 HR.out
          rw [HX3.out] at hb
          have HCL := Qh hb
          clear hb
          go_wp2_with fail
          refine Calls.mono HCL.out ?_
          rintro e w3 ⟨rfl, hR, hg⟩
          replace HR := Qh hR
          replace HF := Qh (grown_row hg (by intro e; injection e with e; exact hgp e) HF.out)
          replace HC := Qh (HC.out.byP hg)
          clear hR hg HCL
          have HNW := Qh (name_wf d3 HR.out.bytes)
          rw [HX4.out] at HNW
          have hb := rname_any W0 w3 0 p b3 d3 HR.out
          rw [HX4.out] at hb
          have HCL := Qh hb
          clear hb
          go_wp2_with fail
          refine Calls.mono HCL.out ?_
          rintro e w4 ⟨rfl, hR, hg⟩
          replace HR := Qh hR
          replace HF := Qh (grown_row hg (by intro e; injection e with e; exact hgp e) HF.out)
          replace HC := Qh (HC.out.byP hg)
          clear hR hg HCL
          have H18 : Hid ((x4.map (Value.int .u8)).length = 8) := Qh (by rw [List.length_map]; exact HN8.out)
          go_wp2_with (first | (refine wpList_store_part rfl 37 _ _ rfl gf 11 rfl (x4.map (Value.int .u8)) _ (({ zeroF 24 with se := x1, li := x2 } : Fr).cells (.slice none 0 0) (.slice none 0 0) |>.take 11) (zeroF 0 |>.cid.map (Value.int .u8)) [] rfl HF.out rfl (by rw [H18.out]; rfl) (by rw [H18.out]; rfl) ints_one ?_; intro wn hr hg; have HO9 := Qh hr; have HG9 := Qh hg; clear hr hg) | fail)
          have hrow : wn.heap[gf]? = some (.cells (({ zeroF 24 with se := x1, li := x2, cid := x4 } : Fr).cells (.slice none 0 0) (.slice none 0 0)).toArray 39 (0, 0)) := by have h9 := HO9.out; rw [List.append_nil] at h9; exact h9
          replace HF := Qh hrow
          clear hrow HO9
          replace HR := Qh (HR.out.grownG HG9.out hgp hgW)
          replace HC := Qh (HC.out.byQ HG9.out)
          clear HG9
          have hwf : ({ zeroF 24 with se := x1, li := x2, cid := x4 } : Fr).Wf := ⟨hz.kind, hz.st, hz.of_, HU2.out, hz.co, hz.fi, HU1.out, hz.de, HN8.out, HNW.out⟩
          have HWF := Qh hwf
          clear hwf hz
          show Q _ _ _
          refine HK.out _ _ _ _ _ _ _ _ _ _ _ _ _ _ _ _ _ _ _ _ _ _ _ _ _ _ _ _ _ _ _ _ _ _ _ _ _ _ _ _ _ _ _ _ _ _ _ _ _ _ _ _ _ _ _ _ _ _ _ _ _ _ _ _ _ _ _ _ _ _ _ _ _ _ _ _ _ _ _ _ _ _ _ _ _ _ _ _ _ _ _ _ _ _ _ _ _ _ _ _ _ _ _ _ _ _ _ _ _ _ _ _ _ _ _ _ _ _ _ _ _ _ _ _ _ _ _ _ _ _ _ _ _ _ _ _ _ _ _ _ wn (Qh ?_)
          by_cases h8 : x3 = 8
          ·
           exact ⟨HC.out, .inr ⟨_, _, _, _, _, by simp [h8], HF.out, HR.out, FrAt.bare HWF.out rfl rfl, FrLo.nil _, by rw [if_pos h8]⟩⟩
          ·
           exact ⟨HC.out, .inl ⟨by simp [h8], by rw [if_neg h8]; rfl⟩⟩
         ·
          by_cases hk9 : k = 25
          ·
           subst hk9
           obtain ⟨⟨x1, b1, d1⟩, hx1⟩ : ∃ r, varM bs bad = r := ⟨_, rfl⟩
           have hq : frameR 25 bs bad = (some ({ zeroF 25 with se := x1 } : Fr), b1, d1) := by simp [frameR, takeR, bnd, ret, hx1]
           rw [hq] at HK
           clear hq
           have HX1 := Qh hx1
           clear hx1
           have hz := zero_wf 25 (by omega)
           have hb := rvar_any W0 w 0 p bs bad HR.out
           rw [HX1.out] at hb
           have hu := varM_in bs bad HR.out.bytes
           rw [HX1.out] at hu
           have HU1 := Qh (u64_of hu)
           clear hu
           have HCL := Qh hb
           clear hb
           go_wp2_with fail
           refine Calls.mono HCL.out ?_
           rintro e w1 ⟨rfl, hR, hg⟩
           replace HR := Qh hR
           replace HF := Qh (grown_row hg (by intro e; injection e with e; exact hgp e) HF.out)
           replace HC := Qh (HC.out.byP hg)
           clear hR hg HCL
           have c_se := row_cell HF.out 8 _ rfl
           have f_se := row_free HF.out 8
           have hat := ((At.base HF.out).set 8 (.int .u64 x1)).conv (cs' := (({ zeroF 25 with se := x1 } : Fr).cells (.slice none 0 0) (.slice none 0 0)).toArray) (by rfl)
           have HAT := Qh hat
           clear hat
           go_wp2_with fail
           clear c_se f_se
           replace HR := Qh (HR.out.grownG HAT.out.rest hgp hgW)
           replace HC := Qh (HC.out.byQ HAT.out.rest)
           replace HF := Qh HAT.out.row
           clear HAT
           generalize (w1.setCell ⟨gf, 8, none⟩ (.int .u64 x1)) = zw1 at HR HC HF ⊢
           have hwf : ({ zeroF 25 with se := x1 } : Fr).Wf := ⟨hz.kind, hz.st, hz.of_, hz.li, hz.co, hz.fi, HU1.out, hz.de, hz.cidl, hz.cid⟩
           have HWF := Qh hwf
           clear hwf hz
           show Q _ _ _
           exact HK.out _ _ _ _ _ _ _ _ _ _ _ _ _ _ _ _ _ _ _ _ _ _ _ _ _ _ _ _ _ _ _ _ _ _ _ _ _ _ _ _ _ _ _ _ _ _ _ _ _ _ _ _ _ _ _ _ _ _ _ _ _ _ _ _ _ _ _ _ _ _ _ _ _ _ _ _ _ _ _ _ _ _ _ _ _ _ _ _ _ _ _ _ _ _ _ _ _ _ _ _ _ _ _ _ _ _ _ _ _ _ _ _ _ _ _ _ _ _ _ _ _ _ _ _ _ _ _ _ _ _ _ _ _ _ _ _ _ _ _ _ zw1 (Qh ⟨HC.out, .inr ⟨_, _, _, _, _, rfl, HF.out, HR.out, FrAt.bare HWF.out rfl rfl, FrLo.nil _, rfl⟩⟩)
          ·
           by_cases hk9 : k = 26 ∨ k = 27
           ·
            obtain ⟨⟨x1, b1, d1⟩, hx1⟩ : ∃ r, nameR bs bad = r := ⟨_, rfl⟩
            have hn8 := name_len bs bad
            have hnw := name_wf bad HR.out.bytes
            rw [hx1] at hn8 hnw
            simp only at hn8 hnw
            have HN8 := Qh hn8; have HNW := Qh hnw
            clear hn8 hnw
            have hq : frameR k bs bad = (some ({ zeroF k with cid := x1 } : Fr), b1, d1) := by rcases hk9 with rfl | rfl <;> simp [frameR, takeR, bnd, ret, hx1]
            rw [hq] at HK
            clear hq
            have HX1 := Qh hx1
            clear hx1
            have hcv : ∀ cs : Array Value, cs = (({ zeroF k with cid := x1 } : Fr).cells (.slice none 0 0) (.slice none 0 0)).toArray → cs = (({ zeroF k with cid := x1 } : Fr).cells (.slice none 0 0) (.slice none 0 0)).toArray := fun _ h => h
            have hz := zero_wf k (by omega)
            obtain ⟨FX, hFX⟩ : ∃ F, F = ({ zeroF k with cid := x1 } : Fr) := ⟨_, rfl⟩
            rw [← hFX] at HK
            clear hcv
            rcases hk9 with rfl | rfl
            all_goals
             have hb := rname_any W0 w 0 p bs bad HR.out
             rw [HX1.out] at hb
             have HCL := Qh hb
             clear hb
             go_wp2_with fail
             refine Calls.mono HCL.out ?_
             rintro e w1 ⟨rfl, hR, hg⟩
             replace HR := Qh hR
             replace HF := Qh (grown_row hg (by intro e; injection e with e; exact hgp e) HF.out)
             replace HC := Qh (HC.out.byP hg)
             clear hR hg HCL
             have H18 : Hid ((x1.map (Value.int .u8)).length = 8) := Qh (by rw [List.length_map]; exact HN8.out)
             go_wp2_with (first | (refine wpList_store_part rfl 37 _ _ rfl gf 11 rfl (x1.map (Value.int .u8)) _ ((zeroF _).cells (.slice none 0 0) (.slice none 0 0) |>.take 11) (zeroF 0 |>.cid.map (Value.int .u8)) [] rfl HF.out rfl (by rw [H18.out]; rfl) (by rw [H18.out]; rfl) ints_one ?_; intro wn hr hg; have HO9 := Qh hr; have HG9 := Qh hg; clear hr hg) | fail)
             have hrow : wn.heap[gf]? = some (.cells (FX.cells (.slice none 0 0) (.slice none 0 0)).toArray 39 (0, 0)) := by rw [hFX]; have h9 := HO9.out; rw [List.append_nil] at h9; exact h9
             replace HF := Qh hrow
             clear hrow HO9
             replace HR := Qh (HR.out.grownG HG9.out hgp hgW)
             replace HC := Qh (HC.out.byQ HG9.out)
             clear HG9
             have hwf : FX.Wf := by rw [hFX]; exact ⟨hz.kind, hz.st, hz.of_, hz.li, hz.co, hz.fi, hz.se, hz.de, HN8.out, HNW.out⟩
             have HWF := Qh hwf
             clear hwf hz
             show Q _ _ _
             exact HK.out _ _ _ _ _ _ _ _ _ _ _ _ _ _ _ _ _ _ _ _ _ _ _ _ _ _ _ _ _ _ _ _ _ _ _ _ _ _ _ _ _ _ _ _ _ _ _ _ _ _ _ _ _ _ _ _ _ _ _ _ _ _ _ _ _ _ _ _ _ _ _ _ _ _ _ _ _ _ _ _ _ _ _ _ _ _ _ _ _ _ _ _ _ _ _ _ _ _ _ _ _ _ _ _ _ _ _ _ _ _ _ _ _ _ _ _ _ _ _ _ _ _ _ _ _ _ _ _ _ _ _ _ _ _ _ _ _ _ _ _ wn (Qh ⟨HC.out, .inr ⟨_, _, _, _, _, rfl, HF.out, HR.out, FrAt.bare HWF.out (by rw [hFX]; rfl) (by rw [hFX]; rfl), FrLo.nil _, rfl⟩⟩)
           ·
            by_cases hk9 : k = 28
            ·
             subst hk9
             obtain ⟨⟨x1, b1, d1⟩, hx1⟩ : ∃ r, varM bs bad = r := ⟨_, rfl⟩
             obtain ⟨⟨x2, b2, d2⟩, hx2⟩ : ∃ r, textM b1 d1 = r := ⟨_, rfl⟩
             have hq : frameR 28 bs bad = (some ({ zeroF 28 with co := x1, data := x2 } : Fr), b2, d2) := by simp [frameR, takeR, bnd, ret, hx1, hx2]
             rw [hq] at HK
             clear hq
             have HX1 := Qh hx1
             have HX2 := Qh hx2
             clear hx1 hx2
             have hz := zero_wf 28 (by omega)
             have hb := rvar_any W0 w 0 p bs bad HR.out
             rw [HX1.out] at hb
             have hu := varM_in bs bad HR.out.bytes
             rw [HX1.out] at hu
             have HU1 := Qh (u64_of hu)
             clear hu
             have HCL := Qh hb
             clear hb
             go_wp2_with fail
             refine Calls.mono HCL.out ?_
             rintro e w1 ⟨rfl, hR, hg⟩
             replace HR := Qh hR
             replace HF := Qh (grown_row hg (by intro e; injection e with e; exact hgp e) HF.out)
             replace HC := Qh (HC.out.byP hg)
             clear hR hg HCL
             have hb := rtext_any W0 w1 0 p b1 d1 HR.out
             rw [HX2.out] at hb
             have HCL := Qh hb
             clear hb
             go_wp2_with fail
             refine Calls.mono HCL.out ?_
             rintro e w2 ⟨da, dn, dc, rfl, hdc, hI, hR, hg, hlo⟩
             have HI := Qh hI; have HLO : Hid (∀ x, da = some x → some x.block ≠ some gf) := Qh (fun x hx e => by injection e with e; have := hlo x hx; have := lt_of_block HF.out; omega)
             have HDC := Qh hdc
             have HLB : Hid (∀ x, da = some x → w.heap.size ≤ x.block) := Qh (fun x hx => Nat.le_trans HC.out.size (hlo x hx))
             clear hI hlo hdc
             replace HR := Qh hR
             replace HF := Qh (grown_row hg (by intro e; injection e with e; exact hgp e) HF.out)
             replace HC := Qh (HC.out.byP hg)
             clear hR hg HCL
             have c_co := row_cell HF.out 6 _ rfl
             have c_data := row_cell HF.out 3 _ rfl
             have f_co := row_free HF.out 6
             have f_data := row_free HF.out 3
             have hat := (((At.base HF.out).set 6 (.int .u64 x1)).set 3 (.slice da dn dc)).conv (cs' := (({ zeroF 28 with co := x1, data := x2 } : Fr).cells (.slice da dn dc) (.slice none 0 0)).toArray) (by rfl)
             have HAT := Qh hat
             clear hat
             go_wp2_with fail
             clear c_co f_co c_data f_data
             replace HR := Qh (HR.out.grownG HAT.out.rest hgp hgW)
             replace HC := Qh (HC.out.byQ HAT.out.rest)
             replace HF := Qh HAT.out.row
             replace HI := Qh (HI.out.grown HAT.out.rest HLO.out)
             clear HAT
             generalize ((w2.setCell ⟨gf, 6, none⟩ (.int .u64 x1)).setCell ⟨gf, 3, none⟩ (.slice da dn dc)) = zw2 at HR HC HF HI ⊢
             have hwf : ({ zeroF 28 with co := x1, data := x2 } : Fr).Wf := ⟨hz.kind, hz.st, hz.of_, hz.li, HU1.out, hz.fi, hz.se, hz.de, hz.cidl, hz.cid⟩
             have HWF := Qh hwf
             clear hwf hz
             show Q _ _ _
             exact HK.out _ _ _ _ _ _ _ _ _ _ _ _ _ _ _ _ _ _ _ _ _ _ _ _ _ _ _ _ _ _ _ _ _ _ _ _ _ _ _ _ _ _ _ _ _ _ _ _ _ _ _ _ _ _ _ _ _ _ _ _ _ _ _ _ _ _ _ _ _ _ _ _ _ _ _ _ _ _ _ _ _ _ _ _ _ _ _ _ _ _ _ _ _ _ _ _ _ _ _ _ _ _ _ _ _ _ _ _ _ _ _ _ _ _ _ _ _ _ _ _ _ _ _ _ _ _ _ _ _ _ _ _ _ _ _ _ _ _ _ _ zw2 (Qh ⟨HC.out, .inr ⟨_, _, _, _, _, rfl, HF.out, HR.out, FrAt.text HWF.out HDC.out HI.out rfl, FrLo.text HLB.out, rfl⟩⟩)
            ·
             omega
end Go.Proofs.Ytmbjepcbokbemaa
namespace Go.Proofs.Ytmbjepcbokbemaa
open Go.RowKit
theorem grown_cell {w y : World} {r : Option Nat} {x : Addr} {v : Value} (hg : w.grownBy y r) (hr : some x.block ≠ r) (hc : w.cell? x = some v) : y.cell? x = some v := by
 have hb : x.block < w.heap.size := by
  by_cases h : x.block < w.heap.size
  ·
   exact h
  ·
   unfold World.cell? at hc; simp [Array.getElem?_eq_none (Nat.le_of_not_lt h)] at hc
 exact (World.cell?_of_block (hg.block x.block hb hr)).trans hc
theorem rdec_out {x1 x3 x5 x7 x8 x9 x10 x11 x12 x13 x14 x15 x16 x17 x18 x19 x20 x21 x22 x23 x24 x25 x26 x27 x28 x29 x30 x31 x32 x33 x34 x35 x36 x37 x38 x39 x40 x41 x42 x43 x44 x45 x46 x47 x48 x49 x50 x51 x52 x53 x54 x55 x56 x57 x58 x59 x60 x61 x62 x63 x64 x65 x66 x67 x68 x69 x70 x71 x72 x73 x74 x75 x76 x77 x78 x79 x80 x81 x82 x83 x84 x85 x86 x87 x88 x89 x90 x91 x92 x93 x94 x95 x96 x97 x98 x99 x100 x101 x102 x103 x104 x105 x106 x107 x108 x109 x110 x111 x112 x113 x114 x115 x116 x117 x118 x119 x120 x121 x122 x123 x124 x125 x126 x127 x128 x129 x130 x131 x132 x133 x134 x135 x136 x137 x138 x139 x140 x141 x142 x143 x144 x145 x146 x147 x148 x149 x150 x151 x152 x153 x154 x155 x156 x157 x158 x159 x160 x161 x162 x163 x164 x165 x166 x167 x168 x169 x170 x171 x172 x173 x174 x175 x176 x177 x178 x179 x180 : Value} {p gf go n cp n9 c9 : Nat} {a a9 : Option Addr} {RF : List Value} (w : World) {Q : Exit → Act → World → Prop}
  (HF : Hid (w.heap[gf]? = some (.cells RF.toArray 39 (0, 0)))) (HZ : Hid (w.heap[go]? = some (.cells ([.int .i64 0, .int .u64 0, .int .u64 0, .slice none 0 0, .bool false, .int .u64 0, .int .u64 0, .int .u64 0, .int .u64 0, .int .u64 0, .slice none 0 0, .int .u8 0, .int .u8 0, .int .u8 0, .int .u8 0, .int .u8 0, .int .u8 0, .int .u8 0, .int .u8 0] : List Value).toArray 39 (0, 0)))) (HP : Hid (w.cell? ⟨p, 0, none⟩ = some (.slice a9 n9 c9))) (HRF : Hid (RF.length = 19)) (HONE : Hid (∀ v ∈ RF, v.oneCell' = true)) (hne : go ≠ gf ∧ go ≠ p) (hqn : n9 ≤ n) (hnn : n ≤ 1000000)
  (hQp : ∀ c a d v w, Q (.panic c) (a.put d v) w → Q (.panic c) a w)
  (hQ : ∀ (y172 y173 y174 y175 y176 y177 y178 y179 y180 : Value) (w' : World), Hid (w'.heap[go]? = some (.cells RF.toArray 39 (0, 0))) → Hid (w.grownBy w' (some go)) → Q .normal ⟨List.toArray (.slice a n cp :: x1 :: .pointer (some ⟨go, 0, none⟩) :: .int .i64 ((n : Int) - n9) :: .pointer (some ⟨p, 0, none⟩) :: x5 :: .pointer (some ⟨gf, 0, none⟩) :: x7 :: x8 :: x9 :: x10 :: x11 :: x12 :: x13 :: x14 :: x15 :: x16 :: x17 :: x18 :: x19 :: x20 :: x21 :: x22 :: x23 :: x24 :: x25 :: x26 :: x27 :: x28 :: x29 :: x30 :: x31 :: x32 :: x33 :: x34 :: x35 :: x36 :: x37 :: x38 :: x39 :: x40 :: x41 :: x42 :: x43 :: x44 :: x45 :: x46 :: x47 :: x48 :: x49 :: x50 :: x51 :: x52 :: x53 :: x54 :: x55 :: x56 :: x57 :: x58 :: x59 :: x60 :: x61 :: x62 :: x63 :: x64 :: x65 :: x66 :: x67 :: x68 :: x69 :: x70 :: x71 :: x72 :: x73 :: x74 :: x75 :: x76 :: x77 :: x78 :: x79 :: x80 :: x81 :: x82 :: x83 :: x84 :: x85 :: x86 :: x87 :: x88 :: x89 :: x90 :: x91 :: x92 :: x93 :: x94 :: x95 :: x96 :: x97 :: x98 :: x99 :: x100 :: x101 :: x102 :: x103 :: x104 :: x105 :: x106 :: x107 :: x108 :: x109 :: x110 :: x111 :: x112 :: x113 :: x114 :: x115 :: x116 :: x117 :: x118 :: x119 :: x120 :: x121 :: x122 :: x123 :: x124 :: x125 :: x126 :: x127 :: x128 :: x129 :: x130 :: x131 :: x132 :: x133 :: x134 :: x135 :: x136 :: x137 :: x138 :: x139 :: x140 :: x141 :: x142 :: x143 :: x144 :: x145 :: x146 :: x147 :: x148 :: x149 :: x150 :: x151 :: x152 :: x153 :: x154 :: x155 :: x156 :: x157 :: x158 :: x159 :: x160 :: x161 :: x162 :: x163 :: x164 :: x165 :: x166 :: x167 :: x168 :: x169 :: x170 :: x171 :: y172 :: y173 :: y174 :: y175 :: y176 :: y177 :: y178 :: y179 :: y180 :: []), []⟩ w') :
  Code.wp Try.prog (((Try.f43.body.bind (subRegion 38)).getD .skip)) Q ⟨List.toArray (.slice a n cp :: x1 :: .pointer (some ⟨go, 0, none⟩) :: x3 :: .pointer (some ⟨p, 0, none⟩) :: x5 :: .pointer (some ⟨gf, 0, none⟩) :: x7 :: x8 :: x9 :: x10 :: x11 :: x12 :: x13 :: x14 :: x15 :: x16 :: x17 :: x18 :: x19 :: x20 :: x21 :: x22 :: x23 :: x24 :: x25 :: x26 :: x27 :: x28 :: x29 :: x30 :: x31 :: x32 :: x33 :: x34 :: x35 :: x36 :: x37 :: x38 :: x39 :: x40 :: x41 :: x42 :: x43 :: x44 :: x45 :: x46 :: x47 :: x48 :: x49 :: x50 :: x51 :: x52 :: x53 :: x54 :: x55 :: x56 :: x57 :: x58 :: x59 :: x60 :: x61 :: x62 :: x63 :: x64 :: x65 :: x66 :: x67 :: x68 :: x69 :: x70 :: x71 :: x72 :: x73 :: x74 :: x75 :: x76 :: x77 :: x78 :: x79 :: x80 :: x81 :: x82 :: x83 :: x84 :: x85 :: x86 :: x87 :: x88 :: x89 :: x90 :: x91 :: x92 :: x93 :: x94 :: x95 :: x96 :: x97 :: x98 :: x99 :: x100 :: x101 :: x102 :: x103 :: x104 :: x105 :: x106 :: x107 :: x108 :: x109 :: x110 :: x111 :: x112 :: x113 :: x114 :: x115 :: x116 :: x117 :: x118 :: x119 :: x120 :: x121 :: x122 :: x123 :: x124 :: x125 :: x126 :: x127 :: x128 :: x129 :: x130 :: x131 :: x132 :: x133 :: x134 :: x135 :: x136 :: x137 :: x138 :: x139 :: x140 :: x141 :: x142 :: x143 :: x144 :: x145 :: x146 :: x147 :: x148 :: x149 :: x150 :: x151 :: x152 :: x153 :: x154 :: x155 :: x156 :: x157 :: x158 :: x159 :: x160 :: x161 :: x162 :: x163 :: x164 :: x165 :: x166 :: x167 :: x168 :: x169 :: x170 :: x171 :: x172 :: x173 :: x174 :: x175 :: x176 :: x177 :: x178 :: x179 :: x180 :: []), []⟩ w := by
 have HK := Qh hQ; have HKP := Qh hQp
 clear hQ hQp
 conv => arg 2; whnf
 obtain ⟨hn1, hn2⟩ := hne
 have g0 : ∀ z : In (fun y => y.heap[gf]? = some (.cells RF.toArray 39 (0, 0)) ∧ y.cell? ⟨p, 0, none⟩ = some (.slice a9 n9 c9)), z.w.cell? ⟨p, 0, none⟩ = some (.slice a9 n9 c9) := fun z => z.h.2
 refine wp_plan (.t 0 (.t 1 (.t 2 (.t 3 (.t 4 (.t 5 (.t 6 (.t 7 (.t 8 (.u 9 (.t 10 .done))))))))))) (fun y => y.heap[gf]? = some (.cells RF.toArray 39 (0, 0)) ∧ y.cell? ⟨p, 0, none⟩ = some (.slice a9 n9 c9)) (by kernel_rfl) (by kernel_rfl) (by kernel_rfl) (fun c a d v w h => by first | (cases d <;> exact h) | exact HKP.out c a d v w h) ⟨HF.out, HP.out⟩ ?_
 have hd := (Below.refl w.heap.size w).drew
 replace HZ := Qh (bl_row hd (lt_of_block HZ.out) HZ.out)
 replace HF := Qh (bl_row hd (lt_of_block HF.out) HF.out)
 have HP2 : Hid (w.drew.cell? ⟨p, 0, none⟩ = some (.slice a9 n9 c9)) := HP
 have HD := Qh (grown_drew w (some go))
 clear hd HP
 generalize w.drew = w7 at HP2 HZ HF HD ⊢
 haveI hne : Nonempty (In (fun y => y.heap[gf]? = some (.cells RF.toArray 39 (0, 0)) ∧ y.cell? ⟨p, 0, none⟩ = some (.slice a9 n9 c9))) := ⟨⟨w7, ⟨HF.out, HP2.out⟩⟩⟩
 repeat (first | (refine plan_t_load (by rfl) (by kernel_rfl) 39 _ rfl gf 0 rfl RF _ (fun y hy => rngL hy.1) Try.underlying39 rfl (by rw [HRF.out]; rfl) ?_; simp only [Act.put, List.setIfInBounds_toArray, List.set_cons_succ, List.set_cons_zero]) | (refine plan_t (by rfl) ?_; (first | go_big_quiet_skip | (go_big_quiet_want; go_big_quiet_op; go_big_quiet_on)); refine wpQuiet_nil ?_))
 refine plan_us (by rfl) (by kernel_rfl) ?_
 intro K2 hK2
 refine wp_store_mid 39 _ _ rfl go 0 RF.toArray rfl rfl (there_row HZ.out (by rw [List.size_toArray, HRF.out]; exact Nat.le_refl _)) (by rw [List.size_toArray, HRF.out]; rfl) (all_oneCell_toArray HONE.out) ?_
 obtain ⟨hz8, hg8⟩ := setCells_row (g := go) (t := 39) RF [] ([.int .i64 0, .int .u64 0, .int .u64 0, .slice none 0 0, .bool false, .int .u64 0, .int .u64 0, .int .u64 0, .int .u64 0, .int .u64 0, .slice none 0 0, .int .u8 0, .int .u8 0, .int .u8 0, .int .u8 0, .int .u8 0, .int .u8 0, .int .u8 0, .int .u8 0] : List Value) w7 (by simpa using HZ.out) (by rw [HRF.out]; rfl)
 simp only [List.length_nil, List.nil_append] at hz8 hg8
 have HZ8 := Qh hz8; have HG8 := Qh (grown_trans HD.out hg8)
 have HF8 := Qh (grown_row hg8 (by intro e; injection e with e; exact hn1 e.symm) HF.out)
 have HP8 := Qh (grown_cell hg8 (by intro e; injection e with e; exact hn2 e.symm) HP2.out)
 clear hz8 hg8
 change K2 _ (w7.setCells go 0 RF)
 generalize w7.setCells go 0 RF = w8 at HZ8 HG8 HF8 HP8 ⊢
 refine hK2 _ _ ⟨⟨HF8.out, HP8.out⟩, ?_⟩
 clear hK2 K2
 simp only [Act.put, List.setIfInBounds_toArray, List.set_cons_succ, List.set_cons_zero]
 repeat (first | (refine plan_t (by rfl) ?_; (first | go_big_quiet_skip | (go_big_quiet_want; go_big_quiet_op; go_big_quiet_on)); refine wpQuiet_nil ?_))
 clear hne
 show Q _ _ _
 exact HK.out _ _ _ _ _ _ _ _ _ w8 HZ8 HG8
theorem results_cell2r {P : Program} {fn : Func} {r t : Tmp} {ty : TypeId} (h : fn.results = #[.cell r ty, .tmp t]) (tmps : Array Value) (w : World) (g : Nat) (hp : tmps.getD r undef = .pointer (some ⟨g, 0, none⟩))
  (cs : List Value) (d : TypeDesc) (e : TypeId) (hr : w.heap[g]? = some (.cells cs.toArray e (0, 0))) (hu : P.underlying ty = some d) (hd : d.isRow = true) (hi : (P.info? ty).map (·.size) = some cs.length) :
  (results fn tmps).run P w = .ok (.tuple #[.agg cs.toArray, tmps.getD t undef]) w := by
 have hl := run_loadVar_mid (P := P) w g 0 ty cs d (fun j v hv => by rw [Nat.zero_add]; exact row_cell hr j v (by simpa using hv)) hu hd hi
 have hp2 : tmps[r]?.getD undef = .pointer (some ⟨g, 0, none⟩) := by simpa using hp
 simp [results, h, hp2, asAddr, hl]
def RDecR (w : World) (bs : List Int) (e : Ending) (w' : World) : Prop :=
 Below w.heap.size w w' ∧ ((decF bs = none ∧ e = .returned (.tuple #[.agg ((zeroF 0).cells (.slice none 0 0) (.slice none 0 0)).toArray, .int .i64 0])) ∨
  ∃ f r dv rv, decF bs = some (f, r) ∧ r.length ≤ bs.length ∧ e = .returned (.tuple #[.agg (f.cells dv rv).toArray, .int .i64 ((bs.length : Int) - r.length)]) ∧ FrAt w' f dv rv ∧ FrLo w.heap.size dv rv)
theorem rdec4_any (w : World) (a : Option Addr) (n cp : Nat) (bs : List Int) (hI : IntsK .u8 w a n bs) (hn : n ≤ 1000000) (hc : n ≤ cp ∧ cp ≤ 9223372036854775807) :
  Calls Try.prog 43 #[.slice a n cp] w (RDecR w bs) := by
 have HI := Qh hI
 have hln : bs.length = n := hI.1
 have HLN := Qh hln
 obtain ⟨hc1, hc2⟩ := hc
 obtain ⟨⟨x1, b1, d1⟩, hx1⟩ : ∃ r, varM bs false = r := ⟨_, rfl⟩
 have hde : decF bs = if 30 < x1 then none else endF (frameR x1 b1 d1) := by unfold decF; rw [hx1]
 have HDE := Qh hde; have HX1 := Qh hx1
 clear hI hln hx1 hde
 go_enter Try.func43, Try.ntmps43
 go_upto_region 2 with fail
 change Code.wp _ _ _ _ ((w.alloc (.cells ([.int .i64 0, .int .u64 0, .int .u64 0, .slice none 0 0, .bool false, .int .u64 0, .int .u64 0, .int .u64 0, .int .u64 0, .int .u64 0, .slice none 0 0, .int .u8 0, .int .u8 0, .int .u8 0, .int .u8 0, .int .u8 0, .int .u8 0, .int .u8 0, .int .u8 0] : List Value).toArray 39)).alloc (.cells ([.slice a n cp, .bool false] : List Value).toArray 105))
 have HB := Qh (Below.refl w.heap.size w)
 obtain ⟨go, hg0⟩ : ∃ g, w.heap.size = g := ⟨_, rfl⟩
 try rw [hg0]
 have hb := (Below.refl w.heap.size w).alloc (Nat.le_refl _) (.cells ([.int .i64 0, .int .u64 0, .int .u64 0, .slice none 0 0, .bool false, .int .u64 0, .int .u64 0, .int .u64 0, .int .u64 0, .int .u64 0, .slice none 0 0, .int .u8 0, .int .u8 0, .int .u8 0, .int .u8 0, .int .u8 0, .int .u8 0, .int .u8 0, .int .u8 0] : List Value).toArray 39)
 have hrw := heap_alloc_new w (.cells ([.int .i64 0, .int .u64 0, .int .u64 0, .slice none 0 0, .bool false, .int .u64 0, .int .u64 0, .int .u64 0, .int .u64 0, .int .u64 0, .slice none 0 0, .int .u8 0, .int .u8 0, .int .u8 0, .int .u8 0, .int .u8 0, .int .u8 0, .int .u8 0, .int .u8 0] : List Value).toArray 39)
 have hsz : (w.alloc (.cells ([.int .i64 0, .int .u64 0, .int .u64 0, .slice none 0 0, .bool false, .int .u64 0, .int .u64 0, .int .u64 0, .int .u64 0, .int .u64 0, .slice none 0 0, .int .u8 0, .int .u8 0, .int .u8 0, .int .u8 0, .int .u8 0, .int .u8 0, .int .u8 0, .int .u8 0] : List Value).toArray 39)).heap.size = go + 1 := by simp [hg0]
 rw [hg0] at hrw
 replace HB := Qh (bl_next HB.out HB.out.size hb)
 have HO := Qh hrw
 clear hb hrw
 generalize w.alloc (.cells ([.int .i64 0, .int .u64 0, .int .u64 0, .slice none 0 0, .bool false, .int .u64 0, .int .u64 0, .int .u64 0, .int .u64 0, .int .u64 0, .slice none 0 0, .int .u8 0, .int .u8 0, .int .u8 0, .int .u8 0, .int .u8 0, .int .u8 0, .int .u8 0, .int .u8 0] : List Value).toArray 39) = w1 at HB HO hsz ⊢
 have hg1 := hsz
 clear hsz
 have HG0 := Qh hg0
 clear hg0
 have hb := (Below.refl w1.heap.size w1).alloc (Nat.le_refl _) (.cells ([.slice a n cp, .bool false] : List Value).toArray 105)
 have hrw := heap_alloc_new w1 (.cells ([.slice a n cp, .bool false] : List Value).toArray 105)
 have hsz : (w1.alloc (.cells ([.slice a n cp, .bool false] : List Value).toArray 105)).heap.size = go + 1 + 1 := by simp [hg1]
 rw [hg1] at hrw
 replace HB := Qh (bl_next HB.out HB.out.size hb)
 replace HO := Qh (bl_row hb (lt_of_block HO.out) HO.out)
 have HP := Qh hrw
 clear hb hrw
 generalize w1.alloc (.cells ([.slice a n cp, .bool false] : List Value).toArray 105) = w2 at HB HO HP hsz ⊢
 have hg2 := hsz
 clear hsz
 clear hg1
 obtain ⟨p, hgg⟩ : ∃ g, go + 1 = g := ⟨_, rfl⟩
 rw [hgg] at HP hg2 ⊢
 have HLTp : Hid (go < p) := Qh (by omega)
 clear hgg
 clear hg2
 have hgw : w.heap.size ≤ go := by have := HG0.out; omega
 have hgp : go < p := HLTp.out
 have HR : Hid (Rd w w2 0 p 105 bs false) := Qh ⟨by omega, fun i _ hi => HB.out.block i hi, by rw [HLN.out]; omega, a, n, cp, HP.out, hc1, hc2, HI.out, fun x _ => Nat.zero_le _⟩
 clear HP HI
 have hb := rvar_any w w2 0 p bs false HR.out
 rw [HX1.out] at hb
 have hu := varM_in bs false HR.out.bytes
 rw [HX1.out] at hu
 obtain ⟨m1, k1⟩ := hu
 simp only at m1 k1
 have HCL := Qh hb
 clear hb
 go_wp2_with fail
 refine Calls.mono HCL.out ?_
 rintro e w3 ⟨rfl, hR, hg⟩
 replace HR := Qh hR
 replace HO := Qh (grown_row hg (by intro e; injection e with e; omega) HO.out)
 replace HB := Qh (HB.out.grown hg HB.out.size (by intro k hk; injection hk with hk; omega))
 clear hR hg HCL
 have hand : bits .and .u64 x1 255 = x1 % 256 := by have h9 := and_mask x1 8 (by omega) (by omega) (by omega); simpa using h9
 obtain ⟨kk, hkk⟩ : ∃ kk, x1 % 256 = kk := ⟨_, rfl⟩
 rw [hkk] at hand
 have kk0 : 0 ≤ kk ∧ kk ≤ 255 := by omega
 have hkk2 : x1 ≤ 30 → kk = x1 := fun h => by omega
 have HKK := Qh hkk2
 clear hkk hkk2
 obtain ⟨kk1, kk2⟩ := kk0
 go_upto_region 4 with (first | rw [hand] | (refine wpList_store_row rfl 39 _ _ rfl _ rfl [.int .i64 kk, .int .u64 0, .int .u64 0, .slice none 0 0, .bool false, .int .u64 0, .int .u64 0, .int .u64 0, .int .u64 0, .int .u64 0, .slice none 0 0, .int .u8 0, .int .u8 0, .int .u8 0, .int .u8 0, .int .u8 0, .int .u8 0, .int .u8 0, .int .u8 0] [.int .i64 0, .int .u64 0, .int .u64 0, .slice none 0 0, .bool false, .int .u64 0, .int .u64 0, .int .u64 0, .int .u64 0, .int .u64 0, .slice none 0 0, .int .u8 0, .int .u8 0, .int .u8 0, .int .u8 0, .int .u8 0, .int .u8 0, .int .u8 0, .int .u8 0] rfl 39 (heap_alloc_new _ _) rfl rfl (one19 rfl rfl) ?_; intro w4 hr hg) | fail)
 have hal := (Below.refl w3.heap.size w3).alloc (Nat.le_refl _) (.cells [.int .i64 0, .int .u64 0, .int .u64 0, .slice none 0 0, .bool false, .int .u64 0, .int .u64 0, .int .u64 0, .int .u64 0, .int .u64 0, .slice none 0 0, .int .u8 0, .int .u8 0, .int .u8 0, .int .u8 0, .int .u8 0, .int .u8 0, .int .u8 0, .int .u8 0].toArray 39)
 have hb : Below w3.heap.size w3 w4 := hal.grown hg hal.size (by intro k hk; injection hk with hk; omega)
 have hpl := HR.out.lt
 replace HR := Qh (HR.out.to hb)
 replace HO := Qh (bl_row hb (lt_of_block HO.out) HO.out)
 have hsz3 := HB.out.size
 replace HB := Qh (bl_next HB.out HB.out.size hb)
 have HF : Hid (w4.heap[w3.heap.size]? = some (.cells ((zeroF kk).cells (.slice none 0 0) (.slice none 0 0)).toArray 39 (0, 0))) := Qh hr
 clear hr hg hal hb
 obtain ⟨gf, hgf⟩ : ∃ g, w3.heap.size = g := ⟨_, rfl⟩
 rw [hgf] at HF hpl hsz3 ⊢
 clear hgf
 by_cases h30 : 30 < x1
 ·
  have HN : Hid (decF bs = none) := Qh (by rw [HDE.out, if_pos h30])
  have e31 : decide (x1 < 31) = false := by simp; omega
  have e15 : decide (x1 ≤ 15) = false := by simp; omega
  have e2 : (x1 == 2) = false := by simp; omega
  have e4 : (x1 == 4) = false := by simp; omega
  have e5 : (x1 == 5) = false := by simp; omega
  have e6 : (x1 == 6) = false := by simp; omega
  have e16 : (x1 == 16) = false := by simp; omega
  have e18 : (x1 == 18) = false := by simp; omega
  have e20 : (x1 == 20) = false := by simp; omega
  have e17 : (x1 == 17) = false := by simp; omega
  have e24 : (x1 == 24) = false := by simp; omega
  have e25 : (x1 == 25) = false := by simp; omega
  have e26 : (x1 == 26) = false := by simp; omega
  have e27 : (x1 == 27) = false := by simp; omega
  have e28 : (x1 == 28) = false := by simp; omega
  go_wp2_with (first | (refine wpList_store_row rfl 39 _ _ rfl go rfl [.int .i64 0, .int .u64 0, .int .u64 0, .slice none 0 0, .bool false, .int .u64 0, .int .u64 0, .int .u64 0, .int .u64 0, .int .u64 0, .slice none 0 0, .int .u8 0, .int .u8 0, .int .u8 0, .int .u8 0, .int .u8 0, .int .u8 0, .int .u8 0, .int .u8 0] [.int .i64 0, .int .u64 0, .int .u64 0, .slice none 0 0, .bool false, .int .u64 0, .int .u64 0, .int .u64 0, .int .u64 0, .int .u64 0, .slice none 0 0, .int .u8 0, .int .u8 0, .int .u8 0, .int .u8 0, .int .u8 0, .int .u8 0, .int .u8 0, .int .u8 0] rfl 39 HO.out rfl rfl (one19 rfl rfl) ?_; intro wz hr hg; have HOZ := Qh hr; have HGZ := Qh hg; clear hr hg) | fail)
  (try simp only [Exit.inBlock, Exit.then])
  refine bodyPost_ret (results_cell2r rfl _ _ go rfl [.int .i64 0, .int .u64 0, .int .u64 0, .slice none 0 0, .bool false, .int .u64 0, .int .u64 0, .int .u64 0, .int .u64 0, .int .u64 0, .slice none 0 0, .int .u8 0, .int .u8 0, .int .u8 0, .int .u8 0, .int .u8 0, .int .u8 0, .int .u8 0, .int .u8 0] _ _ HOZ.out Try.underlying39 rfl rfl) rfl ?_
  exact ⟨HB.out.grown HGZ.out HB.out.size (by intro k hk; injection hk with hk; omega), .inl ⟨HN.out, rfl⟩⟩
 ·
  obtain rfl : kk = x1 := HKK.out (by omega)
  have e31 : decide (kk < 31) = true := by simp; omega
  obtain ⟨q, hq⟩ : ∃ q, frameR kk b1 d1 = q := ⟨_, rfl⟩
  rw [hq] at HDE
  rw [if_neg h30] at HDE
  have hk30 : 0 ≤ kk ∧ kk ≤ 30 := ⟨m1, by omega⟩
  go_upto_block 0 with (first | rw [e31] | fail)
  refine rsw_any _ HR HF (by omega) (by omega) hk30 (fun c a d v w h => by cases d <;> exact h) ?_
  rintro _ _ _ _ _ _ _ _ _ _ _ _ _ _ _ _ _ _ _ _ _ _ _ _ _ _ _ _ _ _ _ _ _ _ _ _ _ _ _ _ _ _ _ _ _ _ _ _ _ _ _ _ _ _ _ _ _ _ _ _ _ _ _ _ _ _ _ _ _ _ _ _ _ _ _ _ _ _ _ _ _ _ _ _ _ _ _ _ _ _ _ _ _ _ _ _ _ _ _ _ _ _ _ _ _ _ _ _ _ _ _ _ _ _ _ _ _ _ _ _ _ _ _ _ _ _ _ _ _ _ _ _ _ _ _ _ _ _ _ v7 w5 HS
  rw [hq] at HS
  have hgo4 := lt_of_block HO.out
  obtain ⟨hC, h9⟩ := HS.out
  replace HO := Qh ((hC.block go (lt_of_block HO.out) (by omega) (by intro e; injection e with e; omega)).trans HO.out)
  replace HB := Qh (hC.below HB.out HB.out.size (by omega) (by intro k hk; injection hk with hk; omega))
  obtain ⟨rfl, hn⟩ | ⟨F, dv, rv, rest, bad, rfl, hF, hR, hA, hlo, hqe⟩ := h9
  ·
   have HN : Hid (decF bs = none) := Qh (by rw [HDE.out, hn])
   clear hC HS HF HR hn
   go_wp2_with (first | (refine wpList_store_row rfl 39 _ _ rfl go rfl [.int .i64 0, .int .u64 0, .int .u64 0, .slice none 0 0, .bool false, .int .u64 0, .int .u64 0, .int .u64 0, .int .u64 0, .int .u64 0, .slice none 0 0, .int .u8 0, .int .u8 0, .int .u8 0, .int .u8 0, .int .u8 0, .int .u8 0, .int .u8 0, .int .u8 0] [.int .i64 0, .int .u64 0, .int .u64 0, .slice none 0 0, .bool false, .int .u64 0, .int .u64 0, .int .u64 0, .int .u64 0, .int .u64 0, .slice none 0 0, .int .u8 0, .int .u8 0, .int .u8 0, .int .u8 0, .int .u8 0, .int .u8 0, .int .u8 0, .int .u8 0] rfl 39 HO.out rfl rfl (one19 rfl rfl) ?_; intro wz hr hg; have HOZ := Qh hr; have HGZ := Qh hg; clear hr hg) | fail)
   (try simp only [Exit.inBlock, Exit.then])
   refine bodyPost_ret (results_cell2r rfl _ _ go rfl [.int .i64 0, .int .u64 0, .int .u64 0, .slice none 0 0, .bool false, .int .u64 0, .int .u64 0, .int .u64 0, .int .u64 0, .int .u64 0, .slice none 0 0, .int .u8 0, .int .u8 0, .int .u8 0, .int .u8 0, .int .u8 0, .int .u8 0, .int .u8 0, .int .u8 0] _ _ HOZ.out Try.underlying39 rfl rfl) rfl ?_
   exact ⟨HB.out.grown HGZ.out HB.out.size (by intro k hk; injection hk with hk; omega), .inl ⟨HN.out, rfl⟩⟩
  ·
   rw [hqe] at HDE
   have hlo4 := Qh hlo
   have HA := Qh hA; have HLO := Qh (hlo.less (show w.heap.size ≤ w4.heap.size by have := HR.out.size; omega))
   replace HR := Qh hR
   obtain ⟨a9, n9, c9, hrow, h91, h92, hi9, _⟩ := HR.out.ex
   have c1 := row_cell hrow 1 _ rfl
   have cp0 := row_cell hrow 0 _ rfl
   have HP := Qh cp0
   have hl9 : rest.length = n9 := hi9.1
   have HL9 := Qh hl9
   replace HF := Qh hF
   clear hC HS hF hR hA hlo hqe hrow hi9 cp0 hl9
   cases bad
   ·
    have HRF : Hid ((F.cells dv rv).length = 19) := Qh (Fr.len HA.out.wf)
    have HONE := Qh (Fr.one HA.out)
    have hrt := rright4_any w5 F dv rv HA.out
    obtain ⟨b, hbb⟩ : ∃ b, rightB F = b := ⟨_, rfl⟩
    rw [hbb] at hrt
    have HBB := Qh hbb
    obtain ⟨RF, hRF⟩ : ∃ R, F.cells dv rv = R := ⟨_, rfl⟩
    have HRE := Qh hRF
    rw [hRF] at hrt HRF HONE HF
    have HRT := Qh hrt
    clear hrt hbb hRF
    go_wp2_with (first | (refine wpList_load_g 39 _ rfl (by kernel_rfl) gf 0 rfl RF _ (rngL HF.out) Try.underlying39 rfl (by rw [HRF.out]; rfl) ?_) | fail)
    refine Calls.mono HRT.out ?_
    rintro e w6 ⟨rfl, hb⟩
    have hgo5 := lt_of_block HO.out
    replace HF := Qh (bl_row hb (lt_of_block HF.out) HF.out)
    replace HO := Qh (bl_row hb hgo5 HO.out)
    replace HB := Qh (bl_next HB.out HB.out.size hb)
    replace HA := Qh (HA.out.below hb)
    replace HP := Qh (bl_cell hb (p := ⟨p, 0, none⟩) HR.out.lt HP.out)
    clear hb HRT HR c1
    cases b
    ·
     have HN : Hid (decF bs = none) := Qh (by rw [HDE.out]; unfold endF; simp only; rw [if_pos (.inr HBB.out)])
     go_wp2_with (first | (refine wpList_store_row rfl 39 _ _ rfl go rfl [.int .i64 0, .int .u64 0, .int .u64 0, .slice none 0 0, .bool false, .int .u64 0, .int .u64 0, .int .u64 0, .int .u64 0, .int .u64 0, .slice none 0 0, .int .u8 0, .int .u8 0, .int .u8 0, .int .u8 0, .int .u8 0, .int .u8 0, .int .u8 0, .int .u8 0] [.int .i64 0, .int .u64 0, .int .u64 0, .slice none 0 0, .bool false, .int .u64 0, .int .u64 0, .int .u64 0, .int .u64 0, .int .u64 0, .slice none 0 0, .int .u8 0, .int .u8 0, .int .u8 0, .int .u8 0, .int .u8 0, .int .u8 0, .int .u8 0, .int .u8 0] rfl 39 HO.out rfl rfl (one19 rfl rfl) ?_; intro wz hr hg; have HOZ := Qh hr; have HGZ := Qh hg; clear hr hg) | fail)
     (try simp only [Exit.inBlock, Exit.then])
     refine bodyPost_ret (results_cell2r rfl _ _ go rfl [.int .i64 0, .int .u64 0, .int .u64 0, .slice none 0 0, .bool false, .int .u64 0, .int .u64 0, .int .u64 0, .int .u64 0, .int .u64 0, .slice none 0 0, .int .u8 0, .int .u8 0, .int .u8 0, .int .u8 0, .int .u8 0, .int .u8 0, .int .u8 0, .int .u8 0] _ _ HOZ.out Try.underlying39 rfl rfl) rfl ?_
     exact ⟨HB.out.grown HGZ.out HB.out.size (by intro k hk; injection hk with hk; omega), .inl ⟨HN.out, rfl⟩⟩
    ·
     have HN : Hid (decF bs = some (F, rest)) := Qh (by rw [HDE.out]; exact end_some HBB.out)
     have hdl := dec_len HN.out
     have hnn9 : n9 ≤ n := by have := HL9.out; have := HLN.out; omega
     clear hdl
     go_upto_region 38 with fail
     have hg9 : go ≠ gf ∧ go ≠ p := ⟨by omega, by omega⟩
     refine rdec_out _ HF HO HP HRF HONE hg9 hnn9 hn (fun c a d v w h => by cases d <;> exact h) ?_
     rintro _ _ _ _ _ _ _ _ _ w8 HO8 HG8
     have HA8 := Qh (HA.out.cellBut hlo4.out HG8.out (by omega))
     go_wp2_with fail
     (try simp only [Exit.inBlock, Exit.then])
     refine bodyPost_ret (results_cell2r rfl _ _ go rfl RF _ _ HO8.out Try.underlying39 rfl (by rw [HRF.out]; rfl)) rfl ?_
     exact ⟨HB.out.grown HG8.out HB.out.size (by intro k hk; injection hk with hk; omega), .inr ⟨F, rest, dv, rv, HN.out, dec_len HN.out, by rw [HRE.out, HL9.out, HLN.out]; rfl, HA8.out, HLO.out⟩⟩
   ·
    have HN : Hid (decF bs = none) := Qh (by rw [HDE.out]; exact endF_bad)
    clear HR HF HA
    go_wp2_with (first | (refine wpList_store_row rfl 39 _ _ rfl go rfl [.int .i64 0, .int .u64 0, .int .u64 0, .slice none 0 0, .bool false, .int .u64 0, .int .u64 0, .int .u64 0, .int .u64 0, .int .u64 0, .slice none 0 0, .int .u8 0, .int .u8 0, .int .u8 0, .int .u8 0, .int .u8 0, .int .u8 0, .int .u8 0, .int .u8 0] [.int .i64 0, .int .u64 0, .int .u64 0, .slice none 0 0, .bool false, .int .u64 0, .int .u64 0, .int .u64 0, .int .u64 0, .int .u64 0, .slice none 0 0, .int .u8 0, .int .u8 0, .int .u8 0, .int .u8 0, .int .u8 0, .int .u8 0, .int .u8 0, .int .u8 0] rfl 39 HO.out rfl rfl (one19 rfl rfl) ?_; intro wz hr hg; have HOZ := Qh hr; have HGZ := Qh hg; clear hr hg) | fail)
    (try simp only [Exit.inBlock, Exit.then])
    refine bodyPost_ret (results_cell2r rfl _ _ go rfl [.int .i64 0, .int .u64 0, .int .u64 0, .slice none 0 0, .bool false, .int .u64 0, .int .u64 0, .int .u64 0, .int .u64 0, .int .u64 0, .slice none 0 0, .int .u8 0, .int .u8 0, .int .u8 0, .int .u8 0, .int .u8 0, .int .u8 0, .int .u8 0, .int .u8 0] _ _ HOZ.out Try.underlying39 rfl rfl) rfl ?_
    exact ⟨HB.out.grown HGZ.out HB.out.size (by intro k hk; injection hk with hk; omega), .inl ⟨HN.out, rfl⟩⟩
end Go.Proofs.Ytmbjepcbokbemaa
