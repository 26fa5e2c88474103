/- texts of the proof, laid together: Hlo18, Hlo19, Hlo20, Hlo22, Hlo23, Hlo21. -/
import Derived.Test.YtlpajohhnngbmaaV1
namespace Go.Proofs.Ytlpajohhnngbmaa
open Go.RowKit
set_option linter.unusedVariables false
set_option linter.unusedSimpArgs false

theorem slot2f {w : World} {g : Nat} {z0 z1 : Nat} (h : w.heap[g]? = some (posC z0 z1)) (k : Nat) : w.frozen? ⟨g, k, none⟩ = false := by
  unfold posC at h
  exact row_free h k
theorem out_shape {w : World} {l : List Int} {e : Ending} {w' : World} (h : OutR w l e w') : ∃ va cap, e = .returned (.slice va l.length cap) ∧ Below w.heap.size w w' ∧ IntsK .u8 w' va l.length l ∧ ((va = none ∧ cap = 0) ∨ ∃ g, va = some ⟨g, 0, none⟩) ∧ l.length ≤ cap ∧ l.length ≤ 1000 := by
  obtain ⟨v, rfl, hb, ho, hwf, hle⟩ := h
  obtain ⟨a, cap, ev, hc, hi, _⟩ := ints_of_own ho hwf
  rcases ho.2 with ⟨rfl, _⟩ | ⟨g, cap2, cur, rfl, _⟩
  · injection ev with e1 e2 e3
    subst e1; subst e3
    exact ⟨none, 0, by rw [← e2], hb, hi, .inl ⟨rfl, rfl⟩, hc, hle⟩
  · injection ev with e1 e2 e3
    subst e1; subst e3
    exact ⟨_, cap2, rfl, hb, hi, .inr ⟨g, rfl⟩, hc, hle⟩
section
variable {psk : Int} {ba bb A B FA FB : List Int} {S : Int} {P Q : Pm} {X Y : Sd} {p0 p1 q0 q1 k : Nat}
theorem Ph.sumY (h : Ph psk A B FA FB S P Q X Y p0 p1 q0 q1) (hs : Say psk ba bb A B FA FB S P Q) : Y.i0.length + Y.i1.length ≤ 1000 := by
  rw [h.yi0, h.yi1, List.length_take, List.length_take, hs.lenFA, hs.lenA]; have := hs.la; omega
theorem Ph.sumX (h : Ph psk A B FA FB S P Q X Y p0 p1 q0 q1) (hs : Say psk ba bb A B FA FB S P Q) : X.i0.length + X.i1.length ≤ 1000 := by
  rw [h.xi0, h.xi1, List.length_take, List.length_take, hs.lenFB, hs.lenB]; have := hs.lb; omega
theorem Ph.halfY0 (h : Ph psk A B FA FB S P Q X Y p0 p1 q0 q1) (hs : Say psk ba bb A B FA FB S P Q) : p0 ≤ (outM X false).length ∧ (outM X false).length = A.length ∧ ∀ k, p0 + k ≤ (outM X false).length →
    ∃ Y', FeedM Y 0 (((outM X false).drop p0).take k) = (Y', 0) ∧ Ph psk A B FA FB S P Q X Y' (p0 + k) p1 q0 q1 := by
  rw [h.outX0]; exact ⟨h.lp0, rfl, fun k hk => h.stepY0 hs hk⟩
theorem Ph.halfY1 (h : Ph psk A B FA FB S P Q X Y p0 p1 q0 q1) (hs : Say psk ba bb A B FA FB S P Q) : p1 ≤ (outM X true).length ∧ (outM X true).length = (if q1 = 11 then 11 else 0) ∧ ∀ k, p1 + k ≤ (outM X true).length →
    ∃ Y', FeedM Y 1 (((outM X true).drop p1).take k) = (Y', 0) ∧ Ph psk A B FA FB S P Q X Y' p0 (p1 + k) q0 q1 := by
  rw [h.outX1]
  by_cases hq : q1 = 11
  · rw [if_pos hq, if_pos hq, hs.lenFA]; exact ⟨h.lp1, rfl, fun k hk => h.stepY1 hs hq hk⟩
  · rw [if_neg hq, if_neg hq]
    refine ⟨by have := h.c3; simp only [List.length_nil]; omega, rfl, fun k hk => ?_⟩
    have hk0 : k = 0 := by simp only [List.length_nil] at hk; omega
    subst hk0
    exact ⟨Y, feed_none _ _ h.yc, h⟩
theorem Ph.halfX0 (h : Ph psk A B FA FB S P Q X Y p0 p1 q0 q1) (hs : Say psk ba bb A B FA FB S P Q) : q0 ≤ (outM Y false).length ∧ (outM Y false).length = (if p0 = A.length then B.length else 0) ∧ ∀ k, q0 + k ≤ (outM Y false).length →
    ∃ X', FeedM X 0 (((outM Y false).drop q0).take k) = (X', 0) ∧ Ph psk A B FA FB S P Q X' Y p0 p1 (q0 + k) q1 := by
  rw [h.outY0]
  by_cases hp : p0 = A.length
  · rw [if_pos hp, if_pos hp]; exact ⟨h.lq0, rfl, fun k hk => h.stepX0 hs hp hk⟩
  · rw [if_neg hp, if_neg hp]
    refine ⟨by have := h.c1; simp only [List.length_nil]; omega, rfl, fun k hk => ?_⟩
    have hk0 : k = 0 := by simp only [List.length_nil] at hk; omega
    subst hk0
    exact ⟨X, feed_none _ _ h.xc, h⟩
theorem Ph.halfX1 (h : Ph psk A B FA FB S P Q X Y p0 p1 q0 q1) (hs : Say psk ba bb A B FA FB S P Q) : q1 ≤ (outM Y true).length ∧ (outM Y true).length = (if p0 = A.length then 11 else 0) ∧ ∀ k, q1 + k ≤ (outM Y true).length → (q0 = B.length ∨ k = 0) →
    ∃ X', FeedM X 1 (((outM Y true).drop q1).take k) = (X', 0) ∧ Ph psk A B FA FB S P Q X' Y p0 p1 q0 (q1 + k) := by
  rw [h.outY1]
  have hb := hs.lenB
  by_cases hp : p0 = A.length
  · rw [if_pos hp, if_pos hp, hs.lenFB]
    refine ⟨h.lq1, rfl, fun k hk hq => ?_⟩
    rcases hq with hq | hq
    · exact h.stepX1 hs hq hk
    · subst hq; exact ⟨X, feed_none _ _ h.xc, h⟩
  · rw [if_neg hp, if_neg hp]
    refine ⟨by have := h.c1; have := h.c2; simp only [List.length_nil]; omega, rfl, fun k hk hq => ?_⟩
    have hk0 : k = 0 := by simp only [List.length_nil] at hk; omega
    subst hk0
    exact ⟨X, feed_none _ _ h.xc, h⟩
end
set_option maxRecDepth 100000 in
set_option maxHeartbeats 16000000 in
theorem meets_b3_0 {x0 x1 x2 x3 x4 x5 x6 x7 x8 x9 x10 x11 x12 x13 x14 x15 x16 x21 x24 x25 x26 x27 x28 x29 x30 x31 x32 x33 x34 x35 x36 x37 x38 x39 x40 x41 x42 x43 x44 x45 x46 x47 x48 x49 x50 x51 x52 x53 x54 x55 x56 x57 x58 x59 x60 x61 x62 x63 x64 x65 x66 x67 x68 x69 x70 x71 x72 x73 x74 x75 x76 x77 x78 x79 x80 x81 x82 x83 x84 x85 x86 x87 x88 x89 x90 x91 x92 x93 x94 x95 x96 x97 x98 x99 x100 x101 x102 x103 x104 x105 x106 x107 x108 x109 x110 x111 x112 x113 x114 x115 x116 x117 x118 x119 x120 x121 x122 x123 x124 x125 x126 x127 x128 x129 x130 x131 x132 x133 x134 x135 x136 x137 x138 x139 x140 x141 x142 x143 x144 x145 x146 x147 x148 x149 x150 x151 x152 x153 x154 x155 x156 x157 x158 x159 x160 x161 x162 x163 x164 x165 x166 x167 x168 x169 x170 x171 x172 x173 x174 x175 x176 x177 x178 x179 x180 x181 x182 x183 x184 x185 x186 x187 x188 x189 x190 x191 x192 x193 x194 x195 x196 x197 x198 x199 x200 x201 x202 x203 x204 x205 x206 x207 x208 x209 x210 x211 x212 x213 x214 x215 x216 x217 x218 x219 x220 x221 x222 x223 x224 x225 x226 x227 x228 x229 x230 x231 x232 x233 x234 x235 x236 x237 x238 x239 x240 x241 x242 x243 x244 x245 x246 : Value} {bse px py gw gc n p0 p1 q0 q1 : Nat} {psk S : Int} {ba bb A B FA FB : List Int} {PA PB : Pm} {X Y : Sd} (w : World) {Q : Exit → Act → World → Prop}
    (HT : Hid (Two bse w px py gw gc X Y p0 p1 q0 q1)) (HP : Hid (Ph psk A B FA FB S PA PB X Y p0 p1 q0 q1)) (HSA : Hid (Say psk ba bb A B FA FB S PA PB)) (hn : n ≤ 30)
    (hQp : ∀ c a d v w, Q (.panic c) (a.put d v) w → Q (.panic c) a w)
    (hQ : ∀ (y14 y24 y25 y26 y27 y28 y29 y87 y88 y89 y90 y91 y92 y93 y94 y95 y96 y97 y98 y99 y100 y101 y102 y103 y104 y105 y106 y107 y108 y109 y110 y111 y112 y113 y114 y115 y116 y117 y118 y119 y120 y121 y122 y123 y124 y125 y126 y127 y128 y129 y130 y131 y132 y133 y134 y135 y136 y137 y138 y139 y140 y141 y142 y143 y144 y145 y146 y147 y148 y149 y150 y151 y152 y153 y154 y155 y156 y157 y158 y159 y160 y161 y162 y163 y164 y165 y166 y167 y168 y169 y170 y171 y172 y173 y174 y175 y176 y177 y178 y179 y180 : Value) (w' : World) (X' Y' : Sd) (k1 k2 : Nat), k1 = (min n (A.length - p0)) → k2 = (min n ((if p0 + k1 = A.length then B.length else 0) - q0)) → Two bse w' px py gw gc X' Y' (p0 + k1) p1 (q0 + k2) q1 → Ph psk A B FA FB S PA PB X' Y' (p0 + k1) p1 (q0 + k2) q1 → Below bse w w' → Q .normal ⟨List.toArray (x0 :: x1 :: x2 :: x3 :: x4 :: x5 :: x6 :: x7 :: x8 :: x9 :: x10 :: x11 :: x12 :: x13 :: y14 :: x15 :: x16 :: .pointer (some ⟨px, 0, none⟩) :: .pointer (some ⟨py, 0, none⟩) :: .pointer (some ⟨gw, 0, none⟩) :: .pointer (some ⟨gc, 0, none⟩) :: x21 :: .int .i64 (n : Int) :: .int .i64 0 :: y24 :: y25 :: y26 :: y27 :: y28 :: y29 :: x30 :: x31 :: x32 :: x33 :: x34 :: x35 :: x36 :: x37 :: x38 :: x39 :: x40 :: x41 :: x42 :: x43 :: x44 :: x45 :: x46 :: x47 :: x48 :: x49 :: x50 :: x51 :: x52 :: x53 :: x54 :: x55 :: x56 :: x57 :: x58 :: x59 :: x60 :: x61 :: x62 :: x63 :: x64 :: x65 :: x66 :: x67 :: x68 :: x69 :: x70 :: x71 :: x72 :: x73 :: x74 :: x75 :: x76 :: x77 :: x78 :: x79 :: x80 :: x81 :: x82 :: x83 :: x84 :: x85 :: x86 :: y87 :: y88 :: y89 :: y90 :: y91 :: y92 :: y93 :: y94 :: y95 :: y96 :: y97 :: y98 :: y99 :: y100 :: y101 :: y102 :: y103 :: y104 :: y105 :: y106 :: y107 :: y108 :: y109 :: y110 :: y111 :: y112 :: y113 :: y114 :: y115 :: y116 :: y117 :: y118 :: y119 :: y120 :: y121 :: y122 :: y123 :: y124 :: y125 :: y126 :: y127 :: y128 :: y129 :: y130 :: y131 :: y132 :: y133 :: y134 :: y135 :: y136 :: y137 :: y138 :: y139 :: y140 :: y141 :: y142 :: y143 :: y144 :: y145 :: y146 :: y147 :: y148 :: y149 :: y150 :: y151 :: y152 :: y153 :: y154 :: y155 :: y156 :: y157 :: y158 :: y159 :: y160 :: y161 :: y162 :: y163 :: y164 :: y165 :: y166 :: y167 :: y168 :: y169 :: y170 :: y171 :: y172 :: y173 :: y174 :: y175 :: y176 :: y177 :: y178 :: y179 :: y180 :: x181 :: x182 :: x183 :: x184 :: x185 :: x186 :: x187 :: x188 :: x189 :: x190 :: x191 :: x192 :: x193 :: x194 :: x195 :: x196 :: x197 :: x198 :: x199 :: x200 :: x201 :: x202 :: x203 :: x204 :: x205 :: x206 :: x207 :: x208 :: x209 :: x210 :: x211 :: x212 :: x213 :: x214 :: x215 :: x216 :: x217 :: x218 :: x219 :: x220 :: x221 :: x222 :: x223 :: x224 :: x225 :: x226 :: x227 :: x228 :: x229 :: x230 :: x231 :: x232 :: x233 :: x234 :: x235 :: x236 :: x237 :: x238 :: x239 :: x240 :: x241 :: x242 :: x243 :: x244 :: x245 :: x246 :: []), []⟩ w') :
    Code.wp Try.prog (((Try.f5.body.bind (subBlock 3)).getD .skip)) Q ⟨List.toArray (x0 :: x1 :: x2 :: x3 :: x4 :: x5 :: x6 :: x7 :: x8 :: x9 :: x10 :: x11 :: x12 :: x13 :: x14 :: x15 :: x16 :: .pointer (some ⟨px, 0, none⟩) :: .pointer (some ⟨py, 0, none⟩) :: .pointer (some ⟨gw, 0, none⟩) :: .pointer (some ⟨gc, 0, none⟩) :: x21 :: .int .i64 (n : Int) :: .int .i64 0 :: x24 :: x25 :: x26 :: x27 :: x28 :: x29 :: x30 :: x31 :: x32 :: x33 :: x34 :: x35 :: x36 :: x37 :: x38 :: x39 :: x40 :: x41 :: x42 :: x43 :: x44 :: x45 :: x46 :: x47 :: x48 :: x49 :: x50 :: x51 :: x52 :: x53 :: x54 :: x55 :: x56 :: x57 :: x58 :: x59 :: x60 :: x61 :: x62 :: x63 :: x64 :: x65 :: x66 :: x67 :: x68 :: x69 :: x70 :: x71 :: x72 :: x73 :: x74 :: x75 :: x76 :: x77 :: x78 :: x79 :: x80 :: x81 :: x82 :: x83 :: x84 :: x85 :: x86 :: x87 :: x88 :: x89 :: x90 :: x91 :: x92 :: x93 :: x94 :: x95 :: x96 :: x97 :: x98 :: x99 :: x100 :: x101 :: x102 :: x103 :: x104 :: x105 :: x106 :: x107 :: x108 :: x109 :: x110 :: x111 :: x112 :: x113 :: x114 :: x115 :: x116 :: x117 :: x118 :: x119 :: x120 :: x121 :: x122 :: x123 :: x124 :: x125 :: x126 :: x127 :: x128 :: x129 :: x130 :: x131 :: x132 :: x133 :: x134 :: x135 :: x136 :: x137 :: x138 :: x139 :: x140 :: x141 :: x142 :: x143 :: x144 :: x145 :: x146 :: x147 :: x148 :: x149 :: x150 :: x151 :: x152 :: x153 :: x154 :: x155 :: x156 :: x157 :: x158 :: x159 :: x160 :: x161 :: x162 :: x163 :: x164 :: x165 :: x166 :: x167 :: x168 :: x169 :: x170 :: x171 :: x172 :: x173 :: x174 :: x175 :: x176 :: x177 :: x178 :: x179 :: x180 :: x181 :: x182 :: x183 :: x184 :: x185 :: x186 :: x187 :: x188 :: x189 :: x190 :: x191 :: x192 :: x193 :: x194 :: x195 :: x196 :: x197 :: x198 :: x199 :: x200 :: x201 :: x202 :: x203 :: x204 :: x205 :: x206 :: x207 :: x208 :: x209 :: x210 :: x211 :: x212 :: x213 :: x214 :: x215 :: x216 :: x217 :: x218 :: x219 :: x220 :: x221 :: x222 :: x223 :: x224 :: x225 :: x226 :: x227 :: x228 :: x229 :: x230 :: x231 :: x232 :: x233 :: x234 :: x235 :: x236 :: x237 :: x238 :: x239 :: x240 :: x241 :: x242 :: x243 :: x244 :: x245 :: x246 :: []), []⟩ w := by
  have HK := Lib.hid hQ; have HKP := Lib.hid hQp
  clear hQ hQp
  conv => arg 2; whnf
  have HB : Hid (Below bse w w) := Lib.hid (Below.refl _ _)
  have HDL := Lib.hid (pm_len HT.out.okX.len); have HDO := Lib.hid (pm_one X.th)
  have HEL := Lib.hid (pm_len HT.out.swap.okX.len); have HEO := Lib.hid (pm_one Y.th)
  have HTX : Hid (∀ W, Two bse W px py gw gc X Y p0 p1 q0 q1 → Makes Try.prog 14 #[.pointer (some ⟨px, 0, none⟩)] W (.tuple #[.agg X.th.row.toArray, .bool X.knows])) := Lib.hid (fun W h => h.theirsX)
  have HTY : Hid (∀ W, Two bse W px py gw gc X Y p0 p1 q0 q1 → Makes Try.prog 14 #[.pointer (some ⟨py, 0, none⟩)] W (.tuple #[.agg Y.th.row.toArray, .bool Y.knows])) := Lib.hid (fun W h => h.swap.theirsX)
  rw [HP.out.xk] at HTX
  rw [HP.out.yk] at HTY
  generalize X.th.row = D at HDL HDO HTX
  generalize Y.th.row = E at HEL HEO HTY
  generalize decide (p0 = A.length) = gg at HTY
  generalize decide (q0 = B.length) = ff at HTX
  go_wp2_with fail
  refine Calls.mono (HTX.out _ HT.out) ?_
  rintro e w1 ⟨rfl, hb⟩
  replace HB := Lib.hid (bl_next HB.out HT.out.bs hb)
  replace HT := Lib.hid (HT.out.below hb)
  clear hb
  go_upto_region 16 with (first | (refine wpList_store_row rfl 26 _ _ rfl _ rfl D (.int .u64 0 :: .int .u64 0 :: .int .u64 0 :: .int .u64 0 :: .int .u8 0 :: .int .u8 0 :: .int .u8 0 :: .int .u8 0 :: .int .u8 0 :: .int .u8 0 :: .int .u8 0 :: .int .u8 0 :: []) rfl 26 (heap_alloc_new _ _) (by rw [HDL.out]; rfl) (by rw [HDL.out]; rfl) HDO.out ?_; intro w2 hr hg) | fail)
  have hal := (Below.refl w1.heap.size w1).alloc (Nat.le_refl _) (.cells ((.int .u64 0 :: .int .u64 0 :: .int .u64 0 :: .int .u64 0 :: .int .u8 0 :: .int .u8 0 :: .int .u8 0 :: .int .u8 0 :: .int .u8 0 :: .int .u8 0 :: .int .u8 0 :: .int .u8 0 :: [])).toArray 26)
  have hb : Below w1.heap.size w1 w2 := hal.grown hg hal.size (by intro k hk; injection hk with hk; omega)
  replace HB := Lib.hid (bl_next HB.out HT.out.bs hb)
  replace HT := Lib.hid (HT.out.below hb)
  have HGF := Lib.hid (hr)
  clear hr hg hal hb
  obtain ⟨gf, hg⟩ : ∃ g, w1.heap.size = g := ⟨_, rfl⟩
  rw [hg] at HGF ⊢
  clear hg
  clear HGF HTX
  go_wp2_with fail
  refine Calls.mono (HTY.out _ HT.out) ?_
  rintro e w3 ⟨rfl, hb⟩
  replace HB := Lib.hid (bl_next HB.out HT.out.bs hb)
  replace HT := Lib.hid (HT.out.below hb)
  clear hb
  go_upto_region 17 with (first | (refine wpList_store_row rfl 26 _ _ rfl _ rfl E (.int .u64 0 :: .int .u64 0 :: .int .u64 0 :: .int .u64 0 :: .int .u8 0 :: .int .u8 0 :: .int .u8 0 :: .int .u8 0 :: .int .u8 0 :: .int .u8 0 :: .int .u8 0 :: .int .u8 0 :: []) rfl 26 (heap_alloc_new _ _) (by rw [HEL.out]; rfl) (by rw [HEL.out]; rfl) HEO.out ?_; intro w4 hr hg) | fail)
  have hal := (Below.refl w3.heap.size w3).alloc (Nat.le_refl _) (.cells ((.int .u64 0 :: .int .u64 0 :: .int .u64 0 :: .int .u64 0 :: .int .u8 0 :: .int .u8 0 :: .int .u8 0 :: .int .u8 0 :: .int .u8 0 :: .int .u8 0 :: .int .u8 0 :: .int .u8 0 :: [])).toArray 26)
  have hb : Below w3.heap.size w3 w4 := hal.grown hg hal.size (by intro k hk; injection hk with hk; omega)
  replace HB := Lib.hid (bl_next HB.out HT.out.bs hb)
  replace HT := Lib.hid (HT.out.below hb)
  have HGH := Lib.hid (hr)
  clear hr hg hal hb
  obtain ⟨gh, hg⟩ : ∃ g, w3.heap.size = g := ⟨_, rfl⟩
  rw [hg] at HGH ⊢
  clear hg
  clear HGH HTY
  obtain ⟨hw1, hO1, hst1⟩ := HP.out.halfY0 HSA.out
  obtain ⟨O1, eO1⟩ : ∃ l, outM X false = l := ⟨_, rfl⟩
  rw [eO1] at hw1 hO1 hst1
  go_wp2_with fail
  refine Calls.mono (HT.out.outX false) ?_
  rintro e w5 hout
  rw [eO1] at hout
  obtain ⟨va, ca, rfl, hb, hi, hva, hlc, hl1⟩ := out_shape hout
  replace HB := Lib.hid (bl_next HB.out HT.out.bs hb)
  replace HT := Lib.hid (HT.out.below hb)
  clear hb hout eO1
  have HI := Lib.hid hi
  have HO1 := Lib.hid hO1; have HS1 := Lib.hid hst1
  clear hi hO1 hst1
  have f0 := (slot2 HT.out.rw).1
  have hln : (O1.length : Int) ≤ 1000 := by omega
  go_upto_region 19 with fail
  have ek : (if (O1.length : Int) - (p0 : Int) < (n : Int) then (O1.length : Int) - (p0 : Int) else (n : Int)) = ((min n (O1.length - p0) : Nat) : Int) := by split <;> omega
  rw [ek]
  clear ek
  obtain ⟨k1, hk1⟩ : ∃ k, min n (O1.length - p0) = k := ⟨_, rfl⟩
  rw [hk1]
  have hk1l : p0 + k1 ≤ O1.length := by omega
  have HK1 := Lib.hid hk1
  clear hk1
  obtain ⟨Y1, hf, hph⟩ := HS1.out k1 hk1l
  have HF := Lib.hid hf; have HP1 := Lib.hid hph
  have hsum := HP.out.sumY HSA.out
  clear hf hph HS1
  go_upto_region 21 with fail
  refine meets_r21 _ HT HI hva hlc hl1 hk1l (.inl ⟨rfl, rfl⟩) rfl (by omega) HF (fun c a d v w h => by first | (cases d <;> exact h) | exact HKP.out c a d v w h) ?_
  rintro _ _ _ _ _ _ _ _ _ _ _ _ _ _ _ _ _ w6 hT hb
  replace HB := Lib.hid (HB.out.trans hb)
  clear HT f0 HI HF hb hsum
  have HT := Lib.hid hT
  clear hT
  have f0 := (slot2 HT.out.rw).1
  have hln2 : (p0 : Int) + (k1 : Int) ≤ 1000 := by omega
  have ff0 := slot2f HT.out.rw 0
  go_upto_region 24 with fail
  obtain ⟨hT, hb⟩ := HT.out.setW 0 (.int .i64 ((p0 : Int) + (k1 : Int))) (p0 + k1) p1 (by simp)
  generalize w6.setCell ⟨gw, 0, none⟩ (.int .i64 ((p0 : Int) + (k1 : Int))) = w7 at hT hb ⊢
  replace HB := Lib.hid (HB.out.trans hb)
  replace HT := Lib.hid hT
  replace HP := HP1
  clear hT hb f0 ff0 HP1 hln hln2 hva hlc hl1 hw1
  obtain ⟨hw2, hO2, hst2⟩ := HP.out.halfX0 HSA.out
  obtain ⟨O2, eO2⟩ : ∃ l, outM Y1 false = l := ⟨_, rfl⟩
  rw [eO2] at hw2 hO2 hst2
  go_wp2_with fail
  refine Calls.mono (HT.out.swap.outX false) ?_
  rintro e w8 hout
  rw [eO2] at hout
  obtain ⟨vb, cb, rfl, hb, hi, hvb, hlb, hl2⟩ := out_shape hout
  replace HB := Lib.hid (bl_next HB.out HT.out.bs hb)
  replace HT := Lib.hid (HT.out.below hb)
  clear hb hout eO2
  have HI := Lib.hid hi
  have HO2 := Lib.hid hO2; have HS2 := Lib.hid hst2
  clear hi hO2 hst2
  have f0 := (slot2 HT.out.rc).1
  have hln : (O2.length : Int) ≤ 1000 := by omega
  go_upto_region 26 with fail
  have ek : (if (O2.length : Int) - (q0 : Int) < (n : Int) then (O2.length : Int) - (q0 : Int) else (n : Int)) = ((min n (O2.length - q0) : Nat) : Int) := by split <;> omega
  rw [ek]
  clear ek
  obtain ⟨k2, hk2⟩ : ∃ k, min n (O2.length - q0) = k := ⟨_, rfl⟩
  rw [hk2]
  have hk2l : q0 + k2 ≤ O2.length := by omega
  have HK2 := Lib.hid hk2
  clear hk2
  obtain ⟨X1, hf, hph⟩ := HS2.out k2 hk2l
  have HF := Lib.hid hf; have HP1 := Lib.hid hph
  have hsum := HP.out.sumX HSA.out
  clear hf hph HS2
  go_upto_region 28 with fail
  refine meets_r28 _ HT HI hvb hlb hl2 hk2l (.inl ⟨rfl, rfl⟩) rfl (by omega) HF (fun c a d v w h => by first | (cases d <;> exact h) | exact HKP.out c a d v w h) ?_
  rintro _ _ _ _ _ _ _ _ _ _ _ _ _ _ _ _ _ w9 hT hb
  replace HB := Lib.hid (HB.out.trans hb)
  clear HT f0 HI HF hb hsum
  have HT := Lib.hid hT
  clear hT
  have f0 := (slot2 HT.out.rc).1
  have hln2 : (q0 : Int) + (k2 : Int) ≤ 1000 := by omega
  have ff0 := slot2f HT.out.rc 0
  go_wp2_with fail
  obtain ⟨hT, hb⟩ := HT.out.swap.setW 0 (.int .i64 ((q0 : Int) + (k2 : Int))) (q0 + k2) q1 (by simp)
  have e1 := HK1.out; have e2 := HK2.out
  rw [HO1.out] at e1; rw [HO2.out] at e2
  exact HK.out _ _ _ _ _ _ _ _ _ _ _ _ _ _ _ _ _ _ _ _ _ _ _ _ _ _ _ _ _ _ _ _ _ _ _ _ _ _ _ _ _ _ _ _ _ _ _ _ _ _ _ _ _ _ _ _ _ _ _ _ _ _ _ _ _ _ _ _ _ _ _ _ _ _ _ _ _ _ _ _ _ _ _ _ _ _ _ _ _ _ _ _ _ _ _ _ _ _ _ _ _ _ X1 Y1 k1 k2 e1.symm e2.symm hT.swap HP1.out (HB.out.trans hb)
set_option maxRecDepth 100000 in
set_option maxHeartbeats 16000000 in
theorem meets_b3_1 {x0 x1 x2 x3 x4 x5 x6 x7 x8 x9 x10 x11 x12 x13 x14 x15 x16 x21 x24 x25 x26 x27 x28 x29 x30 x31 x32 x33 x34 x35 x36 x37 x38 x39 x40 x41 x42 x43 x44 x45 x46 x47 x48 x49 x50 x51 x52 x53 x54 x55 x56 x57 x58 x59 x60 x61 x62 x63 x64 x65 x66 x67 x68 x69 x70 x71 x72 x73 x74 x75 x76 x77 x78 x79 x80 x81 x82 x83 x84 x85 x86 x87 x88 x89 x90 x91 x92 x93 x94 x95 x96 x97 x98 x99 x100 x101 x102 x103 x104 x105 x106 x107 x108 x109 x110 x111 x112 x113 x114 x115 x116 x117 x118 x119 x120 x121 x122 x123 x124 x125 x126 x127 x128 x129 x130 x131 x132 x133 x134 x135 x136 x137 x138 x139 x140 x141 x142 x143 x144 x145 x146 x147 x148 x149 x150 x151 x152 x153 x154 x155 x156 x157 x158 x159 x160 x161 x162 x163 x164 x165 x166 x167 x168 x169 x170 x171 x172 x173 x174 x175 x176 x177 x178 x179 x180 x181 x182 x183 x184 x185 x186 x187 x188 x189 x190 x191 x192 x193 x194 x195 x196 x197 x198 x199 x200 x201 x202 x203 x204 x205 x206 x207 x208 x209 x210 x211 x212 x213 x214 x215 x216 x217 x218 x219 x220 x221 x222 x223 x224 x225 x226 x227 x228 x229 x230 x231 x232 x233 x234 x235 x236 x237 x238 x239 x240 x241 x242 x243 x244 x245 x246 : Value} {bse px py gw gc n p0 p1 q0 q1 : Nat} {psk S : Int} {ba bb A B FA FB : List Int} {PA PB : Pm} {X Y : Sd} (w : World) {Q : Exit → Act → World → Prop}
    (HT : Hid (Two bse w px py gw gc X Y p0 p1 q0 q1)) (HP : Hid (Ph psk A B FA FB S PA PB X Y p0 p1 q0 q1)) (HSA : Hid (Say psk ba bb A B FA FB S PA PB)) (hn : n ≤ 30)
    (hQp : ∀ c a d v w, Q (.panic c) (a.put d v) w → Q (.panic c) a w)
    (hQ : ∀ (y14 y24 y25 y26 y27 y28 y29 y87 y88 y89 y90 y91 y92 y93 y94 y95 y96 y97 y98 y99 y100 y101 y102 y103 y104 y105 y106 y107 y108 y109 y110 y111 y112 y113 y114 y115 y116 y117 y118 y119 y120 y121 y122 y123 y124 y125 y126 y127 y128 y129 y130 y131 y132 y133 y134 y135 y136 y137 y138 y139 y140 y141 y142 y143 y144 y145 y146 y147 y148 y149 y150 y151 y152 y153 y154 y155 y156 y157 y158 y159 y160 y161 y162 y163 y164 y165 y166 y167 y168 y169 y170 y171 y172 y173 y174 y175 y176 y177 y178 y179 y180 : Value) (w' : World) (X' Y' : Sd) (k1 k2 : Nat), k1 = (if p0 = A.length then min n ((if q1 = 11 then 11 else 0) - p1) else 0) → k2 = (if q0 = B.length then min n (11 - q1) else 0) → Two bse w' px py gw gc X' Y' p0 (p1 + k1) q0 (q1 + k2) → Ph psk A B FA FB S PA PB X' Y' p0 (p1 + k1) q0 (q1 + k2) → Below bse w w' → Q .normal ⟨List.toArray (x0 :: x1 :: x2 :: x3 :: x4 :: x5 :: x6 :: x7 :: x8 :: x9 :: x10 :: x11 :: x12 :: x13 :: y14 :: x15 :: x16 :: .pointer (some ⟨px, 0, none⟩) :: .pointer (some ⟨py, 0, none⟩) :: .pointer (some ⟨gw, 0, none⟩) :: .pointer (some ⟨gc, 0, none⟩) :: x21 :: .int .i64 (n : Int) :: .int .i64 1 :: y24 :: y25 :: y26 :: y27 :: y28 :: y29 :: x30 :: x31 :: x32 :: x33 :: x34 :: x35 :: x36 :: x37 :: x38 :: x39 :: x40 :: x41 :: x42 :: x43 :: x44 :: x45 :: x46 :: x47 :: x48 :: x49 :: x50 :: x51 :: x52 :: x53 :: x54 :: x55 :: x56 :: x57 :: x58 :: x59 :: x60 :: x61 :: x62 :: x63 :: x64 :: x65 :: x66 :: x67 :: x68 :: x69 :: x70 :: x71 :: x72 :: x73 :: x74 :: x75 :: x76 :: x77 :: x78 :: x79 :: x80 :: x81 :: x82 :: x83 :: x84 :: x85 :: x86 :: y87 :: y88 :: y89 :: y90 :: y91 :: y92 :: y93 :: y94 :: y95 :: y96 :: y97 :: y98 :: y99 :: y100 :: y101 :: y102 :: y103 :: y104 :: y105 :: y106 :: y107 :: y108 :: y109 :: y110 :: y111 :: y112 :: y113 :: y114 :: y115 :: y116 :: y117 :: y118 :: y119 :: y120 :: y121 :: y122 :: y123 :: y124 :: y125 :: y126 :: y127 :: y128 :: y129 :: y130 :: y131 :: y132 :: y133 :: y134 :: y135 :: y136 :: y137 :: y138 :: y139 :: y140 :: y141 :: y142 :: y143 :: y144 :: y145 :: y146 :: y147 :: y148 :: y149 :: y150 :: y151 :: y152 :: y153 :: y154 :: y155 :: y156 :: y157 :: y158 :: y159 :: y160 :: y161 :: y162 :: y163 :: y164 :: y165 :: y166 :: y167 :: y168 :: y169 :: y170 :: y171 :: y172 :: y173 :: y174 :: y175 :: y176 :: y177 :: y178 :: y179 :: y180 :: x181 :: x182 :: x183 :: x184 :: x185 :: x186 :: x187 :: x188 :: x189 :: x190 :: x191 :: x192 :: x193 :: x194 :: x195 :: x196 :: x197 :: x198 :: x199 :: x200 :: x201 :: x202 :: x203 :: x204 :: x205 :: x206 :: x207 :: x208 :: x209 :: x210 :: x211 :: x212 :: x213 :: x214 :: x215 :: x216 :: x217 :: x218 :: x219 :: x220 :: x221 :: x222 :: x223 :: x224 :: x225 :: x226 :: x227 :: x228 :: x229 :: x230 :: x231 :: x232 :: x233 :: x234 :: x235 :: x236 :: x237 :: x238 :: x239 :: x240 :: x241 :: x242 :: x243 :: x244 :: x245 :: x246 :: []), []⟩ w') :
    Code.wp Try.prog (((Try.f5.body.bind (subBlock 3)).getD .skip)) Q ⟨List.toArray (x0 :: x1 :: x2 :: x3 :: x4 :: x5 :: x6 :: x7 :: x8 :: x9 :: x10 :: x11 :: x12 :: x13 :: x14 :: x15 :: x16 :: .pointer (some ⟨px, 0, none⟩) :: .pointer (some ⟨py, 0, none⟩) :: .pointer (some ⟨gw, 0, none⟩) :: .pointer (some ⟨gc, 0, none⟩) :: x21 :: .int .i64 (n : Int) :: .int .i64 1 :: x24 :: x25 :: x26 :: x27 :: x28 :: x29 :: x30 :: x31 :: x32 :: x33 :: x34 :: x35 :: x36 :: x37 :: x38 :: x39 :: x40 :: x41 :: x42 :: x43 :: x44 :: x45 :: x46 :: x47 :: x48 :: x49 :: x50 :: x51 :: x52 :: x53 :: x54 :: x55 :: x56 :: x57 :: x58 :: x59 :: x60 :: x61 :: x62 :: x63 :: x64 :: x65 :: x66 :: x67 :: x68 :: x69 :: x70 :: x71 :: x72 :: x73 :: x74 :: x75 :: x76 :: x77 :: x78 :: x79 :: x80 :: x81 :: x82 :: x83 :: x84 :: x85 :: x86 :: x87 :: x88 :: x89 :: x90 :: x91 :: x92 :: x93 :: x94 :: x95 :: x96 :: x97 :: x98 :: x99 :: x100 :: x101 :: x102 :: x103 :: x104 :: x105 :: x106 :: x107 :: x108 :: x109 :: x110 :: x111 :: x112 :: x113 :: x114 :: x115 :: x116 :: x117 :: x118 :: x119 :: x120 :: x121 :: x122 :: x123 :: x124 :: x125 :: x126 :: x127 :: x128 :: x129 :: x130 :: x131 :: x132 :: x133 :: x134 :: x135 :: x136 :: x137 :: x138 :: x139 :: x140 :: x141 :: x142 :: x143 :: x144 :: x145 :: x146 :: x147 :: x148 :: x149 :: x150 :: x151 :: x152 :: x153 :: x154 :: x155 :: x156 :: x157 :: x158 :: x159 :: x160 :: x161 :: x162 :: x163 :: x164 :: x165 :: x166 :: x167 :: x168 :: x169 :: x170 :: x171 :: x172 :: x173 :: x174 :: x175 :: x176 :: x177 :: x178 :: x179 :: x180 :: x181 :: x182 :: x183 :: x184 :: x185 :: x186 :: x187 :: x188 :: x189 :: x190 :: x191 :: x192 :: x193 :: x194 :: x195 :: x196 :: x197 :: x198 :: x199 :: x200 :: x201 :: x202 :: x203 :: x204 :: x205 :: x206 :: x207 :: x208 :: x209 :: x210 :: x211 :: x212 :: x213 :: x214 :: x215 :: x216 :: x217 :: x218 :: x219 :: x220 :: x221 :: x222 :: x223 :: x224 :: x225 :: x226 :: x227 :: x228 :: x229 :: x230 :: x231 :: x232 :: x233 :: x234 :: x235 :: x236 :: x237 :: x238 :: x239 :: x240 :: x241 :: x242 :: x243 :: x244 :: x245 :: x246 :: []), []⟩ w := by
  have HK := Lib.hid hQ; have HKP := Lib.hid hQp
  clear hQ hQp
  conv => arg 2; whnf
  have HB : Hid (Below bse w w) := Lib.hid (Below.refl _ _)
  have HDL := Lib.hid (pm_len HT.out.okX.len); have HDO := Lib.hid (pm_one X.th)
  have HEL := Lib.hid (pm_len HT.out.swap.okX.len); have HEO := Lib.hid (pm_one Y.th)
  have HTX : Hid (∀ W, Two bse W px py gw gc X Y p0 p1 q0 q1 → Makes Try.prog 14 #[.pointer (some ⟨px, 0, none⟩)] W (.tuple #[.agg X.th.row.toArray, .bool X.knows])) := Lib.hid (fun W h => h.theirsX)
  have HTY : Hid (∀ W, Two bse W px py gw gc X Y p0 p1 q0 q1 → Makes Try.prog 14 #[.pointer (some ⟨py, 0, none⟩)] W (.tuple #[.agg Y.th.row.toArray, .bool Y.knows])) := Lib.hid (fun W h => h.swap.theirsX)
  rw [HP.out.xk] at HTX
  rw [HP.out.yk] at HTY
  generalize X.th.row = D at HDL HDO HTX
  generalize Y.th.row = E at HEL HEO HTY
  by_cases hp : p0 = A.length
  · by_cases hq : q0 = B.length
    · skip
      rw [decide_eq_true hp] at HTY
      rw [decide_eq_true hq] at HTX
      go_wp2_with fail
      refine Calls.mono (HTX.out _ HT.out) ?_
      rintro e w1 ⟨rfl, hb⟩
      replace HB := Lib.hid (bl_next HB.out HT.out.bs hb)
      replace HT := Lib.hid (HT.out.below hb)
      clear hb
      go_upto_region 16 with (first | (refine wpList_store_row rfl 26 _ _ rfl _ rfl D (.int .u64 0 :: .int .u64 0 :: .int .u64 0 :: .int .u64 0 :: .int .u8 0 :: .int .u8 0 :: .int .u8 0 :: .int .u8 0 :: .int .u8 0 :: .int .u8 0 :: .int .u8 0 :: .int .u8 0 :: []) rfl 26 (heap_alloc_new _ _) (by rw [HDL.out]; rfl) (by rw [HDL.out]; rfl) HDO.out ?_; intro w2 hr hg) | fail)
      have hal := (Below.refl w1.heap.size w1).alloc (Nat.le_refl _) (.cells ((.int .u64 0 :: .int .u64 0 :: .int .u64 0 :: .int .u64 0 :: .int .u8 0 :: .int .u8 0 :: .int .u8 0 :: .int .u8 0 :: .int .u8 0 :: .int .u8 0 :: .int .u8 0 :: .int .u8 0 :: [])).toArray 26)
      have hb : Below w1.heap.size w1 w2 := hal.grown hg hal.size (by intro k hk; injection hk with hk; omega)
      replace HB := Lib.hid (bl_next HB.out HT.out.bs hb)
      replace HT := Lib.hid (HT.out.below hb)
      have HGF := Lib.hid (hr)
      clear hr hg hal hb
      obtain ⟨gf, hg⟩ : ∃ g, w1.heap.size = g := ⟨_, rfl⟩
      rw [hg] at HGF ⊢
      clear hg
      clear HGF HTX
      go_wp2_with fail
      refine Calls.mono (HTY.out _ HT.out) ?_
      rintro e w3 ⟨rfl, hb⟩
      replace HB := Lib.hid (bl_next HB.out HT.out.bs hb)
      replace HT := Lib.hid (HT.out.below hb)
      clear hb
      go_upto_region 17 with (first | (refine wpList_store_row rfl 26 _ _ rfl _ rfl E (.int .u64 0 :: .int .u64 0 :: .int .u64 0 :: .int .u64 0 :: .int .u8 0 :: .int .u8 0 :: .int .u8 0 :: .int .u8 0 :: .int .u8 0 :: .int .u8 0 :: .int .u8 0 :: .int .u8 0 :: []) rfl 26 (heap_alloc_new _ _) (by rw [HEL.out]; rfl) (by rw [HEL.out]; rfl) HEO.out ?_; intro w4 hr hg) | fail)
      have hal := (Below.refl w3.heap.size w3).alloc (Nat.le_refl _) (.cells ((.int .u64 0 :: .int .u64 0 :: .int .u64 0 :: .int .u64 0 :: .int .u8 0 :: .int .u8 0 :: .int .u8 0 :: .int .u8 0 :: .int .u8 0 :: .int .u8 0 :: .int .u8 0 :: .int .u8 0 :: [])).toArray 26)
      have hb : Below w3.heap.size w3 w4 := hal.grown hg hal.size (by intro k hk; injection hk with hk; omega)
      replace HB := Lib.hid (bl_next HB.out HT.out.bs hb)
      replace HT := Lib.hid (HT.out.below hb)
      have HGH := Lib.hid (hr)
      clear hr hg hal hb
      obtain ⟨gh, hg⟩ : ∃ g, w3.heap.size = g := ⟨_, rfl⟩
      rw [hg] at HGH ⊢
      clear hg
      clear HGH HTY
      obtain ⟨hw1, hO1, hst1⟩ := HP.out.halfY1 HSA.out
      obtain ⟨O1, eO1⟩ : ∃ l, outM X true = l := ⟨_, rfl⟩
      rw [eO1] at hw1 hO1 hst1
      go_wp2_with fail
      refine Calls.mono (HT.out.outX true) ?_
      rintro e w5 hout
      rw [eO1] at hout
      obtain ⟨va, ca, rfl, hb, hi, hva, hlc, hl1⟩ := out_shape hout
      replace HB := Lib.hid (bl_next HB.out HT.out.bs hb)
      replace HT := Lib.hid (HT.out.below hb)
      clear hb hout eO1
      have HI := Lib.hid hi
      have HO1 := Lib.hid hO1; have HS1 := Lib.hid hst1
      clear hi hO1 hst1
      have f0 := (slot2 HT.out.rw).2
      have hln : (O1.length : Int) ≤ 1000 := by omega
      go_upto_region 19 with fail
      have ek : (if (O1.length : Int) - (p1 : Int) < (n : Int) then (O1.length : Int) - (p1 : Int) else (n : Int)) = ((min n (O1.length - p1) : Nat) : Int) := by split <;> omega
      rw [ek]
      clear ek
      obtain ⟨k1, hk1⟩ : ∃ k, min n (O1.length - p1) = k := ⟨_, rfl⟩
      rw [hk1]
      have hk1l : p1 + k1 ≤ O1.length := by omega
      have HK1 := Lib.hid hk1
      clear hk1
      obtain ⟨Y1, hf, hph⟩ := HS1.out k1 hk1l
      have HF := Lib.hid hf; have HP1 := Lib.hid hph
      have hsum := HP.out.sumY HSA.out
      clear hf hph HS1
      go_upto_region 21 with fail
      refine meets_r21 _ HT HI hva hlc hl1 hk1l (.inr ⟨rfl, rfl⟩) rfl (by omega) HF (fun c a d v w h => by first | (cases d <;> exact h) | exact HKP.out c a d v w h) ?_
      rintro _ _ _ _ _ _ _ _ _ _ _ _ _ _ _ _ _ w6 hT hb
      replace HB := Lib.hid (HB.out.trans hb)
      clear HT f0 HI HF hb hsum
      have HT := Lib.hid hT
      clear hT
      have f0 := (slot2 HT.out.rw).2
      have hln2 : (p1 : Int) + (k1 : Int) ≤ 1000 := by omega
      have ff0 := slot2f HT.out.rw 1
      go_upto_region 24 with fail
      obtain ⟨hT, hb⟩ := HT.out.setW 1 (.int .i64 ((p1 : Int) + (k1 : Int))) p0 (p1 + k1) (by simp)
      generalize w6.setCell ⟨gw, 1, none⟩ (.int .i64 ((p1 : Int) + (k1 : Int))) = w7 at hT hb ⊢
      replace HB := Lib.hid (HB.out.trans hb)
      replace HT := Lib.hid hT
      replace HP := HP1
      clear hT hb f0 ff0 HP1 hln hln2 hva hlc hl1 hw1
      obtain ⟨hw2, hO2, hst2⟩ := HP.out.halfX1 HSA.out
      obtain ⟨O2, eO2⟩ : ∃ l, outM Y1 true = l := ⟨_, rfl⟩
      rw [eO2] at hw2 hO2 hst2
      go_wp2_with fail
      refine Calls.mono (HT.out.swap.outX true) ?_
      rintro e w8 hout
      rw [eO2] at hout
      obtain ⟨vb, cb, rfl, hb, hi, hvb, hlb, hl2⟩ := out_shape hout
      replace HB := Lib.hid (bl_next HB.out HT.out.bs hb)
      replace HT := Lib.hid (HT.out.below hb)
      clear hb hout eO2
      have HI := Lib.hid hi
      have HO2 := Lib.hid hO2; have HS2 := Lib.hid hst2
      clear hi hO2 hst2
      have f0 := (slot2 HT.out.rc).2
      have hln : (O2.length : Int) ≤ 1000 := by omega
      go_upto_region 26 with fail
      have ek : (if (O2.length : Int) - (q1 : Int) < (n : Int) then (O2.length : Int) - (q1 : Int) else (n : Int)) = ((min n (O2.length - q1) : Nat) : Int) := by split <;> omega
      rw [ek]
      clear ek
      obtain ⟨k2, hk2⟩ : ∃ k, min n (O2.length - q1) = k := ⟨_, rfl⟩
      rw [hk2]
      have hk2l : q1 + k2 ≤ O2.length := by omega
      have HK2 := Lib.hid hk2
      clear hk2
      obtain ⟨X1, hf, hph⟩ := HS2.out k2 hk2l (.inl hq)
      have HF := Lib.hid hf; have HP1 := Lib.hid hph
      have hsum := HP.out.sumX HSA.out
      clear hf hph HS2
      go_upto_region 28 with fail
      refine meets_r28 _ HT HI hvb hlb hl2 hk2l (.inr ⟨rfl, rfl⟩) rfl (by omega) HF (fun c a d v w h => by first | (cases d <;> exact h) | exact HKP.out c a d v w h) ?_
      rintro _ _ _ _ _ _ _ _ _ _ _ _ _ _ _ _ _ w9 hT hb
      replace HB := Lib.hid (HB.out.trans hb)
      clear HT f0 HI HF hb hsum
      have HT := Lib.hid hT
      clear hT
      have f0 := (slot2 HT.out.rc).2
      have hln2 : (q1 : Int) + (k2 : Int) ≤ 1000 := by omega
      have ff0 := slot2f HT.out.rc 1
      go_wp2_with fail
      obtain ⟨hT, hb⟩ := HT.out.swap.setW 1 (.int .i64 ((q1 : Int) + (k2 : Int))) q0 (q1 + k2) (by simp)
      have e1 : k1 = (if p0 = A.length then min n ((if q1 = 11 then 11 else 0) - p1) else 0) := by rw [if_pos hp, ← HK1.out, HO1.out]
      have e2 : k2 = (if q0 = B.length then min n (11 - q1) else 0) := by rw [if_pos hq, ← HK2.out, HO2.out, if_pos hp]
      exact HK.out _ _ _ _ _ _ _ _ _ _ _ _ _ _ _ _ _ _ _ _ _ _ _ _ _ _ _ _ _ _ _ _ _ _ _ _ _ _ _ _ _ _ _ _ _ _ _ _ _ _ _ _ _ _ _ _ _ _ _ _ _ _ _ _ _ _ _ _ _ _ _ _ _ _ _ _ _ _ _ _ _ _ _ _ _ _ _ _ _ _ _ _ _ _ _ _ _ _ _ _ _ _ X1 Y1 k1 k2 e1 e2 hT.swap HP1.out (HB.out.trans hb)
    · skip
      rw [decide_eq_true hp] at HTY
      rw [decide_eq_false hq] at HTX
      go_wp2_with fail
      refine Calls.mono (HTX.out _ HT.out) ?_
      rintro e w1 ⟨rfl, hb⟩
      replace HB := Lib.hid (bl_next HB.out HT.out.bs hb)
      replace HT := Lib.hid (HT.out.below hb)
      clear hb
      go_upto_region 16 with (first | (refine wpList_store_row rfl 26 _ _ rfl _ rfl D (.int .u64 0 :: .int .u64 0 :: .int .u64 0 :: .int .u64 0 :: .int .u8 0 :: .int .u8 0 :: .int .u8 0 :: .int .u8 0 :: .int .u8 0 :: .int .u8 0 :: .int .u8 0 :: .int .u8 0 :: []) rfl 26 (heap_alloc_new _ _) (by rw [HDL.out]; rfl) (by rw [HDL.out]; rfl) HDO.out ?_; intro w2 hr hg) | fail)
      have hal := (Below.refl w1.heap.size w1).alloc (Nat.le_refl _) (.cells ((.int .u64 0 :: .int .u64 0 :: .int .u64 0 :: .int .u64 0 :: .int .u8 0 :: .int .u8 0 :: .int .u8 0 :: .int .u8 0 :: .int .u8 0 :: .int .u8 0 :: .int .u8 0 :: .int .u8 0 :: [])).toArray 26)
      have hb : Below w1.heap.size w1 w2 := hal.grown hg hal.size (by intro k hk; injection hk with hk; omega)
      replace HB := Lib.hid (bl_next HB.out HT.out.bs hb)
      replace HT := Lib.hid (HT.out.below hb)
      have HGF := Lib.hid (hr)
      clear hr hg hal hb
      obtain ⟨gf, hg⟩ : ∃ g, w1.heap.size = g := ⟨_, rfl⟩
      rw [hg] at HGF ⊢
      clear hg
      clear HGF HTX
      go_wp2_with fail
      refine Calls.mono (HTY.out _ HT.out) ?_
      rintro e w3 ⟨rfl, hb⟩
      replace HB := Lib.hid (bl_next HB.out HT.out.bs hb)
      replace HT := Lib.hid (HT.out.below hb)
      clear hb
      go_upto_region 17 with (first | (refine wpList_store_row rfl 26 _ _ rfl _ rfl E (.int .u64 0 :: .int .u64 0 :: .int .u64 0 :: .int .u64 0 :: .int .u8 0 :: .int .u8 0 :: .int .u8 0 :: .int .u8 0 :: .int .u8 0 :: .int .u8 0 :: .int .u8 0 :: .int .u8 0 :: []) rfl 26 (heap_alloc_new _ _) (by rw [HEL.out]; rfl) (by rw [HEL.out]; rfl) HEO.out ?_; intro w4 hr hg) | fail)
      have hal := (Below.refl w3.heap.size w3).alloc (Nat.le_refl _) (.cells ((.int .u64 0 :: .int .u64 0 :: .int .u64 0 :: .int .u64 0 :: .int .u8 0 :: .int .u8 0 :: .int .u8 0 :: .int .u8 0 :: .int .u8 0 :: .int .u8 0 :: .int .u8 0 :: .int .u8 0 :: [])).toArray 26)
      have hb : Below w3.heap.size w3 w4 := hal.grown hg hal.size (by intro k hk; injection hk with hk; omega)
      replace HB := Lib.hid (bl_next HB.out HT.out.bs hb)
      replace HT := Lib.hid (HT.out.below hb)
      have HGH := Lib.hid (hr)
      clear hr hg hal hb
      obtain ⟨gh, hg⟩ : ∃ g, w3.heap.size = g := ⟨_, rfl⟩
      rw [hg] at HGH ⊢
      clear hg
      clear HGH HTY
      obtain ⟨hw1, hO1, hst1⟩ := HP.out.halfY1 HSA.out
      obtain ⟨O1, eO1⟩ : ∃ l, outM X true = l := ⟨_, rfl⟩
      rw [eO1] at hw1 hO1 hst1
      go_wp2_with fail
      refine Calls.mono (HT.out.outX true) ?_
      rintro e w5 hout
      rw [eO1] at hout
      obtain ⟨va, ca, rfl, hb, hi, hva, hlc, hl1⟩ := out_shape hout
      replace HB := Lib.hid (bl_next HB.out HT.out.bs hb)
      replace HT := Lib.hid (HT.out.below hb)
      clear hb hout eO1
      have HI := Lib.hid hi
      have HO1 := Lib.hid hO1; have HS1 := Lib.hid hst1
      clear hi hO1 hst1
      have f0 := (slot2 HT.out.rw).2
      have hln : (O1.length : Int) ≤ 1000 := by omega
      go_upto_region 19 with fail
      have ek : (if (O1.length : Int) - (p1 : Int) < (n : Int) then (O1.length : Int) - (p1 : Int) else (n : Int)) = ((min n (O1.length - p1) : Nat) : Int) := by split <;> omega
      rw [ek]
      clear ek
      obtain ⟨k1, hk1⟩ : ∃ k, min n (O1.length - p1) = k := ⟨_, rfl⟩
      rw [hk1]
      have hk1l : p1 + k1 ≤ O1.length := by omega
      have HK1 := Lib.hid hk1
      clear hk1
      obtain ⟨Y1, hf, hph⟩ := HS1.out k1 hk1l
      have HF := Lib.hid hf; have HP1 := Lib.hid hph
      have hsum := HP.out.sumY HSA.out
      clear hf hph HS1
      go_upto_region 21 with fail
      refine meets_r21 _ HT HI hva hlc hl1 hk1l (.inr ⟨rfl, rfl⟩) rfl (by omega) HF (fun c a d v w h => by first | (cases d <;> exact h) | exact HKP.out c a d v w h) ?_
      rintro _ _ _ _ _ _ _ _ _ _ _ _ _ _ _ _ _ w6 hT hb
      replace HB := Lib.hid (HB.out.trans hb)
      clear HT f0 HI HF hb hsum
      have HT := Lib.hid hT
      clear hT
      have f0 := (slot2 HT.out.rw).2
      have hln2 : (p1 : Int) + (k1 : Int) ≤ 1000 := by omega
      have ff0 := slot2f HT.out.rw 1
      go_upto_region 24 with fail
      obtain ⟨hT, hb⟩ := HT.out.setW 1 (.int .i64 ((p1 : Int) + (k1 : Int))) p0 (p1 + k1) (by simp)
      generalize w6.setCell ⟨gw, 1, none⟩ (.int .i64 ((p1 : Int) + (k1 : Int))) = w7 at hT hb ⊢
      replace HB := Lib.hid (HB.out.trans hb)
      replace HT := Lib.hid hT
      replace HP := HP1
      clear hT hb f0 ff0 HP1 hln hln2 hva hlc hl1 hw1
      obtain ⟨hw2, hO2, hst2⟩ := HP.out.halfX1 HSA.out
      obtain ⟨O2, eO2⟩ : ∃ l, outM Y1 true = l := ⟨_, rfl⟩
      rw [eO2] at hw2 hO2 hst2
      go_wp2_with fail
      refine Calls.mono (HT.out.swap.outX true) ?_
      rintro e w8 hout
      rw [eO2] at hout
      obtain ⟨vb, cb, rfl, hb, hi, hvb, hlb, hl2⟩ := out_shape hout
      replace HB := Lib.hid (bl_next HB.out HT.out.bs hb)
      replace HT := Lib.hid (HT.out.below hb)
      clear hb hout eO2
      have HI := Lib.hid hi
      have HO2 := Lib.hid hO2; have HS2 := Lib.hid hst2
      clear hi hO2 hst2
      have f0 := (slot2 HT.out.rc).2
      have hln : (O2.length : Int) ≤ 1000 := by omega
      go_upto_region 26 with fail
      generalize (if (O2.length : Int) - (q1 : Int) < (n : Int) then (O2.length : Int) - (q1 : Int) else (n : Int)) = kz2
      have hk2l : q1 + 0 ≤ O2.length := hw2
      obtain ⟨X1, hf, hph⟩ := HS2.out 0 hk2l (.inr rfl)
      have HF := Lib.hid hf; have HP1 := Lib.hid hph
      have hsum := HP.out.sumX HSA.out
      clear hf hph HS2
      go_upto_region 28 with fail
      refine meets_r28 _ HT HI hvb hlb hl2 hk2l (.inr ⟨rfl, rfl⟩) rfl (by omega) HF (fun c a d v w h => by first | (cases d <;> exact h) | exact HKP.out c a d v w h) ?_
      rintro _ _ _ _ _ _ _ _ _ _ _ _ _ _ _ _ _ w9 hT hb
      replace HB := Lib.hid (HB.out.trans hb)
      clear HT f0 HI HF hb hsum
      have HT := Lib.hid hT
      clear hT
      have f0 := (slot2 HT.out.rc).2
      have hln2 : (q1 : Int) + (0 : Int) ≤ 1000 := by omega
      have ff0 := slot2f HT.out.rc 1
      go_wp2_with fail
      obtain ⟨hT, hb⟩ := HT.out.swap.setW 1 (.int .i64 (q1 : Int)) q0 (q1 + 0) (by simp)
      have e1 : k1 = (if p0 = A.length then min n ((if q1 = 11 then 11 else 0) - p1) else 0) := by rw [if_pos hp, ← HK1.out, HO1.out]
      have e2 : 0 = (if q0 = B.length then min n (11 - q1) else 0) := by rw [if_neg hq]
      exact HK.out _ _ _ _ _ _ _ _ _ _ _ _ _ _ _ _ _ _ _ _ _ _ _ _ _ _ _ _ _ _ _ _ _ _ _ _ _ _ _ _ _ _ _ _ _ _ _ _ _ _ _ _ _ _ _ _ _ _ _ _ _ _ _ _ _ _ _ _ _ _ _ _ _ _ _ _ _ _ _ _ _ _ _ _ _ _ _ _ _ _ _ _ _ _ _ _ _ _ _ _ _ _ X1 Y1 k1 0 e1 e2 hT.swap HP1.out (HB.out.trans hb)
  · have hq : q0 ≠ B.length := by intro h; exact hp (HP.out.c1 (by have := HSA.out.lenB; omega))
    rw [decide_eq_false hp] at HTY
    rw [decide_eq_false hq] at HTX
    go_wp2_with fail
    refine Calls.mono (HTX.out _ HT.out) ?_
    rintro e w1 ⟨rfl, hb⟩
    replace HB := Lib.hid (bl_next HB.out HT.out.bs hb)
    replace HT := Lib.hid (HT.out.below hb)
    clear hb
    go_upto_region 16 with (first | (refine wpList_store_row rfl 26 _ _ rfl _ rfl D (.int .u64 0 :: .int .u64 0 :: .int .u64 0 :: .int .u64 0 :: .int .u8 0 :: .int .u8 0 :: .int .u8 0 :: .int .u8 0 :: .int .u8 0 :: .int .u8 0 :: .int .u8 0 :: .int .u8 0 :: []) rfl 26 (heap_alloc_new _ _) (by rw [HDL.out]; rfl) (by rw [HDL.out]; rfl) HDO.out ?_; intro w2 hr hg) | fail)
    have hal := (Below.refl w1.heap.size w1).alloc (Nat.le_refl _) (.cells ((.int .u64 0 :: .int .u64 0 :: .int .u64 0 :: .int .u64 0 :: .int .u8 0 :: .int .u8 0 :: .int .u8 0 :: .int .u8 0 :: .int .u8 0 :: .int .u8 0 :: .int .u8 0 :: .int .u8 0 :: [])).toArray 26)
    have hb : Below w1.heap.size w1 w2 := hal.grown hg hal.size (by intro k hk; injection hk with hk; omega)
    replace HB := Lib.hid (bl_next HB.out HT.out.bs hb)
    replace HT := Lib.hid (HT.out.below hb)
    have HGF := Lib.hid (hr)
    clear hr hg hal hb
    obtain ⟨gf, hg⟩ : ∃ g, w1.heap.size = g := ⟨_, rfl⟩
    rw [hg] at HGF ⊢
    clear hg
    clear HGF HTX
    go_wp2_with fail
    refine Calls.mono (HTY.out _ HT.out) ?_
    rintro e w3 ⟨rfl, hb⟩
    replace HB := Lib.hid (bl_next HB.out HT.out.bs hb)
    replace HT := Lib.hid (HT.out.below hb)
    clear hb
    go_upto_region 17 with (first | (refine wpList_store_row rfl 26 _ _ rfl _ rfl E (.int .u64 0 :: .int .u64 0 :: .int .u64 0 :: .int .u64 0 :: .int .u8 0 :: .int .u8 0 :: .int .u8 0 :: .int .u8 0 :: .int .u8 0 :: .int .u8 0 :: .int .u8 0 :: .int .u8 0 :: []) rfl 26 (heap_alloc_new _ _) (by rw [HEL.out]; rfl) (by rw [HEL.out]; rfl) HEO.out ?_; intro w4 hr hg) | fail)
    have hal := (Below.refl w3.heap.size w3).alloc (Nat.le_refl _) (.cells ((.int .u64 0 :: .int .u64 0 :: .int .u64 0 :: .int .u64 0 :: .int .u8 0 :: .int .u8 0 :: .int .u8 0 :: .int .u8 0 :: .int .u8 0 :: .int .u8 0 :: .int .u8 0 :: .int .u8 0 :: [])).toArray 26)
    have hb : Below w3.heap.size w3 w4 := hal.grown hg hal.size (by intro k hk; injection hk with hk; omega)
    replace HB := Lib.hid (bl_next HB.out HT.out.bs hb)
    replace HT := Lib.hid (HT.out.below hb)
    have HGH := Lib.hid (hr)
    clear hr hg hal hb
    obtain ⟨gh, hg⟩ : ∃ g, w3.heap.size = g := ⟨_, rfl⟩
    rw [hg] at HGH ⊢
    clear hg
    clear HGH HTY
    obtain ⟨hw1, hO1, hst1⟩ := HP.out.halfY1 HSA.out
    obtain ⟨O1, eO1⟩ : ∃ l, outM X true = l := ⟨_, rfl⟩
    rw [eO1] at hw1 hO1 hst1
    go_wp2_with fail
    refine Calls.mono (HT.out.outX true) ?_
    rintro e w5 hout
    rw [eO1] at hout
    obtain ⟨va, ca, rfl, hb, hi, hva, hlc, hl1⟩ := out_shape hout
    replace HB := Lib.hid (bl_next HB.out HT.out.bs hb)
    replace HT := Lib.hid (HT.out.below hb)
    clear hb hout eO1
    have HI := Lib.hid hi
    have HO1 := Lib.hid hO1; have HS1 := Lib.hid hst1
    clear hi hO1 hst1
    have f0 := (slot2 HT.out.rw).2
    have hln : (O1.length : Int) ≤ 1000 := by omega
    go_upto_region 19 with fail
    generalize (if (O1.length : Int) - (p1 : Int) < (n : Int) then (O1.length : Int) - (p1 : Int) else (n : Int)) = kz1
    have hk1l : p1 + 0 ≤ O1.length := hw1
    obtain ⟨Y1, hf, hph⟩ := HS1.out 0 hk1l
    have HF := Lib.hid hf; have HP1 := Lib.hid hph
    have hsum := HP.out.sumY HSA.out
    clear hf hph HS1
    go_upto_region 21 with fail
    refine meets_r21 _ HT HI hva hlc hl1 hk1l (.inr ⟨rfl, rfl⟩) rfl (by omega) HF (fun c a d v w h => by first | (cases d <;> exact h) | exact HKP.out c a d v w h) ?_
    rintro _ _ _ _ _ _ _ _ _ _ _ _ _ _ _ _ _ w6 hT hb
    replace HB := Lib.hid (HB.out.trans hb)
    clear HT f0 HI HF hb hsum
    have HT := Lib.hid hT
    clear hT
    have f0 := (slot2 HT.out.rw).2
    have hln2 : (p1 : Int) + (0 : Int) ≤ 1000 := by omega
    have ff0 := slot2f HT.out.rw 1
    go_upto_region 24 with fail
    obtain ⟨hT, hb⟩ := HT.out.setW 1 (.int .i64 (p1 : Int)) p0 (p1 + 0) (by simp)
    generalize w6.setCell ⟨gw, 1, none⟩ (.int .i64 (p1 : Int)) = w7 at hT hb ⊢
    replace HB := Lib.hid (HB.out.trans hb)
    replace HT := Lib.hid hT
    replace HP := HP1
    clear hT hb f0 ff0 HP1 hln hln2 hva hlc hl1 hw1
    obtain ⟨hw2, hO2, hst2⟩ := HP.out.halfX1 HSA.out
    obtain ⟨O2, eO2⟩ : ∃ l, outM Y1 true = l := ⟨_, rfl⟩
    rw [eO2] at hw2 hO2 hst2
    go_wp2_with fail
    refine Calls.mono (HT.out.swap.outX true) ?_
    rintro e w8 hout
    rw [eO2] at hout
    obtain ⟨vb, cb, rfl, hb, hi, hvb, hlb, hl2⟩ := out_shape hout
    replace HB := Lib.hid (bl_next HB.out HT.out.bs hb)
    replace HT := Lib.hid (HT.out.below hb)
    clear hb hout eO2
    have HI := Lib.hid hi
    have HO2 := Lib.hid hO2; have HS2 := Lib.hid hst2
    clear hi hO2 hst2
    have f0 := (slot2 HT.out.rc).2
    have hln : (O2.length : Int) ≤ 1000 := by omega
    go_upto_region 26 with fail
    generalize (if (O2.length : Int) - (q1 : Int) < (n : Int) then (O2.length : Int) - (q1 : Int) else (n : Int)) = kz2
    have hk2l : q1 + 0 ≤ O2.length := hw2
    obtain ⟨X1, hf, hph⟩ := HS2.out 0 hk2l (.inr rfl)
    have HF := Lib.hid hf; have HP1 := Lib.hid hph
    have hsum := HP.out.sumX HSA.out
    clear hf hph HS2
    go_upto_region 28 with fail
    refine meets_r28 _ HT HI hvb hlb hl2 hk2l (.inr ⟨rfl, rfl⟩) rfl (by omega) HF (fun c a d v w h => by first | (cases d <;> exact h) | exact HKP.out c a d v w h) ?_
    rintro _ _ _ _ _ _ _ _ _ _ _ _ _ _ _ _ _ w9 hT hb
    replace HB := Lib.hid (HB.out.trans hb)
    clear HT f0 HI HF hb hsum
    have HT := Lib.hid hT
    clear hT
    have f0 := (slot2 HT.out.rc).2
    have hln2 : (q1 : Int) + (0 : Int) ≤ 1000 := by omega
    have ff0 := slot2f HT.out.rc 1
    go_wp2_with fail
    obtain ⟨hT, hb⟩ := HT.out.swap.setW 1 (.int .i64 (q1 : Int)) q0 (q1 + 0) (by simp)
    have e1 : 0 = (if p0 = A.length then min n ((if q1 = 11 then 11 else 0) - p1) else 0) := by rw [if_neg hp]
    have e2 : 0 = (if q0 = B.length then min n (11 - q1) else 0) := by rw [if_neg hq]
    exact HK.out _ _ _ _ _ _ _ _ _ _ _ _ _ _ _ _ _ _ _ _ _ _ _ _ _ _ _ _ _ _ _ _ _ _ _ _ _ _ _ _ _ _ _ _ _ _ _ _ _ _ _ _ _ _ _ _ _ _ _ _ _ _ _ _ _ _ _ _ _ _ _ _ _ _ _ _ _ _ _ _ _ _ _ _ _ _ _ _ _ _ _ _ _ _ _ _ _ _ _ _ _ _ X1 Y1 0 0 e1 e2 hT.swap HP1.out (HB.out.trans hb)
end Go.Proofs.Ytlpajohhnngbmaa
namespace Go.Proofs.Ytlpajohhnngbmaa
open Go.RowKit
set_option linter.unusedVariables false
set_option linter.unusedSimpArgs false

theorem round_left (n a b p0 p1 q0 q1 k1 k2 k3 k4 : Nat) (h0 : p0 ≤ a) (h1 : q0 ≤ b) (h2 : p1 ≤ 11) (h3 : q1 ≤ 11) (ha : 0 < a) (hb : 0 < b) (c1 : 0 < q0 → p0 = a) (c2 : 0 < q1 → q0 = b) (c3 : 0 < p1 → q1 = 11)
    (e1 : k1 = min n (a - p0)) (e2 : k2 = min n ((if p0 + k1 = a then b else 0) - q0)) (e3 : k3 = if p0 + k1 = a then min n ((if q1 = 11 then 11 else 0) - p1) else 0) (e4 : k4 = if q0 + k2 = b then min n (11 - q1) else 0) :
    leftM a b (p0 + k1) (p1 + k3) (q0 + k2) (q1 + k4) ≤ leftM a b p0 p1 q0 q1 ∧ (n = 9 → leftM a b (p0 + k1) (p1 + k3) (q0 + k2) (q1 + k4) + 1 ≤ leftM a b p0 p1 q0 q1 ∨ leftM a b (p0 + k1) (p1 + k3) (q0 + k2) (q1 + k4) = 0) := by
  have n1 : needM (a - (p0 + k1)) ≤ needM (a - p0) ∧ needM (b - (q0 + k2)) ≤ needM (b - q0) ∧ needM (11 - (q1 + k4)) ≤ needM (11 - q1) ∧ needM (11 - (p1 + k3)) ≤ needM (11 - p1) := by
    unfold needM; omega
  refine ⟨by unfold leftM; omega, fun hn => ?_⟩
  subst hn
  by_cases hp : p0 = a
  · subst hp
    have k10 : k1 = 0 := by omega
    subst k10
    rw [if_pos (by omega)] at e2 e3
    by_cases hq : q0 = b
    · subst hq
      have k20 : k2 = 0 := by omega
      subst k20
      rw [if_pos (by omega)] at e4
      by_cases hr : q1 = 11
      · subst hr
        rw [if_pos rfl] at e3
        unfold leftM needM; omega
      · left; unfold leftM needM at *; omega
    · left
      have : needM (b - (q0 + k2)) + 1 ≤ needM (b - q0) := by unfold needM; omega
      unfold leftM; omega
  · left
    have : needM (a - (p0 + k1)) + 1 ≤ needM (a - p0) := by unfold needM; omega
    unfold leftM; omega
theorem left_zero (a b p0 p1 q0 q1 : Nat) (h0 : p0 ≤ a) (h1 : q0 ≤ b) (h2 : p1 ≤ 11) (h3 : q1 ≤ 11) (h : leftM a b p0 p1 q0 q1 = 0) : p0 = a ∧ p1 = 11 ∧ q0 = b ∧ q1 = 11 := by
  unfold leftM needM at h; omega
theorem left_start (a b : Nat) (ha : a ≤ 131) (hb : b ≤ 131) : leftM a b 0 0 0 0 ≤ 34 := by
  unfold leftM needM; omega
/-- where the spaces of a round stand. -/
def Mid (n a b p0 p1 q0 q1 sp a0 a1 b0 b1 : Nat) : Prop :=
  (sp = 0 ∧ a0 = p0 ∧ a1 = p1 ∧ b0 = q0 ∧ b1 = q1) ∨ (sp = 1 ∧ ∃ k1 k2, k1 = min n (a - p0) ∧ k2 = min n ((if p0 + k1 = a then b else 0) - q0) ∧ a0 = p0 + k1 ∧ a1 = p1 ∧ b0 = q0 + k2 ∧ b1 = q1) ∨
  (sp = 2 ∧ leftM a b a0 a1 b0 b1 ≤ leftM a b p0 p1 q0 q1 ∧ (n = 9 → leftM a b a0 a1 b0 b1 + 1 ≤ leftM a b p0 p1 q0 q1 ∨ leftM a b a0 a1 b0 b1 = 0))
set_option maxRecDepth 100000 in
set_option maxHeartbeats 16000000 in
theorem meets_b2 {x0 x1 x2 x3 x4 x5 x6 x7 x8 x9 x10 x11 x12 x13 x14 x15 x16 x21 x24 x25 x26 x27 x28 x29 x30 x31 x32 x33 x34 x35 x36 x37 x38 x39 x40 x41 x42 x43 x44 x45 x46 x47 x48 x49 x50 x51 x52 x53 x54 x55 x56 x57 x58 x59 x60 x61 x62 x63 x64 x65 x66 x67 x68 x69 x70 x71 x72 x73 x74 x75 x76 x77 x78 x79 x80 x81 x82 x83 x84 x85 x86 x87 x88 x89 x90 x91 x92 x93 x94 x95 x96 x97 x98 x99 x100 x101 x102 x103 x104 x105 x106 x107 x108 x109 x110 x111 x112 x113 x114 x115 x116 x117 x118 x119 x120 x121 x122 x123 x124 x125 x126 x127 x128 x129 x130 x131 x132 x133 x134 x135 x136 x137 x138 x139 x140 x141 x142 x143 x144 x145 x146 x147 x148 x149 x150 x151 x152 x153 x154 x155 x156 x157 x158 x159 x160 x161 x162 x163 x164 x165 x166 x167 x168 x169 x170 x171 x172 x173 x174 x175 x176 x177 x178 x179 x180 x181 x182 x183 x184 x185 x186 x187 x188 x189 x190 x191 x192 x193 x194 x195 x196 x197 x198 x199 x200 x201 x202 x203 x204 x205 x206 x207 x208 x209 x210 x211 x212 x213 x214 x215 x216 x217 x218 x219 x220 x221 x222 x223 x224 x225 x226 x227 x228 x229 x230 x231 x232 x233 x234 x235 x236 x237 x238 x239 x240 x241 x242 x243 x244 x245 x246 : Value} {bse px py gw gc p0 p1 q0 q1 : Nat} {psk S : Int} {ba bb A B FA FB : List Int} {PA PB : Pm} {X Y : Sd} {n : Nat} (w : World) {Q : Exit → Act → World → Prop}
    (HT : Hid (Two bse w px py gw gc X Y p0 p1 q0 q1)) (HP : Hid (Ph psk A B FA FB S PA PB X Y p0 p1 q0 q1)) (HSA : Hid (Say psk ba bb A B FA FB S PA PB)) (hn : n ≤ 30)
    (hQp : ∀ c a d v w, Q (.panic c) (a.put d v) w → Q (.panic c) a w)
    (hQ : ∀ (y14 y23 y24 y25 y26 y27 y28 y29 y83 y84 y85 y86 y87 y88 y89 y90 y91 y92 y93 y94 y95 y96 y97 y98 y99 y100 y101 y102 y103 y104 y105 y106 y107 y108 y109 y110 y111 y112 y113 y114 y115 y116 y117 y118 y119 y120 y121 y122 y123 y124 y125 y126 y127 y128 y129 y130 y131 y132 y133 y134 y135 y136 y137 y138 y139 y140 y141 y142 y143 y144 y145 y146 y147 y148 y149 y150 y151 y152 y153 y154 y155 y156 y157 y158 y159 y160 y161 y162 y163 y164 y165 y166 y167 y168 y169 y170 y171 y172 y173 y174 y175 y176 y177 y178 y179 y180 : Value) (w' : World) (X' Y' : Sd) (a0 a1 b0 b1 : Nat), Two bse w' px py gw gc X' Y' a0 a1 b0 b1 → Ph psk A B FA FB S PA PB X' Y' a0 a1 b0 b1 → Below bse w w' → leftM A.length B.length a0 a1 b0 b1 ≤ leftM A.length B.length p0 p1 q0 q1 → (n = 9 → leftM A.length B.length a0 a1 b0 b1 + 1 ≤ leftM A.length B.length p0 p1 q0 q1 ∨ leftM A.length B.length a0 a1 b0 b1 = 0) → Q .normal ⟨List.toArray (x0 :: x1 :: x2 :: x3 :: x4 :: x5 :: x6 :: x7 :: x8 :: x9 :: x10 :: x11 :: x12 :: x13 :: y14 :: x15 :: x16 :: .pointer (some ⟨px, 0, none⟩) :: .pointer (some ⟨py, 0, none⟩) :: .pointer (some ⟨gw, 0, none⟩) :: .pointer (some ⟨gc, 0, none⟩) :: x21 :: .int .i64 (n : Int) :: y23 :: y24 :: y25 :: y26 :: y27 :: y28 :: y29 :: x30 :: x31 :: x32 :: x33 :: x34 :: x35 :: x36 :: x37 :: x38 :: x39 :: x40 :: x41 :: x42 :: x43 :: x44 :: x45 :: x46 :: x47 :: x48 :: x49 :: x50 :: x51 :: x52 :: x53 :: x54 :: x55 :: x56 :: x57 :: x58 :: x59 :: x60 :: x61 :: x62 :: x63 :: x64 :: x65 :: x66 :: x67 :: x68 :: x69 :: x70 :: x71 :: x72 :: x73 :: x74 :: x75 :: x76 :: x77 :: x78 :: x79 :: x80 :: x81 :: x82 :: y83 :: y84 :: y85 :: y86 :: y87 :: y88 :: y89 :: y90 :: y91 :: y92 :: y93 :: y94 :: y95 :: y96 :: y97 :: y98 :: y99 :: y100 :: y101 :: y102 :: y103 :: y104 :: y105 :: y106 :: y107 :: y108 :: y109 :: y110 :: y111 :: y112 :: y113 :: y114 :: y115 :: y116 :: y117 :: y118 :: y119 :: y120 :: y121 :: y122 :: y123 :: y124 :: y125 :: y126 :: y127 :: y128 :: y129 :: y130 :: y131 :: y132 :: y133 :: y134 :: y135 :: y136 :: y137 :: y138 :: y139 :: y140 :: y141 :: y142 :: y143 :: y144 :: y145 :: y146 :: y147 :: y148 :: y149 :: y150 :: y151 :: y152 :: y153 :: y154 :: y155 :: y156 :: y157 :: y158 :: y159 :: y160 :: y161 :: y162 :: y163 :: y164 :: y165 :: y166 :: y167 :: y168 :: y169 :: y170 :: y171 :: y172 :: y173 :: y174 :: y175 :: y176 :: y177 :: y178 :: y179 :: y180 :: x181 :: x182 :: x183 :: x184 :: x185 :: x186 :: x187 :: x188 :: x189 :: x190 :: x191 :: x192 :: x193 :: x194 :: x195 :: x196 :: x197 :: x198 :: x199 :: x200 :: x201 :: x202 :: x203 :: x204 :: x205 :: x206 :: x207 :: x208 :: x209 :: x210 :: x211 :: x212 :: x213 :: x214 :: x215 :: x216 :: x217 :: x218 :: x219 :: x220 :: x221 :: x222 :: x223 :: x224 :: x225 :: x226 :: x227 :: x228 :: x229 :: x230 :: x231 :: x232 :: x233 :: x234 :: x235 :: x236 :: x237 :: x238 :: x239 :: x240 :: x241 :: x242 :: x243 :: x244 :: x245 :: x246 :: []), []⟩ w') :
    Code.wp Try.prog (((Try.f5.body.bind (subBlock 2)).getD .skip)) Q ⟨List.toArray (x0 :: x1 :: x2 :: x3 :: x4 :: x5 :: x6 :: x7 :: x8 :: x9 :: x10 :: x11 :: x12 :: x13 :: x14 :: x15 :: x16 :: .pointer (some ⟨px, 0, none⟩) :: .pointer (some ⟨py, 0, none⟩) :: .pointer (some ⟨gw, 0, none⟩) :: .pointer (some ⟨gc, 0, none⟩) :: x21 :: .int .i64 (n : Int) :: .int .i64 0 :: x24 :: x25 :: x26 :: x27 :: x28 :: x29 :: x30 :: x31 :: x32 :: x33 :: x34 :: x35 :: x36 :: x37 :: x38 :: x39 :: x40 :: x41 :: x42 :: x43 :: x44 :: x45 :: x46 :: x47 :: x48 :: x49 :: x50 :: x51 :: x52 :: x53 :: x54 :: x55 :: x56 :: x57 :: x58 :: x59 :: x60 :: x61 :: x62 :: x63 :: x64 :: x65 :: x66 :: x67 :: x68 :: x69 :: x70 :: x71 :: x72 :: x73 :: x74 :: x75 :: x76 :: x77 :: x78 :: x79 :: x80 :: x81 :: x82 :: x83 :: x84 :: x85 :: x86 :: x87 :: x88 :: x89 :: x90 :: x91 :: x92 :: x93 :: x94 :: x95 :: x96 :: x97 :: x98 :: x99 :: x100 :: x101 :: x102 :: x103 :: x104 :: x105 :: x106 :: x107 :: x108 :: x109 :: x110 :: x111 :: x112 :: x113 :: x114 :: x115 :: x116 :: x117 :: x118 :: x119 :: x120 :: x121 :: x122 :: x123 :: x124 :: x125 :: x126 :: x127 :: x128 :: x129 :: x130 :: x131 :: x132 :: x133 :: x134 :: x135 :: x136 :: x137 :: x138 :: x139 :: x140 :: x141 :: x142 :: x143 :: x144 :: x145 :: x146 :: x147 :: x148 :: x149 :: x150 :: x151 :: x152 :: x153 :: x154 :: x155 :: x156 :: x157 :: x158 :: x159 :: x160 :: x161 :: x162 :: x163 :: x164 :: x165 :: x166 :: x167 :: x168 :: x169 :: x170 :: x171 :: x172 :: x173 :: x174 :: x175 :: x176 :: x177 :: x178 :: x179 :: x180 :: x181 :: x182 :: x183 :: x184 :: x185 :: x186 :: x187 :: x188 :: x189 :: x190 :: x191 :: x192 :: x193 :: x194 :: x195 :: x196 :: x197 :: x198 :: x199 :: x200 :: x201 :: x202 :: x203 :: x204 :: x205 :: x206 :: x207 :: x208 :: x209 :: x210 :: x211 :: x212 :: x213 :: x214 :: x215 :: x216 :: x217 :: x218 :: x219 :: x220 :: x221 :: x222 :: x223 :: x224 :: x225 :: x226 :: x227 :: x228 :: x229 :: x230 :: x231 :: x232 :: x233 :: x234 :: x235 :: x236 :: x237 :: x238 :: x239 :: x240 :: x241 :: x242 :: x243 :: x244 :: x245 :: x246 :: []), []⟩ w := by
  have HK := Lib.hid hQ; have HKP := Lib.hid hQp
  clear hQ hQp
  conv => arg 2; whnf
  have HB : Hid (Below bse w w) := Lib.hid (Below.refl _ _)
  have HP0 := HP
  go_wp2_with fail
  go_loopw [23] (fun s wr => ∃ (sp : Nat) (X' Y' : Sd) (a0 a1 b0 b1 : Nat), s = .int .i64 sp ∧ sp ≤ 2 ∧ Hid (Below bse w wr) ∧ Hid (Two bse wr px py gw gc X' Y' a0 a1 b0 b1) ∧ Hid (Ph psk A B FA FB S PA PB X' Y' a0 a1 b0 b1) ∧ Hid (Mid n A.length B.length p0 p1 q0 q1 sp a0 a1 b0 b1)) (fun s _ => 2 - (intOf s).toNat)
  case atStart => exact ⟨0, X, Y, p0, p1, q0, q1, rfl, by omega, HB, HT, HP, Lib.hid (.inl ⟨rfl, rfl, rfl, rfl, rfl⟩)⟩
  case round =>
    clear HB HT HP
    obtain ⟨sp, X', Y', a0, a1, b0, b1, rfl, hsp, HB, HT, HP, HM⟩ := hrel
    rcases HM.out with ⟨rfl, rfl, rfl, rfl, rfl⟩ | ⟨rfl, k1, k2, e1, e2, rfl, rfl, rfl, rfl⟩ | ⟨rfl, hl, hl9⟩
    · go_upto_block 3 with fail
      refine meets_b3_0 _ HT HP HSA hn (fun c a d v w h => by first | (cases d <;> exact h) | exact HKP.out c a d v w h) ?_
      rintro _ _ _ _ _ _ _ _ _ _ _ _ _ _ _ _ _ _ _ _ _ _ _ _ _ _ _ _ _ _ _ _ _ _ _ _ _ _ _ _ _ _ _ _ _ _ _ _ _ _ _ _ _ _ _ _ _ _ _ _ _ _ _ _ _ _ _ _ _ _ _ _ _ _ _ _ _ _ _ _ _ _ _ _ _ _ _ _ _ _ _ _ _ _ _ _ _ _ _ _ _ wx X2 Y2 k1 k2 e1 e2 hT hP hb
      have HB2 := Lib.hid (HB.out.trans hb); have HT2 := Lib.hid hT; have HP2 := Lib.hid hP
      have HE1 := Lib.hid e1; have HE2 := Lib.hid e2
      clear hb hT hP e1 e2
      go_wp2_with fail
      go_roundw
      case rel => exact ⟨1, X2, Y2, _, _, _, _, rfl, by omega, HB2, HT2, HP2, Lib.hid (.inr (.inl ⟨rfl, k1, k2, HE1.out, HE2.out, rfl, rfl, rfl, rfl⟩))⟩
      case measure => simp [intOf]
    · have HE1 := Lib.hid e1; have HE2 := Lib.hid e2
      clear e1 e2
      go_upto_block 3 with fail
      refine meets_b3_1 _ HT HP HSA hn (fun c a d v w h => by first | (cases d <;> exact h) | exact HKP.out c a d v w h) ?_
      rintro _ _ _ _ _ _ _ _ _ _ _ _ _ _ _ _ _ _ _ _ _ _ _ _ _ _ _ _ _ _ _ _ _ _ _ _ _ _ _ _ _ _ _ _ _ _ _ _ _ _ _ _ _ _ _ _ _ _ _ _ _ _ _ _ _ _ _ _ _ _ _ _ _ _ _ _ _ _ _ _ _ _ _ _ _ _ _ _ _ _ _ _ _ _ _ _ _ _ _ _ _ wx X2 Y2 k3 k4 e3 e4 hT hP hb
      have hlm := round_left n A.length B.length _ _ _ _ k1 k2 k3 k4 HP0.out.lp0 HP0.out.lq0 HP0.out.lp1 HP0.out.lq1 (by have := HSA.out.lenA; omega) (by have := HSA.out.lenB; omega) HP0.out.c1 HP0.out.c2 HP0.out.c3 HE1.out HE2.out e3 e4
      have HB2 := Lib.hid (HB.out.trans hb); have HT2 := Lib.hid hT; have HP2 := Lib.hid hP; have HLM := Lib.hid hlm
      clear hb hT hP e3 e4 hlm
      go_wp2_with fail
      go_roundw
      case rel => exact ⟨2, X2, Y2, _, _, _, _, rfl, by omega, HB2, HT2, HP2, Lib.hid (.inr (.inr ⟨rfl, HLM.out.1, HLM.out.2⟩))⟩
      case measure => simp [intOf]
    · have HL := Lib.hid hl; have HL9 := Lib.hid hl9
      clear hl hl9
      go_wp2_with fail
      exact HK.out _ _ _ _ _ _ _ _ _ _ _ _ _ _ _ _ _ _ _ _ _ _ _ _ _ _ _ _ _ _ _ _ _ _ _ _ _ _ _ _ _ _ _ _ _ _ _ _ _ _ _ _ _ _ _ _ _ _ _ _ _ _ _ _ _ _ _ _ _ _ _ _ _ _ _ _ _ _ _ _ _ _ _ _ _ _ _ _ _ _ _ _ _ _ _ _ _ _ _ _ _ _ _ _ _ _ _ X' Y' _ _ _ _ HT.out HP.out HB.out HL.out HL9.out
end Go.Proofs.Ytlpajohhnngbmaa
namespace Go.Proofs.Ytlpajohhnngbmaa
open Go.RowKit
set_option linter.unusedVariables false
set_option linter.unusedSimpArgs false

set_option maxRecDepth 100000 in
set_option maxHeartbeats 8000000 in
theorem meets_b1 {x0 x1 x2 x3 x4 x5 x7 x8 x9 x10 x11 x12 x13 x14 x15 x16 x22 x23 x24 x25 x26 x27 x28 x29 x30 x31 x32 x33 x34 x35 x36 x37 x38 x39 x40 x41 x42 x43 x44 x45 x46 x47 x48 x49 x50 x51 x52 x53 x54 x55 x56 x57 x58 x59 x60 x61 x62 x63 x64 x65 x66 x67 x68 x69 x70 x71 x72 x73 x74 x75 x76 x77 x78 x79 x80 x81 x82 x83 x84 x85 x86 x87 x88 x89 x90 x91 x92 x93 x94 x95 x96 x97 x98 x99 x100 x101 x102 x103 x104 x105 x106 x107 x108 x109 x110 x111 x112 x113 x114 x115 x116 x117 x118 x119 x120 x121 x122 x123 x124 x125 x126 x127 x128 x129 x130 x131 x132 x133 x134 x135 x136 x137 x138 x139 x140 x141 x142 x143 x144 x145 x146 x147 x148 x149 x150 x151 x152 x153 x154 x155 x156 x157 x158 x159 x160 x161 x162 x163 x164 x165 x166 x167 x168 x169 x170 x171 x172 x173 x174 x175 x176 x177 x178 x179 x180 x181 x182 x183 x184 x185 x186 x187 x188 x189 x190 x191 x192 x193 x194 x195 x196 x197 x198 x199 x200 x201 x202 x203 x204 x205 x206 x207 x208 x209 x210 x211 x212 x213 x214 x215 x216 x217 x218 x219 x220 x221 x222 x223 x224 x225 x226 x227 x228 x229 x230 x231 x232 x233 x234 x235 x236 x237 x238 x239 x240 x241 x242 x243 x244 x245 x246 : Value} {bse px py gw gc p0 p1 q0 q1 : Nat} {psk S : Int} {ba bb A B FA FB : List Int} {PA PB : Pm} {X Y : Sd} {pa : Option Addr} {pl pc i : Nat} {ps : List Int} (w : World) {Q : Exit → Act → World → Prop}
    (HT : Hid (Two bse w px py gw gc X Y p0 p1 q0 q1)) (HP : Hid (Ph psk A B FA FB S PA PB X Y p0 p1 q0 q1)) (HSA : Hid (Say psk ba bb A B FA FB S PA PB)) (hi : i ≤ 300) (HPI : Hid (IntsK .i64 w pa pl ps))
    (hQp : ∀ c a d v w, Q (.panic c) (a.put d v) w → Q (.panic c) a w)
    (hQ : ∀ (y14 y22 y23 y24 y25 y26 y27 y28 y29 y70 y71 y72 y73 y74 y75 y76 y77 y78 y79 y80 y81 y82 y83 y84 y85 y86 y87 y88 y89 y90 y91 y92 y93 y94 y95 y96 y97 y98 y99 y100 y101 y102 y103 y104 y105 y106 y107 y108 y109 y110 y111 y112 y113 y114 y115 y116 y117 y118 y119 y120 y121 y122 y123 y124 y125 y126 y127 y128 y129 y130 y131 y132 y133 y134 y135 y136 y137 y138 y139 y140 y141 y142 y143 y144 y145 y146 y147 y148 y149 y150 y151 y152 y153 y154 y155 y156 y157 y158 y159 y160 y161 y162 y163 y164 y165 y166 y167 y168 y169 y170 y171 y172 y173 y174 y175 y176 y177 y178 y179 y180 : Value) (w' : World) (X' Y' : Sd) (a0 a1 b0 b1 : Nat), Two bse w' px py gw gc X' Y' a0 a1 b0 b1 → Ph psk A B FA FB S PA PB X' Y' a0 a1 b0 b1 → Below bse w w' → leftM A.length B.length a0 a1 b0 b1 ≤ leftM A.length B.length p0 p1 q0 q1 → (100 ≤ i → leftM A.length B.length a0 a1 b0 b1 + 1 ≤ leftM A.length B.length p0 p1 q0 q1 ∨ leftM A.length B.length a0 a1 b0 b1 = 0) → Q .normal ⟨List.toArray (x0 :: x1 :: x2 :: x3 :: x4 :: x5 :: .slice pa pl pc :: x7 :: x8 :: x9 :: x10 :: x11 :: x12 :: x13 :: y14 :: x15 :: x16 :: .pointer (some ⟨px, 0, none⟩) :: .pointer (some ⟨py, 0, none⟩) :: .pointer (some ⟨gw, 0, none⟩) :: .pointer (some ⟨gc, 0, none⟩) :: .int .i64 (i : Int) :: y22 :: y23 :: y24 :: y25 :: y26 :: y27 :: y28 :: y29 :: x30 :: x31 :: x32 :: x33 :: x34 :: x35 :: x36 :: x37 :: x38 :: x39 :: x40 :: x41 :: x42 :: x43 :: x44 :: x45 :: x46 :: x47 :: x48 :: x49 :: x50 :: x51 :: x52 :: x53 :: x54 :: x55 :: x56 :: x57 :: x58 :: x59 :: x60 :: x61 :: x62 :: x63 :: x64 :: x65 :: x66 :: x67 :: x68 :: x69 :: y70 :: y71 :: y72 :: y73 :: y74 :: y75 :: y76 :: y77 :: y78 :: y79 :: y80 :: y81 :: y82 :: y83 :: y84 :: y85 :: y86 :: y87 :: y88 :: y89 :: y90 :: y91 :: y92 :: y93 :: y94 :: y95 :: y96 :: y97 :: y98 :: y99 :: y100 :: y101 :: y102 :: y103 :: y104 :: y105 :: y106 :: y107 :: y108 :: y109 :: y110 :: y111 :: y112 :: y113 :: y114 :: y115 :: y116 :: y117 :: y118 :: y119 :: y120 :: y121 :: y122 :: y123 :: y124 :: y125 :: y126 :: y127 :: y128 :: y129 :: y130 :: y131 :: y132 :: y133 :: y134 :: y135 :: y136 :: y137 :: y138 :: y139 :: y140 :: y141 :: y142 :: y143 :: y144 :: y145 :: y146 :: y147 :: y148 :: y149 :: y150 :: y151 :: y152 :: y153 :: y154 :: y155 :: y156 :: y157 :: y158 :: y159 :: y160 :: y161 :: y162 :: y163 :: y164 :: y165 :: y166 :: y167 :: y168 :: y169 :: y170 :: y171 :: y172 :: y173 :: y174 :: y175 :: y176 :: y177 :: y178 :: y179 :: y180 :: x181 :: x182 :: x183 :: x184 :: x185 :: x186 :: x187 :: x188 :: x189 :: x190 :: x191 :: x192 :: x193 :: x194 :: x195 :: x196 :: x197 :: x198 :: x199 :: x200 :: x201 :: x202 :: x203 :: x204 :: x205 :: x206 :: x207 :: x208 :: x209 :: x210 :: x211 :: x212 :: x213 :: x214 :: x215 :: x216 :: x217 :: x218 :: x219 :: x220 :: x221 :: x222 :: x223 :: x224 :: x225 :: x226 :: x227 :: x228 :: x229 :: x230 :: x231 :: x232 :: x233 :: x234 :: x235 :: x236 :: x237 :: x238 :: x239 :: x240 :: x241 :: x242 :: x243 :: x244 :: x245 :: x246 :: []), []⟩ w') :
    Code.wp Try.prog (((Try.f5.body.bind (subBlock 1)).getD .skip)) Q ⟨List.toArray (x0 :: x1 :: x2 :: x3 :: x4 :: x5 :: .slice pa pl pc :: x7 :: x8 :: x9 :: x10 :: x11 :: x12 :: x13 :: x14 :: x15 :: x16 :: .pointer (some ⟨px, 0, none⟩) :: .pointer (some ⟨py, 0, none⟩) :: .pointer (some ⟨gw, 0, none⟩) :: .pointer (some ⟨gc, 0, none⟩) :: .int .i64 (i : Int) :: x22 :: x23 :: x24 :: x25 :: x26 :: x27 :: x28 :: x29 :: x30 :: x31 :: x32 :: x33 :: x34 :: x35 :: x36 :: x37 :: x38 :: x39 :: x40 :: x41 :: x42 :: x43 :: x44 :: x45 :: x46 :: x47 :: x48 :: x49 :: x50 :: x51 :: x52 :: x53 :: x54 :: x55 :: x56 :: x57 :: x58 :: x59 :: x60 :: x61 :: x62 :: x63 :: x64 :: x65 :: x66 :: x67 :: x68 :: x69 :: x70 :: x71 :: x72 :: x73 :: x74 :: x75 :: x76 :: x77 :: x78 :: x79 :: x80 :: x81 :: x82 :: x83 :: x84 :: x85 :: x86 :: x87 :: x88 :: x89 :: x90 :: x91 :: x92 :: x93 :: x94 :: x95 :: x96 :: x97 :: x98 :: x99 :: x100 :: x101 :: x102 :: x103 :: x104 :: x105 :: x106 :: x107 :: x108 :: x109 :: x110 :: x111 :: x112 :: x113 :: x114 :: x115 :: x116 :: x117 :: x118 :: x119 :: x120 :: x121 :: x122 :: x123 :: x124 :: x125 :: x126 :: x127 :: x128 :: x129 :: x130 :: x131 :: x132 :: x133 :: x134 :: x135 :: x136 :: x137 :: x138 :: x139 :: x140 :: x141 :: x142 :: x143 :: x144 :: x145 :: x146 :: x147 :: x148 :: x149 :: x150 :: x151 :: x152 :: x153 :: x154 :: x155 :: x156 :: x157 :: x158 :: x159 :: x160 :: x161 :: x162 :: x163 :: x164 :: x165 :: x166 :: x167 :: x168 :: x169 :: x170 :: x171 :: x172 :: x173 :: x174 :: x175 :: x176 :: x177 :: x178 :: x179 :: x180 :: x181 :: x182 :: x183 :: x184 :: x185 :: x186 :: x187 :: x188 :: x189 :: x190 :: x191 :: x192 :: x193 :: x194 :: x195 :: x196 :: x197 :: x198 :: x199 :: x200 :: x201 :: x202 :: x203 :: x204 :: x205 :: x206 :: x207 :: x208 :: x209 :: x210 :: x211 :: x212 :: x213 :: x214 :: x215 :: x216 :: x217 :: x218 :: x219 :: x220 :: x221 :: x222 :: x223 :: x224 :: x225 :: x226 :: x227 :: x228 :: x229 :: x230 :: x231 :: x232 :: x233 :: x234 :: x235 :: x236 :: x237 :: x238 :: x239 :: x240 :: x241 :: x242 :: x243 :: x244 :: x245 :: x246 :: []), []⟩ w := by
  have HK := Lib.hid hQ; have HKP := Lib.hid hQp
  clear hQ hQp
  conv => arg 2; whnf
  by_cases hc : i < pl ∧ i < 100
  · obtain ⟨h1, h2⟩ := hc
    obtain ⟨ab, ao, pv, rfl, hlt, hpv, hpw, hcell⟩ := HPI.out.at (Below.refl _ _) h1
    clear hpv hlt
    have hin := within_in pv 0 30 (by omega)
    have HW := Lib.hid (fun W => within_any W pv 0 30 (by omega) (by omega) (by omega) (bdI64 hpw))
    obtain ⟨n, en⟩ : ∃ n : Nat, within pv 0 30 = n := ⟨(within pv 0 30).toNat, by omega⟩
    rw [en] at hin HW
    clear hpw en
    have hn : n ≤ 30 := by omega
    clear hin
    go_wp2_with fail
    refine Calls.mono (HW.out _) ?_
    rintro e wq ⟨rfl, rfl⟩
    clear hcell
    go_upto_block 2 with fail
    refine meets_b2 _ HT HP HSA hn (fun c a d v w h => by first | (cases d <;> exact h) | exact HKP.out c a d v w h) ?_
    rintro _ _ _ _ _ _ _ _ _ _ _ _ _ _ _ _ _ _ _ _ _ _ _ _ _ _ _ _ _ _ _ _ _ _ _ _ _ _ _ _ _ _ _ _ _ _ _ _ _ _ _ _ _ _ _ _ _ _ _ _ _ _ _ _ _ _ _ _ _ _ _ _ _ _ _ _ _ _ _ _ _ _ _ _ _ _ _ _ _ _ _ _ _ _ _ _ _ _ _ _ _ _ _ _ _ _ wx X2 Y2 a0 a1 b0 b1 hT hP hb hl hl9
    exact HK.out _ _ _ _ _ _ _ _ _ _ _ _ _ _ _ _ _ _ _ _ _ _ _ _ _ _ _ _ _ _ _ _ _ _ _ _ _ _ _ _ _ _ _ _ _ _ _ _ _ _ _ _ _ _ _ _ _ _ _ _ _ _ _ _ _ _ _ _ _ _ _ _ _ _ _ _ _ _ _ _ _ _ _ _ _ _ _ _ _ _ _ _ _ _ _ _ _ _ _ _ _ _ _ _ _ _ _ _ _ _ _ _ _ _ _ _ _ _ _ _ _ X2 Y2 _ _ _ _ hT hP hb hl (fun h => absurd h2 (by omega))
  · skip
    skip
    skip
    by_cases h1 : i < pl
    · skip
      have h2 : ¬ i < 100 := fun h => hc ⟨h1, h⟩
      go_upto_block 2 with fail
      refine meets_b2 _ HT HP HSA (n := 9) (by omega) (fun c a d v w h => by first | (cases d <;> exact h) | exact HKP.out c a d v w h) ?_
      rintro _ _ _ _ _ _ _ _ _ _ _ _ _ _ _ _ _ _ _ _ _ _ _ _ _ _ _ _ _ _ _ _ _ _ _ _ _ _ _ _ _ _ _ _ _ _ _ _ _ _ _ _ _ _ _ _ _ _ _ _ _ _ _ _ _ _ _ _ _ _ _ _ _ _ _ _ _ _ _ _ _ _ _ _ _ _ _ _ _ _ _ _ _ _ _ _ _ _ _ _ _ _ _ _ _ _ wx X2 Y2 a0 a1 b0 b1 hT hP hb hl hl9
      exact HK.out _ _ _ _ _ _ _ _ _ _ _ _ _ _ _ _ _ _ _ _ _ _ _ _ _ _ _ _ _ _ _ _ _ _ _ _ _ _ _ _ _ _ _ _ _ _ _ _ _ _ _ _ _ _ _ _ _ _ _ _ _ _ _ _ _ _ _ _ _ _ _ _ _ _ _ _ _ _ _ _ _ _ _ _ _ _ _ _ _ _ _ _ _ _ _ _ _ _ _ _ _ _ _ _ _ _ _ _ _ _ _ _ _ _ _ _ _ _ _ _ _ X2 Y2 _ _ _ _ hT hP hb hl (fun h => hl9 rfl)
    · skip
      go_upto_block 2 with fail
      refine meets_b2 _ HT HP HSA (n := 9) (by omega) (fun c a d v w h => by first | (cases d <;> exact h) | exact HKP.out c a d v w h) ?_
      rintro _ _ _ _ _ _ _ _ _ _ _ _ _ _ _ _ _ _ _ _ _ _ _ _ _ _ _ _ _ _ _ _ _ _ _ _ _ _ _ _ _ _ _ _ _ _ _ _ _ _ _ _ _ _ _ _ _ _ _ _ _ _ _ _ _ _ _ _ _ _ _ _ _ _ _ _ _ _ _ _ _ _ _ _ _ _ _ _ _ _ _ _ _ _ _ _ _ _ _ _ _ _ _ _ _ _ wx X2 Y2 a0 a1 b0 b1 hT hP hb hl hl9
      exact HK.out _ _ _ _ _ _ _ _ _ _ _ _ _ _ _ _ _ _ _ _ _ _ _ _ _ _ _ _ _ _ _ _ _ _ _ _ _ _ _ _ _ _ _ _ _ _ _ _ _ _ _ _ _ _ _ _ _ _ _ _ _ _ _ _ _ _ _ _ _ _ _ _ _ _ _ _ _ _ _ _ _ _ _ _ _ _ _ _ _ _ _ _ _ _ _ _ _ _ _ _ _ _ _ _ _ _ _ _ _ _ _ _ _ _ _ _ _ _ _ _ _ X2 Y2 _ _ _ _ hT hP hb hl (fun h => hl9 rfl)
end Go.Proofs.Ytlpajohhnngbmaa
namespace Go.Proofs.Ytlpajohhnngbmaa
open Go.RowKit
set_option linter.unusedVariables false
set_option linter.unusedSimpArgs false

set_option maxRecDepth 100000 in
set_option maxHeartbeats 8000000 in
theorem meets_b0 {x0 x1 x2 x3 x4 x5 x7 x8 x9 x10 x11 x12 x13 x14 x15 x16 x22 x23 x24 x25 x26 x27 x28 x29 x30 x31 x32 x33 x34 x35 x36 x37 x38 x39 x40 x41 x42 x43 x44 x45 x46 x47 x48 x49 x50 x51 x52 x53 x54 x55 x56 x57 x58 x59 x60 x61 x62 x63 x64 x65 x66 x67 x68 x69 x70 x71 x72 x73 x74 x75 x76 x77 x78 x79 x80 x81 x82 x83 x84 x85 x86 x87 x88 x89 x90 x91 x92 x93 x94 x95 x96 x97 x98 x99 x100 x101 x102 x103 x104 x105 x106 x107 x108 x109 x110 x111 x112 x113 x114 x115 x116 x117 x118 x119 x120 x121 x122 x123 x124 x125 x126 x127 x128 x129 x130 x131 x132 x133 x134 x135 x136 x137 x138 x139 x140 x141 x142 x143 x144 x145 x146 x147 x148 x149 x150 x151 x152 x153 x154 x155 x156 x157 x158 x159 x160 x161 x162 x163 x164 x165 x166 x167 x168 x169 x170 x171 x172 x173 x174 x175 x176 x177 x178 x179 x180 x181 x182 x183 x184 x185 x186 x187 x188 x189 x190 x191 x192 x193 x194 x195 x196 x197 x198 x199 x200 x201 x202 x203 x204 x205 x206 x207 x208 x209 x210 x211 x212 x213 x214 x215 x216 x217 x218 x219 x220 x221 x222 x223 x224 x225 x226 x227 x228 x229 x230 x231 x232 x233 x234 x235 x236 x237 x238 x239 x240 x241 x242 x243 x244 x245 x246 : Value} {bse px py gw gc : Nat} {psk S : Int} {ba bb A B FA FB : List Int} {PA PB : Pm} {X Y : Sd} {pa : Option Addr} {pl pc : Nat} {ps : List Int} (w : World) {Q : Exit → Act → World → Prop}
    (HT : Hid (Two bse w px py gw gc X Y 0 0 0 0)) (HP : Hid (Ph psk A B FA FB S PA PB X Y 0 0 0 0)) (HSA : Hid (Say psk ba bb A B FA FB S PA PB)) (HPI : Hid (∀ wr, Below bse w wr → IntsK .i64 wr pa pl ps))
    (hQp : ∀ c a d v w, Q (.panic c) (a.put d v) w → Q (.panic c) a w)
    (hQ : ∀ (y14 y21 y22 y23 y24 y25 y26 y27 y28 y29 y66 y67 y68 y69 y70 y71 y72 y73 y74 y75 y76 y77 y78 y79 y80 y81 y82 y83 y84 y85 y86 y87 y88 y89 y90 y91 y92 y93 y94 y95 y96 y97 y98 y99 y100 y101 y102 y103 y104 y105 y106 y107 y108 y109 y110 y111 y112 y113 y114 y115 y116 y117 y118 y119 y120 y121 y122 y123 y124 y125 y126 y127 y128 y129 y130 y131 y132 y133 y134 y135 y136 y137 y138 y139 y140 y141 y142 y143 y144 y145 y146 y147 y148 y149 y150 y151 y152 y153 y154 y155 y156 y157 y158 y159 y160 y161 y162 y163 y164 y165 y166 y167 y168 y169 y170 y171 y172 y173 y174 y175 y176 y177 y178 y179 y180 : Value) (w' : World) (X' Y' : Sd), Two bse w' px py gw gc X' Y' A.length 11 B.length 11 → Ph psk A B FA FB S PA PB X' Y' A.length 11 B.length 11 → Below bse w w' → Q .normal ⟨List.toArray (x0 :: x1 :: x2 :: x3 :: x4 :: x5 :: .slice pa pl pc :: x7 :: x8 :: x9 :: x10 :: x11 :: x12 :: x13 :: y14 :: x15 :: x16 :: .pointer (some ⟨px, 0, none⟩) :: .pointer (some ⟨py, 0, none⟩) :: .pointer (some ⟨gw, 0, none⟩) :: .pointer (some ⟨gc, 0, none⟩) :: y21 :: y22 :: y23 :: y24 :: y25 :: y26 :: y27 :: y28 :: y29 :: x30 :: x31 :: x32 :: x33 :: x34 :: x35 :: x36 :: x37 :: x38 :: x39 :: x40 :: x41 :: x42 :: x43 :: x44 :: x45 :: x46 :: x47 :: x48 :: x49 :: x50 :: x51 :: x52 :: x53 :: x54 :: x55 :: x56 :: x57 :: x58 :: x59 :: x60 :: x61 :: x62 :: x63 :: x64 :: x65 :: y66 :: y67 :: y68 :: y69 :: y70 :: y71 :: y72 :: y73 :: y74 :: y75 :: y76 :: y77 :: y78 :: y79 :: y80 :: y81 :: y82 :: y83 :: y84 :: y85 :: y86 :: y87 :: y88 :: y89 :: y90 :: y91 :: y92 :: y93 :: y94 :: y95 :: y96 :: y97 :: y98 :: y99 :: y100 :: y101 :: y102 :: y103 :: y104 :: y105 :: y106 :: y107 :: y108 :: y109 :: y110 :: y111 :: y112 :: y113 :: y114 :: y115 :: y116 :: y117 :: y118 :: y119 :: y120 :: y121 :: y122 :: y123 :: y124 :: y125 :: y126 :: y127 :: y128 :: y129 :: y130 :: y131 :: y132 :: y133 :: y134 :: y135 :: y136 :: y137 :: y138 :: y139 :: y140 :: y141 :: y142 :: y143 :: y144 :: y145 :: y146 :: y147 :: y148 :: y149 :: y150 :: y151 :: y152 :: y153 :: y154 :: y155 :: y156 :: y157 :: y158 :: y159 :: y160 :: y161 :: y162 :: y163 :: y164 :: y165 :: y166 :: y167 :: y168 :: y169 :: y170 :: y171 :: y172 :: y173 :: y174 :: y175 :: y176 :: y177 :: y178 :: y179 :: y180 :: x181 :: x182 :: x183 :: x184 :: x185 :: x186 :: x187 :: x188 :: x189 :: x190 :: x191 :: x192 :: x193 :: x194 :: x195 :: x196 :: x197 :: x198 :: x199 :: x200 :: x201 :: x202 :: x203 :: x204 :: x205 :: x206 :: x207 :: x208 :: x209 :: x210 :: x211 :: x212 :: x213 :: x214 :: x215 :: x216 :: x217 :: x218 :: x219 :: x220 :: x221 :: x222 :: x223 :: x224 :: x225 :: x226 :: x227 :: x228 :: x229 :: x230 :: x231 :: x232 :: x233 :: x234 :: x235 :: x236 :: x237 :: x238 :: x239 :: x240 :: x241 :: x242 :: x243 :: x244 :: x245 :: x246 :: []), []⟩ w') :
    Code.wp Try.prog (((Try.f5.body.bind (subBlock 0)).getD .skip)) Q ⟨List.toArray (x0 :: x1 :: x2 :: x3 :: x4 :: x5 :: .slice pa pl pc :: x7 :: x8 :: x9 :: x10 :: x11 :: x12 :: x13 :: x14 :: x15 :: x16 :: .pointer (some ⟨px, 0, none⟩) :: .pointer (some ⟨py, 0, none⟩) :: .pointer (some ⟨gw, 0, none⟩) :: .pointer (some ⟨gc, 0, none⟩) :: .int .i64 0 :: x22 :: x23 :: x24 :: x25 :: x26 :: x27 :: x28 :: x29 :: x30 :: x31 :: x32 :: x33 :: x34 :: x35 :: x36 :: x37 :: x38 :: x39 :: x40 :: x41 :: x42 :: x43 :: x44 :: x45 :: x46 :: x47 :: x48 :: x49 :: x50 :: x51 :: x52 :: x53 :: x54 :: x55 :: x56 :: x57 :: x58 :: x59 :: x60 :: x61 :: x62 :: x63 :: x64 :: x65 :: x66 :: x67 :: x68 :: x69 :: x70 :: x71 :: x72 :: x73 :: x74 :: x75 :: x76 :: x77 :: x78 :: x79 :: x80 :: x81 :: x82 :: x83 :: x84 :: x85 :: x86 :: x87 :: x88 :: x89 :: x90 :: x91 :: x92 :: x93 :: x94 :: x95 :: x96 :: x97 :: x98 :: x99 :: x100 :: x101 :: x102 :: x103 :: x104 :: x105 :: x106 :: x107 :: x108 :: x109 :: x110 :: x111 :: x112 :: x113 :: x114 :: x115 :: x116 :: x117 :: x118 :: x119 :: x120 :: x121 :: x122 :: x123 :: x124 :: x125 :: x126 :: x127 :: x128 :: x129 :: x130 :: x131 :: x132 :: x133 :: x134 :: x135 :: x136 :: x137 :: x138 :: x139 :: x140 :: x141 :: x142 :: x143 :: x144 :: x145 :: x146 :: x147 :: x148 :: x149 :: x150 :: x151 :: x152 :: x153 :: x154 :: x155 :: x156 :: x157 :: x158 :: x159 :: x160 :: x161 :: x162 :: x163 :: x164 :: x165 :: x166 :: x167 :: x168 :: x169 :: x170 :: x171 :: x172 :: x173 :: x174 :: x175 :: x176 :: x177 :: x178 :: x179 :: x180 :: x181 :: x182 :: x183 :: x184 :: x185 :: x186 :: x187 :: x188 :: x189 :: x190 :: x191 :: x192 :: x193 :: x194 :: x195 :: x196 :: x197 :: x198 :: x199 :: x200 :: x201 :: x202 :: x203 :: x204 :: x205 :: x206 :: x207 :: x208 :: x209 :: x210 :: x211 :: x212 :: x213 :: x214 :: x215 :: x216 :: x217 :: x218 :: x219 :: x220 :: x221 :: x222 :: x223 :: x224 :: x225 :: x226 :: x227 :: x228 :: x229 :: x230 :: x231 :: x232 :: x233 :: x234 :: x235 :: x236 :: x237 :: x238 :: x239 :: x240 :: x241 :: x242 :: x243 :: x244 :: x245 :: x246 :: []), []⟩ w := by
  have HK := Lib.hid hQ; have HKP := Lib.hid hQp
  clear hQ hQp
  conv => arg 2; whnf
  have hl := left_start A.length B.length (by have := HSA.out.lenA; have := HSA.out.la; omega) (by have := HSA.out.lenB; have := HSA.out.lb; omega)
  have HL := Lib.hid hl
  clear hl
  have HB : Hid (Below bse w w) := Lib.hid (Below.refl _ _)
  have HB : Hid (Below bse w w) := Lib.hid (Below.refl _ _)
  go_wp2_with fail
  go_loopw [21] (fun s wr => ∃ (i : Nat) (X' Y' : Sd) (a0 a1 b0 b1 : Nat), s = .int .i64 (i : Int) ∧ i ≤ 300 ∧ Hid (Below bse w wr) ∧ Hid (Two bse wr px py gw gc X' Y' a0 a1 b0 b1) ∧ Hid (Ph psk A B FA FB S PA PB X' Y' a0 a1 b0 b1) ∧ Hid (leftM A.length B.length a0 a1 b0 b1 ≤ 34 ∧ (leftM A.length B.length a0 a1 b0 b1 = 0 ∨ leftM A.length B.length a0 a1 b0 b1 + (i - 100) ≤ 34))) (fun s _ => 300 - (intOf s).toNat)
  case atStart => exact ⟨0, X, Y, 0, 0, 0, 0, rfl, by omega, HB, HT, HP, Lib.hid ⟨HL.out, .inr (by have := HL.out; omega)⟩⟩
  case round =>
    clear HB HT HP HL
    obtain ⟨i, X', Y', a0, a1, b0, b1, rfl, hi, HB, HT, HP, HL⟩ := hrel
    by_cases hlt : i < 300
    · go_upto_block 1 with fail
      have HI := Lib.hid (HPI.out _ HB.out)
      refine meets_b1 _ HT HP HSA (by omega) HI (fun c a d v w h => by first | (cases d <;> exact h) | exact HKP.out c a d v w h) ?_
      rintro _ _ _ _ _ _ _ _ _ _ _ _ _ _ _ _ _ _ _ _ _ _ _ _ _ _ _ _ _ _ _ _ _ _ _ _ _ _ _ _ _ _ _ _ _ _ _ _ _ _ _ _ _ _ _ _ _ _ _ _ _ _ _ _ _ _ _ _ _ _ _ _ _ _ _ _ _ _ _ _ _ _ _ _ _ _ _ _ _ _ _ _ _ _ _ _ _ _ _ _ _ _ _ _ _ _ _ _ _ _ _ _ _ _ _ _ _ _ _ _ wx X2 Y2 c0 c1 d0 d1 hT hP hb hl hl9
      have hle : leftM A.length B.length c0 c1 d0 d1 ≤ 34 ∧ (leftM A.length B.length c0 c1 d0 d1 = 0 ∨ leftM A.length B.length c0 c1 d0 d1 + (i + 1 - 100) ≤ 34) := by
        have h1 := HL.out.1; have h2 := HL.out.2
        refine ⟨by omega, ?_⟩
        by_cases h3 : 100 ≤ i
        · rcases hl9 h3 with h4 | h4
          · rcases h2 with h2 | h2
            · left; omega
            · right; omega
          · left; exact h4
        · rcases h2 with h2 | h2
          · left; omega
          · right; omega
      have HB2 := Lib.hid (HB.out.trans hb); have HT2 := Lib.hid hT; have HP2 := Lib.hid hP; have HL2 := Lib.hid hle
      clear hb hT hP hle hl hl9
      go_wp2_with fail
      go_roundw
      case rel => exact ⟨i + 1, X2, Y2, _, _, _, _, by go_num, by omega, HB2, HT2, HP2, HL2⟩
      case measure => simp [intOf]; omega
    · obtain rfl : i = 300 := by omega
      have hz : leftM A.length B.length a0 a1 b0 b1 = 0 := by have := HL.out; omega
      obtain ⟨rfl, rfl, rfl, rfl⟩ := left_zero A.length B.length a0 a1 b0 b1 HP.out.lp0 HP.out.lq0 HP.out.lp1 HP.out.lq1 hz
      clear hz
      go_wp2_with fail
      exact HK.out _ _ _ _ _ _ _ _ _ _ _ _ _ _ _ _ _ _ _ _ _ _ _ _ _ _ _ _ _ _ _ _ _ _ _ _ _ _ _ _ _ _ _ _ _ _ _ _ _ _ _ _ _ _ _ _ _ _ _ _ _ _ _ _ _ _ _ _ _ _ _ _ _ _ _ _ _ _ _ _ _ _ _ _ _ _ _ _ _ _ _ _ _ _ _ _ _ _ _ _ _ _ _ _ _ _ _ _ _ _ _ _ _ _ _ _ _ _ _ _ _ _ _ _ _ _ X' Y' HT.out HP.out HB.out
end Go.Proofs.Ytlpajohhnngbmaa
namespace Go.Proofs.Ytlpajohhnngbmaa
open Go.RowKit
set_option linter.unusedVariables false
set_option linter.unusedSimpArgs false

set_option maxRecDepth 100000 in
set_option maxHeartbeats 16000000 in
theorem meets_r40 {x0 x1 x2 x3 x4 x5 x6 x7 x8 x9 x10 x11 x12 x13 x19 x20 x21 x22 x23 x24 x25 x26 x27 x28 x29 x30 x31 x32 x33 x34 x39 x40 x41 x42 x43 x44 x45 x46 x47 x48 x49 x50 x51 x52 x53 x54 x55 x56 x57 x58 x59 x60 x61 x62 x63 x64 x65 x66 x67 x68 x69 x70 x71 x72 x73 x74 x75 x76 x77 x78 x79 x80 x81 x82 x83 x84 x85 x86 x87 x88 x89 x90 x91 x92 x93 x94 x95 x96 x97 x98 x99 x100 x101 x102 x103 x104 x105 x106 x107 x108 x109 x110 x111 x112 x113 x114 x115 x116 x117 x118 x119 x120 x121 x122 x123 x124 x125 x126 x127 x128 x129 x130 x131 x132 x133 x134 x135 x136 x137 x138 x139 x140 x141 x142 x143 x144 x145 x146 x147 x148 x149 x150 x151 x152 x153 x154 x155 x156 x157 x158 x159 x160 x161 x162 x163 x164 x165 x166 x167 x168 x169 x170 x171 x172 x173 x174 x175 x176 x177 x178 x179 x180 x181 x182 x183 x184 x185 x186 x187 x188 x189 x190 x191 x192 x193 x194 x195 x196 x197 x198 x199 x200 x201 x202 x203 x204 x205 x206 x207 x208 x209 x210 x211 x212 x213 x214 x215 x216 x217 x218 x219 x220 x221 x222 x223 x224 x225 x226 x227 x228 x229 x230 x231 x232 x233 x234 x235 x236 x237 x238 x239 x240 x241 x242 x243 x244 x245 x246 : Value} {x14 : Value} {bse px py gw gc g1 g2 gs gt p0 p1 q0 q1 : Nat} {X Y : Sd} {i0 i1 i2 i3 z0 z1 z2 z3 z4 z5 z6 z7 j0 j1 j2 j3 v0 v1 v2 v3 v4 v5 v6 v7 : Int} (w : World) {Q : Exit → Act → World → Prop}
    (hz : ∀ x ∈ [z0, z1, z2, z3, z4, z5, z6, z7], (Lit.int .u8 x).wf = true) (hv : ∀ x ∈ [v0, v1, v2, v3, v4, v5, v6, v7], (Lit.int .u8 x).wf = true) (HT : Hid (Two bse w px py gw gc X Y p0 p1 q0 q1)) (hk : X.done = true ∧ Y.done = true) (HG1 : Hid (w.heap[g1]? = some (.cells ([.int .u64 i0, .int .u64 i1, .int .u64 i2, .int .u64 i3, .int .u8 z0, .int .u8 z1, .int .u8 z2, .int .u8 z3, .int .u8 z4, .int .u8 z5, .int .u8 z6, .int .u8 z7] : List Value).toArray 26 (0, 0)))) (HG2 : Hid (w.heap[g2]? = some (.cells ([.int .u64 j0, .int .u64 j1, .int .u64 j2, .int .u64 j3, .int .u8 v0, .int .u8 v1, .int .u8 v2, .int .u8 v3, .int .u8 v4, .int .u8 v5, .int .u8 v6, .int .u8 v7] : List Value).toArray 26 (0, 0)))) (HGS : Hid (w.heap[gs]? = some (.cells ([.int .u64 j0, .int .u64 j1, .int .u64 j2, .int .u64 j3, .int .u8 v0, .int .u8 v1, .int .u8 v2, .int .u8 v3, .int .u8 v4, .int .u8 v5, .int .u8 v6, .int .u8 v7] : List Value).toArray 26 (0, 0)))) (HGT : Hid (w.heap[gt]? = some (.cells ([.int .u64 i0, .int .u64 i1, .int .u64 i2, .int .u64 i3, .int .u8 z0, .int .u8 z1, .int .u8 z2, .int .u8 z3, .int .u8 z4, .int .u8 z5, .int .u8 z6, .int .u8 z7] : List Value).toArray 26 (0, 0)))) (HRI : Hid (∀ W, Makes Try.prog 22 #[.agg ([.int .u64 j0, .int .u64 j1, .int .u64 j2, .int .u64 j3, .int .u8 v0, .int .u8 v1, .int .u8 v2, .int .u8 v3, .int .u8 v4, .int .u8 v5, .int .u8 v6, .int .u8 v7] : List Value).toArray] W (.bool true)))
    (hQp : ∀ c a d v w, Q (.panic c) (a.put d v) w → Q (.panic c) a w)
    (hQ : ∀ (y218 y219 y220 y221 y222 y223 y224 y225 y226 y227 y228 y229 y230 y231 y232 y233 y234 y235 y236 y237 y238 y239 y240 y241 y242 y243 y244 y245 y246 : Value) (w' : World), Below w.heap.size w w' → Q .normal ⟨List.toArray (x0 :: x1 :: x2 :: x3 :: x4 :: x5 :: x6 :: x7 :: x8 :: x9 :: x10 :: x11 :: x12 :: x13 :: .bool true :: .pointer (some ⟨g1, 0, none⟩) :: .pointer (some ⟨g2, 0, none⟩) :: .pointer (some ⟨px, 0, none⟩) :: .pointer (some ⟨py, 0, none⟩) :: x19 :: x20 :: x21 :: x22 :: x23 :: x24 :: x25 :: x26 :: x27 :: x28 :: x29 :: x30 :: x31 :: x32 :: x33 :: x34 :: .pointer (some ⟨gs, 0, none⟩) :: .bool true :: .pointer (some ⟨gt, 0, none⟩) :: .bool true :: x39 :: x40 :: x41 :: x42 :: x43 :: x44 :: x45 :: x46 :: x47 :: x48 :: x49 :: x50 :: x51 :: x52 :: x53 :: x54 :: x55 :: x56 :: x57 :: x58 :: x59 :: x60 :: x61 :: x62 :: x63 :: x64 :: x65 :: x66 :: x67 :: x68 :: x69 :: x70 :: x71 :: x72 :: x73 :: x74 :: x75 :: x76 :: x77 :: x78 :: x79 :: x80 :: x81 :: x82 :: x83 :: x84 :: x85 :: x86 :: x87 :: x88 :: x89 :: x90 :: x91 :: x92 :: x93 :: x94 :: x95 :: x96 :: x97 :: x98 :: x99 :: x100 :: x101 :: x102 :: x103 :: x104 :: x105 :: x106 :: x107 :: x108 :: x109 :: x110 :: x111 :: x112 :: x113 :: x114 :: x115 :: x116 :: x117 :: x118 :: x119 :: x120 :: x121 :: x122 :: x123 :: x124 :: x125 :: x126 :: x127 :: x128 :: x129 :: x130 :: x131 :: x132 :: x133 :: x134 :: x135 :: x136 :: x137 :: x138 :: x139 :: x140 :: x141 :: x142 :: x143 :: x144 :: x145 :: x146 :: x147 :: x148 :: x149 :: x150 :: x151 :: x152 :: x153 :: x154 :: x155 :: x156 :: x157 :: x158 :: x159 :: x160 :: x161 :: x162 :: x163 :: x164 :: x165 :: x166 :: x167 :: x168 :: x169 :: x170 :: x171 :: x172 :: x173 :: x174 :: x175 :: x176 :: x177 :: x178 :: x179 :: x180 :: x181 :: x182 :: x183 :: x184 :: x185 :: x186 :: x187 :: x188 :: x189 :: x190 :: x191 :: x192 :: x193 :: x194 :: x195 :: x196 :: x197 :: x198 :: x199 :: x200 :: x201 :: x202 :: x203 :: x204 :: x205 :: x206 :: x207 :: x208 :: x209 :: x210 :: x211 :: x212 :: x213 :: x214 :: x215 :: x216 :: x217 :: y218 :: y219 :: y220 :: y221 :: y222 :: y223 :: y224 :: y225 :: y226 :: y227 :: y228 :: y229 :: y230 :: y231 :: y232 :: y233 :: y234 :: y235 :: y236 :: y237 :: y238 :: y239 :: y240 :: y241 :: y242 :: y243 :: y244 :: y245 :: y246 :: []), []⟩ w') :
    Code.wp Try.prog (((Try.f5.body.bind (subRegion 40)).getD .skip)) Q ⟨List.toArray (x0 :: x1 :: x2 :: x3 :: x4 :: x5 :: x6 :: x7 :: x8 :: x9 :: x10 :: x11 :: x12 :: x13 :: x14 :: .pointer (some ⟨g1, 0, none⟩) :: .pointer (some ⟨g2, 0, none⟩) :: .pointer (some ⟨px, 0, none⟩) :: .pointer (some ⟨py, 0, none⟩) :: x19 :: x20 :: x21 :: x22 :: x23 :: x24 :: x25 :: x26 :: x27 :: x28 :: x29 :: x30 :: x31 :: x32 :: x33 :: x34 :: .pointer (some ⟨gs, 0, none⟩) :: .bool true :: .pointer (some ⟨gt, 0, none⟩) :: .bool true :: x39 :: x40 :: x41 :: x42 :: x43 :: x44 :: x45 :: x46 :: x47 :: x48 :: x49 :: x50 :: x51 :: x52 :: x53 :: x54 :: x55 :: x56 :: x57 :: x58 :: x59 :: x60 :: x61 :: x62 :: x63 :: x64 :: x65 :: x66 :: x67 :: x68 :: x69 :: x70 :: x71 :: x72 :: x73 :: x74 :: x75 :: x76 :: x77 :: x78 :: x79 :: x80 :: x81 :: x82 :: x83 :: x84 :: x85 :: x86 :: x87 :: x88 :: x89 :: x90 :: x91 :: x92 :: x93 :: x94 :: x95 :: x96 :: x97 :: x98 :: x99 :: x100 :: x101 :: x102 :: x103 :: x104 :: x105 :: x106 :: x107 :: x108 :: x109 :: x110 :: x111 :: x112 :: x113 :: x114 :: x115 :: x116 :: x117 :: x118 :: x119 :: x120 :: x121 :: x122 :: x123 :: x124 :: x125 :: x126 :: x127 :: x128 :: x129 :: x130 :: x131 :: x132 :: x133 :: x134 :: x135 :: x136 :: x137 :: x138 :: x139 :: x140 :: x141 :: x142 :: x143 :: x144 :: x145 :: x146 :: x147 :: x148 :: x149 :: x150 :: x151 :: x152 :: x153 :: x154 :: x155 :: x156 :: x157 :: x158 :: x159 :: x160 :: x161 :: x162 :: x163 :: x164 :: x165 :: x166 :: x167 :: x168 :: x169 :: x170 :: x171 :: x172 :: x173 :: x174 :: x175 :: x176 :: x177 :: x178 :: x179 :: x180 :: x181 :: x182 :: x183 :: x184 :: x185 :: x186 :: x187 :: x188 :: x189 :: x190 :: x191 :: x192 :: x193 :: x194 :: x195 :: x196 :: x197 :: x198 :: x199 :: x200 :: x201 :: x202 :: x203 :: x204 :: x205 :: x206 :: x207 :: x208 :: x209 :: x210 :: x211 :: x212 :: x213 :: x214 :: x215 :: x216 :: x217 :: x218 :: x219 :: x220 :: x221 :: x222 :: x223 :: x224 :: x225 :: x226 :: x227 :: x228 :: x229 :: x230 :: x231 :: x232 :: x233 :: x234 :: x235 :: x236 :: x237 :: x238 :: x239 :: x240 :: x241 :: x242 :: x243 :: x244 :: x245 :: x246 :: []), []⟩ w := by
  have HK := Lib.hid hQ; have HKP := Lib.hid hQp
  clear hQ hQp
  conv => arg 2; whnf
  have hq1 : ∀ w, (Op.equalIn 9999 24 (.agg #[.int .u8 z0, .int .u8 z1, .int .u8 z2, .int .u8 z3, .int .u8 z4, .int .u8 z5, .int .u8 z6, .int .u8 z7]) (.agg #[.int .u8 z0, .int .u8 z1, .int .u8 z2, .int .u8 z3, .int .u8 z4, .int .u8 z5, .int .u8 z6, .int .u8 z7])).run Try.prog w = .ok true w := fun w => eqinH w 9997 24 8 Try.underlying24 [z0, z1, z2, z3, z4, z5, z6, z7] rfl hz
  have hq2 : ∀ w, (Op.equalIn 9999 24 (.agg #[.int .u8 v0, .int .u8 v1, .int .u8 v2, .int .u8 v3, .int .u8 v4, .int .u8 v5, .int .u8 v6, .int .u8 v7]) (.agg #[.int .u8 v0, .int .u8 v1, .int .u8 v2, .int .u8 v3, .int .u8 v4, .int .u8 v5, .int .u8 v6, .int .u8 v7])).run Try.prog w = .ok true w := fun w => eqinH w 9997 24 8 Try.underlying24 [v0, v1, v2, v3, v4, v5, v6, v7] rfl hv
  obtain ⟨k1, k2⟩ := hk
  have HLI : Hid ((([.int .u64 i0, .int .u64 i1, .int .u64 i2, .int .u64 i3, .int .u8 z0, .int .u8 z1, .int .u8 z2, .int .u8 z3, .int .u8 z4, .int .u8 z5, .int .u8 z6, .int .u8 z7]) : List Value).length = 12) := Lib.hid rfl
  have HLJ : Hid ((([.int .u64 j0, .int .u64 j1, .int .u64 j2, .int .u64 j3, .int .u8 v0, .int .u8 v1, .int .u8 v2, .int .u8 v3, .int .u8 v4, .int .u8 v5, .int .u8 v6, .int .u8 v7]) : List Value).length = 12) := Lib.hid rfl
  have HD1 : Hid (∀ W, Two bse W px py gw gc X Y p0 p1 q0 q1 → Makes Try.prog 19 #[.pointer (some ⟨px, 0, none⟩)] W (.bool true)) := Lib.hid (fun W h => by have := h.doneX; rw [k1] at this; exact this)
  have HD2 : Hid (∀ W, Two bse W px py gw gc X Y p0 p1 q0 q1 → Makes Try.prog 19 #[.pointer (some ⟨py, 0, none⟩)] W (.bool true)) := Lib.hid (fun W h => by have := h.swap.doneX; rw [k2] at this; exact this)
  have HKN := Lib.hid known19_any
  have HB := Lib.hid (Below.refl w.heap.size w)
  clear k1 k2 hz hv
  go_wp2_with fail
  refine Calls.mono (HD1.out _ HT.out) ?_
  rintro e w1 ⟨rfl, hb⟩
  replace HB := Lib.hid (bl_next HB.out HB.out.size hb)
  replace HG1 := Lib.hid (bl_row hb (lt_of_block HG1.out) HG1.out)
  replace HG2 := Lib.hid (bl_row hb (lt_of_block HG2.out) HG2.out)
  replace HGS := Lib.hid (bl_row hb (lt_of_block HGS.out) HGS.out)
  replace HGT := Lib.hid (bl_row hb (lt_of_block HGT.out) HGT.out)
  replace HT := Lib.hid (HT.out.below hb)
  clear hb
  go_wp2_with fail
  refine Calls.mono (HD2.out _ HT.out) ?_
  rintro e w2 ⟨rfl, hb⟩
  replace HB := Lib.hid (bl_next HB.out HB.out.size hb)
  replace HG1 := Lib.hid (bl_row hb (lt_of_block HG1.out) HG1.out)
  replace HG2 := Lib.hid (bl_row hb (lt_of_block HG2.out) HG2.out)
  replace HGS := Lib.hid (bl_row hb (lt_of_block HGS.out) HGS.out)
  replace HGT := Lib.hid (bl_row hb (lt_of_block HGT.out) HGT.out)
  replace HT := Lib.hid (HT.out.below hb)
  clear hb
  go_wp2_with (first | (refine wpList_load_g 26 _ rfl (by kernel_rfl) gs 0 rfl ([.int .u64 j0, .int .u64 j1, .int .u64 j2, .int .u64 j3, .int .u8 v0, .int .u8 v1, .int .u8 v2, .int .u8 v3, .int .u8 v4, .int .u8 v5, .int .u8 v6, .int .u8 v7] : List Value) _ (rngL HGS.out) Try.underlying26 rfl (by rw [HLJ.out]; rfl) ?_) | (refine wpList_load_g 26 _ rfl (by kernel_rfl) g2 0 rfl ([.int .u64 j0, .int .u64 j1, .int .u64 j2, .int .u64 j3, .int .u8 v0, .int .u8 v1, .int .u8 v2, .int .u8 v3, .int .u8 v4, .int .u8 v5, .int .u8 v6, .int .u8 v7] : List Value) _ (rngL HG2.out) Try.underlying26 rfl (by rw [HLJ.out]; rfl) ?_) | (refine wpList_load_g 26 _ rfl (by kernel_rfl) gt 0 rfl ([.int .u64 i0, .int .u64 i1, .int .u64 i2, .int .u64 i3, .int .u8 z0, .int .u8 z1, .int .u8 z2, .int .u8 z3, .int .u8 z4, .int .u8 z5, .int .u8 z6, .int .u8 z7] : List Value) _ (rngL HGT.out) Try.underlying26 rfl (by rw [HLI.out]; rfl) ?_) | (refine wpList_load_g 26 _ rfl (by kernel_rfl) g1 0 rfl ([.int .u64 i0, .int .u64 i1, .int .u64 i2, .int .u64 i3, .int .u8 z0, .int .u8 z1, .int .u8 z2, .int .u8 z3, .int .u8 z4, .int .u8 z5, .int .u8 z6, .int .u8 z7] : List Value) _ (rngL HG1.out) Try.underlying26 rfl (by rw [HLI.out]; rfl) ?_) | fail)
  refine Calls.mono (HRI.out _) ?_
  rintro e w3 ⟨rfl, hb⟩
  replace HB := Lib.hid (bl_next HB.out HB.out.size hb)
  replace HG1 := Lib.hid (bl_row hb (lt_of_block HG1.out) HG1.out)
  replace HG2 := Lib.hid (bl_row hb (lt_of_block HG2.out) HG2.out)
  replace HGS := Lib.hid (bl_row hb (lt_of_block HGS.out) HGS.out)
  replace HGT := Lib.hid (bl_row hb (lt_of_block HGT.out) HGT.out)
  replace HT := Lib.hid (HT.out.below hb)
  clear hb
  go_wp2_with fail
  refine Calls.mono (HKN.out _) ?_
  rintro e w4 ⟨rfl, hb⟩
  replace HB := Lib.hid (bl_next HB.out HB.out.size hb)
  replace HG1 := Lib.hid (bl_row hb (lt_of_block HG1.out) HG1.out)
  replace HG2 := Lib.hid (bl_row hb (lt_of_block HG2.out) HG2.out)
  replace HGS := Lib.hid (bl_row hb (lt_of_block HGS.out) HGS.out)
  replace HGT := Lib.hid (bl_row hb (lt_of_block HGT.out) HGT.out)
  replace HT := Lib.hid (HT.out.below hb)
  clear hb
  go_wp2_with fail
  exact HK.out _ _ _ _ _ _ _ _ _ _ _ _ _ _ _ _ _ _ _ _ _ _ _ _ _ _ _ _ _ _ HB.out
end Go.Proofs.Ytlpajohhnngbmaa
namespace Go.Proofs.Ytlpajohhnngbmaa
open Go.RowKit
set_option linter.unusedVariables false
set_option linter.unusedSimpArgs false

set_option maxRecDepth 100000 in
set_option maxHeartbeats 8000000 in
theorem meets_b4 {x0 x1 x2 x3 x4 x5 x6 x7 x8 x9 x10 x11 x12 x13 x14 x15 x16 x21 x22 x23 x24 x25 x26 x27 x28 x29 x31 x32 x33 x34 x35 x36 x37 x38 x39 x40 x41 x42 x43 x44 x45 x46 x47 x48 x49 x50 x51 x52 x53 x54 x55 x56 x57 x58 x59 x60 x61 x62 x63 x64 x65 x66 x67 x68 x69 x70 x71 x72 x73 x74 x75 x76 x77 x78 x79 x80 x81 x82 x83 x84 x85 x86 x87 x88 x89 x90 x91 x92 x93 x94 x95 x96 x97 x98 x99 x100 x101 x102 x103 x104 x105 x106 x107 x108 x109 x110 x111 x112 x113 x114 x115 x116 x117 x118 x119 x120 x121 x122 x123 x124 x125 x126 x127 x128 x129 x130 x131 x132 x133 x134 x135 x136 x137 x138 x139 x140 x141 x142 x143 x144 x145 x146 x147 x148 x149 x150 x151 x152 x153 x154 x155 x156 x157 x158 x159 x160 x161 x162 x163 x164 x165 x166 x167 x168 x169 x170 x171 x172 x173 x174 x175 x176 x177 x178 x179 x180 x181 x182 x183 x184 x185 x186 x187 x188 x189 x190 x191 x192 x193 x194 x195 x196 x197 x198 x199 x200 x201 x202 x203 x204 x205 x206 x207 x208 x209 x210 x211 x212 x213 x214 x215 x216 x217 x218 x219 x220 x221 x222 x223 x224 x225 x226 x227 x228 x229 x230 x231 x232 x233 x234 x235 x236 x237 x238 x239 x240 x241 x242 x243 x244 x245 x246 : Value} {bse px py gw gc p0 p1 q0 q1 : Nat} {X Y : Sd} {S : Int} (w : World) {Q : Exit → Act → World → Prop}
    (HT : Hid (Two bse w px py gw gc X Y p0 p1 q0 q1)) (hk : X.knows = true ∧ X.done = true ∧ X.sh = S ∧ Y.knows = true ∧ Y.done = true ∧ Y.sh = S)
    (hQp : ∀ c a d v w, Q (.panic c) (a.put d v) w → Q (.panic c) a w)
    (hQ : ∀ (y14 y30 y31 y32 y33 y34 y181 y182 y183 y184 y185 y186 y187 y188 y189 y190 y191 y192 y193 y194 y195 y196 y197 y198 y199 y200 y201 y202 y203 y204 y205 y206 y207 : Value) (w' : World), Below w.heap.size w w' → Q .normal ⟨List.toArray (x0 :: x1 :: x2 :: x3 :: x4 :: x5 :: x6 :: x7 :: x8 :: x9 :: x10 :: x11 :: x12 :: x13 :: y14 :: x15 :: x16 :: .pointer (some ⟨px, 0, none⟩) :: .pointer (some ⟨py, 0, none⟩) :: .pointer (some ⟨gw, 0, none⟩) :: .pointer (some ⟨gc, 0, none⟩) :: x21 :: x22 :: x23 :: x24 :: x25 :: x26 :: x27 :: x28 :: x29 :: y30 :: y31 :: y32 :: y33 :: y34 :: x35 :: x36 :: x37 :: x38 :: x39 :: x40 :: x41 :: x42 :: x43 :: x44 :: x45 :: x46 :: x47 :: x48 :: x49 :: x50 :: x51 :: x52 :: x53 :: x54 :: x55 :: x56 :: x57 :: x58 :: x59 :: x60 :: x61 :: x62 :: x63 :: x64 :: x65 :: x66 :: x67 :: x68 :: x69 :: x70 :: x71 :: x72 :: x73 :: x74 :: x75 :: x76 :: x77 :: x78 :: x79 :: x80 :: x81 :: x82 :: x83 :: x84 :: x85 :: x86 :: x87 :: x88 :: x89 :: x90 :: x91 :: x92 :: x93 :: x94 :: x95 :: x96 :: x97 :: x98 :: x99 :: x100 :: x101 :: x102 :: x103 :: x104 :: x105 :: x106 :: x107 :: x108 :: x109 :: x110 :: x111 :: x112 :: x113 :: x114 :: x115 :: x116 :: x117 :: x118 :: x119 :: x120 :: x121 :: x122 :: x123 :: x124 :: x125 :: x126 :: x127 :: x128 :: x129 :: x130 :: x131 :: x132 :: x133 :: x134 :: x135 :: x136 :: x137 :: x138 :: x139 :: x140 :: x141 :: x142 :: x143 :: x144 :: x145 :: x146 :: x147 :: x148 :: x149 :: x150 :: x151 :: x152 :: x153 :: x154 :: x155 :: x156 :: x157 :: x158 :: x159 :: x160 :: x161 :: x162 :: x163 :: x164 :: x165 :: x166 :: x167 :: x168 :: x169 :: x170 :: x171 :: x172 :: x173 :: x174 :: x175 :: x176 :: x177 :: x178 :: x179 :: x180 :: y181 :: y182 :: y183 :: y184 :: y185 :: y186 :: y187 :: y188 :: y189 :: y190 :: y191 :: y192 :: y193 :: y194 :: y195 :: y196 :: y197 :: y198 :: y199 :: y200 :: y201 :: y202 :: y203 :: y204 :: y205 :: y206 :: y207 :: x208 :: x209 :: x210 :: x211 :: x212 :: x213 :: x214 :: x215 :: x216 :: x217 :: x218 :: x219 :: x220 :: x221 :: x222 :: x223 :: x224 :: x225 :: x226 :: x227 :: x228 :: x229 :: x230 :: x231 :: x232 :: x233 :: x234 :: x235 :: x236 :: x237 :: x238 :: x239 :: x240 :: x241 :: x242 :: x243 :: x244 :: x245 :: x246 :: []), []⟩ w') :
    Code.wp Try.prog (((Try.f5.body.bind (subBlock 4)).getD .skip)) Q ⟨List.toArray (x0 :: x1 :: x2 :: x3 :: x4 :: x5 :: x6 :: x7 :: x8 :: x9 :: x10 :: x11 :: x12 :: x13 :: x14 :: x15 :: x16 :: .pointer (some ⟨px, 0, none⟩) :: .pointer (some ⟨py, 0, none⟩) :: .pointer (some ⟨gw, 0, none⟩) :: .pointer (some ⟨gc, 0, none⟩) :: x21 :: x22 :: x23 :: x24 :: x25 :: x26 :: x27 :: x28 :: x29 :: .int .i64 1 :: x31 :: x32 :: x33 :: x34 :: x35 :: x36 :: x37 :: x38 :: x39 :: x40 :: x41 :: x42 :: x43 :: x44 :: x45 :: x46 :: x47 :: x48 :: x49 :: x50 :: x51 :: x52 :: x53 :: x54 :: x55 :: x56 :: x57 :: x58 :: x59 :: x60 :: x61 :: x62 :: x63 :: x64 :: x65 :: x66 :: x67 :: x68 :: x69 :: x70 :: x71 :: x72 :: x73 :: x74 :: x75 :: x76 :: x77 :: x78 :: x79 :: x80 :: x81 :: x82 :: x83 :: x84 :: x85 :: x86 :: x87 :: x88 :: x89 :: x90 :: x91 :: x92 :: x93 :: x94 :: x95 :: x96 :: x97 :: x98 :: x99 :: x100 :: x101 :: x102 :: x103 :: x104 :: x105 :: x106 :: x107 :: x108 :: x109 :: x110 :: x111 :: x112 :: x113 :: x114 :: x115 :: x116 :: x117 :: x118 :: x119 :: x120 :: x121 :: x122 :: x123 :: x124 :: x125 :: x126 :: x127 :: x128 :: x129 :: x130 :: x131 :: x132 :: x133 :: x134 :: x135 :: x136 :: x137 :: x138 :: x139 :: x140 :: x141 :: x142 :: x143 :: x144 :: x145 :: x146 :: x147 :: x148 :: x149 :: x150 :: x151 :: x152 :: x153 :: x154 :: x155 :: x156 :: x157 :: x158 :: x159 :: x160 :: x161 :: x162 :: x163 :: x164 :: x165 :: x166 :: x167 :: x168 :: x169 :: x170 :: x171 :: x172 :: x173 :: x174 :: x175 :: x176 :: x177 :: x178 :: x179 :: x180 :: x181 :: x182 :: x183 :: x184 :: x185 :: x186 :: x187 :: x188 :: x189 :: x190 :: x191 :: x192 :: x193 :: x194 :: x195 :: x196 :: x197 :: x198 :: x199 :: x200 :: x201 :: x202 :: x203 :: x204 :: x205 :: x206 :: x207 :: x208 :: x209 :: x210 :: x211 :: x212 :: x213 :: x214 :: x215 :: x216 :: x217 :: x218 :: x219 :: x220 :: x221 :: x222 :: x223 :: x224 :: x225 :: x226 :: x227 :: x228 :: x229 :: x230 :: x231 :: x232 :: x233 :: x234 :: x235 :: x236 :: x237 :: x238 :: x239 :: x240 :: x241 :: x242 :: x243 :: x244 :: x245 :: x246 :: []), []⟩ w := by
  have HK := Lib.hid hQ; have HKP := Lib.hid hQp
  clear hQ hQp
  conv => arg 2; whnf
  obtain ⟨k1, k2, k3, k4, k5, k6⟩ := hk
  have HS1 : Hid (∀ W, Two bse W px py gw gc X Y p0 p1 q0 q1 → Makes Try.prog 13 #[.pointer (some ⟨px, 0, none⟩), .int .i64 1] W (.tuple #[.int .u64 S, .bool true])) := Lib.hid (fun W h => by have := h.secX; unfold secM at this; rw [k1, k3] at this; exact this)
  have HS2 : Hid (∀ W, Two bse W px py gw gc X Y p0 p1 q0 q1 → Makes Try.prog 13 #[.pointer (some ⟨py, 0, none⟩), .int .i64 1] W (.tuple #[.int .u64 S, .bool true])) := Lib.hid (fun W h => by have := h.swap.secX; unfold secM at this; rw [k4, k6] at this; exact this)
  have HS3 : Hid (∀ W, Two bse W px py gw gc X Y p0 p1 q0 q1 → Makes Try.prog 13 #[.pointer (some ⟨px, 0, none⟩), .int .i64 2] W (.tuple #[.int .u64 (keyedM S [100, 97, 116, 97]), .bool true])) := Lib.hid (fun W h => by have := h.sec2X k1 k2; rw [k3] at this; exact this)
  have HS4 : Hid (∀ W, Two bse W px py gw gc X Y p0 p1 q0 q1 → Makes Try.prog 13 #[.pointer (some ⟨py, 0, none⟩), .int .i64 2] W (.tuple #[.int .u64 (keyedM S [100, 97, 116, 97]), .bool true])) := Lib.hid (fun W h => by have := h.swap.sec2X k4 k5; rw [k6] at this; exact this)
  generalize keyedM S [100, 97, 116, 97] = S2 at HS3 HS4
  clear k1 k2 k3 k4 k5 k6
  have HB := Lib.hid (Below.refl w.heap.size w)
  go_wp2_with fail
  go_loopw [30] (fun s wr => ∃ j : Nat, s = .int .i64 ((j : Int) + 1) ∧ j ≤ 2 ∧ Hid (Below w.heap.size w wr) ∧ Hid (Two bse wr px py gw gc X Y p0 p1 q0 q1)) (fun s _ => 3 - (intOf s).toNat)
  case atStart => exact ⟨0, rfl, by omega, HB, HT⟩
  case round =>
    clear HB HT
    obtain ⟨j, rfl, hj, HB, HT⟩ := hrel
    rcases (by omega : j = 0 ∨ j = 1 ∨ j = 2) with rfl | rfl | rfl
    · skip
      go_wp2_with fail
      refine Calls.mono (HS1.out _ HT.out) ?_
      rintro e w1 ⟨rfl, hb⟩
      replace HB := Lib.hid (bl_next HB.out HB.out.size hb)
      replace HT := Lib.hid (HT.out.below hb)
      clear hb
      go_wp2_with fail
      refine Calls.mono (HS2.out _ HT.out) ?_
      rintro e w2 ⟨rfl, hb⟩
      replace HB := Lib.hid (bl_next HB.out HB.out.size hb)
      replace HT := Lib.hid (HT.out.below hb)
      clear hb
      go_wp2_with fail
      go_roundw
      case rel => exact ⟨1, rfl, by omega, HB, HT⟩
      case measure => simp [intOf]
    · skip
      go_wp2_with fail
      refine Calls.mono (HS3.out _ HT.out) ?_
      rintro e w1 ⟨rfl, hb⟩
      replace HB := Lib.hid (bl_next HB.out HB.out.size hb)
      replace HT := Lib.hid (HT.out.below hb)
      clear hb
      go_wp2_with fail
      refine Calls.mono (HS4.out _ HT.out) ?_
      rintro e w2 ⟨rfl, hb⟩
      replace HB := Lib.hid (bl_next HB.out HB.out.size hb)
      replace HT := Lib.hid (HT.out.below hb)
      clear hb
      go_wp2_with fail
      go_roundw
      case rel => exact ⟨2, rfl, by omega, HB, HT⟩
      case measure => simp [intOf]
    · go_wp2_with fail
      exact HK.out _ _ _ _ _ _ _ _ _ _ _ _ _ _ _ _ _ _ _ _ _ _ _ _ _ _ _ _ _ _ _ _ _ _ HB.out
end Go.Proofs.Ytlpajohhnngbmaa
