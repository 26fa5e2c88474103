/- demux: the walk of play: its parts. -/
import Derived.Test.YtpngjokjjpdboaaDmx16
namespace Go.Proofs.Ytpngjokjjpdboaa
open Go.RowKit
set_option linter.unusedVariables false
set_option linter.unusedSimpArgs false

/-- low memory, and the blocks of D, are as they were. -/
structure Kp (w wc : World) (D : List Nat) (y : World) : Prop where
  low : Below w.heap.size w y
  keep : ∀ i ∈ D, y.heap[i]? = wc.heap[i]?
theorem Kp.base {w wc : World} (D : List Nat) (h : Below w.heap.size w wc) : Kp w wc D wc := ⟨h, fun _ _ => rfl⟩
theorem Kp.drew {w wc y : World} {D : List Nat} (h : Kp w wc D y) : Kp w wc D y.drew := ⟨bl_drewN h.low 1, h.keep⟩
theorem Kp.below {w wc y y' : World} {D : List Nat} (h : Kp w wc D y) (hb : Below y.heap.size y y') (hD : ∀ x ∈ D, x < y.heap.size) : Kp w wc D y' :=
  ⟨bl_next h.low h.low.size hb, fun i hi => (hb.block i (hD i hi)).trans (h.keep i hi)⟩
theorem Kp.alloc {w wc y : World} {D : List Nat} (h : Kp w wc D y) (hD : ∀ x ∈ D, x < y.heap.size) (o : Obj) : Kp w wc D (y.alloc o) := h.below ((Below.refl _ _).alloc (Nat.le_refl _) o) hD
theorem Kp.grown {w wc y y' : World} {D : List Nat} {r : Option Nat} (h : Kp w wc D y) (hg : y.grownBy y' r) (hD : ∀ x ∈ D, x < y.heap.size) (h1 : ∀ k, r = some k → w.heap.size ≤ k) (h2 : ∀ x ∈ D, some x ≠ r) : Kp w wc D y' :=
  ⟨h.low.grown hg h.low.size h1, fun i hi => (hg.block i (hD i hi) (h2 i hi)).trans (h.keep i hi)⟩

set_option maxRecDepth 100000 in
set_option maxHeartbeats 4000000 in
theorem play_more {x0 x2 x3 x4 x5 x10 x11 x12 x13 x14 x15 x16 x17 x18 x19 x20 x21 x22 x23 x24 x25 x26 x27 x28 x29 x30 x31 x32 x33 x34 x35 x36 x37 x38 x39 x40 x41 x42 x43 x44 x45 x46 x47 x48 x49 x50 x51 x52 x53 x54 x55 x56 x57 x58 x59 x60 x61 x62 x63 x64 x65 x66 x67 x68 x69 x70 x71 x72 x73 x74 x75 x76 x77 x78 x79 x80 x81 x82 x83 x84 x85 x86 x87 x88 x89 x90 x91 x92 x93 x94 x95 x96 x97 x98 x99 x100 x101 x102 x103 x104 x105 x106 x107 x108 x109 x110 x111 x112 x113 x114 x115 x116 x117 x118 x119 x120 x121 x122 x123 x124 x125 x126 x127 x128 x129 x130 x131 x132 x133 x134 x135 x136 x137 x138 x139 x140 x141 x142 x143 x144 x145 x146 x147 x148 x149 x150 x151 x152 x153 x154 x155 x156 x157 x158 x159 x160 x161 x162 x163 x164 x165 x166 x167 x168 x169 x170 x171 x172 x173 x174 x175 x176 x177 x178 x179 x180 x181 x182 x183 x184 x185 x186 x187 x188 x189 x190 x191 x192 x193 x194 x195 x196 x197 x198 x199 x200 x201 x202 x203 x204 x205 x206 x207 x208 x209 x210 x211 x212 x213 x214 x215 x216 x217 x218 x219 x220 x221 x222 x223 x224 x225 x226 x227 x228 x229 x230 x231 x232 x233 x234 x235 x236 x237 x238 x239 x240 x241 x242 x243 x244 x245 x246 x247 x248 x249 x250 x251 x252 x253 x254 x255 x256 x257 x258 x259 x260 x261 x262 x263 x264 x265 x266 x267 x268 x269 x270 x271 x272 x273 x274 : Value} {w : World} {D : List Nat} {gc i L cap lb lo : Nat} {n0 nn : Int} {ps : List (List Int × Int)} {ac an : Option Addr} {kc kn : Nat} {c : List Int} {C : List Value} (wc : World) {Q : Exit → Act → World → Prop}
    (hiL : i < L) (hi : i < 100) (hL : L ≤ 9223372036854775807) (hnb : -9223372036854775808 ≤ n0 ∧ n0 ≤ 9223372036854775807) (hnn : -3 ≤ nn ∧ nn ≤ 3) (HNN : Hid (Int.tmod n0 4 = nn)) (hlen : ps.length ≤ 4000)
    (HCL : Hid (c.length = 8)) (HCW : Hid (∀ x ∈ c, (Lit.int .u8 x).wf = true)) (HCLV : Hid (C.length = 8)) (HC : Hid (c.map (Value.int .u8) = C)) (HGD : Hid (gc ∈ D))
    (HCN : Hid (∀ y, Below w.heap.size w y → y.cell? ⟨lb, lo + i * 11 + 2, none⟩ = some (.int .i64 n0))) (HB : Hid (Below w.heap.size w wc)) (HR : Hid (PRows wc w.heap.size D ac kc an kn ps)) (HDL : Hid (∀ x ∈ D, x < wc.heap.size))
    (HGC : Hid (wc.heap[gc]? = some (.cells C.toArray 30 (0, 0))))
    (hQp : ∀ c a d v w, Q (.panic c) (a.put d v) w → Q (.panic c) a w)
    (hQ : ∀ (y101 y102 y103 y104 y105 y106 y107 y108 y109 y110 y111 y112 y113 : Value) (ac' an' : Option Addr) (kc' kn' : Nat) (w' : World), Kp w wc D w' → PRows w' w.heap.size D ac' kc' an' kn' (ps ++ [(c, nn)]) → Q .normal ⟨List.toArray (x0 :: .slice (some ⟨lb, lo, none⟩) L cap :: x2 :: x3 :: x4 :: x5 :: .slice ac' (ps ++ [(c, nn)]).length kc' :: .slice an' (ps ++ [(c, nn)]).length kn' :: .int .i64 i :: .pointer (some ⟨gc, 0, none⟩) :: x10 :: x11 :: x12 :: x13 :: x14 :: x15 :: x16 :: x17 :: x18 :: x19 :: x20 :: x21 :: x22 :: x23 :: x24 :: x25 :: x26 :: x27 :: x28 :: x29 :: x30 :: x31 :: x32 :: x33 :: x34 :: x35 :: x36 :: x37 :: x38 :: x39 :: x40 :: x41 :: x42 :: x43 :: x44 :: x45 :: x46 :: x47 :: x48 :: x49 :: x50 :: x51 :: x52 :: x53 :: x54 :: x55 :: x56 :: x57 :: x58 :: x59 :: x60 :: x61 :: x62 :: x63 :: x64 :: x65 :: x66 :: x67 :: x68 :: x69 :: x70 :: x71 :: x72 :: x73 :: x74 :: x75 :: x76 :: x77 :: x78 :: x79 :: x80 :: x81 :: x82 :: x83 :: x84 :: x85 :: x86 :: x87 :: x88 :: x89 :: x90 :: x91 :: x92 :: x93 :: x94 :: x95 :: x96 :: x97 :: x98 :: x99 :: x100 :: y101 :: y102 :: y103 :: y104 :: y105 :: y106 :: y107 :: y108 :: y109 :: y110 :: y111 :: y112 :: y113 :: x114 :: x115 :: x116 :: x117 :: x118 :: x119 :: x120 :: x121 :: x122 :: x123 :: x124 :: x125 :: x126 :: x127 :: x128 :: x129 :: x130 :: x131 :: x132 :: x133 :: x134 :: x135 :: x136 :: x137 :: x138 :: x139 :: x140 :: x141 :: x142 :: x143 :: x144 :: x145 :: x146 :: x147 :: x148 :: x149 :: x150 :: x151 :: x152 :: x153 :: x154 :: x155 :: x156 :: x157 :: x158 :: x159 :: x160 :: x161 :: x162 :: x163 :: x164 :: x165 :: x166 :: x167 :: x168 :: x169 :: x170 :: x171 :: x172 :: x173 :: x174 :: x175 :: x176 :: x177 :: x178 :: x179 :: x180 :: x181 :: x182 :: x183 :: x184 :: x185 :: x186 :: x187 :: x188 :: x189 :: x190 :: x191 :: x192 :: x193 :: x194 :: x195 :: x196 :: x197 :: x198 :: x199 :: x200 :: x201 :: x202 :: x203 :: x204 :: x205 :: x206 :: x207 :: x208 :: x209 :: x210 :: x211 :: x212 :: x213 :: x214 :: x215 :: x216 :: x217 :: x218 :: x219 :: x220 :: x221 :: x222 :: x223 :: x224 :: x225 :: x226 :: x227 :: x228 :: x229 :: x230 :: x231 :: x232 :: x233 :: x234 :: x235 :: x236 :: x237 :: x238 :: x239 :: x240 :: x241 :: x242 :: x243 :: x244 :: x245 :: x246 :: x247 :: x248 :: x249 :: x250 :: x251 :: x252 :: x253 :: x254 :: x255 :: x256 :: x257 :: x258 :: x259 :: x260 :: x261 :: x262 :: x263 :: x264 :: x265 :: x266 :: x267 :: x268 :: x269 :: x270 :: x271 :: x272 :: x273 :: x274 :: []), []⟩ w') :
    Code.wp Try.prog (((Try.f19.body.bind (subRegion 23)).getD .skip)) Q ⟨List.toArray (x0 :: .slice (some ⟨lb, lo, none⟩) L cap :: x2 :: x3 :: x4 :: x5 :: .slice ac ps.length kc :: .slice an ps.length kn :: .int .i64 i :: .pointer (some ⟨gc, 0, none⟩) :: x10 :: x11 :: x12 :: x13 :: x14 :: x15 :: x16 :: x17 :: x18 :: x19 :: x20 :: x21 :: x22 :: x23 :: x24 :: x25 :: x26 :: x27 :: x28 :: x29 :: x30 :: x31 :: x32 :: x33 :: x34 :: x35 :: x36 :: x37 :: x38 :: x39 :: x40 :: x41 :: x42 :: x43 :: x44 :: x45 :: x46 :: x47 :: x48 :: x49 :: x50 :: x51 :: x52 :: x53 :: x54 :: x55 :: x56 :: x57 :: x58 :: x59 :: x60 :: x61 :: x62 :: x63 :: x64 :: x65 :: x66 :: x67 :: x68 :: x69 :: x70 :: x71 :: x72 :: x73 :: x74 :: x75 :: x76 :: x77 :: x78 :: x79 :: x80 :: x81 :: x82 :: x83 :: x84 :: x85 :: x86 :: x87 :: x88 :: x89 :: x90 :: x91 :: x92 :: x93 :: x94 :: x95 :: x96 :: x97 :: x98 :: x99 :: x100 :: x101 :: x102 :: x103 :: x104 :: x105 :: x106 :: x107 :: x108 :: x109 :: x110 :: x111 :: x112 :: x113 :: x114 :: x115 :: x116 :: x117 :: x118 :: x119 :: x120 :: x121 :: x122 :: x123 :: x124 :: x125 :: x126 :: x127 :: x128 :: x129 :: x130 :: x131 :: x132 :: x133 :: x134 :: x135 :: x136 :: x137 :: x138 :: x139 :: x140 :: x141 :: x142 :: x143 :: x144 :: x145 :: x146 :: x147 :: x148 :: x149 :: x150 :: x151 :: x152 :: x153 :: x154 :: x155 :: x156 :: x157 :: x158 :: x159 :: x160 :: x161 :: x162 :: x163 :: x164 :: x165 :: x166 :: x167 :: x168 :: x169 :: x170 :: x171 :: x172 :: x173 :: x174 :: x175 :: x176 :: x177 :: x178 :: x179 :: x180 :: x181 :: x182 :: x183 :: x184 :: x185 :: x186 :: x187 :: x188 :: x189 :: x190 :: x191 :: x192 :: x193 :: x194 :: x195 :: x196 :: x197 :: x198 :: x199 :: x200 :: x201 :: x202 :: x203 :: x204 :: x205 :: x206 :: x207 :: x208 :: x209 :: x210 :: x211 :: x212 :: x213 :: x214 :: x215 :: x216 :: x217 :: x218 :: x219 :: x220 :: x221 :: x222 :: x223 :: x224 :: x225 :: x226 :: x227 :: x228 :: x229 :: x230 :: x231 :: x232 :: x233 :: x234 :: x235 :: x236 :: x237 :: x238 :: x239 :: x240 :: x241 :: x242 :: x243 :: x244 :: x245 :: x246 :: x247 :: x248 :: x249 :: x250 :: x251 :: x252 :: x253 :: x254 :: x255 :: x256 :: x257 :: x258 :: x259 :: x260 :: x261 :: x262 :: x263 :: x264 :: x265 :: x266 :: x267 :: x268 :: x269 :: x270 :: x271 :: x272 :: x273 :: x274 :: []), []⟩ wc := by
  have HK := Lib.hid hQ; have HKP := Lib.hid hQp
  clear hQ hQp
  conv => arg 2; whnf
  have HXE : Hid (cC [(c, nn)] = C) := Lib.hid ((cC_one _ _).trans HC.out)
  have HPK : Hid (PsOk [(c, nn)]) := Lib.hid (by intro x hx; rw [List.mem_singleton] at hx; subst hx; exact ⟨HCL.out, HCW.out, by simp; omega⟩)
  have HLF2 : Hid (ps.length ≤ 4000) := Lib.hid hlen
  have hcap := HR.out.cap
  have f1 : ∀ t : In (fun y => Kp w wc D y), t.w.cell? ⟨lb, lo + i * 11 + 2, none⟩ = some (.int .i64 n0) := fun t => HCN.out _ t.h.low
  have HRC : Hid (∀ y, Kp w wc D y → y.rangeAt gc 0 C) := Lib.hid fun y hy => rngL ((hy.keep gc HGD.out).trans HGC.out)
  have HP1 := Lib.hid (HR.out.pr2 HDL.out)
  have HS1 := Lib.hid (Kp.base D HB.out)
  refine wp_plan (.t 0 (.t 1 (.t 4 (.t 5 (.t 6 (.t 7 (.t 8 (.t 9 (.t 10 (.b 2 (.b 3 (.u 11 (.u 12 (.t 13 (.t 14 .done)))) 11 (.u 3 (.u 12 (.t 13 (.t 14 .done))))) 11 (.u 2 (.u 3 (.u 12 (.t 13 (.t 14 .done))))))))))))))) (fun y => Kp w wc D y) (by kernel_rfl) (by kernel_rfl) (by kernel_rfl) (fun c a d v w h => by first | (cases d <;> exact h) | exact HKP.out c a d v w h) HS1.out.drew ?_
  haveI hne : Nonempty (In fun y => Kp w wc D y) := ⟨⟨wc, HS1.out⟩⟩
  repeat (first | (refine plan_t_load (by rfl) (by kernel_rfl) 30 _ rfl gc 0 rfl C _ (fun y hy => HRC.out y hy) Try.underlying30 rfl (by rw [HCLV.out]; rfl) ?_; simp only [Act.put, List.setIfInBounds_toArray, List.set_cons_succ, List.set_cons_zero]) | (refine plan_t (by rfl) ?_; (first | go_big_quiet_skip | (go_big_quiet_want; go_big_quiet_op; go_big_quiet_on)); refine wpQuiet_nil ?_))
  clear f1 HRC
  rw [HNN.out]
  have hS := HS1.out.drew
  have hP := HP1.out.below (Below.refl _ _).drew
  clear HS1 HP1
  generalize wc.drew = W0 at hS hP ⊢
  refine plan_b ?_ ?_
  · refine plan_half (by rfl) (by kernel_rfl) ?_
    intro K hK
    refine wp_build_cid _ rfl C rfl HCLV.out ?_
    refine hK _ _ ⟨hS.alloc (fun x hx => hP.dl x (by simp [hx])) (.cells C.toArray 30), ?_⟩
    have HL5 := Lib.hid (heap_alloc_new W0 (.cells C.toArray 30))
    replace hS := hS.alloc (fun x hx => hP.dl x (by simp [hx])) (.cells C.toArray 30)
    replace hP := hP.alloc (.cells C.toArray 30)
    generalize W0.alloc (.cells C.toArray 30) = w1 at hS hP HL5  ⊢
    obtain ⟨gHL5, hgg⟩ : ∃ g, W0.heap.size = g := ⟨_, rfl⟩
    rw [hgg] at hP HL5 ⊢
    clear hgg
    simp only [Act.put, List.setIfInBounds_toArray, List.set_cons_succ, List.set_cons_zero]
    refine plan_b ?_ ?_
    · refine plan_half (by rfl) (by kernel_rfl) ?_
      intro K hK
      refine wp_app_cid _ _ rfl w.heap.size _ _ _ [(c, nn)] rfl hP.oc ⟨gHL5, 0, none⟩ _ _ rfl HPK.out rfl (fun j u hu => by rw [add_none, Nat.zero_add]; exact row_cell HL5.out j u (by rw [List.getElem?_toArray, ← HXE.out]; exact hu)) (by have := HLF2.out; omega) hS.low.size ?_
      intro v w2 hown hgr hor
      obtain ⟨aw2, kw2, rfl, hP2⟩ := hP.appC HPK.out rfl hown hgr hor
      have hS2 := hS.grown hgr (fun x hx => hP.dl x (by simp [hx])) hP.lowC (fun x hx => hP.offC (by simp [hx]))
      replace HL5 := Lib.hid (grown_row hgr (hP.offC (by simp)) HL5.out)
      refine hK _ _ ⟨hS2, ?_⟩
      clear hP hS hown hgr hor hK K
      have hP := hP2; have hS := hS2
      clear hP2 hS2
      simp only [Act.put, List.setIfInBounds_toArray, List.set_cons_succ, List.set_cons_zero]
      refine plan_us (by rfl) (by kernel_rfl) ?_
      intro K hK
      go_wp2_with fail
      refine ⟨hS.alloc (fun x hx => hP.dl x (by simp [hx])) (.cells #[.int .i64 nn] 3), ?_⟩
      replace HL5 := Lib.hid (bl_row ((Below.refl _ _).alloc (Nat.le_refl _) (.cells #[.int .i64 nn] 3)) (lt_of_block HL5.out) HL5.out)
      have HL12 := Lib.hid (heap_alloc_new w2 (.cells #[.int .i64 nn] 3))
      replace hS := hS.alloc (fun x hx => hP.dl x (by simp [hx])) (.cells #[.int .i64 nn] 3)
      replace hP := hP.alloc (.cells #[.int .i64 nn] 3)
      generalize w2.alloc (.cells #[.int .i64 nn] 3) = w3 at hS hP HL12 HL5 ⊢
      obtain ⟨gHL12, hgg⟩ : ∃ g, w2.heap.size = g := ⟨_, rfl⟩
      rw [hgg] at hP HL12 ⊢
      clear hgg
      refine plan_us (by rfl) (by kernel_rfl) ?_
      intro K hK
      refine wp_app_num _ _ rfl w.heap.size _ _ _ [(c, nn)] rfl hP.on ⟨gHL12, 0, none⟩ _ _ rfl rfl (fun j u hu => by rw [add_none, Nat.zero_add]; exact row_cell HL12.out j u (by rw [List.getElem?_toArray]; exact hu)) (by have := HLF2.out; omega) hS.low.size ?_
      intro v w4 hown hgr hor
      obtain ⟨aw4, kw4, rfl, hP2⟩ := hP.appN rfl hown hgr hor
      have hS2 := hS.grown hgr (fun x hx => hP.dl x (by simp [hx])) hP.lowN (fun x hx => hP.offN (by simp [hx]))
      replace HL5 := Lib.hid (grown_row hgr (hP.offN (by simp)) HL5.out)
      replace HL12 := Lib.hid (grown_row hgr (hP.offN (by simp)) HL12.out)
      refine hK _ _ ⟨hS2, ?_⟩
      clear hP hS hown hgr hor hK K
      have hP := hP2; have hS := hS2
      clear hP2 hS2
      simp only [Act.put, List.setIfInBounds_toArray, List.set_cons_succ, List.set_cons_zero]
      repeat (refine plan_t (by rfl) ?_; (first | go_big_quiet_skip | (go_big_quiet_want; go_big_quiet_op; go_big_quiet_on)); refine wpQuiet_nil ?_)
      clear hne
      have HS := Lib.hid hS
      have HP := Lib.hid (hP.less (D' := D) (fun x hx => List.mem_cons_of_mem _ (List.mem_cons_of_mem _ hx)))
      clear hS hP
      exact HK.out _ _ _ _ _ _ _ _ _ _ _ _ _ _ _ _ _ _ HS.out HP.out.rows
    · refine plan_half (by rfl) (by kernel_rfl) ?_
      intro K hK
      go_wp2_with fail
      refine ⟨hS.alloc (fun x hx => hP.dl x (by simp [hx])) (.cells #[.int .i64 nn] 3), ?_⟩
      replace HL5 := Lib.hid (bl_row ((Below.refl _ _).alloc (Nat.le_refl _) (.cells #[.int .i64 nn] 3)) (lt_of_block HL5.out) HL5.out)
      have HL12 := Lib.hid (heap_alloc_new w1 (.cells #[.int .i64 nn] 3))
      replace hS := hS.alloc (fun x hx => hP.dl x (by simp [hx])) (.cells #[.int .i64 nn] 3)
      replace hP := hP.alloc (.cells #[.int .i64 nn] 3)
      generalize w1.alloc (.cells #[.int .i64 nn] 3) = w5 at hS hP HL12 HL5 ⊢
      obtain ⟨gHL12, hgg⟩ : ∃ g, w1.heap.size = g := ⟨_, rfl⟩
      rw [hgg] at hP HL12 ⊢
      clear hgg
      refine plan_us (by rfl) (by kernel_rfl) ?_
      intro K hK
      refine wp_app_cid _ _ rfl w.heap.size _ _ _ [(c, nn)] rfl hP.oc ⟨gHL5, 0, none⟩ _ _ rfl HPK.out rfl (fun j u hu => by rw [add_none, Nat.zero_add]; exact row_cell HL5.out j u (by rw [List.getElem?_toArray, ← HXE.out]; exact hu)) (by have := HLF2.out; omega) hS.low.size ?_
      intro v w6 hown hgr hor
      obtain ⟨aw6, kw6, rfl, hP2⟩ := hP.appC HPK.out rfl hown hgr hor
      have hS2 := hS.grown hgr (fun x hx => hP.dl x (by simp [hx])) hP.lowC (fun x hx => hP.offC (by simp [hx]))
      replace HL5 := Lib.hid (grown_row hgr (hP.offC (by simp)) HL5.out)
      replace HL12 := Lib.hid (grown_row hgr (hP.offC (by simp)) HL12.out)
      refine hK _ _ ⟨hS2, ?_⟩
      clear hP hS hown hgr hor hK K
      have hP := hP2; have hS := hS2
      clear hP2 hS2
      simp only [Act.put, List.setIfInBounds_toArray, List.set_cons_succ, List.set_cons_zero]
      refine plan_us (by rfl) (by kernel_rfl) ?_
      intro K hK
      refine wp_app_num _ _ rfl w.heap.size _ _ _ [(c, nn)] rfl hP.on ⟨gHL12, 0, none⟩ _ _ rfl rfl (fun j u hu => by rw [add_none, Nat.zero_add]; exact row_cell HL12.out j u (by rw [List.getElem?_toArray]; exact hu)) (by have := HLF2.out; omega) hS.low.size ?_
      intro v w7 hown hgr hor
      obtain ⟨aw7, kw7, rfl, hP2⟩ := hP.appN rfl hown hgr hor
      have hS2 := hS.grown hgr (fun x hx => hP.dl x (by simp [hx])) hP.lowN (fun x hx => hP.offN (by simp [hx]))
      replace HL5 := Lib.hid (grown_row hgr (hP.offN (by simp)) HL5.out)
      replace HL12 := Lib.hid (grown_row hgr (hP.offN (by simp)) HL12.out)
      refine hK _ _ ⟨hS2, ?_⟩
      clear hP hS hown hgr hor hK K
      have hP := hP2; have hS := hS2
      clear hP2 hS2
      simp only [Act.put, List.setIfInBounds_toArray, List.set_cons_succ, List.set_cons_zero]
      repeat (refine plan_t (by rfl) ?_; (first | go_big_quiet_skip | (go_big_quiet_want; go_big_quiet_op; go_big_quiet_on)); refine wpQuiet_nil ?_)
      clear hne
      have HS := Lib.hid hS
      have HP := Lib.hid (hP.less (D' := D) (fun x hx => List.mem_cons_of_mem _ (List.mem_cons_of_mem _ hx)))
      clear hS hP
      exact HK.out _ _ _ _ _ _ _ _ _ _ _ _ _ _ _ _ _ _ HS.out HP.out.rows
  · refine plan_half (by rfl) (by kernel_rfl) ?_
    intro K hK
    go_wp2_with fail
    refine ⟨hS.alloc (fun x hx => hP.dl x (by simp [hx])) (.cells #[.int .i64 nn] 3), ?_⟩
    have HL12 := Lib.hid (heap_alloc_new W0 (.cells #[.int .i64 nn] 3))
    replace hS := hS.alloc (fun x hx => hP.dl x (by simp [hx])) (.cells #[.int .i64 nn] 3)
    replace hP := hP.alloc (.cells #[.int .i64 nn] 3)
    generalize W0.alloc (.cells #[.int .i64 nn] 3) = w8 at hS hP HL12  ⊢
    obtain ⟨gHL12, hgg⟩ : ∃ g, W0.heap.size = g := ⟨_, rfl⟩
    rw [hgg] at hP HL12 ⊢
    clear hgg
    refine plan_us (by rfl) (by kernel_rfl) ?_
    intro K hK
    refine wp_build_cid _ rfl C rfl HCLV.out ?_
    refine hK _ _ ⟨hS.alloc (fun x hx => hP.dl x (by simp [hx])) (.cells C.toArray 30), ?_⟩
    replace HL12 := Lib.hid (bl_row ((Below.refl _ _).alloc (Nat.le_refl _) (.cells C.toArray 30)) (lt_of_block HL12.out) HL12.out)
    have HL5 := Lib.hid (heap_alloc_new w8 (.cells C.toArray 30))
    replace hS := hS.alloc (fun x hx => hP.dl x (by simp [hx])) (.cells C.toArray 30)
    replace hP := hP.alloc (.cells C.toArray 30)
    generalize w8.alloc (.cells C.toArray 30) = w9 at hS hP HL5 HL12 ⊢
    obtain ⟨gHL5, hgg⟩ : ∃ g, w8.heap.size = g := ⟨_, rfl⟩
    rw [hgg] at hP HL5 ⊢
    clear hgg
    simp only [Act.put, List.setIfInBounds_toArray, List.set_cons_succ, List.set_cons_zero]
    refine plan_us (by rfl) (by kernel_rfl) ?_
    intro K hK
    refine wp_app_cid _ _ rfl w.heap.size _ _ _ [(c, nn)] rfl hP.oc ⟨gHL5, 0, none⟩ _ _ rfl HPK.out rfl (fun j u hu => by rw [add_none, Nat.zero_add]; exact row_cell HL5.out j u (by rw [List.getElem?_toArray, ← HXE.out]; exact hu)) (by have := HLF2.out; omega) hS.low.size ?_
    intro v w10 hown hgr hor
    obtain ⟨aw10, kw10, rfl, hP2⟩ := hP.appC HPK.out rfl hown hgr hor
    have hS2 := hS.grown hgr (fun x hx => hP.dl x (by simp [hx])) hP.lowC (fun x hx => hP.offC (by simp [hx]))
    replace HL12 := Lib.hid (grown_row hgr (hP.offC (by simp)) HL12.out)
    replace HL5 := Lib.hid (grown_row hgr (hP.offC (by simp)) HL5.out)
    refine hK _ _ ⟨hS2, ?_⟩
    clear hP hS hown hgr hor hK K
    have hP := hP2; have hS := hS2
    clear hP2 hS2
    simp only [Act.put, List.setIfInBounds_toArray, List.set_cons_succ, List.set_cons_zero]
    refine plan_us (by rfl) (by kernel_rfl) ?_
    intro K hK
    refine wp_app_num _ _ rfl w.heap.size _ _ _ [(c, nn)] rfl hP.on ⟨gHL12, 0, none⟩ _ _ rfl rfl (fun j u hu => by rw [add_none, Nat.zero_add]; exact row_cell HL12.out j u (by rw [List.getElem?_toArray]; exact hu)) (by have := HLF2.out; omega) hS.low.size ?_
    intro v w11 hown hgr hor
    obtain ⟨aw11, kw11, rfl, hP2⟩ := hP.appN rfl hown hgr hor
    have hS2 := hS.grown hgr (fun x hx => hP.dl x (by simp [hx])) hP.lowN (fun x hx => hP.offN (by simp [hx]))
    replace HL12 := Lib.hid (grown_row hgr (hP.offN (by simp)) HL12.out)
    replace HL5 := Lib.hid (grown_row hgr (hP.offN (by simp)) HL5.out)
    refine hK _ _ ⟨hS2, ?_⟩
    clear hP hS hown hgr hor hK K
    have hP := hP2; have hS := hS2
    clear hP2 hS2
    simp only [Act.put, List.setIfInBounds_toArray, List.set_cons_succ, List.set_cons_zero]
    repeat (refine plan_t (by rfl) ?_; (first | go_big_quiet_skip | (go_big_quiet_want; go_big_quiet_op; go_big_quiet_on)); refine wpQuiet_nil ?_)
    clear hne
    have HS := Lib.hid hS
    have HP := Lib.hid (hP.less (D' := D) (fun x hx => List.mem_cons_of_mem _ (List.mem_cons_of_mem _ hx)))
    clear hS hP
    exact HK.out _ _ _ _ _ _ _ _ _ _ _ _ _ _ _ _ _ _ HS.out HP.out.rows
theorem Mp.keepPG {w w' : World} {N p g : Nat} {ps : List (List Int × Int)} (h : Mp w N p g ps) (h1 : w'.heap[p]? = w.heap[p]?) (h2 : w'.heap[g]? = w.heap[g]?) : Mp w' N p g ps := by
  obtain ⟨l, hT, hh⟩ := h.tab
  exact ⟨⟨l, ⟨hT.inv, hT.pls, hT.pow, hT.ne, h2.trans hT.row, h1.trans hT.box⟩, hh⟩, h.nd⟩
theorem Mp.four {w : World} {N p g : Nat} {ps : List (List Int × Int)} (h : Mp w N p g ps) : N % 4 = 0 := by
  obtain ⟨l, hT, _⟩ := h.tab
  obtain ⟨k, h1, _, rfl⟩ := hT.pow
  obtain ⟨j, rfl⟩ : ∃ j, k = j + 2 := ⟨k - 2, by omega⟩
  rw [Nat.pow_add]; omega
theorem PRows.free {w : World} {B : Nat} {D : List Nat} {ac : Option Addr} {kc : Nat} {an : Option Addr} {kn : Nat} {ps : List (List Int × Int)} (h : PRows w B D ac kc an kn ps) {bn : Nat} (hn : an = some ⟨bn, 0, none⟩) (q : Nat) : w.frozen? ⟨bn, q, none⟩ = false := by
  rcases h.on.2 with ⟨h1, _⟩ | ⟨g, cap, cur, h1, _, hr, _⟩
  · rw [hn] at h1; injection h1 with h1; cases h1
  · rw [hn] at h1; injection h1 with h1; injection h1 with h1; injection h1 with h1; subst h1
    exact row_free hr q
theorem filter_memD {ps : List (List Int × Int)} (nn : Int) (c' : List Int) (n' : Int) : (c', n') ∈ ps.filter (fun q : List Int × Int => decide (q.2 ≠ nn)) ↔ (c', n') ∈ ps ∧ n' ≠ nn := by
  rw [List.mem_filter]; simp

set_option maxRecDepth 100000 in
set_option maxHeartbeats 4000000 in
theorem play_sw3 {x2 x3 x4 x11 x12 x13 x14 x15 x16 x17 x18 x19 x20 x21 x22 x23 x24 x25 x26 x27 x28 x29 x30 x31 x32 x33 x34 x35 x36 x37 x38 x39 x40 x41 x42 x43 x44 x45 x46 x47 x48 x49 x50 x51 x52 x53 x54 x55 x56 x57 x58 x59 x60 x61 x62 x63 x64 x65 x67 x68 x69 x70 x71 x72 x73 x74 x75 x76 x77 x78 x79 x80 x81 x82 x83 x84 x85 x86 x87 x88 x89 x90 x91 x92 x93 x94 x95 x96 x97 x98 x99 x100 x101 x102 x103 x104 x105 x106 x107 x108 x109 x110 x111 x112 x113 x114 x115 x116 x117 x118 x119 x120 x121 x122 x123 x124 x125 x126 x127 x128 x129 x130 x131 x132 x133 x134 x135 x136 x137 x138 x139 x140 x141 x142 x143 x144 x145 x146 x147 x148 x149 x150 x151 x152 x153 x154 x155 x156 x157 x158 x159 x160 x161 x162 x163 x164 x165 x166 x167 x168 x169 x170 x171 x172 x173 x174 x175 x176 x177 x178 x179 x180 x181 x182 x183 x184 x185 x186 x187 x188 x189 x190 x191 x192 x193 x194 x195 x196 x197 x198 x199 x200 x201 x202 x203 x204 x205 x206 x207 x208 x209 x210 x211 x212 x213 x214 x215 x216 x217 x218 x219 x220 x221 x222 x223 x224 x225 x226 x227 x228 x229 x230 x231 x232 x233 x234 x235 x236 x237 x238 x239 x240 x241 x242 x243 x244 x245 x246 x247 x248 x249 x250 x251 x252 x253 x254 x255 x256 x257 x258 x259 x260 x261 x262 x263 x264 x265 x266 x267 x268 x269 x270 x271 x272 x273 x274 : Value} {w : World} {size : Int} {N p g gc i L cap lb lo : Nat} {k0 n0 nn at' : Int} {ps : List (List Int × Int)} {ac an : Option Addr} {kc kn : Nat} {c : List Int} {C : List Value} (wc : World) {Q : Exit → Act → World → Prop}
    (hk0 : k0 = 3) (hiL : i < L) (hi : i < 100) (hL : L ≤ 9223372036854775807) (hnb : -9223372036854775808 ≤ n0 ∧ n0 ≤ 9223372036854775807) (hnn : -3 ≤ nn ∧ nn ≤ 3) (HNN : Hid (Int.tmod n0 4 = nn)) (hNb : 8 ≤ N ∧ N ≤ 4096)
    (HPC : Hid (∀ w : World, Calls Try.prog 26 #[.int .i64 size] w fun e w' => e = .returned (.int .i64 (N : Nat)) ∧ w' = w))
    (HCL : Hid (c.length = 8)) (HCW : Hid (∀ x ∈ c, (Lit.int .u8 x).wf = true)) (HCLV : Hid (C.length = 8)) (HC : Hid (c.map (Value.int .u8) = C))
    (HCN : Hid (∀ y, Below w.heap.size w y → y.cell? ⟨lb, lo + i * 11 + 2, none⟩ = some (.int .i64 n0))) (HB : Hid (Below w.heap.size w wc)) (HM : Hid (Mp wc N p g ps)) (HR : Hid (PRows wc w.heap.size [gc, p, g] ac kc an kn ps))
    (HGC : Hid (wc.heap[gc]? = some (.cells C.toArray 30 (0, 0)))) (HAT : Hid (AtIs ps c ps.length at')) (HNG : Hid (gc ≠ p ∧ gc ≠ g ∧ w.heap.size ≤ gc)) (HGG : Hid (w.heap.size ≤ g)) (HP : Hid (w.heap.size ≤ p))
    (hQp : ∀ c a d v w, Q (.panic c) (a.put d v) w → Q (.panic c) a w)
    (hQ : ∀ (y4 y12 y13 y14 y15 y67 y68 y69 y70 y71 y72 y73 y74 y75 y76 y77 y78 y79 y80 y81 y82 y83 y84 y85 y86 y87 y88 y89 y90 y91 y92 y93 y94 y95 y96 y97 y98 y99 y100 y101 y102 y103 y104 y105 y106 y107 y108 y109 y110 y111 y112 y113 y114 y115 y116 y117 y118 y119 y120 y121 y122 y123 y124 y125 y126 y127 y128 y129 y130 y131 y132 y133 y134 y135 y136 y137 y138 y139 y140 y141 y142 y143 y144 y145 y146 y147 y148 y149 y150 y151 y152 y153 y154 y155 y156 y157 y158 y159 y160 y161 y162 y163 y164 y165 y166 y167 y168 y169 y170 y171 y172 y173 y174 y175 y176 y177 y178 y179 y180 y181 y182 y183 y184 y185 y186 y187 y188 y189 y190 y191 y192 : Value) (g' : Nat) (ps' : List (List Int × Int)) (ac' an' : Option Addr) (kc' kn' : Nat) (w' : World), Hid (Below w.heap.size w w') → Hid (Mp w' N p g' ps') → Hid (PRows w' w.heap.size [gc, p, g'] ac' kc' an' kn' ps') → Hid (w'.heap[gc]? = some (.cells C.toArray 30 (0, 0))) → Hid (w.heap.size ≤ g' ∧ gc ≠ g') → Q .normal ⟨List.toArray (.int .i64 size :: .slice (some ⟨lb, lo, none⟩) L cap :: x2 :: x3 :: y4 :: .pointer (some ⟨p, 0, none⟩) :: .slice ac' ps'.length kc' :: .slice an' ps'.length kn' :: .int .i64 i :: .pointer (some ⟨gc, 0, none⟩) :: .int .i64 at' :: x11 :: y12 :: y13 :: y14 :: y15 :: x16 :: x17 :: x18 :: x19 :: x20 :: x21 :: x22 :: x23 :: x24 :: x25 :: x26 :: x27 :: x28 :: x29 :: x30 :: x31 :: x32 :: x33 :: x34 :: x35 :: x36 :: x37 :: x38 :: x39 :: x40 :: x41 :: x42 :: x43 :: x44 :: x45 :: x46 :: x47 :: x48 :: x49 :: x50 :: x51 :: x52 :: x53 :: x54 :: x55 :: x56 :: x57 :: x58 :: x59 :: x60 :: x61 :: x62 :: x63 :: x64 :: x65 :: .int .i64 k0 :: y67 :: y68 :: y69 :: y70 :: y71 :: y72 :: y73 :: y74 :: y75 :: y76 :: y77 :: y78 :: y79 :: y80 :: y81 :: y82 :: y83 :: y84 :: y85 :: y86 :: y87 :: y88 :: y89 :: y90 :: y91 :: y92 :: y93 :: y94 :: y95 :: y96 :: y97 :: y98 :: y99 :: y100 :: y101 :: y102 :: y103 :: y104 :: y105 :: y106 :: y107 :: y108 :: y109 :: y110 :: y111 :: y112 :: y113 :: y114 :: y115 :: y116 :: y117 :: y118 :: y119 :: y120 :: y121 :: y122 :: y123 :: y124 :: y125 :: y126 :: y127 :: y128 :: y129 :: y130 :: y131 :: y132 :: y133 :: y134 :: y135 :: y136 :: y137 :: y138 :: y139 :: y140 :: y141 :: y142 :: y143 :: y144 :: y145 :: y146 :: y147 :: y148 :: y149 :: y150 :: y151 :: y152 :: y153 :: y154 :: y155 :: y156 :: y157 :: y158 :: y159 :: y160 :: y161 :: y162 :: y163 :: y164 :: y165 :: y166 :: y167 :: y168 :: y169 :: y170 :: y171 :: y172 :: y173 :: y174 :: y175 :: y176 :: y177 :: y178 :: y179 :: y180 :: y181 :: y182 :: y183 :: y184 :: y185 :: y186 :: y187 :: y188 :: y189 :: y190 :: y191 :: y192 :: x193 :: x194 :: x195 :: x196 :: x197 :: x198 :: x199 :: x200 :: x201 :: x202 :: x203 :: x204 :: x205 :: x206 :: x207 :: x208 :: x209 :: x210 :: x211 :: x212 :: x213 :: x214 :: x215 :: x216 :: x217 :: x218 :: x219 :: x220 :: x221 :: x222 :: x223 :: x224 :: x225 :: x226 :: x227 :: x228 :: x229 :: x230 :: x231 :: x232 :: x233 :: x234 :: x235 :: x236 :: x237 :: x238 :: x239 :: x240 :: x241 :: x242 :: x243 :: x244 :: x245 :: x246 :: x247 :: x248 :: x249 :: x250 :: x251 :: x252 :: x253 :: x254 :: x255 :: x256 :: x257 :: x258 :: x259 :: x260 :: x261 :: x262 :: x263 :: x264 :: x265 :: x266 :: x267 :: x268 :: x269 :: x270 :: x271 :: x272 :: x273 :: x274 :: []), []⟩ w') :
    Code.wp Try.prog (((Try.f19.body.bind (subBlock 4)).getD .skip)) Q ⟨List.toArray (.int .i64 size :: .slice (some ⟨lb, lo, none⟩) L cap :: x2 :: x3 :: x4 :: .pointer (some ⟨p, 0, none⟩) :: .slice ac ps.length kc :: .slice an ps.length kn :: .int .i64 i :: .pointer (some ⟨gc, 0, none⟩) :: .int .i64 at' :: x11 :: x12 :: x13 :: x14 :: x15 :: x16 :: x17 :: x18 :: x19 :: x20 :: x21 :: x22 :: x23 :: x24 :: x25 :: x26 :: x27 :: x28 :: x29 :: x30 :: x31 :: x32 :: x33 :: x34 :: x35 :: x36 :: x37 :: x38 :: x39 :: x40 :: x41 :: x42 :: x43 :: x44 :: x45 :: x46 :: x47 :: x48 :: x49 :: x50 :: x51 :: x52 :: x53 :: x54 :: x55 :: x56 :: x57 :: x58 :: x59 :: x60 :: x61 :: x62 :: x63 :: x64 :: x65 :: .int .i64 k0 :: x67 :: x68 :: x69 :: x70 :: x71 :: x72 :: x73 :: x74 :: x75 :: x76 :: x77 :: x78 :: x79 :: x80 :: x81 :: x82 :: x83 :: x84 :: x85 :: x86 :: x87 :: x88 :: x89 :: x90 :: x91 :: x92 :: x93 :: x94 :: x95 :: x96 :: x97 :: x98 :: x99 :: x100 :: x101 :: x102 :: x103 :: x104 :: x105 :: x106 :: x107 :: x108 :: x109 :: x110 :: x111 :: x112 :: x113 :: x114 :: x115 :: x116 :: x117 :: x118 :: x119 :: x120 :: x121 :: x122 :: x123 :: x124 :: x125 :: x126 :: x127 :: x128 :: x129 :: x130 :: x131 :: x132 :: x133 :: x134 :: x135 :: x136 :: x137 :: x138 :: x139 :: x140 :: x141 :: x142 :: x143 :: x144 :: x145 :: x146 :: x147 :: x148 :: x149 :: x150 :: x151 :: x152 :: x153 :: x154 :: x155 :: x156 :: x157 :: x158 :: x159 :: x160 :: x161 :: x162 :: x163 :: x164 :: x165 :: x166 :: x167 :: x168 :: x169 :: x170 :: x171 :: x172 :: x173 :: x174 :: x175 :: x176 :: x177 :: x178 :: x179 :: x180 :: x181 :: x182 :: x183 :: x184 :: x185 :: x186 :: x187 :: x188 :: x189 :: x190 :: x191 :: x192 :: x193 :: x194 :: x195 :: x196 :: x197 :: x198 :: x199 :: x200 :: x201 :: x202 :: x203 :: x204 :: x205 :: x206 :: x207 :: x208 :: x209 :: x210 :: x211 :: x212 :: x213 :: x214 :: x215 :: x216 :: x217 :: x218 :: x219 :: x220 :: x221 :: x222 :: x223 :: x224 :: x225 :: x226 :: x227 :: x228 :: x229 :: x230 :: x231 :: x232 :: x233 :: x234 :: x235 :: x236 :: x237 :: x238 :: x239 :: x240 :: x241 :: x242 :: x243 :: x244 :: x245 :: x246 :: x247 :: x248 :: x249 :: x250 :: x251 :: x252 :: x253 :: x254 :: x255 :: x256 :: x257 :: x258 :: x259 :: x260 :: x261 :: x262 :: x263 :: x264 :: x265 :: x266 :: x267 :: x268 :: x269 :: x270 :: x271 :: x272 :: x273 :: x274 :: []), []⟩ wc := by
  have HK := Lib.hid hQ; have HKP := Lib.hid hQp
  clear hQ hQp
  conv => arg 2; whnf
  subst hk0
  have hlen := HM.out.bd.2.2.1
  have hcap := HR.out.cap
  have HD := Lib.hid (mdrop_any wc N p g ps c HM.out HCL.out HCW.out)
  rw [HC.out] at HD
  rcases HAT.out with ⟨q, hq1, rfl, m, hq2⟩ | ⟨rfl, hno⟩
  · skip
    have HQ := Lib.hid hq2
    clear hq2 HAT
    go_wp2_with (first | (refine wpList_load_mid rfl 30 _ rfl gc 0 rfl C _ (rngL HGC.out) Try.underlying30 rfl (by rw [HCLV.out]; rfl) ?_) | fail)
    refine Calls.mono HD.out ?_
    rintro e w1 ⟨h2t, ⟨hno, _⟩ | ⟨_, rfl, g', hg', hM2⟩⟩
    · exact absurd (List.mem_of_getElem? HQ.out) (hno m)
    have HNG' : Hid (w.heap.size ≤ g' ∧ gc ≠ g') := Lib.hid ⟨Nat.le_trans HB.out.size hg', by have := lt_of_block HGC.out; omega⟩
    have HM' := Lib.hid (hM2 _ (cutAt_nd HM.out.nd q) (cutAt_mem HM.out.nd HQ.out))
    replace HR := Lib.hid (((HR.out.more hg').two h2t (by simp) (by simp)).less (D' := [gc, p, g']) (by simp))
    replace HGC := Lib.hid (h2t.row HGC.out HNG.out.1 HNG.out.2.1)
    replace HB := Lib.hid (Two.low HB.out HB.out.size h2t HP.out HGG.out)
    have HDL : Hid (∀ x ∈ [gc, p, g'], x < w1.heap.size) := Lib.hid (by have h1 := lt_of_block HGC.out; have h2 := HM'.out.bd.2.2.2; intro x hx; simp at hx; omega)
    clear h2t hM2 hg' HD HM
    go_upto_region 28 with fail
    refine play_cut _ (by omega) HQ HB.out.size HR HDL (fun c a d v w h => by first | (cases d <;> exact h) | exact HKP.out c a d v w h) ?_
    rintro _ _ _ _ _ _ _ _ _ _ _ _ _ _ _ _ _ _ _ _ ac2 an2 kc2 kn2 w5 hb hr
    replace HB := Lib.hid (bl_next HB.out HB.out.size hb); replace HM' := Lib.hid (HM'.out.below hb); replace HGC := Lib.hid (bl_row hb (lt_of_block HGC.out) HGC.out)
    have HR2 := Lib.hid hr
    clear hb hr
    go_wp2_with fail
    exact HK.out _ _ _ _ _ _ _ _ _ _ _ _ _ _ _ _ _ _ _ _ _ _ _ _ _ _ _ _ _ _ _ _ _ _ _ _ _ _ _ _ _ _ _ _ _ _ _ _ _ _ _ _ _ _ _ _ _ _ _ _ _ _ _ _ _ _ _ _ _ _ _ _ _ _ _ _ _ _ _ _ _ _ _ _ _ _ _ _ _ _ _ _ _ _ _ _ _ _ _ _ _ _ _ _ _ _ _ _ _ _ _ _ _ _ _ _ _ _ _ _ _ _ _ _ _ _ _ _ _ _ _ _ _ _ _ _ _ _ HB HM' HR2 HGC HNG'
  · skip
    have HNO := Lib.hid hno
    clear hno HAT
    go_wp2_with (first | (refine wpList_load_mid rfl 30 _ rfl gc 0 rfl C _ (rngL HGC.out) Try.underlying30 rfl (by rw [HCLV.out]; rfl) ?_) | fail)
    refine Calls.mono HD.out ?_
    rintro e w2 ⟨h2t, ⟨_, rfl, hM2⟩ | ⟨⟨m, hm⟩, _⟩⟩
    rotate_left
    · obtain ⟨q, hq⟩ := List.getElem?_of_mem hm
      exact absurd hq (HNO.out q m (lt_of_get hq))
    replace HR := Lib.hid (HR.out.two h2t (by simp) (by simp))
    replace HGC := Lib.hid (h2t.row HGC.out HNG.out.1 HNG.out.2.1)
    replace HB := Lib.hid (Two.low HB.out HB.out.size h2t HP.out HGG.out)
    have HM2 := Lib.hid hM2
    have HG2 : Hid (w.heap.size ≤ g ∧ gc ≠ g) := Lib.hid ⟨HGG.out, HNG.out.2.1⟩
    clear h2t hM2 HD HM
    go_wp2_with fail
    exact HK.out _ _ _ _ _ _ _ _ _ _ _ _ _ _ _ _ _ _ _ _ _ _ _ _ _ _ _ _ _ _ _ _ _ _ _ _ _ _ _ _ _ _ _ _ _ _ _ _ _ _ _ _ _ _ _ _ _ _ _ _ _ _ _ _ _ _ _ _ _ _ _ _ _ _ _ _ _ _ _ _ _ _ _ _ _ _ _ _ _ _ _ _ _ _ _ _ _ _ _ _ _ _ _ _ _ _ _ _ _ _ _ _ _ _ _ _ _ _ _ _ _ _ _ _ _ _ _ _ _ _ _ _ _ _ _ _ _ _ HB HM2 HR HGC HG2
set_option maxRecDepth 100000 in
set_option maxHeartbeats 4000000 in
theorem play_sw4 {x2 x3 x4 x11 x12 x13 x14 x15 x16 x17 x18 x19 x20 x21 x22 x23 x24 x25 x26 x27 x28 x29 x30 x31 x32 x33 x34 x35 x36 x37 x38 x39 x40 x41 x42 x43 x44 x45 x46 x47 x48 x49 x50 x51 x52 x53 x54 x55 x56 x57 x58 x59 x60 x61 x62 x63 x64 x65 x67 x68 x69 x70 x71 x72 x73 x74 x75 x76 x77 x78 x79 x80 x81 x82 x83 x84 x85 x86 x87 x88 x89 x90 x91 x92 x93 x94 x95 x96 x97 x98 x99 x100 x101 x102 x103 x104 x105 x106 x107 x108 x109 x110 x111 x112 x113 x114 x115 x116 x117 x118 x119 x120 x121 x122 x123 x124 x125 x126 x127 x128 x129 x130 x131 x132 x133 x134 x135 x136 x137 x138 x139 x140 x141 x142 x143 x144 x145 x146 x147 x148 x149 x150 x151 x152 x153 x154 x155 x156 x157 x158 x159 x160 x161 x162 x163 x164 x165 x166 x167 x168 x169 x170 x171 x172 x173 x174 x175 x176 x177 x178 x179 x180 x181 x182 x183 x184 x185 x186 x187 x188 x189 x190 x191 x192 x193 x194 x195 x196 x197 x198 x199 x200 x201 x202 x203 x204 x205 x206 x207 x208 x209 x210 x211 x212 x213 x214 x215 x216 x217 x218 x219 x220 x221 x222 x223 x224 x225 x226 x227 x228 x229 x230 x231 x232 x233 x234 x235 x236 x237 x238 x239 x240 x241 x242 x243 x244 x245 x246 x247 x248 x249 x250 x251 x252 x253 x254 x255 x256 x257 x258 x259 x260 x261 x262 x263 x264 x265 x266 x267 x268 x269 x270 x271 x272 x273 x274 : Value} {w : World} {size : Int} {N p g gc i L cap lb lo : Nat} {k0 n0 nn at' : Int} {ps : List (List Int × Int)} {ac an : Option Addr} {kc kn : Nat} {c : List Int} {C : List Value} (wc : World) {Q : Exit → Act → World → Prop}
    (hk0 : k0 = 4) (hiL : i < L) (hi : i < 100) (hL : L ≤ 9223372036854775807) (hnb : -9223372036854775808 ≤ n0 ∧ n0 ≤ 9223372036854775807) (hnn : -3 ≤ nn ∧ nn ≤ 3) (HNN : Hid (Int.tmod n0 4 = nn)) (hNb : 8 ≤ N ∧ N ≤ 4096)
    (HPC : Hid (∀ w : World, Calls Try.prog 26 #[.int .i64 size] w fun e w' => e = .returned (.int .i64 (N : Nat)) ∧ w' = w))
    (HCL : Hid (c.length = 8)) (HCW : Hid (∀ x ∈ c, (Lit.int .u8 x).wf = true)) (HCLV : Hid (C.length = 8)) (HC : Hid (c.map (Value.int .u8) = C))
    (HCN : Hid (∀ y, Below w.heap.size w y → y.cell? ⟨lb, lo + i * 11 + 2, none⟩ = some (.int .i64 n0))) (HB : Hid (Below w.heap.size w wc)) (HM : Hid (Mp wc N p g ps)) (HR : Hid (PRows wc w.heap.size [gc, p, g] ac kc an kn ps))
    (HGC : Hid (wc.heap[gc]? = some (.cells C.toArray 30 (0, 0)))) (HAT : Hid (AtIs ps c ps.length at')) (HNG : Hid (gc ≠ p ∧ gc ≠ g ∧ w.heap.size ≤ gc)) (HGG : Hid (w.heap.size ≤ g)) (HP : Hid (w.heap.size ≤ p))
    (hQp : ∀ c a d v w, Q (.panic c) (a.put d v) w → Q (.panic c) a w)
    (hQ : ∀ (y4 y12 y13 y14 y15 y67 y68 y69 y70 y71 y72 y73 y74 y75 y76 y77 y78 y79 y80 y81 y82 y83 y84 y85 y86 y87 y88 y89 y90 y91 y92 y93 y94 y95 y96 y97 y98 y99 y100 y101 y102 y103 y104 y105 y106 y107 y108 y109 y110 y111 y112 y113 y114 y115 y116 y117 y118 y119 y120 y121 y122 y123 y124 y125 y126 y127 y128 y129 y130 y131 y132 y133 y134 y135 y136 y137 y138 y139 y140 y141 y142 y143 y144 y145 y146 y147 y148 y149 y150 y151 y152 y153 y154 y155 y156 y157 y158 y159 y160 y161 y162 y163 y164 y165 y166 y167 y168 y169 y170 y171 y172 y173 y174 y175 y176 y177 y178 y179 y180 y181 y182 y183 y184 y185 y186 y187 y188 y189 y190 y191 y192 : Value) (g' : Nat) (ps' : List (List Int × Int)) (ac' an' : Option Addr) (kc' kn' : Nat) (w' : World), Hid (Below w.heap.size w w') → Hid (Mp w' N p g' ps') → Hid (PRows w' w.heap.size [gc, p, g'] ac' kc' an' kn' ps') → Hid (w'.heap[gc]? = some (.cells C.toArray 30 (0, 0))) → Hid (w.heap.size ≤ g' ∧ gc ≠ g') → Q .normal ⟨List.toArray (.int .i64 size :: .slice (some ⟨lb, lo, none⟩) L cap :: x2 :: x3 :: y4 :: .pointer (some ⟨p, 0, none⟩) :: .slice ac' ps'.length kc' :: .slice an' ps'.length kn' :: .int .i64 i :: .pointer (some ⟨gc, 0, none⟩) :: .int .i64 at' :: x11 :: y12 :: y13 :: y14 :: y15 :: x16 :: x17 :: x18 :: x19 :: x20 :: x21 :: x22 :: x23 :: x24 :: x25 :: x26 :: x27 :: x28 :: x29 :: x30 :: x31 :: x32 :: x33 :: x34 :: x35 :: x36 :: x37 :: x38 :: x39 :: x40 :: x41 :: x42 :: x43 :: x44 :: x45 :: x46 :: x47 :: x48 :: x49 :: x50 :: x51 :: x52 :: x53 :: x54 :: x55 :: x56 :: x57 :: x58 :: x59 :: x60 :: x61 :: x62 :: x63 :: x64 :: x65 :: .int .i64 k0 :: y67 :: y68 :: y69 :: y70 :: y71 :: y72 :: y73 :: y74 :: y75 :: y76 :: y77 :: y78 :: y79 :: y80 :: y81 :: y82 :: y83 :: y84 :: y85 :: y86 :: y87 :: y88 :: y89 :: y90 :: y91 :: y92 :: y93 :: y94 :: y95 :: y96 :: y97 :: y98 :: y99 :: y100 :: y101 :: y102 :: y103 :: y104 :: y105 :: y106 :: y107 :: y108 :: y109 :: y110 :: y111 :: y112 :: y113 :: y114 :: y115 :: y116 :: y117 :: y118 :: y119 :: y120 :: y121 :: y122 :: y123 :: y124 :: y125 :: y126 :: y127 :: y128 :: y129 :: y130 :: y131 :: y132 :: y133 :: y134 :: y135 :: y136 :: y137 :: y138 :: y139 :: y140 :: y141 :: y142 :: y143 :: y144 :: y145 :: y146 :: y147 :: y148 :: y149 :: y150 :: y151 :: y152 :: y153 :: y154 :: y155 :: y156 :: y157 :: y158 :: y159 :: y160 :: y161 :: y162 :: y163 :: y164 :: y165 :: y166 :: y167 :: y168 :: y169 :: y170 :: y171 :: y172 :: y173 :: y174 :: y175 :: y176 :: y177 :: y178 :: y179 :: y180 :: y181 :: y182 :: y183 :: y184 :: y185 :: y186 :: y187 :: y188 :: y189 :: y190 :: y191 :: y192 :: x193 :: x194 :: x195 :: x196 :: x197 :: x198 :: x199 :: x200 :: x201 :: x202 :: x203 :: x204 :: x205 :: x206 :: x207 :: x208 :: x209 :: x210 :: x211 :: x212 :: x213 :: x214 :: x215 :: x216 :: x217 :: x218 :: x219 :: x220 :: x221 :: x222 :: x223 :: x224 :: x225 :: x226 :: x227 :: x228 :: x229 :: x230 :: x231 :: x232 :: x233 :: x234 :: x235 :: x236 :: x237 :: x238 :: x239 :: x240 :: x241 :: x242 :: x243 :: x244 :: x245 :: x246 :: x247 :: x248 :: x249 :: x250 :: x251 :: x252 :: x253 :: x254 :: x255 :: x256 :: x257 :: x258 :: x259 :: x260 :: x261 :: x262 :: x263 :: x264 :: x265 :: x266 :: x267 :: x268 :: x269 :: x270 :: x271 :: x272 :: x273 :: x274 :: []), []⟩ w') :
    Code.wp Try.prog (((Try.f19.body.bind (subBlock 4)).getD .skip)) Q ⟨List.toArray (.int .i64 size :: .slice (some ⟨lb, lo, none⟩) L cap :: x2 :: x3 :: x4 :: .pointer (some ⟨p, 0, none⟩) :: .slice ac ps.length kc :: .slice an ps.length kn :: .int .i64 i :: .pointer (some ⟨gc, 0, none⟩) :: .int .i64 at' :: x11 :: x12 :: x13 :: x14 :: x15 :: x16 :: x17 :: x18 :: x19 :: x20 :: x21 :: x22 :: x23 :: x24 :: x25 :: x26 :: x27 :: x28 :: x29 :: x30 :: x31 :: x32 :: x33 :: x34 :: x35 :: x36 :: x37 :: x38 :: x39 :: x40 :: x41 :: x42 :: x43 :: x44 :: x45 :: x46 :: x47 :: x48 :: x49 :: x50 :: x51 :: x52 :: x53 :: x54 :: x55 :: x56 :: x57 :: x58 :: x59 :: x60 :: x61 :: x62 :: x63 :: x64 :: x65 :: .int .i64 k0 :: x67 :: x68 :: x69 :: x70 :: x71 :: x72 :: x73 :: x74 :: x75 :: x76 :: x77 :: x78 :: x79 :: x80 :: x81 :: x82 :: x83 :: x84 :: x85 :: x86 :: x87 :: x88 :: x89 :: x90 :: x91 :: x92 :: x93 :: x94 :: x95 :: x96 :: x97 :: x98 :: x99 :: x100 :: x101 :: x102 :: x103 :: x104 :: x105 :: x106 :: x107 :: x108 :: x109 :: x110 :: x111 :: x112 :: x113 :: x114 :: x115 :: x116 :: x117 :: x118 :: x119 :: x120 :: x121 :: x122 :: x123 :: x124 :: x125 :: x126 :: x127 :: x128 :: x129 :: x130 :: x131 :: x132 :: x133 :: x134 :: x135 :: x136 :: x137 :: x138 :: x139 :: x140 :: x141 :: x142 :: x143 :: x144 :: x145 :: x146 :: x147 :: x148 :: x149 :: x150 :: x151 :: x152 :: x153 :: x154 :: x155 :: x156 :: x157 :: x158 :: x159 :: x160 :: x161 :: x162 :: x163 :: x164 :: x165 :: x166 :: x167 :: x168 :: x169 :: x170 :: x171 :: x172 :: x173 :: x174 :: x175 :: x176 :: x177 :: x178 :: x179 :: x180 :: x181 :: x182 :: x183 :: x184 :: x185 :: x186 :: x187 :: x188 :: x189 :: x190 :: x191 :: x192 :: x193 :: x194 :: x195 :: x196 :: x197 :: x198 :: x199 :: x200 :: x201 :: x202 :: x203 :: x204 :: x205 :: x206 :: x207 :: x208 :: x209 :: x210 :: x211 :: x212 :: x213 :: x214 :: x215 :: x216 :: x217 :: x218 :: x219 :: x220 :: x221 :: x222 :: x223 :: x224 :: x225 :: x226 :: x227 :: x228 :: x229 :: x230 :: x231 :: x232 :: x233 :: x234 :: x235 :: x236 :: x237 :: x238 :: x239 :: x240 :: x241 :: x242 :: x243 :: x244 :: x245 :: x246 :: x247 :: x248 :: x249 :: x250 :: x251 :: x252 :: x253 :: x254 :: x255 :: x256 :: x257 :: x258 :: x259 :: x260 :: x261 :: x262 :: x263 :: x264 :: x265 :: x266 :: x267 :: x268 :: x269 :: x270 :: x271 :: x272 :: x273 :: x274 :: []), []⟩ wc := by
  have HK := Lib.hid hQ; have HKP := Lib.hid hQp
  clear hQ hQp
  conv => arg 2; whnf
  subst hk0
  have hlen := HM.out.bd.2.2.1
  have hcap := HR.out.cap
  have HDL : Hid (∀ x ∈ [gc, p, g], x < wc.heap.size) := Lib.hid (by have h1 := lt_of_block HGC.out; have h2 := HM.out.bd.2.2.2; intro x hx; simp at hx; omega)
  go_upto_block 5 with fail
  refine play_rest _ hiL hi hL hnb hnn HNN (by omega) HCN HB HR HDL (fun c a d v w h => by first | (cases d <;> exact h) | exact HKP.out c a d v w h) ?_
  rintro _ _ _ _ _ _ _ _ _ _ _ _ _ _ _ _ _ _ _ _ _ _ _ _ _ _ _ _ _ _ _ _ ac2 an2 kc2 kn2 w5 hb hr
  have HFN := Lib.hid (filter_nd HM.out.nd (fun q : List Int × Int => decide (q.2 ≠ nn)))
  have HFM := Lib.hid (fun c' n' => filter_memD (ps := ps) nn c' n')
  have hfl := List.length_filter_le (fun q : List Int × Int => decide (q.2 ≠ nn)) ps
  replace HM := Lib.hid (HM.out.below hb); replace HGC := Lib.hid (bl_row hb (lt_of_block HGC.out) HGC.out)
  have HR2 := Lib.hid (hr.mono HB.out.size)
  replace HB := Lib.hid (bl_next HB.out HB.out.size hb)
  clear hb hr HR
  generalize ps.filter (fun q : List Int × Int => decide (q.2 ≠ nn)) = T at HFN HFM hfl HR2 ⊢
  have HDA := Lib.hid (mdropall_any w5 N p g ps T nn HM.out HFN.out HFM.out)
  rw [← HNN.out] at HDA
  have cn := HCN.out w5 HB.out
  go_wp2_with fail
  refine Calls.mono HDA.out ?_
  rintro e w1 ⟨h2t, rfl, g', hg', hM2⟩
  have HNG' : Hid (w.heap.size ≤ g' ∧ gc ≠ g') := Lib.hid ⟨Nat.le_trans HB.out.size hg', by have := lt_of_block HGC.out; omega⟩
  have HM2 := Lib.hid hM2
  have HDL2 : Hid (∀ x ∈ [gc, p, g], x < w5.heap.size) := Lib.hid (by have h1 := lt_of_block HGC.out; have h2 := HM.out.bd.2.2.2; intro x hx; simp at hx; omega)
  have HR3 := Lib.hid (((HR2.out.rows.more hg').two h2t (by simp) (by simp)).less (D' := [gc, p, g']) (by simp))
  replace HGC := Lib.hid (h2t.row HGC.out HNG.out.1 HNG.out.2.1)
  replace HB := Lib.hid (Two.low HB.out HB.out.size h2t HP.out HGG.out)
  clear h2t hM2 hg' HDA HM cn HR2
  go_wp2_with fail
  exact HK.out _ _ _ _ _ _ _ _ _ _ _ _ _ _ _ _ _ _ _ _ _ _ _ _ _ _ _ _ _ _ _ _ _ _ _ _ _ _ _ _ _ _ _ _ _ _ _ _ _ _ _ _ _ _ _ _ _ _ _ _ _ _ _ _ _ _ _ _ _ _ _ _ _ _ _ _ _ _ _ _ _ _ _ _ _ _ _ _ _ _ _ _ _ _ _ _ _ _ _ _ _ _ _ _ _ _ _ _ _ _ _ _ _ _ _ _ _ _ _ _ _ _ _ _ _ _ _ _ _ _ _ _ _ _ _ _ _ _ HB HM2 HR3 HGC HNG'
set_option maxRecDepth 100000 in
set_option maxHeartbeats 4000000 in
theorem play_swd {x2 x3 x4 x11 x12 x13 x14 x15 x16 x17 x18 x19 x20 x21 x22 x23 x24 x25 x26 x27 x28 x29 x30 x31 x32 x33 x34 x35 x36 x37 x38 x39 x40 x41 x42 x43 x44 x45 x46 x47 x48 x49 x50 x51 x52 x53 x54 x55 x56 x57 x58 x59 x60 x61 x62 x63 x64 x65 x67 x68 x69 x70 x71 x72 x73 x74 x75 x76 x77 x78 x79 x80 x81 x82 x83 x84 x85 x86 x87 x88 x89 x90 x91 x92 x93 x94 x95 x96 x97 x98 x99 x100 x101 x102 x103 x104 x105 x106 x107 x108 x109 x110 x111 x112 x113 x114 x115 x116 x117 x118 x119 x120 x121 x122 x123 x124 x125 x126 x127 x128 x129 x130 x131 x132 x133 x134 x135 x136 x137 x138 x139 x140 x141 x142 x143 x144 x145 x146 x147 x148 x149 x150 x151 x152 x153 x154 x155 x156 x157 x158 x159 x160 x161 x162 x163 x164 x165 x166 x167 x168 x169 x170 x171 x172 x173 x174 x175 x176 x177 x178 x179 x180 x181 x182 x183 x184 x185 x186 x187 x188 x189 x190 x191 x192 x193 x194 x195 x196 x197 x198 x199 x200 x201 x202 x203 x204 x205 x206 x207 x208 x209 x210 x211 x212 x213 x214 x215 x216 x217 x218 x219 x220 x221 x222 x223 x224 x225 x226 x227 x228 x229 x230 x231 x232 x233 x234 x235 x236 x237 x238 x239 x240 x241 x242 x243 x244 x245 x246 x247 x248 x249 x250 x251 x252 x253 x254 x255 x256 x257 x258 x259 x260 x261 x262 x263 x264 x265 x266 x267 x268 x269 x270 x271 x272 x273 x274 : Value} {w : World} {size : Int} {N p g gc i L cap lb lo : Nat} {k0 n0 nn at' : Int} {ps : List (List Int × Int)} {ac an : Option Addr} {kc kn : Nat} {c : List Int} {C : List Value} (wc : World) {Q : Exit → Act → World → Prop}
    (hk0 : k0 ≠ 3 ∧ k0 ≠ 4) (hiL : i < L) (hi : i < 100) (hL : L ≤ 9223372036854775807) (hnb : -9223372036854775808 ≤ n0 ∧ n0 ≤ 9223372036854775807) (hnn : -3 ≤ nn ∧ nn ≤ 3) (HNN : Hid (Int.tmod n0 4 = nn)) (hNb : 8 ≤ N ∧ N ≤ 4096)
    (HPC : Hid (∀ w : World, Calls Try.prog 26 #[.int .i64 size] w fun e w' => e = .returned (.int .i64 (N : Nat)) ∧ w' = w))
    (HCL : Hid (c.length = 8)) (HCW : Hid (∀ x ∈ c, (Lit.int .u8 x).wf = true)) (HCLV : Hid (C.length = 8)) (HC : Hid (c.map (Value.int .u8) = C))
    (HCN : Hid (∀ y, Below w.heap.size w y → y.cell? ⟨lb, lo + i * 11 + 2, none⟩ = some (.int .i64 n0))) (HB : Hid (Below w.heap.size w wc)) (HM : Hid (Mp wc N p g ps)) (HR : Hid (PRows wc w.heap.size [gc, p, g] ac kc an kn ps))
    (HGC : Hid (wc.heap[gc]? = some (.cells C.toArray 30 (0, 0)))) (HAT : Hid (AtIs ps c ps.length at')) (HNG : Hid (gc ≠ p ∧ gc ≠ g ∧ w.heap.size ≤ gc)) (HGG : Hid (w.heap.size ≤ g)) (HP : Hid (w.heap.size ≤ p))
    (hQp : ∀ c a d v w, Q (.panic c) (a.put d v) w → Q (.panic c) a w)
    (hQ : ∀ (y4 y12 y13 y14 y15 y67 y68 y69 y70 y71 y72 y73 y74 y75 y76 y77 y78 y79 y80 y81 y82 y83 y84 y85 y86 y87 y88 y89 y90 y91 y92 y93 y94 y95 y96 y97 y98 y99 y100 y101 y102 y103 y104 y105 y106 y107 y108 y109 y110 y111 y112 y113 y114 y115 y116 y117 y118 y119 y120 y121 y122 y123 y124 y125 y126 y127 y128 y129 y130 y131 y132 y133 y134 y135 y136 y137 y138 y139 y140 y141 y142 y143 y144 y145 y146 y147 y148 y149 y150 y151 y152 y153 y154 y155 y156 y157 y158 y159 y160 y161 y162 y163 y164 y165 y166 y167 y168 y169 y170 y171 y172 y173 y174 y175 y176 y177 y178 y179 y180 y181 y182 y183 y184 y185 y186 y187 y188 y189 y190 y191 y192 : Value) (g' : Nat) (ps' : List (List Int × Int)) (ac' an' : Option Addr) (kc' kn' : Nat) (w' : World), Hid (Below w.heap.size w w') → Hid (Mp w' N p g' ps') → Hid (PRows w' w.heap.size [gc, p, g'] ac' kc' an' kn' ps') → Hid (w'.heap[gc]? = some (.cells C.toArray 30 (0, 0))) → Hid (w.heap.size ≤ g' ∧ gc ≠ g') → Q .normal ⟨List.toArray (.int .i64 size :: .slice (some ⟨lb, lo, none⟩) L cap :: x2 :: x3 :: y4 :: .pointer (some ⟨p, 0, none⟩) :: .slice ac' ps'.length kc' :: .slice an' ps'.length kn' :: .int .i64 i :: .pointer (some ⟨gc, 0, none⟩) :: .int .i64 at' :: x11 :: y12 :: y13 :: y14 :: y15 :: x16 :: x17 :: x18 :: x19 :: x20 :: x21 :: x22 :: x23 :: x24 :: x25 :: x26 :: x27 :: x28 :: x29 :: x30 :: x31 :: x32 :: x33 :: x34 :: x35 :: x36 :: x37 :: x38 :: x39 :: x40 :: x41 :: x42 :: x43 :: x44 :: x45 :: x46 :: x47 :: x48 :: x49 :: x50 :: x51 :: x52 :: x53 :: x54 :: x55 :: x56 :: x57 :: x58 :: x59 :: x60 :: x61 :: x62 :: x63 :: x64 :: x65 :: .int .i64 k0 :: y67 :: y68 :: y69 :: y70 :: y71 :: y72 :: y73 :: y74 :: y75 :: y76 :: y77 :: y78 :: y79 :: y80 :: y81 :: y82 :: y83 :: y84 :: y85 :: y86 :: y87 :: y88 :: y89 :: y90 :: y91 :: y92 :: y93 :: y94 :: y95 :: y96 :: y97 :: y98 :: y99 :: y100 :: y101 :: y102 :: y103 :: y104 :: y105 :: y106 :: y107 :: y108 :: y109 :: y110 :: y111 :: y112 :: y113 :: y114 :: y115 :: y116 :: y117 :: y118 :: y119 :: y120 :: y121 :: y122 :: y123 :: y124 :: y125 :: y126 :: y127 :: y128 :: y129 :: y130 :: y131 :: y132 :: y133 :: y134 :: y135 :: y136 :: y137 :: y138 :: y139 :: y140 :: y141 :: y142 :: y143 :: y144 :: y145 :: y146 :: y147 :: y148 :: y149 :: y150 :: y151 :: y152 :: y153 :: y154 :: y155 :: y156 :: y157 :: y158 :: y159 :: y160 :: y161 :: y162 :: y163 :: y164 :: y165 :: y166 :: y167 :: y168 :: y169 :: y170 :: y171 :: y172 :: y173 :: y174 :: y175 :: y176 :: y177 :: y178 :: y179 :: y180 :: y181 :: y182 :: y183 :: y184 :: y185 :: y186 :: y187 :: y188 :: y189 :: y190 :: y191 :: y192 :: x193 :: x194 :: x195 :: x196 :: x197 :: x198 :: x199 :: x200 :: x201 :: x202 :: x203 :: x204 :: x205 :: x206 :: x207 :: x208 :: x209 :: x210 :: x211 :: x212 :: x213 :: x214 :: x215 :: x216 :: x217 :: x218 :: x219 :: x220 :: x221 :: x222 :: x223 :: x224 :: x225 :: x226 :: x227 :: x228 :: x229 :: x230 :: x231 :: x232 :: x233 :: x234 :: x235 :: x236 :: x237 :: x238 :: x239 :: x240 :: x241 :: x242 :: x243 :: x244 :: x245 :: x246 :: x247 :: x248 :: x249 :: x250 :: x251 :: x252 :: x253 :: x254 :: x255 :: x256 :: x257 :: x258 :: x259 :: x260 :: x261 :: x262 :: x263 :: x264 :: x265 :: x266 :: x267 :: x268 :: x269 :: x270 :: x271 :: x272 :: x273 :: x274 :: []), []⟩ w') :
    Code.wp Try.prog (((Try.f19.body.bind (subBlock 4)).getD .skip)) Q ⟨List.toArray (.int .i64 size :: .slice (some ⟨lb, lo, none⟩) L cap :: x2 :: x3 :: x4 :: .pointer (some ⟨p, 0, none⟩) :: .slice ac ps.length kc :: .slice an ps.length kn :: .int .i64 i :: .pointer (some ⟨gc, 0, none⟩) :: .int .i64 at' :: x11 :: x12 :: x13 :: x14 :: x15 :: x16 :: x17 :: x18 :: x19 :: x20 :: x21 :: x22 :: x23 :: x24 :: x25 :: x26 :: x27 :: x28 :: x29 :: x30 :: x31 :: x32 :: x33 :: x34 :: x35 :: x36 :: x37 :: x38 :: x39 :: x40 :: x41 :: x42 :: x43 :: x44 :: x45 :: x46 :: x47 :: x48 :: x49 :: x50 :: x51 :: x52 :: x53 :: x54 :: x55 :: x56 :: x57 :: x58 :: x59 :: x60 :: x61 :: x62 :: x63 :: x64 :: x65 :: .int .i64 k0 :: x67 :: x68 :: x69 :: x70 :: x71 :: x72 :: x73 :: x74 :: x75 :: x76 :: x77 :: x78 :: x79 :: x80 :: x81 :: x82 :: x83 :: x84 :: x85 :: x86 :: x87 :: x88 :: x89 :: x90 :: x91 :: x92 :: x93 :: x94 :: x95 :: x96 :: x97 :: x98 :: x99 :: x100 :: x101 :: x102 :: x103 :: x104 :: x105 :: x106 :: x107 :: x108 :: x109 :: x110 :: x111 :: x112 :: x113 :: x114 :: x115 :: x116 :: x117 :: x118 :: x119 :: x120 :: x121 :: x122 :: x123 :: x124 :: x125 :: x126 :: x127 :: x128 :: x129 :: x130 :: x131 :: x132 :: x133 :: x134 :: x135 :: x136 :: x137 :: x138 :: x139 :: x140 :: x141 :: x142 :: x143 :: x144 :: x145 :: x146 :: x147 :: x148 :: x149 :: x150 :: x151 :: x152 :: x153 :: x154 :: x155 :: x156 :: x157 :: x158 :: x159 :: x160 :: x161 :: x162 :: x163 :: x164 :: x165 :: x166 :: x167 :: x168 :: x169 :: x170 :: x171 :: x172 :: x173 :: x174 :: x175 :: x176 :: x177 :: x178 :: x179 :: x180 :: x181 :: x182 :: x183 :: x184 :: x185 :: x186 :: x187 :: x188 :: x189 :: x190 :: x191 :: x192 :: x193 :: x194 :: x195 :: x196 :: x197 :: x198 :: x199 :: x200 :: x201 :: x202 :: x203 :: x204 :: x205 :: x206 :: x207 :: x208 :: x209 :: x210 :: x211 :: x212 :: x213 :: x214 :: x215 :: x216 :: x217 :: x218 :: x219 :: x220 :: x221 :: x222 :: x223 :: x224 :: x225 :: x226 :: x227 :: x228 :: x229 :: x230 :: x231 :: x232 :: x233 :: x234 :: x235 :: x236 :: x237 :: x238 :: x239 :: x240 :: x241 :: x242 :: x243 :: x244 :: x245 :: x246 :: x247 :: x248 :: x249 :: x250 :: x251 :: x252 :: x253 :: x254 :: x255 :: x256 :: x257 :: x258 :: x259 :: x260 :: x261 :: x262 :: x263 :: x264 :: x265 :: x266 :: x267 :: x268 :: x269 :: x270 :: x271 :: x272 :: x273 :: x274 :: []), []⟩ wc := by
  have HK := Lib.hid hQ; have HKP := Lib.hid hQp
  clear hQ hQp
  conv => arg 2; whnf
  obtain ⟨k3, k4⟩ := hk0
  have hlen := HM.out.bd.2.2.1
  have hcap := HR.out.cap
  obtain ⟨M, hM1, hM2⟩ : ∃ M : Nat, N ≤ 4 * M ∧ 4 * M ≤ N := ⟨N / 4, by have := HM.out.four; omega, by omega⟩
  have HDL : Hid (∀ x ∈ [gc, p, g], x < wc.heap.size) := Lib.hid (by have h1 := lt_of_block HGC.out; have h2 := HM.out.bd.2.2.2; intro x hx; simp at hx; omega)
  rcases HAT.out with ⟨q, hq1, rfl, m, hq2⟩ | ⟨rfl, hno⟩
  · have HQ := Lib.hid hq2; clear hq2 HAT
    have HPU := Lib.hid (fun W (h : Mp W N p g ps) => mput_any W N p g ps c nn h HCL.out HCW.out (by omega))
    rw [HC.out] at HPU
    go_upto_region 18 with (first | ((with_reducible refine Calls.mono (HPC.out _) ?_); rintro e wq ⟨rfl, hq⟩; obtain rfl := hq.symm; clear hq) | fail)
    have f1 : ∀ t : In (fun y => Kp w wc [gc] y), t.w.cell? ⟨lb, lo + i * 11 + 2, none⟩ = some (.int .i64 n0) := fun t => HCN.out _ t.h.low
    have HRC : Hid (∀ y, Kp w wc [gc] y → y.rangeAt gc 0 C) := Lib.hid fun y hy => rngL ((hy.keep gc (by simp)).trans HGC.out)
    have HS1 := Lib.hid (Kp.base [gc] HB.out)
    refine wp_plan (.t 0 (.t 1 (.t 2 (.t 3 (.t 4 (.t 5 (.t 6 (.t 7 (.t 9 (.u 8 (.t 10 .done))))))))))) (fun y => Kp w wc [gc] y) (by kernel_rfl) (by kernel_rfl) (by kernel_rfl) (fun c a d v w h => by first | (cases d <;> exact h) | exact HKP.out c a d v w h) HS1.out.drew ?_
    haveI hne : Nonempty (In fun y => Kp w wc [gc] y) := ⟨⟨wc, HS1.out⟩⟩
    repeat (first | (refine plan_t_load (by rfl) (by kernel_rfl) 30 _ rfl gc 0 rfl C _ (fun y hy => HRC.out y hy) Try.underlying30 rfl (by rw [HCLV.out]; rfl) ?_; simp only [Act.put, List.setIfInBounds_toArray, List.set_cons_succ, List.set_cons_zero]) | (refine plan_t (by rfl) ?_; (first | go_big_quiet_skip | (go_big_quiet_want; go_big_quiet_op; go_big_quiet_on)); refine wpQuiet_nil ?_))
    clear f1 HRC
    rw [HNN.out]
    have hS := HS1.out.drew
    replace HM := Lib.hid (HM.out.below (Below.refl _ _).drew); replace HR := Lib.hid (HR.out.below (Below.refl _ _).drew)
    clear HS1
    have hgc0 : wc.drew.heap[gc]? = wc.heap[gc]? := rfl
    have hsz0 : wc.drew.heap.size = wc.heap.size := rfl
    replace HGC : Hid (wc.drew.heap[gc]? = some (.cells C.toArray 30 (0, 0))) := HGC
    replace HDL : Hid (∀ x ∈ [gc, p, g], x < wc.drew.heap.size) := HDL
    generalize hwd : wc.drew = W0 at hS HM HR HGC HDL ⊢
    clear hwd hgc0 hsz0
    refine plan_us (by rfl) (by kernel_rfl) ?_
    intro K hK
    go_wp2_with fail
    refine Calls.mono (HPU.out _ HM.out) ?_
    rintro e w1 ⟨h2t, ⟨hno, _⟩ | ⟨_, rfl, hM2⟩⟩
    · exact absurd (List.mem_of_getElem? HQ.out) (hno m)
    have HM2 := Lib.hid (hM2 _ (putTo_set HM.out.nd HQ.out nn))
    clear hM2
    have HNG' : Hid (w.heap.size ≤ g ∧ gc ≠ g) := Lib.hid ⟨HGG.out, HNG.out.2.1⟩
    have hS2 : Kp w wc [gc] w1 := ⟨Two.low hS.low hS.low.size h2t HP.out HGG.out, fun x hx => by rw [List.mem_singleton] at hx; subst hx; exact (h2t.block x (lt_of_block HGC.out) HNG.out.1 HNG.out.2.1).trans (hS.keep x (by simp))⟩
    replace HR := Lib.hid (HR.out.two h2t (by simp) (by simp))
    replace HGC := Lib.hid (h2t.row HGC.out HNG.out.1 HNG.out.2.1)
    replace HDL : Hid (∀ x ∈ [gc, p, g], x < w1.heap.size) := Lib.hid fun x hx => Nat.lt_of_lt_of_le (HDL.out x hx) h2t.size
    replace HB := Lib.hid hS2.low
    go_wp2_with fail
    refine ⟨hS2, ?_⟩
    clear hS hS2 h2t HM HPU
    repeat (refine plan_t (by rfl) ?_; (first | go_big_quiet_skip | (go_big_quiet_want; go_big_quiet_op; go_big_quiet_on)); refine wpQuiet_nil ?_)
    clear hne
    show Exit.then _ _ _ _ _
    obtain ⟨bc, bn, rfl, rfl, _, hcn, _, _, hbn, hbn2⟩ := HR.out.at HQ.out
    have zf := HR.out.free rfl q
    have cn := HCN.out _ HB.out
    have hql : (q : Int) < (ps.length : Int) := by omega
    have hnd : bn ∉ [gc, p, g] := HR.out.d2 _ rfl
    simp only [List.mem_cons, List.not_mem_nil, or_false, not_or] at hnd
    have HND := Lib.hid hnd
    have HBN := Lib.hid hbn
    clear hnd hbn hbn2
    go_wp2_with fail
    rw [HNN.out]
    clear hcn zf cn
    have hgr := grown_setCell w1 bn q (.int .i64 nn)
    have HM3 := Lib.hid (HM2.out.grownB hgr (by intro e; injection e with e; exact HND.out.2.1 e.symm) (by intro e; injection e with e; exact HND.out.2.2 e.symm))
    have HR3 := Lib.hid (HR.out.set HQ.out nn (by omega))
    have HG3 := Lib.hid (grown_row hgr (by intro e; injection e with e; exact HND.out.1 e.symm) HGC.out)
    have HB3 := Lib.hid (HB.out.setCell (p := ⟨bn, q, none⟩) HBN.out (.int .i64 nn))
    have HLS : Hid (ps.length = (ps.set q (c, nn)).length) := Lib.hid (by rw [List.length_set])
    clear hgr
    rw [HLS.out]
    exact HK.out _ _ _ _ _ _ _ _ _ _ _ _ _ _ _ _ _ _ _ _ _ _ _ _ _ _ _ _ _ _ _ _ _ _ _ _ _ _ _ _ _ _ _ _ _ _ _ _ _ _ _ _ _ _ _ _ _ _ _ _ _ _ _ _ _ _ _ _ _ _ _ _ _ _ _ _ _ _ _ _ _ _ _ _ _ _ _ _ _ _ _ _ _ _ _ _ _ _ _ _ _ _ _ _ _ _ _ _ _ _ _ _ _ _ _ _ _ _ _ _ _ _ _ _ _ _ _ _ _ _ _ _ _ _ _ _ _ _ HB3 HM3 HR3 HG3 HNG'
  · have HNO := Lib.hid hno
    clear hno HAT
    by_cases hroom : ps.length < M * 3
    · skip
      have HNM : Hid (∀ m, (c, m) ∉ ps) := Lib.hid fun m hm => by
        obtain ⟨q, hq⟩ := List.getElem?_of_mem hm
        exact HNO.out q m (lt_of_get hq) hq
      have hr1 : ((ps.length : Int) < (N : Int) / 4 * 3) := by omega
      have HPU := Lib.hid (fun W (h : Mp W N p g ps) => mput_any W N p g ps c nn h HCL.out HCW.out (by omega))
      rw [HC.out] at HPU
      go_upto_region 18 with (first | ((with_reducible refine Calls.mono (HPC.out _) ?_); rintro e wq ⟨rfl, hq⟩; obtain rfl := hq.symm; clear hq) | fail)
      have f1 : ∀ t : In (fun y => Kp w wc [gc] y), t.w.cell? ⟨lb, lo + i * 11 + 2, none⟩ = some (.int .i64 n0) := fun t => HCN.out _ t.h.low
      have HRC : Hid (∀ y, Kp w wc [gc] y → y.rangeAt gc 0 C) := Lib.hid fun y hy => rngL ((hy.keep gc (by simp)).trans HGC.out)
      have HS1 := Lib.hid (Kp.base [gc] HB.out)
      refine wp_plan (.t 0 (.t 1 (.t 2 (.t 3 (.t 4 (.t 5 (.t 6 (.t 7 (.t 9 (.u 8 (.t 10 .done))))))))))) (fun y => Kp w wc [gc] y) (by kernel_rfl) (by kernel_rfl) (by kernel_rfl) (fun c a d v w h => by first | (cases d <;> exact h) | exact HKP.out c a d v w h) HS1.out.drew ?_
      haveI hne : Nonempty (In fun y => Kp w wc [gc] y) := ⟨⟨wc, HS1.out⟩⟩
      repeat (first | (refine plan_t_load (by rfl) (by kernel_rfl) 30 _ rfl gc 0 rfl C _ (fun y hy => HRC.out y hy) Try.underlying30 rfl (by rw [HCLV.out]; rfl) ?_; simp only [Act.put, List.setIfInBounds_toArray, List.set_cons_succ, List.set_cons_zero]) | (refine plan_t (by rfl) ?_; (first | go_big_quiet_skip | (go_big_quiet_want; go_big_quiet_op; go_big_quiet_on)); refine wpQuiet_nil ?_))
      clear f1 HRC
      rw [HNN.out]
      have hS := HS1.out.drew
      replace HM := Lib.hid (HM.out.below (Below.refl _ _).drew); replace HR := Lib.hid (HR.out.below (Below.refl _ _).drew)
      clear HS1
      have hgc0 : wc.drew.heap[gc]? = wc.heap[gc]? := rfl
      have hsz0 : wc.drew.heap.size = wc.heap.size := rfl
      replace HGC : Hid (wc.drew.heap[gc]? = some (.cells C.toArray 30 (0, 0))) := HGC
      replace HDL : Hid (∀ x ∈ [gc, p, g], x < wc.drew.heap.size) := HDL
      generalize hwd : wc.drew = W0 at hS HM HR HGC HDL ⊢
      clear hwd hgc0 hsz0
      refine plan_us (by rfl) (by kernel_rfl) ?_
      intro K hK
      go_wp2_with fail
      refine Calls.mono (HPU.out _ HM.out) ?_
      rintro e w2 ⟨h2t, ⟨_, hf, _⟩ | ⟨_, rfl, hM2⟩⟩
      · omega
      have HM2 := Lib.hid (hM2 _ (putTo_app HM.out.nd HNM.out nn))
      clear hM2
      have HNG' : Hid (w.heap.size ≤ g ∧ gc ≠ g) := Lib.hid ⟨HGG.out, HNG.out.2.1⟩
      have hS2 : Kp w wc [gc] w2 := ⟨Two.low hS.low hS.low.size h2t HP.out HGG.out, fun x hx => by rw [List.mem_singleton] at hx; subst hx; exact (h2t.block x (lt_of_block HGC.out) HNG.out.1 HNG.out.2.1).trans (hS.keep x (by simp))⟩
      replace HR := Lib.hid (HR.out.two h2t (by simp) (by simp))
      replace HGC := Lib.hid (h2t.row HGC.out HNG.out.1 HNG.out.2.1)
      replace HDL : Hid (∀ x ∈ [gc, p, g], x < w2.heap.size) := Lib.hid fun x hx => Nat.lt_of_lt_of_le (HDL.out x hx) h2t.size
      replace HB := Lib.hid hS2.low
      go_wp2_with fail
      refine ⟨hS2, ?_⟩
      clear hS hS2 h2t HM HPU
      repeat (refine plan_t (by rfl) ?_; (first | go_big_quiet_skip | (go_big_quiet_want; go_big_quiet_op; go_big_quiet_on)); refine wpQuiet_nil ?_)
      clear hne
      show Exit.then _ _ _ _ _
      have HGD : Hid (gc ∈ [gc, p, g]) := Lib.hid (by simp)
      go_upto_region 23 with fail
      refine play_more _ hiL hi hL hnb hnn HNN (by omega) HCL HCW HCLV HC HGD HCN HB HR HDL HGC (fun c a d v w h => by first | (cases d <;> exact h) | exact HKP.out c a d v w h) ?_
      rintro _ _ _ _ _ _ _ _ _ _ _ _ _ ac2 an2 kc2 kn2 w5 hk hr
      have HM3 := Lib.hid (HM2.out.keepPG (hk.keep p (by simp)) (hk.keep g (by simp)))
      have HG3 := Lib.hid ((hk.keep gc (by simp)).trans HGC.out)
      have HB3 := Lib.hid hk.low
      have HR3 := Lib.hid hr
      clear hk hr
      go_wp2_with fail
      exact HK.out _ _ _ _ _ _ _ _ _ _ _ _ _ _ _ _ _ _ _ _ _ _ _ _ _ _ _ _ _ _ _ _ _ _ _ _ _ _ _ _ _ _ _ _ _ _ _ _ _ _ _ _ _ _ _ _ _ _ _ _ _ _ _ _ _ _ _ _ _ _ _ _ _ _ _ _ _ _ _ _ _ _ _ _ _ _ _ _ _ _ _ _ _ _ _ _ _ _ _ _ _ _ _ _ _ _ _ _ _ _ _ _ _ _ _ _ _ _ _ _ _ _ _ _ _ _ _ _ _ _ _ _ _ _ _ _ _ _ HB3 HM3 HR3 HG3 HNG'
    · skip
      have HNM : Hid (∀ m, (c, m) ∉ ps) := Lib.hid fun m hm => by
        obtain ⟨q, hq⟩ := List.getElem?_of_mem hm
        exact HNO.out q m (lt_of_get hq) hq
      have hr1 : ¬ ((ps.length : Int) < (N : Int) / 4 * 3) := by omega
      have HPU := Lib.hid (fun W (h : Mp W N p g ps) => mput_any W N p g ps c nn h HCL.out HCW.out (by omega))
      rw [HC.out] at HPU
      go_upto_region 18 with (first | ((with_reducible refine Calls.mono (HPC.out _) ?_); rintro e wq ⟨rfl, hq⟩; obtain rfl := hq.symm; clear hq) | fail)
      have f1 : ∀ t : In (fun y => Kp w wc [gc] y), t.w.cell? ⟨lb, lo + i * 11 + 2, none⟩ = some (.int .i64 n0) := fun t => HCN.out _ t.h.low
      have HRC : Hid (∀ y, Kp w wc [gc] y → y.rangeAt gc 0 C) := Lib.hid fun y hy => rngL ((hy.keep gc (by simp)).trans HGC.out)
      have HS1 := Lib.hid (Kp.base [gc] HB.out)
      refine wp_plan (.t 0 (.t 1 (.t 2 (.t 3 (.t 4 (.t 5 (.t 6 (.t 7 (.t 9 (.u 8 (.t 10 .done))))))))))) (fun y => Kp w wc [gc] y) (by kernel_rfl) (by kernel_rfl) (by kernel_rfl) (fun c a d v w h => by first | (cases d <;> exact h) | exact HKP.out c a d v w h) HS1.out.drew ?_
      haveI hne : Nonempty (In fun y => Kp w wc [gc] y) := ⟨⟨wc, HS1.out⟩⟩
      repeat (first | (refine plan_t_load (by rfl) (by kernel_rfl) 30 _ rfl gc 0 rfl C _ (fun y hy => HRC.out y hy) Try.underlying30 rfl (by rw [HCLV.out]; rfl) ?_; simp only [Act.put, List.setIfInBounds_toArray, List.set_cons_succ, List.set_cons_zero]) | (refine plan_t (by rfl) ?_; (first | go_big_quiet_skip | (go_big_quiet_want; go_big_quiet_op; go_big_quiet_on)); refine wpQuiet_nil ?_))
      clear f1 HRC
      rw [HNN.out]
      have hS := HS1.out.drew
      replace HM := Lib.hid (HM.out.below (Below.refl _ _).drew); replace HR := Lib.hid (HR.out.below (Below.refl _ _).drew)
      clear HS1
      have hgc0 : wc.drew.heap[gc]? = wc.heap[gc]? := rfl
      have hsz0 : wc.drew.heap.size = wc.heap.size := rfl
      replace HGC : Hid (wc.drew.heap[gc]? = some (.cells C.toArray 30 (0, 0))) := HGC
      replace HDL : Hid (∀ x ∈ [gc, p, g], x < wc.drew.heap.size) := HDL
      generalize hwd : wc.drew = W0 at hS HM HR HGC HDL ⊢
      clear hwd hgc0 hsz0
      refine plan_us (by rfl) (by kernel_rfl) ?_
      intro K hK
      go_wp2_with fail
      refine Calls.mono (HPU.out _ HM.out) ?_
      rintro e w3 ⟨h2t, ⟨_, hf, rfl, hM2⟩ | ⟨hor, _, _⟩⟩
      rotate_left
      · exfalso
        rcases hor with ⟨m, hm⟩ | hr
        · exact HNM.out m hm
        · omega
      have HM2 := Lib.hid hM2
      clear hM2 hf
      have HNG' : Hid (w.heap.size ≤ g ∧ gc ≠ g) := Lib.hid ⟨HGG.out, HNG.out.2.1⟩
      have hS2 : Kp w wc [gc] w3 := ⟨Two.low hS.low hS.low.size h2t HP.out HGG.out, fun x hx => by rw [List.mem_singleton] at hx; subst hx; exact (h2t.block x (lt_of_block HGC.out) HNG.out.1 HNG.out.2.1).trans (hS.keep x (by simp))⟩
      replace HR := Lib.hid (HR.out.two h2t (by simp) (by simp))
      replace HGC := Lib.hid (h2t.row HGC.out HNG.out.1 HNG.out.2.1)
      replace HDL : Hid (∀ x ∈ [gc, p, g], x < w3.heap.size) := Lib.hid fun x hx => Nat.lt_of_lt_of_le (HDL.out x hx) h2t.size
      replace HB := Lib.hid hS2.low
      go_wp2_with fail
      refine ⟨hS2, ?_⟩
      clear hS hS2 h2t HM HPU
      repeat (refine plan_t (by rfl) ?_; (first | go_big_quiet_skip | (go_big_quiet_want; go_big_quiet_op; go_big_quiet_on)); refine wpQuiet_nil ?_)
      clear hne
      show Exit.then _ _ _ _ _
      go_wp2_with fail
      exact HK.out _ _ _ _ _ _ _ _ _ _ _ _ _ _ _ _ _ _ _ _ _ _ _ _ _ _ _ _ _ _ _ _ _ _ _ _ _ _ _ _ _ _ _ _ _ _ _ _ _ _ _ _ _ _ _ _ _ _ _ _ _ _ _ _ _ _ _ _ _ _ _ _ _ _ _ _ _ _ _ _ _ _ _ _ _ _ _ _ _ _ _ _ _ _ _ _ _ _ _ _ _ _ _ _ _ _ _ _ _ _ _ _ _ _ _ _ _ _ _ _ _ _ _ _ _ _ _ _ _ _ _ _ _ _ _ _ _ _ HB HM2 HR HGC HNG'
end Go.Proofs.Ytpngjokjjpdboaa
