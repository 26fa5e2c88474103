/- demux: the walk of play: its inner parts. -/
import Derived.Test.YtpngjokjjpdboaaDmx15
import Derived.Test.YtpngjokjjpdboaaDmx11
namespace Go.Proofs.Ytpngjokjjpdboaa
open Go.RowKit
set_option linter.unusedVariables false
set_option linter.unusedSimpArgs false

/-- a part of a function's text. -/
def subRegion (n : Nat) : Code → Option Code
  | .region k o d => if k = n then some (.region k o d) else none
  | .seq a b => match subRegion n a with
    | some c => some c
    | none => subRegion n b
  | .cond _ a b => match subRegion n a with
    | some c => some c
    | none => subRegion n b
  | .block _ c => subRegion n c
  | .loop c => subRegion n c
  | _ => none
def subBlock (n : Nat) : Code → Option Code
  | .block k c => if k = n then some (.block k c) else subBlock n c
  | .seq a b => match subBlock n a with
    | some c => some c
    | none => subBlock n b
  | .cond _ a b => match subBlock n a with
    | some c => some c
    | none => subBlock n b
  | .loop c => subBlock n c
  | _ => none
set_option maxRecDepth 100000 in
set_option maxHeartbeats 4000000 in
theorem play_find {x0 x1 x2 x3 x4 x5 x7 x8 x12 x13 x14 x15 x16 x17 x18 x19 x20 x21 x22 x23 x24 x25 x26 x27 x28 x29 x30 x31 x32 x33 x34 x35 x36 x37 x38 x39 x40 x41 x42 x43 x44 x45 x46 x47 x48 x49 x50 x51 x52 x53 x54 x55 x56 x57 x58 x59 x60 x61 x62 x63 x64 x65 x66 x67 x68 x69 x70 x71 x72 x73 x74 x75 x76 x77 x78 x79 x80 x81 x82 x83 x84 x85 x86 x87 x88 x89 x90 x91 x92 x93 x94 x95 x96 x97 x98 x99 x100 x101 x102 x103 x104 x105 x106 x107 x108 x109 x110 x111 x112 x113 x114 x115 x116 x117 x118 x119 x120 x121 x122 x123 x124 x125 x126 x127 x128 x129 x130 x131 x132 x133 x134 x135 x136 x137 x138 x139 x140 x141 x142 x143 x144 x145 x146 x147 x148 x149 x150 x151 x152 x153 x154 x155 x156 x157 x158 x159 x160 x161 x162 x163 x164 x165 x166 x167 x168 x169 x170 x171 x172 x173 x174 x175 x176 x177 x178 x179 x180 x181 x182 x183 x184 x185 x186 x187 x188 x189 x190 x191 x192 x193 x194 x195 x196 x197 x198 x199 x200 x201 x202 x203 x204 x205 x206 x207 x208 x209 x210 x211 x212 x213 x214 x215 x216 x217 x218 x219 x220 x221 x222 x223 x224 x225 x226 x227 x228 x229 x230 x231 x232 x233 x234 x235 x236 x237 x238 x239 x240 x241 x242 x243 x244 x245 x246 x247 x248 x249 x250 x251 x252 x253 x254 x255 x256 x257 x258 x259 x260 x261 x262 x263 x264 x265 x266 x267 x268 x269 x270 x271 x272 x273 x274 : Value} {w : World} {N p g gc : Nat} {ps : List (List Int × Int)} {ac an : Option Addr} {kc kn : Nat} {c : List Int} {C : List Value} (wc : World) {Q : Exit → Act → World → Prop}
    (hNb : 8 ≤ N ∧ N ≤ 4096) (HCL : Hid (c.length = 8)) (HCW : Hid (∀ x ∈ c, (Lit.int .u8 x).wf = true)) (HCLV : Hid (C.length = 8)) (HC : Hid (c.map (Value.int .u8) = C))
    (HB : Hid (Below w.heap.size w wc)) (HM : Hid (Mp wc N p g ps)) (HR : Hid (PRows wc w.heap.size [gc, p, g] ac kc an kn ps)) (HGC : Hid (wc.heap[gc]? = some (.cells C.toArray 30 (0, 0))))
    (hQp : ∀ c a d v w, Q (.panic c) (a.put d v) w → Q (.panic c) a w)
    (hQ : ∀ (y11 y49 y50 y51 y52 y53 y54 y55 y56 y57 y58 y59 y60 y61 : Value) (at' : Int) (w' : World), AtIs ps c ps.length at' → Hid (Below w.heap.size w w') ∧ Hid (Mp w' N p g ps) ∧ Hid (PRows w' w.heap.size [gc, p, g] ac kc an kn ps) ∧ Hid (w'.heap[gc]? = some (.cells C.toArray 30 (0, 0))) → Q .normal ⟨List.toArray (x0 :: x1 :: x2 :: x3 :: x4 :: x5 :: .slice ac ps.length kc :: x7 :: x8 :: .pointer (some ⟨gc, 0, none⟩) :: .int .i64 at' :: y11 :: x12 :: x13 :: x14 :: x15 :: x16 :: x17 :: x18 :: x19 :: x20 :: x21 :: x22 :: x23 :: x24 :: x25 :: x26 :: x27 :: x28 :: x29 :: x30 :: x31 :: x32 :: x33 :: x34 :: x35 :: x36 :: x37 :: x38 :: x39 :: x40 :: x41 :: x42 :: x43 :: x44 :: x45 :: x46 :: x47 :: x48 :: y49 :: y50 :: y51 :: y52 :: y53 :: y54 :: y55 :: y56 :: y57 :: y58 :: y59 :: y60 :: y61 :: x62 :: x63 :: x64 :: x65 :: x66 :: x67 :: x68 :: x69 :: x70 :: x71 :: x72 :: x73 :: x74 :: x75 :: x76 :: x77 :: x78 :: x79 :: x80 :: x81 :: x82 :: x83 :: x84 :: x85 :: x86 :: x87 :: x88 :: x89 :: x90 :: x91 :: x92 :: x93 :: x94 :: x95 :: x96 :: x97 :: x98 :: x99 :: x100 :: x101 :: x102 :: x103 :: x104 :: x105 :: x106 :: x107 :: x108 :: x109 :: x110 :: x111 :: x112 :: x113 :: x114 :: x115 :: x116 :: x117 :: x118 :: x119 :: x120 :: x121 :: x122 :: x123 :: x124 :: x125 :: x126 :: x127 :: x128 :: x129 :: x130 :: x131 :: x132 :: x133 :: x134 :: x135 :: x136 :: x137 :: x138 :: x139 :: x140 :: x141 :: x142 :: x143 :: x144 :: x145 :: x146 :: x147 :: x148 :: x149 :: x150 :: x151 :: x152 :: x153 :: x154 :: x155 :: x156 :: x157 :: x158 :: x159 :: x160 :: x161 :: x162 :: x163 :: x164 :: x165 :: x166 :: x167 :: x168 :: x169 :: x170 :: x171 :: x172 :: x173 :: x174 :: x175 :: x176 :: x177 :: x178 :: x179 :: x180 :: x181 :: x182 :: x183 :: x184 :: x185 :: x186 :: x187 :: x188 :: x189 :: x190 :: x191 :: x192 :: x193 :: x194 :: x195 :: x196 :: x197 :: x198 :: x199 :: x200 :: x201 :: x202 :: x203 :: x204 :: x205 :: x206 :: x207 :: x208 :: x209 :: x210 :: x211 :: x212 :: x213 :: x214 :: x215 :: x216 :: x217 :: x218 :: x219 :: x220 :: x221 :: x222 :: x223 :: x224 :: x225 :: x226 :: x227 :: x228 :: x229 :: x230 :: x231 :: x232 :: x233 :: x234 :: x235 :: x236 :: x237 :: x238 :: x239 :: x240 :: x241 :: x242 :: x243 :: x244 :: x245 :: x246 :: x247 :: x248 :: x249 :: x250 :: x251 :: x252 :: x253 :: x254 :: x255 :: x256 :: x257 :: x258 :: x259 :: x260 :: x261 :: x262 :: x263 :: x264 :: x265 :: x266 :: x267 :: x268 :: x269 :: x270 :: x271 :: x272 :: x273 :: x274 :: []), []⟩ w') :
    Code.wp Try.prog (((Try.f19.body.bind (subBlock 2)).getD .skip)) Q ⟨List.toArray (x0 :: x1 :: x2 :: x3 :: x4 :: x5 :: .slice ac ps.length kc :: x7 :: x8 :: .pointer (some ⟨gc, 0, none⟩) :: .int .i64 (-1) :: .int .i64 0 :: x12 :: x13 :: x14 :: x15 :: x16 :: x17 :: x18 :: x19 :: x20 :: x21 :: x22 :: x23 :: x24 :: x25 :: x26 :: x27 :: x28 :: x29 :: x30 :: x31 :: x32 :: x33 :: x34 :: x35 :: x36 :: x37 :: x38 :: x39 :: x40 :: x41 :: x42 :: x43 :: x44 :: x45 :: x46 :: x47 :: x48 :: x49 :: x50 :: x51 :: x52 :: x53 :: x54 :: x55 :: x56 :: x57 :: x58 :: x59 :: x60 :: x61 :: x62 :: x63 :: x64 :: x65 :: x66 :: x67 :: x68 :: x69 :: x70 :: x71 :: x72 :: x73 :: x74 :: x75 :: x76 :: x77 :: x78 :: x79 :: x80 :: x81 :: x82 :: x83 :: x84 :: x85 :: x86 :: x87 :: x88 :: x89 :: x90 :: x91 :: x92 :: x93 :: x94 :: x95 :: x96 :: x97 :: x98 :: x99 :: x100 :: x101 :: x102 :: x103 :: x104 :: x105 :: x106 :: x107 :: x108 :: x109 :: x110 :: x111 :: x112 :: x113 :: x114 :: x115 :: x116 :: x117 :: x118 :: x119 :: x120 :: x121 :: x122 :: x123 :: x124 :: x125 :: x126 :: x127 :: x128 :: x129 :: x130 :: x131 :: x132 :: x133 :: x134 :: x135 :: x136 :: x137 :: x138 :: x139 :: x140 :: x141 :: x142 :: x143 :: x144 :: x145 :: x146 :: x147 :: x148 :: x149 :: x150 :: x151 :: x152 :: x153 :: x154 :: x155 :: x156 :: x157 :: x158 :: x159 :: x160 :: x161 :: x162 :: x163 :: x164 :: x165 :: x166 :: x167 :: x168 :: x169 :: x170 :: x171 :: x172 :: x173 :: x174 :: x175 :: x176 :: x177 :: x178 :: x179 :: x180 :: x181 :: x182 :: x183 :: x184 :: x185 :: x186 :: x187 :: x188 :: x189 :: x190 :: x191 :: x192 :: x193 :: x194 :: x195 :: x196 :: x197 :: x198 :: x199 :: x200 :: x201 :: x202 :: x203 :: x204 :: x205 :: x206 :: x207 :: x208 :: x209 :: x210 :: x211 :: x212 :: x213 :: x214 :: x215 :: x216 :: x217 :: x218 :: x219 :: x220 :: x221 :: x222 :: x223 :: x224 :: x225 :: x226 :: x227 :: x228 :: x229 :: x230 :: x231 :: x232 :: x233 :: x234 :: x235 :: x236 :: x237 :: x238 :: x239 :: x240 :: x241 :: x242 :: x243 :: x244 :: x245 :: x246 :: x247 :: x248 :: x249 :: x250 :: x251 :: x252 :: x253 :: x254 :: x255 :: x256 :: x257 :: x258 :: x259 :: x260 :: x261 :: x262 :: x263 :: x264 :: x265 :: x266 :: x267 :: x268 :: x269 :: x270 :: x271 :: x272 :: x273 :: x274 :: []), []⟩ wc := by
  have HK := Lib.hid hQ; have HKP := Lib.hid hQp
  clear hQ hQp
  conv => arg 2; whnf
  go_wp2_with fail
  go_loopw [10, 11] (fun s10 s11 wx => ∃ (k : Nat) (at' : Int), s10 = .int .i64 at' ∧ s11 = .int .i64 k ∧ k ≤ ps.length ∧ AtIs ps c k at' ∧ Hid (Below w.heap.size w wx) ∧ Hid (Mp wx N p g ps) ∧ Hid (PRows wx w.heap.size [gc, p, g] ac kc an kn ps) ∧ Hid (wx.heap[gc]? = some (.cells C.toArray 30 (0, 0)))) (fun _ s _ => ps.length - (intOf s).toNat)
  case atStart => exact ⟨0, -1, rfl, rfl, Nat.zero_le _, AtIs.zero _ _, HB, HM, HR, HGC⟩
  case round =>
    clear HB HM HR HGC
    obtain ⟨k, at', rfl, rfl, hk, hat, HB, HM, HR, HGC⟩ := hrel
    have HAT := Lib.hid hat
    have hcap := HR.out.cap
    have hlen := HM.out.bd.2.2.1
    clear hat
    by_cases hlt : k < ps.length
    · skip
      obtain ⟨⟨ck, mk⟩, hq⟩ : ∃ q, ps[k]? = some q := ⟨_, List.getElem?_eq_getElem hlt⟩
      obtain ⟨bc, bn, rfl, rfl, hrc, _, _, hbc, _, _⟩ := HR.out.at hq
      have hok := HR.out.ok _ (List.mem_of_getElem? hq)
      have HQ := Lib.hid hq
      have HOK := Lib.hid hok
      have hgl := lt_of_block HGC.out
      have HR8 : Hid (∀ y, Below wr.heap.size wr y → y.rangeAt bc (k * 8) (ck.map (Value.int .u8))) := Lib.hid fun y hy j v hv => bl_cell (p := ⟨bc, k * 8 + j, none⟩) hy hbc (hrc j v hv)
      have HRC : Hid (∀ y, Below wr.heap.size wr y → y.rangeAt gc 0 C) := Lib.hid fun y hy => rngL (bl_row hy hgl HGC.out)
      have HXL : Hid ((ck.map (Value.int .u8)).length = 8) := Lib.hid (by rw [List.length_map]; exact HOK.out.1)
      obtain ⟨eb, heb⟩ : ∃ b, (ck == c) = b := ⟨_, rfl⟩
      have HEB := Lib.hid heb
      have HEQ : Hid (∀ y, (binOp .eql 30 (.agg (ck.map (Value.int .u8)).toArray) (.agg C.toArray)).run Try.prog y = .ok (.bool eb) y) := Lib.hid fun y => by
        have h := eql_bytes y 30 8 Try.underlying30 ck c HOK.out.1 HCL.out HOK.out.2.1 HCW.out
        rw [HC.out] at h; rw [h, heb]
      have HEQ2 : Hid (∀ y, (Op.equalIn 10000 30 (.agg (ck.map (Value.int .u8)).toArray) (.agg C.toArray)).run Try.prog y = .ok eb y) := Lib.hid fun y => by
        have h := eqin_bytes y 30 8 Try.underlying30 ck c HOK.out.1 HCL.out HOK.out.2.1 HCW.out
        rw [HC.out] at h; rw [h, heb]
      obtain ⟨XC, hXC⟩ : ∃ XC, ck.map (Value.int .u8) = XC := ⟨_, rfl⟩
      rw [hXC] at HR8 HXL HEQ HEQ2
      clear hXC hrc hbc hgl hok hq heb
      have feq : ∀ t : In (fun y => Below wr.heap.size wr y), (binOp .eql 30 (.agg XC.toArray) (.agg C.toArray)).run Try.prog t.w = .ok (.bool eb) t.w := fun t => HEQ.out t.w
      have feq2 : ∀ t : In (fun y => Below wr.heap.size wr y), (Op.equalIn 10000 30 (.agg XC.toArray) (.agg C.toArray)).run Try.prog t.w = .ok eb t.w := fun t => HEQ2.out t.w
      go_upto_region 14 with fail
      refine wp_plan (.t 0 (.t 1 (.t 2 (.t 3 (.t 4 (.t 5 .done)))))) (fun y => Below wr.heap.size wr y) (by kernel_rfl) (by kernel_rfl) (by kernel_rfl) (fun c a d v w h => by first | (cases d <;> exact h) | exact HKP.out c a d v w h) (Below.refl _ _).drew ?_
      have hS : Below wr.heap.size wr wr.drew := (Below.refl _ _).drew
      generalize wr.drew = Wa at hS ⊢
      haveI hne : Nonempty (In fun y => Below wr.heap.size wr y) := ⟨⟨wr, Below.refl _ _⟩⟩
      repeat (first | (refine plan_t_load (by rfl) (by kernel_rfl) 30 _ rfl bc (k * 8) rfl XC _ (fun y hy => HR8.out y hy) Try.underlying30 rfl (by rw [HXL.out]; rfl) ?_; simp only [Act.put, List.setIfInBounds_toArray, List.set_cons_succ, List.set_cons_zero]) | (refine plan_t_load (by rfl) (by kernel_rfl) 30 _ rfl gc 0 rfl C _ (fun y hy => HRC.out y hy) Try.underlying30 rfl (by rw [HCLV.out]; rfl) ?_; simp only [Act.put, List.setIfInBounds_toArray, List.set_cons_succ, List.set_cons_zero]) | (refine plan_t (by rfl) ?_; (first | go_big_quiet_skip | (go_big_quiet_want; go_big_quiet_op; go_big_quiet_on)); refine wpQuiet_nil ?_))
      clear feq feq2 HEQ HEQ2 HR8 HRC
      replace HB := Lib.hid (bl_next HB.out HB.out.size hS)
      replace HGC := Lib.hid (bl_row hS (lt_of_block HGC.out) HGC.out)
      replace HM := Lib.hid (HM.out.below hS)
      replace HR := Lib.hid (HR.out.below hS)
      clear hS
      clear hne
      show Exit.then _ _ _ _ _
      cases eb with
      | true =>
        obtain rfl : ck = c := by have := HEB.out; simpa using this
        go_wp2_with fail
        go_roundw
        case rel => exact ⟨k + 1, k, rfl, by go_num, by omega, AtIs.hit HQ.out, HB, HM, HR, HGC⟩
        case measure => simp [intOf]; omega
      | false =>
        have HNE : Hid (ck ≠ c) := Lib.hid (by have := HEB.out; simpa using this)
        go_wp2_with fail
        go_roundw
        case rel => exact ⟨k + 1, at', rfl, by go_num, by omega, AtIs.miss HAT.out HQ.out HNE.out, HB, HM, HR, HGC⟩
        case measure => simp [intOf]; omega
    · obtain rfl : k = ps.length := by omega
      go_wp2_with fail
      exact HK.out _ _ _ _ _ _ _ _ _ _ _ _ _ _ at' _ HAT.out ⟨HB, HM, HR, HGC⟩
set_option maxRecDepth 100000 in
set_option maxHeartbeats 4000000 in
theorem play_cut {x0 x1 x2 x3 x4 x5 x8 x9 x11 x12 x13 x14 x15 x16 x17 x18 x19 x20 x21 x22 x23 x24 x25 x26 x27 x28 x29 x30 x31 x32 x33 x34 x35 x36 x37 x38 x39 x40 x41 x42 x43 x44 x45 x46 x47 x48 x49 x50 x51 x52 x53 x54 x55 x56 x57 x58 x59 x60 x61 x62 x63 x64 x65 x66 x67 x68 x69 x70 x71 x72 x73 x74 x75 x76 x77 x78 x79 x80 x81 x82 x83 x84 x85 x86 x87 x88 x89 x90 x91 x92 x93 x94 x95 x96 x97 x98 x99 x100 x101 x102 x103 x104 x105 x106 x107 x108 x109 x110 x111 x112 x113 x114 x115 x116 x117 x118 x119 x120 x121 x122 x123 x124 x125 x126 x127 x128 x129 x130 x131 x132 x133 x134 x135 x136 x137 x138 x139 x140 x141 x142 x143 x144 x145 x146 x147 x148 x149 x150 x151 x152 x153 x154 x155 x156 x157 x158 x159 x160 x161 x162 x163 x164 x165 x166 x167 x168 x169 x170 x171 x172 x173 x174 x175 x176 x177 x178 x179 x180 x181 x182 x183 x184 x185 x186 x187 x188 x189 x190 x191 x192 x193 x194 x195 x196 x197 x198 x199 x200 x201 x202 x203 x204 x205 x206 x207 x208 x209 x210 x211 x212 x213 x214 x215 x216 x217 x218 x219 x220 x221 x222 x223 x224 x225 x226 x227 x228 x229 x230 x231 x232 x233 x234 x235 x236 x237 x238 x239 x240 x241 x242 x243 x244 x245 x246 x247 x248 x249 x250 x251 x252 x253 x254 x255 x256 x257 x258 x259 x260 x261 x262 x263 x264 x265 x266 x267 x268 x269 x270 x271 x272 x273 x274 : Value} {B : Nat} {D : List Nat} {ps : List (List Int × Int)} {ac an : Option Addr} {kc kn q : Nat} {c : List Int} {m : Int} (wc : World) {Q : Exit → Act → World → Prop}
    (hlen : ps.length ≤ 4000) (HQ : Hid (ps[q]? = some (c, m))) (hB : B ≤ wc.heap.size) (HR : Hid (PRows wc B D ac kc an kn ps)) (HDL : Hid (∀ x ∈ D, x < wc.heap.size))
    (hQp : ∀ c a d v w, Q (.panic c) (a.put d v) w → Q (.panic c) a w)
    (hQ : ∀ (y124 y125 y126 y127 y128 y129 y130 y131 y132 y133 y134 y135 y136 y137 y138 y139 y140 y141 y142 y143 : Value) (ac' an' : Option Addr) (kc' kn' : Nat) (w' : World), Below wc.heap.size wc w' → PRows w' B D ac' kc' an' kn' (cutAt ps q) → Q .normal ⟨List.toArray (x0 :: x1 :: x2 :: x3 :: x4 :: x5 :: .slice ac' (cutAt ps q).length kc' :: .slice an' (cutAt ps q).length kn' :: x8 :: x9 :: .int .i64 q :: x11 :: x12 :: x13 :: x14 :: x15 :: x16 :: x17 :: x18 :: x19 :: x20 :: x21 :: x22 :: x23 :: x24 :: x25 :: x26 :: x27 :: x28 :: x29 :: x30 :: x31 :: x32 :: x33 :: x34 :: x35 :: x36 :: x37 :: x38 :: x39 :: x40 :: x41 :: x42 :: x43 :: x44 :: x45 :: x46 :: x47 :: x48 :: x49 :: x50 :: x51 :: x52 :: x53 :: x54 :: x55 :: x56 :: x57 :: x58 :: x59 :: x60 :: x61 :: x62 :: x63 :: x64 :: x65 :: x66 :: x67 :: x68 :: x69 :: x70 :: x71 :: x72 :: x73 :: x74 :: x75 :: x76 :: x77 :: x78 :: x79 :: x80 :: x81 :: x82 :: x83 :: x84 :: x85 :: x86 :: x87 :: x88 :: x89 :: x90 :: x91 :: x92 :: x93 :: x94 :: x95 :: x96 :: x97 :: x98 :: x99 :: x100 :: x101 :: x102 :: x103 :: x104 :: x105 :: x106 :: x107 :: x108 :: x109 :: x110 :: x111 :: x112 :: x113 :: x114 :: x115 :: x116 :: x117 :: x118 :: x119 :: x120 :: x121 :: x122 :: x123 :: y124 :: y125 :: y126 :: y127 :: y128 :: y129 :: y130 :: y131 :: y132 :: y133 :: y134 :: y135 :: y136 :: y137 :: y138 :: y139 :: y140 :: y141 :: y142 :: y143 :: x144 :: x145 :: x146 :: x147 :: x148 :: x149 :: x150 :: x151 :: x152 :: x153 :: x154 :: x155 :: x156 :: x157 :: x158 :: x159 :: x160 :: x161 :: x162 :: x163 :: x164 :: x165 :: x166 :: x167 :: x168 :: x169 :: x170 :: x171 :: x172 :: x173 :: x174 :: x175 :: x176 :: x177 :: x178 :: x179 :: x180 :: x181 :: x182 :: x183 :: x184 :: x185 :: x186 :: x187 :: x188 :: x189 :: x190 :: x191 :: x192 :: x193 :: x194 :: x195 :: x196 :: x197 :: x198 :: x199 :: x200 :: x201 :: x202 :: x203 :: x204 :: x205 :: x206 :: x207 :: x208 :: x209 :: x210 :: x211 :: x212 :: x213 :: x214 :: x215 :: x216 :: x217 :: x218 :: x219 :: x220 :: x221 :: x222 :: x223 :: x224 :: x225 :: x226 :: x227 :: x228 :: x229 :: x230 :: x231 :: x232 :: x233 :: x234 :: x235 :: x236 :: x237 :: x238 :: x239 :: x240 :: x241 :: x242 :: x243 :: x244 :: x245 :: x246 :: x247 :: x248 :: x249 :: x250 :: x251 :: x252 :: x253 :: x254 :: x255 :: x256 :: x257 :: x258 :: x259 :: x260 :: x261 :: x262 :: x263 :: x264 :: x265 :: x266 :: x267 :: x268 :: x269 :: x270 :: x271 :: x272 :: x273 :: x274 :: []), []⟩ w') :
    Code.wp Try.prog (((Try.f19.body.bind (subRegion 28)).getD .skip)) Q ⟨List.toArray (x0 :: x1 :: x2 :: x3 :: x4 :: x5 :: .slice ac ps.length kc :: .slice an ps.length kn :: x8 :: x9 :: .int .i64 q :: x11 :: x12 :: x13 :: x14 :: x15 :: x16 :: x17 :: x18 :: x19 :: x20 :: x21 :: x22 :: x23 :: x24 :: x25 :: x26 :: x27 :: x28 :: x29 :: x30 :: x31 :: x32 :: x33 :: x34 :: x35 :: x36 :: x37 :: x38 :: x39 :: x40 :: x41 :: x42 :: x43 :: x44 :: x45 :: x46 :: x47 :: x48 :: x49 :: x50 :: x51 :: x52 :: x53 :: x54 :: x55 :: x56 :: x57 :: x58 :: x59 :: x60 :: x61 :: x62 :: x63 :: x64 :: x65 :: x66 :: x67 :: x68 :: x69 :: x70 :: x71 :: x72 :: x73 :: x74 :: x75 :: x76 :: x77 :: x78 :: x79 :: x80 :: x81 :: x82 :: x83 :: x84 :: x85 :: x86 :: x87 :: x88 :: x89 :: x90 :: x91 :: x92 :: x93 :: x94 :: x95 :: x96 :: x97 :: x98 :: x99 :: x100 :: x101 :: x102 :: x103 :: x104 :: x105 :: x106 :: x107 :: x108 :: x109 :: x110 :: x111 :: x112 :: x113 :: x114 :: x115 :: x116 :: x117 :: x118 :: x119 :: x120 :: x121 :: x122 :: x123 :: x124 :: x125 :: x126 :: x127 :: x128 :: x129 :: x130 :: x131 :: x132 :: x133 :: x134 :: x135 :: x136 :: x137 :: x138 :: x139 :: x140 :: x141 :: x142 :: x143 :: x144 :: x145 :: x146 :: x147 :: x148 :: x149 :: x150 :: x151 :: x152 :: x153 :: x154 :: x155 :: x156 :: x157 :: x158 :: x159 :: x160 :: x161 :: x162 :: x163 :: x164 :: x165 :: x166 :: x167 :: x168 :: x169 :: x170 :: x171 :: x172 :: x173 :: x174 :: x175 :: x176 :: x177 :: x178 :: x179 :: x180 :: x181 :: x182 :: x183 :: x184 :: x185 :: x186 :: x187 :: x188 :: x189 :: x190 :: x191 :: x192 :: x193 :: x194 :: x195 :: x196 :: x197 :: x198 :: x199 :: x200 :: x201 :: x202 :: x203 :: x204 :: x205 :: x206 :: x207 :: x208 :: x209 :: x210 :: x211 :: x212 :: x213 :: x214 :: x215 :: x216 :: x217 :: x218 :: x219 :: x220 :: x221 :: x222 :: x223 :: x224 :: x225 :: x226 :: x227 :: x228 :: x229 :: x230 :: x231 :: x232 :: x233 :: x234 :: x235 :: x236 :: x237 :: x238 :: x239 :: x240 :: x241 :: x242 :: x243 :: x244 :: x245 :: x246 :: x247 :: x248 :: x249 :: x250 :: x251 :: x252 :: x253 :: x254 :: x255 :: x256 :: x257 :: x258 :: x259 :: x260 :: x261 :: x262 :: x263 :: x264 :: x265 :: x266 :: x267 :: x268 :: x269 :: x270 :: x271 :: x272 :: x273 :: x274 :: []), []⟩ wc := by
  have HK := Lib.hid hQ; have HKP := Lib.hid hQp
  clear hQ hQp
  conv => arg 2; whnf
  have hcap := HR.out.cap
  have hq1 := lt_of_get HQ.out
  obtain ⟨bc, bn, rfl, rfl, _, _, _, hbc, _, hbn⟩ := HR.out.at HQ.out
  have HQL := Lib.hid hq1
  have E1 : IntKind.i64.wrap ((q : Int) + 1) = (q : Int) + 1 := IntWalk.i64_in _ (by omega)
  have E2 : ((q : Int) + 1).toNat = q + 1 := by omega
  have E3 : (0 : Int) ≤ (q : Int) + 1 := by omega
  have E4 : (q : Int) + 1 ≤ (ps.length : Int) := by omega
  have E5 : (q : Int) ≤ (kc : Int) := by omega
  have E6 : (q : Int) ≤ (kn : Int) := by omega
  have HCT : Hid (∀ y, Below wc.heap.size wc y → ∀ j u, (cC (ps.take q))[j]? = some u → y.cell? ((⟨bc, 0, none⟩ : Addr).add j) = some u) := Lib.hid fun y hy j u hu => by
    have hl := HQL.out
    obtain ⟨_, _, _, h1 | ⟨b, h1, _, h3, h4⟩⟩ := own_addr HR.out.oc
    · cases h1.1
    · injection h1 with h1; injection h1 with h1; subst h1; rw [add_none, Nat.zero_add]; exact bl_cell hy (p := ⟨bc, j, none⟩) h3 (h4 _ _ (cC_take HR.out.ok q (by omega) j u hu))
  have HNT : Hid (∀ y, Below wc.heap.size wc y → ∀ j u, (nC (ps.take q))[j]? = some u → y.cell? ((⟨bn, 0, none⟩ : Addr).add j) = some u) := Lib.hid fun y hy j u hu => by
    obtain ⟨_, _, _, h1 | ⟨b, h1, _, h3, h4⟩⟩ := own_addr HR.out.on
    · cases h1.1
    · injection h1 with h1; injection h1 with h1; subst h1; rw [add_none, Nat.zero_add]; exact bl_cell hy (p := ⟨bn, j, none⟩) h3 (h4 _ _ (nC_take ps q j u hu))
  obtain ⟨ad1, had1, hsd1⟩ : ∃ ad, (if kc = q + 1 then some (⟨bc, 0, none⟩ : Addr) else some ⟨bc, (q + 1) * 8, none⟩) = some ad ∧ (∀ y, Below wc.heap.size wc y → ∀ j u, (cC (ps.drop (q + 1)))[j]? = some u → y.cell? (ad.add j) = some u) := by
    have hl := HQL.out
    obtain ⟨_, _, _, h1 | ⟨b, h1, _, h3, h4⟩⟩ := own_addr HR.out.oc
    · cases h1.1
    · injection h1 with h1; injection h1 with h1; subst h1
      by_cases hk : kc = q + 1
      · rw [if_pos hk]; refine ⟨_, rfl, fun y hy j u hu => ?_⟩
        rw [List.drop_eq_nil_of_le (by omega)] at hu; simp [cC] at hu
      · rw [if_neg hk]; refine ⟨_, rfl, fun y hy j u hu => ?_⟩
        rw [add_none]; exact bl_cell hy (p := ⟨bc, (q + 1) * 8 + j, none⟩) h3 (h4 _ _ (cC_drop HR.out.ok (q + 1) (by omega) j u hu))
  obtain ⟨ad2, had2, hsd2⟩ : ∃ ad, (if kn = q + 1 then some (⟨bn, 0, none⟩ : Addr) else some ⟨bn, q + 1, none⟩) = some ad ∧ (∀ y, Below wc.heap.size wc y → ∀ j u, (nC (ps.drop (q + 1)))[j]? = some u → y.cell? (ad.add j) = some u) := by
    have hl := HQL.out
    obtain ⟨_, _, _, h1 | ⟨b, h1, _, h3, h4⟩⟩ := own_addr HR.out.on
    · cases h1.1
    · injection h1 with h1; injection h1 with h1; subst h1
      by_cases hk : kn = q + 1
      · rw [if_pos hk]; refine ⟨_, rfl, fun y hy j u hu => ?_⟩
        rw [List.drop_eq_nil_of_le (by omega)] at hu; simp [nC] at hu
      · rw [if_neg hk]; refine ⟨_, rfl, fun y hy j u hu => ?_⟩
        rw [add_none]; exact bl_cell hy (p := ⟨bn, q + 1 + j, none⟩) h3 (h4 _ _ (nC_drop ps (q + 1) j u hu))
  have HSD1 := Lib.hid hsd1; have HSD2 := Lib.hid hsd2; have HAD1 := Lib.hid had1; have HAD2 := Lib.hid had2
  have HTL : Hid ((ps.take q).length = q ∧ (ps.drop (q + 1)).length = ps.length - (q + 1)) := Lib.hid ⟨by rw [List.length_take]; omega, by rw [List.length_drop]⟩
  have HOKT := Lib.hid (HR.out.ok.take q); have HOKD := Lib.hid (HR.out.ok.drop (q + 1))
  have HSZ := Lib.hid hB
  unfold cutAt at HK
  clear hsd1 hsd2 had1 had2 hbc hbn HR
  generalize ps.take q = T at HTL HCT HNT HOKT HK
  generalize ps.drop (q + 1) = R at HTL HSD1 HSD2 HOKD HK
  refine wp_plan (.t 1 (.t 2 (.t 3 (.t 5 (.t 6 (.t 7 (.t 8 (.t 11 (.t 12 (.t 13 (.t 15 (.t 16 (.t 17 (.t 18 (.b 0 (.b 4 (.b 9 (.u 10 (.u 14 (.u 19 (.t 20 (.t 21 .done))))) 10 (.u 9 (.u 14 (.u 19 (.t 20 (.t 21 .done)))))) 10 (.u 4 (.u 9 (.u 14 (.u 19 (.t 20 (.t 21 .done))))))) 10 (.u 0 (.u 4 (.u 9 (.u 14 (.u 19 (.t 20 (.t 21 .done)))))))))))))))))))))) (fun y => Below wc.heap.size wc y) (by kernel_rfl) (by kernel_rfl) (by kernel_rfl) (fun c a d v w h => by first | (cases d <;> exact h) | exact HKP.out c a d v w h) (Below.refl _ _).drew ?_
  have hS : Below wc.heap.size wc wc.drew := (Below.refl _ _).drew
  generalize wc.drew = W0 at hS ⊢
  haveI hne : Nonempty (In fun y => Below wc.heap.size wc y) := ⟨⟨wc, Below.refl _ _⟩⟩
  repeat (refine plan_t (by rfl) ?_; (first | go_big_quiet_skip | (go_big_quiet_want; go_big_quiet_op; go_big_quiet_on)); refine wpQuiet_nil ?_)
  rw [HAD1.out, HAD2.out]
  clear E1 E2 E3 E4 E5 E6 HAD1 HAD2
  have hP := PR2.empty W0 wc.heap.size D (fun x hx => Nat.lt_of_lt_of_le (HDL.out x hx) hS.size)
  refine plan_b ?_ ?_
  · refine plan_half (by rfl) (by kernel_rfl) ?_
    intro K hK
    go_wp2_with fail
    refine ⟨hS.alloc hS.size _, ?_⟩
    replace hP := hP.mkC hS.size
    replace hS := hS.alloc hS.size (.cells #[] 30)
    generalize W0.alloc (.cells #[] 30) = w1 at hS hP ⊢
    generalize W0.heap.size = bw1 at hP ⊢
    refine plan_b ?_ ?_
    · refine plan_half (by rfl) (by kernel_rfl) ?_
      intro K hK
      refine wp_app_cid _ _ rfl wc.heap.size _ _ _ T rfl hP.oc ⟨bc, 0, none⟩ _ _ rfl HOKT.out (by exact HTL.out.1) (HCT.out _ hS) (by simp [HTL.out.1, HTL.out.2]; omega) hS.size ?_
      intro v w2 hown hgr hor
      obtain ⟨aw2, kw2, rfl, hP2⟩ := hP.appC HOKT.out (by exact HTL.out.1) hown hgr hor
      have hS2 := hS.grown hgr hS.size hP.lowC
      refine hK _ _ ⟨hS2, ?_⟩
      clear hP hS hown hgr hor hK K
      have hP := hP2; have hS := hS2
      clear hP2 hS2
      simp only [Act.put, List.setIfInBounds_toArray, List.set_cons_succ, List.set_cons_zero]
      refine plan_b ?_ ?_
      · refine plan_half (by rfl) (by kernel_rfl) ?_
        intro K hK
        refine wp_app_cid _ _ rfl wc.heap.size _ _ _ R rfl hP.oc ad1 _ _ rfl HOKD.out (by exact HTL.out.2) (HSD1.out _ hS) (by simp [HTL.out.1, HTL.out.2]; omega) hS.size ?_
        intro v w3 hown hgr hor
        obtain ⟨aw3, kw3, rfl, hP2⟩ := hP.appC HOKD.out (by exact HTL.out.2) hown hgr hor
        have hS2 := hS.grown hgr hS.size hP.lowC
        refine hK _ _ ⟨hS2, ?_⟩
        clear hP hS hown hgr hor hK K
        have hP := hP2; have hS := hS2
        clear hP2 hS2
        simp only [Act.put, List.setIfInBounds_toArray, List.set_cons_succ, List.set_cons_zero]
        refine plan_us (by rfl) (by kernel_rfl) ?_
        intro K hK
        go_wp2_with fail
        refine ⟨hS.alloc hS.size _, ?_⟩
        replace hP := hP.mkN hS.size
        replace hS := hS.alloc hS.size (.cells #[] 3)
        generalize w3.alloc (.cells #[] 3) = w4 at hS hP ⊢
        generalize w3.heap.size = bw4 at hP ⊢
        refine plan_us (by rfl) (by kernel_rfl) ?_
        intro K hK
        refine wp_app_num _ _ rfl wc.heap.size _ _ _ T rfl hP.on ⟨bn, 0, none⟩ _ _ rfl (by exact HTL.out.1) (HNT.out _ hS) (by simp [HTL.out.1, HTL.out.2]; omega) hS.size ?_
        intro v w5 hown hgr hor
        obtain ⟨aw5, kw5, rfl, hP2⟩ := hP.appN (by exact HTL.out.1) hown hgr hor
        have hS2 := hS.grown hgr hS.size hP.lowN
        refine hK _ _ ⟨hS2, ?_⟩
        clear hP hS hown hgr hor hK K
        have hP := hP2; have hS := hS2
        clear hP2 hS2
        simp only [Act.put, List.setIfInBounds_toArray, List.set_cons_succ, List.set_cons_zero]
        refine plan_us (by rfl) (by kernel_rfl) ?_
        intro K hK
        refine wp_app_num _ _ rfl wc.heap.size _ _ _ R rfl hP.on ad2 _ _ rfl (by exact HTL.out.2) (HSD2.out _ hS) (by simp [HTL.out.1, HTL.out.2]; omega) hS.size ?_
        intro v w6 hown hgr hor
        obtain ⟨aw6, kw6, rfl, hP2⟩ := hP.appN (by exact HTL.out.2) hown hgr hor
        have hS2 := hS.grown hgr hS.size hP.lowN
        refine hK _ _ ⟨hS2, ?_⟩
        clear hP hS hown hgr hor hK K
        have hP := hP2; have hS := hS2
        clear hP2 hS2
        simp only [Act.put, List.setIfInBounds_toArray, List.set_cons_succ, List.set_cons_zero]
        repeat (refine plan_t (by rfl) ?_; (first | go_big_quiet_skip | (go_big_quiet_want; go_big_quiet_op; go_big_quiet_on)); refine wpQuiet_nil ?_)
        clear hne
        exact HK.out _ _ _ _ _ _ _ _ _ _ _ _ _ _ _ _ _ _ _ _ _ _ _ _ _ hS (hP.mono HSZ.out).rows
      · refine plan_half (by rfl) (by kernel_rfl) ?_
        intro K hK
        go_wp2_with fail
        refine ⟨hS.alloc hS.size _, ?_⟩
        replace hP := hP.mkN hS.size
        replace hS := hS.alloc hS.size (.cells #[] 3)
        generalize w2.alloc (.cells #[] 3) = w7 at hS hP ⊢
        generalize w2.heap.size = bw7 at hP ⊢
        refine plan_us (by rfl) (by kernel_rfl) ?_
        intro K hK
        refine wp_app_cid _ _ rfl wc.heap.size _ _ _ R rfl hP.oc ad1 _ _ rfl HOKD.out (by exact HTL.out.2) (HSD1.out _ hS) (by simp [HTL.out.1, HTL.out.2]; omega) hS.size ?_
        intro v w8 hown hgr hor
        obtain ⟨aw8, kw8, rfl, hP2⟩ := hP.appC HOKD.out (by exact HTL.out.2) hown hgr hor
        have hS2 := hS.grown hgr hS.size hP.lowC
        refine hK _ _ ⟨hS2, ?_⟩
        clear hP hS hown hgr hor hK K
        have hP := hP2; have hS := hS2
        clear hP2 hS2
        simp only [Act.put, List.setIfInBounds_toArray, List.set_cons_succ, List.set_cons_zero]
        refine plan_us (by rfl) (by kernel_rfl) ?_
        intro K hK
        refine wp_app_num _ _ rfl wc.heap.size _ _ _ T rfl hP.on ⟨bn, 0, none⟩ _ _ rfl (by exact HTL.out.1) (HNT.out _ hS) (by simp [HTL.out.1, HTL.out.2]; omega) hS.size ?_
        intro v w9 hown hgr hor
        obtain ⟨aw9, kw9, rfl, hP2⟩ := hP.appN (by exact HTL.out.1) hown hgr hor
        have hS2 := hS.grown hgr hS.size hP.lowN
        refine hK _ _ ⟨hS2, ?_⟩
        clear hP hS hown hgr hor hK K
        have hP := hP2; have hS := hS2
        clear hP2 hS2
        simp only [Act.put, List.setIfInBounds_toArray, List.set_cons_succ, List.set_cons_zero]
        refine plan_us (by rfl) (by kernel_rfl) ?_
        intro K hK
        refine wp_app_num _ _ rfl wc.heap.size _ _ _ R rfl hP.on ad2 _ _ rfl (by exact HTL.out.2) (HSD2.out _ hS) (by simp [HTL.out.1, HTL.out.2]; omega) hS.size ?_
        intro v w10 hown hgr hor
        obtain ⟨aw10, kw10, rfl, hP2⟩ := hP.appN (by exact HTL.out.2) hown hgr hor
        have hS2 := hS.grown hgr hS.size hP.lowN
        refine hK _ _ ⟨hS2, ?_⟩
        clear hP hS hown hgr hor hK K
        have hP := hP2; have hS := hS2
        clear hP2 hS2
        simp only [Act.put, List.setIfInBounds_toArray, List.set_cons_succ, List.set_cons_zero]
        repeat (refine plan_t (by rfl) ?_; (first | go_big_quiet_skip | (go_big_quiet_want; go_big_quiet_op; go_big_quiet_on)); refine wpQuiet_nil ?_)
        clear hne
        exact HK.out _ _ _ _ _ _ _ _ _ _ _ _ _ _ _ _ _ _ _ _ _ _ _ _ _ hS (hP.mono HSZ.out).rows
    · refine plan_half (by rfl) (by kernel_rfl) ?_
      intro K hK
      go_wp2_with fail
      refine ⟨hS.alloc hS.size _, ?_⟩
      replace hP := hP.mkN hS.size
      replace hS := hS.alloc hS.size (.cells #[] 3)
      generalize w1.alloc (.cells #[] 3) = w11 at hS hP ⊢
      generalize w1.heap.size = bw11 at hP ⊢
      refine plan_us (by rfl) (by kernel_rfl) ?_
      intro K hK
      refine wp_app_cid _ _ rfl wc.heap.size _ _ _ T rfl hP.oc ⟨bc, 0, none⟩ _ _ rfl HOKT.out (by exact HTL.out.1) (HCT.out _ hS) (by simp [HTL.out.1, HTL.out.2]; omega) hS.size ?_
      intro v w12 hown hgr hor
      obtain ⟨aw12, kw12, rfl, hP2⟩ := hP.appC HOKT.out (by exact HTL.out.1) hown hgr hor
      have hS2 := hS.grown hgr hS.size hP.lowC
      refine hK _ _ ⟨hS2, ?_⟩
      clear hP hS hown hgr hor hK K
      have hP := hP2; have hS := hS2
      clear hP2 hS2
      simp only [Act.put, List.setIfInBounds_toArray, List.set_cons_succ, List.set_cons_zero]
      refine plan_us (by rfl) (by kernel_rfl) ?_
      intro K hK
      refine wp_app_cid _ _ rfl wc.heap.size _ _ _ R rfl hP.oc ad1 _ _ rfl HOKD.out (by exact HTL.out.2) (HSD1.out _ hS) (by simp [HTL.out.1, HTL.out.2]; omega) hS.size ?_
      intro v w13 hown hgr hor
      obtain ⟨aw13, kw13, rfl, hP2⟩ := hP.appC HOKD.out (by exact HTL.out.2) hown hgr hor
      have hS2 := hS.grown hgr hS.size hP.lowC
      refine hK _ _ ⟨hS2, ?_⟩
      clear hP hS hown hgr hor hK K
      have hP := hP2; have hS := hS2
      clear hP2 hS2
      simp only [Act.put, List.setIfInBounds_toArray, List.set_cons_succ, List.set_cons_zero]
      refine plan_us (by rfl) (by kernel_rfl) ?_
      intro K hK
      refine wp_app_num _ _ rfl wc.heap.size _ _ _ T rfl hP.on ⟨bn, 0, none⟩ _ _ rfl (by exact HTL.out.1) (HNT.out _ hS) (by simp [HTL.out.1, HTL.out.2]; omega) hS.size ?_
      intro v w14 hown hgr hor
      obtain ⟨aw14, kw14, rfl, hP2⟩ := hP.appN (by exact HTL.out.1) hown hgr hor
      have hS2 := hS.grown hgr hS.size hP.lowN
      refine hK _ _ ⟨hS2, ?_⟩
      clear hP hS hown hgr hor hK K
      have hP := hP2; have hS := hS2
      clear hP2 hS2
      simp only [Act.put, List.setIfInBounds_toArray, List.set_cons_succ, List.set_cons_zero]
      refine plan_us (by rfl) (by kernel_rfl) ?_
      intro K hK
      refine wp_app_num _ _ rfl wc.heap.size _ _ _ R rfl hP.on ad2 _ _ rfl (by exact HTL.out.2) (HSD2.out _ hS) (by simp [HTL.out.1, HTL.out.2]; omega) hS.size ?_
      intro v w15 hown hgr hor
      obtain ⟨aw15, kw15, rfl, hP2⟩ := hP.appN (by exact HTL.out.2) hown hgr hor
      have hS2 := hS.grown hgr hS.size hP.lowN
      refine hK _ _ ⟨hS2, ?_⟩
      clear hP hS hown hgr hor hK K
      have hP := hP2; have hS := hS2
      clear hP2 hS2
      simp only [Act.put, List.setIfInBounds_toArray, List.set_cons_succ, List.set_cons_zero]
      repeat (refine plan_t (by rfl) ?_; (first | go_big_quiet_skip | (go_big_quiet_want; go_big_quiet_op; go_big_quiet_on)); refine wpQuiet_nil ?_)
      clear hne
      exact HK.out _ _ _ _ _ _ _ _ _ _ _ _ _ _ _ _ _ _ _ _ _ _ _ _ _ hS (hP.mono HSZ.out).rows
  · refine plan_half (by rfl) (by kernel_rfl) ?_
    intro K hK
    go_wp2_with fail
    refine ⟨hS.alloc hS.size _, ?_⟩
    replace hP := hP.mkN hS.size
    replace hS := hS.alloc hS.size (.cells #[] 3)
    generalize W0.alloc (.cells #[] 3) = w16 at hS hP ⊢
    generalize W0.heap.size = bw16 at hP ⊢
    refine plan_us (by rfl) (by kernel_rfl) ?_
    intro K hK
    go_wp2_with fail
    refine ⟨hS.alloc hS.size _, ?_⟩
    replace hP := hP.mkC hS.size
    replace hS := hS.alloc hS.size (.cells #[] 30)
    generalize w16.alloc (.cells #[] 30) = w17 at hS hP ⊢
    generalize w16.heap.size = bw17 at hP ⊢
    refine plan_us (by rfl) (by kernel_rfl) ?_
    intro K hK
    refine wp_app_cid _ _ rfl wc.heap.size _ _ _ T rfl hP.oc ⟨bc, 0, none⟩ _ _ rfl HOKT.out (by exact HTL.out.1) (HCT.out _ hS) (by simp [HTL.out.1, HTL.out.2]; omega) hS.size ?_
    intro v w18 hown hgr hor
    obtain ⟨aw18, kw18, rfl, hP2⟩ := hP.appC HOKT.out (by exact HTL.out.1) hown hgr hor
    have hS2 := hS.grown hgr hS.size hP.lowC
    refine hK _ _ ⟨hS2, ?_⟩
    clear hP hS hown hgr hor hK K
    have hP := hP2; have hS := hS2
    clear hP2 hS2
    simp only [Act.put, List.setIfInBounds_toArray, List.set_cons_succ, List.set_cons_zero]
    refine plan_us (by rfl) (by kernel_rfl) ?_
    intro K hK
    refine wp_app_cid _ _ rfl wc.heap.size _ _ _ R rfl hP.oc ad1 _ _ rfl HOKD.out (by exact HTL.out.2) (HSD1.out _ hS) (by simp [HTL.out.1, HTL.out.2]; omega) hS.size ?_
    intro v w19 hown hgr hor
    obtain ⟨aw19, kw19, rfl, hP2⟩ := hP.appC HOKD.out (by exact HTL.out.2) hown hgr hor
    have hS2 := hS.grown hgr hS.size hP.lowC
    refine hK _ _ ⟨hS2, ?_⟩
    clear hP hS hown hgr hor hK K
    have hP := hP2; have hS := hS2
    clear hP2 hS2
    simp only [Act.put, List.setIfInBounds_toArray, List.set_cons_succ, List.set_cons_zero]
    refine plan_us (by rfl) (by kernel_rfl) ?_
    intro K hK
    refine wp_app_num _ _ rfl wc.heap.size _ _ _ T rfl hP.on ⟨bn, 0, none⟩ _ _ rfl (by exact HTL.out.1) (HNT.out _ hS) (by simp [HTL.out.1, HTL.out.2]; omega) hS.size ?_
    intro v w20 hown hgr hor
    obtain ⟨aw20, kw20, rfl, hP2⟩ := hP.appN (by exact HTL.out.1) hown hgr hor
    have hS2 := hS.grown hgr hS.size hP.lowN
    refine hK _ _ ⟨hS2, ?_⟩
    clear hP hS hown hgr hor hK K
    have hP := hP2; have hS := hS2
    clear hP2 hS2
    simp only [Act.put, List.setIfInBounds_toArray, List.set_cons_succ, List.set_cons_zero]
    refine plan_us (by rfl) (by kernel_rfl) ?_
    intro K hK
    refine wp_app_num _ _ rfl wc.heap.size _ _ _ R rfl hP.on ad2 _ _ rfl (by exact HTL.out.2) (HSD2.out _ hS) (by simp [HTL.out.1, HTL.out.2]; omega) hS.size ?_
    intro v w21 hown hgr hor
    obtain ⟨aw21, kw21, rfl, hP2⟩ := hP.appN (by exact HTL.out.2) hown hgr hor
    have hS2 := hS.grown hgr hS.size hP.lowN
    refine hK _ _ ⟨hS2, ?_⟩
    clear hP hS hown hgr hor hK K
    have hP := hP2; have hS := hS2
    clear hP2 hS2
    simp only [Act.put, List.setIfInBounds_toArray, List.set_cons_succ, List.set_cons_zero]
    repeat (refine plan_t (by rfl) ?_; (first | go_big_quiet_skip | (go_big_quiet_want; go_big_quiet_op; go_big_quiet_on)); refine wpQuiet_nil ?_)
    clear hne
    exact HK.out _ _ _ _ _ _ _ _ _ _ _ _ _ _ _ _ _ _ _ _ _ _ _ _ _ hS (hP.mono HSZ.out).rows
set_option maxRecDepth 100000 in
set_option maxHeartbeats 4000000 in
theorem play_rest {x0 x2 x3 x4 x5 x9 x10 x11 x15 x16 x17 x18 x19 x20 x21 x22 x23 x24 x25 x26 x27 x28 x29 x30 x31 x32 x33 x34 x35 x36 x37 x38 x39 x40 x41 x42 x43 x44 x45 x46 x47 x48 x49 x50 x51 x52 x53 x54 x55 x56 x57 x58 x59 x60 x61 x62 x63 x64 x65 x66 x67 x68 x69 x70 x71 x72 x73 x74 x75 x76 x77 x78 x79 x80 x81 x82 x83 x84 x85 x86 x87 x88 x89 x90 x91 x92 x93 x94 x95 x96 x97 x98 x99 x100 x101 x102 x103 x104 x105 x106 x107 x108 x109 x110 x111 x112 x113 x114 x115 x116 x117 x118 x119 x120 x121 x122 x123 x124 x125 x126 x127 x128 x129 x130 x131 x132 x133 x134 x135 x136 x137 x138 x139 x140 x141 x142 x143 x144 x145 x146 x147 x148 x149 x150 x151 x152 x153 x154 x155 x156 x157 x158 x159 x160 x161 x162 x163 x164 x165 x166 x167 x168 x169 x170 x171 x172 x173 x174 x175 x176 x177 x178 x179 x180 x181 x182 x183 x184 x185 x186 x187 x188 x189 x190 x191 x192 x193 x194 x195 x196 x197 x198 x199 x200 x201 x202 x203 x204 x205 x206 x207 x208 x209 x210 x211 x212 x213 x214 x215 x216 x217 x218 x219 x220 x221 x222 x223 x224 x225 x226 x227 x228 x229 x230 x231 x232 x233 x234 x235 x236 x237 x238 x239 x240 x241 x242 x243 x244 x245 x246 x247 x248 x249 x250 x251 x252 x253 x254 x255 x256 x257 x258 x259 x260 x261 x262 x263 x264 x265 x266 x267 x268 x269 x270 x271 x272 x273 x274 : Value} {w : World} {D : List Nat} {i L cap lb lo : Nat} {n0 nn : Int} {ps : List (List Int × Int)} {ac an : Option Addr} {kc kn : Nat} (wc : World) {Q : Exit → Act → World → Prop}
    (hiL : i < L) (hi : i < 100) (hL : L ≤ 9223372036854775807) (hnb : -9223372036854775808 ≤ n0 ∧ n0 ≤ 9223372036854775807) (hnn : -3 ≤ nn ∧ nn ≤ 3) (HNN : Hid (Int.tmod n0 4 = nn)) (hlen : ps.length ≤ 4000)
    (HCN : Hid (∀ y, Below w.heap.size w y → y.cell? ⟨lb, lo + i * 11 + 2, none⟩ = some (.int .i64 n0))) (HB : Hid (Below w.heap.size w wc)) (HR : Hid (PRows wc w.heap.size D ac kc an kn ps)) (HDL : Hid (∀ x ∈ D, x < wc.heap.size))
    (hQp : ∀ c a d v w, Q (.panic c) (a.put d v) w → Q (.panic c) a w)
    (hQ : ∀ (y14 y146 y147 y148 y149 y150 y151 y152 y153 y154 y155 y156 y157 y158 y159 y160 y161 y162 y163 y164 y165 y166 y167 y168 y169 y170 y171 y172 y173 y174 y175 y176 : Value) (ac' an' : Option Addr) (kc' kn' : Nat) (w' : World), Below wc.heap.size wc w' → PR2 w' wc.heap.size D ac' kc' an' kn' (ps.filter (fun q : List Int × Int => decide (q.2 ≠ nn))) (ps.filter (fun q : List Int × Int => decide (q.2 ≠ nn))) → Q .normal ⟨List.toArray (x0 :: .slice (some ⟨lb, lo, none⟩) L cap :: x2 :: x3 :: x4 :: x5 :: .slice ac ps.length kc :: .slice an ps.length kn :: .int .i64 i :: x9 :: x10 :: x11 :: .slice ac' (ps.filter (fun q : List Int × Int => decide (q.2 ≠ nn))).length kc' :: .slice an' (ps.filter (fun q : List Int × Int => decide (q.2 ≠ nn))).length kn' :: y14 :: x15 :: x16 :: x17 :: x18 :: x19 :: x20 :: x21 :: x22 :: x23 :: x24 :: x25 :: x26 :: x27 :: x28 :: x29 :: x30 :: x31 :: x32 :: x33 :: x34 :: x35 :: x36 :: x37 :: x38 :: x39 :: x40 :: x41 :: x42 :: x43 :: x44 :: x45 :: x46 :: x47 :: x48 :: x49 :: x50 :: x51 :: x52 :: x53 :: x54 :: x55 :: x56 :: x57 :: x58 :: x59 :: x60 :: x61 :: x62 :: x63 :: x64 :: x65 :: x66 :: x67 :: x68 :: x69 :: x70 :: x71 :: x72 :: x73 :: x74 :: x75 :: x76 :: x77 :: x78 :: x79 :: x80 :: x81 :: x82 :: x83 :: x84 :: x85 :: x86 :: x87 :: x88 :: x89 :: x90 :: x91 :: x92 :: x93 :: x94 :: x95 :: x96 :: x97 :: x98 :: x99 :: x100 :: x101 :: x102 :: x103 :: x104 :: x105 :: x106 :: x107 :: x108 :: x109 :: x110 :: x111 :: x112 :: x113 :: x114 :: x115 :: x116 :: x117 :: x118 :: x119 :: x120 :: x121 :: x122 :: x123 :: x124 :: x125 :: x126 :: x127 :: x128 :: x129 :: x130 :: x131 :: x132 :: x133 :: x134 :: x135 :: x136 :: x137 :: x138 :: x139 :: x140 :: x141 :: x142 :: x143 :: x144 :: x145 :: y146 :: y147 :: y148 :: y149 :: y150 :: y151 :: y152 :: y153 :: y154 :: y155 :: y156 :: y157 :: y158 :: y159 :: y160 :: y161 :: y162 :: y163 :: y164 :: y165 :: y166 :: y167 :: y168 :: y169 :: y170 :: y171 :: y172 :: y173 :: y174 :: y175 :: y176 :: x177 :: x178 :: x179 :: x180 :: x181 :: x182 :: x183 :: x184 :: x185 :: x186 :: x187 :: x188 :: x189 :: x190 :: x191 :: x192 :: x193 :: x194 :: x195 :: x196 :: x197 :: x198 :: x199 :: x200 :: x201 :: x202 :: x203 :: x204 :: x205 :: x206 :: x207 :: x208 :: x209 :: x210 :: x211 :: x212 :: x213 :: x214 :: x215 :: x216 :: x217 :: x218 :: x219 :: x220 :: x221 :: x222 :: x223 :: x224 :: x225 :: x226 :: x227 :: x228 :: x229 :: x230 :: x231 :: x232 :: x233 :: x234 :: x235 :: x236 :: x237 :: x238 :: x239 :: x240 :: x241 :: x242 :: x243 :: x244 :: x245 :: x246 :: x247 :: x248 :: x249 :: x250 :: x251 :: x252 :: x253 :: x254 :: x255 :: x256 :: x257 :: x258 :: x259 :: x260 :: x261 :: x262 :: x263 :: x264 :: x265 :: x266 :: x267 :: x268 :: x269 :: x270 :: x271 :: x272 :: x273 :: x274 :: []), []⟩ w') :
    Code.wp Try.prog (((Try.f19.body.bind (subBlock 5)).getD .skip)) Q ⟨List.toArray (x0 :: .slice (some ⟨lb, lo, none⟩) L cap :: x2 :: x3 :: x4 :: x5 :: .slice ac ps.length kc :: .slice an ps.length kn :: .int .i64 i :: x9 :: x10 :: x11 :: .slice none 0 0 :: .slice none 0 0 :: .int .i64 0 :: x15 :: x16 :: x17 :: x18 :: x19 :: x20 :: x21 :: x22 :: x23 :: x24 :: x25 :: x26 :: x27 :: x28 :: x29 :: x30 :: x31 :: x32 :: x33 :: x34 :: x35 :: x36 :: x37 :: x38 :: x39 :: x40 :: x41 :: x42 :: x43 :: x44 :: x45 :: x46 :: x47 :: x48 :: x49 :: x50 :: x51 :: x52 :: x53 :: x54 :: x55 :: x56 :: x57 :: x58 :: x59 :: x60 :: x61 :: x62 :: x63 :: x64 :: x65 :: x66 :: x67 :: x68 :: x69 :: x70 :: x71 :: x72 :: x73 :: x74 :: x75 :: x76 :: x77 :: x78 :: x79 :: x80 :: x81 :: x82 :: x83 :: x84 :: x85 :: x86 :: x87 :: x88 :: x89 :: x90 :: x91 :: x92 :: x93 :: x94 :: x95 :: x96 :: x97 :: x98 :: x99 :: x100 :: x101 :: x102 :: x103 :: x104 :: x105 :: x106 :: x107 :: x108 :: x109 :: x110 :: x111 :: x112 :: x113 :: x114 :: x115 :: x116 :: x117 :: x118 :: x119 :: x120 :: x121 :: x122 :: x123 :: x124 :: x125 :: x126 :: x127 :: x128 :: x129 :: x130 :: x131 :: x132 :: x133 :: x134 :: x135 :: x136 :: x137 :: x138 :: x139 :: x140 :: x141 :: x142 :: x143 :: x144 :: x145 :: x146 :: x147 :: x148 :: x149 :: x150 :: x151 :: x152 :: x153 :: x154 :: x155 :: x156 :: x157 :: x158 :: x159 :: x160 :: x161 :: x162 :: x163 :: x164 :: x165 :: x166 :: x167 :: x168 :: x169 :: x170 :: x171 :: x172 :: x173 :: x174 :: x175 :: x176 :: x177 :: x178 :: x179 :: x180 :: x181 :: x182 :: x183 :: x184 :: x185 :: x186 :: x187 :: x188 :: x189 :: x190 :: x191 :: x192 :: x193 :: x194 :: x195 :: x196 :: x197 :: x198 :: x199 :: x200 :: x201 :: x202 :: x203 :: x204 :: x205 :: x206 :: x207 :: x208 :: x209 :: x210 :: x211 :: x212 :: x213 :: x214 :: x215 :: x216 :: x217 :: x218 :: x219 :: x220 :: x221 :: x222 :: x223 :: x224 :: x225 :: x226 :: x227 :: x228 :: x229 :: x230 :: x231 :: x232 :: x233 :: x234 :: x235 :: x236 :: x237 :: x238 :: x239 :: x240 :: x241 :: x242 :: x243 :: x244 :: x245 :: x246 :: x247 :: x248 :: x249 :: x250 :: x251 :: x252 :: x253 :: x254 :: x255 :: x256 :: x257 :: x258 :: x259 :: x260 :: x261 :: x262 :: x263 :: x264 :: x265 :: x266 :: x267 :: x268 :: x269 :: x270 :: x271 :: x272 :: x273 :: x274 :: []), []⟩ wc := by
  have HK := Lib.hid hQ; have HKP := Lib.hid hQp
  clear hQ hQp
  conv => arg 2; whnf
  have HP := Lib.hid (PR2.empty wc wc.heap.size D HDL.out)
  have HS := Lib.hid (Below.refl wc.heap.size wc)
  go_wp2_with fail
  go_loopw [12, 13, 14] (fun s12 s13 s14 wx => ∃ (k : Nat) (a2 b2 : Option Addr) (k2 l2 : Nat), s12 = .slice a2 ((ps.take k).filter (fun q : List Int × Int => decide (q.2 ≠ nn))).length k2 ∧ s13 = .slice b2 ((ps.take k).filter (fun q : List Int × Int => decide (q.2 ≠ nn))).length l2 ∧ s14 = .int .i64 k ∧ k ≤ ps.length ∧ Hid (Below wc.heap.size wc wx) ∧ Hid (PR2 wx wc.heap.size D a2 k2 b2 l2 ((ps.take k).filter (fun q : List Int × Int => decide (q.2 ≠ nn))) ((ps.take k).filter (fun q : List Int × Int => decide (q.2 ≠ nn))))) (fun _ _ s _ => ps.length - (intOf s).toNat)
  case atStart => exact ⟨0, none, none, 0, 0, rfl, rfl, rfl, Nat.zero_le _, HS, HP⟩
  case round =>
    clear HS HP
    obtain ⟨k, a2, b2, k2, l2, rfl, rfl, rfl, hk, HS, HP⟩ := hrel
    have hcap := HR.out.cap
    by_cases hlt : k < ps.length
    · skip
      obtain ⟨⟨ck, mk⟩, hq⟩ : ∃ q, ps[k]? = some q := ⟨_, List.getElem?_eq_getElem hlt⟩
      obtain ⟨bc, bn, rfl, rfl, hrc, hcn, _, hbc, _, hbn⟩ := HR.out.at hq
      simp only at hrc hcn
      have hok := HR.out.ok _ (List.mem_of_getElem? hq)
      have HQ := Lib.hid hq
      have HOK := Lib.hid hok
      have HTS := Lib.hid (take_succ_filter hq (fun q : List Int × Int => decide (q.2 ≠ nn)))
      have HLF := Lib.hid (List.length_filter_le (fun q : List Int × Int => decide (q.2 ≠ nn)) (ps.take k))
      generalize (ps.take k).filter (fun q : List Int × Int => decide (q.2 ≠ nn)) = T at HTS HLF HP ⊢
      have f0 : ∀ t : In (fun y => Below wc.heap.size wc y), t.w.cell? ⟨bn, k, none⟩ = some (.int .i64 mk) := fun t => bl_cell t.h hbn hcn
      have f1 : ∀ t : In (fun y => Below wc.heap.size wc y), t.w.cell? ⟨lb, lo + i * 11 + 2, none⟩ = some (.int .i64 n0) := fun t => HCN.out _ (bl_next HB.out HB.out.size t.h)
      have HRC : Hid (∀ y, Below wc.heap.size wc y → y.rangeAt bc (k * 8) (ck.map (Value.int .u8))) := Lib.hid fun y hy j v hv => bl_cell (p := ⟨bc, k * 8 + j, none⟩) hy hbc (hrc j v hv)
      clear hrc hcn hbc hbn hq hok
      skip
      go_upto_region 35 with fail
      refine wp_plan (.t 0 (.t 1 (.t 2 (.t 3 (.t 4 (.t 5 (.t 6 (.t 7 (.t 8 (.t 9 (.t 10 .done))))))))))) (fun y => Below wc.heap.size wc y) (by kernel_rfl) (by kernel_rfl) (by kernel_rfl) (fun c a d v w h => by first | (cases d <;> exact h) | exact HKP.out c a d v w h) (bl_drewN HS.out 1) ?_
      haveI hne : Nonempty (In fun y => Below wc.heap.size wc y) := ⟨⟨wc, Below.refl _ _⟩⟩
      repeat (refine plan_t (by rfl) ?_; (first | go_big_quiet_skip | (go_big_quiet_want; go_big_quiet_op; go_big_quiet_on)); refine wpQuiet_nil ?_)
      rw [HNN.out]
      clear f1
      have hS := bl_drewN HS.out 1
      skip
      have HP1 := Lib.hid (HP.out.below (Below.refl _ _).drew)
      show Exit.then _ _ _ _ _
      have HS1 : Hid (Below wc.heap.size wc wr.drew) := Lib.hid hS
      clear hS HS HP hne
      generalize wr.drew = w1 at HS1 HP1 ⊢
      by_cases hne : mk = nn
      · skip
        have HTS2 : Hid ((ps.take (k + 1)).filter (fun q : List Int × Int => decide (q.2 ≠ nn)) = T) := Lib.hid (by rw [HTS.out]; simp [hne])
        have e : (mk != nn) = false := by simp [hne]
        rw [e]
        clear e HTS hne f0
        go_wp2_with fail
        go_roundw
        case rel => exact ⟨k + 1, _, _, _, _, by rw [HTS2.out], by rw [HTS2.out], by go_num, by omega, HS1, by rw [HTS2.out]; exact HP1⟩
        case measure => simp [intOf]; omega
      · skip
        have HTS2 : Hid ((ps.take (k + 1)).filter (fun q : List Int × Int => decide (q.2 ≠ nn)) = T ++ [(ck, mk)]) := Lib.hid (by rw [HTS.out]; simp [hne])
        have e : (mk != nn) = true := by simp [hne]
        rw [e]
        clear e HTS hne
        have HXE : Hid (cC [(ck, mk)] = ck.map (Value.int .u8)) := Lib.hid (cC_one _ _)
        have HXL : Hid ((ck.map (Value.int .u8)).length = 8) := Lib.hid (by rw [List.length_map]; exact HOK.out.1)
        have HPK : Hid (PsOk [(ck, mk)]) := Lib.hid (by intro x hx; rw [List.mem_singleton] at hx; subst hx; exact HOK.out)
        have HLF2 : Hid (T.length ≤ 4000) := Lib.hid (by have h1 := HLF.out; have h2 := List.length_take_le k ps; omega)
        obtain ⟨XC, hXC⟩ : ∃ XC, ck.map (Value.int .u8) = XC := ⟨_, rfl⟩
        rw [hXC] at HXE HXL HRC
        clear hXC HLF
        go_upto_region 36 with fail
        refine wp_plan (.t 0 (.t 1 (.t 2 (.t 3 (.t 4 (.t 7 (.t 8 (.t 9 (.t 10 (.t 11 (.b 5 (.b 6 (.u 12 (.u 13 (.t 14 (.t 15 .done)))) 12 (.u 6 (.u 13 (.t 14 (.t 15 .done))))) 12 (.u 5 (.u 6 (.u 13 (.t 14 (.t 15 .done)))))))))))))))) (fun y => Below wc.heap.size wc y) (by kernel_rfl) (by kernel_rfl) (by kernel_rfl) (fun c a d v w h => by first | (cases d <;> exact h) | exact HKP.out c a d v w h) (bl_drewN HS1.out 1) ?_
        haveI hne : Nonempty (In fun y => Below wc.heap.size wc y) := ⟨⟨wc, Below.refl _ _⟩⟩
        repeat (first | (refine plan_t_load (by rfl) (by kernel_rfl) 30 _ rfl bc (k * 8) rfl XC _ (fun y hy => HRC.out y hy) Try.underlying30 rfl (by rw [HXL.out]; rfl) ?_; simp only [Act.put, List.setIfInBounds_toArray, List.set_cons_succ, List.set_cons_zero]) | (refine plan_t (by rfl) ?_; (first | go_big_quiet_skip | (go_big_quiet_want; go_big_quiet_op; go_big_quiet_on)); refine wpQuiet_nil ?_))
        clear f0 HRC
        have hS := bl_drewN HS1.out 1
        have hP := HP1.out.below (Below.refl _ _).drew
        clear HS1 HP1
        change Below wc.heap.size wc w1.drew at hS
        generalize w1.drew = W0 at hS hP ⊢
        refine plan_b ?_ ?_
        · refine plan_half (by rfl) (by kernel_rfl) ?_
          intro K hK
          refine wp_build_cid _ rfl XC rfl HXL.out ?_
          refine hK _ _ ⟨hS.alloc hS.size (.cells XC.toArray 30), ?_⟩
          have HL5 := Lib.hid (heap_alloc_new W0 (.cells XC.toArray 30))
          replace hP := hP.alloc (.cells XC.toArray 30)
          replace hS := hS.alloc hS.size (.cells XC.toArray 30)
          generalize W0.alloc (.cells XC.toArray 30) = w1 at hS hP HL5  ⊢
          obtain ⟨gHL5, hgg⟩ : ∃ g, W0.heap.size = g := ⟨_, rfl⟩
          rw [hgg] at hP HL5 ⊢
          clear hgg
          simp only [Act.put, List.setIfInBounds_toArray, List.set_cons_succ, List.set_cons_zero]
          refine plan_b ?_ ?_
          · refine plan_half (by rfl) (by kernel_rfl) ?_
            intro K hK
            refine wp_app_cid _ _ rfl wc.heap.size _ _ _ [(ck, mk)] rfl hP.oc ⟨gHL5, 0, none⟩ _ _ rfl HPK.out rfl (fun j u hu => by rw [add_none, Nat.zero_add]; exact row_cell HL5.out j u (by rw [List.getElem?_toArray, ← HXE.out]; exact hu)) (by have := HLF2.out; omega) hS.size ?_
            intro v w2 hown hgr hor
            obtain ⟨aw2, kw2, rfl, hP2⟩ := hP.appC HPK.out rfl hown hgr hor
            have hS2 := hS.grown hgr hS.size hP.lowC
            replace HL5 := Lib.hid (grown_row hgr (hP.offC (by simp)) HL5.out)
            refine hK _ _ ⟨hS2, ?_⟩
            clear hP hS hown hgr hor hK K
            have hP := hP2; have hS := hS2
            clear hP2 hS2
            simp only [Act.put, List.setIfInBounds_toArray, List.set_cons_succ, List.set_cons_zero]
            refine plan_us (by rfl) (by kernel_rfl) ?_
            intro K hK
            go_wp2_with fail
            refine ⟨hS.alloc hS.size (.cells #[.int .i64 mk] 3), ?_⟩
            replace HL5 := Lib.hid (bl_row ((Below.refl _ _).alloc (Nat.le_refl _) (.cells #[.int .i64 mk] 3)) (lt_of_block HL5.out) HL5.out)
            have HL12 := Lib.hid (heap_alloc_new w2 (.cells #[.int .i64 mk] 3))
            replace hP := hP.alloc (.cells #[.int .i64 mk] 3)
            replace hS := hS.alloc hS.size (.cells #[.int .i64 mk] 3)
            generalize w2.alloc (.cells #[.int .i64 mk] 3) = w3 at hS hP HL12 HL5 ⊢
            obtain ⟨gHL12, hgg⟩ : ∃ g, w2.heap.size = g := ⟨_, rfl⟩
            rw [hgg] at hP HL12 ⊢
            clear hgg
            refine plan_us (by rfl) (by kernel_rfl) ?_
            intro K hK
            refine wp_app_num _ _ rfl wc.heap.size _ _ _ [(ck, mk)] rfl hP.on ⟨gHL12, 0, none⟩ _ _ rfl rfl (fun j u hu => by rw [add_none, Nat.zero_add]; exact row_cell HL12.out j u (by rw [List.getElem?_toArray]; exact hu)) (by have := HLF2.out; omega) hS.size ?_
            intro v w4 hown hgr hor
            obtain ⟨aw4, kw4, rfl, hP2⟩ := hP.appN rfl hown hgr hor
            have hS2 := hS.grown hgr hS.size hP.lowN
            replace HL5 := Lib.hid (grown_row hgr (hP.offN (by simp)) HL5.out)
            replace HL12 := Lib.hid (grown_row hgr (hP.offN (by simp)) HL12.out)
            refine hK _ _ ⟨hS2, ?_⟩
            clear hP hS hown hgr hor hK K
            have hP := hP2; have hS := hS2
            clear hP2 hS2
            simp only [Act.put, List.setIfInBounds_toArray, List.set_cons_succ, List.set_cons_zero]
            repeat (refine plan_t (by rfl) ?_; (first | go_big_quiet_skip | (go_big_quiet_want; go_big_quiet_op; go_big_quiet_on)); refine wpQuiet_nil ?_)
            clear hne
            show Exit.inBlock _ _ _ _ _
            have HS := Lib.hid hS
            have HP := Lib.hid (hP.less (fun x hx => List.mem_cons_of_mem _ (List.mem_cons_of_mem _ hx)))
            clear hS hP
            go_wp2_with fail
            go_roundw
            case rel => exact ⟨k + 1, _, _, _, _, by rw [HTS2.out, List.length_append]; first | done | rfl, by rw [HTS2.out, List.length_append]; first | done | rfl, by go_num, by omega, HS, by rw [HTS2.out]; exact HP⟩
            case measure => simp [intOf]; omega
          · refine plan_half (by rfl) (by kernel_rfl) ?_
            intro K hK
            go_wp2_with fail
            refine ⟨hS.alloc hS.size (.cells #[.int .i64 mk] 3), ?_⟩
            replace HL5 := Lib.hid (bl_row ((Below.refl _ _).alloc (Nat.le_refl _) (.cells #[.int .i64 mk] 3)) (lt_of_block HL5.out) HL5.out)
            have HL12 := Lib.hid (heap_alloc_new w1 (.cells #[.int .i64 mk] 3))
            replace hP := hP.alloc (.cells #[.int .i64 mk] 3)
            replace hS := hS.alloc hS.size (.cells #[.int .i64 mk] 3)
            generalize w1.alloc (.cells #[.int .i64 mk] 3) = w5 at hS hP HL12 HL5 ⊢
            obtain ⟨gHL12, hgg⟩ : ∃ g, w1.heap.size = g := ⟨_, rfl⟩
            rw [hgg] at hP HL12 ⊢
            clear hgg
            refine plan_us (by rfl) (by kernel_rfl) ?_
            intro K hK
            refine wp_app_cid _ _ rfl wc.heap.size _ _ _ [(ck, mk)] rfl hP.oc ⟨gHL5, 0, none⟩ _ _ rfl HPK.out rfl (fun j u hu => by rw [add_none, Nat.zero_add]; exact row_cell HL5.out j u (by rw [List.getElem?_toArray, ← HXE.out]; exact hu)) (by have := HLF2.out; omega) hS.size ?_
            intro v w6 hown hgr hor
            obtain ⟨aw6, kw6, rfl, hP2⟩ := hP.appC HPK.out rfl hown hgr hor
            have hS2 := hS.grown hgr hS.size hP.lowC
            replace HL5 := Lib.hid (grown_row hgr (hP.offC (by simp)) HL5.out)
            replace HL12 := Lib.hid (grown_row hgr (hP.offC (by simp)) HL12.out)
            refine hK _ _ ⟨hS2, ?_⟩
            clear hP hS hown hgr hor hK K
            have hP := hP2; have hS := hS2
            clear hP2 hS2
            simp only [Act.put, List.setIfInBounds_toArray, List.set_cons_succ, List.set_cons_zero]
            refine plan_us (by rfl) (by kernel_rfl) ?_
            intro K hK
            refine wp_app_num _ _ rfl wc.heap.size _ _ _ [(ck, mk)] rfl hP.on ⟨gHL12, 0, none⟩ _ _ rfl rfl (fun j u hu => by rw [add_none, Nat.zero_add]; exact row_cell HL12.out j u (by rw [List.getElem?_toArray]; exact hu)) (by have := HLF2.out; omega) hS.size ?_
            intro v w7 hown hgr hor
            obtain ⟨aw7, kw7, rfl, hP2⟩ := hP.appN rfl hown hgr hor
            have hS2 := hS.grown hgr hS.size hP.lowN
            replace HL5 := Lib.hid (grown_row hgr (hP.offN (by simp)) HL5.out)
            replace HL12 := Lib.hid (grown_row hgr (hP.offN (by simp)) HL12.out)
            refine hK _ _ ⟨hS2, ?_⟩
            clear hP hS hown hgr hor hK K
            have hP := hP2; have hS := hS2
            clear hP2 hS2
            simp only [Act.put, List.setIfInBounds_toArray, List.set_cons_succ, List.set_cons_zero]
            repeat (refine plan_t (by rfl) ?_; (first | go_big_quiet_skip | (go_big_quiet_want; go_big_quiet_op; go_big_quiet_on)); refine wpQuiet_nil ?_)
            clear hne
            show Exit.inBlock _ _ _ _ _
            have HS := Lib.hid hS
            have HP := Lib.hid (hP.less (fun x hx => List.mem_cons_of_mem _ (List.mem_cons_of_mem _ hx)))
            clear hS hP
            go_wp2_with fail
            go_roundw
            case rel => exact ⟨k + 1, _, _, _, _, by rw [HTS2.out, List.length_append]; first | done | rfl, by rw [HTS2.out, List.length_append]; first | done | rfl, by go_num, by omega, HS, by rw [HTS2.out]; exact HP⟩
            case measure => simp [intOf]; omega
        · refine plan_half (by rfl) (by kernel_rfl) ?_
          intro K hK
          go_wp2_with fail
          refine ⟨hS.alloc hS.size (.cells #[.int .i64 mk] 3), ?_⟩
          have HL12 := Lib.hid (heap_alloc_new W0 (.cells #[.int .i64 mk] 3))
          replace hP := hP.alloc (.cells #[.int .i64 mk] 3)
          replace hS := hS.alloc hS.size (.cells #[.int .i64 mk] 3)
          generalize W0.alloc (.cells #[.int .i64 mk] 3) = w8 at hS hP HL12  ⊢
          obtain ⟨gHL12, hgg⟩ : ∃ g, W0.heap.size = g := ⟨_, rfl⟩
          rw [hgg] at hP HL12 ⊢
          clear hgg
          refine plan_us (by rfl) (by kernel_rfl) ?_
          intro K hK
          refine wp_build_cid _ rfl XC rfl HXL.out ?_
          refine hK _ _ ⟨hS.alloc hS.size (.cells XC.toArray 30), ?_⟩
          replace HL12 := Lib.hid (bl_row ((Below.refl _ _).alloc (Nat.le_refl _) (.cells XC.toArray 30)) (lt_of_block HL12.out) HL12.out)
          have HL5 := Lib.hid (heap_alloc_new w8 (.cells XC.toArray 30))
          replace hP := hP.alloc (.cells XC.toArray 30)
          replace hS := hS.alloc hS.size (.cells XC.toArray 30)
          generalize w8.alloc (.cells XC.toArray 30) = w9 at hS hP HL5 HL12 ⊢
          obtain ⟨gHL5, hgg⟩ : ∃ g, w8.heap.size = g := ⟨_, rfl⟩
          rw [hgg] at hP HL5 ⊢
          clear hgg
          simp only [Act.put, List.setIfInBounds_toArray, List.set_cons_succ, List.set_cons_zero]
          refine plan_us (by rfl) (by kernel_rfl) ?_
          intro K hK
          refine wp_app_cid _ _ rfl wc.heap.size _ _ _ [(ck, mk)] rfl hP.oc ⟨gHL5, 0, none⟩ _ _ rfl HPK.out rfl (fun j u hu => by rw [add_none, Nat.zero_add]; exact row_cell HL5.out j u (by rw [List.getElem?_toArray, ← HXE.out]; exact hu)) (by have := HLF2.out; omega) hS.size ?_
          intro v w10 hown hgr hor
          obtain ⟨aw10, kw10, rfl, hP2⟩ := hP.appC HPK.out rfl hown hgr hor
          have hS2 := hS.grown hgr hS.size hP.lowC
          replace HL12 := Lib.hid (grown_row hgr (hP.offC (by simp)) HL12.out)
          replace HL5 := Lib.hid (grown_row hgr (hP.offC (by simp)) HL5.out)
          refine hK _ _ ⟨hS2, ?_⟩
          clear hP hS hown hgr hor hK K
          have hP := hP2; have hS := hS2
          clear hP2 hS2
          simp only [Act.put, List.setIfInBounds_toArray, List.set_cons_succ, List.set_cons_zero]
          refine plan_us (by rfl) (by kernel_rfl) ?_
          intro K hK
          refine wp_app_num _ _ rfl wc.heap.size _ _ _ [(ck, mk)] rfl hP.on ⟨gHL12, 0, none⟩ _ _ rfl rfl (fun j u hu => by rw [add_none, Nat.zero_add]; exact row_cell HL12.out j u (by rw [List.getElem?_toArray]; exact hu)) (by have := HLF2.out; omega) hS.size ?_
          intro v w11 hown hgr hor
          obtain ⟨aw11, kw11, rfl, hP2⟩ := hP.appN rfl hown hgr hor
          have hS2 := hS.grown hgr hS.size hP.lowN
          replace HL12 := Lib.hid (grown_row hgr (hP.offN (by simp)) HL12.out)
          replace HL5 := Lib.hid (grown_row hgr (hP.offN (by simp)) HL5.out)
          refine hK _ _ ⟨hS2, ?_⟩
          clear hP hS hown hgr hor hK K
          have hP := hP2; have hS := hS2
          clear hP2 hS2
          simp only [Act.put, List.setIfInBounds_toArray, List.set_cons_succ, List.set_cons_zero]
          repeat (refine plan_t (by rfl) ?_; (first | go_big_quiet_skip | (go_big_quiet_want; go_big_quiet_op; go_big_quiet_on)); refine wpQuiet_nil ?_)
          clear hne
          show Exit.inBlock _ _ _ _ _
          have HS := Lib.hid hS
          have HP := Lib.hid (hP.less (fun x hx => List.mem_cons_of_mem _ (List.mem_cons_of_mem _ hx)))
          clear hS hP
          go_wp2_with fail
          go_roundw
          case rel => exact ⟨k + 1, _, _, _, _, by rw [HTS2.out, List.length_append]; first | done | rfl, by rw [HTS2.out, List.length_append]; first | done | rfl, by go_num, by omega, HS, by rw [HTS2.out]; exact HP⟩
          case measure => simp [intOf]; omega
    · obtain rfl : k = ps.length := by omega
      go_wp2_with fail
      rw [List.take_length] at HP ⊢
      exact HK.out _ _ _ _ _ _ _ _ _ _ _ _ _ _ _ _ _ _ _ _ _ _ _ _ _ _ _ _ _ _ _ _ _ _ _ _ _ HS.out HP.out
end Go.Proofs.Ytpngjokjjpdboaa
