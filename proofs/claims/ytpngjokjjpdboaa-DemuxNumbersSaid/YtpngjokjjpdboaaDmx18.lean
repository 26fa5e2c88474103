/- demux: the walk of play: its round. -/
import Derived.Test.YtpngjokjjpdboaaDmx17
namespace Go.Proofs.Ytpngjokjjpdboaa
open Go.RowKit
set_option linter.unusedVariables false
set_option linter.unusedSimpArgs false

set_option maxRecDepth 100000 in
set_option maxHeartbeats 4000000 in
theorem play_gets {x1 x2 x3 x4 x8 x9 x10 x11 x12 x13 x14 x15 x17 x18 x19 x20 x21 x22 x23 x24 x25 x26 x27 x28 x29 x30 x31 x32 x33 x34 x35 x36 x37 x38 x39 x40 x41 x42 x43 x44 x45 x46 x47 x48 x49 x50 x51 x52 x53 x54 x55 x56 x57 x58 x59 x60 x61 x62 x63 x64 x65 x66 x67 x68 x69 x70 x71 x72 x73 x74 x75 x76 x77 x78 x79 x80 x81 x82 x83 x84 x85 x86 x87 x88 x89 x90 x91 x92 x93 x94 x95 x96 x97 x98 x99 x100 x101 x102 x103 x104 x105 x106 x107 x108 x109 x110 x111 x112 x113 x114 x115 x116 x117 x118 x119 x120 x121 x122 x123 x124 x125 x126 x127 x128 x129 x130 x131 x132 x133 x134 x135 x136 x137 x138 x139 x140 x141 x142 x143 x144 x145 x146 x147 x148 x149 x150 x151 x152 x153 x154 x155 x156 x157 x158 x159 x160 x161 x162 x163 x164 x165 x166 x167 x168 x169 x170 x171 x172 x173 x174 x175 x176 x177 x178 x179 x180 x181 x182 x183 x184 x185 x186 x187 x188 x189 x190 x191 x192 x193 x194 x195 x196 x197 x198 x199 x200 x201 x202 x203 x204 x205 x206 x207 x208 x209 x210 x211 x212 x213 x214 x215 x216 x217 x218 x219 x220 x221 x222 x223 x224 x225 x226 x227 x228 x229 x230 x231 x232 x233 x234 x235 x236 x237 x238 x239 x240 x241 x242 x243 x244 x245 x246 x247 x248 x249 x250 x251 x252 x253 x254 x255 x256 x257 x258 x259 x260 x261 x262 x263 x264 x265 x266 x267 x268 x269 x270 x271 x272 x273 x274 : Value} {B N p g : Nat} {D : List Nat} {size : Int} {ps : List (List Int × Int)} {ac an : Option Addr} {kc kn : Nat} (wc : World) {Q : Exit → Act → World → Prop}
    (hNb : 8 ≤ N ∧ N ≤ 4096) (HPC : Hid (∀ w : World, Calls Try.prog 26 #[.int .i64 size] w fun e w' => e = .returned (.int .i64 (N : Nat)) ∧ w' = w)) (HM : Hid (Mp wc N p g ps)) (HR : Hid (PRows wc B D ac kc an kn ps))
    (hQp : ∀ c a d v w, Q (.panic c) (a.put d v) w → Q (.panic c) a w)
    (hQ : ∀ (y4 y16 y17 y18 y198 y199 y200 y201 y202 y203 y204 y205 y206 y207 y208 y209 y210 y211 y212 y213 y214 y215 y216 y217 y218 y219 y220 y221 y222 y223 y224 y225 y226 y227 y228 y229 y230 y231 y232 y233 y234 y235 y236 y237 y238 y239 y240 y241 y242 : Value) (w' : World), Below wc.heap.size wc w' → Q .normal ⟨List.toArray (.int .i64 size :: x1 :: x2 :: x3 :: y4 :: .pointer (some ⟨p, 0, none⟩) :: .slice ac ps.length kc :: .slice an ps.length kn :: x8 :: x9 :: x10 :: x11 :: x12 :: x13 :: x14 :: x15 :: y16 :: y17 :: y18 :: x19 :: x20 :: x21 :: x22 :: x23 :: x24 :: x25 :: x26 :: x27 :: x28 :: x29 :: x30 :: x31 :: x32 :: x33 :: x34 :: x35 :: x36 :: x37 :: x38 :: x39 :: x40 :: x41 :: x42 :: x43 :: x44 :: x45 :: x46 :: x47 :: x48 :: x49 :: x50 :: x51 :: x52 :: x53 :: x54 :: x55 :: x56 :: x57 :: x58 :: x59 :: x60 :: x61 :: x62 :: x63 :: x64 :: x65 :: x66 :: x67 :: x68 :: x69 :: x70 :: x71 :: x72 :: x73 :: x74 :: x75 :: x76 :: x77 :: x78 :: x79 :: x80 :: x81 :: x82 :: x83 :: x84 :: x85 :: x86 :: x87 :: x88 :: x89 :: x90 :: x91 :: x92 :: x93 :: x94 :: x95 :: x96 :: x97 :: x98 :: x99 :: x100 :: x101 :: x102 :: x103 :: x104 :: x105 :: x106 :: x107 :: x108 :: x109 :: x110 :: x111 :: x112 :: x113 :: x114 :: x115 :: x116 :: x117 :: x118 :: x119 :: x120 :: x121 :: x122 :: x123 :: x124 :: x125 :: x126 :: x127 :: x128 :: x129 :: x130 :: x131 :: x132 :: x133 :: x134 :: x135 :: x136 :: x137 :: x138 :: x139 :: x140 :: x141 :: x142 :: x143 :: x144 :: x145 :: x146 :: x147 :: x148 :: x149 :: x150 :: x151 :: x152 :: x153 :: x154 :: x155 :: x156 :: x157 :: x158 :: x159 :: x160 :: x161 :: x162 :: x163 :: x164 :: x165 :: x166 :: x167 :: x168 :: x169 :: x170 :: x171 :: x172 :: x173 :: x174 :: x175 :: x176 :: x177 :: x178 :: x179 :: x180 :: x181 :: x182 :: x183 :: x184 :: x185 :: x186 :: x187 :: x188 :: x189 :: x190 :: x191 :: x192 :: x193 :: x194 :: x195 :: x196 :: x197 :: y198 :: y199 :: y200 :: y201 :: y202 :: y203 :: y204 :: y205 :: y206 :: y207 :: y208 :: y209 :: y210 :: y211 :: y212 :: y213 :: y214 :: y215 :: y216 :: y217 :: y218 :: y219 :: y220 :: y221 :: y222 :: y223 :: y224 :: y225 :: y226 :: y227 :: y228 :: y229 :: y230 :: y231 :: y232 :: y233 :: y234 :: y235 :: y236 :: y237 :: y238 :: y239 :: y240 :: y241 :: y242 :: x243 :: x244 :: x245 :: x246 :: x247 :: x248 :: x249 :: x250 :: x251 :: x252 :: x253 :: x254 :: x255 :: x256 :: x257 :: x258 :: x259 :: x260 :: x261 :: x262 :: x263 :: x264 :: x265 :: x266 :: x267 :: x268 :: x269 :: x270 :: x271 :: x272 :: x273 :: x274 :: []), []⟩ w') :
    Code.wp Try.prog (((Try.f19.body.bind (subBlock 7)).getD .skip)) Q ⟨List.toArray (.int .i64 size :: x1 :: x2 :: x3 :: x4 :: .pointer (some ⟨p, 0, none⟩) :: .slice ac ps.length kc :: .slice an ps.length kn :: x8 :: x9 :: x10 :: x11 :: x12 :: x13 :: x14 :: x15 :: .int .i64 0 :: x17 :: x18 :: x19 :: x20 :: x21 :: x22 :: x23 :: x24 :: x25 :: x26 :: x27 :: x28 :: x29 :: x30 :: x31 :: x32 :: x33 :: x34 :: x35 :: x36 :: x37 :: x38 :: x39 :: x40 :: x41 :: x42 :: x43 :: x44 :: x45 :: x46 :: x47 :: x48 :: x49 :: x50 :: x51 :: x52 :: x53 :: x54 :: x55 :: x56 :: x57 :: x58 :: x59 :: x60 :: x61 :: x62 :: x63 :: x64 :: x65 :: x66 :: x67 :: x68 :: x69 :: x70 :: x71 :: x72 :: x73 :: x74 :: x75 :: x76 :: x77 :: x78 :: x79 :: x80 :: x81 :: x82 :: x83 :: x84 :: x85 :: x86 :: x87 :: x88 :: x89 :: x90 :: x91 :: x92 :: x93 :: x94 :: x95 :: x96 :: x97 :: x98 :: x99 :: x100 :: x101 :: x102 :: x103 :: x104 :: x105 :: x106 :: x107 :: x108 :: x109 :: x110 :: x111 :: x112 :: x113 :: x114 :: x115 :: x116 :: x117 :: x118 :: x119 :: x120 :: x121 :: x122 :: x123 :: x124 :: x125 :: x126 :: x127 :: x128 :: x129 :: x130 :: x131 :: x132 :: x133 :: x134 :: x135 :: x136 :: x137 :: x138 :: x139 :: x140 :: x141 :: x142 :: x143 :: x144 :: x145 :: x146 :: x147 :: x148 :: x149 :: x150 :: x151 :: x152 :: x153 :: x154 :: x155 :: x156 :: x157 :: x158 :: x159 :: x160 :: x161 :: x162 :: x163 :: x164 :: x165 :: x166 :: x167 :: x168 :: x169 :: x170 :: x171 :: x172 :: x173 :: x174 :: x175 :: x176 :: x177 :: x178 :: x179 :: x180 :: x181 :: x182 :: x183 :: x184 :: x185 :: x186 :: x187 :: x188 :: x189 :: x190 :: x191 :: x192 :: x193 :: x194 :: x195 :: x196 :: x197 :: x198 :: x199 :: x200 :: x201 :: x202 :: x203 :: x204 :: x205 :: x206 :: x207 :: x208 :: x209 :: x210 :: x211 :: x212 :: x213 :: x214 :: x215 :: x216 :: x217 :: x218 :: x219 :: x220 :: x221 :: x222 :: x223 :: x224 :: x225 :: x226 :: x227 :: x228 :: x229 :: x230 :: x231 :: x232 :: x233 :: x234 :: x235 :: x236 :: x237 :: x238 :: x239 :: x240 :: x241 :: x242 :: x243 :: x244 :: x245 :: x246 :: x247 :: x248 :: x249 :: x250 :: x251 :: x252 :: x253 :: x254 :: x255 :: x256 :: x257 :: x258 :: x259 :: x260 :: x261 :: x262 :: x263 :: x264 :: x265 :: x266 :: x267 :: x268 :: x269 :: x270 :: x271 :: x272 :: x273 :: x274 :: []), []⟩ wc := by
  have HK := Lib.hid hQ; have HKP := Lib.hid hQp
  clear hQ hQp
  conv => arg 2; whnf
  have HS := Lib.hid (Below.refl wc.heap.size wc)
  have hlen := HM.out.bd.2.2.1
  have hcap := HR.out.cap
  go_wp2_with fail
  go_loopw [16] (fun s16 wx => ∃ k : Nat, s16 = .int .i64 k ∧ k ≤ ps.length ∧ Hid (Below wc.heap.size wc wx)) (fun s _ => ps.length - (intOf s).toNat)
  case atStart => exact ⟨0, rfl, Nat.zero_le _, HS⟩
  case round =>
    clear HS
    obtain ⟨k, rfl, hk, HS⟩ := hrel
    by_cases hlt : k < ps.length
    · skip
      obtain ⟨⟨ck, mk⟩, hq⟩ : ∃ q, ps[k]? = some q := ⟨_, List.getElem?_eq_getElem hlt⟩
      obtain ⟨bc, bn, rfl, rfl, hrc, hcn, _, hbc, _, hbn⟩ := HR.out.at hq
      simp only at hrc hcn
      have hok := HR.out.ok _ (List.mem_of_getElem? hq)
      have HQ := Lib.hid hq
      have HOK := Lib.hid hok
      have HRC : Hid (∀ y, Below wc.heap.size wc y → y.rangeAt bc (k * 8) (ck.map (Value.int .u8))) := Lib.hid fun y hy j v hv => bl_cell (p := ⟨bc, k * 8 + j, none⟩) hy hbc (hrc j v hv)
      have HCN : Hid (∀ y, Below wc.heap.size wc y → y.cell? ⟨bn, k, none⟩ = some (.int .i64 mk)) := Lib.hid fun y hy => bl_cell hy hbn hcn
      have HXL : Hid ((ck.map (Value.int .u8)).length = 8) := Lib.hid (by rw [List.length_map]; exact HOK.out.1)
      have HGE := Lib.hid (fun W (h : Mp W N p g ps) => mget_any W N p g ps ck h HOK.out.1 HOK.out.2.1)
      have HPB := Lib.hid (fun W (h : Mp W N p g ps) => mprobes_any W N p g ps ck h HOK.out.1 HOK.out.2.1)
      obtain ⟨XC, hXC⟩ : ∃ XC, ck.map (Value.int .u8) = XC := ⟨_, rfl⟩
      rw [hXC] at HXL HRC HGE HPB
      clear hXC hrc hcn hbc hbn hq hok
      go_wp2_with (first | (refine wpList_load_mid rfl 30 _ rfl bc (k * 8) rfl XC _ (HRC.out _ HS.out) Try.underlying30 rfl (by rw [HXL.out]; rfl) ?_) | fail)
      refine Calls.mono (HGE.out _ (HM.out.below HS.out)) ?_
      rintro e w1 ⟨hb, ⟨n, hn, rfl⟩ | ⟨hno, _⟩⟩
      rotate_left
      · exact absurd (List.mem_of_getElem? HQ.out) (hno mk)
      obtain rfl := HM.out.once hn (List.mem_of_getElem? HQ.out)
      replace HS := Lib.hid (bl_next HS.out HS.out.size hb)
      clear hb hn
      have cn := HCN.out _ HS.out
      go_wp2_with (first | (refine wpList_load_g 30 _ rfl (by kernel_rfl) bc (k * 8) rfl XC _ (HRC.out _ HS.out) Try.underlying30 rfl (by rw [HXL.out]; rfl) ?_) | (refine wpList_load_mid rfl 30 _ rfl bc (k * 8) rfl XC _ (HRC.out _ HS.out) Try.underlying30 rfl (by rw [HXL.out]; rfl) ?_) | fail)
      refine Calls.mono (HPB.out _ (HM.out.below HS.out)) ?_
      rintro e w2 ⟨hb, kk, hk1, hk2, rfl⟩
      replace HS := Lib.hid (bl_next HS.out HS.out.size hb)
      clear hb cn
      have hk3 : decide ((kk : Int) < 1) = false := by simp; omega
      have hk4 : decide (kk < 1) = false := by simp; omega
      go_wp2_with (first | (refine wpList_load_g 30 _ rfl (by kernel_rfl) bc (k * 8) rfl XC _ (HRC.out _ HS.out) Try.underlying30 rfl (by rw [HXL.out]; rfl) ?_) | (refine wpList_load_mid rfl 30 _ rfl bc (k * 8) rfl XC _ (HRC.out _ HS.out) Try.underlying30 rfl (by rw [HXL.out]; rfl) ?_) | fail)
      refine Calls.mono (HPB.out _ (HM.out.below HS.out)) ?_
      rintro e w3 ⟨hb, kj, hj1, hj2, rfl⟩
      replace HS := Lib.hid (bl_next HS.out HS.out.size hb)
      clear hb
      have hj3 : ¬ ((N : Int) < (kj : Int)) := by omega
      go_wp2_with fail
      refine Calls.mono (HPC.out _) ?_
      rintro e wq ⟨rfl, hq⟩
      obtain rfl := hq.symm
      clear hq
      go_wp2_with fail
      go_roundw
      case rel => exact ⟨k + 1, by go_num, by omega, HS⟩
      case measure => simp [intOf]; omega
    · obtain rfl : k = ps.length := by omega
      go_wp2_with fail
      exact HK.out _ _ _ _ _ _ _ _ _ _ _ _ _ _ _ _ _ _ _ _ _ _ _ _ _ _ _ _ _ _ _ _ _ _ _ _ _ _ _ _ _ _ _ _ _ _ _ _ _ _ HS.out
set_option maxRecDepth 100000 in
set_option maxHeartbeats 4000000 in
theorem play_in {x0 x1 x2 x3 x4 x5 x7 x8 x10 x11 x12 x13 x14 x15 x16 x17 x18 x19 x20 x23 x24 x25 x26 x27 x28 x29 x30 x31 x32 x33 x34 x35 x36 x37 x38 x39 x40 x41 x42 x43 x44 x45 x46 x47 x48 x49 x50 x51 x52 x53 x54 x55 x56 x57 x58 x59 x60 x61 x62 x63 x64 x65 x66 x67 x68 x69 x70 x71 x72 x73 x74 x75 x76 x77 x78 x79 x80 x81 x82 x83 x84 x85 x86 x87 x88 x89 x90 x91 x92 x93 x94 x95 x96 x97 x98 x99 x100 x101 x102 x103 x104 x105 x106 x107 x108 x109 x110 x111 x112 x113 x114 x115 x116 x117 x118 x119 x120 x121 x122 x123 x124 x125 x126 x127 x128 x129 x130 x131 x132 x133 x134 x135 x136 x137 x138 x139 x140 x141 x142 x143 x144 x145 x146 x147 x148 x149 x150 x151 x152 x153 x154 x155 x156 x157 x158 x159 x160 x161 x162 x163 x164 x165 x166 x167 x168 x169 x170 x171 x172 x173 x174 x175 x176 x177 x178 x179 x180 x181 x182 x183 x184 x185 x186 x187 x188 x189 x190 x191 x192 x193 x194 x195 x196 x197 x198 x199 x200 x201 x202 x203 x204 x205 x206 x207 x208 x209 x210 x211 x212 x213 x214 x215 x216 x217 x218 x219 x220 x221 x222 x223 x224 x225 x226 x227 x228 x229 x230 x231 x232 x233 x234 x235 x236 x237 x238 x239 x240 x241 x242 x243 x244 x245 x246 x247 x248 x249 x250 x251 x252 x253 x254 x255 x256 x257 x258 x259 x260 x261 x262 x263 x264 x265 x266 x267 x268 x269 x270 x271 x272 x273 x274 : Value} {B gc kn : Nat} {D : List Nat} {ps : List (List Int × Int)} {ac an : Option Addr} {kc : Nat} {c : List Int} {C : List Value} (wc : World) {Q : Exit → Act → World → Prop}
    (hlen : ps.length ≤ 4000) (HCL : Hid (c.length = 8)) (HCW : Hid (∀ x ∈ c, (Lit.int .u8 x).wf = true)) (HCLV : Hid (C.length = 8)) (HC : Hid (c.map (Value.int .u8) = C)) (HR : Hid (PRows wc B D ac kc an kn ps)) (HGC : Hid (wc.heap[gc]? = some (.cells C.toArray 30 (0, 0))))
    (hQp : ∀ c a d v w, Q (.panic c) (a.put d v) w → Q (.panic c) a w)
    (hQ : ∀ (y22 y249 y250 y251 y252 y253 y254 y255 y256 y257 y258 y259 y260 y261 y262 y263 : Value) (b : Bool) (w' : World), (b = true ↔ ∃ (q : Nat) (m : Int), q < ps.length ∧ ps[q]? = some (c, m)) → Below wc.heap.size wc w' → Q .normal ⟨List.toArray (x0 :: x1 :: x2 :: x3 :: x4 :: x5 :: .slice ac ps.length kc :: x7 :: x8 :: .pointer (some ⟨gc, 0, none⟩) :: x10 :: x11 :: x12 :: x13 :: x14 :: x15 :: x16 :: x17 :: x18 :: x19 :: x20 :: .bool b :: y22 :: x23 :: x24 :: x25 :: x26 :: x27 :: x28 :: x29 :: x30 :: x31 :: x32 :: x33 :: x34 :: x35 :: x36 :: x37 :: x38 :: x39 :: x40 :: x41 :: x42 :: x43 :: x44 :: x45 :: x46 :: x47 :: x48 :: x49 :: x50 :: x51 :: x52 :: x53 :: x54 :: x55 :: x56 :: x57 :: x58 :: x59 :: x60 :: x61 :: x62 :: x63 :: x64 :: x65 :: x66 :: x67 :: x68 :: x69 :: x70 :: x71 :: x72 :: x73 :: x74 :: x75 :: x76 :: x77 :: x78 :: x79 :: x80 :: x81 :: x82 :: x83 :: x84 :: x85 :: x86 :: x87 :: x88 :: x89 :: x90 :: x91 :: x92 :: x93 :: x94 :: x95 :: x96 :: x97 :: x98 :: x99 :: x100 :: x101 :: x102 :: x103 :: x104 :: x105 :: x106 :: x107 :: x108 :: x109 :: x110 :: x111 :: x112 :: x113 :: x114 :: x115 :: x116 :: x117 :: x118 :: x119 :: x120 :: x121 :: x122 :: x123 :: x124 :: x125 :: x126 :: x127 :: x128 :: x129 :: x130 :: x131 :: x132 :: x133 :: x134 :: x135 :: x136 :: x137 :: x138 :: x139 :: x140 :: x141 :: x142 :: x143 :: x144 :: x145 :: x146 :: x147 :: x148 :: x149 :: x150 :: x151 :: x152 :: x153 :: x154 :: x155 :: x156 :: x157 :: x158 :: x159 :: x160 :: x161 :: x162 :: x163 :: x164 :: x165 :: x166 :: x167 :: x168 :: x169 :: x170 :: x171 :: x172 :: x173 :: x174 :: x175 :: x176 :: x177 :: x178 :: x179 :: x180 :: x181 :: x182 :: x183 :: x184 :: x185 :: x186 :: x187 :: x188 :: x189 :: x190 :: x191 :: x192 :: x193 :: x194 :: x195 :: x196 :: x197 :: x198 :: x199 :: x200 :: x201 :: x202 :: x203 :: x204 :: x205 :: x206 :: x207 :: x208 :: x209 :: x210 :: x211 :: x212 :: x213 :: x214 :: x215 :: x216 :: x217 :: x218 :: x219 :: x220 :: x221 :: x222 :: x223 :: x224 :: x225 :: x226 :: x227 :: x228 :: x229 :: x230 :: x231 :: x232 :: x233 :: x234 :: x235 :: x236 :: x237 :: x238 :: x239 :: x240 :: x241 :: x242 :: x243 :: x244 :: x245 :: x246 :: x247 :: x248 :: y249 :: y250 :: y251 :: y252 :: y253 :: y254 :: y255 :: y256 :: y257 :: y258 :: y259 :: y260 :: y261 :: y262 :: y263 :: x264 :: x265 :: x266 :: x267 :: x268 :: x269 :: x270 :: x271 :: x272 :: x273 :: x274 :: []), []⟩ w') :
    Code.wp Try.prog (((Try.f19.body.bind (subBlock 9)).getD .skip)) Q ⟨List.toArray (x0 :: x1 :: x2 :: x3 :: x4 :: x5 :: .slice ac ps.length kc :: x7 :: x8 :: .pointer (some ⟨gc, 0, none⟩) :: x10 :: x11 :: x12 :: x13 :: x14 :: x15 :: x16 :: x17 :: x18 :: x19 :: x20 :: .bool false :: .int .i64 0 :: x23 :: x24 :: x25 :: x26 :: x27 :: x28 :: x29 :: x30 :: x31 :: x32 :: x33 :: x34 :: x35 :: x36 :: x37 :: x38 :: x39 :: x40 :: x41 :: x42 :: x43 :: x44 :: x45 :: x46 :: x47 :: x48 :: x49 :: x50 :: x51 :: x52 :: x53 :: x54 :: x55 :: x56 :: x57 :: x58 :: x59 :: x60 :: x61 :: x62 :: x63 :: x64 :: x65 :: x66 :: x67 :: x68 :: x69 :: x70 :: x71 :: x72 :: x73 :: x74 :: x75 :: x76 :: x77 :: x78 :: x79 :: x80 :: x81 :: x82 :: x83 :: x84 :: x85 :: x86 :: x87 :: x88 :: x89 :: x90 :: x91 :: x92 :: x93 :: x94 :: x95 :: x96 :: x97 :: x98 :: x99 :: x100 :: x101 :: x102 :: x103 :: x104 :: x105 :: x106 :: x107 :: x108 :: x109 :: x110 :: x111 :: x112 :: x113 :: x114 :: x115 :: x116 :: x117 :: x118 :: x119 :: x120 :: x121 :: x122 :: x123 :: x124 :: x125 :: x126 :: x127 :: x128 :: x129 :: x130 :: x131 :: x132 :: x133 :: x134 :: x135 :: x136 :: x137 :: x138 :: x139 :: x140 :: x141 :: x142 :: x143 :: x144 :: x145 :: x146 :: x147 :: x148 :: x149 :: x150 :: x151 :: x152 :: x153 :: x154 :: x155 :: x156 :: x157 :: x158 :: x159 :: x160 :: x161 :: x162 :: x163 :: x164 :: x165 :: x166 :: x167 :: x168 :: x169 :: x170 :: x171 :: x172 :: x173 :: x174 :: x175 :: x176 :: x177 :: x178 :: x179 :: x180 :: x181 :: x182 :: x183 :: x184 :: x185 :: x186 :: x187 :: x188 :: x189 :: x190 :: x191 :: x192 :: x193 :: x194 :: x195 :: x196 :: x197 :: x198 :: x199 :: x200 :: x201 :: x202 :: x203 :: x204 :: x205 :: x206 :: x207 :: x208 :: x209 :: x210 :: x211 :: x212 :: x213 :: x214 :: x215 :: x216 :: x217 :: x218 :: x219 :: x220 :: x221 :: x222 :: x223 :: x224 :: x225 :: x226 :: x227 :: x228 :: x229 :: x230 :: x231 :: x232 :: x233 :: x234 :: x235 :: x236 :: x237 :: x238 :: x239 :: x240 :: x241 :: x242 :: x243 :: x244 :: x245 :: x246 :: x247 :: x248 :: x249 :: x250 :: x251 :: x252 :: x253 :: x254 :: x255 :: x256 :: x257 :: x258 :: x259 :: x260 :: x261 :: x262 :: x263 :: x264 :: x265 :: x266 :: x267 :: x268 :: x269 :: x270 :: x271 :: x272 :: x273 :: x274 :: []), []⟩ wc := by
  have HK := Lib.hid hQ; have HKP := Lib.hid hQp
  clear hQ hQp
  conv => arg 2; whnf
  have HS := Lib.hid (Below.refl wc.heap.size wc)
  have hcap := HR.out.cap
  have HI0 : Hid (false = true ↔ ∃ (q : Nat) (m : Int), q < 0 ∧ ps[q]? = some (c, m)) := Lib.hid ⟨fun h => (by cases h), fun ⟨q, m, h, _⟩ => (by omega)⟩
  go_wp2_with fail
  go_loopw [21, 22] (fun s21 s22 wx => ∃ (k : Nat) (b : Bool), s21 = .bool b ∧ s22 = .int .i64 k ∧ k ≤ ps.length ∧ Hid (b = true ↔ ∃ (q : Nat) (m : Int), q < k ∧ ps[q]? = some (c, m)) ∧ Hid (Below wc.heap.size wc wx)) (fun _ s _ => ps.length - (intOf s).toNat)
  case atStart => exact ⟨0, false, rfl, rfl, Nat.zero_le _, HI0, HS⟩
  case round =>
    clear HS HI0
    obtain ⟨k, b, rfl, rfl, hk, HI, HS⟩ := hrel
    by_cases hlt : k < ps.length
    · skip
      replace HGC := Lib.hid (bl_row HS.out (lt_of_block HGC.out) HGC.out)
      have HR0 := HR
      have HRX := Lib.hid (HR.out.below HS.out)
      obtain ⟨⟨ck, mk⟩, hq⟩ : ∃ q, ps[k]? = some q := ⟨_, List.getElem?_eq_getElem hlt⟩
      obtain ⟨bc, bn, rfl, rfl, hrc, _, _, hbc, _, _⟩ := HRX.out.at hq
      have hok := HRX.out.ok _ (List.mem_of_getElem? hq)
      have HQ := Lib.hid hq
      have HOK := Lib.hid hok
      have hgl := lt_of_block HGC.out
      have HR8 : Hid (∀ y, Below wr.heap.size wr y → y.rangeAt bc (k * 8) (ck.map (Value.int .u8))) := Lib.hid fun y hy j v hv => bl_cell (p := ⟨bc, k * 8 + j, none⟩) hy hbc (hrc j v hv)
      have HRC : Hid (∀ y, Below wr.heap.size wr y → y.rangeAt gc 0 C) := Lib.hid fun y hy => rngL (bl_row hy hgl HGC.out)
      have HXL : Hid ((ck.map (Value.int .u8)).length = 8) := Lib.hid (by rw [List.length_map]; exact HOK.out.1)
      obtain ⟨eb, heb⟩ : ∃ b, (ck == c) = b := ⟨_, rfl⟩
      have HEB := Lib.hid heb
      have HEQ : Hid (∀ y, (binOp .eql 30 (.agg (ck.map (Value.int .u8)).toArray) (.agg C.toArray)).run Try.prog y = .ok (.bool eb) y) := Lib.hid fun y => by
        have h := eql_bytes y 30 8 Try.underlying30 ck c HOK.out.1 HCL.out HOK.out.2.1 HCW.out
        rw [HC.out] at h; rw [h, heb]
      have HEQ2 : Hid (∀ y, (Op.equalIn 10000 30 (.agg (ck.map (Value.int .u8)).toArray) (.agg C.toArray)).run Try.prog y = .ok eb y) := Lib.hid fun y => by
        have h := eqin_bytes y 30 8 Try.underlying30 ck c HOK.out.1 HCL.out HOK.out.2.1 HCW.out
        rw [HC.out] at h; rw [h, heb]
      obtain ⟨XC, hXC⟩ : ∃ XC, ck.map (Value.int .u8) = XC := ⟨_, rfl⟩
      rw [hXC] at HR8 HXL HEQ HEQ2
      clear hXC hrc hbc hgl hok hq heb
      have feq : ∀ t : In (fun y => Below wr.heap.size wr y), (binOp .eql 30 (.agg XC.toArray) (.agg C.toArray)).run Try.prog t.w = .ok (.bool eb) t.w := fun t => HEQ.out t.w
      have feq2 : ∀ t : In (fun y => Below wr.heap.size wr y), (Op.equalIn 10000 30 (.agg XC.toArray) (.agg C.toArray)).run Try.prog t.w = .ok eb t.w := fun t => HEQ2.out t.w
      cases b with
      | true =>
        have HI2 : Hid (true = true ↔ ∃ (q : Nat) (m : Int), q < k + 1 ∧ ps[q]? = some (c, m)) := Lib.hid ⟨fun h => by obtain ⟨q, m, h1, h2⟩ := HI.out.1 rfl; exact ⟨q, m, by omega, h2⟩, fun _ => rfl⟩
        go_upto_region 53 with fail
        refine wp_plan (.t 0 (.t 1 (.t 2 (.t 3 (.t 4 (.t 5 (.t 6 (.t 7 (.t 8 (.t 9 .done)))))))))) (fun y => Below wr.heap.size wr y) (by kernel_rfl) (by kernel_rfl) (by kernel_rfl) (fun c a d v w h => by first | (cases d <;> exact h) | exact HKP.out c a d v w h) (Below.refl _ _).drew ?_
        have hS : Below wr.heap.size wr wr.drew := (Below.refl _ _).drew
        generalize wr.drew = Wa at hS ⊢
        haveI hne : Nonempty (In fun y => Below wr.heap.size wr y) := ⟨⟨wr, Below.refl _ _⟩⟩
        repeat (refine plan_t (by rfl) ?_; (first | go_big_quiet_skip | (go_big_quiet_want; go_big_quiet_op; go_big_quiet_on)); refine wpQuiet_nil ?_)
        clear feq feq2 HEQ HEQ2 HR8 HRC
        replace HS := Lib.hid (bl_next HS.out HS.out.size hS)
        clear hS hne
        try show Exit.inBlock _ _ _ _ _
        go_wp2_with fail
        go_roundw
        case rel => exact ⟨k + 1, true, rfl, by go_num, by omega, HI2, HS⟩
        case measure => simp [intOf]; omega
      | false =>
        have HI2 : Hid (eb = true ↔ ∃ (q : Nat) (m : Int), q < k + 1 ∧ ps[q]? = some (c, m)) := Lib.hid ⟨fun h => ⟨k, mk, by omega, by have e : ck = c := (by have := HEB.out; rw [h] at this; simpa using this); rw [← e]; exact HQ.out⟩, fun ⟨q, m, h1, h2⟩ => by
          rcases Nat.lt_or_ge q k with h | h
          · exact absurd (HI.out.2 ⟨q, m, h, h2⟩) (by decide)
          · obtain rfl : q = k := by omega
            rw [HQ.out] at h2; injection h2 with h2; injection h2 with h2 _; rw [← HEB.out, h2]; simp⟩
        go_upto_region 53 with fail
        refine wp_plan (.t 0 (.t 1 (.t 2 (.t 3 (.t 4 (.t 5 (.t 6 (.t 7 (.t 8 (.t 9 .done)))))))))) (fun y => Below wr.heap.size wr y) (by kernel_rfl) (by kernel_rfl) (by kernel_rfl) (fun c a d v w h => by first | (cases d <;> exact h) | exact HKP.out c a d v w h) (Below.refl _ _).drew ?_
        have hS : Below wr.heap.size wr wr.drew := (Below.refl _ _).drew
        generalize wr.drew = Wa at hS ⊢
        haveI hne : Nonempty (In fun y => Below wr.heap.size wr y) := ⟨⟨wr, Below.refl _ _⟩⟩
        repeat (first | (refine plan_t_load (by rfl) (by kernel_rfl) 30 _ rfl bc (k * 8) rfl XC _ (fun y hy => HR8.out y hy) Try.underlying30 rfl (by rw [HXL.out]; rfl) ?_; simp only [Act.put, List.setIfInBounds_toArray, List.set_cons_succ, List.set_cons_zero]) | (refine plan_t_load (by rfl) (by kernel_rfl) 30 _ rfl gc 0 rfl C _ (fun y hy => HRC.out y hy) Try.underlying30 rfl (by rw [HCLV.out]; rfl) ?_; simp only [Act.put, List.setIfInBounds_toArray, List.set_cons_succ, List.set_cons_zero]) | (refine plan_t (by rfl) ?_; (first | go_big_quiet_skip | (go_big_quiet_want; go_big_quiet_op; go_big_quiet_on)); refine wpQuiet_nil ?_))
        clear feq feq2 HEQ HEQ2 HR8 HRC
        replace HS := Lib.hid (bl_next HS.out HS.out.size hS)
        clear hS hne
        try show Exit.inBlock _ _ _ _ _
        go_wp2_with fail
        go_roundw
        case rel => exact ⟨k + 1, eb, rfl, by go_num, by omega, HI2, HS⟩
        case measure => simp [intOf]; omega
    · obtain rfl : k = ps.length := by omega
      go_wp2_with fail
      exact HK.out _ _ _ _ _ _ _ _ _ _ _ _ _ _ _ _ _ _ HI.out HS.out
end Go.Proofs.Ytpngjokjjpdboaa
