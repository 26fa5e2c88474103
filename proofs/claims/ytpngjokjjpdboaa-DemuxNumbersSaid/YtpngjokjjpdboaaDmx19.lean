/- demux: the walk of play. -/
import Derived.Test.YtpngjokjjpdboaaDmx18
namespace Go.Proofs.Ytpngjokjjpdboaa
open Go.RowKit
set_option linter.unusedVariables false
set_option linter.unusedSimpArgs false

set_option maxRecDepth 100000 in
set_option maxHeartbeats 4000000 in
theorem play_sw {x2 x3 x4 x11 x12 x13 x14 x15 x16 x17 x18 x19 x20 x21 x22 x23 x24 x25 x26 x27 x28 x29 x30 x31 x32 x33 x34 x35 x36 x37 x38 x39 x40 x41 x42 x43 x44 x45 x46 x47 x48 x49 x50 x51 x52 x53 x54 x55 x56 x57 x58 x59 x60 x61 x62 x63 x64 x65 x67 x68 x69 x70 x71 x72 x73 x74 x75 x76 x77 x78 x79 x80 x81 x82 x83 x84 x85 x86 x87 x88 x89 x90 x91 x92 x93 x94 x95 x96 x97 x98 x99 x100 x101 x102 x103 x104 x105 x106 x107 x108 x109 x110 x111 x112 x113 x114 x115 x116 x117 x118 x119 x120 x121 x122 x123 x124 x125 x126 x127 x128 x129 x130 x131 x132 x133 x134 x135 x136 x137 x138 x139 x140 x141 x142 x143 x144 x145 x146 x147 x148 x149 x150 x151 x152 x153 x154 x155 x156 x157 x158 x159 x160 x161 x162 x163 x164 x165 x166 x167 x168 x169 x170 x171 x172 x173 x174 x175 x176 x177 x178 x179 x180 x181 x182 x183 x184 x185 x186 x187 x188 x189 x190 x191 x192 x193 x194 x195 x196 x197 x198 x199 x200 x201 x202 x203 x204 x205 x206 x207 x208 x209 x210 x211 x212 x213 x214 x215 x216 x217 x218 x219 x220 x221 x222 x223 x224 x225 x226 x227 x228 x229 x230 x231 x232 x233 x234 x235 x236 x237 x238 x239 x240 x241 x242 x243 x244 x245 x246 x247 x248 x249 x250 x251 x252 x253 x254 x255 x256 x257 x258 x259 x260 x261 x262 x263 x264 x265 x266 x267 x268 x269 x270 x271 x272 x273 x274 : Value} {w : World} {size : Int} {N p g gc i L cap lb lo : Nat} {k0 n0 nn at' : Int} {ps : List (List Int × Int)} {ac an : Option Addr} {kc kn : Nat} {c : List Int} {C : List Value} (wc : World) {Q : Exit → Act → World → Prop}
    (hk0 : True) (hiL : i < L) (hi : i < 100) (hL : L ≤ 9223372036854775807) (hnb : -9223372036854775808 ≤ n0 ∧ n0 ≤ 9223372036854775807) (hnn : -3 ≤ nn ∧ nn ≤ 3) (HNN : Hid (Int.tmod n0 4 = nn)) (hNb : 8 ≤ N ∧ N ≤ 4096)
    (HPC : Hid (∀ w : World, Calls Try.prog 26 #[.int .i64 size] w fun e w' => e = .returned (.int .i64 (N : Nat)) ∧ w' = w))
    (HCL : Hid (c.length = 8)) (HCW : Hid (∀ x ∈ c, (Lit.int .u8 x).wf = true)) (HCLV : Hid (C.length = 8)) (HC : Hid (c.map (Value.int .u8) = C))
    (HCN : Hid (∀ y, Below w.heap.size w y → y.cell? ⟨lb, lo + i * 11 + 2, none⟩ = some (.int .i64 n0))) (HB : Hid (Below w.heap.size w wc)) (HM : Hid (Mp wc N p g ps)) (HR : Hid (PRows wc w.heap.size [gc, p, g] ac kc an kn ps))
    (HGC : Hid (wc.heap[gc]? = some (.cells C.toArray 30 (0, 0)))) (HAT : Hid (AtIs ps c ps.length at')) (HNG : Hid (gc ≠ p ∧ gc ≠ g ∧ w.heap.size ≤ gc)) (HGG : Hid (w.heap.size ≤ g)) (HP : Hid (w.heap.size ≤ p))
    (hQp : ∀ c a d v w, Q (.panic c) (a.put d v) w → Q (.panic c) a w)
    (hQ : ∀ (y4 y12 y13 y14 y15 y67 y68 y69 y70 y71 y72 y73 y74 y75 y76 y77 y78 y79 y80 y81 y82 y83 y84 y85 y86 y87 y88 y89 y90 y91 y92 y93 y94 y95 y96 y97 y98 y99 y100 y101 y102 y103 y104 y105 y106 y107 y108 y109 y110 y111 y112 y113 y114 y115 y116 y117 y118 y119 y120 y121 y122 y123 y124 y125 y126 y127 y128 y129 y130 y131 y132 y133 y134 y135 y136 y137 y138 y139 y140 y141 y142 y143 y144 y145 y146 y147 y148 y149 y150 y151 y152 y153 y154 y155 y156 y157 y158 y159 y160 y161 y162 y163 y164 y165 y166 y167 y168 y169 y170 y171 y172 y173 y174 y175 y176 y177 y178 y179 y180 y181 y182 y183 y184 y185 y186 y187 y188 y189 y190 y191 y192 : Value) (g' : Nat) (ps' : List (List Int × Int)) (ac' an' : Option Addr) (kc' kn' : Nat) (w' : World), Hid (Below w.heap.size w w') → Hid (Mp w' N p g' ps') → Hid (PRows w' w.heap.size [gc, p, g'] ac' kc' an' kn' ps') → Hid (w'.heap[gc]? = some (.cells C.toArray 30 (0, 0))) → Hid (w.heap.size ≤ g' ∧ gc ≠ g') → Q .normal ⟨List.toArray (.int .i64 size :: .slice (some ⟨lb, lo, none⟩) L cap :: x2 :: x3 :: y4 :: .pointer (some ⟨p, 0, none⟩) :: .slice ac' ps'.length kc' :: .slice an' ps'.length kn' :: .int .i64 i :: .pointer (some ⟨gc, 0, none⟩) :: .int .i64 at' :: x11 :: y12 :: y13 :: y14 :: y15 :: x16 :: x17 :: x18 :: x19 :: x20 :: x21 :: x22 :: x23 :: x24 :: x25 :: x26 :: x27 :: x28 :: x29 :: x30 :: x31 :: x32 :: x33 :: x34 :: x35 :: x36 :: x37 :: x38 :: x39 :: x40 :: x41 :: x42 :: x43 :: x44 :: x45 :: x46 :: x47 :: x48 :: x49 :: x50 :: x51 :: x52 :: x53 :: x54 :: x55 :: x56 :: x57 :: x58 :: x59 :: x60 :: x61 :: x62 :: x63 :: x64 :: x65 :: .int .i64 k0 :: y67 :: y68 :: y69 :: y70 :: y71 :: y72 :: y73 :: y74 :: y75 :: y76 :: y77 :: y78 :: y79 :: y80 :: y81 :: y82 :: y83 :: y84 :: y85 :: y86 :: y87 :: y88 :: y89 :: y90 :: y91 :: y92 :: y93 :: y94 :: y95 :: y96 :: y97 :: y98 :: y99 :: y100 :: y101 :: y102 :: y103 :: y104 :: y105 :: y106 :: y107 :: y108 :: y109 :: y110 :: y111 :: y112 :: y113 :: y114 :: y115 :: y116 :: y117 :: y118 :: y119 :: y120 :: y121 :: y122 :: y123 :: y124 :: y125 :: y126 :: y127 :: y128 :: y129 :: y130 :: y131 :: y132 :: y133 :: y134 :: y135 :: y136 :: y137 :: y138 :: y139 :: y140 :: y141 :: y142 :: y143 :: y144 :: y145 :: y146 :: y147 :: y148 :: y149 :: y150 :: y151 :: y152 :: y153 :: y154 :: y155 :: y156 :: y157 :: y158 :: y159 :: y160 :: y161 :: y162 :: y163 :: y164 :: y165 :: y166 :: y167 :: y168 :: y169 :: y170 :: y171 :: y172 :: y173 :: y174 :: y175 :: y176 :: y177 :: y178 :: y179 :: y180 :: y181 :: y182 :: y183 :: y184 :: y185 :: y186 :: y187 :: y188 :: y189 :: y190 :: y191 :: y192 :: x193 :: x194 :: x195 :: x196 :: x197 :: x198 :: x199 :: x200 :: x201 :: x202 :: x203 :: x204 :: x205 :: x206 :: x207 :: x208 :: x209 :: x210 :: x211 :: x212 :: x213 :: x214 :: x215 :: x216 :: x217 :: x218 :: x219 :: x220 :: x221 :: x222 :: x223 :: x224 :: x225 :: x226 :: x227 :: x228 :: x229 :: x230 :: x231 :: x232 :: x233 :: x234 :: x235 :: x236 :: x237 :: x238 :: x239 :: x240 :: x241 :: x242 :: x243 :: x244 :: x245 :: x246 :: x247 :: x248 :: x249 :: x250 :: x251 :: x252 :: x253 :: x254 :: x255 :: x256 :: x257 :: x258 :: x259 :: x260 :: x261 :: x262 :: x263 :: x264 :: x265 :: x266 :: x267 :: x268 :: x269 :: x270 :: x271 :: x272 :: x273 :: x274 :: []), []⟩ w') :
    Code.wp Try.prog (((Try.f19.body.bind (subBlock 4)).getD .skip)) Q ⟨List.toArray (.int .i64 size :: .slice (some ⟨lb, lo, none⟩) L cap :: x2 :: x3 :: x4 :: .pointer (some ⟨p, 0, none⟩) :: .slice ac ps.length kc :: .slice an ps.length kn :: .int .i64 i :: .pointer (some ⟨gc, 0, none⟩) :: .int .i64 at' :: x11 :: x12 :: x13 :: x14 :: x15 :: x16 :: x17 :: x18 :: x19 :: x20 :: x21 :: x22 :: x23 :: x24 :: x25 :: x26 :: x27 :: x28 :: x29 :: x30 :: x31 :: x32 :: x33 :: x34 :: x35 :: x36 :: x37 :: x38 :: x39 :: x40 :: x41 :: x42 :: x43 :: x44 :: x45 :: x46 :: x47 :: x48 :: x49 :: x50 :: x51 :: x52 :: x53 :: x54 :: x55 :: x56 :: x57 :: x58 :: x59 :: x60 :: x61 :: x62 :: x63 :: x64 :: x65 :: .int .i64 k0 :: x67 :: x68 :: x69 :: x70 :: x71 :: x72 :: x73 :: x74 :: x75 :: x76 :: x77 :: x78 :: x79 :: x80 :: x81 :: x82 :: x83 :: x84 :: x85 :: x86 :: x87 :: x88 :: x89 :: x90 :: x91 :: x92 :: x93 :: x94 :: x95 :: x96 :: x97 :: x98 :: x99 :: x100 :: x101 :: x102 :: x103 :: x104 :: x105 :: x106 :: x107 :: x108 :: x109 :: x110 :: x111 :: x112 :: x113 :: x114 :: x115 :: x116 :: x117 :: x118 :: x119 :: x120 :: x121 :: x122 :: x123 :: x124 :: x125 :: x126 :: x127 :: x128 :: x129 :: x130 :: x131 :: x132 :: x133 :: x134 :: x135 :: x136 :: x137 :: x138 :: x139 :: x140 :: x141 :: x142 :: x143 :: x144 :: x145 :: x146 :: x147 :: x148 :: x149 :: x150 :: x151 :: x152 :: x153 :: x154 :: x155 :: x156 :: x157 :: x158 :: x159 :: x160 :: x161 :: x162 :: x163 :: x164 :: x165 :: x166 :: x167 :: x168 :: x169 :: x170 :: x171 :: x172 :: x173 :: x174 :: x175 :: x176 :: x177 :: x178 :: x179 :: x180 :: x181 :: x182 :: x183 :: x184 :: x185 :: x186 :: x187 :: x188 :: x189 :: x190 :: x191 :: x192 :: x193 :: x194 :: x195 :: x196 :: x197 :: x198 :: x199 :: x200 :: x201 :: x202 :: x203 :: x204 :: x205 :: x206 :: x207 :: x208 :: x209 :: x210 :: x211 :: x212 :: x213 :: x214 :: x215 :: x216 :: x217 :: x218 :: x219 :: x220 :: x221 :: x222 :: x223 :: x224 :: x225 :: x226 :: x227 :: x228 :: x229 :: x230 :: x231 :: x232 :: x233 :: x234 :: x235 :: x236 :: x237 :: x238 :: x239 :: x240 :: x241 :: x242 :: x243 :: x244 :: x245 :: x246 :: x247 :: x248 :: x249 :: x250 :: x251 :: x252 :: x253 :: x254 :: x255 :: x256 :: x257 :: x258 :: x259 :: x260 :: x261 :: x262 :: x263 :: x264 :: x265 :: x266 :: x267 :: x268 :: x269 :: x270 :: x271 :: x272 :: x273 :: x274 :: []), []⟩ wc := by
  have HK := Lib.hid hQ; have HKP := Lib.hid hQp
  clear hQ hQp
  conv => arg 2; whnf
  by_cases k3 : k0 = 3
  · exact play_sw3 _ k3 hiL hi hL hnb hnn HNN hNb HPC HCL HCW HCLV HC HCN HB HM HR HGC HAT HNG HGG HP HKP.out HK.out
  · by_cases k4 : k0 = 4
    · exact play_sw4 _ k4 hiL hi hL hnb hnn HNN hNb HPC HCL HCW HCLV HC HCN HB HM HR HGC HAT HNG HGG HP HKP.out HK.out
    · exact play_swd _ ⟨k3, k4⟩ hiL hi hL hnb hnn HNN hNb HPC HCL HCW HCLV HC HCN HB HM HR HGC HAT HNG HGG HP HKP.out HK.out
set_option maxRecDepth 100000 in
set_option maxHeartbeats 4000000 in
theorem play_round {x2 x3 x4 x9 x10 x11 x12 x13 x14 x15 x16 x17 x18 x19 x20 x21 x22 x23 x24 x25 x26 x27 x28 x29 x30 x31 x32 x33 x34 x35 x36 x37 x38 x39 x40 x41 x42 x43 x44 x45 x46 x47 x48 x49 x50 x51 x52 x53 x54 x55 x56 x57 x58 x59 x60 x61 x62 x63 x64 x65 x66 x67 x68 x69 x70 x71 x72 x73 x74 x75 x76 x77 x78 x79 x80 x81 x82 x83 x84 x85 x86 x87 x88 x89 x90 x91 x92 x93 x94 x95 x96 x97 x98 x99 x100 x101 x102 x103 x104 x105 x106 x107 x108 x109 x110 x111 x112 x113 x114 x115 x116 x117 x118 x119 x120 x121 x122 x123 x124 x125 x126 x127 x128 x129 x130 x131 x132 x133 x134 x135 x136 x137 x138 x139 x140 x141 x142 x143 x144 x145 x146 x147 x148 x149 x150 x151 x152 x153 x154 x155 x156 x157 x158 x159 x160 x161 x162 x163 x164 x165 x166 x167 x168 x169 x170 x171 x172 x173 x174 x175 x176 x177 x178 x179 x180 x181 x182 x183 x184 x185 x186 x187 x188 x189 x190 x191 x192 x193 x194 x195 x196 x197 x198 x199 x200 x201 x202 x203 x204 x205 x206 x207 x208 x209 x210 x211 x212 x213 x214 x215 x216 x217 x218 x219 x220 x221 x222 x223 x224 x225 x226 x227 x228 x229 x230 x231 x232 x233 x234 x235 x236 x237 x238 x239 x240 x241 x242 x243 x244 x245 x246 x247 x248 x249 x250 x251 x252 x253 x254 x255 x256 x257 x258 x259 x260 x261 x262 x263 x264 x265 x266 x267 x268 x269 x270 x271 x272 x273 x274 : Value} {w : World} {size : Int} {N p g i L cap lb lo : Nat} {ps : List (List Int × Int)} {ac an : Option Addr} {kc kn : Nat} (wc : World) {Q : Exit → Act → World → Prop}
    (h1 : i < L) (h2 : i < 100) (hL : L ≤ 9223372036854775807) (hNb : 8 ≤ N ∧ N ≤ 4096) (HPC : Hid (∀ w : World, Calls Try.prog 26 #[.int .i64 size] w fun e w' => e = .returned (.int .i64 (N : Nat)) ∧ w' = w)) (HA : Hid (Asks w (some ⟨lb, lo, none⟩) L)) (HP : Hid (w.heap.size ≤ p)) (HB : Hid (Below w.heap.size w wc)) (HM : Hid (Mp wc N p g ps)) (HR : Hid (PRows wc w.heap.size [p, g] ac kc an kn ps)) (HGG : Hid (w.heap.size ≤ g))
    (hQp : ∀ c a d v w, Q (.panic c) (a.put d v) w → Q (.panic c) a w)
    (hQ : ∀ (y4 y9 y10 y11 y12 y13 y14 y15 y16 y17 y18 y19 y20 y21 y22 y44 y45 y46 y47 y48 y49 y50 y51 y52 y53 y54 y55 y56 y57 y58 y59 y60 y61 y62 y63 y64 y65 y66 y67 y68 y69 y70 y71 y72 y73 y74 y75 y76 y77 y78 y79 y80 y81 y82 y83 y84 y85 y86 y87 y88 y89 y90 y91 y92 y93 y94 y95 y96 y97 y98 y99 y100 y101 y102 y103 y104 y105 y106 y107 y108 y109 y110 y111 y112 y113 y114 y115 y116 y117 y118 y119 y120 y121 y122 y123 y124 y125 y126 y127 y128 y129 y130 y131 y132 y133 y134 y135 y136 y137 y138 y139 y140 y141 y142 y143 y144 y145 y146 y147 y148 y149 y150 y151 y152 y153 y154 y155 y156 y157 y158 y159 y160 y161 y162 y163 y164 y165 y166 y167 y168 y169 y170 y171 y172 y173 y174 y175 y176 y177 y178 y179 y180 y181 y182 y183 y184 y185 y186 y187 y188 y189 y190 y191 y192 y193 y194 y195 y196 y197 y198 y199 y200 y201 y202 y203 y204 y205 y206 y207 y208 y209 y210 y211 y212 y213 y214 y215 y216 y217 y218 y219 y220 y221 y222 y223 y224 y225 y226 y227 y228 y229 y230 y231 y232 y233 y234 y235 y236 y237 y238 y239 y240 y241 y242 y243 y244 y245 y246 y247 y248 y249 y250 y251 y252 y253 y254 y255 y256 y257 y258 y259 y260 y261 y262 y263 y264 y265 y266 y267 y268 y269 y270 y271 y272 y273 y274 : Value) (g' : Nat) (ps' : List (List Int × Int)) (ac' an' : Option Addr) (kc' kn' : Nat) (w' : World), Hid (Below w.heap.size w w') → Hid (Mp w' N p g' ps') → Hid (PRows w' w.heap.size [p, g'] ac' kc' an' kn' ps') → Hid (w.heap.size ≤ g') → Q .normal ⟨List.toArray (.int .i64 size :: .slice (some ⟨lb, lo, none⟩) L cap :: x2 :: x3 :: y4 :: .pointer (some ⟨p, 0, none⟩) :: .slice ac' ps'.length kc' :: .slice an' ps'.length kn' :: .int .i64 i :: y9 :: y10 :: y11 :: y12 :: y13 :: y14 :: y15 :: y16 :: y17 :: y18 :: y19 :: y20 :: y21 :: y22 :: x23 :: x24 :: x25 :: x26 :: x27 :: x28 :: x29 :: x30 :: x31 :: x32 :: x33 :: x34 :: x35 :: x36 :: x37 :: x38 :: x39 :: x40 :: x41 :: x42 :: x43 :: y44 :: y45 :: y46 :: y47 :: y48 :: y49 :: y50 :: y51 :: y52 :: y53 :: y54 :: y55 :: y56 :: y57 :: y58 :: y59 :: y60 :: y61 :: y62 :: y63 :: y64 :: y65 :: y66 :: y67 :: y68 :: y69 :: y70 :: y71 :: y72 :: y73 :: y74 :: y75 :: y76 :: y77 :: y78 :: y79 :: y80 :: y81 :: y82 :: y83 :: y84 :: y85 :: y86 :: y87 :: y88 :: y89 :: y90 :: y91 :: y92 :: y93 :: y94 :: y95 :: y96 :: y97 :: y98 :: y99 :: y100 :: y101 :: y102 :: y103 :: y104 :: y105 :: y106 :: y107 :: y108 :: y109 :: y110 :: y111 :: y112 :: y113 :: y114 :: y115 :: y116 :: y117 :: y118 :: y119 :: y120 :: y121 :: y122 :: y123 :: y124 :: y125 :: y126 :: y127 :: y128 :: y129 :: y130 :: y131 :: y132 :: y133 :: y134 :: y135 :: y136 :: y137 :: y138 :: y139 :: y140 :: y141 :: y142 :: y143 :: y144 :: y145 :: y146 :: y147 :: y148 :: y149 :: y150 :: y151 :: y152 :: y153 :: y154 :: y155 :: y156 :: y157 :: y158 :: y159 :: y160 :: y161 :: y162 :: y163 :: y164 :: y165 :: y166 :: y167 :: y168 :: y169 :: y170 :: y171 :: y172 :: y173 :: y174 :: y175 :: y176 :: y177 :: y178 :: y179 :: y180 :: y181 :: y182 :: y183 :: y184 :: y185 :: y186 :: y187 :: y188 :: y189 :: y190 :: y191 :: y192 :: y193 :: y194 :: y195 :: y196 :: y197 :: y198 :: y199 :: y200 :: y201 :: y202 :: y203 :: y204 :: y205 :: y206 :: y207 :: y208 :: y209 :: y210 :: y211 :: y212 :: y213 :: y214 :: y215 :: y216 :: y217 :: y218 :: y219 :: y220 :: y221 :: y222 :: y223 :: y224 :: y225 :: y226 :: y227 :: y228 :: y229 :: y230 :: y231 :: y232 :: y233 :: y234 :: y235 :: y236 :: y237 :: y238 :: y239 :: y240 :: y241 :: y242 :: y243 :: y244 :: y245 :: y246 :: y247 :: y248 :: y249 :: y250 :: y251 :: y252 :: y253 :: y254 :: y255 :: y256 :: y257 :: y258 :: y259 :: y260 :: y261 :: y262 :: y263 :: y264 :: y265 :: y266 :: y267 :: y268 :: y269 :: y270 :: y271 :: y272 :: y273 :: y274 :: []), []⟩ w') :
    Code.wp Try.prog (((Try.f19.body.bind (subBlock 1)).getD .skip)) Q ⟨List.toArray (.int .i64 size :: .slice (some ⟨lb, lo, none⟩) L cap :: x2 :: x3 :: x4 :: .pointer (some ⟨p, 0, none⟩) :: .slice ac ps.length kc :: .slice an ps.length kn :: .int .i64 i :: x9 :: x10 :: x11 :: x12 :: x13 :: x14 :: x15 :: x16 :: x17 :: x18 :: x19 :: x20 :: x21 :: x22 :: x23 :: x24 :: x25 :: x26 :: x27 :: x28 :: x29 :: x30 :: x31 :: x32 :: x33 :: x34 :: x35 :: x36 :: x37 :: x38 :: x39 :: x40 :: x41 :: x42 :: x43 :: x44 :: x45 :: x46 :: x47 :: x48 :: x49 :: x50 :: x51 :: x52 :: x53 :: x54 :: x55 :: x56 :: x57 :: x58 :: x59 :: x60 :: x61 :: x62 :: x63 :: x64 :: x65 :: x66 :: x67 :: x68 :: x69 :: x70 :: x71 :: x72 :: x73 :: x74 :: x75 :: x76 :: x77 :: x78 :: x79 :: x80 :: x81 :: x82 :: x83 :: x84 :: x85 :: x86 :: x87 :: x88 :: x89 :: x90 :: x91 :: x92 :: x93 :: x94 :: x95 :: x96 :: x97 :: x98 :: x99 :: x100 :: x101 :: x102 :: x103 :: x104 :: x105 :: x106 :: x107 :: x108 :: x109 :: x110 :: x111 :: x112 :: x113 :: x114 :: x115 :: x116 :: x117 :: x118 :: x119 :: x120 :: x121 :: x122 :: x123 :: x124 :: x125 :: x126 :: x127 :: x128 :: x129 :: x130 :: x131 :: x132 :: x133 :: x134 :: x135 :: x136 :: x137 :: x138 :: x139 :: x140 :: x141 :: x142 :: x143 :: x144 :: x145 :: x146 :: x147 :: x148 :: x149 :: x150 :: x151 :: x152 :: x153 :: x154 :: x155 :: x156 :: x157 :: x158 :: x159 :: x160 :: x161 :: x162 :: x163 :: x164 :: x165 :: x166 :: x167 :: x168 :: x169 :: x170 :: x171 :: x172 :: x173 :: x174 :: x175 :: x176 :: x177 :: x178 :: x179 :: x180 :: x181 :: x182 :: x183 :: x184 :: x185 :: x186 :: x187 :: x188 :: x189 :: x190 :: x191 :: x192 :: x193 :: x194 :: x195 :: x196 :: x197 :: x198 :: x199 :: x200 :: x201 :: x202 :: x203 :: x204 :: x205 :: x206 :: x207 :: x208 :: x209 :: x210 :: x211 :: x212 :: x213 :: x214 :: x215 :: x216 :: x217 :: x218 :: x219 :: x220 :: x221 :: x222 :: x223 :: x224 :: x225 :: x226 :: x227 :: x228 :: x229 :: x230 :: x231 :: x232 :: x233 :: x234 :: x235 :: x236 :: x237 :: x238 :: x239 :: x240 :: x241 :: x242 :: x243 :: x244 :: x245 :: x246 :: x247 :: x248 :: x249 :: x250 :: x251 :: x252 :: x253 :: x254 :: x255 :: x256 :: x257 :: x258 :: x259 :: x260 :: x261 :: x262 :: x263 :: x264 :: x265 :: x266 :: x267 :: x268 :: x269 :: x270 :: x271 :: x272 :: x273 :: x274 :: []), []⟩ wc := by
  have HK := Lib.hid hQ; have HKP := Lib.hid hQp
  clear hQ hQp
  conv => arg 2; whnf
  obtain ⟨lb', lo', k0, m0, n0, xs0, hab, hlb, wk, wm, wn, hxl, hxw, hac⟩ := HA.out.at h1
  injection hab with hab; injection hab with hab1 hab2; subst hab1; subst hab2
  have HCK : Hid (∀ y, Below w.heap.size w y → y.cell? ⟨lb, lo + i * 11, none⟩ = some (.int .i64 k0)) := Lib.hid fun y hy => bl_cell (p := ⟨lb, lo + i * 11, none⟩) hy hlb (hac 0 _ rfl)
  have HCN : Hid (∀ y, Below w.heap.size w y → y.cell? ⟨lb, lo + i * 11 + 2, none⟩ = some (.int .i64 n0)) := Lib.hid fun y hy => bl_cell (p := ⟨lb, lo + i * 11 + 2, none⟩) hy hlb (hac 2 _ rfl)
  have HAR : Hid (wc.rangeAt lb (lo + i * 11) (askRow k0 m0 n0 xs0)) := Lib.hid fun j v hv => bl_cell (p := ⟨lb, lo + i * 11 + j, none⟩) HB.out hlb (hac j v hv)
  have HARL : Hid ((askRow k0 m0 n0 xs0).length = 11) := Lib.hid (by simp [askRow, hxl])
  have HNM := Lib.hid (fun w => name_any w k0 m0 n0 xs0 wm hxl hxw)
  have hnb := bdI64 wn
  have hnn : -3 ≤ Int.tmod n0 4 ∧ Int.tmod n0 4 ≤ 3 := by have e1 := Int.lt_tmod_of_pos n0 (show (0 : Int) < 4 by omega); have e2 := Int.tmod_lt_of_pos n0 (show (0 : Int) < 4 by omega); omega
  obtain ⟨nn, hNN⟩ : ∃ nn, Int.tmod n0 4 = nn := ⟨_, rfl⟩
  rw [hNN] at hnn
  have HNN := Lib.hid hNN
  clear hac hlb wk wm wn hxl hxw HA hNN
  generalize askRow k0 m0 n0 xs0 = A at HAR HARL HNM
  go_wp2_with (first | (refine wpList_load_mid rfl 47 _ rfl lb (lo + i * 11) rfl A _ HAR.out Try.underlying47 rfl (by rw [HARL.out]; rfl) ?_) | fail)
  refine Calls.mono (HNM.out _) ?_
  rintro e w1 ⟨c, ⟨rfl, hcl, hcw⟩, hb⟩
  replace HB := Lib.hid (bl_next HB.out HB.out.size hb)
  replace HM := Lib.hid (HM.out.below hb)
  replace HR := Lib.hid (HR.out.below hb)
  clear hb HNM HAR HARL
  have HCL := Lib.hid hcl; have HCW := Lib.hid hcw
  clear hcl hcw
  have HCLV : Hid ((c.map (Value.int .u8)).length = 8) := Lib.hid (by rw [List.length_map, HCL.out])
  have HCO : Hid (∀ v ∈ c.map (Value.int .u8), v.oneCell' = true) := Lib.hid ints_one
  obtain ⟨C, hC⟩ : ∃ C, c.map (Value.int .u8) = C := ⟨_, rfl⟩
  rw [hC] at HCLV HCO ⊢
  have HC := Lib.hid hC
  clear hC
  have HWw1 := Lib.hid HB.out.size
  have HPL := Lib.hid HM.out.bd.2.2.2
  replace HR := Lib.hid (HR.out.more (Nat.le_refl _))
  have HNG : Hid (w1.heap.size ≠ p ∧ w1.heap.size ≠ g ∧ w.heap.size ≤ w1.heap.size) := Lib.hid (by have := HPL.out; exact ⟨by omega, by omega, HB.out.size⟩)
  clear HWw1 HPL
  go_upto_region 10 with (first | (refine wpList_store_row rfl 30 _ _ rfl _ rfl C (.int .u8 0 :: .int .u8 0 :: .int .u8 0 :: .int .u8 0 :: .int .u8 0 :: .int .u8 0 :: .int .u8 0 :: .int .u8 0 :: []) rfl 30 (heap_alloc_new _ _) (by rw [HCLV.out]; rfl) (by rw [HCLV.out]; rfl) HCO.out ?_; intro w2 hr hg) | fail)
  have hal := (Below.refl w1.heap.size w1).alloc (Nat.le_refl _) (.cells ((.int .u8 0 :: .int .u8 0 :: .int .u8 0 :: .int .u8 0 :: .int .u8 0 :: .int .u8 0 :: .int .u8 0 :: .int .u8 0 :: [])).toArray 30)
  have hb : Below w1.heap.size w1 w2 := hal.grown hg hal.size (by intro k hk; injection hk with hk; omega)
  replace HB := Lib.hid (bl_next HB.out HB.out.size hb)
  replace HM := Lib.hid (HM.out.below hb)
  replace HR := Lib.hid (HR.out.below hb)
  have HGC := Lib.hid (hr)
  clear hr hg hal hb
  obtain ⟨gc, hg⟩ : ∃ g, w1.heap.size = g := ⟨_, rfl⟩
  rw [hg] at HGC HNG HR ⊢
  clear hg
  go_upto_block 2 with fail
  refine play_find _ hNb HCL HCW HCLV HC HB HM HR HGC (fun c a d v w h => by first | (cases d <;> exact h) | exact HKP.out c a d v w h) ?_
  rintro _ _ _ _ _ _ _ _ _ _ _ _ _ _ at' w5 hat ⟨HB2, HM2, HR2, HGC2⟩
  have HAT := Lib.hid hat
  clear hat HB HM HR HGC
  have ck := HCK.out _ HB2.out
  go_upto_block 4 with fail
  clear ck HCK
  refine play_sw _ trivial h1 h2 hL hnb hnn HNN hNb HPC HCL HCW HCLV HC HCN HB2 HM2 HR2 HGC2 HAT HNG HGG HP (fun c a d v w h => by first | (cases d <;> exact h) | exact HKP.out c a d v w h) ?_
  rintro _ _ _ _ _ _ _ _ _ _ _ _ _ _ _ _ _ _ _ _ _ _ _ _ _ _ _ _ _ _ _ _ _ _ _ _ _ _ _ _ _ _ _ _ _ _ _ _ _ _ _ _ _ _ _ _ _ _ _ _ _ _ _ _ _ _ _ _ _ _ _ _ _ _ _ _ _ _ _ _ _ _ _ _ _ _ _ _ _ _ _ _ _ _ _ _ _ _ _ _ _ _ _ _ _ _ _ _ _ _ _ _ _ _ _ _ _ _ _ _ _ _ _ _ _ _ _ _ _ _ _ g' ps' ac' an' kc' kn' w6 HB3 HM3 HR3 HGC3 HG3
  clear HB2 HM2 HR2 HGC2
  have hcap := HR3.out.cap
  have hlen := HM3.out.bd.2.2.1
  go_wp2_with fail
  refine Calls.mono (mlen_any _ N p g' _ HM3.out) ?_
  rintro e wq ⟨rfl, hq⟩
  obtain rfl := hq
  clear HCN
  go_upto_block 7 with fail
  refine play_gets _ hNb HPC HM3 HR3 (fun c a d v w h => by first | (cases d <;> exact h) | exact HKP.out c a d v w h) ?_
  rintro _ _ _ _ _ _ _ _ _ _ _ _ _ _ _ _ _ _ _ _ _ _ _ _ _ _ _ _ _ _ _ _ _ _ _ _ _ _ _ _ _ _ _ _ _ _ _ _ _ w7 hb
  replace HB3 := Lib.hid (bl_next HB3.out HB3.out.size hb); replace HM3 := Lib.hid (HM3.out.below hb); replace HR3 := Lib.hid (HR3.out.below hb); replace HGC3 := Lib.hid (bl_row hb (lt_of_block HGC3.out) HGC3.out)
  clear hb
  have HGE := Lib.hid (mget_any w7 N p g' ps' c HM3.out HCL.out HCW.out)
  rw [HC.out] at HGE
  go_wp2_with (first | (refine wpList_load_mid rfl 30 _ rfl gc 0 rfl C _ (rngL HGC3.out) Try.underlying30 rfl (by rw [HCLV.out]; rfl) ?_) | fail)
  refine Calls.mono HGE.out ?_
  clear HGE
  rintro e w8 ⟨hb, hcase⟩
  replace HB3 := Lib.hid (bl_next HB3.out HB3.out.size hb); replace HM3 := Lib.hid (HM3.out.below hb); replace HR3 := Lib.hid (HR3.out.below hb); replace HGC3 := Lib.hid (bl_row hb (lt_of_block HGC3.out) HGC3.out)
  clear hb
  rcases hcase with ⟨v, hv, rfl⟩ | ⟨hno, rfl⟩
  · skip
    have HV := Lib.hid hv; clear hv
    go_upto_block 9 with fail
    refine play_in _ (by omega) HCL HCW HCLV HC HR3 HGC3 (fun c a d v w h => by first | (cases d <;> exact h) | exact HKP.out c a d v w h) ?_
    rintro _ _ _ _ _ _ _ _ _ _ _ _ _ _ _ _ b w9 hbi hb
    replace HB3 := Lib.hid (bl_next HB3.out HB3.out.size hb); replace HM3 := Lib.hid (HM3.out.below hb); replace HR3 := Lib.hid ((HR3.out.below hb).less (D' := [p, g']) (by simp))
    clear hb HGC3
    have hbt : b = true := hbi.2 (by obtain ⟨q, hq⟩ := List.getElem?_of_mem HV.out; exact ⟨q, v, lt_of_get hq, hq⟩)
    clear hbi
    subst hbt
    have HG4 := Lib.hid HG3.out.1
    go_wp2_with fail
    exact HK.out _ _ _ _ _ _ _ _ _ _ _ _ _ _ _ _ _ _ _ _ _ _ _ _ _ _ _ _ _ _ _ _ _ _ _ _ _ _ _ _ _ _ _ _ _ _ _ _ _ _ _ _ _ _ _ _ _ _ _ _ _ _ _ _ _ _ _ _ _ _ _ _ _ _ _ _ _ _ _ _ _ _ _ _ _ _ _ _ _ _ _ _ _ _ _ _ _ _ _ _ _ _ _ _ _ _ _ _ _ _ _ _ _ _ _ _ _ _ _ _ _ _ _ _ _ _ _ _ _ _ _ _ _ _ _ _ _ _ _ _ _ _ _ _ _ _ _ _ _ _ _ _ _ _ _ _ _ _ _ _ _ _ _ _ _ _ _ _ _ _ _ _ _ _ _ _ _ _ _ _ _ _ _ _ _ _ _ _ _ _ _ _ _ _ _ _ _ _ _ _ _ _ _ _ _ _ _ _ _ _ _ _ _ _ _ _ _ _ _ _ _ _ _ _ _ _ _ _ _ _ _ _ _ _ _ _ _ _ _ _ _ _ _ _ _ _ _ _ _ _ _ _ _ HB3 HM3 HR3 HG4
  · skip
    have HV := Lib.hid hno; clear hno
    go_upto_block 9 with fail
    refine play_in _ (by omega) HCL HCW HCLV HC HR3 HGC3 (fun c a d v w h => by first | (cases d <;> exact h) | exact HKP.out c a d v w h) ?_
    rintro _ _ _ _ _ _ _ _ _ _ _ _ _ _ _ _ b w9 hbi hb
    replace HB3 := Lib.hid (bl_next HB3.out HB3.out.size hb); replace HM3 := Lib.hid (HM3.out.below hb); replace HR3 := Lib.hid ((HR3.out.below hb).less (D' := [p, g']) (by simp))
    clear hb HGC3
    have hbt : b = false := by
      cases hb2 : b with
      | false => rfl
      | true => obtain ⟨q, m, _, hq⟩ := hbi.1 hb2; exact absurd (List.mem_of_getElem? hq) (HV.out m)
    clear hbi
    subst hbt
    have HG4 := Lib.hid HG3.out.1
    go_wp2_with fail
    exact HK.out _ _ _ _ _ _ _ _ _ _ _ _ _ _ _ _ _ _ _ _ _ _ _ _ _ _ _ _ _ _ _ _ _ _ _ _ _ _ _ _ _ _ _ _ _ _ _ _ _ _ _ _ _ _ _ _ _ _ _ _ _ _ _ _ _ _ _ _ _ _ _ _ _ _ _ _ _ _ _ _ _ _ _ _ _ _ _ _ _ _ _ _ _ _ _ _ _ _ _ _ _ _ _ _ _ _ _ _ _ _ _ _ _ _ _ _ _ _ _ _ _ _ _ _ _ _ _ _ _ _ _ _ _ _ _ _ _ _ _ _ _ _ _ _ _ _ _ _ _ _ _ _ _ _ _ _ _ _ _ _ _ _ _ _ _ _ _ _ _ _ _ _ _ _ _ _ _ _ _ _ _ _ _ _ _ _ _ _ _ _ _ _ _ _ _ _ _ _ _ _ _ _ _ _ _ _ _ _ _ _ _ _ _ _ _ _ _ _ _ _ _ _ _ _ _ _ _ _ _ _ _ _ _ _ _ _ _ _ _ _ _ _ _ _ _ _ _ _ _ _ _ _ _ HB3 HM3 HR3 HG4
set_option maxRecDepth 100000 in
set_option maxHeartbeats 8000000 in
theorem play_any (w : World) (size : Int) (a : Option Addr) (L cap : Nat) (hL : L ≤ 9223372036854775807) (hA : Asks w a L) (hsz : -9223372036854775808 ≤ size ∧ size ≤ 9223372036854775807) :
    Makes Try.prog 19 #[.int .i64 size, .slice a L cap] w (.bool true) := by
  have HA := Lib.hid hA
  have HNW := Lib.hid (fun w => mnew_any w size hsz)
  have HPC := Lib.hid (fun w => places_any w size hsz)
  obtain ⟨N, hN⟩ : ∃ N, plc size = N := ⟨_, rfl⟩
  rw [hN] at HNW HPC
  clear hA hN
  go_enter Try.func19, Try.ntmps19
  go_wp2_with fail
  refine Calls.mono (HNW.out _) ?_
  rintro e w1 ⟨hb, p, g, rfl, hp, hg, hM⟩
  have hNb := hM.bd
  have HB := Lib.hid hb; have HM := Lib.hid hM; have HP := Lib.hid hp; have HGG : Hid (w.heap.size ≤ g) := Lib.hid hg
  replace hNb : 8 ≤ N ∧ N ≤ 4096 := ⟨hNb.1, hNb.2.1⟩
  have HR := Lib.hid (PRows.empty w1 w.heap.size [p, g])
  clear hb hM hp hg HNW
  go_wp2_with fail
  refine Calls.mono (mplaces_any _ N p g _ HM.out) ?_
  rintro e wq ⟨rfl, rfl⟩
  go_wp2_with fail
  refine Calls.mono (HPC.out _) ?_
  rintro e w2 ⟨rfl, rfl⟩
  go_wp2_with fail
  go_loopw [6, 7, 8] (fun v6 v7 s wr => ∃ (i : Nat) (g : Nat) (ps : List (List Int × Int)) (ac an : Option Addr) (kc kn : Nat), v6 = .slice ac ps.length kc ∧ v7 = .slice an ps.length kn ∧ s = .int .i64 i ∧ i ≤ 100 ∧ Hid (Below w.heap.size w wr) ∧ Hid (Mp wr N p g ps) ∧ Hid (PRows wr w.heap.size [p, g] ac kc an kn ps) ∧ Hid (w.heap.size ≤ g)) (fun _ _ s _ => 100 - (intOf s).toNat)
  case atStart => exact ⟨0, g, [], none, none, 0, 0, rfl, rfl, rfl, by omega, HB, HM, HR, HGG⟩
  case round =>
    clear HB HM HR HGG
    obtain ⟨i, g, ps, ac, an, kc, kn, rfl, rfl, rfl, hi, HB, HM, HR, HGG⟩ := hrel
    by_cases hlt : i < L ∧ i < 100
    · obtain ⟨h1, h2⟩ := hlt
      obtain ⟨lb, lo, _, _, _, _, rfl, _⟩ := HA.out.at h1
      go_upto_block 1 with fail
      refine play_round _ h1 h2 hL hNb HPC HA HP HB HM HR HGG (fun c a d v w h => by first | (cases d <;> exact h) | exact HKP.out c a d v w h) ?_
      rintro _ _ _ _ _ _ _ _ _ _ _ _ _ _ _ _ _ _ _ _ _ _ _ _ _ _ _ _ _ _ _ _ _ _ _ _ _ _ _ _ _ _ _ _ _ _ _ _ _ _ _ _ _ _ _ _ _ _ _ _ _ _ _ _ _ _ _ _ _ _ _ _ _ _ _ _ _ _ _ _ _ _ _ _ _ _ _ _ _ _ _ _ _ _ _ _ _ _ _ _ _ _ _ _ _ _ _ _ _ _ _ _ _ _ _ _ _ _ _ _ _ _ _ _ _ _ _ _ _ _ _ _ _ _ _ _ _ _ _ _ _ _ _ _ _ _ _ _ _ _ _ _ _ _ _ _ _ _ _ _ _ _ _ _ _ _ _ _ _ _ _ _ _ _ _ _ _ _ _ _ _ _ _ _ _ _ _ _ _ _ _ _ _ _ _ _ _ _ _ _ _ _ _ _ _ _ _ _ _ _ _ _ _ _ _ _ _ _ _ _ _ _ _ _ _ _ _ _ _ _ _ _ _ _ _ _ _ _ _ _ _ _ _ _ _ _ g' ps' ac' an' kc' kn' w3 HB2 HM2 HR2 HG2
      go_wp2_with fail
      go_roundw
      case rel => exact ⟨i + 1, g', ps', ac', an', kc', kn', rfl, rfl, by go_num, by omega, HB2, HM2, HR2, HG2⟩
      case measure => simp [intOf]; omega
    · go_wp2_with fail
      all_goals (go_ret; exact ⟨rfl, HB.out⟩)
set_option maxRecDepth 100000 in
theorem plays23_any (w : World) (size : Int) (a : Option Addr) (L cap : Nat) (hL : L ≤ 9223372036854775807) (hA : Asks w a L) (hsz : -9223372036854775808 ≤ size ∧ size ≤ 9223372036854775807) :
    Makes Try.prog 6 #[.int .i64 size, .slice a L cap] w (.bool true) := by
  have hw := within_in size 0 60 (by omega)
  have HWI := Lib.hid (fun w => within_any w size 0 60 (by omega) (by omega) (by omega) hsz)
  have HPL := Lib.hid (play_any w (within size 0 60) a L cap hL hA (by omega))
  generalize within size 0 60 = n at HWI HPL
  clear hA hw
  go_enter Try.func6, Try.ntmps6
  go_wp2_with fail
  refine Calls.mono (HWI.out _) ?_
  rintro e wq ⟨rfl, hq⟩
  obtain rfl := hq
  go_wp2_with fail
  refine Calls.mono HPL.out ?_
  rintro e w1 ⟨rfl, hb⟩
  have HB := Lib.hid hb
  clear hb HPL HWI
  go_wp2_with fail
  refine Calls.mono (known23_any _) ?_
  rintro e w2 ⟨rfl, hb⟩
  replace HB := Lib.hid (bl_next HB.out HB.out.size hb)
  clear hb
  go_wp2_with fail
  go_ret
  exact ⟨rfl, HB.out⟩
end Go.Proofs.Ytpngjokjjpdboaa
