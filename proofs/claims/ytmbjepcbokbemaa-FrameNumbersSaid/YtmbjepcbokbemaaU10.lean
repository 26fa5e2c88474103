/- texts of the proof, laid together: FrmR, Open, FrmS, FrmT, FrmU. -/
import Derived.Test.YtmbjepcbokbemaaU9
import Derived.Test.YtmbjepcbokbemaaU2
import Derived.Test.YtmbjepcbokbemaaU1
import Derived.WideShapes
import Derived.Test.YtmbjepcbokbemaaU3
set_option linter.unusedVariables false
set_option linter.unusedSimpArgs false
set_option maxRecDepth 100000
set_option maxHeartbeats 16000000
namespace Go.Proofs.Ytmbjepcbokbemaa
open Go.RowKit
theorem rsr_eq {x0 x1 x4 x6 x7 x8 x9 x10 x11 x12 x13 x14 x15 x16 x17 x18 x19 x20 x21 x22 x23 x24 x25 x26 x27 x28 x29 x30 x31 x32 x33 x34 x35 x36 x37 x38 x39 x40 x41 x42 x43 x44 x45 x46 x47 x48 x49 x50 x51 x52 x53 x54 x55 x56 x57 x58 x59 x60 x61 x62 x63 x64 x65 x66 x67 x68 x69 x70 x71 x72 x73 x74 x75 x76 x77 x78 x79 x80 x81 x82 x83 x84 x85 x86 x87 x88 x89 x90 x91 x92 x93 x94 x95 x96 x97 x98 x99 x100 x101 x102 x103 x104 x105 x106 x107 x108 x109 x110 x111 x112 x113 x114 x115 x116 x117 x118 x119 x120 x121 x122 x123 x124 x125 x126 x127 x128 x129 x130 x131 x132 x133 x134 x135 x136 x137 x138 x139 x140 x141 x142 x143 x144 x145 x146 x147 x148 x149 x150 x151 x152 x153 x154 x155 x156 x157 x158 x159 x160 x161 x162 x163 x164 x165 x166 x167 x168 x169 x170 x171 x172 x173 x174 x175 x176 x177 x178 x179 x180 x181 x182 x183 x184 x185 x186 x187 x188 x189 x190 x191 x192 x193 x194 x195 x196 x197 x198 x199 x200 x201 x202 : Value} {ga gb i n c1 c2 ab ao bb bo : Nat} {RA RB : List Value} {a b c d : Int} (w : World) {Q : Exit → Act → World → Prop}
  (HA : Hid (w.heap[ga]? = some (.cells RA.toArray 39 (0, 0)))) (HB : Hid (w.heap[gb]? = some (.cells RB.toArray 39 (0, 0)))) (HA10 : Hid (RA[10]? = some (.slice (some ⟨ab, ao, none⟩) n c1))) (HB10 : Hid (RB[10]? = some (.slice (some ⟨bb, bo, none⟩) n c2))) (HX : Hid (w.rangeAt ab (ao + i * 2) [.int .u64 a, .int .u64 b])) (HY : Hid (w.rangeAt bb (bo + i * 2) [.int .u64 c, .int .u64 d])) (hi : i < n) (hn : n ≤ 1000000) (hq1 : (a == c) = true) (hq2 : (b == d) = true)
  (hQp : ∀ c a d v w, Q (.panic c) (a.put d v) w → Q (.panic c) a w)
  (hQ : ∀ (y36 y37 y38 y39 y40 y41 y42 y43 y44 y45 : Value) (w' : World), Hid (Below w.heap.size w w') → Q .normal ⟨List.toArray (x0 :: x1 :: .pointer (some ⟨ga, 0, none⟩) :: .pointer (some ⟨gb, 0, none⟩) :: x4 :: .int .i64 i :: x6 :: x7 :: x8 :: x9 :: x10 :: x11 :: x12 :: x13 :: x14 :: x15 :: x16 :: x17 :: x18 :: x19 :: x20 :: x21 :: x22 :: x23 :: x24 :: x25 :: x26 :: x27 :: x28 :: x29 :: x30 :: x31 :: x32 :: x33 :: x34 :: x35 :: y36 :: y37 :: y38 :: y39 :: y40 :: y41 :: y42 :: y43 :: y44 :: y45 :: .bool false :: x47 :: x48 :: x49 :: x50 :: x51 :: x52 :: x53 :: x54 :: x55 :: x56 :: x57 :: x58 :: x59 :: x60 :: x61 :: x62 :: x63 :: x64 :: x65 :: x66 :: x67 :: x68 :: x69 :: x70 :: x71 :: x72 :: x73 :: x74 :: x75 :: x76 :: x77 :: x78 :: x79 :: x80 :: x81 :: x82 :: x83 :: x84 :: x85 :: x86 :: x87 :: x88 :: x89 :: x90 :: x91 :: x92 :: x93 :: x94 :: x95 :: x96 :: x97 :: x98 :: x99 :: x100 :: x101 :: x102 :: x103 :: x104 :: x105 :: x106 :: x107 :: x108 :: x109 :: x110 :: x111 :: x112 :: x113 :: x114 :: x115 :: x116 :: x117 :: x118 :: x119 :: x120 :: x121 :: x122 :: x123 :: x124 :: x125 :: x126 :: x127 :: x128 :: x129 :: x130 :: x131 :: x132 :: x133 :: x134 :: x135 :: x136 :: x137 :: x138 :: x139 :: x140 :: x141 :: x142 :: x143 :: x144 :: x145 :: x146 :: x147 :: x148 :: x149 :: x150 :: x151 :: x152 :: x153 :: x154 :: x155 :: x156 :: x157 :: x158 :: x159 :: x160 :: x161 :: x162 :: x163 :: x164 :: x165 :: x166 :: x167 :: x168 :: x169 :: x170 :: x171 :: x172 :: x173 :: x174 :: x175 :: x176 :: x177 :: x178 :: x179 :: x180 :: x181 :: x182 :: x183 :: x184 :: x185 :: x186 :: x187 :: x188 :: x189 :: x190 :: x191 :: x192 :: x193 :: x194 :: x195 :: x196 :: x197 :: x198 :: x199 :: x200 :: x201 :: x202 :: []), []⟩ w') :
  Code.wp Try.prog (((Try.f14.body.bind (subRegion 10)).getD .skip)) Q ⟨List.toArray (x0 :: x1 :: .pointer (some ⟨ga, 0, none⟩) :: .pointer (some ⟨gb, 0, none⟩) :: x4 :: .int .i64 i :: x6 :: x7 :: x8 :: x9 :: x10 :: x11 :: x12 :: x13 :: x14 :: x15 :: x16 :: x17 :: x18 :: x19 :: x20 :: x21 :: x22 :: x23 :: x24 :: x25 :: x26 :: x27 :: x28 :: x29 :: x30 :: x31 :: x32 :: x33 :: x34 :: x35 :: x36 :: x37 :: x38 :: x39 :: x40 :: x41 :: x42 :: x43 :: x44 :: x45 :: x46 :: x47 :: x48 :: x49 :: x50 :: x51 :: x52 :: x53 :: x54 :: x55 :: x56 :: x57 :: x58 :: x59 :: x60 :: x61 :: x62 :: x63 :: x64 :: x65 :: x66 :: x67 :: x68 :: x69 :: x70 :: x71 :: x72 :: x73 :: x74 :: x75 :: x76 :: x77 :: x78 :: x79 :: x80 :: x81 :: x82 :: x83 :: x84 :: x85 :: x86 :: x87 :: x88 :: x89 :: x90 :: x91 :: x92 :: x93 :: x94 :: x95 :: x96 :: x97 :: x98 :: x99 :: x100 :: x101 :: x102 :: x103 :: x104 :: x105 :: x106 :: x107 :: x108 :: x109 :: x110 :: x111 :: x112 :: x113 :: x114 :: x115 :: x116 :: x117 :: x118 :: x119 :: x120 :: x121 :: x122 :: x123 :: x124 :: x125 :: x126 :: x127 :: x128 :: x129 :: x130 :: x131 :: x132 :: x133 :: x134 :: x135 :: x136 :: x137 :: x138 :: x139 :: x140 :: x141 :: x142 :: x143 :: x144 :: x145 :: x146 :: x147 :: x148 :: x149 :: x150 :: x151 :: x152 :: x153 :: x154 :: x155 :: x156 :: x157 :: x158 :: x159 :: x160 :: x161 :: x162 :: x163 :: x164 :: x165 :: x166 :: x167 :: x168 :: x169 :: x170 :: x171 :: x172 :: x173 :: x174 :: x175 :: x176 :: x177 :: x178 :: x179 :: x180 :: x181 :: x182 :: x183 :: x184 :: x185 :: x186 :: x187 :: x188 :: x189 :: x190 :: x191 :: x192 :: x193 :: x194 :: x195 :: x196 :: x197 :: x198 :: x199 :: x200 :: x201 :: x202 :: []), []⟩ w := by
 have HK := Qh hQ; have HKP := Qh hQp
 clear hQ hQp
 conv => arg 2; whnf
 have g0 : ∀ z : In (fun y => y.heap[ga]? = some (.cells RA.toArray 39 (0, 0)) ∧ y.heap[gb]? = some (.cells RB.toArray 39 (0, 0)) ∧ y.rangeAt ab (ao + i * 2) [.int .u64 a, .int .u64 b] ∧ y.rangeAt bb (bo + i * 2) [.int .u64 c, .int .u64 d]), z.w.cell? ⟨ga, 10, none⟩ = some (.slice (some ⟨ab, ao, none⟩) n c1) := fun z => cell_row z.h.1 10 _ HA10.out
 have g1 : ∀ z : In (fun y => y.heap[ga]? = some (.cells RA.toArray 39 (0, 0)) ∧ y.heap[gb]? = some (.cells RB.toArray 39 (0, 0)) ∧ y.rangeAt ab (ao + i * 2) [.int .u64 a, .int .u64 b] ∧ y.rangeAt bb (bo + i * 2) [.int .u64 c, .int .u64 d]), z.w.cell? ⟨gb, 10, none⟩ = some (.slice (some ⟨bb, bo, none⟩) n c2) := fun z => cell_row z.h.2.1 10 _ HB10.out
 refine wp_plan (.t 0 (.t 1 (.t 2 (.t 3 (.t 4 (.t 5 (.t 6 (.t 7 (.t 8 (.t 9 (.t 10 .done))))))))))) (fun y => y.heap[ga]? = some (.cells RA.toArray 39 (0, 0)) ∧ y.heap[gb]? = some (.cells RB.toArray 39 (0, 0)) ∧ y.rangeAt ab (ao + i * 2) [.int .u64 a, .int .u64 b] ∧ y.rangeAt bb (bo + i * 2) [.int .u64 c, .int .u64 d]) (by kernel_rfl) (by kernel_rfl) (by kernel_rfl) (fun c a d v w h => by first | (cases d <;> exact h) | exact HKP.out c a d v w h) ⟨HA.out, HB.out, HX.out, HY.out⟩ ?_
 haveI hne : Nonempty (In (fun y => y.heap[ga]? = some (.cells RA.toArray 39 (0, 0)) ∧ y.heap[gb]? = some (.cells RB.toArray 39 (0, 0)) ∧ y.rangeAt ab (ao + i * 2) [.int .u64 a, .int .u64 b] ∧ y.rangeAt bb (bo + i * 2) [.int .u64 c, .int .u64 d])) := ⟨⟨w, HA.out, HB.out, HX.out, HY.out⟩⟩
 repeat (first | (refine plan_t_load (by rfl) (by kernel_rfl) 71 _ rfl ab (ao + i * 2) rfl [.int .u64 a, .int .u64 b] _ (fun y hy => hy.2.2.1) Try.underlying71 rfl (by rfl) ?_; simp only [Act.put, List.setIfInBounds_toArray, List.set_cons_succ, List.set_cons_zero]) | (refine plan_t_load (by rfl) (by kernel_rfl) 71 _ rfl bb (bo + i * 2) rfl [.int .u64 c, .int .u64 d] _ (fun y hy => hy.2.2.2) Try.underlying71 rfl (by rfl) ?_; simp only [Act.put, List.setIfInBounds_toArray, List.set_cons_succ, List.set_cons_zero]) | (refine plan_t (by rfl) ?_; (first | go_big_quiet_skip | (go_big_quiet_want; go_big_quiet_op; go_big_quiet_on)); refine wpQuiet_nil ?_))
 clear hne g0 g1
 show Q _ _ _
 exact HK.out _ _ _ _ _ _ _ _ _ _ w.drew (Qh (Below.refl w.heap.size w).drew)
theorem rsr_n1 {x0 x1 x4 x6 x7 x8 x9 x10 x11 x12 x13 x14 x15 x16 x17 x18 x19 x20 x21 x22 x23 x24 x25 x26 x27 x28 x29 x30 x31 x32 x33 x34 x35 x36 x37 x38 x39 x40 x41 x42 x43 x44 x45 x46 x47 x48 x49 x50 x51 x52 x53 x54 x55 x56 x57 x58 x59 x60 x61 x62 x63 x64 x65 x66 x67 x68 x69 x70 x71 x72 x73 x74 x75 x76 x77 x78 x79 x80 x81 x82 x83 x84 x85 x86 x87 x88 x89 x90 x91 x92 x93 x94 x95 x96 x97 x98 x99 x100 x101 x102 x103 x104 x105 x106 x107 x108 x109 x110 x111 x112 x113 x114 x115 x116 x117 x118 x119 x120 x121 x122 x123 x124 x125 x126 x127 x128 x129 x130 x131 x132 x133 x134 x135 x136 x137 x138 x139 x140 x141 x142 x143 x144 x145 x146 x147 x148 x149 x150 x151 x152 x153 x154 x155 x156 x157 x158 x159 x160 x161 x162 x163 x164 x165 x166 x167 x168 x169 x170 x171 x172 x173 x174 x175 x176 x177 x178 x179 x180 x181 x182 x183 x184 x185 x186 x187 x188 x189 x190 x191 x192 x193 x194 x195 x196 x197 x198 x199 x200 x201 x202 : Value} {ga gb i n c1 c2 ab ao bb bo : Nat} {RA RB : List Value} {a b c d : Int} (w : World) {Q : Exit → Act → World → Prop}
  (HA : Hid (w.heap[ga]? = some (.cells RA.toArray 39 (0, 0)))) (HB : Hid (w.heap[gb]? = some (.cells RB.toArray 39 (0, 0)))) (HA10 : Hid (RA[10]? = some (.slice (some ⟨ab, ao, none⟩) n c1))) (HB10 : Hid (RB[10]? = some (.slice (some ⟨bb, bo, none⟩) n c2))) (HX : Hid (w.rangeAt ab (ao + i * 2) [.int .u64 a, .int .u64 b])) (HY : Hid (w.rangeAt bb (bo + i * 2) [.int .u64 c, .int .u64 d])) (hi : i < n) (hn : n ≤ 1000000) (hq1 : (a == c) = false)
  (hQp : ∀ c a d v w, Q (.panic c) (a.put d v) w → Q (.panic c) a w)
  (hQ : ∀ (y36 y37 y38 y39 y40 y41 y42 y43 y44 y45 : Value) (w' : World), Hid (Below w.heap.size w w') → Q .normal ⟨List.toArray (x0 :: x1 :: .pointer (some ⟨ga, 0, none⟩) :: .pointer (some ⟨gb, 0, none⟩) :: x4 :: .int .i64 i :: x6 :: x7 :: x8 :: x9 :: x10 :: x11 :: x12 :: x13 :: x14 :: x15 :: x16 :: x17 :: x18 :: x19 :: x20 :: x21 :: x22 :: x23 :: x24 :: x25 :: x26 :: x27 :: x28 :: x29 :: x30 :: x31 :: x32 :: x33 :: x34 :: x35 :: y36 :: y37 :: y38 :: y39 :: y40 :: y41 :: y42 :: y43 :: y44 :: y45 :: .bool true :: x47 :: x48 :: x49 :: x50 :: x51 :: x52 :: x53 :: x54 :: x55 :: x56 :: x57 :: x58 :: x59 :: x60 :: x61 :: x62 :: x63 :: x64 :: x65 :: x66 :: x67 :: x68 :: x69 :: x70 :: x71 :: x72 :: x73 :: x74 :: x75 :: x76 :: x77 :: x78 :: x79 :: x80 :: x81 :: x82 :: x83 :: x84 :: x85 :: x86 :: x87 :: x88 :: x89 :: x90 :: x91 :: x92 :: x93 :: x94 :: x95 :: x96 :: x97 :: x98 :: x99 :: x100 :: x101 :: x102 :: x103 :: x104 :: x105 :: x106 :: x107 :: x108 :: x109 :: x110 :: x111 :: x112 :: x113 :: x114 :: x115 :: x116 :: x117 :: x118 :: x119 :: x120 :: x121 :: x122 :: x123 :: x124 :: x125 :: x126 :: x127 :: x128 :: x129 :: x130 :: x131 :: x132 :: x133 :: x134 :: x135 :: x136 :: x137 :: x138 :: x139 :: x140 :: x141 :: x142 :: x143 :: x144 :: x145 :: x146 :: x147 :: x148 :: x149 :: x150 :: x151 :: x152 :: x153 :: x154 :: x155 :: x156 :: x157 :: x158 :: x159 :: x160 :: x161 :: x162 :: x163 :: x164 :: x165 :: x166 :: x167 :: x168 :: x169 :: x170 :: x171 :: x172 :: x173 :: x174 :: x175 :: x176 :: x177 :: x178 :: x179 :: x180 :: x181 :: x182 :: x183 :: x184 :: x185 :: x186 :: x187 :: x188 :: x189 :: x190 :: x191 :: x192 :: x193 :: x194 :: x195 :: x196 :: x197 :: x198 :: x199 :: x200 :: x201 :: x202 :: []), []⟩ w') :
  Code.wp Try.prog (((Try.f14.body.bind (subRegion 10)).getD .skip)) Q ⟨List.toArray (x0 :: x1 :: .pointer (some ⟨ga, 0, none⟩) :: .pointer (some ⟨gb, 0, none⟩) :: x4 :: .int .i64 i :: x6 :: x7 :: x8 :: x9 :: x10 :: x11 :: x12 :: x13 :: x14 :: x15 :: x16 :: x17 :: x18 :: x19 :: x20 :: x21 :: x22 :: x23 :: x24 :: x25 :: x26 :: x27 :: x28 :: x29 :: x30 :: x31 :: x32 :: x33 :: x34 :: x35 :: x36 :: x37 :: x38 :: x39 :: x40 :: x41 :: x42 :: x43 :: x44 :: x45 :: x46 :: x47 :: x48 :: x49 :: x50 :: x51 :: x52 :: x53 :: x54 :: x55 :: x56 :: x57 :: x58 :: x59 :: x60 :: x61 :: x62 :: x63 :: x64 :: x65 :: x66 :: x67 :: x68 :: x69 :: x70 :: x71 :: x72 :: x73 :: x74 :: x75 :: x76 :: x77 :: x78 :: x79 :: x80 :: x81 :: x82 :: x83 :: x84 :: x85 :: x86 :: x87 :: x88 :: x89 :: x90 :: x91 :: x92 :: x93 :: x94 :: x95 :: x96 :: x97 :: x98 :: x99 :: x100 :: x101 :: x102 :: x103 :: x104 :: x105 :: x106 :: x107 :: x108 :: x109 :: x110 :: x111 :: x112 :: x113 :: x114 :: x115 :: x116 :: x117 :: x118 :: x119 :: x120 :: x121 :: x122 :: x123 :: x124 :: x125 :: x126 :: x127 :: x128 :: x129 :: x130 :: x131 :: x132 :: x133 :: x134 :: x135 :: x136 :: x137 :: x138 :: x139 :: x140 :: x141 :: x142 :: x143 :: x144 :: x145 :: x146 :: x147 :: x148 :: x149 :: x150 :: x151 :: x152 :: x153 :: x154 :: x155 :: x156 :: x157 :: x158 :: x159 :: x160 :: x161 :: x162 :: x163 :: x164 :: x165 :: x166 :: x167 :: x168 :: x169 :: x170 :: x171 :: x172 :: x173 :: x174 :: x175 :: x176 :: x177 :: x178 :: x179 :: x180 :: x181 :: x182 :: x183 :: x184 :: x185 :: x186 :: x187 :: x188 :: x189 :: x190 :: x191 :: x192 :: x193 :: x194 :: x195 :: x196 :: x197 :: x198 :: x199 :: x200 :: x201 :: x202 :: []), []⟩ w := by
 have HK := Qh hQ; have HKP := Qh hQp
 clear hQ hQp
 conv => arg 2; whnf
 have g0 : ∀ z : In (fun y => y.heap[ga]? = some (.cells RA.toArray 39 (0, 0)) ∧ y.heap[gb]? = some (.cells RB.toArray 39 (0, 0)) ∧ y.rangeAt ab (ao + i * 2) [.int .u64 a, .int .u64 b] ∧ y.rangeAt bb (bo + i * 2) [.int .u64 c, .int .u64 d]), z.w.cell? ⟨ga, 10, none⟩ = some (.slice (some ⟨ab, ao, none⟩) n c1) := fun z => cell_row z.h.1 10 _ HA10.out
 have g1 : ∀ z : In (fun y => y.heap[ga]? = some (.cells RA.toArray 39 (0, 0)) ∧ y.heap[gb]? = some (.cells RB.toArray 39 (0, 0)) ∧ y.rangeAt ab (ao + i * 2) [.int .u64 a, .int .u64 b] ∧ y.rangeAt bb (bo + i * 2) [.int .u64 c, .int .u64 d]), z.w.cell? ⟨gb, 10, none⟩ = some (.slice (some ⟨bb, bo, none⟩) n c2) := fun z => cell_row z.h.2.1 10 _ HB10.out
 refine wp_plan (.t 0 (.t 1 (.t 2 (.t 3 (.t 4 (.t 5 (.t 6 (.t 7 (.t 8 (.t 9 (.t 10 .done))))))))))) (fun y => y.heap[ga]? = some (.cells RA.toArray 39 (0, 0)) ∧ y.heap[gb]? = some (.cells RB.toArray 39 (0, 0)) ∧ y.rangeAt ab (ao + i * 2) [.int .u64 a, .int .u64 b] ∧ y.rangeAt bb (bo + i * 2) [.int .u64 c, .int .u64 d]) (by kernel_rfl) (by kernel_rfl) (by kernel_rfl) (fun c a d v w h => by first | (cases d <;> exact h) | exact HKP.out c a d v w h) ⟨HA.out, HB.out, HX.out, HY.out⟩ ?_
 haveI hne : Nonempty (In (fun y => y.heap[ga]? = some (.cells RA.toArray 39 (0, 0)) ∧ y.heap[gb]? = some (.cells RB.toArray 39 (0, 0)) ∧ y.rangeAt ab (ao + i * 2) [.int .u64 a, .int .u64 b] ∧ y.rangeAt bb (bo + i * 2) [.int .u64 c, .int .u64 d])) := ⟨⟨w, HA.out, HB.out, HX.out, HY.out⟩⟩
 repeat (first | (refine plan_t_load (by rfl) (by kernel_rfl) 71 _ rfl ab (ao + i * 2) rfl [.int .u64 a, .int .u64 b] _ (fun y hy => hy.2.2.1) Try.underlying71 rfl (by rfl) ?_; simp only [Act.put, List.setIfInBounds_toArray, List.set_cons_succ, List.set_cons_zero]) | (refine plan_t_load (by rfl) (by kernel_rfl) 71 _ rfl bb (bo + i * 2) rfl [.int .u64 c, .int .u64 d] _ (fun y hy => hy.2.2.2) Try.underlying71 rfl (by rfl) ?_; simp only [Act.put, List.setIfInBounds_toArray, List.set_cons_succ, List.set_cons_zero]) | (refine plan_t (by rfl) ?_; (first | go_big_quiet_skip | (go_big_quiet_want; go_big_quiet_op; go_big_quiet_on)); refine wpQuiet_nil ?_))
 clear hne g0 g1
 show Q _ _ _
 exact HK.out _ _ _ _ _ _ _ _ _ _ w.drew (Qh (Below.refl w.heap.size w).drew)
theorem rsr_n2 {x0 x1 x4 x6 x7 x8 x9 x10 x11 x12 x13 x14 x15 x16 x17 x18 x19 x20 x21 x22 x23 x24 x25 x26 x27 x28 x29 x30 x31 x32 x33 x34 x35 x36 x37 x38 x39 x40 x41 x42 x43 x44 x45 x46 x47 x48 x49 x50 x51 x52 x53 x54 x55 x56 x57 x58 x59 x60 x61 x62 x63 x64 x65 x66 x67 x68 x69 x70 x71 x72 x73 x74 x75 x76 x77 x78 x79 x80 x81 x82 x83 x84 x85 x86 x87 x88 x89 x90 x91 x92 x93 x94 x95 x96 x97 x98 x99 x100 x101 x102 x103 x104 x105 x106 x107 x108 x109 x110 x111 x112 x113 x114 x115 x116 x117 x118 x119 x120 x121 x122 x123 x124 x125 x126 x127 x128 x129 x130 x131 x132 x133 x134 x135 x136 x137 x138 x139 x140 x141 x142 x143 x144 x145 x146 x147 x148 x149 x150 x151 x152 x153 x154 x155 x156 x157 x158 x159 x160 x161 x162 x163 x164 x165 x166 x167 x168 x169 x170 x171 x172 x173 x174 x175 x176 x177 x178 x179 x180 x181 x182 x183 x184 x185 x186 x187 x188 x189 x190 x191 x192 x193 x194 x195 x196 x197 x198 x199 x200 x201 x202 : Value} {ga gb i n c1 c2 ab ao bb bo : Nat} {RA RB : List Value} {a b c d : Int} (w : World) {Q : Exit → Act → World → Prop}
  (HA : Hid (w.heap[ga]? = some (.cells RA.toArray 39 (0, 0)))) (HB : Hid (w.heap[gb]? = some (.cells RB.toArray 39 (0, 0)))) (HA10 : Hid (RA[10]? = some (.slice (some ⟨ab, ao, none⟩) n c1))) (HB10 : Hid (RB[10]? = some (.slice (some ⟨bb, bo, none⟩) n c2))) (HX : Hid (w.rangeAt ab (ao + i * 2) [.int .u64 a, .int .u64 b])) (HY : Hid (w.rangeAt bb (bo + i * 2) [.int .u64 c, .int .u64 d])) (hi : i < n) (hn : n ≤ 1000000) (hq1 : (a == c) = true) (hq2 : (b == d) = false)
  (hQp : ∀ c a d v w, Q (.panic c) (a.put d v) w → Q (.panic c) a w)
  (hQ : ∀ (y36 y37 y38 y39 y40 y41 y42 y43 y44 y45 : Value) (w' : World), Hid (Below w.heap.size w w') → Q .normal ⟨List.toArray (x0 :: x1 :: .pointer (some ⟨ga, 0, none⟩) :: .pointer (some ⟨gb, 0, none⟩) :: x4 :: .int .i64 i :: x6 :: x7 :: x8 :: x9 :: x10 :: x11 :: x12 :: x13 :: x14 :: x15 :: x16 :: x17 :: x18 :: x19 :: x20 :: x21 :: x22 :: x23 :: x24 :: x25 :: x26 :: x27 :: x28 :: x29 :: x30 :: x31 :: x32 :: x33 :: x34 :: x35 :: y36 :: y37 :: y38 :: y39 :: y40 :: y41 :: y42 :: y43 :: y44 :: y45 :: .bool true :: x47 :: x48 :: x49 :: x50 :: x51 :: x52 :: x53 :: x54 :: x55 :: x56 :: x57 :: x58 :: x59 :: x60 :: x61 :: x62 :: x63 :: x64 :: x65 :: x66 :: x67 :: x68 :: x69 :: x70 :: x71 :: x72 :: x73 :: x74 :: x75 :: x76 :: x77 :: x78 :: x79 :: x80 :: x81 :: x82 :: x83 :: x84 :: x85 :: x86 :: x87 :: x88 :: x89 :: x90 :: x91 :: x92 :: x93 :: x94 :: x95 :: x96 :: x97 :: x98 :: x99 :: x100 :: x101 :: x102 :: x103 :: x104 :: x105 :: x106 :: x107 :: x108 :: x109 :: x110 :: x111 :: x112 :: x113 :: x114 :: x115 :: x116 :: x117 :: x118 :: x119 :: x120 :: x121 :: x122 :: x123 :: x124 :: x125 :: x126 :: x127 :: x128 :: x129 :: x130 :: x131 :: x132 :: x133 :: x134 :: x135 :: x136 :: x137 :: x138 :: x139 :: x140 :: x141 :: x142 :: x143 :: x144 :: x145 :: x146 :: x147 :: x148 :: x149 :: x150 :: x151 :: x152 :: x153 :: x154 :: x155 :: x156 :: x157 :: x158 :: x159 :: x160 :: x161 :: x162 :: x163 :: x164 :: x165 :: x166 :: x167 :: x168 :: x169 :: x170 :: x171 :: x172 :: x173 :: x174 :: x175 :: x176 :: x177 :: x178 :: x179 :: x180 :: x181 :: x182 :: x183 :: x184 :: x185 :: x186 :: x187 :: x188 :: x189 :: x190 :: x191 :: x192 :: x193 :: x194 :: x195 :: x196 :: x197 :: x198 :: x199 :: x200 :: x201 :: x202 :: []), []⟩ w') :
  Code.wp Try.prog (((Try.f14.body.bind (subRegion 10)).getD .skip)) Q ⟨List.toArray (x0 :: x1 :: .pointer (some ⟨ga, 0, none⟩) :: .pointer (some ⟨gb, 0, none⟩) :: x4 :: .int .i64 i :: x6 :: x7 :: x8 :: x9 :: x10 :: x11 :: x12 :: x13 :: x14 :: x15 :: x16 :: x17 :: x18 :: x19 :: x20 :: x21 :: x22 :: x23 :: x24 :: x25 :: x26 :: x27 :: x28 :: x29 :: x30 :: x31 :: x32 :: x33 :: x34 :: x35 :: x36 :: x37 :: x38 :: x39 :: x40 :: x41 :: x42 :: x43 :: x44 :: x45 :: x46 :: x47 :: x48 :: x49 :: x50 :: x51 :: x52 :: x53 :: x54 :: x55 :: x56 :: x57 :: x58 :: x59 :: x60 :: x61 :: x62 :: x63 :: x64 :: x65 :: x66 :: x67 :: x68 :: x69 :: x70 :: x71 :: x72 :: x73 :: x74 :: x75 :: x76 :: x77 :: x78 :: x79 :: x80 :: x81 :: x82 :: x83 :: x84 :: x85 :: x86 :: x87 :: x88 :: x89 :: x90 :: x91 :: x92 :: x93 :: x94 :: x95 :: x96 :: x97 :: x98 :: x99 :: x100 :: x101 :: x102 :: x103 :: x104 :: x105 :: x106 :: x107 :: x108 :: x109 :: x110 :: x111 :: x112 :: x113 :: x114 :: x115 :: x116 :: x117 :: x118 :: x119 :: x120 :: x121 :: x122 :: x123 :: x124 :: x125 :: x126 :: x127 :: x128 :: x129 :: x130 :: x131 :: x132 :: x133 :: x134 :: x135 :: x136 :: x137 :: x138 :: x139 :: x140 :: x141 :: x142 :: x143 :: x144 :: x145 :: x146 :: x147 :: x148 :: x149 :: x150 :: x151 :: x152 :: x153 :: x154 :: x155 :: x156 :: x157 :: x158 :: x159 :: x160 :: x161 :: x162 :: x163 :: x164 :: x165 :: x166 :: x167 :: x168 :: x169 :: x170 :: x171 :: x172 :: x173 :: x174 :: x175 :: x176 :: x177 :: x178 :: x179 :: x180 :: x181 :: x182 :: x183 :: x184 :: x185 :: x186 :: x187 :: x188 :: x189 :: x190 :: x191 :: x192 :: x193 :: x194 :: x195 :: x196 :: x197 :: x198 :: x199 :: x200 :: x201 :: x202 :: []), []⟩ w := by
 have HK := Qh hQ; have HKP := Qh hQp
 clear hQ hQp
 conv => arg 2; whnf
 have g0 : ∀ z : In (fun y => y.heap[ga]? = some (.cells RA.toArray 39 (0, 0)) ∧ y.heap[gb]? = some (.cells RB.toArray 39 (0, 0)) ∧ y.rangeAt ab (ao + i * 2) [.int .u64 a, .int .u64 b] ∧ y.rangeAt bb (bo + i * 2) [.int .u64 c, .int .u64 d]), z.w.cell? ⟨ga, 10, none⟩ = some (.slice (some ⟨ab, ao, none⟩) n c1) := fun z => cell_row z.h.1 10 _ HA10.out
 have g1 : ∀ z : In (fun y => y.heap[ga]? = some (.cells RA.toArray 39 (0, 0)) ∧ y.heap[gb]? = some (.cells RB.toArray 39 (0, 0)) ∧ y.rangeAt ab (ao + i * 2) [.int .u64 a, .int .u64 b] ∧ y.rangeAt bb (bo + i * 2) [.int .u64 c, .int .u64 d]), z.w.cell? ⟨gb, 10, none⟩ = some (.slice (some ⟨bb, bo, none⟩) n c2) := fun z => cell_row z.h.2.1 10 _ HB10.out
 refine wp_plan (.t 0 (.t 1 (.t 2 (.t 3 (.t 4 (.t 5 (.t 6 (.t 7 (.t 8 (.t 9 (.t 10 .done))))))))))) (fun y => y.heap[ga]? = some (.cells RA.toArray 39 (0, 0)) ∧ y.heap[gb]? = some (.cells RB.toArray 39 (0, 0)) ∧ y.rangeAt ab (ao + i * 2) [.int .u64 a, .int .u64 b] ∧ y.rangeAt bb (bo + i * 2) [.int .u64 c, .int .u64 d]) (by kernel_rfl) (by kernel_rfl) (by kernel_rfl) (fun c a d v w h => by first | (cases d <;> exact h) | exact HKP.out c a d v w h) ⟨HA.out, HB.out, HX.out, HY.out⟩ ?_
 haveI hne : Nonempty (In (fun y => y.heap[ga]? = some (.cells RA.toArray 39 (0, 0)) ∧ y.heap[gb]? = some (.cells RB.toArray 39 (0, 0)) ∧ y.rangeAt ab (ao + i * 2) [.int .u64 a, .int .u64 b] ∧ y.rangeAt bb (bo + i * 2) [.int .u64 c, .int .u64 d])) := ⟨⟨w, HA.out, HB.out, HX.out, HY.out⟩⟩
 repeat (first | (refine plan_t_load (by rfl) (by kernel_rfl) 71 _ rfl ab (ao + i * 2) rfl [.int .u64 a, .int .u64 b] _ (fun y hy => hy.2.2.1) Try.underlying71 rfl (by rfl) ?_; simp only [Act.put, List.setIfInBounds_toArray, List.set_cons_succ, List.set_cons_zero]) | (refine plan_t_load (by rfl) (by kernel_rfl) 71 _ rfl bb (bo + i * 2) rfl [.int .u64 c, .int .u64 d] _ (fun y hy => hy.2.2.2) Try.underlying71 rfl (by rfl) ?_; simp only [Act.put, List.setIfInBounds_toArray, List.set_cons_succ, List.set_cons_zero]) | (refine plan_t (by rfl) ?_; (first | go_big_quiet_skip | (go_big_quiet_want; go_big_quiet_op; go_big_quiet_on)); refine wpQuiet_nil ?_))
 clear hne g0 g1
 show Q _ _ _
 exact HK.out _ _ _ _ _ _ _ _ _ _ w.drew (Qh (Below.refl w.heap.size w).drew)
theorem rsame4_2 (w : World) (f g : Fr) (dv rv dw rw_ : Value) (hf : FrAt w f dv rv) (hg : FrAt w g dw rw_) (hk : f.kind = 2) (hkg : g.kind = 2) (hn1 : f.rg.length ≤ 1000000) :
  Calls Try.prog 14 #[.agg (f.cells dv rv).toArray, .agg (g.cells dw rw_).toArray] w fun e w' => e = .returned (.bool (sameF f g)) ∧ Below w.heap.size w w' := by
 have hs : sameF f g = (decide (f.de = g.de) && decide (f.rg = g.rg)) := by unfold sameF; simp [hk, hkg]
 obtain ⟨ra, rn, rc, rfl, hr1, hr2, hr⟩ := hf.r
 obtain ⟨sa, sn, sc, rfl, hs1, hs2, hs9⟩ := hg.r
 have HRA := Qh hr; have HRB := Qh hs9
 have hln : f.rg.length = rn := hr.1.symm
 rw [hln] at hn1
 have hlm : g.rg.length = sn := hs9.1.symm
 clear hr hs9
 have Ha0 : Hid ((f.cells dv (.slice ra rn rc))[0]? = some (.int .i64 2)) := Qh (by rw [← hk]; rfl)
 have Ha9 : Hid ((f.cells dv (.slice ra rn rc))[9]? = some (.int .u64 f.de)) := Qh rfl
 have Ha10 : Hid ((f.cells dv (.slice ra rn rc))[10]? = some (.slice ra rn rc)) := Qh rfl
 have Hb0 : Hid ((g.cells dw (.slice sa sn sc))[0]? = some (.int .i64 2)) := Qh (by rw [← hkg]; rfl)
 have Hb9 : Hid ((g.cells dw (.slice sa sn sc))[9]? = some (.int .u64 g.de)) := Qh rfl
 have Hb10 : Hid ((g.cells dw (.slice sa sn sc))[10]? = some (.slice sa sn sc)) := Qh rfl
 obtain ⟨RA, hRA⟩ : ∃ R, f.cells dv (.slice ra rn rc) = R := ⟨_, rfl⟩
 obtain ⟨RB, hRB⟩ : ∃ R, g.cells dw (.slice sa sn sc) = R := ⟨_, rfl⟩
 rw [hRA] at Ha0 Ha9 Ha10
 rw [hRB] at Hb0 Hb9 Hb10
 rw [hRA, hRB, hs]
 clear hRA hRB hs hk hkg
 obtain ⟨de1, h1⟩ : ∃ y, f.de = y := ⟨_, rfl⟩
 obtain ⟨de2, h2⟩ : ∃ y, g.de = y := ⟨_, rfl⟩
 obtain ⟨rg1, h3⟩ : ∃ y, f.rg = y := ⟨_, rfl⟩
 obtain ⟨rg2, h4⟩ : ∃ y, g.rg = y := ⟨_, rfl⟩
 rw [h1] at Ha9; rw [h2] at Hb9; rw [h3] at HRA hln; rw [h4] at HRB hlm
 rw [h1, h2, h3, h4]
 clear h1 h2 h3 h4 hf hg
 have HL1 := Qh hln; have HL2 := Qh hlm
 clear hln hlm
 have HB := Qh (Below.refl w.heap.size w)
 go_enter Try.func14, Try.ntmps14
 go_upto_region 1 with fail
 change Code.wp _ _ _ _ ((w.alloc (.cells RA.toArray 39)).alloc (.cells RB.toArray 39))
 obtain ⟨ga, hg0⟩ : ∃ g, w.heap.size = g := ⟨_, rfl⟩
 try rw [hg0]
 have hb := (Below.refl w.heap.size w).alloc (Nat.le_refl _) (.cells RA.toArray 39)
 have hrw := heap_alloc_new w (.cells RA.toArray 39)
 have hsz : (w.alloc (.cells RA.toArray 39)).heap.size = ga + 1 := by simp [hg0]
 rw [hg0] at hrw
 replace HB := Qh (bl_next HB.out HB.out.size hb)
 replace HRA := Qh (HRA.out.below hb)
 replace HRB := Qh (HRB.out.below hb)
 have HA := Qh hrw
 clear hb hrw
 generalize w.alloc (.cells RA.toArray 39) = w1 at HB HRA HRB HA hsz ⊢
 have hg1 := hsz
 clear hsz
 clear hg0
 have hb := (Below.refl w1.heap.size w1).alloc (Nat.le_refl _) (.cells RB.toArray 39)
 have hrw := heap_alloc_new w1 (.cells RB.toArray 39)
 have hsz : (w1.alloc (.cells RB.toArray 39)).heap.size = ga + 1 + 1 := by simp [hg1]
 rw [hg1] at hrw
 replace HB := Qh (bl_next HB.out HB.out.size hb)
 replace HRA := Qh (HRA.out.below hb)
 replace HRB := Qh (HRB.out.below hb)
 replace HA := Qh (bl_row hb (lt_of_block HA.out) HA.out)
 have HG := Qh hrw
 clear hb hrw
 generalize w1.alloc (.cells RB.toArray 39) = w2 at HB HRA HRB HA HG hsz ⊢
 have hg2 := hsz
 clear hsz
 clear hg1
 obtain ⟨gb, hgg⟩ : ∃ g, ga + 1 = g := ⟨_, rfl⟩
 rw [hgg] at HG hg2 ⊢
 have HLTgb : Hid (ga < gb) := Qh (by omega)
 clear hgg
 clear hg2
 have ca0 := cell_row HA.out 0 _ Ha0.out; have cb0 := cell_row HG.out 0 _ Hb0.out
 have ca9 := cell_row HA.out 9 _ Ha9.out; have cb9 := cell_row HG.out 9 _ Hb9.out
 have ca10 := cell_row HA.out 10 _ Ha10.out; have cb10 := cell_row HG.out 10 _ Hb10.out
 by_cases e1 : de1 = de2
 ·
  have E1 := Qh e1
  have q1 : (de1 == de2) = true := by rw [e1]; simp
  have q1n : (de1 != de2) = false := by rw [e1]; simp
  clear e1
  by_cases e2 : rn = sn
  ·
   subst e2
   have q2 : ((rn : Int) == (rn : Int)) = true := by simp
   have q2n : ((rn : Int) != (rn : Int)) = false := by simp
   go_wp2_with fail
   clear ca0 cb0 ca9 cb9 ca10 cb10
   go_loopw [5] (fun s5 wr => ∃ i : Nat, s5 = .int .i64 i ∧ i ≤ rn ∧ Hid (Below w2.heap.size w2 wr) ∧ Hid (rg1.take i = rg2.take i)) (fun s _ => rn - (intOf s).toNat)
   case atStart => exact ⟨0, rfl, by omega, Qh (Below.refl _ _), Qh rfl⟩
   case round =>
    obtain ⟨i, rfl, hi, HBR, HT⟩ := hrel
    have HA1 := Qh (bl_row HBR.out (lt_of_block HA.out) HA.out); have HG1 := Qh (bl_row HBR.out (lt_of_block HG.out) HG.out); have HRA1 := Qh (HRA.out.below HBR.out); have HRB1 := Qh (HRB.out.below HBR.out)
    have ca10 := cell_row HA1.out 10 _ Ha10.out
    by_cases hlt : i < rn
    ·
     obtain ⟨ab, ao, x, rfl, _, hx, hok, hrx⟩ := HRA1.out.at hlt
     obtain ⟨bb, bo, y, rfl, _, hy, hok2, hry⟩ := HRB1.out.at hlt
     obtain ⟨a, b⟩ := x
     obtain ⟨c, d⟩ := y
     have HX : Hid (wr.rangeAt ab (ao + i * 2) [.int .u64 a, .int .u64 b]) := Qh hrx
     have HY : Hid (wr.rangeAt bb (bo + i * 2) [.int .u64 c, .int .u64 d]) := Qh hry
     have HI := Qh hx; have HJ := Qh hy
     clear hx hy hok hok2 hrx hry
     go_upto_region 10 with fail
     by_cases e3 : a = c
     ·
      have q3 : (a == c) = true := by rw [e3]; simp
      by_cases e4 : b = d
      ·
       have q4 : (b == d) = true := by rw [e4]; simp
       refine rsr_eq _ HA1 HG1 Ha10 Hb10 HX HY hlt hn1 q3 q4 (fun c a d v w h => by cases d <;> exact h) ?_
       rintro _ _ _ _ _ _ _ _ _ _ w9 HB9
       have HN : Hid (rg1.take (i + 1) = rg2.take (i + 1)) := Qh (by rw [take_snd4 HI.out, take_snd4 HJ.out, HT.out, e3, e4])
       have HB10 := Qh (bl_next HBR.out HBR.out.size HB9.out)
       clear HB9 HBR HT HX HY q3 q4 e3 e4 ca10
       go_wp2_with fail
       go_roundw
       case rel => exact ⟨i + 1, by go_num, by omega, HB10, HN⟩
       case measure => simp [intOf]; omega
      ·
       have q4 : (b == d) = false := by simpa using e4
       refine rsr_n2 _ HA1 HG1 Ha10 Hb10 HX HY hlt hn1 q3 q4 (fun c a d v w h => by cases d <;> exact h) ?_
       rintro _ _ _ _ _ _ _ _ _ _ w9 HB9
       have HN : Hid ((decide (de1 = de2) && decide (rg1 = rg2)) = false) := Qh (by rw [Bool.and_eq_false_iff]; right; rw [decide_eq_false_iff_not]; intro h9; have h8 := HI.out; rw [h9, HJ.out] at h8; injection h8 with h8; injection h8 with h7 h8; exact e4 h8.symm)
       have HB10 := Qh (bl_next HBR.out HBR.out.size HB9.out)
       clear HB9 HBR HT HX HY q3 q4 e3 e4 ca10
       go_wp2_with fail
       (try simp only [Exit.inBlock, Exit.then])
       go_ret
       exact ⟨by rw [HN.out]; rfl, bl_next HB.out HB.out.size HB10.out⟩
     ·
      have q3 : (a == c) = false := by simpa using e3
      refine rsr_n1 _ HA1 HG1 Ha10 Hb10 HX HY hlt hn1 q3 (fun c a d v w h => by cases d <;> exact h) ?_
      rintro _ _ _ _ _ _ _ _ _ _ w9 HB9
      have HN : Hid ((decide (de1 = de2) && decide (rg1 = rg2)) = false) := Qh (by rw [Bool.and_eq_false_iff]; right; rw [decide_eq_false_iff_not]; intro h9; have h8 := HI.out; rw [h9, HJ.out] at h8; injection h8 with h8; injection h8 with h7 h8; exact e3 h7.symm)
      have HB10 := Qh (bl_next HBR.out HBR.out.size HB9.out)
      clear HB9 HBR HT HX HY q3 e3 ca10
      go_wp2_with fail
      (try simp only [Exit.inBlock, Exit.then])
      go_ret
      exact ⟨by rw [HN.out]; rfl, bl_next HB.out HB.out.size HB10.out⟩
    ·
     obtain rfl : i = rn := by omega
     have HN : Hid ((decide (de1 = de2) && decide (rg1 = rg2)) = true) := Qh (by have h9 := HT.out; rw [List.take_of_length_le (by rw [HL1.out]; exact Nat.le_refl _), List.take_of_length_le (by rw [HL2.out]; exact Nat.le_refl _)] at h9; simp [E1.out, h9])
     go_wp2_with fail
     (try simp only [Exit.inBlock, Exit.then])
     go_wp2_with fail
     go_ret
     exact ⟨by rw [HN.out]; rfl, bl_next HB.out HB.out.size HBR.out⟩
  ·
   have q2 : ((rn : Int) == (sn : Int)) = false := by rw [beq_eq_false_iff_ne]; omega
   have q2n : ((rn : Int) != (sn : Int)) = true := by rw [bne_iff_ne]; omega
   have HN : Hid ((decide (de1 = de2) && decide (rg1 = rg2)) = false) := Qh (by rw [Bool.and_eq_false_iff]; right; rw [decide_eq_false_iff_not]; intro h9; rw [h9, HL2.out] at HL1; exact e2 HL1.out.symm)
   clear e2
   go_wp2_with fail
   go_ret
   exact ⟨by rw [HN.out]; rfl, HB.out⟩
 ·
  have q1 : (de1 == de2) = false := by simpa using e1
  have q1n : (de1 != de2) = true := by simpa using e1
  have HN : Hid ((decide (de1 = de2) && decide (rg1 = rg2)) = false) := Qh (by simp [e1])
  clear e1
  go_wp2_with fail
  go_ret
  exact ⟨by rw [HN.out]; rfl, HB.out⟩
theorem rsame4_no (w : World) (f g : Fr) (dv rv dw rw_ : Value) (hkk : f.kind = g.kind) (hk : ¬ (f.kind = 2 ∨ f.kind = 4 ∨ f.kind = 5 ∨ f.kind = 6 ∨ f.kind = 8 ∨ f.kind = 16 ∨ f.kind = 18 ∨ f.kind = 20 ∨ f.kind = 17 ∨ f.kind = 24 ∨ f.kind = 25 ∨ f.kind = 26 ∨ f.kind = 27 ∨ f.kind = 28)) :
  Calls Try.prog 14 #[.agg (f.cells dv rv).toArray, .agg (g.cells dw rw_).toArray] w fun e w' => e = .returned (.bool (sameF f g)) ∧ Below w.heap.size w w' := by
 simp only [not_or] at hk
 have hs : sameF f g = true := by unfold sameF; simp [hk, hkk] <;> simp [← hkk, hk]
 rw [hs]
 have Ha0 : Hid ((f.cells dv rv)[0]? = some (.int .i64 f.kind)) := Qh rfl
 have Hb0 : Hid ((g.cells dw rw_)[0]? = some (.int .i64 g.kind)) := Qh rfl
 obtain ⟨RA, hRA⟩ : ∃ R, f.cells dv rv = R := ⟨_, rfl⟩
 obtain ⟨RB, hRB⟩ : ∃ R, g.cells dw rw_ = R := ⟨_, rfl⟩
 rw [hRA] at Ha0
 rw [hRB] at Hb0
 rw [hRA, hRB]
 clear hRA hRB hs
 obtain ⟨k1, h1⟩ : ∃ y, f.kind = y := ⟨_, rfl⟩
 obtain ⟨k2, h2⟩ : ∃ y, g.kind = y := ⟨_, rfl⟩
 rw [h1] at Ha0 hkk hk
 rw [h2] at Hb0 hkk
 clear h1 h2
 subst hkk
 obtain ⟨n2, n4, n5, n6, n8, n16, n18, n20, n17, n24, n25, n26, n27, n28⟩ := hk
 have e2 : (k1 == 2) = false := by simpa using n2
 have e4 : (k1 == 4) = false := by simpa using n4
 have e5 : (k1 == 5) = false := by simpa using n5
 have e6 : (k1 == 6) = false := by simpa using n6
 have e8 : (k1 == 8) = false := by simpa using n8
 have e16 : (k1 == 16) = false := by simpa using n16
 have e18 : (k1 == 18) = false := by simpa using n18
 have e20 : (k1 == 20) = false := by simpa using n20
 have e17 : (k1 == 17) = false := by simpa using n17
 have e24 : (k1 == 24) = false := by simpa using n24
 have e25 : (k1 == 25) = false := by simpa using n25
 have e26 : (k1 == 26) = false := by simpa using n26
 have e27 : (k1 == 27) = false := by simpa using n27
 have e28 : (k1 == 28) = false := by simpa using n28
 have ee : (k1 != k1) = false := by simp
 have ef : (k1 == k1) = true := by simp
 clear n2 n4 n5 n6 n8 n16 n18 n20 n17 n24 n25 n26 n27 n28
 have HB := Qh (Below.refl w.heap.size w)
 go_enter Try.func14, Try.ntmps14
 go_upto_region 1 with fail
 change Code.wp _ _ _ _ ((w.alloc (.cells RA.toArray 39)).alloc (.cells RB.toArray 39))
 obtain ⟨ga, hg0⟩ : ∃ g, w.heap.size = g := ⟨_, rfl⟩
 try rw [hg0]
 have hb := (Below.refl w.heap.size w).alloc (Nat.le_refl _) (.cells RA.toArray 39)
 have hrw := heap_alloc_new w (.cells RA.toArray 39)
 have hsz : (w.alloc (.cells RA.toArray 39)).heap.size = ga + 1 := by simp [hg0]
 rw [hg0] at hrw
 replace HB := Qh (bl_next HB.out HB.out.size hb)
 have HA := Qh hrw
 clear hb hrw
 generalize w.alloc (.cells RA.toArray 39) = w1 at HB HA hsz ⊢
 have hg1 := hsz
 clear hsz
 clear hg0
 have hb := (Below.refl w1.heap.size w1).alloc (Nat.le_refl _) (.cells RB.toArray 39)
 have hrw := heap_alloc_new w1 (.cells RB.toArray 39)
 have hsz : (w1.alloc (.cells RB.toArray 39)).heap.size = ga + 1 + 1 := by simp [hg1]
 rw [hg1] at hrw
 replace HB := Qh (bl_next HB.out HB.out.size hb)
 replace HA := Qh (bl_row hb (lt_of_block HA.out) HA.out)
 have HG := Qh hrw
 clear hb hrw
 generalize w1.alloc (.cells RB.toArray 39) = w2 at HB HA HG hsz ⊢
 have hg2 := hsz
 clear hsz
 clear hg1
 obtain ⟨gb, hgg⟩ : ∃ g, ga + 1 = g := ⟨_, rfl⟩
 rw [hgg] at HG hg2 ⊢
 have HLTgb : Hid (ga < gb) := Qh (by omega)
 clear hgg
 clear hg2
 have ca0 := cell_row HA.out 0 _ Ha0.out; have cb0 := cell_row HG.out 0 _ Hb0.out
 go_wp2_with fail
 go_ret
 exact ⟨rfl, HB.out⟩
theorem rsame4_diff (w : World) (f g : Fr) (dv rv dw rw_ : Value) (hkk : ¬ f.kind = g.kind) :
  Calls Try.prog 14 #[.agg (f.cells dv rv).toArray, .agg (g.cells dw rw_).toArray] w fun e w' => e = .returned (.bool (sameF f g)) ∧ Below w.heap.size w w' := by
 have hs : sameF f g = false := by unfold sameF; simp [hkk]
 rw [hs]
 have Ha0 : Hid ((f.cells dv rv)[0]? = some (.int .i64 f.kind)) := Qh rfl
 have Hb0 : Hid ((g.cells dw rw_)[0]? = some (.int .i64 g.kind)) := Qh rfl
 obtain ⟨RA, hRA⟩ : ∃ R, f.cells dv rv = R := ⟨_, rfl⟩
 obtain ⟨RB, hRB⟩ : ∃ R, g.cells dw rw_ = R := ⟨_, rfl⟩
 rw [hRA] at Ha0
 rw [hRB] at Hb0
 rw [hRA, hRB]
 clear hRA hRB hs
 obtain ⟨k1, h1⟩ : ∃ y, f.kind = y := ⟨_, rfl⟩
 obtain ⟨k2, h2⟩ : ∃ y, g.kind = y := ⟨_, rfl⟩
 rw [h1] at Ha0 hkk
 rw [h2] at Hb0 hkk
 clear h1 h2
 have ee : (k1 != k2) = true := by simpa using hkk
 have ef : (k1 == k2) = false := by simpa using hkk
 clear hkk
 have HB := Qh (Below.refl w.heap.size w)
 go_enter Try.func14, Try.ntmps14
 go_upto_region 1 with fail
 change Code.wp _ _ _ _ ((w.alloc (.cells RA.toArray 39)).alloc (.cells RB.toArray 39))
 obtain ⟨ga, hg0⟩ : ∃ g, w.heap.size = g := ⟨_, rfl⟩
 try rw [hg0]
 have hb := (Below.refl w.heap.size w).alloc (Nat.le_refl _) (.cells RA.toArray 39)
 have hrw := heap_alloc_new w (.cells RA.toArray 39)
 have hsz : (w.alloc (.cells RA.toArray 39)).heap.size = ga + 1 := by simp [hg0]
 rw [hg0] at hrw
 replace HB := Qh (bl_next HB.out HB.out.size hb)
 have HA := Qh hrw
 clear hb hrw
 generalize w.alloc (.cells RA.toArray 39) = w1 at HB HA hsz ⊢
 have hg1 := hsz
 clear hsz
 clear hg0
 have hb := (Below.refl w1.heap.size w1).alloc (Nat.le_refl _) (.cells RB.toArray 39)
 have hrw := heap_alloc_new w1 (.cells RB.toArray 39)
 have hsz : (w1.alloc (.cells RB.toArray 39)).heap.size = ga + 1 + 1 := by simp [hg1]
 rw [hg1] at hrw
 replace HB := Qh (bl_next HB.out HB.out.size hb)
 replace HA := Qh (bl_row hb (lt_of_block HA.out) HA.out)
 have HG := Qh hrw
 clear hb hrw
 generalize w1.alloc (.cells RB.toArray 39) = w2 at HB HA HG hsz ⊢
 have hg2 := hsz
 clear hsz
 clear hg1
 obtain ⟨gb, hgg⟩ : ∃ g, ga + 1 = g := ⟨_, rfl⟩
 rw [hgg] at HG hg2 ⊢
 have HLTgb : Hid (ga < gb) := Qh (by omega)
 clear hgg
 clear hg2
 have ca0 := cell_row HA.out 0 _ Ha0.out; have cb0 := cell_row HG.out 0 _ Hb0.out
 go_wp2_with fail
 go_ret
 exact ⟨rfl, HB.out⟩
theorem rsame4_any (w : World) (f g : Fr) (dv rv dw rw_ : Value) (hf : FrAt w f dv rv) (hg : FrAt w g dw rw_) (hn1 : f.kind = 2 → f.rg.length ≤ 1000000) :
  Calls Try.prog 14 #[.agg (f.cells dv rv).toArray, .agg (g.cells dw rw_).toArray] w fun e w' => e = .returned (.bool (sameF f g)) ∧ Below w.heap.size w w' := by
 by_cases hkk : f.kind = g.kind
 ·
  by_cases hk : f.kind = 2 ∨ f.kind = 4 ∨ f.kind = 5 ∨ f.kind = 6 ∨ f.kind = 8 ∨ f.kind = 16 ∨ f.kind = 18 ∨ f.kind = 20 ∨ f.kind = 17 ∨ f.kind = 24 ∨ f.kind = 25 ∨ f.kind = 26 ∨ f.kind = 27 ∨ f.kind = 28
  ·
   rcases hk with hk | hk | hk | hk | hk | hk | hk | hk | hk | hk | hk | hk | hk | hk
   ·
    exact rsame4_2 w f g dv rv dw rw_ hf hg hk (by rw [← hkk, hk]) (hn1 hk)
   ·
    exact rsame4_4 w f g dv rv dw rw_ hf hg hk (by rw [← hkk, hk])
   ·
    exact rsame4_5 w f g dv rv dw rw_ hf hg hk (by rw [← hkk, hk])
   ·
    exact rsame4_6 w f g dv rv dw rw_ hf hg hk (by rw [← hkk, hk])
   ·
    exact rsame4_8 w f g dv rv dw rw_ hf hg hk (by rw [← hkk, hk])
   ·
    exact rsame4_16 w f g dv rv dw rw_ hf hg hk (by rw [← hkk, hk])
   ·
    exact rsame4_18 w f g dv rv dw rw_ hf hg hk (by rw [← hkk, hk])
   ·
    exact rsame4_20 w f g dv rv dw rw_ hf hg hk (by rw [← hkk, hk])
   ·
    exact rsame4_17 w f g dv rv dw rw_ hf hg hk (by rw [← hkk, hk])
   ·
    exact rsame4_24 w f g dv rv dw rw_ hf hg hk (by rw [← hkk, hk])
   ·
    exact rsame4_25 w f g dv rv dw rw_ hf hg hk (by rw [← hkk, hk])
   ·
    exact rsame4_26 w f g dv rv dw rw_ hf hg hk (by rw [← hkk, hk])
   ·
    exact rsame4_27 w f g dv rv dw rw_ hf hg hk (by rw [← hkk, hk])
   ·
    exact rsame4_28 w f g dv rv dw rw_ hf hg hk (by rw [← hkk, hk])
  ·
   exact rsame4_no w f g dv rv dw rw_ hkk hk
 ·
  exact rsame4_diff w f g dv rv dw rw_ hkk
end Go.Proofs.Ytmbjepcbokbemaa
namespace Go.Proofs.Ytmbjepcbokbemaa
open Go.RowKit Go.WideShapes Go.ChangeShapes
section
variable {H : Type} {enc : TypeId × Value → H} {P : Program} {w : World} {base : Nat} {spare : Nat → Bool} {held : Bool} {fuel : Nat} {t : TypeId}
end
end Go.Proofs.Ytmbjepcbokbemaa
namespace Go.Proofs.Ytmbjepcbokbemaa
open Go.RowKit Go.WideShapes Go.ChangeShapes
def I64 (n : Int) : Prop := -9223372036854775808 ≤ n ∧ n ≤ 9223372036854775807
structure KfV where
 xk : Int
 xa : Int
 xb : Int
 xc : Int
 xn : Int
 xf : Bool
 da : Option Addr
 dn : Nat
 dc : Nat
 ra : Option Addr
 rn : Nat
 rc : Nat
 data : List Int
 rows : List Int
def KfV.cells (x : KfV) : List Value := [.int .i64 x.xk, .int .u64 x.xa, .int .u64 x.xb, .int .u64 x.xc, .slice x.da x.dn x.dc, .bool x.xf, .slice x.ra x.rn x.rc, .int .i64 x.xn]
structure KfV.At (w : World) (x : KfV) : Prop where
 xk : I64 x.xk
 xa : U64 x.xa
 xb : U64 x.xb
 xc : U64 x.xc
 xn : I64 x.xn
 d : IntsK .u8 w x.da x.dn x.data
 dc : x.dn ≤ x.dc ∧ x.dc ≤ 9223372036854775807
 r : IntsK .u64 w x.ra x.rn x.rows
 rc : x.rn ≤ 9223372036854775807
theorem KfV.At.below {w y : World} {x : KfV} (h : x.At w) (hb : Below w.heap.size w y) : x.At y := { h with d := h.d.below hb, r := h.r.below hb }
def Kfs (w : World) (a : Option Addr) (len : Nat) : Prop :=
 len = 0 ∨ ∃ b off, a = some ⟨b, off, none⟩ ∧ b < w.heap.size ∧ ∀ j, j < len → ∃ x : KfV, x.At w ∧ w.rangeAt b (off + j * 8) x.cells
theorem Kfs.below {w y : World} {a : Option Addr} {len : Nat} (h : Kfs w a len) (hb : Below w.heap.size w y) : Kfs y a len := by
 rcases h with h | ⟨b, off, ha, hl, h⟩
 ·
  exact .inl h
 ·
  exact .inr ⟨b, off, ha, Nat.lt_of_lt_of_le hl hb.size, fun j hj => by
   obtain ⟨x, h1, h2⟩ := h j hj
   exact ⟨x, h1.below hb, fun i v hv => bl_cell hb (p := ⟨b, off + j * 8 + i, none⟩) hl (h2 i v hv)⟩⟩
theorem Kfs.lt {w : World} {a : Option Addr} {len j : Nat} (h : Kfs w a len) (hj : j < len) {b off : Nat} (ha : a = some ⟨b, off, none⟩) : b < w.heap.size := by
 rcases h with h | ⟨b', off', ha', hl, h⟩
 ·
  omega
 ·
  rw [ha] at ha'; injection ha' with e; injection e with e1 e2; subst e1; exact hl
theorem Kfs.at {w : World} {a : Option Addr} {len : Nat} (h : Kfs w a len) {j : Nat} (hj : j < len) : ∃ b off x, a = some ⟨b, off, none⟩ ∧ b < w.heap.size ∧ KfV.At w x ∧ w.rangeAt b (off + j * 8) x.cells := by
 rcases h with h | ⟨b, off, ha, hl, h⟩
 ·
  omega
 ·
  obtain ⟨x, h1, h2⟩ := h j hj
  exact ⟨b, off, x, ha, hl, h1, h2⟩
def KeI (w : World) (n : Nat) (m : Int) (s5 s6 : Value) (wr : World) : Prop := ∃ (i : Nat) (X : List FX), s6 = .int .i64 i ∧ i ≤ n ∧ ((X.length : Int) ≤ m ∧ X.length = i) ∧ Hid (Below w.heap.size w wr) ∧ Hid (wr.ownsRow w.heap.size 39 19 s5 X.length (frK.flat X)) ∧ Hid (∀ x ∈ X, FrAt wr x.f x.dv x.rv ∧ FrAp s5.ownBlock x.dv x.rv ∧ rightB x.f = true)
end Go.Proofs.Ytmbjepcbokbemaa
namespace Go.Proofs.Ytmbjepcbokbemaa
open Go.RowKit
theorem rl_round {x2 x3 x4 x6 x7 x8 x9 x10 x11 x12 x13 x14 x15 x16 x17 x18 x19 x20 x21 x22 x23 x24 x25 x26 : Value} {ab ao bb bo n c1 c2 i : Nat} {RA RB : List Value} (w : World) {Q : Exit → Act → World → Prop}
  (HX : Hid (w.rangeAt ab (ao + i * 19) RA)) (HY : Hid (w.rangeAt bb (bo + i * 19) RB)) (hab : ab < w.heap.size) (hbb : bb < w.heap.size) (HLA : Hid (RA.length = 19)) (HLB : Hid (RB.length = 19)) (HS : Hid (∀ u, Below w.heap.size w u → Calls Try.prog 14 #[.agg RA.toArray, .agg RB.toArray] u fun e w' => e = .returned (.bool true) ∧ Below u.heap.size u w')) (hi : i < n) (hn : n ≤ 1000000)
  (hQp : ∀ c a d v w, Q (.panic c) (a.put d v) w → Q (.panic c) a w)
  (hQ : ∀ (y17 y18 y19 y20 y21 y22 y23 y24 y25 : Value) (w' : World), Hid (Below w.heap.size w w') → Q .normal ⟨List.toArray (.slice (some ⟨ab, ao, none⟩) n c1 :: .slice (some ⟨bb, bo, none⟩) n c2 :: x2 :: x3 :: x4 :: .int .i64 i :: x6 :: x7 :: x8 :: x9 :: x10 :: x11 :: x12 :: x13 :: x14 :: x15 :: x16 :: y17 :: y18 :: y19 :: y20 :: y21 :: y22 :: y23 :: y24 :: y25 :: .bool false :: []), []⟩ w') :
  Code.wp Try.prog (((Try.f11.body.bind (subRegion 6)).getD .skip)) Q ⟨List.toArray (.slice (some ⟨ab, ao, none⟩) n c1 :: .slice (some ⟨bb, bo, none⟩) n c2 :: x2 :: x3 :: x4 :: .int .i64 i :: x6 :: x7 :: x8 :: x9 :: x10 :: x11 :: x12 :: x13 :: x14 :: x15 :: x16 :: x17 :: x18 :: x19 :: x20 :: x21 :: x22 :: x23 :: x24 :: x25 :: x26 :: []), []⟩ w := by
 have HK := Qh hQ; have HKP := Qh hQp
 clear hQ hQp
 conv => arg 2; whnf
 have HXB := Qh (fun (y : World) (h : Below w.heap.size w y) => (fun j v hj => bl_cell h (p := ⟨ab, ao + i * 19 + j, none⟩) hab (HX.out j v hj) : y.rangeAt ab (ao + i * 19) RA))
 have HYB := Qh (fun (y : World) (h : Below w.heap.size w y) => (fun j v hj => bl_cell h (p := ⟨bb, bo + i * 19 + j, none⟩) hbb (HY.out j v hj) : y.rangeAt bb (bo + i * 19) RB))
 refine wp_plan (.t 0 (.t 1 (.t 2 (.t 3 (.t 4 (.t 5 (.t 6 (.t 7 (.u 8 (.t 9 .done)))))))))) (fun y => Below w.heap.size w y) (by kernel_rfl) (by kernel_rfl) (by kernel_rfl) (fun c a d v w h => by first | (cases d <;> exact h) | exact HKP.out c a d v w h) (Below.refl _ _).drew ?_
 have HB := Qh (Below.refl w.heap.size w).drew
 generalize w.drew = w1 at HB ⊢
 haveI hne : Nonempty (In (fun y => Below w.heap.size w y)) := ⟨⟨w, Below.refl _ _⟩⟩
 repeat (first | (refine plan_t_load (by rfl) (by kernel_rfl) 39 _ rfl ab (ao + i * 19) rfl RA _ (fun y hy => HXB.out y hy) Try.underlying39 rfl (by rw [HLA.out]; rfl) ?_; simp only [Act.put, List.setIfInBounds_toArray, List.set_cons_succ, List.set_cons_zero]) | (refine plan_t_load (by rfl) (by kernel_rfl) 39 _ rfl bb (bo + i * 19) rfl RB _ (fun y hy => HYB.out y hy) Try.underlying39 rfl (by rw [HLB.out]; rfl) ?_; simp only [Act.put, List.setIfInBounds_toArray, List.set_cons_succ, List.set_cons_zero]) | (refine plan_t (by rfl) ?_; (first | go_big_quiet_skip | (go_big_quiet_want; go_big_quiet_op; go_big_quiet_on)); refine wpQuiet_nil ?_))
 refine plan_us (by rfl) (by kernel_rfl) ?_
 intro K hK
 have HCL := Qh (HS.out w1 HB.out)
 go_wp2_with fail
 refine Calls.mono HCL.out ?_
 rintro e w2 ⟨rfl, hb⟩
 replace HB := Qh (bl_next HB.out HB.out.size hb)
 clear hb HCL
 go_wp2_with fail
 refine ⟨HB.out, ?_⟩
 repeat (first | (refine plan_t (by rfl) ?_; (first | go_big_quiet_skip | (go_big_quiet_want; go_big_quiet_op; go_big_quiet_on)); refine wpQuiet_nil ?_))
 clear hne
 show Q _ _ _
 exact HK.out _ _ _ _ _ _ _ _ _ w2 HB
theorem rlists4_true (w : World) (a b : Option Addr) (n c1 c2 : Nat) (X Z : List FX) (hX : FrsAt w a n X) (hZ : FrsAt w b n Z) (hn : n ≤ 1000000) (hs : ∀ (i : Nat) (x z : FX), X[i]? = some x → Z[i]? = some z → sameF x.f z.f = true) (hr : ∀ x ∈ X, x.f.kind = 2 → x.f.rg.length ≤ 1000000) :
  Calls Try.prog 11 #[.slice a n c1, .slice b n c2] w fun e w' => e = .returned (.bool true) ∧ Below w.heap.size w w' := by
 have HX := Qh hX; have HZ := Qh hZ; have HS := Qh hs; have HR := Qh hr
 clear hX hZ hs hr
 have q1 : ((n : Int) != (n : Int)) = false := by simp
 have q2 : ((n : Int) == (n : Int)) = true := by simp
 go_enter Try.func11, Try.ntmps11
 go_wp2_with fail
 go_loopw [5] (fun s5 wr => ∃ i : Nat, s5 = .int .i64 i ∧ i ≤ n ∧ Hid (Below w.heap.size w wr)) (fun s _ => n - (intOf s).toNat)
 case atStart => exact ⟨0, rfl, by omega, Qh (Below.refl _ _)⟩
 case round =>
  obtain ⟨i, rfl, hi, HB⟩ := hrel
  by_cases hlt : i < n
  ·
   have HX1 := Qh (HX.out.below HB.out); have HZ1 := Qh (HZ.out.below HB.out)
   obtain ⟨ab, ao, x, rfl, hab, hx, hok, hrx⟩ := HX1.out.row.at hlt
   obtain ⟨bb, bo, z, rfl, hbb, hz, hok2, hrz⟩ := HZ1.out.row.at hlt
   have HSM := Qh (HS.out i x z hx hz)
   have HFX := Qh (HX1.out.fr x (List.mem_of_getElem? hx)); have HFZ := Qh (HZ1.out.fr z (List.mem_of_getElem? hz)); have HRG := Qh (HR.out x (List.mem_of_getElem? hx))
   have HLA : Hid ((frK.enc x).length = 19) := Qh (Fr.len hok.1); have HLB : Hid ((frK.enc z).length = 19) := Qh (Fr.len hok2.1)
   have HSS : Hid (∀ u, Below wr.heap.size wr u → Calls Try.prog 14 #[.agg (frK.enc x).toArray, .agg (frK.enc z).toArray] u fun e w' => e = .returned (.bool true) ∧ Below u.heap.size u w') := Qh (fun u hu => by have h9 := rsame4_any u x.f z.f x.dv x.rv z.dv z.rv (HFX.out.below hu) (HFZ.out.below hu) HRG.out; rw [HSM.out] at h9; exact h9)
   have HXR := Qh hrx; have HZR := Qh hrz
   clear hx hz hok hok2 hrx hrz HSM HFX HFZ HRG HX1 HZ1
   obtain ⟨RA, hRA⟩ : ∃ R, frK.enc x = R := ⟨_, rfl⟩
   obtain ⟨RB, hRB⟩ : ∃ R, frK.enc z = R := ⟨_, rfl⟩
   rw [hRA] at HLA HXR; rw [hRB] at HLB HZR
   simp only [hRA, hRB] at HSS
   clear hRA hRB
   go_upto_region 6 with fail
   refine rl_round _ HXR HZR hab hbb HLA HLB HSS hlt hn (fun c a d v w h => by cases d <;> exact h) ?_
   rintro _ _ _ _ _ _ _ _ _ w9 HB9
   replace HB := Qh (bl_next HB.out HB.out.size HB9.out)
   clear HB9 HSS HXR HZR HLA HLB hab hbb
   go_wp2_with fail
   go_roundw
   case rel => exact ⟨i + 1, by go_num, by omega, HB⟩
   case measure => simp [intOf]; omega
  ·
   go_wp2_with fail
   (try simp only [Exit.inBlock, Exit.then])
   go_wp2_with fail
   go_ret
   exact ⟨rfl, HB.out⟩
theorem enc_ping : encM [(⟨zeroF 1, .slice none 0 0, .slice none 0 0⟩ : FX)] = [1] := by decide
theorem right_ping : rightB (zeroF 1) = true := by decide
theorem size_ping : sizeF (zeroF 1) = 1 := by decide
theorem dec_nil : decF [] = none := by decide
theorem known4_any (w : World) : Calls Try.prog 9 #[] w fun e w' => e = .returned (.bool true) ∧ Below w.heap.size w w' := by
 have HP := Qh (FrAt.zero w 1 (by omega))
 have HOK : Hid (frK.ok (⟨zeroF 1, .slice none 0 0, .slice none 0 0⟩ : FX)) := Qh HP.out.ok
 have HEN := Qh (encode4_any _ _ 1 1 _ (FrsAt.one HP.out) (by omega) ⟨Nat.le_refl _, by omega⟩)
 have HB := Qh (Below.refl w.heap.size w)
 go_enter Try.func9, Try.ntmps9
 go_wp2_with (first | (refine wpList_build_rk frT rfl _ rfl (⟨zeroF 1, .slice none 0 0, .slice none 0 0⟩ : FX) HOK.out rfl ?_) | fail)
 refine Calls.mono HEN.out ?_
 rintro e9 w1 ⟨hb, hr⟩
 replace HB := Qh (bl_next ((Below.refl w.heap.size w).alloc (Nat.le_refl _) (.cells (frK.flat [(⟨zeroF 1, .slice none 0 0, .slice none 0 0⟩ : FX)]).toArray 39)) ((Below.refl w.heap.size w).alloc (Nat.le_refl _) (.cells (frK.flat [(⟨zeroF 1, .slice none 0 0, .slice none 0 0⟩ : FX)]).toArray 39)).size hb)
 rcases hr with ⟨_, b, c, rfl, h1, h2, h3, h4⟩ | ⟨h9, _⟩
 rotate_left
 ·
  simp [right_ping] at h9
 rw [enc_ping] at h1 h3 ⊢
 simp only [List.length_cons, List.length_nil, Nat.zero_add] at h1 h3 ⊢
 have HI := Qh h3
 clear h1 h3 h4 hb HEN HP HOK
 have HDC := Qh (dec4_any w1 none 0 0 [] (IntsK.nil _ _ _) (by omega) ⟨Nat.le_refl _, by omega⟩)
 go_wp2_with fail
 refine Calls.mono HDC.out ?_
 rintro e9 w2 ⟨hb, hr⟩
 replace HB := Qh (bl_next HB.out HB.out.size hb)
 replace HI := Qh (HI.out.below hb)
 rcases hr with ⟨_, rfl⟩ | ⟨f, r, dv, rv, hd, _⟩
 rotate_left
 ·
  rw [dec_nil] at hd; cases hd
 clear hb HDC
 obtain ⟨RF, hRF⟩ : ∃ R, ((zeroF 0).cells (.slice none 0 0) (.slice none 0 0)) = R := ⟨_, rfl⟩
 have HRF : Hid (RF.length = 19) := Qh (by rw [← hRF]; rfl)
 have HRO : Hid (∀ v ∈ RF, v.oneCell' = true) := Qh (by rw [← hRF]; exact one19 rfl rfl)
 rw [hRF]
 clear hRF
 go_upto_region 3 with (first | (refine wpList_store_row rfl 39 _ _ rfl _ rfl RF ([.int .i64 0, .int .u64 0, .int .u64 0, .slice none 0 0, .bool false, .int .u64 0, .int .u64 0, .int .u64 0, .int .u64 0, .int .u64 0, .slice none 0 0, .int .u8 0, .int .u8 0, .int .u8 0, .int .u8 0, .int .u8 0, .int .u8 0, .int .u8 0, .int .u8 0] : List Value) rfl 39 (heap_alloc_new _ _) (by rw [HRF.out]; rfl) (by rw [HRF.out]; rfl) HRO.out ?_; intro w3 hr hg) | fail)
 have hal := (Below.refl w2.heap.size w2).alloc (Nat.le_refl _) (.cells (([.int .i64 0, .int .u64 0, .int .u64 0, .slice none 0 0, .bool false, .int .u64 0, .int .u64 0, .int .u64 0, .int .u64 0, .int .u64 0, .slice none 0 0, .int .u8 0, .int .u8 0, .int .u8 0, .int .u8 0, .int .u8 0, .int .u8 0, .int .u8 0, .int .u8 0] : List Value)).toArray 39)
 have hb : Below w2.heap.size w2 w3 := hal.grown hg hal.size (by intro k hk; injection hk with hk; omega)
 replace HB := Qh (bl_next HB.out HB.out.size hb)
 replace HI := Qh (HI.out.below hb)
 have HF := Qh (hr)
 clear hr hg hal hb
 obtain ⟨gf, hg⟩ : ∃ g, w2.heap.size = g := ⟨_, rfl⟩
 rw [hg] at HF ⊢
 clear hg
 have hc1 : (convert 25 9 (.slice b 1 c)).run Try.prog w3 = .ok (.string (strOfNums [1])) w3 := conv_ints _ 5 _ _ Try.underlying25 Try.underlying5 Try.underlying9 HI.out
 have HA2 := Qh (asks4_any w3 (zeroF 2) (.slice none 0 0) (.slice none 0 0) (zero_wf 2 (by omega)))
 have hstr : strOfNums [1] = ByteArray.mk #[1] := by kernel_rfl
 rw [hstr] at hc1
 clear hstr
 go_wp2_with fail
 refine Calls.mono HA2.out ?_
 rintro e9 wa ⟨rfl, hb⟩
 replace HB := Qh (bl_next HB.out HB.out.size hb)
 clear hb HA2 hc1
 rw [show asksB (zeroF 2) = false by decide]
 have HA1 := Qh (asks4_any wa (zeroF 1) (.slice none 0 0) (.slice none 0 0) (zero_wf 1 (by omega)))
 go_wp2_with fail
 refine Calls.mono HA1.out ?_
 rintro e9 wb ⟨rfl, hb⟩
 replace HB := Qh (bl_next HB.out HB.out.size hb)
 clear hb HA1
 rw [show asksB (zeroF 1) = true by decide]
 have HSZ := Qh (size4_any wb (zeroF 1) (.slice none 0 0) (.slice none 0 0) (FrAt.zero wb 1 (by omega)))
 go_wp2_with fail
 refine Calls.mono HSZ.out ?_
 rintro e9 wc ⟨rfl, hb⟩
 replace HB := Qh (bl_next HB.out HB.out.size hb)
 clear hb HSZ
 rw [size_ping]
 go_wp2_with fail
 go_ret
 exact ⟨rfl, HB.out⟩
end Go.Proofs.Ytmbjepcbokbemaa
namespace Go.Proofs.Ytmbjepcbokbemaa
open Go.RowKit
def BkI (w4 : World) (X : List FX) (s4 s8 s9 : Value) (wr : World) : Prop := ∃ (i : Nat) (a' : Option Addr) (m cp' N : Nat), s9 = .int .i64 i ∧ s4 = .slice a' m cp' ∧ s8 = .int .i64 N ∧ (i ≤ X.length ∧ m ≤ cp' ∧ cp' ≤ 9223372036854775807 ∧ N ≤ 700 * i ∧ i ≤ N) ∧ Hid (IntsK .u8 w4 a' m (encM (X.drop i))) ∧ Hid (Below w4.heap.size w4 wr)
end Go.Proofs.Ytmbjepcbokbemaa
