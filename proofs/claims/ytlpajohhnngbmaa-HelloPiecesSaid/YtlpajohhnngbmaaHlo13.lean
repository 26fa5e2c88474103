/- hello: HelloPieces, two parts of it. -/
import Derived.Test.YtlpajohhnngbmaaHlo12
namespace Go.Proofs.Ytlpajohhnngbmaa
open Go.RowKit
set_option linter.unusedVariables false
set_option linter.unusedSimpArgs false

theorem greet_in (s : Sd) (b : List Int) : (greetM s b).1.i0 = s.i0 ∧ (greetM s b).1.i1 = s.i1 := by
  unfold greetM; (repeat' split) <;> exact ⟨rfl, rfl⟩
theorem Feed_in (s : Sd) (b : List Int) : (FeedM s 0 b).1.i0.length ≤ s.i0.length + b.length ∧ (FeedM s 0 b).1.i1 = s.i1 := by
  unfold FeedM
  by_cases hc : s.code = 0 ∧ 0 < b.length
  · rw [if_pos hc]
    show (feedM s 0 b).1.i0.length ≤ _ ∧ (feedM s 0 b).1.i1 = _
    by_cases h0 : s.h0 = true
    · unfold feedM
      rw [if_neg (by omega), if_pos (by rw [if_neg (by decide)]; exact h0)]
      exact ⟨Nat.le_add_right _ _, rfl⟩
    · rw [feed0 s b (by simpa using h0)]
      split
      · exact ⟨by simp, rfl⟩
      · rw [whole0]
        split
        · have h := greet_in (heardM { s with i0 := s.i0 ++ b } false) (List.take (sizeHM false s.knows (s.i0 ++ b)).1 (s.i0 ++ b))
          show List.length (greetM _ _).1.i0 ≤ _ ∧ (greetM _ _).1.i1 = _
          rw [h.1, h.2]
          exact ⟨by show (s.i0 ++ b).length ≤ _; simp, rfl⟩
        · have h := greet_in (heardM { s with i0 := s.i0 ++ b } false) (List.take (sizeHM false s.knows (s.i0 ++ b)).1 (s.i0 ++ b))
          rw [h.1, h.2]
          exact ⟨by show (s.i0 ++ b).length ≤ _; simp, rfl⟩
  · rw [if_neg hc]; exact ⟨Nat.le_add_right _ _, rfl⟩
theorem out_alike {s t : Sd} (h : Alike s t) (b : Bool) : outM s b = outM t b := by unfold outM; rw [h.asks, h.knows, h.o0, h.o1]
theorem sec_alike {s t : Sd} (h : Alike s t) (b : Bool) : secM s b = secM t b := by unfold secM; rw [h.asks, h.knows, h.sh, h.done]
set_option maxRecDepth 100000 in
set_option maxHeartbeats 8000000 in
theorem pieces_r12 {x0 x1 x2 x3 x4 x5 x6 x7 x8 x9 x10 x11 x12 x13 x14 x15 x16 x17 x18 x19 x20 x21 x22 x26 x27 x28 x29 x30 x31 x32 x33 x34 x35 x36 x37 x38 x39 x40 x41 x42 x43 x44 x45 x46 x47 x48 x49 x50 x51 x52 x53 x54 x55 x56 x57 x58 x59 x60 x61 x62 x63 x64 x65 x66 x67 x68 x69 x70 x71 x72 x73 x74 x75 x76 x77 x78 x79 x80 x81 x82 x83 x84 x85 x86 x87 x88 x89 x90 x91 x92 x93 x94 x95 x96 x97 x98 x99 x100 x101 x102 x103 x104 x105 x106 x107 x108 x109 x110 x111 x112 x113 x114 x115 x116 x117 x118 x119 x120 x121 x122 x123 x124 x125 x126 x127 x128 x129 x130 x131 x132 x133 x134 x135 x136 x137 x138 x139 x140 x141 x142 x143 x144 x145 x146 x147 x148 x149 x150 x151 x152 x153 x154 x155 x156 x157 x158 x159 x160 x161 x162 x163 x164 x165 x166 x167 x168 x169 x170 x171 x172 x173 x174 x175 x176 x177 x178 x179 : Value} {p ga len cap k : Nat} {bs : List Int} {M J : List Nat} {s : Sd} {a0 a1 b0 b1 : Option Addr} {k0 k1 d0 d1 : Nat} (w : World) {Q : Exit → Act → World → Prop}
    (hk : k ≤ len) (hlc : len ≤ cap) (hsum : s.i0.length + s.i1.length + len ≤ 100000) (HI : Hid (IntsK .u8 w (some ⟨ga, 0, none⟩) len bs)) (HS : Hid (SdAt w p M J s a0 a1 b0 b1 k0 k1 d0 d1))
    (hQp : ∀ c a d v w, Q (.panic c) (a.put d v) w → Q (.panic c) a w)
    (hQ : ∀ (y104 y105 y106 y107 y108 : Value) (w' : World), FedR w p M J (FeedM s 0 (bs.drop k)).1 (FeedM s 0 (bs.drop k)).2 (.returned (.int .i64 (FeedM s 0 (bs.drop k)).2)) w' → Q .normal ⟨List.toArray (x0 :: x1 :: x2 :: x3 :: x4 :: x5 :: x6 :: x7 :: x8 :: x9 :: x10 :: x11 :: x12 :: x13 :: x14 :: x15 :: x16 :: x17 :: x18 :: x19 :: x20 :: x21 :: x22 :: .pointer (some ⟨p, 0, none⟩) :: .slice (some ⟨ga, 0, none⟩) len cap :: .int .i64 k :: x26 :: x27 :: .int .i64 (FeedM s 0 (bs.drop k)).2 :: x29 :: x30 :: x31 :: x32 :: x33 :: x34 :: x35 :: x36 :: x37 :: x38 :: x39 :: x40 :: x41 :: x42 :: x43 :: x44 :: x45 :: x46 :: x47 :: x48 :: x49 :: x50 :: x51 :: x52 :: x53 :: x54 :: x55 :: x56 :: x57 :: x58 :: x59 :: x60 :: x61 :: x62 :: x63 :: x64 :: x65 :: x66 :: x67 :: x68 :: x69 :: x70 :: x71 :: x72 :: x73 :: x74 :: x75 :: x76 :: x77 :: x78 :: x79 :: x80 :: x81 :: x82 :: x83 :: x84 :: x85 :: x86 :: x87 :: x88 :: x89 :: x90 :: x91 :: x92 :: x93 :: x94 :: x95 :: x96 :: x97 :: x98 :: x99 :: x100 :: x101 :: x102 :: x103 :: y104 :: y105 :: y106 :: y107 :: y108 :: x109 :: x110 :: x111 :: x112 :: x113 :: x114 :: x115 :: x116 :: x117 :: x118 :: x119 :: x120 :: x121 :: x122 :: x123 :: x124 :: x125 :: x126 :: x127 :: x128 :: x129 :: x130 :: x131 :: x132 :: x133 :: x134 :: x135 :: x136 :: x137 :: x138 :: x139 :: x140 :: x141 :: x142 :: x143 :: x144 :: x145 :: x146 :: x147 :: x148 :: x149 :: x150 :: x151 :: x152 :: x153 :: x154 :: x155 :: x156 :: x157 :: x158 :: x159 :: x160 :: x161 :: x162 :: x163 :: x164 :: x165 :: x166 :: x167 :: x168 :: x169 :: x170 :: x171 :: x172 :: x173 :: x174 :: x175 :: x176 :: x177 :: x178 :: x179 :: []), []⟩ w') :
    Code.wp Try.prog (((Try.f3.body.bind (subRegion 12)).getD .skip)) Q ⟨List.toArray (x0 :: x1 :: x2 :: x3 :: x4 :: x5 :: x6 :: x7 :: x8 :: x9 :: x10 :: x11 :: x12 :: x13 :: x14 :: x15 :: x16 :: x17 :: x18 :: x19 :: x20 :: x21 :: x22 :: .pointer (some ⟨p, 0, none⟩) :: .slice (some ⟨ga, 0, none⟩) len cap :: .int .i64 k :: x26 :: x27 :: x28 :: x29 :: x30 :: x31 :: x32 :: x33 :: x34 :: x35 :: x36 :: x37 :: x38 :: x39 :: x40 :: x41 :: x42 :: x43 :: x44 :: x45 :: x46 :: x47 :: x48 :: x49 :: x50 :: x51 :: x52 :: x53 :: x54 :: x55 :: x56 :: x57 :: x58 :: x59 :: x60 :: x61 :: x62 :: x63 :: x64 :: x65 :: x66 :: x67 :: x68 :: x69 :: x70 :: x71 :: x72 :: x73 :: x74 :: x75 :: x76 :: x77 :: x78 :: x79 :: x80 :: x81 :: x82 :: x83 :: x84 :: x85 :: x86 :: x87 :: x88 :: x89 :: x90 :: x91 :: x92 :: x93 :: x94 :: x95 :: x96 :: x97 :: x98 :: x99 :: x100 :: x101 :: x102 :: x103 :: x104 :: x105 :: x106 :: x107 :: x108 :: x109 :: x110 :: x111 :: x112 :: x113 :: x114 :: x115 :: x116 :: x117 :: x118 :: x119 :: x120 :: x121 :: x122 :: x123 :: x124 :: x125 :: x126 :: x127 :: x128 :: x129 :: x130 :: x131 :: x132 :: x133 :: x134 :: x135 :: x136 :: x137 :: x138 :: x139 :: x140 :: x141 :: x142 :: x143 :: x144 :: x145 :: x146 :: x147 :: x148 :: x149 :: x150 :: x151 :: x152 :: x153 :: x154 :: x155 :: x156 :: x157 :: x158 :: x159 :: x160 :: x161 :: x162 :: x163 :: x164 :: x165 :: x166 :: x167 :: x168 :: x169 :: x170 :: x171 :: x172 :: x173 :: x174 :: x175 :: x176 :: x177 :: x178 :: x179 :: []), []⟩ w := by
  have HK := Lib.hid hQ; have HKP := Lib.hid hQp
  clear hQ hQp
  conv => arg 2; whnf
  have E1 : (k : Int) ≤ (len : Int) := by omega
  have E2 : (k : Int) ≤ (cap : Int) := by omega
  have hq := hk
  by_cases hz : cap = k
  · subst hz
    obtain rfl : len = cap := by omega
    go_wp2_with fail
    have hd : bs.drop len = [] := List.drop_of_length_le (by rw [HI.out.1]; exact Nat.le_refl _)
    refine Calls.mono (Feed_any w p M J s a0 a1 b0 b1 k0 k1 d0 d1 HS.out 0 _ 0 _ [] (by omega) (IntsK.nil _ _ _)) ?_
    rintro e w1 hF
    obtain ⟨rfl, hR⟩ := hF
    go_wp2_with fail
    rw [← hd] at hR ⊢
    exact HK.out _ _ _ _ _ w1 ⟨rfl, hR⟩
  · have E3 : cap ≠ k := hz
    have E4 : ¬ (cap - k = 0) := by omega
    go_wp2_with fail
    refine Calls.mono (Feed_any w p M J s a0 a1 b0 b1 k0 k1 d0 d1 HS.out 0 _ (len - k) _ (bs.drop k) (by omega) (by have h := HI.out.suf k hk; rw [Nat.zero_add] at h; exact h)) ?_
    rintro e w1 hF
    obtain ⟨rfl, hR⟩ := hF
    go_wp2_with fail
    exact HK.out _ _ _ _ _ w1 ⟨rfl, hR⟩
set_option maxRecDepth 100000 in
set_option maxHeartbeats 2000000 in
theorem pieces_r13 {x0 x1 x2 x3 x4 x5 x6 x7 x8 x9 x10 x11 x12 x13 x14 x15 x16 x17 x18 x19 x20 x21 x22 x23 x24 x25 x29 x30 x31 x32 x33 x34 x35 x36 x37 x38 x39 x40 x41 x42 x43 x44 x45 x46 x47 x48 x49 x50 x51 x52 x53 x54 x55 x56 x57 x58 x59 x60 x61 x62 x63 x64 x65 x66 x67 x68 x69 x70 x71 x72 x73 x74 x75 x76 x77 x78 x79 x80 x81 x82 x83 x84 x85 x86 x87 x88 x89 x90 x91 x92 x93 x94 x95 x96 x97 x98 x99 x100 x101 x102 x103 x104 x105 x106 x107 x108 x109 x110 x111 x112 x113 x114 x115 x116 x117 x118 x119 x120 x121 x122 x123 x124 x125 x126 x127 x128 x129 x130 x131 x132 x133 x134 x135 x136 x137 x138 x139 x140 x141 x142 x143 x144 x145 x146 x147 x148 x149 x150 x151 x152 x153 x154 x155 x156 x157 x158 x159 x160 x161 x162 x163 x164 x165 x166 x167 x168 x169 x170 x171 x172 x173 x174 x175 x176 x177 x178 x179 : Value} {cw c1 : Int} (w : World) {Q : Exit → Act → World → Prop}
    (hc : c1 = 0 ∨ c1 = cw)
    (hQp : ∀ c a d v w, Q (.panic c) (a.put d v) w → Q (.panic c) a w)
    (hQ : ∀ (y109 y110 y111 y112 y113 y114 y115 y116 y117 y118 y119 : Value) (w' : World), w' = w → Q .normal ⟨List.toArray (x0 :: x1 :: x2 :: x3 :: x4 :: x5 :: x6 :: x7 :: x8 :: x9 :: x10 :: x11 :: x12 :: x13 :: x14 :: x15 :: x16 :: x17 :: x18 :: x19 :: x20 :: x21 :: x22 :: x23 :: x24 :: x25 :: .int .i64 cw :: .int .i64 c1 :: .int .i64 cw :: x29 :: x30 :: x31 :: x32 :: x33 :: x34 :: x35 :: x36 :: x37 :: x38 :: x39 :: x40 :: x41 :: x42 :: x43 :: x44 :: x45 :: x46 :: x47 :: x48 :: x49 :: x50 :: x51 :: x52 :: x53 :: x54 :: x55 :: x56 :: x57 :: x58 :: x59 :: x60 :: x61 :: x62 :: x63 :: x64 :: x65 :: x66 :: x67 :: x68 :: x69 :: x70 :: x71 :: x72 :: x73 :: x74 :: x75 :: x76 :: x77 :: x78 :: x79 :: x80 :: x81 :: x82 :: x83 :: x84 :: x85 :: x86 :: x87 :: x88 :: x89 :: x90 :: x91 :: x92 :: x93 :: x94 :: x95 :: x96 :: x97 :: x98 :: x99 :: x100 :: x101 :: x102 :: x103 :: x104 :: x105 :: x106 :: x107 :: x108 :: y109 :: y110 :: y111 :: y112 :: y113 :: y114 :: y115 :: y116 :: y117 :: y118 :: y119 :: .bool false :: x121 :: x122 :: x123 :: x124 :: x125 :: x126 :: x127 :: x128 :: x129 :: x130 :: x131 :: x132 :: x133 :: x134 :: x135 :: x136 :: x137 :: x138 :: x139 :: x140 :: x141 :: x142 :: x143 :: x144 :: x145 :: x146 :: x147 :: x148 :: x149 :: x150 :: x151 :: x152 :: x153 :: x154 :: x155 :: x156 :: x157 :: x158 :: x159 :: x160 :: x161 :: x162 :: x163 :: x164 :: x165 :: x166 :: x167 :: x168 :: x169 :: x170 :: x171 :: x172 :: x173 :: x174 :: x175 :: x176 :: x177 :: x178 :: x179 :: []), []⟩ w') :
    Code.wp Try.prog (((Try.f3.body.bind (subRegion 13)).getD .skip)) Q ⟨List.toArray (x0 :: x1 :: x2 :: x3 :: x4 :: x5 :: x6 :: x7 :: x8 :: x9 :: x10 :: x11 :: x12 :: x13 :: x14 :: x15 :: x16 :: x17 :: x18 :: x19 :: x20 :: x21 :: x22 :: x23 :: x24 :: x25 :: .int .i64 cw :: .int .i64 c1 :: .int .i64 cw :: x29 :: x30 :: x31 :: x32 :: x33 :: x34 :: x35 :: x36 :: x37 :: x38 :: x39 :: x40 :: x41 :: x42 :: x43 :: x44 :: x45 :: x46 :: x47 :: x48 :: x49 :: x50 :: x51 :: x52 :: x53 :: x54 :: x55 :: x56 :: x57 :: x58 :: x59 :: x60 :: x61 :: x62 :: x63 :: x64 :: x65 :: x66 :: x67 :: x68 :: x69 :: x70 :: x71 :: x72 :: x73 :: x74 :: x75 :: x76 :: x77 :: x78 :: x79 :: x80 :: x81 :: x82 :: x83 :: x84 :: x85 :: x86 :: x87 :: x88 :: x89 :: x90 :: x91 :: x92 :: x93 :: x94 :: x95 :: x96 :: x97 :: x98 :: x99 :: x100 :: x101 :: x102 :: x103 :: x104 :: x105 :: x106 :: x107 :: x108 :: x109 :: x110 :: x111 :: x112 :: x113 :: x114 :: x115 :: x116 :: x117 :: x118 :: x119 :: x120 :: x121 :: x122 :: x123 :: x124 :: x125 :: x126 :: x127 :: x128 :: x129 :: x130 :: x131 :: x132 :: x133 :: x134 :: x135 :: x136 :: x137 :: x138 :: x139 :: x140 :: x141 :: x142 :: x143 :: x144 :: x145 :: x146 :: x147 :: x148 :: x149 :: x150 :: x151 :: x152 :: x153 :: x154 :: x155 :: x156 :: x157 :: x158 :: x159 :: x160 :: x161 :: x162 :: x163 :: x164 :: x165 :: x166 :: x167 :: x168 :: x169 :: x170 :: x171 :: x172 :: x173 :: x174 :: x175 :: x176 :: x177 :: x178 :: x179 :: []), []⟩ w := by
  have HK := Lib.hid hQ; have HKP := Lib.hid hQp
  clear hQ hQp
  conv => arg 2; whnf
  rcases hc with rfl | rfl
  · go_wp2_with fail
    exact HK.out _ _ _ _ _ _ _ _ _ _ _ _ rfl
  · by_cases hz : c1 = 0
    · subst hz
      go_wp2_with fail
      exact HK.out _ _ _ _ _ _ _ _ _ _ _ _ rfl
    · go_wp2_with fail
      exact HK.out _ _ _ _ _ _ _ _ _ _ _ _ rfl
set_option maxRecDepth 100000 in
set_option maxHeartbeats 16000000 in
theorem pieces_r19 {x0 x1 x2 x3 x4 x5 x6 x7 x8 x9 x10 x11 x12 x13 x14 x15 x16 x17 x19 x20 x21 x24 x25 x26 x27 x28 x37 x38 x39 x40 x41 x42 x43 x44 x45 x46 x47 x48 x49 x50 x51 x52 x53 x54 x55 x56 x57 x58 x59 x60 x61 x62 x63 x64 x65 x66 x67 x68 x69 x70 x71 x72 x73 x74 x75 x76 x77 x78 x79 x80 x81 x82 x83 x84 x85 x86 x87 x88 x89 x90 x91 x92 x93 x94 x95 x96 x97 x98 x99 x100 x101 x102 x103 x104 x105 x106 x107 x108 x109 x110 x111 x112 x113 x114 x115 x116 x117 x118 x119 x120 x121 x122 x123 x124 x125 x126 x127 x128 x129 x130 x131 x132 x133 x134 x135 x136 x137 x138 x139 x140 x141 x142 x143 x144 x145 x146 x147 x148 x149 x150 x151 x152 x153 x154 x155 x156 x157 x158 x159 x160 x161 x162 x163 x164 x165 x166 x167 x168 x169 x170 x171 x172 x173 x174 x175 x176 x177 x178 x179 : Value} {x18 : Value} {p q gf gh : Nat} {sx i d sm m z0 z1 z2 z3 z4 z5 z6 z7 : Int} {ok kn : Bool} {M J N K : List Nat} {s t : Sd} {a0 a1 b0 b1 u0 u1 v0 v1 : Option Addr} {k0 k1 d0 d1 k2 k3 d2 d3 : Nat} (w : World) {Q : Exit → Act → World → Prop}
    (hz : ∀ x ∈ [z0, z1, z2, z3, z4, z5, z6, z7], (Lit.int .u8 x).wf = true) (HGF : Hid (w.heap[gf]? = some (.cells ([.int .u64 i, .int .u64 d, .int .u64 sm, .int .u64 m, .int .u8 z0, .int .u8 z1, .int .u8 z2, .int .u8 z3, .int .u8 z4, .int .u8 z5, .int .u8 z6, .int .u8 z7] : List Value).toArray 26 (0, 0)))) (HGH : Hid (w.heap[gh]? = some (.cells ([.int .u64 i, .int .u64 d, .int .u64 sm, .int .u64 m, .int .u8 z0, .int .u8 z1, .int .u8 z2, .int .u8 z3, .int .u8 z4, .int .u8 z5, .int .u8 z6, .int .u8 z7] : List Value).toArray 26 (0, 0)))) (HS : Hid (SdAt w p M J s a0 a1 b0 b1 k0 k1 d0 d1)) (HT : Hid (SdAt w q N K t u0 u1 v0 v1 k2 k3 d2 d3)) (HOO : Hid (∀ b, outM s b = outM t b))
    (hQp : ∀ c a d v w, Q (.panic c) (a.put d v) w → Q (.panic c) a w)
    (hQ : ∀ (y141 y142 y143 y144 y145 y146 y147 y148 y149 y150 y151 y152 y153 y154 y155 y156 y157 y158 y159 y160 y161 y162 y163 y164 y165 y166 y167 y168 y169 y170 y171 y172 y173 y174 y175 y176 y177 y178 y179 : Value) (w' : World), Below w.heap.size w w' → Q .normal ⟨List.toArray (x0 :: x1 :: x2 :: x3 :: x4 :: x5 :: x6 :: x7 :: x8 :: x9 :: x10 :: x11 :: x12 :: x13 :: x14 :: x15 :: x16 :: x17 :: .bool true :: x19 :: x20 :: x21 :: .pointer (some ⟨p, 0, none⟩) :: .pointer (some ⟨q, 0, none⟩) :: x24 :: x25 :: x26 :: x27 :: x28 :: .int .u64 sx :: .bool ok :: .int .u64 sx :: .bool ok :: .pointer (some ⟨gf, 0, none⟩) :: .bool kn :: .pointer (some ⟨gh, 0, none⟩) :: .bool kn :: x37 :: x38 :: x39 :: x40 :: x41 :: x42 :: x43 :: x44 :: x45 :: x46 :: x47 :: x48 :: x49 :: x50 :: x51 :: x52 :: x53 :: x54 :: x55 :: x56 :: x57 :: x58 :: x59 :: x60 :: x61 :: x62 :: x63 :: x64 :: x65 :: x66 :: x67 :: x68 :: x69 :: x70 :: x71 :: x72 :: x73 :: x74 :: x75 :: x76 :: x77 :: x78 :: x79 :: x80 :: x81 :: x82 :: x83 :: x84 :: x85 :: x86 :: x87 :: x88 :: x89 :: x90 :: x91 :: x92 :: x93 :: x94 :: x95 :: x96 :: x97 :: x98 :: x99 :: x100 :: x101 :: x102 :: x103 :: x104 :: x105 :: x106 :: x107 :: x108 :: x109 :: x110 :: x111 :: x112 :: x113 :: x114 :: x115 :: x116 :: x117 :: x118 :: x119 :: x120 :: x121 :: x122 :: x123 :: x124 :: x125 :: x126 :: x127 :: x128 :: x129 :: x130 :: x131 :: x132 :: x133 :: x134 :: x135 :: x136 :: x137 :: x138 :: x139 :: x140 :: y141 :: y142 :: y143 :: y144 :: y145 :: y146 :: y147 :: y148 :: y149 :: y150 :: y151 :: y152 :: y153 :: y154 :: y155 :: y156 :: y157 :: y158 :: y159 :: y160 :: y161 :: y162 :: y163 :: y164 :: y165 :: y166 :: y167 :: y168 :: y169 :: y170 :: y171 :: y172 :: y173 :: y174 :: y175 :: y176 :: y177 :: y178 :: y179 :: []), []⟩ w') :
    Code.wp Try.prog (((Try.f3.body.bind (subRegion 19)).getD .skip)) Q ⟨List.toArray (x0 :: x1 :: x2 :: x3 :: x4 :: x5 :: x6 :: x7 :: x8 :: x9 :: x10 :: x11 :: x12 :: x13 :: x14 :: x15 :: x16 :: x17 :: x18 :: x19 :: x20 :: x21 :: .pointer (some ⟨p, 0, none⟩) :: .pointer (some ⟨q, 0, none⟩) :: x24 :: x25 :: x26 :: x27 :: x28 :: .int .u64 sx :: .bool ok :: .int .u64 sx :: .bool ok :: .pointer (some ⟨gf, 0, none⟩) :: .bool kn :: .pointer (some ⟨gh, 0, none⟩) :: .bool kn :: x37 :: x38 :: x39 :: x40 :: x41 :: x42 :: x43 :: x44 :: x45 :: x46 :: x47 :: x48 :: x49 :: x50 :: x51 :: x52 :: x53 :: x54 :: x55 :: x56 :: x57 :: x58 :: x59 :: x60 :: x61 :: x62 :: x63 :: x64 :: x65 :: x66 :: x67 :: x68 :: x69 :: x70 :: x71 :: x72 :: x73 :: x74 :: x75 :: x76 :: x77 :: x78 :: x79 :: x80 :: x81 :: x82 :: x83 :: x84 :: x85 :: x86 :: x87 :: x88 :: x89 :: x90 :: x91 :: x92 :: x93 :: x94 :: x95 :: x96 :: x97 :: x98 :: x99 :: x100 :: x101 :: x102 :: x103 :: x104 :: x105 :: x106 :: x107 :: x108 :: x109 :: x110 :: x111 :: x112 :: x113 :: x114 :: x115 :: x116 :: x117 :: x118 :: x119 :: x120 :: x121 :: x122 :: x123 :: x124 :: x125 :: x126 :: x127 :: x128 :: x129 :: x130 :: x131 :: x132 :: x133 :: x134 :: x135 :: x136 :: x137 :: x138 :: x139 :: x140 :: x141 :: x142 :: x143 :: x144 :: x145 :: x146 :: x147 :: x148 :: x149 :: x150 :: x151 :: x152 :: x153 :: x154 :: x155 :: x156 :: x157 :: x158 :: x159 :: x160 :: x161 :: x162 :: x163 :: x164 :: x165 :: x166 :: x167 :: x168 :: x169 :: x170 :: x171 :: x172 :: x173 :: x174 :: x175 :: x176 :: x177 :: x178 :: x179 :: []), []⟩ w := by
  have HK := Lib.hid hQ; have HKP := Lib.hid hQp
  clear hQ hQp
  conv => arg 2; whnf
  have hq : ∀ w, (Op.equalIn 9999 24 (.agg #[.int .u8 z0, .int .u8 z1, .int .u8 z2, .int .u8 z3, .int .u8 z4, .int .u8 z5, .int .u8 z6, .int .u8 z7]) (.agg #[.int .u8 z0, .int .u8 z1, .int .u8 z2, .int .u8 z3, .int .u8 z4, .int .u8 z5, .int .u8 z6, .int .u8 z7])).run Try.prog w = .ok true w := fun w => eqinH w 9997 24 8 Try.underlying24 [z0, z1, z2, z3, z4, z5, z6, z7] rfl hz
  have HDL : Hid (([.int .u64 i, .int .u64 d, .int .u64 sm, .int .u64 m, .int .u8 z0, .int .u8 z1, .int .u8 z2, .int .u8 z3, .int .u8 z4, .int .u8 z5, .int .u8 z6, .int .u8 z7] : List Value).length = 12) := Lib.hid rfl
  clear hz
  refine wp_plan (.t 0 (.t 1 (.t 2 (.t 3 (.t 4 (.t 5 (.t 6 (.t 7 (.t 8 (.t 9 (.t 10 (.t 11 (.t 12 (.t 13 (.t 14 (.t 15 (.t 16 (.t 17 (.t 18 (.t 19 (.t 22 (.u 20 (.t 21 (.u 23 (.t 24 (.t 25 (.t 26 (.t 27 (.t 28 (.t 31 (.u 29 (.t 30 (.u 32 (.t 33 (.t 34 (.t 35 (.t 36 (.u 37 (.t 38 (.t 39 .done)))))))))))))))))))))))))))))))))))))))) (fun y => Below w.heap.size w y) (by kernel_rfl) (by kernel_rfl) (by kernel_rfl) (fun c a d v w h => by first | (cases d <;> exact h) | exact HKP.out c a d v w h) (Below.refl _ _).drew ?_
  have hS : Below w.heap.size w w.drew := (Below.refl _ _).drew
  generalize w.drew = W0 at hS ⊢
  haveI hne2 : Nonempty (In (fun y => Below w.heap.size w y)) := ⟨⟨w, Below.refl _ _⟩⟩
  repeat (first | (refine plan_t_load (by rfl) (by kernel_rfl) 26 _ rfl gf 0 rfl ([.int .u64 i, .int .u64 d, .int .u64 sm, .int .u64 m, .int .u8 z0, .int .u8 z1, .int .u8 z2, .int .u8 z3, .int .u8 z4, .int .u8 z5, .int .u8 z6, .int .u8 z7] : List Value) _ (fun y hy => rngL (bl_row hy (lt_of_block HGF.out) HGF.out)) Try.underlying26 rfl (by first | rfl | rw [HDL.out]; rfl) ?_; simp only [Act.put, List.setIfInBounds_toArray, List.set_cons_succ, List.set_cons_zero]) | (refine plan_t_load (by rfl) (by kernel_rfl) 26 _ rfl gh 0 rfl ([.int .u64 i, .int .u64 d, .int .u64 sm, .int .u64 m, .int .u8 z0, .int .u8 z1, .int .u8 z2, .int .u8 z3, .int .u8 z4, .int .u8 z5, .int .u8 z6, .int .u8 z7] : List Value) _ (fun y hy => rngL (bl_row hy (lt_of_block HGH.out) HGH.out)) Try.underlying26 rfl (by first | rfl | rw [HDL.out]; rfl) ?_; simp only [Act.put, List.setIfInBounds_toArray, List.set_cons_succ, List.set_cons_zero]) | (refine plan_t (by rfl) ?_; (first | go_big_quiet_skip | (go_big_quiet_want; go_big_quiet_op; go_big_quiet_on)); refine wpQuiet_nil ?_))
  replace HS := Lib.hid (HS.out.below hS); replace HT := Lib.hid (HT.out.below hS)
  refine plan_un (by rfl) (by kernel_rfl) ?_
  intro K hK
  go_wp2_with fail
  refine Calls.mono (Out_any W0 _ _ _ _ _ _ _ _ _ _ _ _ HS.out false) ?_
  rintro e Wa ⟨v, rfl, hb, ho, hwf, _⟩
  rw [HOO.out false] at ho hwf
  obtain ⟨oaa, oca, rfl, _, hoi, _⟩ := ints_of_own ho hwf
  go_wp2_with fail
  refine ⟨fun y => Below Wa.heap.size Wa y, fun y hy => bl_next (bl_next hS hS.size hb) (bl_next hS hS.size hb).size hy, Below.refl _ _, ?_⟩
  replace hS := bl_next hS hS.size hb
  replace HS := Lib.hid (HS.out.below hb); replace HT := Lib.hid (HT.out.below hb)
  have HOI := Lib.hid hoi
  clear hb hne2 ho hwf
  haveI hne2 : Nonempty (In (fun y => Below Wa.heap.size Wa y)) := ⟨⟨Wa, Below.refl _ _⟩⟩
  have qa : ∀ tt : In (fun y => Below Wa.heap.size Wa y), (convert 31 9 (.slice oaa (outM t false).length oca)).run Try.prog  tt.w = .ok (.string (strOfNums (outM t false)))  tt.w := fun tt => conv_ints _ 5 _ _ Try.underlying31 Try.underlying5 Try.underlying9 (hoi.below tt.h)
  repeat (first | (refine plan_t_load (by rfl) (by kernel_rfl) 26 _ rfl gf 0 rfl ([.int .u64 i, .int .u64 d, .int .u64 sm, .int .u64 m, .int .u8 z0, .int .u8 z1, .int .u8 z2, .int .u8 z3, .int .u8 z4, .int .u8 z5, .int .u8 z6, .int .u8 z7] : List Value) _ (fun y hy => rngL (bl_row hy (lt_of_block HGF.out) HGF.out)) Try.underlying26 rfl (by first | rfl | rw [HDL.out]; rfl) ?_; simp only [Act.put, List.setIfInBounds_toArray, List.set_cons_succ, List.set_cons_zero]) | (refine plan_t_load (by rfl) (by kernel_rfl) 26 _ rfl gh 0 rfl ([.int .u64 i, .int .u64 d, .int .u64 sm, .int .u64 m, .int .u8 z0, .int .u8 z1, .int .u8 z2, .int .u8 z3, .int .u8 z4, .int .u8 z5, .int .u8 z6, .int .u8 z7] : List Value) _ (fun y hy => rngL (bl_row hy (lt_of_block HGH.out) HGH.out)) Try.underlying26 rfl (by first | rfl | rw [HDL.out]; rfl) ?_; simp only [Act.put, List.setIfInBounds_toArray, List.set_cons_succ, List.set_cons_zero]) | (refine plan_t (by rfl) ?_; (first | go_big_quiet_skip | (go_big_quiet_want; go_big_quiet_op; go_big_quiet_on)); refine wpQuiet_nil ?_))
  clear qa
  refine plan_un (by rfl) (by kernel_rfl) ?_
  intro K hK
  go_wp2_with fail
  refine Calls.mono (Out_any Wa _ _ _ _ _ _ _ _ _ _ _ _ HT.out false) ?_
  rintro e Wb ⟨v, rfl, hb, ho, hwf, _⟩
  obtain ⟨oab, ocb, rfl, _, hoi, _⟩ := ints_of_own ho hwf
  go_wp2_with fail
  refine ⟨fun y => Below Wb.heap.size Wb y, fun y hy => bl_next hb hb.size hy, Below.refl _ _, ?_⟩
  replace hS := bl_next hS hS.size hb
  replace HS := Lib.hid (HS.out.below hb); replace HT := Lib.hid (HT.out.below hb)
  clear hb hne2 ho hwf
  haveI hne2 : Nonempty (In (fun y => Below Wb.heap.size Wb y)) := ⟨⟨Wb, Below.refl _ _⟩⟩
  have qb : ∀ tt : In (fun y => Below Wb.heap.size Wb y), (convert 31 9 (.slice oab (outM t false).length ocb)).run Try.prog  tt.w = .ok (.string (strOfNums (outM t false)))  tt.w := fun tt => conv_ints _ 5 _ _ Try.underlying31 Try.underlying5 Try.underlying9 (hoi.below tt.h)
  repeat (first | (refine plan_t_load (by rfl) (by kernel_rfl) 26 _ rfl gf 0 rfl ([.int .u64 i, .int .u64 d, .int .u64 sm, .int .u64 m, .int .u8 z0, .int .u8 z1, .int .u8 z2, .int .u8 z3, .int .u8 z4, .int .u8 z5, .int .u8 z6, .int .u8 z7] : List Value) _ (fun y hy => rngL (bl_row hy (lt_of_block HGF.out) HGF.out)) Try.underlying26 rfl (by first | rfl | rw [HDL.out]; rfl) ?_; simp only [Act.put, List.setIfInBounds_toArray, List.set_cons_succ, List.set_cons_zero]) | (refine plan_t_load (by rfl) (by kernel_rfl) 26 _ rfl gh 0 rfl ([.int .u64 i, .int .u64 d, .int .u64 sm, .int .u64 m, .int .u8 z0, .int .u8 z1, .int .u8 z2, .int .u8 z3, .int .u8 z4, .int .u8 z5, .int .u8 z6, .int .u8 z7] : List Value) _ (fun y hy => rngL (bl_row hy (lt_of_block HGH.out) HGH.out)) Try.underlying26 rfl (by first | rfl | rw [HDL.out]; rfl) ?_; simp only [Act.put, List.setIfInBounds_toArray, List.set_cons_succ, List.set_cons_zero]) | (refine plan_t (by rfl) ?_; (first | go_big_quiet_skip | (go_big_quiet_want; go_big_quiet_op; go_big_quiet_on)); refine wpQuiet_nil ?_))
  clear qb
  refine plan_un (by rfl) (by kernel_rfl) ?_
  intro K hK
  go_wp2_with fail
  refine Calls.mono (Out_any Wb _ _ _ _ _ _ _ _ _ _ _ _ HS.out true) ?_
  rintro e Wc ⟨v, rfl, hb, ho, hwf, _⟩
  rw [HOO.out true] at ho hwf
  obtain ⟨oac, occ, rfl, _, hoi, _⟩ := ints_of_own ho hwf
  go_wp2_with fail
  refine ⟨fun y => Below Wc.heap.size Wc y, fun y hy => bl_next hb hb.size hy, Below.refl _ _, ?_⟩
  replace hS := bl_next hS hS.size hb
  replace HS := Lib.hid (HS.out.below hb); replace HT := Lib.hid (HT.out.below hb)
  clear hb hne2 ho hwf
  haveI hne2 : Nonempty (In (fun y => Below Wc.heap.size Wc y)) := ⟨⟨Wc, Below.refl _ _⟩⟩
  have qc : ∀ tt : In (fun y => Below Wc.heap.size Wc y), (convert 31 9 (.slice oac (outM t true).length occ)).run Try.prog  tt.w = .ok (.string (strOfNums (outM t true)))  tt.w := fun tt => conv_ints _ 5 _ _ Try.underlying31 Try.underlying5 Try.underlying9 (hoi.below tt.h)
  repeat (first | (refine plan_t_load (by rfl) (by kernel_rfl) 26 _ rfl gf 0 rfl ([.int .u64 i, .int .u64 d, .int .u64 sm, .int .u64 m, .int .u8 z0, .int .u8 z1, .int .u8 z2, .int .u8 z3, .int .u8 z4, .int .u8 z5, .int .u8 z6, .int .u8 z7] : List Value) _ (fun y hy => rngL (bl_row hy (lt_of_block HGF.out) HGF.out)) Try.underlying26 rfl (by first | rfl | rw [HDL.out]; rfl) ?_; simp only [Act.put, List.setIfInBounds_toArray, List.set_cons_succ, List.set_cons_zero]) | (refine plan_t_load (by rfl) (by kernel_rfl) 26 _ rfl gh 0 rfl ([.int .u64 i, .int .u64 d, .int .u64 sm, .int .u64 m, .int .u8 z0, .int .u8 z1, .int .u8 z2, .int .u8 z3, .int .u8 z4, .int .u8 z5, .int .u8 z6, .int .u8 z7] : List Value) _ (fun y hy => rngL (bl_row hy (lt_of_block HGH.out) HGH.out)) Try.underlying26 rfl (by first | rfl | rw [HDL.out]; rfl) ?_; simp only [Act.put, List.setIfInBounds_toArray, List.set_cons_succ, List.set_cons_zero]) | (refine plan_t (by rfl) ?_; (first | go_big_quiet_skip | (go_big_quiet_want; go_big_quiet_op; go_big_quiet_on)); refine wpQuiet_nil ?_))
  clear qc
  refine plan_un (by rfl) (by kernel_rfl) ?_
  intro K hK
  go_wp2_with fail
  refine Calls.mono (Out_any Wc _ _ _ _ _ _ _ _ _ _ _ _ HT.out true) ?_
  rintro e Wd ⟨v, rfl, hb, ho, hwf, _⟩
  obtain ⟨oad, ocd, rfl, _, hoi, _⟩ := ints_of_own ho hwf
  go_wp2_with fail
  refine ⟨fun y => Below Wd.heap.size Wd y, fun y hy => bl_next hb hb.size hy, Below.refl _ _, ?_⟩
  replace hS := bl_next hS hS.size hb
  replace HS := Lib.hid (HS.out.below hb); replace HT := Lib.hid (HT.out.below hb)
  clear hb hne2 ho hwf
  haveI hne2 : Nonempty (In (fun y => Below Wd.heap.size Wd y)) := ⟨⟨Wd, Below.refl _ _⟩⟩
  have qd : ∀ tt : In (fun y => Below Wd.heap.size Wd y), (convert 31 9 (.slice oad (outM t true).length ocd)).run Try.prog  tt.w = .ok (.string (strOfNums (outM t true)))  tt.w := fun tt => conv_ints _ 5 _ _ Try.underlying31 Try.underlying5 Try.underlying9 (hoi.below tt.h)
  repeat (first | (refine plan_t_load (by rfl) (by kernel_rfl) 26 _ rfl gf 0 rfl ([.int .u64 i, .int .u64 d, .int .u64 sm, .int .u64 m, .int .u8 z0, .int .u8 z1, .int .u8 z2, .int .u8 z3, .int .u8 z4, .int .u8 z5, .int .u8 z6, .int .u8 z7] : List Value) _ (fun y hy => rngL (bl_row hy (lt_of_block HGF.out) HGF.out)) Try.underlying26 rfl (by first | rfl | rw [HDL.out]; rfl) ?_; simp only [Act.put, List.setIfInBounds_toArray, List.set_cons_succ, List.set_cons_zero]) | (refine plan_t_load (by rfl) (by kernel_rfl) 26 _ rfl gh 0 rfl ([.int .u64 i, .int .u64 d, .int .u64 sm, .int .u64 m, .int .u8 z0, .int .u8 z1, .int .u8 z2, .int .u8 z3, .int .u8 z4, .int .u8 z5, .int .u8 z6, .int .u8 z7] : List Value) _ (fun y hy => rngL (bl_row hy (lt_of_block HGH.out) HGH.out)) Try.underlying26 rfl (by first | rfl | rw [HDL.out]; rfl) ?_; simp only [Act.put, List.setIfInBounds_toArray, List.set_cons_succ, List.set_cons_zero]) | (refine plan_t (by rfl) ?_; (first | go_big_quiet_skip | (go_big_quiet_want; go_big_quiet_op; go_big_quiet_on)); refine wpQuiet_nil ?_))
  clear qd
  refine plan_us (by rfl) (by kernel_rfl) ?_
  intro K hK
  go_wp2_with fail
  refine Calls.mono (known19_any _) ?_
  rintro e We ⟨rfl, hb⟩
  have hS2 : Below Wd.heap.size Wd We := hb
  clear hb
  go_wp2_with fail
  refine ⟨hS2, ?_⟩
  replace hS := bl_next hS hS.size hS2
  repeat (first | (refine plan_t_load (by rfl) (by kernel_rfl) 26 _ rfl gf 0 rfl ([.int .u64 i, .int .u64 d, .int .u64 sm, .int .u64 m, .int .u8 z0, .int .u8 z1, .int .u8 z2, .int .u8 z3, .int .u8 z4, .int .u8 z5, .int .u8 z6, .int .u8 z7] : List Value) _ (fun y hy => rngL (bl_row hy (lt_of_block HGF.out) HGF.out)) Try.underlying26 rfl (by first | rfl | rw [HDL.out]; rfl) ?_; simp only [Act.put, List.setIfInBounds_toArray, List.set_cons_succ, List.set_cons_zero]) | (refine plan_t_load (by rfl) (by kernel_rfl) 26 _ rfl gh 0 rfl ([.int .u64 i, .int .u64 d, .int .u64 sm, .int .u64 m, .int .u8 z0, .int .u8 z1, .int .u8 z2, .int .u8 z3, .int .u8 z4, .int .u8 z5, .int .u8 z6, .int .u8 z7] : List Value) _ (fun y hy => rngL (bl_row hy (lt_of_block HGH.out) HGH.out)) Try.underlying26 rfl (by first | rfl | rw [HDL.out]; rfl) ?_; simp only [Act.put, List.setIfInBounds_toArray, List.set_cons_succ, List.set_cons_zero]) | (refine plan_t (by rfl) ?_; (first | go_big_quiet_skip | (go_big_quiet_want; go_big_quiet_op; go_big_quiet_on)); refine wpQuiet_nil ?_))
  clear hne2
  skip
  exact HK.out _ _ _ _ _ _ _ _ _ _ _ _ _ _ _ _ _ _ _ _ _ _ _ _ _ _ _ _ _ _ _ _ _ _ _ _ _ _ _ _ hS
end Go.Proofs.Ytlpajohhnngbmaa
