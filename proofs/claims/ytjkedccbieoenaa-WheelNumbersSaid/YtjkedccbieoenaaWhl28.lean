/- wheel: play: the list is gone through. -/
import Derived.Test.YtjkedccbieoenaaWhl27
namespace Go.Proofs.Ytjkedccbieoenaa
open Go.RowKit
set_option linter.unusedVariables false
set_option linter.unusedSimpArgs false

set_option maxRecDepth 100000 in
set_option maxHeartbeats 4000000 in
theorem play_see {x0 x1 x2 x3 x4 x5 x6 x8 x10 x11 x12 x13 x14 x15 x16 x17 x18 x19 x21 x23 x24 x25 x26 x27 x28 x29 x30 x31 x32 x33 x34 x35 x36 x37 x38 x39 x40 x41 x42 x43 x44 x45 x46 x47 x48 x49 x50 x51 x52 x53 x54 x55 x56 x57 x58 x59 x60 x61 x62 x63 x64 x65 x66 x67 x68 x69 x70 x71 x72 x73 x74 x75 x76 x77 x78 x79 x80 x81 x82 x83 x84 x85 x86 x87 x88 x89 x90 x91 x92 x93 x94 x95 x96 x97 x98 x99 x100 x101 x102 x103 x104 x105 x106 x107 x108 x109 x110 x111 x112 x113 x114 x115 x116 x117 x118 x119 x120 x121 x122 x123 x124 x125 x126 x127 x128 x129 x130 x131 x132 x133 x134 x135 x136 x137 x138 x139 x140 x141 x142 x143 x144 x145 x146 x147 x148 x149 x150 x151 x152 x153 x154 x155 x156 x157 x158 x159 x160 x161 x162 x163 x164 x165 x166 x167 x168 x169 x170 x171 x172 x173 x174 x175 x176 x177 x178 x179 x180 x181 x182 x183 x184 x185 x186 x187 x188 x189 x190 x191 x192 x193 x194 x195 x196 x197 x198 x199 x200 x201 x202 x203 x204 x205 x206 x207 x208 x209 x210 : Value} {bse p n N cap : Nat} {now : Int} {T m : List Tm} {v : Value} {a : Option Addr} (w : World) {Q : Exit → Act → World → Prop}
    (HP : Hid (PlX bse w p now T n v m)) (HM : Hid (m.Perm T)) (HA : Hid (Tms w a N m)) (hN : N ≤ 1000)
    (hQp : ∀ c a d v w, Q (.panic c) (a.put d v) w → Q (.panic c) a w)
    (hQ : ∀ (y6 y22 y23 y24 y140 y141 y142 y143 y144 y145 y146 y147 y148 y149 y150 y151 y152 y153 y154 y155 y156 y157 y158 y159 y160 y161 y162 y163 y164 y165 y166 y167 y168 y169 y170 y171 y172 y173 y174 y175 y176 y177 y178 y179 y180 y181 y182 : Value) (lst : Int) (w' : World), w = w' → LeastOf (m.map Prod.snd) lst (decide (0 < N)) → Q .normal ⟨List.toArray (x0 :: x1 :: x2 :: x3 :: x4 :: x5 :: y6 :: .pointer (some ⟨p, 0, none⟩) :: x8 :: .slice a N cap :: x10 :: x11 :: x12 :: x13 :: x14 :: x15 :: x16 :: x17 :: x18 :: x19 :: .int .i64 lst :: x21 :: y22 :: y23 :: y24 :: x25 :: x26 :: x27 :: x28 :: x29 :: x30 :: x31 :: x32 :: x33 :: x34 :: x35 :: x36 :: x37 :: x38 :: x39 :: x40 :: x41 :: x42 :: x43 :: x44 :: x45 :: x46 :: x47 :: x48 :: x49 :: x50 :: x51 :: x52 :: x53 :: x54 :: x55 :: x56 :: x57 :: x58 :: x59 :: x60 :: x61 :: x62 :: x63 :: x64 :: x65 :: x66 :: x67 :: x68 :: x69 :: x70 :: x71 :: x72 :: x73 :: x74 :: x75 :: x76 :: x77 :: x78 :: x79 :: x80 :: x81 :: x82 :: x83 :: x84 :: x85 :: x86 :: x87 :: x88 :: x89 :: x90 :: x91 :: x92 :: x93 :: x94 :: x95 :: x96 :: x97 :: x98 :: x99 :: x100 :: x101 :: x102 :: x103 :: x104 :: x105 :: x106 :: x107 :: x108 :: x109 :: x110 :: x111 :: x112 :: x113 :: x114 :: x115 :: x116 :: x117 :: x118 :: x119 :: x120 :: x121 :: x122 :: x123 :: x124 :: x125 :: x126 :: x127 :: x128 :: x129 :: x130 :: x131 :: x132 :: x133 :: x134 :: x135 :: x136 :: x137 :: x138 :: x139 :: y140 :: y141 :: y142 :: y143 :: y144 :: y145 :: y146 :: y147 :: y148 :: y149 :: y150 :: y151 :: y152 :: y153 :: y154 :: y155 :: y156 :: y157 :: y158 :: y159 :: y160 :: y161 :: y162 :: y163 :: y164 :: y165 :: y166 :: y167 :: y168 :: y169 :: y170 :: y171 :: y172 :: y173 :: y174 :: y175 :: y176 :: y177 :: y178 :: y179 :: y180 :: y181 :: y182 :: x183 :: x184 :: x185 :: x186 :: x187 :: x188 :: x189 :: x190 :: x191 :: x192 :: x193 :: x194 :: x195 :: x196 :: x197 :: x198 :: x199 :: x200 :: x201 :: x202 :: x203 :: x204 :: x205 :: x206 :: x207 :: x208 :: x209 :: x210 :: []), []⟩ w') :
    Code.wp Try.prog (((Try.f17.body.bind (subBlock 3)).getD .skip)) Q ⟨List.toArray (x0 :: x1 :: x2 :: x3 :: x4 :: x5 :: x6 :: .pointer (some ⟨p, 0, none⟩) :: x8 :: .slice a N cap :: x10 :: x11 :: x12 :: x13 :: x14 :: x15 :: x16 :: x17 :: x18 :: x19 :: .int .i64 0 :: x21 :: .int .i64 0 :: x23 :: x24 :: x25 :: x26 :: x27 :: x28 :: x29 :: x30 :: x31 :: x32 :: x33 :: x34 :: x35 :: x36 :: x37 :: x38 :: x39 :: x40 :: x41 :: x42 :: x43 :: x44 :: x45 :: x46 :: x47 :: x48 :: x49 :: x50 :: x51 :: x52 :: x53 :: x54 :: x55 :: x56 :: x57 :: x58 :: x59 :: x60 :: x61 :: x62 :: x63 :: x64 :: x65 :: x66 :: x67 :: x68 :: x69 :: x70 :: x71 :: x72 :: x73 :: x74 :: x75 :: x76 :: x77 :: x78 :: x79 :: x80 :: x81 :: x82 :: x83 :: x84 :: x85 :: x86 :: x87 :: x88 :: x89 :: x90 :: x91 :: x92 :: x93 :: x94 :: x95 :: x96 :: x97 :: x98 :: x99 :: x100 :: x101 :: x102 :: x103 :: x104 :: x105 :: x106 :: x107 :: x108 :: x109 :: x110 :: x111 :: x112 :: x113 :: x114 :: x115 :: x116 :: x117 :: x118 :: x119 :: x120 :: x121 :: x122 :: x123 :: x124 :: x125 :: x126 :: x127 :: x128 :: x129 :: x130 :: x131 :: x132 :: x133 :: x134 :: x135 :: x136 :: x137 :: x138 :: x139 :: x140 :: x141 :: x142 :: x143 :: x144 :: x145 :: x146 :: x147 :: x148 :: x149 :: x150 :: x151 :: x152 :: x153 :: x154 :: x155 :: x156 :: x157 :: x158 :: x159 :: x160 :: x161 :: x162 :: x163 :: x164 :: x165 :: x166 :: x167 :: x168 :: x169 :: x170 :: x171 :: x172 :: x173 :: x174 :: x175 :: x176 :: x177 :: x178 :: x179 :: x180 :: x181 :: x182 :: x183 :: x184 :: x185 :: x186 :: x187 :: x188 :: x189 :: x190 :: x191 :: x192 :: x193 :: x194 :: x195 :: x196 :: x197 :: x198 :: x199 :: x200 :: x201 :: x202 :: x203 :: x204 :: x205 :: x206 :: x207 :: x208 :: x209 :: x210 :: []), []⟩ w := by
  have HK := Lib.hid hQ; have HKP := Lib.hid hQp
  clear hQ hQp
  conv => arg 2; whnf
  have H0 : Hid (LeastOf ((m.take 0).map Prod.snd) 0 (decide (0 < 0))) := Lib.hid (.inl ⟨by simp, rfl, by simp⟩)
  go_wp2_with fail
  go_loopw [20, 22] (fun sl sk wr => ∃ (k : Nat) (lst : Int), sl = .int .i64 lst ∧ sk = .int .i64 k ∧ k ≤ N ∧ Hid (w = wr) ∧ Hid (LeastOf ((m.take k).map Prod.snd) lst (decide (0 < k)))) (fun _ sk _ => N - (intOf sk).toNat)
  case atStart => exact ⟨0, 0, rfl, rfl, by omega, Lib.hid rfl, H0⟩
  case round =>
    clear H0
    obtain ⟨k, lst, rfl, rfl, hk, hw, HL⟩ := hrel
    obtain rfl := hw.out
    by_cases hlt : k < N
    · skip
      obtain ⟨b, off, x, rfl, hbl, hx, hxw, d0, d1⟩ := HA.out.at hlt
      have c0 : w.cell? ⟨b, off + k * 2, none⟩ = some (.int .i64 x.1) := by rw [show off + k * 2 = off + 2 * k by omega]; exact d0
      have c1 : w.cell? ⟨b, off + k * 2 + 1, none⟩ = some (.int .i64 x.2) := by rw [show off + k * 2 + 1 = off + (2 * k + 1) by omega]; exact d1
      have HX := Lib.hid hx
      have HAT := Lib.hid (HP.out.at x (HM.out.mem_iff.1 (List.mem_of_getElem? hx)))
      clear d0 d1 hx hbl hxw
      by_cases hk0 : k = 0
      · have hkb : ((k : Int) == 0) = true := by simp [hk0]
        have HK := Lib.hid hk0
        clear hk0
        go_wp2_with fail
        refine Calls.mono HAT.out ?_
        rintro e wq ⟨rfl, rfl⟩
        go_wp2_with fail
        go_roundw
        case rel => exact ⟨k + 1, x.2, rfl, by go_num, by omega, by first | exact Lib.hid rfl | trivial, Lib.hid (by rw [take_snd HX.out, decide_eq_true (Nat.succ_pos k)]; exact HL.out.snoc1 (.inl (decide_eq_false (by have := HK.out; omega))))⟩
        case measure => simp [intOf]; omega
      · have hkb : ((k : Int) == 0) = false := by simpa using hk0
        by_cases hxl : x.2 < lst
        · have HXL := Lib.hid hxl
          go_wp2_with fail
          refine Calls.mono HAT.out ?_
          rintro e wq ⟨rfl, rfl⟩
          go_wp2_with fail
          go_roundw
          case rel => exact ⟨k + 1, x.2, rfl, by go_num, by omega, by first | exact Lib.hid rfl | trivial, Lib.hid (by rw [take_snd HX.out, decide_eq_true (Nat.succ_pos k)]; exact HL.out.snoc1 (.inr HXL.out))⟩
          case measure => simp [intOf]; omega
        · have HXL : Hid (¬ x.2 < lst) := Lib.hid (by omega)
          go_wp2_with fail
          refine Calls.mono HAT.out ?_
          rintro e wq ⟨rfl, rfl⟩
          go_wp2_with fail
          go_roundw
          case rel => exact ⟨k + 1, lst, rfl, by go_num, by omega, by first | exact Lib.hid rfl | trivial, Lib.hid (by rw [take_snd HX.out, decide_eq_true (Nat.succ_pos k)]; exact HL.out.snoc2 (decide_eq_true (by omega)) (by have := HXL.out; omega))⟩
          case measure => simp [intOf]; omega
    · obtain rfl : k = N := by omega
      have hl := HL.out
      rw [HA.out.1, List.take_length, ← HA.out.1] at hl
      have HL2 := Lib.hid hl
      clear hl
      go_wp2_with fail
      exact HK.out _ _ _ _ _ _ _ _ _ _ _ _ _ _ _ _ _ _ _ _ _ _ _ _ _ _ _ _ _ _ _ _ _ _ _ _ _ _ _ _ _ _ _ _ _ _ _ lst _ rfl HL2.out
end Go.Proofs.Ytjkedccbieoenaa
