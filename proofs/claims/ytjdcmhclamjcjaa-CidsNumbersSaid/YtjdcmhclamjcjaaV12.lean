/- texts of the proof, laid together: Cid46, Cid47, Cid48, Open, Cid49. -/
import Derived.Test.YtjdcmhclamjcjaaV11
import Derived.Test.YtjdcmhclamjcjaaV5
import Derived.Test.YtjdcmhclamjcjaaV6
import Derived.Test.YtjdcmhclamjcjaaV2
import Derived.Test.YtjdcmhclamjcjaaV9
import Derived.Test.YtjdcmhclamjcjaaV10
import Derived.Test.YtjdcmhclamjcjaaV1
import Derived.WideShapes
namespace Go.Proofs.Ytjdcmhclamjcjaa
open Go.RowKit
set_option linter.unusedVariables false
set_option linter.unusedSimpArgs false

theorem cid_of2 {a : Int} (h0 : 0 ≤ a) (h1 : a < 256) : cidOk [a, 0, 0, 0, 0, 0, 0, 0] := by
  refine ⟨rfl, ?_⟩
  intro x hx
  simp only [List.mem_cons, List.not_mem_nil, or_false] at hx
  rcases hx with rfl | rfl | rfl | rfl | rfl | rfl | rfl | rfl
  case inl => exact wf_u8_of (by omega) (by omega)
  all_goals decide
set_option maxRecDepth 100000 in
set_option maxHeartbeats 4000000 in
theorem do_on {x1 x2 x3 x4 x5 x6 x7 x8 x10 x11 x12 x13 x14 x15 x16 x17 x18 x19 x20 x21 x22 x23 x24 x25 x26 x27 x28 x29 x30 x31 x32 x33 x34 x35 x36 x37 x38 x39 x40 x41 x42 x43 x44 x45 x46 x47 x48 x49 x50 x51 x52 x53 x54 x55 x56 x57 x58 x59 x60 x61 x62 x63 x64 x65 x66 x67 x68 x69 x70 x71 x72 x73 x74 x75 x76 x77 x78 x79 x80 x81 x82 x83 x84 x85 x86 x87 x88 x89 x90 x91 x92 x93 x94 x95 x96 x97 x98 x99 x100 x101 x102 x103 x104 x105 x106 x107 x108 x109 x110 x111 x112 x113 x114 x115 x116 x117 x118 x119 x120 x121 x122 x123 x124 x125 x126 x127 x128 x129 x130 x131 x132 x133 x134 x135 x136 x137 x138 x139 x140 x141 x142 x143 x144 x145 x146 x147 x148 x149 x150 x151 x152 x153 x154 x155 x156 x157 x158 x159 x160 x161 x162 x163 x164 x165 x166 x167 x168 x169 x170 x171 x172 x173 x174 x175 x176 x177 x178 x179 x180 x181 x182 x183 x184 x185 x186 x187 x188 : Value} {g po pt pp pq bse N : Nat} {B1 B2 B3 B4 : List Nat} {o p : Ow} {t q : Th} {R : List AuxR} {w0 : World} {gz : Nat} {f : Fr} {dv rv : Value} (w : World) {Q : Exit → Act → World → Prop}
    (HS : Hid (Sx bse w0 w g po pt pp pq B1 B2 B3 B4 N o t p t R)) (HZ : Hid ((gz, f.cells dv rv, FRT) ∈ R)) (HF : Hid (f.Wf)) (HDR : Hid (dv.oneCell' = true ∧ rv.oneCell' = true)) (HTI : Hid (TI t)) (HTW : Hid (TW t)) (hNN : N ≤ 1000)
    (hQp : ∀ c a d v w, Q (.panic c) (a.put d v) w → Q (.panic c) a w)
    (hQ : ∀ (y101 y102 y103 y104 y105 y106 y107 y108 y109 y110 y111 y112 : Value) (C2 C4 : List Nat) (w' : World), Hid (Sx bse w0 w' g po pt pp pq B1 C2 B3 C4 ((N + N + 3) + (N + N + 3) + (N + N + 3) + 5) o (onM t f.kind f.se f.li f.cid).1 p (onM t f.kind f.se f.li f.cid).1 R) → Q .normal ⟨List.toArray (.pointer (some ⟨g, 0, none⟩) :: x1 :: x2 :: x3 :: x4 :: x5 :: x6 :: x7 :: x8 :: .pointer (some ⟨gz, 0, none⟩) :: x10 :: x11 :: x12 :: x13 :: x14 :: x15 :: x16 :: x17 :: x18 :: x19 :: x20 :: x21 :: x22 :: x23 :: x24 :: x25 :: x26 :: x27 :: x28 :: x29 :: x30 :: x31 :: x32 :: x33 :: x34 :: x35 :: x36 :: x37 :: x38 :: x39 :: x40 :: x41 :: x42 :: x43 :: x44 :: x45 :: x46 :: x47 :: x48 :: x49 :: x50 :: x51 :: x52 :: x53 :: x54 :: x55 :: x56 :: x57 :: x58 :: x59 :: x60 :: x61 :: x62 :: x63 :: x64 :: x65 :: x66 :: x67 :: x68 :: x69 :: x70 :: x71 :: x72 :: x73 :: x74 :: x75 :: x76 :: x77 :: x78 :: x79 :: x80 :: x81 :: x82 :: x83 :: x84 :: x85 :: x86 :: x87 :: x88 :: x89 :: x90 :: x91 :: x92 :: x93 :: x94 :: x95 :: x96 :: x97 :: x98 :: x99 :: x100 :: y101 :: y102 :: y103 :: y104 :: y105 :: y106 :: y107 :: y108 :: y109 :: y110 :: y111 :: y112 :: .bool false :: x114 :: x115 :: x116 :: x117 :: x118 :: x119 :: x120 :: x121 :: x122 :: x123 :: x124 :: x125 :: x126 :: x127 :: x128 :: x129 :: x130 :: x131 :: x132 :: x133 :: x134 :: x135 :: x136 :: x137 :: x138 :: x139 :: x140 :: x141 :: x142 :: x143 :: x144 :: x145 :: x146 :: x147 :: x148 :: x149 :: x150 :: x151 :: x152 :: x153 :: x154 :: x155 :: x156 :: x157 :: x158 :: x159 :: x160 :: x161 :: x162 :: x163 :: x164 :: x165 :: x166 :: x167 :: x168 :: x169 :: x170 :: x171 :: x172 :: x173 :: x174 :: x175 :: x176 :: x177 :: x178 :: x179 :: x180 :: x181 :: x182 :: x183 :: x184 :: x185 :: x186 :: x187 :: x188 :: []), []⟩ w') :
    Code.wp Try.prog (((Try.f6.body.bind (subRegion 17)).getD .skip)) Q ⟨List.toArray (.pointer (some ⟨g, 0, none⟩) :: x1 :: x2 :: x3 :: x4 :: x5 :: x6 :: x7 :: x8 :: .pointer (some ⟨gz, 0, none⟩) :: x10 :: x11 :: x12 :: x13 :: x14 :: x15 :: x16 :: x17 :: x18 :: x19 :: x20 :: x21 :: x22 :: x23 :: x24 :: x25 :: x26 :: x27 :: x28 :: x29 :: x30 :: x31 :: x32 :: x33 :: x34 :: x35 :: x36 :: x37 :: x38 :: x39 :: x40 :: x41 :: x42 :: x43 :: x44 :: x45 :: x46 :: x47 :: x48 :: x49 :: x50 :: x51 :: x52 :: x53 :: x54 :: x55 :: x56 :: x57 :: x58 :: x59 :: x60 :: x61 :: x62 :: x63 :: x64 :: x65 :: x66 :: x67 :: x68 :: x69 :: x70 :: x71 :: x72 :: x73 :: x74 :: x75 :: x76 :: x77 :: x78 :: x79 :: x80 :: x81 :: x82 :: x83 :: x84 :: x85 :: x86 :: x87 :: x88 :: x89 :: x90 :: x91 :: x92 :: x93 :: x94 :: x95 :: x96 :: x97 :: x98 :: x99 :: x100 :: x101 :: x102 :: x103 :: x104 :: x105 :: x106 :: x107 :: x108 :: x109 :: x110 :: x111 :: x112 :: x113 :: x114 :: x115 :: x116 :: x117 :: x118 :: x119 :: x120 :: x121 :: x122 :: x123 :: x124 :: x125 :: x126 :: x127 :: x128 :: x129 :: x130 :: x131 :: x132 :: x133 :: x134 :: x135 :: x136 :: x137 :: x138 :: x139 :: x140 :: x141 :: x142 :: x143 :: x144 :: x145 :: x146 :: x147 :: x148 :: x149 :: x150 :: x151 :: x152 :: x153 :: x154 :: x155 :: x156 :: x157 :: x158 :: x159 :: x160 :: x161 :: x162 :: x163 :: x164 :: x165 :: x166 :: x167 :: x168 :: x169 :: x170 :: x171 :: x172 :: x173 :: x174 :: x175 :: x176 :: x177 :: x178 :: x179 :: x180 :: x181 :: x182 :: x183 :: x184 :: x185 :: x186 :: x187 :: x188 :: []), []⟩ w := by
  have HK := Lib.hid hQ; have HKP := Lib.hid hQp
  clear hQ hQp
  conv => arg 2; whnf
  have hl := Fr.len (dv := dv) (rv := rv) HF.out
  obtain ⟨RF, hRF⟩ : ∃ R, f.cells dv rv = R := ⟨_, rfl⟩
  have HRF := Lib.hid hRF
  rw [hRF] at hl HZ
  have HL := Lib.hid hl
  clear hl hRF
  have HROW := Lib.hid HS.out.wd.row
  have HZR := Lib.hid (HS.out.row _ HZ.out)
  have g0 : ∀ z : In (fun y => y.heap[g]? = some (.cells (wdRow po pt pp pq).toArray WDT (0, 0)) ∧ y.heap[gz]? = some (.cells RF.toArray FRT (0, 0))), z.w.cell? ⟨g, 1, none⟩ = some (.pointer (some ⟨pt, 0, none⟩)) := fun z => cell_row z.h.1 1 _ rfl
  have g1 : ∀ z : In (fun y => y.heap[g]? = some (.cells (wdRow po pt pp pq).toArray WDT (0, 0)) ∧ y.heap[gz]? = some (.cells RF.toArray FRT (0, 0))), z.w.cell? ⟨g, 3, none⟩ = some (.pointer (some ⟨pq, 0, none⟩)) := fun z => cell_row z.h.1 3 _ rfl
  refine wp_plan (.t 0 (.t 1 (.t 2 (.t 3 (.t 4 (.t 6 (.t 7 (.t 8 (.t 9 (.t 10 (.u 5 (.u 11 (.t 12 .done))))))))))))) (fun y => y.heap[g]? = some (.cells (wdRow po pt pp pq).toArray WDT (0, 0)) ∧ y.heap[gz]? = some (.cells RF.toArray FRT (0, 0))) (by kernel_rfl) (by kernel_rfl) (by kernel_rfl) (fun c a d v w h => by first | (cases d <;> exact h) | exact HKP.out c a d v w h) ⟨HROW.out, HZR.out⟩ ?_
  replace HS := Lib.hid HS.out.drew
  have hS : w.drew.heap[g]? = _ ∧ w.drew.heap[gz]? = _ := ⟨HROW.out, HZR.out⟩
  generalize w.drew = wd at HS hS ⊢
  haveI hne : Nonempty (In (fun y => y.heap[g]? = some (.cells (wdRow po pt pp pq).toArray WDT (0, 0)) ∧ y.heap[gz]? = some (.cells RF.toArray FRT (0, 0)))) := ⟨⟨wd, hS⟩⟩
  repeat (first | (refine plan_t_load (by rfl) (by kernel_rfl) FRT _ rfl gz 0 rfl RF _ (fun y hy => rngL hy.2) Try.underlying53 rfl (by rw [HL.out]; rfl) ?_; simp only [Act.put, List.setIfInBounds_toArray, List.set_cons_succ, List.set_cons_zero]) | (refine plan_t (by rfl) ?_; (first | go_big_quiet_skip | (go_big_quiet_want; go_big_quiet_op; go_big_quiet_on)); refine wpQuiet_nil ?_))
  clear hS g0 g1
  obtain ⟨er, her⟩ : ∃ e, (onM t f.kind f.se f.li f.cid).2 = e := ⟨_, rfl⟩
  have HER := Lib.hid her
  clear her
  refine plan_us (by rfl) (by kernel_rfl) ?_
  intro K hK
  obtain ⟨la, ra, lc, rc, bn, bs, bg, hth⟩ := HS.out.wd.ht
  have hcl := on_any wd pt B2 N t la ra lc rc bn bs bg hth HTI.out f HF.out dv rv HDR.out.1 HDR.out.2 (by omega)
  rw [HRF.out, HER.out] at hcl
  have HCL := Lib.hid hcl
  clear hcl hth
  go_wp2_with fail
  refine Calls.mono HCL.out ?_
  rintro e w1 ⟨rfl, C2, la2, ra2, lc2, rc2, hu, hth⟩
  replace HS := Lib.hid (HS.out.stepT hu (t' := (onM t f.kind f.se f.li f.cid).1) ⟨_, _, _, _, _, _, _, hth⟩ (by omega))
  clear hu hth HCL
  go_wp2_with fail
  refine ⟨⟨HS.out.wd.row, HS.out.row _ HZ.out⟩, ?_⟩
  refine plan_us (by rfl) (by kernel_rfl) ?_
  intro K hK
  obtain ⟨hh, hth⟩ := HS.out.wd.hq
  have hcl := ron20_any w1 pq B4 (N + N + 3) t hh hth HTI.out HTW.out f HF.out dv rv (by omega)
  rw [HRF.out, HER.out] at hcl
  have HCL := Lib.hid hcl
  clear hcl hth
  go_wp2_with fail
  refine Calls.mono HCL.out ?_
  rintro e w2 ⟨rfl, C4, h4, hu, hth⟩
  replace HS := Lib.hid (HS.out.stepQ hu (q' := (onM t f.kind f.se f.li f.cid).1) ⟨_, hth⟩ (by omega))
  clear hu hth HCL
  go_wp2_with fail
  refine ⟨⟨HS.out.wd.row, HS.out.row _ HZ.out⟩, ?_⟩
  have hbb : (er != er) = false := by simp
  (refine plan_t (by rfl) ?_; (first | go_big_quiet_skip | (go_big_quiet_want; go_big_quiet_op; go_big_quiet_on)); refine wpQuiet_nil ?_)
  try rw [hbb]
  clear hne
  show Q _ _ _
  exact HK.out _ _ _ _ _ _ _ _ _ _ _ _ C2 C4 _ HS
set_option maxRecDepth 100000 in
set_option maxHeartbeats 4000000 in
theorem do_turn {x1 x2 x3 x4 x5 x6 x7 x8 x9 x10 x11 x12 x13 x14 x15 x16 x17 x18 x19 x20 x21 x22 x23 x24 x25 x26 x27 x28 x29 x30 x31 x32 x33 x34 x35 x36 x37 x38 x39 x40 x41 x42 x43 x44 x45 x46 x47 x48 x49 x50 x51 x52 x53 x54 x55 x56 x57 x58 x59 x60 x61 x62 x63 x64 x65 x66 x67 x68 x69 x70 x71 x72 x73 x74 x75 x76 x77 x78 x79 x80 x81 x82 x83 x84 x85 x86 x87 x88 x89 x90 x91 x92 x93 x94 x95 x96 x97 x98 x99 x100 x101 x102 x103 x104 x105 x106 x107 x108 x109 x110 x111 x112 x113 x114 x115 x116 x117 x118 x119 x120 x121 x122 x123 x124 x125 x126 x127 x128 x129 x130 x131 x132 x133 x134 x135 x136 x137 x138 x139 x140 x141 x142 x143 x144 x145 x146 x147 x148 x149 x150 x151 x152 x153 x154 x155 x156 x157 x158 x159 x160 x161 x162 x163 x164 x165 x166 x167 x168 x169 x170 x171 x172 x173 x174 x175 x176 x177 x178 x179 x180 x181 x182 x183 x184 x185 x186 x187 x188 : Value} {g po pt pp pq bse N : Nat} {B1 B2 B3 B4 : List Nat} {o p : Ow} {t q : Th} {R : List AuxR} {w0 : World} (w : World) {Q : Exit → Act → World → Prop}
    (HS : Hid (Sx bse w0 w g po pt pp pq B1 B2 B3 B4 N o t p t R)) (HTI : Hid (TI t)) (hNN : N ≤ 1000)
    (hQp : ∀ c a d v w, Q (.panic c) (a.put d v) w → Q (.panic c) a w)
    (hQ : ∀ (y116 y117 y118 y119 y120 y121 y122 y123 y124 y125 : Value) (C2 C4 : List Nat) (w' : World), Hid (Sx bse w0 w' g po pt pp pq B1 C2 B3 C4 (N + N + 2) o (turnM t).1 p (turnM t).1 R) → Q .normal ⟨List.toArray (.pointer (some ⟨g, 0, none⟩) :: x1 :: x2 :: x3 :: x4 :: x5 :: x6 :: x7 :: x8 :: x9 :: x10 :: x11 :: x12 :: x13 :: x14 :: x15 :: x16 :: x17 :: x18 :: x19 :: x20 :: x21 :: x22 :: x23 :: x24 :: x25 :: x26 :: x27 :: x28 :: x29 :: x30 :: x31 :: x32 :: x33 :: x34 :: x35 :: x36 :: x37 :: x38 :: x39 :: x40 :: x41 :: x42 :: x43 :: x44 :: x45 :: x46 :: x47 :: x48 :: x49 :: x50 :: x51 :: x52 :: x53 :: x54 :: x55 :: x56 :: x57 :: x58 :: x59 :: x60 :: x61 :: x62 :: x63 :: x64 :: x65 :: x66 :: x67 :: x68 :: x69 :: x70 :: x71 :: x72 :: x73 :: x74 :: x75 :: x76 :: x77 :: x78 :: x79 :: x80 :: x81 :: x82 :: x83 :: x84 :: x85 :: x86 :: x87 :: x88 :: x89 :: x90 :: x91 :: x92 :: x93 :: x94 :: x95 :: x96 :: x97 :: x98 :: x99 :: x100 :: x101 :: x102 :: x103 :: x104 :: x105 :: x106 :: x107 :: x108 :: x109 :: x110 :: x111 :: x112 :: x113 :: x114 :: x115 :: y116 :: y117 :: y118 :: y119 :: y120 :: y121 :: y122 :: y123 :: y124 :: y125 :: .bool false :: x127 :: x128 :: x129 :: x130 :: x131 :: x132 :: x133 :: x134 :: x135 :: x136 :: x137 :: x138 :: x139 :: x140 :: x141 :: x142 :: x143 :: x144 :: x145 :: x146 :: x147 :: x148 :: x149 :: x150 :: x151 :: x152 :: x153 :: x154 :: x155 :: x156 :: x157 :: x158 :: x159 :: x160 :: x161 :: x162 :: x163 :: x164 :: x165 :: x166 :: x167 :: x168 :: x169 :: x170 :: x171 :: x172 :: x173 :: x174 :: x175 :: x176 :: x177 :: x178 :: x179 :: x180 :: x181 :: x182 :: x183 :: x184 :: x185 :: x186 :: x187 :: x188 :: []), []⟩ w') :
    Code.wp Try.prog (((Try.f6.body.bind (subRegion 20)).getD .skip)) Q ⟨List.toArray (.pointer (some ⟨g, 0, none⟩) :: x1 :: x2 :: x3 :: x4 :: x5 :: x6 :: x7 :: x8 :: x9 :: x10 :: x11 :: x12 :: x13 :: x14 :: x15 :: x16 :: x17 :: x18 :: x19 :: x20 :: x21 :: x22 :: x23 :: x24 :: x25 :: x26 :: x27 :: x28 :: x29 :: x30 :: x31 :: x32 :: x33 :: x34 :: x35 :: x36 :: x37 :: x38 :: x39 :: x40 :: x41 :: x42 :: x43 :: x44 :: x45 :: x46 :: x47 :: x48 :: x49 :: x50 :: x51 :: x52 :: x53 :: x54 :: x55 :: x56 :: x57 :: x58 :: x59 :: x60 :: x61 :: x62 :: x63 :: x64 :: x65 :: x66 :: x67 :: x68 :: x69 :: x70 :: x71 :: x72 :: x73 :: x74 :: x75 :: x76 :: x77 :: x78 :: x79 :: x80 :: x81 :: x82 :: x83 :: x84 :: x85 :: x86 :: x87 :: x88 :: x89 :: x90 :: x91 :: x92 :: x93 :: x94 :: x95 :: x96 :: x97 :: x98 :: x99 :: x100 :: x101 :: x102 :: x103 :: x104 :: x105 :: x106 :: x107 :: x108 :: x109 :: x110 :: x111 :: x112 :: x113 :: x114 :: x115 :: x116 :: x117 :: x118 :: x119 :: x120 :: x121 :: x122 :: x123 :: x124 :: x125 :: x126 :: x127 :: x128 :: x129 :: x130 :: x131 :: x132 :: x133 :: x134 :: x135 :: x136 :: x137 :: x138 :: x139 :: x140 :: x141 :: x142 :: x143 :: x144 :: x145 :: x146 :: x147 :: x148 :: x149 :: x150 :: x151 :: x152 :: x153 :: x154 :: x155 :: x156 :: x157 :: x158 :: x159 :: x160 :: x161 :: x162 :: x163 :: x164 :: x165 :: x166 :: x167 :: x168 :: x169 :: x170 :: x171 :: x172 :: x173 :: x174 :: x175 :: x176 :: x177 :: x178 :: x179 :: x180 :: x181 :: x182 :: x183 :: x184 :: x185 :: x186 :: x187 :: x188 :: []), []⟩ w := by
  have HK := Lib.hid hQ; have HKP := Lib.hid hQp
  clear hQ hQp
  conv => arg 2; whnf
  have HROW := Lib.hid HS.out.wd.row
  have g0 : ∀ z : In (fun y => y.heap[g]? = some (.cells (wdRow po pt pp pq).toArray WDT (0, 0))), z.w.cell? ⟨g, 1, none⟩ = some (.pointer (some ⟨pt, 0, none⟩)) := fun z => cell_row z.h 1 _ rfl
  have g1 : ∀ z : In (fun y => y.heap[g]? = some (.cells (wdRow po pt pp pq).toArray WDT (0, 0))), z.w.cell? ⟨g, 3, none⟩ = some (.pointer (some ⟨pq, 0, none⟩)) := fun z => cell_row z.h 3 _ rfl
  refine wp_plan (.t 0 (.t 1 (.t 2 (.t 3 (.t 5 (.t 6 (.t 7 (.t 8 (.u 4 (.u 9 (.t 10 .done))))))))))) (fun y => y.heap[g]? = some (.cells (wdRow po pt pp pq).toArray WDT (0, 0))) (by kernel_rfl) (by kernel_rfl) (by kernel_rfl) (fun c a d v w h => by first | (cases d <;> exact h) | exact HKP.out c a d v w h) HROW.out ?_
  replace HS := Lib.hid HS.out.drew
  have hS : w.drew.heap[g]? = _ := HROW.out
  generalize w.drew = wd at HS hS ⊢
  haveI hne : Nonempty (In (fun y => y.heap[g]? = some (.cells (wdRow po pt pp pq).toArray WDT (0, 0)))) := ⟨⟨wd, hS⟩⟩
  repeat (first | (refine plan_t (by rfl) ?_; (first | go_big_quiet_skip | (go_big_quiet_want; go_big_quiet_op; go_big_quiet_on)); refine wpQuiet_nil ?_))
  clear hS g0 g1
  obtain ⟨er, her⟩ : ∃ e, (turnM t).2 = e := ⟨_, rfl⟩
  have HER := Lib.hid her
  clear her
  have HRE := Lib.hid (rturnM_eq HTI.out.srt HTI.out.now HTI.out.dis)
  refine plan_us (by rfl) (by kernel_rfl) ?_
  intro K hK
  obtain ⟨la, ra, lc, rc, bn, bs, bg, hth⟩ := HS.out.wd.ht
  have hcl := turn_any wd pt B2 N t la ra lc rc bn bs bg hth HTI.out (by omega)
  rw [HER.out] at hcl
  have HCL := Lib.hid hcl
  clear hcl hth
  go_wp2_with fail
  refine Calls.mono HCL.out ?_
  rintro e w1 ⟨rfl, C2, la2, ra2, lc2, rc2, hu, hth⟩
  replace HS := Lib.hid (HS.out.stepT hu (t' := (turnM t).1) ⟨_, _, _, _, _, _, _, hth⟩ (by omega))
  clear hu hth HCL
  go_wp2_with fail
  refine ⟨HS.out.wd.row, ?_⟩
  refine plan_us (by rfl) (by kernel_rfl) ?_
  intro K hK
  obtain ⟨hh, hth⟩ := HS.out.wd.hq
  have hcl := rturn20_any w1 pq B4 (N + N) t hh hth HTI.out.due (by omega)
  rw [HRE.out, HER.out] at hcl
  have HCL := Lib.hid hcl
  clear hcl hth
  go_wp2_with fail
  refine Calls.mono HCL.out ?_
  rintro e w2 ⟨rfl, C4, h4, hu, hth⟩
  replace HS := Lib.hid (HS.out.stepQ hu (q' := (turnM t).1) ⟨_, hth⟩ (by omega))
  clear hu hth HCL
  go_wp2_with fail
  refine ⟨HS.out.wd.row, ?_⟩
  have hbb : (er != er) = false := by simp
  (refine plan_t (by rfl) ?_; (first | go_big_quiet_skip | (go_big_quiet_want; go_big_quiet_op; go_big_quiet_on)); refine wpQuiet_nil ?_)
  try rw [hbb]
  clear hne
  show Q _ _ _
  exact HK.out _ _ _ _ _ _ _ _ _ _ C2 C4 _ HS
set_option maxRecDepth 100000 in
set_option maxHeartbeats 4000000 in
theorem do_lost {x1 x2 x3 x4 x5 x6 x7 x8 x9 x10 x11 x12 x13 x15 x16 x17 x18 x19 x20 x21 x22 x23 x24 x25 x26 x27 x28 x29 x30 x31 x32 x33 x34 x35 x36 x37 x38 x39 x40 x41 x42 x43 x44 x45 x46 x47 x48 x49 x50 x51 x52 x53 x54 x55 x56 x57 x58 x59 x60 x61 x62 x63 x64 x65 x66 x67 x68 x69 x70 x71 x72 x73 x74 x75 x76 x77 x78 x79 x80 x81 x82 x83 x84 x85 x86 x87 x88 x89 x90 x91 x92 x93 x94 x95 x96 x97 x98 x99 x100 x101 x102 x103 x104 x105 x106 x107 x108 x109 x110 x111 x112 x113 x114 x115 x116 x117 x118 x119 x120 x121 x122 x123 x124 x125 x126 x127 x128 x129 x130 x131 x132 x133 x134 x135 x136 x137 x138 x139 x140 x141 x142 x143 x144 x145 x146 x147 x148 x149 x150 x151 x152 x153 x154 x155 x156 x157 x158 x159 x160 x161 x162 x163 x164 x165 x166 x167 x168 x169 x170 x171 x172 x173 x174 x175 x176 x177 x178 x179 x180 x181 x182 x183 x184 x185 x186 x187 x188 : Value} {g po pt pp pq bse N : Nat} {B1 B2 B3 B4 : List Nat} {o p : Ow} {t q : Th} {R : List AuxR} {w0 : World} {gz : Nat} {f : Fr} {dv rv : Value} (w : World) {Q : Exit → Act → World → Prop}
    (HS : Hid (Sx bse w0 w g po pt pp pq B1 B2 B3 B4 N o t p q R)) (HZ : Hid ((gz, f.cells dv rv, FRT) ∈ R)) (HF : Hid (f.Wf)) (HDR : Hid (dv.oneCell' = true ∧ rv.oneCell' = true)) (HTI : Hid (TI t)) (hNN : N ≤ 10000)
    (hQp : ∀ c a d v w, Q (.panic c) (a.put d v) w → Q (.panic c) a w)
    (hQ : ∀ (y166 y167 y168 y169 y170 y171 : Value) (C : List Nat) (w' : World), Hid (Sx bse w0 w' g po pt pp pq B1 C B3 B4 (N + 1) o (lostM t f.kind f.se) p q R) → Q .normal ⟨List.toArray (.pointer (some ⟨g, 0, none⟩) :: x1 :: x2 :: x3 :: x4 :: x5 :: x6 :: x7 :: x8 :: x9 :: x10 :: x11 :: x12 :: x13 :: .pointer (some ⟨gz, 0, none⟩) :: x15 :: x16 :: x17 :: x18 :: x19 :: x20 :: x21 :: x22 :: x23 :: x24 :: x25 :: x26 :: x27 :: x28 :: x29 :: x30 :: x31 :: x32 :: x33 :: x34 :: x35 :: x36 :: x37 :: x38 :: x39 :: x40 :: x41 :: x42 :: x43 :: x44 :: x45 :: x46 :: x47 :: x48 :: x49 :: x50 :: x51 :: x52 :: x53 :: x54 :: x55 :: x56 :: x57 :: x58 :: x59 :: x60 :: x61 :: x62 :: x63 :: x64 :: x65 :: x66 :: x67 :: x68 :: x69 :: x70 :: x71 :: x72 :: x73 :: x74 :: x75 :: x76 :: x77 :: x78 :: x79 :: x80 :: x81 :: x82 :: x83 :: x84 :: x85 :: x86 :: x87 :: x88 :: x89 :: x90 :: x91 :: x92 :: x93 :: x94 :: x95 :: x96 :: x97 :: x98 :: x99 :: x100 :: x101 :: x102 :: x103 :: x104 :: x105 :: x106 :: x107 :: x108 :: x109 :: x110 :: x111 :: x112 :: x113 :: x114 :: x115 :: x116 :: x117 :: x118 :: x119 :: x120 :: x121 :: x122 :: x123 :: x124 :: x125 :: x126 :: x127 :: x128 :: x129 :: x130 :: x131 :: x132 :: x133 :: x134 :: x135 :: x136 :: x137 :: x138 :: x139 :: x140 :: x141 :: x142 :: x143 :: x144 :: x145 :: x146 :: x147 :: x148 :: x149 :: x150 :: x151 :: x152 :: x153 :: x154 :: x155 :: x156 :: x157 :: x158 :: x159 :: x160 :: x161 :: x162 :: x163 :: x164 :: x165 :: y166 :: y167 :: y168 :: y169 :: y170 :: y171 :: x172 :: x173 :: x174 :: x175 :: x176 :: x177 :: x178 :: x179 :: x180 :: x181 :: x182 :: x183 :: x184 :: x185 :: x186 :: x187 :: x188 :: []), []⟩ w') :
    Code.wp Try.prog (((Try.f6.body.bind (subRegion 31)).getD .skip)) Q ⟨List.toArray (.pointer (some ⟨g, 0, none⟩) :: x1 :: x2 :: x3 :: x4 :: x5 :: x6 :: x7 :: x8 :: x9 :: x10 :: x11 :: x12 :: x13 :: .pointer (some ⟨gz, 0, none⟩) :: x15 :: x16 :: x17 :: x18 :: x19 :: x20 :: x21 :: x22 :: x23 :: x24 :: x25 :: x26 :: x27 :: x28 :: x29 :: x30 :: x31 :: x32 :: x33 :: x34 :: x35 :: x36 :: x37 :: x38 :: x39 :: x40 :: x41 :: x42 :: x43 :: x44 :: x45 :: x46 :: x47 :: x48 :: x49 :: x50 :: x51 :: x52 :: x53 :: x54 :: x55 :: x56 :: x57 :: x58 :: x59 :: x60 :: x61 :: x62 :: x63 :: x64 :: x65 :: x66 :: x67 :: x68 :: x69 :: x70 :: x71 :: x72 :: x73 :: x74 :: x75 :: x76 :: x77 :: x78 :: x79 :: x80 :: x81 :: x82 :: x83 :: x84 :: x85 :: x86 :: x87 :: x88 :: x89 :: x90 :: x91 :: x92 :: x93 :: x94 :: x95 :: x96 :: x97 :: x98 :: x99 :: x100 :: x101 :: x102 :: x103 :: x104 :: x105 :: x106 :: x107 :: x108 :: x109 :: x110 :: x111 :: x112 :: x113 :: x114 :: x115 :: x116 :: x117 :: x118 :: x119 :: x120 :: x121 :: x122 :: x123 :: x124 :: x125 :: x126 :: x127 :: x128 :: x129 :: x130 :: x131 :: x132 :: x133 :: x134 :: x135 :: x136 :: x137 :: x138 :: x139 :: x140 :: x141 :: x142 :: x143 :: x144 :: x145 :: x146 :: x147 :: x148 :: x149 :: x150 :: x151 :: x152 :: x153 :: x154 :: x155 :: x156 :: x157 :: x158 :: x159 :: x160 :: x161 :: x162 :: x163 :: x164 :: x165 :: x166 :: x167 :: x168 :: x169 :: x170 :: x171 :: x172 :: x173 :: x174 :: x175 :: x176 :: x177 :: x178 :: x179 :: x180 :: x181 :: x182 :: x183 :: x184 :: x185 :: x186 :: x187 :: x188 :: []), []⟩ w := by
  have HK := Lib.hid hQ; have HKP := Lib.hid hQp
  clear hQ hQp
  conv => arg 2; whnf
  have hl := Fr.len (dv := dv) (rv := rv) HF.out
  obtain ⟨RF, hRF⟩ : ∃ R, f.cells dv rv = R := ⟨_, rfl⟩
  have HRF := Lib.hid hRF
  rw [hRF] at hl HZ
  have HL := Lib.hid hl
  clear hl hRF
  have HROW := Lib.hid HS.out.wd.row
  have HZR := Lib.hid (HS.out.row _ HZ.out)
  have g0 : ∀ z : In (fun y => y.heap[g]? = some (.cells (wdRow po pt pp pq).toArray WDT (0, 0)) ∧ y.heap[gz]? = some (.cells RF.toArray FRT (0, 0))), z.w.cell? ⟨g, 1, none⟩ = some (.pointer (some ⟨pt, 0, none⟩)) := fun z => cell_row z.h.1 1 _ rfl
  refine wp_plan (.t 0 (.t 1 (.t 2 (.t 3 (.t 4 (.u 5 .done)))))) (fun y => y.heap[g]? = some (.cells (wdRow po pt pp pq).toArray WDT (0, 0)) ∧ y.heap[gz]? = some (.cells RF.toArray FRT (0, 0))) (by kernel_rfl) (by kernel_rfl) (by kernel_rfl) (fun c a d v w h => by first | (cases d <;> exact h) | exact HKP.out c a d v w h) ⟨HROW.out, HZR.out⟩ ?_
  replace HS := Lib.hid HS.out.drew
  have hS : w.drew.heap[g]? = _ ∧ w.drew.heap[gz]? = _ := ⟨HROW.out, HZR.out⟩
  generalize w.drew = wd at HS hS ⊢
  haveI hne : Nonempty (In (fun y => y.heap[g]? = some (.cells (wdRow po pt pp pq).toArray WDT (0, 0)) ∧ y.heap[gz]? = some (.cells RF.toArray FRT (0, 0)))) := ⟨⟨wd, hS⟩⟩
  repeat (first | (refine plan_t_load (by rfl) (by kernel_rfl) FRT _ rfl gz 0 rfl RF _ (fun y hy => rngL hy.2) Try.underlying53 rfl (by rw [HL.out]; rfl) ?_; simp only [Act.put, List.setIfInBounds_toArray, List.set_cons_succ, List.set_cons_zero]) | (refine plan_t (by rfl) ?_; (first | go_big_quiet_skip | (go_big_quiet_want; go_big_quiet_op; go_big_quiet_on)); refine wpQuiet_nil ?_))
  clear hS g0
  refine plan_us (by rfl) (by kernel_rfl) ?_
  intro K hK
  obtain ⟨la, ra, lc, rc, bn, bs, bg, hth⟩ := HS.out.wd.ht
  have hcl := lost20_any wd pt B2 N t la ra lc rc bn bs bg hth HTI.out f HF.out dv rv HDR.out.1 HDR.out.2 (by omega)
  rw [HRF.out] at hcl
  have HCL := Lib.hid hcl
  clear hcl hth
  go_wp2_with fail
  refine Calls.mono HCL.out ?_
  rintro e w1 ⟨rfl, C, la2, ra2, lc2, rc2, hu, hth⟩
  replace HS := Lib.hid (HS.out.stepT hu (t' := (lostM t f.kind f.se)) ⟨_, _, _, _, _, _, _, hth⟩ (by omega))
  clear hu hth HCL
  go_wp2_with fail
  refine ⟨⟨HS.out.wd.row, HS.out.row _ HZ.out⟩, ?_⟩
  clear hne
  show Q _ _ _
  exact HK.out _ _ _ _ _ _ C _ HS
set_option maxRecDepth 100000 in
set_option maxHeartbeats 4000000 in
theorem do_rlost {x1 x2 x3 x4 x5 x6 x7 x8 x9 x10 x11 x12 x13 x15 x16 x17 x18 x19 x20 x21 x22 x23 x24 x25 x26 x27 x28 x29 x30 x31 x32 x33 x34 x35 x36 x37 x38 x39 x40 x41 x42 x43 x44 x45 x46 x47 x48 x49 x50 x51 x52 x53 x54 x55 x56 x57 x58 x59 x60 x61 x62 x63 x64 x65 x66 x67 x68 x69 x70 x71 x72 x73 x74 x75 x76 x77 x78 x79 x80 x81 x82 x83 x84 x85 x86 x87 x88 x89 x90 x91 x92 x93 x94 x95 x96 x97 x98 x99 x100 x101 x102 x103 x104 x105 x106 x107 x108 x109 x110 x111 x112 x113 x114 x115 x116 x117 x118 x119 x120 x121 x122 x123 x124 x125 x126 x127 x128 x129 x130 x131 x132 x133 x134 x135 x136 x137 x138 x139 x140 x141 x142 x143 x144 x145 x146 x147 x148 x149 x150 x151 x152 x153 x154 x155 x156 x157 x158 x159 x160 x161 x162 x163 x164 x165 x166 x167 x168 x169 x170 x171 x172 x173 x174 x175 x176 x177 x178 x179 x180 x181 x182 x183 x184 x185 x186 x187 x188 : Value} {g po pt pp pq bse N : Nat} {B1 B2 B3 B4 : List Nat} {o p : Ow} {t q : Th} {R : List AuxR} {w0 : World} {gz : Nat} {f : Fr} {dv rv : Value} (w : World) {Q : Exit → Act → World → Prop}
    (HS : Hid (Sx bse w0 w g po pt pp pq B1 B2 B3 B4 N o t p q R)) (HZ : Hid ((gz, f.cells dv rv, FRT) ∈ R)) (HF : Hid (f.Wf)) (HDR : Hid (dv.oneCell' = true ∧ rv.oneCell' = true)) (HTI : Hid (TI q)) (hNN : N ≤ 10000)
    (hQp : ∀ c a d v w, Q (.panic c) (a.put d v) w → Q (.panic c) a w)
    (hQ : ∀ (y172 y173 y174 y175 y176 y177 : Value) (C : List Nat) (w' : World), Hid (Sx bse w0 w' g po pt pp pq B1 B2 B3 C (N + 1) o t p (lostM q f.kind f.se) R) → Q .normal ⟨List.toArray (.pointer (some ⟨g, 0, none⟩) :: x1 :: x2 :: x3 :: x4 :: x5 :: x6 :: x7 :: x8 :: x9 :: x10 :: x11 :: x12 :: x13 :: .pointer (some ⟨gz, 0, none⟩) :: x15 :: x16 :: x17 :: x18 :: x19 :: x20 :: x21 :: x22 :: x23 :: x24 :: x25 :: x26 :: x27 :: x28 :: x29 :: x30 :: x31 :: x32 :: x33 :: x34 :: x35 :: x36 :: x37 :: x38 :: x39 :: x40 :: x41 :: x42 :: x43 :: x44 :: x45 :: x46 :: x47 :: x48 :: x49 :: x50 :: x51 :: x52 :: x53 :: x54 :: x55 :: x56 :: x57 :: x58 :: x59 :: x60 :: x61 :: x62 :: x63 :: x64 :: x65 :: x66 :: x67 :: x68 :: x69 :: x70 :: x71 :: x72 :: x73 :: x74 :: x75 :: x76 :: x77 :: x78 :: x79 :: x80 :: x81 :: x82 :: x83 :: x84 :: x85 :: x86 :: x87 :: x88 :: x89 :: x90 :: x91 :: x92 :: x93 :: x94 :: x95 :: x96 :: x97 :: x98 :: x99 :: x100 :: x101 :: x102 :: x103 :: x104 :: x105 :: x106 :: x107 :: x108 :: x109 :: x110 :: x111 :: x112 :: x113 :: x114 :: x115 :: x116 :: x117 :: x118 :: x119 :: x120 :: x121 :: x122 :: x123 :: x124 :: x125 :: x126 :: x127 :: x128 :: x129 :: x130 :: x131 :: x132 :: x133 :: x134 :: x135 :: x136 :: x137 :: x138 :: x139 :: x140 :: x141 :: x142 :: x143 :: x144 :: x145 :: x146 :: x147 :: x148 :: x149 :: x150 :: x151 :: x152 :: x153 :: x154 :: x155 :: x156 :: x157 :: x158 :: x159 :: x160 :: x161 :: x162 :: x163 :: x164 :: x165 :: x166 :: x167 :: x168 :: x169 :: x170 :: x171 :: y172 :: y173 :: y174 :: y175 :: y176 :: y177 :: x178 :: x179 :: x180 :: x181 :: x182 :: x183 :: x184 :: x185 :: x186 :: x187 :: x188 :: []), []⟩ w') :
    Code.wp Try.prog (((Try.f6.body.bind (subRegion 32)).getD .skip)) Q ⟨List.toArray (.pointer (some ⟨g, 0, none⟩) :: x1 :: x2 :: x3 :: x4 :: x5 :: x6 :: x7 :: x8 :: x9 :: x10 :: x11 :: x12 :: x13 :: .pointer (some ⟨gz, 0, none⟩) :: x15 :: x16 :: x17 :: x18 :: x19 :: x20 :: x21 :: x22 :: x23 :: x24 :: x25 :: x26 :: x27 :: x28 :: x29 :: x30 :: x31 :: x32 :: x33 :: x34 :: x35 :: x36 :: x37 :: x38 :: x39 :: x40 :: x41 :: x42 :: x43 :: x44 :: x45 :: x46 :: x47 :: x48 :: x49 :: x50 :: x51 :: x52 :: x53 :: x54 :: x55 :: x56 :: x57 :: x58 :: x59 :: x60 :: x61 :: x62 :: x63 :: x64 :: x65 :: x66 :: x67 :: x68 :: x69 :: x70 :: x71 :: x72 :: x73 :: x74 :: x75 :: x76 :: x77 :: x78 :: x79 :: x80 :: x81 :: x82 :: x83 :: x84 :: x85 :: x86 :: x87 :: x88 :: x89 :: x90 :: x91 :: x92 :: x93 :: x94 :: x95 :: x96 :: x97 :: x98 :: x99 :: x100 :: x101 :: x102 :: x103 :: x104 :: x105 :: x106 :: x107 :: x108 :: x109 :: x110 :: x111 :: x112 :: x113 :: x114 :: x115 :: x116 :: x117 :: x118 :: x119 :: x120 :: x121 :: x122 :: x123 :: x124 :: x125 :: x126 :: x127 :: x128 :: x129 :: x130 :: x131 :: x132 :: x133 :: x134 :: x135 :: x136 :: x137 :: x138 :: x139 :: x140 :: x141 :: x142 :: x143 :: x144 :: x145 :: x146 :: x147 :: x148 :: x149 :: x150 :: x151 :: x152 :: x153 :: x154 :: x155 :: x156 :: x157 :: x158 :: x159 :: x160 :: x161 :: x162 :: x163 :: x164 :: x165 :: x166 :: x167 :: x168 :: x169 :: x170 :: x171 :: x172 :: x173 :: x174 :: x175 :: x176 :: x177 :: x178 :: x179 :: x180 :: x181 :: x182 :: x183 :: x184 :: x185 :: x186 :: x187 :: x188 :: []), []⟩ w := by
  have HK := Lib.hid hQ; have HKP := Lib.hid hQp
  clear hQ hQp
  conv => arg 2; whnf
  have hl := Fr.len (dv := dv) (rv := rv) HF.out
  obtain ⟨RF, hRF⟩ : ∃ R, f.cells dv rv = R := ⟨_, rfl⟩
  have HRF := Lib.hid hRF
  rw [hRF] at hl HZ
  have HL := Lib.hid hl
  clear hl hRF
  have HROW := Lib.hid HS.out.wd.row
  have HZR := Lib.hid (HS.out.row _ HZ.out)
  have g0 : ∀ z : In (fun y => y.heap[g]? = some (.cells (wdRow po pt pp pq).toArray WDT (0, 0)) ∧ y.heap[gz]? = some (.cells RF.toArray FRT (0, 0))), z.w.cell? ⟨g, 3, none⟩ = some (.pointer (some ⟨pq, 0, none⟩)) := fun z => cell_row z.h.1 3 _ rfl
  refine wp_plan (.t 0 (.t 1 (.t 2 (.t 3 (.t 4 (.u 5 .done)))))) (fun y => y.heap[g]? = some (.cells (wdRow po pt pp pq).toArray WDT (0, 0)) ∧ y.heap[gz]? = some (.cells RF.toArray FRT (0, 0))) (by kernel_rfl) (by kernel_rfl) (by kernel_rfl) (fun c a d v w h => by first | (cases d <;> exact h) | exact HKP.out c a d v w h) ⟨HROW.out, HZR.out⟩ ?_
  replace HS := Lib.hid HS.out.drew
  have hS : w.drew.heap[g]? = _ ∧ w.drew.heap[gz]? = _ := ⟨HROW.out, HZR.out⟩
  generalize w.drew = wd at HS hS ⊢
  haveI hne : Nonempty (In (fun y => y.heap[g]? = some (.cells (wdRow po pt pp pq).toArray WDT (0, 0)) ∧ y.heap[gz]? = some (.cells RF.toArray FRT (0, 0)))) := ⟨⟨wd, hS⟩⟩
  repeat (first | (refine plan_t_load (by rfl) (by kernel_rfl) FRT _ rfl gz 0 rfl RF _ (fun y hy => rngL hy.2) Try.underlying53 rfl (by rw [HL.out]; rfl) ?_; simp only [Act.put, List.setIfInBounds_toArray, List.set_cons_succ, List.set_cons_zero]) | (refine plan_t (by rfl) ?_; (first | go_big_quiet_skip | (go_big_quiet_want; go_big_quiet_op; go_big_quiet_on)); refine wpQuiet_nil ?_))
  clear hS g0
  refine plan_us (by rfl) (by kernel_rfl) ?_
  intro K hK
  obtain ⟨hh, hth⟩ := HS.out.wd.hq
  have hcl := rlost20_any wd pq B4 N q hh hth f HF.out dv rv HTI.out.due (by omega)
  rw [HRF.out] at hcl
  have HCL := Lib.hid hcl
  clear hcl hth
  go_wp2_with fail
  refine Calls.mono HCL.out ?_
  rintro e w1 ⟨rfl, C, h4, hu, hth⟩
  replace HS := Lib.hid (HS.out.stepQ hu (q' := (lostM q f.kind f.se)) ⟨_, hth⟩ (by omega))
  clear hu hth HCL
  go_wp2_with fail
  refine ⟨⟨HS.out.wd.row, HS.out.row _ HZ.out⟩, ?_⟩
  clear hne
  show Q _ _ _
  exact HK.out _ _ _ _ _ _ C _ HS
set_option maxRecDepth 100000 in
set_option maxHeartbeats 4000000 in
theorem wd_end {x1 x2 x4 x5 x6 x7 x8 x9 x10 x11 x12 x13 x14 x15 x16 x17 x18 x19 x20 x21 x22 x23 x24 x25 x26 x27 x28 x29 x30 x31 x32 x33 x34 x35 x36 x37 x38 x39 x40 x41 x42 x43 x44 x45 x46 x47 x48 x49 x50 x51 x52 x53 x54 x55 x56 x57 x58 x59 x60 x61 x62 x63 x64 x65 x66 x67 x68 x69 x70 x71 x72 x73 x74 x75 x76 x77 x78 x79 x80 x81 x82 x83 x84 x85 x86 x87 x88 x89 x90 x91 x92 x93 x94 x95 x96 x97 x98 x99 x100 x101 x102 x103 x104 x105 x106 x107 x108 x109 x110 x111 x112 x113 x114 x115 x116 x117 x118 x119 x120 x121 x122 x123 x124 x125 x126 x127 x128 x129 x130 x131 x132 x133 x134 x135 x136 x137 x138 x139 x140 x141 x142 x143 x144 x145 x146 x147 x148 x149 x150 x151 x152 x153 x154 x155 x156 x157 x158 x159 x160 x161 x162 x163 x164 x165 x166 x167 x168 x169 x170 x171 x172 x173 x174 x175 x176 x177 x178 x179 x180 x181 x182 x183 x184 x185 x186 x187 x188 : Value} {g gx po pt pp pq bse N : Nat} {B1 B2 B3 B4 : List Nat} {o p : Ow} {t q : Th} {R : List AuxR} {w0 : World} {x : AskV} (w : World) {Q : Exit → Act → World → Prop}
    (HS : Hid (Sx bse w0 w g po pt pp pq B1 B2 B3 B4 N o t o t R)) (HX : Hid ((gx, x.cells, AKT) ∈ R)) (HA : Hid (U64 x.se)) (hNN : N ≤ 10000)
    (hQp : ∀ c a d v w, Q (.panic c) (a.put d v) w → Q (.panic c) a w)
    (hQ : ∀ (y178 y179 y180 y181 y182 y183 y184 y185 y186 y187 y188 : Value) (w' : World), Hid (Sx bse w0 w' g po pt pp pq B1 B2 B3 B4 N o t o t R) → Q .normal ⟨List.toArray (.pointer (some ⟨g, 0, none⟩) :: x1 :: x2 :: .pointer (some ⟨gx, 0, none⟩) :: .bool true :: x5 :: x6 :: x7 :: x8 :: x9 :: x10 :: x11 :: x12 :: x13 :: x14 :: x15 :: x16 :: x17 :: x18 :: x19 :: x20 :: x21 :: x22 :: x23 :: x24 :: x25 :: x26 :: x27 :: x28 :: x29 :: x30 :: x31 :: x32 :: x33 :: x34 :: x35 :: x36 :: x37 :: x38 :: x39 :: x40 :: x41 :: x42 :: x43 :: x44 :: x45 :: x46 :: x47 :: x48 :: x49 :: x50 :: x51 :: x52 :: x53 :: x54 :: x55 :: x56 :: x57 :: x58 :: x59 :: x60 :: x61 :: x62 :: x63 :: x64 :: x65 :: x66 :: x67 :: x68 :: x69 :: x70 :: x71 :: x72 :: x73 :: x74 :: x75 :: x76 :: x77 :: x78 :: x79 :: x80 :: x81 :: x82 :: x83 :: x84 :: x85 :: x86 :: x87 :: x88 :: x89 :: x90 :: x91 :: x92 :: x93 :: x94 :: x95 :: x96 :: x97 :: x98 :: x99 :: x100 :: x101 :: x102 :: x103 :: x104 :: x105 :: x106 :: x107 :: x108 :: x109 :: x110 :: x111 :: x112 :: x113 :: x114 :: x115 :: x116 :: x117 :: x118 :: x119 :: x120 :: x121 :: x122 :: x123 :: x124 :: x125 :: x126 :: x127 :: x128 :: x129 :: x130 :: x131 :: x132 :: x133 :: x134 :: x135 :: x136 :: x137 :: x138 :: x139 :: x140 :: x141 :: x142 :: x143 :: x144 :: x145 :: x146 :: x147 :: x148 :: x149 :: x150 :: x151 :: x152 :: x153 :: x154 :: x155 :: x156 :: x157 :: x158 :: x159 :: x160 :: x161 :: x162 :: x163 :: x164 :: x165 :: x166 :: x167 :: x168 :: x169 :: x170 :: x171 :: x172 :: x173 :: x174 :: x175 :: x176 :: x177 :: y178 :: y179 :: y180 :: y181 :: y182 :: y183 :: y184 :: y185 :: y186 :: y187 :: y188 :: []), []⟩ w') :
    Code.wp Try.prog (((Try.f6.body.bind (subRegion 33)).getD .skip)) Q ⟨List.toArray (.pointer (some ⟨g, 0, none⟩) :: x1 :: x2 :: .pointer (some ⟨gx, 0, none⟩) :: x4 :: x5 :: x6 :: x7 :: x8 :: x9 :: x10 :: x11 :: x12 :: x13 :: x14 :: x15 :: x16 :: x17 :: x18 :: x19 :: x20 :: x21 :: x22 :: x23 :: x24 :: x25 :: x26 :: x27 :: x28 :: x29 :: x30 :: x31 :: x32 :: x33 :: x34 :: x35 :: x36 :: x37 :: x38 :: x39 :: x40 :: x41 :: x42 :: x43 :: x44 :: x45 :: x46 :: x47 :: x48 :: x49 :: x50 :: x51 :: x52 :: x53 :: x54 :: x55 :: x56 :: x57 :: x58 :: x59 :: x60 :: x61 :: x62 :: x63 :: x64 :: x65 :: x66 :: x67 :: x68 :: x69 :: x70 :: x71 :: x72 :: x73 :: x74 :: x75 :: x76 :: x77 :: x78 :: x79 :: x80 :: x81 :: x82 :: x83 :: x84 :: x85 :: x86 :: x87 :: x88 :: x89 :: x90 :: x91 :: x92 :: x93 :: x94 :: x95 :: x96 :: x97 :: x98 :: x99 :: x100 :: x101 :: x102 :: x103 :: x104 :: x105 :: x106 :: x107 :: x108 :: x109 :: x110 :: x111 :: x112 :: x113 :: x114 :: x115 :: x116 :: x117 :: x118 :: x119 :: x120 :: x121 :: x122 :: x123 :: x124 :: x125 :: x126 :: x127 :: x128 :: x129 :: x130 :: x131 :: x132 :: x133 :: x134 :: x135 :: x136 :: x137 :: x138 :: x139 :: x140 :: x141 :: x142 :: x143 :: x144 :: x145 :: x146 :: x147 :: x148 :: x149 :: x150 :: x151 :: x152 :: x153 :: x154 :: x155 :: x156 :: x157 :: x158 :: x159 :: x160 :: x161 :: x162 :: x163 :: x164 :: x165 :: x166 :: x167 :: x168 :: x169 :: x170 :: x171 :: x172 :: x173 :: x174 :: x175 :: x176 :: x177 :: x178 :: x179 :: x180 :: x181 :: x182 :: x183 :: x184 :: x185 :: x186 :: x187 :: x188 :: []), []⟩ w := by
  have HK := Lib.hid hQ; have HKP := Lib.hid hQp
  clear hQ hQp
  conv => arg 2; whnf
  obtain ⟨hs1, hs2⟩ := HA.out
  obtain ⟨se, hse⟩ : ∃ s, x.se = s := ⟨_, rfl⟩
  have c2 := cell_row (HS.out.row _ HX.out) 2 (.int .u64 se) (by rw [← hse]; rfl)
  rw [hse] at hs1 hs2
  clear hse
  have h1 := fun W (h : Sx bse w0 W g po pt pp pq B1 B2 B3 B4 N o t o t R) => wsame_any W h.wd [se % 256, 0, 0, 0, 0, 0, 0, 0] (cid_of2 (by omega) (by omega)) hNN
  have h2 := fun W (h : Sx bse w0 W g po pt pp pq B1 B2 B3 B4 N o t o t R) => wsame_any W h.wd [1, 0, 0, 0, 0, 0, 0, 0] (cid_of2 (by omega) (by omega)) hNN
  simp only [cidV, List.map_cons, List.map_nil] at h1 h2
  have H1 := Lib.hid h1; have H2 := Lib.hid h2
  clear h1 h2
  go_wp2_with fail
  refine Calls.mono (H1.out w HS.out) ?_
  rintro e w1 ⟨rfl, hb⟩
  replace HS := Lib.hid (HS.out.below hb)
  clear hb c2
  go_wp2_with fail
  refine Calls.mono (H2.out w1 HS.out) ?_
  rintro e w2 ⟨rfl, hb⟩
  replace HS := Lib.hid (HS.out.below hb)
  clear hb
  go_wp2_with fail
  exact HK.out _ _ _ _ _ _ _ _ _ _ _ _ HS
end Go.Proofs.Ytjdcmhclamjcjaa
namespace Go.Proofs.Ytjdcmhclamjcjaa
open Go.RowKit
set_option linter.unusedVariables false
set_option linter.unusedSimpArgs false

def DoR (bse : Nat) (w0 : World) (g po pt pp pq : Nat) (o : Ow) (t : Th) (R : List AuxR) (w' : World) : Prop :=
  ∃ B1 B2 B3 B4 N o' t', Sx bse w0 w' g po pt pp pq B1 B2 B3 B4 N o' t' o' t' R ∧ TI t' ∧ TW t' ∧ t'.came.length ≤ t.came.length + 1 ∧ o'.nx ≤ o.nx + 1
theorem onM_clen (t : Th) (k se li : Int) (c : List Int) : (onM t k se li c).1.came.length ≤ t.came.length + 1 := by
  unfold onM; split
  · exact Nat.le_succ _
  · split
    · exact Nat.le_succ _
    · split
      · exact Nat.le_succ _
      · simp [dropM]
theorem turnM_clen (t : Th) : (turnM t).1.came.length ≤ t.came.length + 1 := by unfold turnM; cases t.L.find? (fun x => decide (t.now.1 < x.1)) <;> simp [dropM]
theorem lostM_clen (t : Th) (k s : Int) : (lostM t k s).came.length ≤ t.came.length + 1 := by unfold lostM; split <;> simp
theorem issT_nx (o : Ow) : (issT o).2.2.nx ≤ o.nx + 1 := by unfold issT; split <;> simp only <;> omega
theorem issT_kind (o : Ow) : (issT o).1.kind = 0 ∨ (issT o).1.kind = 24 ∨ (issT o).1.kind = 25 := by unfold issT; split; exact .inl rfl; exact .inr (.inl rfl)
theorem nxtT_kind (t : Th) : (nxtT t).1.kind = 0 ∨ (nxtT t).1.kind = 24 ∨ (nxtT t).1.kind = 25 := by unfold nxtT; cases t.due; exact .inl rfl; exact .inr (.inr rfl)
theorem Sx.mem {bse : Nat} {w0 w : World} {g po pt pp pq N : Nat} {B1 B2 B3 B4 : List Nat} {o p : Ow} {t q : Th} {R : List AuxR} {r : AuxR} (h : Sx bse w0 w g po pt pp pq B1 B2 B3 B4 N o t p q (r :: R)) {a : AuxR} (hm : a ∈ R) : a ∈ r :: R := List.mem_cons_of_mem _ hm
theorem fr_ok {f : Fr} (h : f.Wf) : nmK.ok (f.se, f.cid) := ⟨h.se, h.cidl, h.cid⟩
set_option maxRecDepth 100000 in
set_option maxHeartbeats 16000000 in
theorem wdo_any (w0 w : World) {g po pt pp pq bse N : Nat} {B1 B2 B3 B4 : List Nat} {o : Ow} {t : Th} {R : List AuxR} (hS : Sx bse w0 w g po pt pp pq B1 B2 B3 B4 N o t o t R) (ti : TI t) (tw : TW t) (x : AskV) (hx0 : ∀ W, Below bse w0 W → x.At W) (hN : N ≤ 1000) (hnx : o.nx ≤ 1000000) :
    Calls Try.prog 6 #[.pointer (some ⟨g, 0, none⟩), .agg x.cells.toArray] w fun e w' => e = .returned (.bool true) ∧ DoR bse w0 g po pt pp pq o t R w' := by
  have HS := Lib.hid hS; have HTI := Lib.hid ti; have HTW := Lib.hid tw; have HA0 := Lib.hid hx0
  have hx := hx0 w hS.low
  have HA := Lib.hid hx
  have HUS := Lib.hid hx.se
  obtain ⟨RX, hRX⟩ : ∃ R, x.cells = R := ⟨_, rfl⟩
  have HRX := Lib.hid hRX
  have H0 : Hid (RX[0]? = some (.int .i64 x.k)) := Lib.hid (by rw [← hRX]; rfl)
  have H1 : Hid (RX[1]? = some (.int .i64 x.n)) := Lib.hid (by rw [← hRX]; rfl)
  have H2 : Hid (RX[2]? = some (.int .u64 x.se)) := Lib.hid (by rw [← hRX]; rfl)
  obtain ⟨k, hk⟩ : ∃ k, x.k = k := ⟨_, rfl⟩
  have hk1 := hx.k
  rw [hk] at hk1 H0
  have HK := Lib.hid hk
  obtain ⟨n, hn⟩ : ∃ k, x.n = k := ⟨_, rfl⟩
  have hn1 := hx.n
  rw [hn] at hn1 H1
  unfold I64 at hk1 hn1
  rw [hRX]
  clear hS ti tw hx hx0 hRX hk hn
  go_enter Try.func6, Try.ntmps6
  go_upto_region 1 with fail
  change Code.wp _ _ _ _ (w.alloc (.cells RX.toArray AKT))
  replace HA := Lib.hid (HA.out.below ((Below.refl w.heap.size w).alloc (Nat.le_refl _) (.cells RX.toArray AKT)))
  replace HS := Lib.hid (HS.out.boxed RX AKT)
  generalize w.alloc (.cells RX.toArray AKT) = w1 at HS HA ⊢
  obtain ⟨gx, hgx⟩ : ∃ g, w.heap.size = g := ⟨_, rfl⟩
  rw [hgx] at HS ⊢
  clear hgx
  have HX : Hid ((gx, RX, AKT) ∈ ((gx, RX, AKT) :: R)) := Lib.hid (List.mem_cons_self ..)
  have HXA : Hid ((gx, x.cells, AKT) ∈ ((gx, RX, AKT) :: R)) := Lib.hid (by rw [HRX.out]; exact List.mem_cons_self ..)
  have HOK0 : Hid (cidOk (retT o.L x.se).1) := Lib.hid (retT_ok x.se (OwnAt.ok HS.out.wd.ho))
  have c0 := cell_row (HS.out.row _ HX.out) 0 _ H0.out
  by_cases h2 : k = 2
  · subst h2
    go_upto_region 7 with fail
    try clear c0
    refine do_ret _ HS (by omega) HX H2 HUS.out (fun c a d v w h => by cases d <;> exact h) ?_
    rintro _ _ _ _ _ _ _ _ _ _ gz C1 w2 HS2
    replace HS := HS2
    clear HS2
    replace HX := Lib.hid (HS.out.mem HX.out)
    replace HXA := Lib.hid (HS.out.mem HXA.out)
    go_upto_region 8 with fail
    try clear c0
    refine do_rret _ HS (by omega) HX H2 HUS.out (fun c a d v w h => by cases d <;> exact h) ?_
    rintro _ _ _ _ _ _ _ _ _ _ gy C3 w3 HS2
    replace HS := HS2
    clear HS2
    replace HX := Lib.hid (HS.out.mem HX.out)
    replace HXA := Lib.hid (HS.out.mem HXA.out)
    skip
    have HOK : Hid (cidOk (retT o.L x.se).1) := HOK0
    obtain ⟨c, hc⟩ : ∃ c, (retT o.L x.se).1 = c := ⟨_, rfl⟩
    obtain ⟨er, her⟩ : ∃ c, (retT o.L x.se).2.1 = c := ⟨_, rfl⟩
    rw [hc] at HOK
    rw [her]
    obtain ⟨RC, hRC⟩ : ∃ R, c.map (Value.int .u8) = R := ⟨_, rfl⟩
    have HRC := Lib.hid hRC
    have HR1 := Lib.hid (HS.out.row _ (List.mem_cons_self ..))
    have HR2 := Lib.hid (HS.out.row _ (List.mem_cons_of_mem _ (List.mem_cons_self ..)))
    unfold rowOf at HR1 HR2
    simp only [hc, hRC] at HR1 HR2
    have hl8 : RC.length = 8 := by rw [← hRC]; simp [HOK.out.1]
    have HL8 := Lib.hid hl8
    have hcc : (c == c) = true := by simp
    have hee : (er != er) = false := by simp
    clear hc her hRC hl8 HOK0
    go_upto_region 33 with (first | (refine wpList_load_mid rfl 38 _ rfl gz 0 rfl RC _ (rngL HR2.out) Try.underlying38 rfl (by rw [HL8.out]; rfl) ?_) | (refine wpList_load_mid rfl 38 _ rfl gy 0 rfl RC _ (rngL HR1.out) Try.underlying38 rfl (by rw [HL8.out]; rfl) ?_) | (refine wpList_neq_cid rfl _ _ _ rfl c c (by rw [HRC.out]; rfl) (by rw [HRC.out]; rfl) HOK.out HOK.out ?_; rw [hcc]; simp only [Bool.not_true, Bool.not_false]) | fail)
    go_upto_region 33 with fail
    try clear c0
    refine wd_end _ (x := x) (p := o) (q := t) HS HXA HUS (by omega) (fun c a d v w h => by cases d <;> exact h) ?_
    rintro _ _ _ _ _ _ _ _ _ _ _ w99 HS99
    go_wp2_with fail
    go_ret
    exact ⟨rfl, _, _, _, _, _, _, _, HS99.out.less (fun r hr => by repeat (first | exact hr | refine List.mem_cons_of_mem _ ?_)), HTI.out, HTW.out, Nat.le_succ _, by show o.nx ≤ o.nx + 1; omega⟩
  · by_cases h3 : k = 3
    · skip
      subst h3
      go_upto_region 14 with fail
      try clear c0
      refine do_new _ HS HXA (Lib.hid ⟨HA.out.n, HA.out.se, HA.out.li⟩) (fun c a d v w h => by cases d <;> exact h) ?_
      rintro _ _ _ _ _ _ _ _ _ _ _ _ _ _ _ gz f w2 HF HNE HS2
      replace HA : Hid (x.At w2) := Lib.hid (HA0.out w2 HS2.out.low)
      replace HS := HS2
      clear HS2
      replace HX := Lib.hid (HS.out.mem HX.out)
      replace HXA := Lib.hid (HS.out.mem HXA.out)
      have c0 := cell_row (HS.out.row _ HX.out) 0 _ H0.out
      have HDR : Hid (NILV.oneCell' = true ∧ NILV.oneCell' = true) := Lib.hid ⟨rfl, rfl⟩
      go_upto_region 17 with fail
      try clear c0
      refine do_on _ (f := f) (q := t) HS (Lib.hid (List.mem_cons_self ..)) HF HDR HTI HTW (by omega) (fun c a d v w h => by cases d <;> exact h) ?_
      rintro _ _ _ _ _ _ _ _ _ _ _ _ C2 C4 w4 HS2
      replace HS := HS2
      clear HS2
      have hto := TI.on HTI.out HTW.out (k := f.kind) (li := f.li) (fr_ok HF.out)
      go_upto_region 33 with fail
      try clear c0
      refine wd_end _ (x := x) (p := o) (q := t) HS HXA HUS (by omega) (fun c a d v w h => by cases d <;> exact h) ?_
      rintro _ _ _ _ _ _ _ _ _ _ _ w99 HS99
      go_wp2_with fail
      go_ret
      exact ⟨rfl, _, _, _, _, _, _, _, HS99.out.less (fun r hr => by repeat (first | exact hr | refine List.mem_cons_of_mem _ ?_)), hto.1, hto.2, onM_clen .., by show o.nx ≤ o.nx + 1; omega⟩
    · by_cases h4 : k = 4
      · skip
        subst h4
        go_upto_region 14 with fail
        try clear c0
        refine do_new _ HS HXA (Lib.hid ⟨HA.out.n, HA.out.se, HA.out.li⟩) (fun c a d v w h => by cases d <;> exact h) ?_
        rintro _ _ _ _ _ _ _ _ _ _ _ _ _ _ _ gz f w2 HF HNE HS2
        replace HA : Hid (x.At w2) := Lib.hid (HA0.out w2 HS2.out.low)
        replace HS := HS2
        clear HS2
        replace HX := Lib.hid (HS.out.mem HX.out)
        replace HXA := Lib.hid (HS.out.mem HXA.out)
        have c0 := cell_row (HS.out.row _ HX.out) 0 _ H0.out
        have HDR : Hid (NILV.oneCell' = true ∧ NILV.oneCell' = true) := Lib.hid ⟨rfl, rfl⟩
        go_upto_region 17 with fail
        try clear c0
        refine do_on _ (f := f) (q := t) HS (Lib.hid (List.mem_cons_self ..)) HF HDR HTI HTW (by omega) (fun c a d v w h => by cases d <;> exact h) ?_
        rintro _ _ _ _ _ _ _ _ _ _ _ _ C2 C4 w4 HS2
        replace HS := HS2
        clear HS2
        have hto := TI.on HTI.out HTW.out (k := f.kind) (li := f.li) (fr_ok HF.out)
        go_upto_region 33 with fail
        try clear c0
        refine wd_end _ (x := x) (p := o) (q := t) HS HXA HUS (by omega) (fun c a d v w h => by cases d <;> exact h) ?_
        rintro _ _ _ _ _ _ _ _ _ _ _ w99 HS99
        go_wp2_with fail
        go_ret
        exact ⟨rfl, _, _, _, _, _, _, _, HS99.out.less (fun r hr => by repeat (first | exact hr | refine List.mem_cons_of_mem _ ?_)), hto.1, hto.2, onM_clen .., by show o.nx ≤ o.nx + 1; omega⟩
      · by_cases h5 : k = 5
        · skip
          subst h5
          go_upto_region 14 with fail
          try clear c0
          refine do_new _ HS HXA (Lib.hid ⟨HA.out.n, HA.out.se, HA.out.li⟩) (fun c a d v w h => by cases d <;> exact h) ?_
          rintro _ _ _ _ _ _ _ _ _ _ _ _ _ _ _ gz f w2 HF HNE HS2
          replace HA : Hid (x.At w2) := Lib.hid (HA0.out w2 HS2.out.low)
          replace HS := HS2
          clear HS2
          have HX8 := HX
          have HXA8 := HXA
          replace HX := Lib.hid (HS.out.mem HX.out)
          replace HXA := Lib.hid (HS.out.mem HXA.out)
          have c0 := cell_row (HS.out.row _ HX.out) 0 _ H0.out
          go_upto_region 16 with fail
          try clear c0
          refine do_drawn _ (Z := f.cells NILV NILV) HS (Lib.hid (Fr.len HF.out)) HNE HXA8 HA (fun c a d v w h => by cases d <;> exact h) ?_
          rintro _ _ _ f2 dv rv w3 HF2 HDR HS2
          replace HS := HS2
          clear HS2
          replace HX := Lib.hid (HS.out.mem HX8.out)
          replace HXA := Lib.hid (HS.out.mem HXA8.out)
          clear HX8 HXA8
          clear HF HNE f
          have HF := HF2
          clear HF2
          go_upto_region 17 with fail
          try clear c0
          refine do_on _ (f := f2) (q := t) HS (Lib.hid (List.mem_cons_self ..)) HF HDR HTI HTW (by omega) (fun c a d v w h => by cases d <;> exact h) ?_
          rintro _ _ _ _ _ _ _ _ _ _ _ _ C2 C4 w4 HS2
          replace HS := HS2
          clear HS2
          have hto := TI.on HTI.out HTW.out (k := f2.kind) (li := f2.li) (fr_ok HF.out)
          go_upto_region 33 with fail
          try clear c0
          refine wd_end _ (x := x) (p := o) (q := t) HS HXA HUS (by omega) (fun c a d v w h => by cases d <;> exact h) ?_
          rintro _ _ _ _ _ _ _ _ _ _ _ w99 HS99
          go_wp2_with fail
          go_ret
          exact ⟨rfl, _, _, _, _, _, _, _, HS99.out.less (fun r hr => by repeat (first | exact hr | refine List.mem_cons_of_mem _ ?_)), hto.1, hto.2, onM_clen .., by show o.nx ≤ o.nx + 1; omega⟩
        · by_cases h6 : k = 6
          · skip
            subst h6
            go_upto_region 20 with fail
            try clear c0
            refine do_turn _ (q := t) HS HTI hN (fun c a d v w h => by cases d <;> exact h) ?_
            rintro _ _ _ _ _ _ _ _ _ _ C2 C4 w2 HS2
            replace HS := HS2
            clear HS2
            go_upto_region 33 with fail
            try clear c0
            refine wd_end _ (x := x) (p := o) (q := t) HS HXA HUS (by omega) (fun c a d v w h => by cases d <;> exact h) ?_
            rintro _ _ _ _ _ _ _ _ _ _ _ w99 HS99
            go_wp2_with fail
            go_ret
            exact ⟨rfl, _, _, _, _, _, _, _, HS99.out.less (fun r hr => by repeat (first | exact hr | refine List.mem_cons_of_mem _ ?_)), TI.turn HTI.out, TW.turn HTW.out HTI.out, turnM_clen _, by show o.nx ≤ o.nx + 1; omega⟩
          · by_cases h7 : k = 7
            · skip
              subst h7
              have HWF : Hid ((nxtT t).1.Wf) := Lib.hid (nxtT_wf t (by obtain ⟨_, _, _, _, _, _, _, h⟩ := HS.out.wd.ht; exact fun d hd => h.r.2.1 d hd))
              go_upto_region 23 with fail
              try clear c0
              refine do_nxt _ (gx := gx) HS (by omega) (fun c a d v w h => by cases d <;> exact h) ?_
              rintro _ _ _ _ _ _ _ _ gz C1 w2 HS2
              replace HS := HS2
              clear HS2
              replace HX := Lib.hid (HS.out.mem HX.out)
              replace HXA := Lib.hid (HS.out.mem HXA.out)
              go_upto_region 24 with fail
              try clear c0
              refine do_rnxt _ (gx := gx) HS (by omega) (fun c a d v w h => by cases d <;> exact h) ?_
              rintro _ _ _ _ _ _ _ _ gy C3 w3 HS2
              replace HS := HS2
              clear HS2
              replace HX := Lib.hid (HS.out.mem HX.out)
              replace HXA := Lib.hid (HS.out.mem HXA.out)
              obtain ⟨b, hb⟩ : ∃ b, (nxtT t).2 = b := ⟨_, rfl⟩
              rw [hb]
              clear hb
              have HR1 := Lib.hid (HS.out.row _ (List.mem_cons_self ..))
              have HR2 := Lib.hid (HS.out.row _ (List.mem_cons_of_mem _ (List.mem_cons_self ..)))
              unfold rowOf at HR1 HR2
              have hsm := fun W => same4eq_any W (nxtT t).1 HWF.out NILV NILV (nxtT_kind t)
              have hl := Fr.len (dv := NILV) (rv := NILV) HWF.out
              obtain ⟨RF, hRF⟩ : ∃ R, (nxtT t).1.cells NILV NILV = R := ⟨_, rfl⟩
              simp only [hRF] at HR1 HR2 hsm hl
              have HSM := Lib.hid hsm; have HL := Lib.hid hl
              clear hsm hl hRF
              cases b
              · skip
                go_wp2_with (first | (refine wpList_load_g 53 _ rfl (by kernel_rfl) gz 0 rfl RF _ (rngL HR2.out) Try.underlying53 rfl (by rw [HL.out]; rfl) ?_) | (refine wpList_load_g 53 _ rfl (by kernel_rfl) gy 0 rfl RF _ (rngL HR1.out) Try.underlying53 rfl (by rw [HL.out]; rfl) ?_) | fail)
                refine Calls.mono (HSM.out _) ?_
                rintro e w9 ⟨rfl, hb9⟩
                replace HS := Lib.hid (HS.out.below hb9)
                clear hb9 HR1 HR2
                go_upto_region 33 with fail
                try clear c0
                refine wd_end _ (x := x) (p := o) (q := t) HS HXA HUS (by omega) (fun c a d v w h => by cases d <;> exact h) ?_
                rintro _ _ _ _ _ _ _ _ _ _ _ w99 HS99
                go_wp2_with fail
                go_ret
                exact ⟨rfl, _, _, _, _, _, _, _, HS99.out.less (fun r hr => by repeat (first | exact hr | refine List.mem_cons_of_mem _ ?_)), TI.next HTI.out, TW.next HTW.out, Nat.le_succ _, by show o.nx ≤ o.nx + 1; omega⟩
              · skip
                go_wp2_with (first | (refine wpList_load_g 53 _ rfl (by kernel_rfl) gz 0 rfl RF _ (rngL HR2.out) Try.underlying53 rfl (by rw [HL.out]; rfl) ?_) | (refine wpList_load_g 53 _ rfl (by kernel_rfl) gy 0 rfl RF _ (rngL HR1.out) Try.underlying53 rfl (by rw [HL.out]; rfl) ?_) | fail)
                refine Calls.mono (HSM.out _) ?_
                rintro e w9 ⟨rfl, hb9⟩
                replace HS := Lib.hid (HS.out.below hb9)
                clear hb9 HR1 HR2
                go_upto_region 33 with fail
                try clear c0
                refine wd_end _ (x := x) (p := o) (q := t) HS HXA HUS (by omega) (fun c a d v w h => by cases d <;> exact h) ?_
                rintro _ _ _ _ _ _ _ _ _ _ _ w99 HS99
                go_wp2_with fail
                go_ret
                exact ⟨rfl, _, _, _, _, _, _, _, HS99.out.less (fun r hr => by repeat (first | exact hr | refine List.mem_cons_of_mem _ ?_)), TI.next HTI.out, TW.next HTW.out, Nat.le_succ _, by show o.nx ≤ o.nx + 1; omega⟩
            · by_cases h8 : k = 8
              · skip
                subst h8
                go_upto_region 28 with fail
                try clear c0
                refine do_retf _ HS HXA HUS (fun c a d v w h => by cases d <;> exact h) ?_
                rintro _ _ _ gz w2 HNE HS2
                replace HA : Hid (x.At w2) := Lib.hid (HA0.out w2 HS2.out.low)
                replace HS := HS2
                clear HS2
                have HF : Hid ((retF x.se).Wf) := Lib.hid (retF_wf HUS.out)
                have HX8 := HX
                have HXA8 := HXA
                replace HX := Lib.hid (HS.out.mem HX.out)
                replace HXA := Lib.hid (HS.out.mem HXA.out)
                have c1 := cell_row (HS.out.row _ HX.out) 1 _ H1.out
                by_cases hr : n.tmod 5 = 4
                · skip
                  have hre : (n.tmod 5 == 4) = true := by simpa using hr
                  have HRE := Lib.hid hr
                  clear hr
                  go_upto_region 30 with fail
                  clear c1 hre
                  refine do_drawn2 _ (Z := (retF x.se).cells NILV NILV) HS (Lib.hid (Fr.len HF.out)) HNE HXA8 HA (fun c a d v w h => by cases d <;> exact h) ?_
                  rintro _ _ _ f dv rv w3 HF2 HDR HS2
                  replace HS := HS2
                  replace HX := Lib.hid (HS.out.mem HX8.out)
                  replace HXA := Lib.hid (HS.out.mem HXA8.out)
                  clear HS2 HF
                  have HF := HF2
                  clear HF2
                  go_upto_region 31 with fail
                  try clear c1 hre
                  refine do_lost _ (f := f) HS (Lib.hid (List.mem_cons_self ..)) HF HDR HTI (by omega) (fun c a d v w h => by cases d <;> exact h) ?_
                  rintro _ _ _ _ _ _ C2 w5 HS2
                  replace HS := HS2
                  clear HS2
                  go_upto_region 32 with fail
                  try clear c0
                  refine do_rlost _ (f := f) HS (Lib.hid (List.mem_cons_self ..)) HF HDR HTI (by omega) (fun c a d v w h => by cases d <;> exact h) ?_
                  rintro _ _ _ _ _ _ C4 w6 HS2
                  replace HS := HS2
                  clear HS2
                  go_upto_region 33 with fail
                  try clear c0
                  refine wd_end _ (x := x) (p := o) (q := t) HS HXA HUS (by omega) (fun c a d v w h => by cases d <;> exact h) ?_
                  rintro _ _ _ _ _ _ _ _ _ _ _ w99 HS99
                  go_wp2_with fail
                  go_ret
                  exact ⟨rfl, _, _, _, _, _, _, _, HS99.out.less (fun r hr => by repeat (first | exact hr | refine List.mem_cons_of_mem _ ?_)), TI.lost HTI.out _ _, TW.lost HTW.out _ _, lostM_clen .., by show o.nx ≤ o.nx + 1; omega⟩
                · skip
                  have hre : (n.tmod 5 == 4) = false := by simpa using hr
                  have HRE := Lib.hid hr
                  clear hr
                  have HDR : Hid (NILV.oneCell' = true ∧ NILV.oneCell' = true) := Lib.hid ⟨rfl, rfl⟩
                  go_upto_region 31 with fail
                  try clear c1 hre
                  refine do_lost _ (f := (retF x.se)) HS (Lib.hid (List.mem_cons_self ..)) HF HDR HTI (by omega) (fun c a d v w h => by cases d <;> exact h) ?_
                  rintro _ _ _ _ _ _ C2 w5 HS2
                  replace HS := HS2
                  clear HS2
                  go_upto_region 32 with fail
                  try clear c0
                  refine do_rlost _ (f := (retF x.se)) HS (Lib.hid (List.mem_cons_self ..)) HF HDR HTI (by omega) (fun c a d v w h => by cases d <;> exact h) ?_
                  rintro _ _ _ _ _ _ C4 w6 HS2
                  replace HS := HS2
                  clear HS2
                  go_upto_region 33 with fail
                  try clear c0
                  refine wd_end _ (x := x) (p := o) (q := t) HS HXA HUS (by omega) (fun c a d v w h => by cases d <;> exact h) ?_
                  rintro _ _ _ _ _ _ _ _ _ _ _ w99 HS99
                  go_wp2_with fail
                  go_ret
                  exact ⟨rfl, _, _, _, _, _, _, _, HS99.out.less (fun r hr => by repeat (first | exact hr | refine List.mem_cons_of_mem _ ?_)), TI.lost HTI.out _ _, TW.lost HTW.out _ _, lostM_clen .., by show o.nx ≤ o.nx + 1; omega⟩
              · skip
                have e2 : (k == 2) = false := by simpa using h2
                have e3 : (k == 3) = false := by simpa using h3
                have e4 : (k == 4) = false := by simpa using h4
                have e5 : (k == 5) = false := by simpa using h5
                have e6 : (k == 6) = false := by simpa using h6
                have e7 : (k == 7) = false := by simpa using h7
                have e8 : (k == 8) = false := by simpa using h8
                have HWF : Hid ((issT o).1.Wf) := Lib.hid (issT_wf o (OwnAt.nx HS.out.wd.ho))
                go_upto_region 2 with fail
                try clear c0
                refine do_iss _ (gx := gx) HS (by omega) hnx (fun c a d v w h => by cases d <;> exact h) ?_
                rintro _ _ _ _ _ _ _ _ gz C1 w2 HS2
                replace HS := HS2
                clear HS2
                replace HX := Lib.hid (HS.out.mem HX.out)
                replace HXA := Lib.hid (HS.out.mem HXA.out)
                go_upto_region 3 with fail
                try clear c0
                refine do_riss _ (gx := gx) HS (by omega) hnx (fun c a d v w h => by cases d <;> exact h) ?_
                rintro _ _ _ _ _ _ _ _ gy C3 w3 HS2
                replace HS := HS2
                clear HS2
                replace HX := Lib.hid (HS.out.mem HX.out)
                replace HXA := Lib.hid (HS.out.mem HXA.out)
                obtain ⟨b, hb⟩ : ∃ b, (issT o).2.1 = b := ⟨_, rfl⟩
                rw [hb]
                clear hb
                have HR1 := Lib.hid (HS.out.row _ (List.mem_cons_self ..))
                have HR2 := Lib.hid (HS.out.row _ (List.mem_cons_of_mem _ (List.mem_cons_self ..)))
                unfold rowOf at HR1 HR2
                have hsm := fun W => same4eq_any W (issT o).1 HWF.out NILV NILV (issT_kind o)
                have hl := Fr.len (dv := NILV) (rv := NILV) HWF.out
                obtain ⟨RF, hRF⟩ : ∃ R, (issT o).1.cells NILV NILV = R := ⟨_, rfl⟩
                simp only [hRF] at HR1 HR2 hsm hl
                have HSM := Lib.hid hsm; have HL := Lib.hid hl
                clear hsm hl hRF
                cases b
                · skip
                  go_wp2_with (first | (refine wpList_load_g 53 _ rfl (by kernel_rfl) gz 0 rfl RF _ (rngL HR2.out) Try.underlying53 rfl (by rw [HL.out]; rfl) ?_) | (refine wpList_load_g 53 _ rfl (by kernel_rfl) gy 0 rfl RF _ (rngL HR1.out) Try.underlying53 rfl (by rw [HL.out]; rfl) ?_) | fail)
                  refine Calls.mono (HSM.out _) ?_
                  rintro e w9 ⟨rfl, hb9⟩
                  replace HS := Lib.hid (HS.out.below hb9)
                  clear hb9 HR1 HR2
                  go_upto_region 33 with fail
                  try clear c0
                  refine wd_end _ (x := x) (p := o) (q := t) HS HXA HUS (by omega) (fun c a d v w h => by cases d <;> exact h) ?_
                  rintro _ _ _ _ _ _ _ _ _ _ _ w99 HS99
                  go_wp2_with fail
                  go_ret
                  exact ⟨rfl, _, _, _, _, _, _, _, HS99.out.less (fun r hr => by repeat (first | exact hr | refine List.mem_cons_of_mem _ ?_)), HTI.out, HTW.out, Nat.le_succ _, issT_nx o⟩
                · skip
                  go_wp2_with (first | (refine wpList_load_g 53 _ rfl (by kernel_rfl) gz 0 rfl RF _ (rngL HR2.out) Try.underlying53 rfl (by rw [HL.out]; rfl) ?_) | (refine wpList_load_g 53 _ rfl (by kernel_rfl) gy 0 rfl RF _ (rngL HR1.out) Try.underlying53 rfl (by rw [HL.out]; rfl) ?_) | fail)
                  refine Calls.mono (HSM.out _) ?_
                  rintro e w9 ⟨rfl, hb9⟩
                  replace HS := Lib.hid (HS.out.below hb9)
                  clear hb9 HR1 HR2
                  go_upto_region 33 with fail
                  try clear c0
                  refine wd_end _ (x := x) (p := o) (q := t) HS HXA HUS (by omega) (fun c a d v w h => by cases d <;> exact h) ?_
                  rintro _ _ _ _ _ _ _ _ _ _ _ w99 HS99
                  go_wp2_with fail
                  go_ret
                  exact ⟨rfl, _, _, _, _, _, _, _, HS99.out.less (fun r hr => by repeat (first | exact hr | refine List.mem_cons_of_mem _ ?_)), HTI.out, HTW.out, Nat.le_succ _, issT_nx o⟩
end Go.Proofs.Ytjdcmhclamjcjaa
namespace Go.Proofs.Ytjdcmhclamjcjaa
open Go.RowKit
set_option linter.unusedVariables false
set_option linter.unusedSimpArgs false

theorem cid_of1 {a b : Int} (h0 : 0 ≤ a) (h1 : a < 256) (h2 : 0 ≤ b) (h3 : b < 256) : cidOk [a, b, 0, 0, 0, 0, 0, 0] := by
  refine ⟨rfl, ?_⟩
  intro x hx
  simp only [List.mem_cons, List.not_mem_nil, or_false] at hx
  rcases hx with rfl | rfl | rfl | rfl | rfl | rfl | rfl | rfl
  case inl => exact wf_u8_of (by omega) (by omega)
  case inr.inl => exact wf_u8_of (by omega) (by omega)
  all_goals decide
def th0 (c : List Int) : Th := ⟨[(0, c)], [(0, c)], [], [], (0, c)⟩
theorem TI.first {c : List Int} (h : cidOk c) : TI (th0 c) :=
  ⟨fun y hy => by rw [List.mem_singleton.1 hy]; exact ⟨⟨Int.le_refl 0, (by decide : (0 : Int) < 18446744073709551616)⟩, h⟩, List.Pairwise.nil, by simp [th0], fun y hy => hy, by simp [th0], fun y _ hm => (by cases hm), by simp [th0], by simp [th0], rfl, fun s hs => (by cases hs)⟩
theorem TW.first (c : List Int) : TW (th0 c) := fun s hs => by cases hs
/-- a block set made anew is apart from what was. -/
theorem Dj.fresh {A B : List Nat} {w : World} (hA : ∀ x ∈ A, x < w.heap.size) (hB : ∀ x ∈ B, w.heap.size ≤ x) : Dj A B := fun x hx hm => by have := hA x hx; have := hB x hm; omega
set_option maxRecDepth 100000 in
set_option maxHeartbeats 8000000 in
theorem fresh_any (w : World) (sd : Int) (hs : U64 sd) :
    Calls Try.prog 5 #[.int .u64 sd] w fun e w' => ∃ g po pt pp pq B1 B2 B3 B4, e = .returned (.pointer (some ⟨g, 0, none⟩)) ∧ Sx w.heap.size w w' g po pt pp pq B1 B2 B3 B4 1 ⟨[(0, [1, 0, 0, 0, 0, 0, 0, 0])], 1, sd⟩ (th0 [9, 9, 0, 0, 0, 0, 0, 0]) ⟨[(0, [1, 0, 0, 0, 0, 0, 0, 0])], 1, sd⟩ (th0 [9, 9, 0, 0, 0, 0, 0, 0]) [] := by
  have hs1 := hs.1; have hs2 := hs.2
  have h1 := fun W => new_any W [1, 0, 0, 0, 0, 0, 0, 0] sd (cid_of1 (by omega) (by omega) (by omega) (by omega)) hs
  have h2 := fun W => of20_any W [9, 9, 0, 0, 0, 0, 0, 0] (cid_of1 (by omega) (by omega) (by omega) (by omega))
  have h3 := fun W => rnew_any W [1, 0, 0, 0, 0, 0, 0, 0] sd (cid_of1 (by omega) (by omega) (by omega) (by omega)) hs
  have h4 := fun W => rof_any W [9, 9, 0, 0, 0, 0, 0, 0] (cid_of1 (by omega) (by omega) (by omega) (by omega))
  simp only [cidV, List.map_cons, List.map_nil] at h1 h2 h3 h4
  have H1 := Lib.hid h1; have H2 := Lib.hid h2; have H3 := Lib.hid h3; have H4 := Lib.hid h4
  clear h1 h2 h3 h4 hs
  go_enter Try.func5, Try.ntmps5
  go_wp2_with fail
  refine Calls.mono (H1.out w) ?_
  rintro e w1 ⟨po, B1, rfl, hb1, ho1, hf1⟩
  have HO := Lib.hid ho1; have HB1 := Lib.hid hb1; have HF1 := Lib.hid hf1
  clear ho1 hb1 hf1
  go_wp2_with fail
  refine Calls.mono (H2.out w1) ?_
  rintro e w2 ⟨pt, B2, la, ra, lc, rc, bn, bs, bg, rfl, hb2, ht2, hf2⟩
  have HT : Hid (ThX w2 pt B2 1 (th0 [9, 9, 0, 0, 0, 0, 0, 0])) := Lib.hid ⟨la, ra, lc, rc, bn, bs, bg, ht2⟩
  have HB2 := Lib.hid hb2; have HF2 := Lib.hid hf2
  clear ht2 hb2 hf2
  go_wp2_with fail
  refine Calls.mono (H3.out w2) ?_
  rintro e w3 ⟨pp, B3, rfl, hb3, ho3, hf3⟩
  have HP := Lib.hid ho3; have HB3 := Lib.hid hb3; have HF3 := Lib.hid hf3
  clear ho3 hb3 hf3
  go_wp2_with fail
  refine Calls.mono (H4.out w3) ?_
  rintro e w4 ⟨pq, B4, hh, rfl, hb4, hq4, hf4⟩
  have HQ : Hid (RtX w4 pq B4 1 (th0 [9, 9, 0, 0, 0, 0, 0, 0])) := Lib.hid ⟨hh, hq4⟩
  have HB4 := Lib.hid hb4; have HF4 := Lib.hid hf4
  clear hq4 hb4 hf4 H1 H2 H3 H4
  go_upto_region 2 with fail
  change Code.wp _ _ _ _ (w4.alloc (.cells (wdRow po pt pp pq).toArray WDT))
  have hb5 := (Below.refl w4.heap.size w4).alloc (Nat.le_refl _) (.cells (wdRow po pt pp pq).toArray WDT)
  have hrow := heap_alloc_new w4 (.cells (wdRow po pt pp pq).toArray WDT)
  have s1 := HB1.out.size; have s2 := HB2.out.size; have s3 := HB3.out.size; have s4 := HB4.out.size
  have l1 := OwnAt.lt HO.out; have l2 := HT.out.lt; have l3 := OwnAt.lt HP.out; have l4 := HQ.out.lt
  have b2 := HB2.out; have b3 := bl_next b2 b2.size HB3.out; have b4 := bl_next b3 b3.size HB4.out; have b5 := bl_next b4 b4.size hb5
  have hS : Sx w.heap.size w (w4.alloc (.cells (wdRow po pt pp pq).toArray WDT)) w4.heap.size po pt pp pq B1 B2 B3 B4 1 ⟨[(0, [1, 0, 0, 0, 0, 0, 0, 0])], 1, sd⟩ (th0 [9, 9, 0, 0, 0, 0, 0, 0]) ⟨[(0, [1, 0, 0, 0, 0, 0, 0, 0])], 1, sd⟩ (th0 [9, 9, 0, 0, 0, 0, 0, 0]) [] := by
    have hn : ∀ B, Dj B [] := fun B x _ hx => by cases hx
    refine ⟨⟨hrow, OwnP.off HO.out (Off.of_below (M := []) b5) (hn _), HT.out.off (Off.of_below (M := []) (bl_next (bl_next HB3.out HB3.out.size HB4.out) (Nat.le_trans s3 s4) hb5)) (hn _), OwnR.off HP.out (Off.of_below (M := []) (bl_next HB4.out HB4.out.size hb5)) (hn _), HQ.out.off (Off.of_below (M := []) hb5) (hn _),
      Dj.fresh l1 HF2.out, Dj.fresh (fun x hx => Nat.lt_of_lt_of_le (l1 x hx) s2) HF3.out, Dj.fresh (fun x hx => Nat.lt_of_lt_of_le (l1 x hx) (Nat.le_trans s2 s3)) HF4.out, Dj.fresh l2 HF3.out, Dj.fresh (fun x hx => Nat.lt_of_lt_of_le (l2 x hx) s3) HF4.out, Dj.fresh l3 HF4.out,
      ⟨fun hm => by have := l1 _ hm; omega, fun hm => by have := l2 _ hm; omega, fun hm => by have := l3 _ hm; omega, fun hm => by have := l4 _ hm; omega⟩, ⟨by omega, HF1.out, fun x hx => by have := HF2.out x hx; omega, fun x hx => by have := HF3.out x hx; omega, fun x hx => by have := HF4.out x hx; omega⟩⟩,
      bl_next HB1.out HB1.out.size (bl_next b4 b4.size hb5), (fun r hr => by cases hr), fun r hr => by cases hr⟩
  have HS := Lib.hid hS
  clear hS b2 b3 b4 b5 l1 l2 l3 l4 s1 s2 s3 s4 hb5 hrow HO HT HP HQ HB1 HB2 HB3 HB4 HF1 HF2 HF3 HF4
  generalize w4.alloc (.cells (wdRow po pt pp pq).toArray WDT) = w5 at HS ⊢
  obtain ⟨g, hg⟩ : ∃ g, w4.heap.size = g := ⟨_, rfl⟩
  rw [hg] at HS ⊢
  clear hg
  have c0 := cell_row HS.out.wd.row 0 _ wdRow_0
  have c1 := cell_row HS.out.wd.row 1 _ wdRow_1
  go_wp2_with fail
  go_ret
  exact ⟨g, po, pt, pp, pq, B1, B2, B3, B4, rfl, HS.out⟩
structure K2 (bse : Nat) (w0 w : World) (po pt : Nat) (B1 B2 : List Nat) (N : Nat) (L : List Nm) (nx sd : Int) (t : Th) : Prop where
  ho : OwnP w po B1 L nx sd
  ht : ThX w pt B2 N t
  d : Dj B1 B2
  low : Below bse w0 w
  g1 : ∀ x ∈ B1, bse ≤ x
  g2 : ∀ x ∈ B2, bse ≤ x
  bs : bse ≤ w.heap.size
section
variable {bse : Nat} {w0 w y : World} {po pt N N' : Nat} {B1 B2 C : List Nat} {L : List Nm} {nx sd : Int} {t : Th}
theorem K2.below (h : K2 bse w0 w po pt B1 B2 N L nx sd t) (hb : Below w.heap.size w y) : K2 bse w0 y po pt B1 B2 N L nx sd t :=
  have hn : ∀ B, Dj B [] := fun B x _ hx => by cases hx
  ⟨h.ho.off (Off.of_below (M := []) hb) (hn _), h.ht.off (Off.of_below (M := []) hb) (hn _), h.d, h.low.trans (hb.mono h.bs), h.g1, h.g2, Nat.le_trans h.bs hb.size⟩
theorem K2.stepO (h : K2 bse w0 w po pt B1 B2 N L nx sd t) (hu : UpdO B1 w y C) {L' : List Nm} {nx' sd' : Int} (hn : OwnP y po C L' nx' sd') : K2 bse w0 y po pt C B2 N L' nx' sd' t :=
  ⟨hn, h.ht.off hu.off h.d.symm, h.d.new hu h.ht.lt, h.low.trans (low_of hu h.g1 h.bs), ge_new hu h.g1 h.bs, h.g2, Nat.le_trans h.bs hu.off.size⟩
theorem K2.stepT (h : K2 bse w0 w po pt B1 B2 N L nx sd t) (hu : UpdO B2 w y C) {t' : Th} (hn : ThX y pt C N' t') : K2 bse w0 y po pt B1 C N' L nx sd t' :=
  ⟨h.ho.off hu.off h.d, hn, (h.d.symm.new hu h.ho.lt).symm, h.low.trans (low_of hu h.g2 h.bs), h.g1, ge_new hu h.g2 h.bs, Nat.le_trans h.bs hu.off.size⟩
end
theorem retT_known (c : List Int) : retT [(0, c)] 0 = (Z8, 24, [(0, c)]) := rfl
theorem issT_known (c : List Int) (sd : Int) : issT ⟨[(0, c)], 1, sd⟩ = (issF 1 (bytesM (nextM sd)), true, ⟨[(0, c), (1, bytesM (nextM sd))], 2, nextM sd⟩) := rfl
theorem turnM_known (c : List Int) : turnM (th0 c) = (th0 c, false) := rfl
set_option maxRecDepth 100000 in
set_option maxHeartbeats 8000000 in
theorem known20_any (w : World) :
    Makes Try.prog 7 #[] w (.bool true) := by
  have h1 := fun W => new_any W [1, 0, 0, 0, 0, 0, 0, 0] 5 (cid_of1 (by omega) (by omega) (by omega) (by omega)) ⟨by omega, by omega⟩
  have h2 := fun W => of20_any W [2, 0, 0, 0, 0, 0, 0, 0] (cid_of1 (by omega) (by omega) (by omega) (by omega))
  simp only [cidV, List.map_cons, List.map_nil] at h1 h2
  have H1 := Lib.hid h1; have H2 := Lib.hid h2
  clear h1 h2
  go_enter Try.func7, Try.ntmps7
  go_wp2_with fail
  refine Calls.mono (H1.out w) ?_
  rintro e w1 ⟨po, B1, rfl, hb1, ho1, hf1⟩
  have HO := Lib.hid ho1; have HB1 := Lib.hid hb1; have HF1 := Lib.hid hf1
  clear ho1 hb1 hf1
  go_wp2_with fail
  refine Calls.mono (H2.out w1) ?_
  rintro e w2 ⟨pt, B2, la, ra, lc, rc, bn, bs, bg, rfl, hb2, ht2, hf2⟩
  have hk : K2 w.heap.size w w2 po pt B1 B2 1 [(0, [1, 0, 0, 0, 0, 0, 0, 0])] 1 5 (th0 [2, 0, 0, 0, 0, 0, 0, 0]) :=
    ⟨OwnP.off HO.out (Off.of_below (M := []) hb2) (fun x _ hx => by cases hx), ⟨la, ra, lc, rc, bn, bs, bg, ht2⟩, Dj.fresh (OwnAt.lt HO.out) hf2, bl_next HB1.out HB1.out.size hb2, HF1.out, fun x hx => Nat.le_trans HB1.out.size (hf2 x hx), Nat.le_trans HB1.out.size hb2.size⟩
  have HK := Lib.hid hk
  clear hk ht2 hb2 hf2 HO HB1 HF1 H1 H2
  have hcl := Calls.mono (retire_any w2 po B1 _ _ _ 0 HK.out.ho ⟨by omega, by omega⟩) (fun e w' h => RetR.get h)
  rw [retT_known] at hcl
  simp only [Z8, List.map_cons, List.map_nil, List.replicate] at hcl
  have HCL := Lib.hid hcl
  clear hcl
  go_wp2_with fail
  refine Calls.mono HCL.out ?_
  rintro e w3 ⟨C1, hu, rfl, hown⟩
  replace HK := Lib.hid (HK.out.stepO hu hown)
  clear hu hown HCL
  have HL0 : Hid (([.int .u8 0, .int .u8 0, .int .u8 0, .int .u8 0, .int .u8 0, .int .u8 0, .int .u8 0, .int .u8 0] : List Value).length = 8) := Lib.hid rfl
  have HO0 : Hid (∀ v ∈ ([.int .u8 0, .int .u8 0, .int .u8 0, .int .u8 0, .int .u8 0, .int .u8 0, .int .u8 0, .int .u8 0] : List Value), v.oneCell' = true) := Lib.hid (cdK.one Z8 z8_ok)
  clear HL0 HO0
  go_upto_region 5 with fail
  change Code.wp _ _ _ _ (w3.alloc (.cells ([.int .u8 0, .int .u8 0, .int .u8 0, .int .u8 0, .int .u8 0, .int .u8 0, .int .u8 0, .int .u8 0] : List Value).toArray 38))
  have hb := (Below.refl w3.heap.size w3).alloc (Nat.le_refl _) (.cells ([.int .u8 0, .int .u8 0, .int .u8 0, .int .u8 0, .int .u8 0, .int .u8 0, .int .u8 0, .int .u8 0] : List Value).toArray 38)
  replace HK := Lib.hid (HK.out.below hb)
  have HZ := Lib.hid (heap_alloc_new w3 (.cells ([.int .u8 0, .int .u8 0, .int .u8 0, .int .u8 0, .int .u8 0, .int .u8 0, .int .u8 0, .int .u8 0] : List Value).toArray 38))
  clear hb
  generalize w3.alloc (.cells ([.int .u8 0, .int .u8 0, .int .u8 0, .int .u8 0, .int .u8 0, .int .u8 0, .int .u8 0, .int .u8 0] : List Value).toArray 38) = w4 at HK HZ ⊢
  obtain ⟨gz, hg⟩ : ∃ g, w3.heap.size = g := ⟨_, rfl⟩
  rw [hg] at HZ ⊢
  clear hg
  clear HZ
  have hcl := Calls.mono (issue_any w4 po C1 _ _ _ HK.out.ho (by omega)) (fun e w' h => IssR.get (o := ⟨[(0, [1, 0, 0, 0, 0, 0, 0, 0])], 1, 5⟩) h)
  rw [issT_known] at hcl
  obtain ⟨ci, hci⟩ : ∃ c, bytesM (nextM 5) = c := ⟨_, rfl⟩
  have HCI : Hid (cidOk ci) := Lib.hid (by rw [← hci]; exact ⟨rfl, wf_bytes _⟩)
  rw [hci] at hcl
  obtain ⟨sd, hsd⟩ : ∃ c, nextM 5 = c := ⟨_, rfl⟩
  rw [hsd] at hcl
  clear hci hsd
  have hwf : (issF 1 ci).Wf := ⟨by simp [issF], by simp [issF, U64], by simp [issF, U64], by simp [issF, U64], by simp [issF, U64], by simp [issF, U64], by simp [issF, U64], by simp [issF, U64], HCI.out.1, HCI.out.2⟩
  have HL0 := Lib.hid (Fr.len (dv := NILV) (rv := NILV) hwf)
  have HO0 := Lib.hid (Fr.one (w := w4) ⟨hwf, (nil_nil w4 (issF 1 ci) ⟨rfl, rfl⟩).1, (nil_nil w4 (issF 1 ci) ⟨rfl, rfl⟩).2⟩)
  have H8 : Hid (((issF 1 ci).cells NILV NILV)[8]? = some (.int .u64 1)) := Lib.hid rfl
  obtain ⟨RF, hRF⟩ : ∃ R, (issF 1 ci).cells NILV NILV = R := ⟨_, rfl⟩
  simp only [hRF] at hcl HL0 HO0 H8
  have HCL := Lib.hid hcl
  clear hcl hRF hwf
  go_wp2_with fail
  refine Calls.mono HCL.out ?_
  rintro e w5 ⟨C2, hu, rfl, hown⟩
  replace HK := Lib.hid (HK.out.stepO hu hown)
  clear hu hown HCL
  go_upto_region 6 with (first | (refine wpList_store_row rfl 53 _ _ rfl _ rfl RF [.int .i64 0, .int .u64 0, .int .u64 0, .slice none 0 0, .bool false, .int .u64 0, .int .u64 0, .int .u64 0, .int .u64 0, .int .u64 0, .slice none 0 0, .int .u8 0, .int .u8 0, .int .u8 0, .int .u8 0, .int .u8 0, .int .u8 0, .int .u8 0, .int .u8 0] rfl 53 (heap_alloc_new _ _) (by rw [HL0.out]; rfl) (by rw [HL0.out]; rfl) HO0.out ?_; intro w6 hr hg) | fail)
  have hal := (Below.refl w5.heap.size w5).alloc (Nat.le_refl _) (.cells ([.int .i64 0, .int .u64 0, .int .u64 0, .slice none 0 0, .bool false, .int .u64 0, .int .u64 0, .int .u64 0, .int .u64 0, .int .u64 0, .slice none 0 0, .int .u8 0, .int .u8 0, .int .u8 0, .int .u8 0, .int .u8 0, .int .u8 0, .int .u8 0, .int .u8 0]).toArray 53)
  have hb : Below w5.heap.size w5 w6 := hal.grown hg hal.size (by intro k hk; injection hk with hk; omega)
  replace HK := Lib.hid (HK.out.below hb)
  have HF := Lib.hid (hr)
  clear hr hg hal hb
  obtain ⟨gf, hg⟩ : ∃ g, w5.heap.size = g := ⟨_, rfl⟩
  rw [hg] at HF ⊢
  clear hg
  have c8 := cell_row HF.out 8 _ H8.out
  have HT0 := Lib.hid (TI.first (cid_of1 (a := 2) (b := 0) (by omega) (by omega) (by omega) (by omega)))
  obtain ⟨la, ra, lc, rc, bn, bs, bg, hth⟩ := HK.out.ht
  have hcl := turn_any w6 pt B2 1 _ la ra lc rc bn bs bg hth HT0.out (by omega)
  rw [turnM_known] at hcl
  have HCL := Lib.hid hcl
  clear hcl hth
  go_wp2_with fail
  refine Calls.mono HCL.out ?_
  rintro e w8 ⟨rfl, C3, la2, ra2, lc2, rc2, hu, hth⟩
  replace HK := Lib.hid (HK.out.stepT hu (t' := th0 [2, 0, 0, 0, 0, 0, 0, 0]) ⟨_, _, _, _, _, _, _, hth⟩)
  clear hu hth HCL c8
  obtain ⟨la, ra, lc, rc, bn, bs, bg, hth⟩ := HK.out.ht
  have hcl := on_any w8 pt C3 (1 + 1) _ la ra lc rc bn bs bg hth HT0.out (zeroF 1) (FrAt.zero w8 1 ⟨by omega, by omega⟩).wf NILV NILV rfl rfl (by omega)
  rw [show onM (th0 [2, 0, 0, 0, 0, 0, 0, 0]) (zeroF 1).kind (zeroF 1).se (zeroF 1).li (zeroF 1).cid = (th0 [2, 0, 0, 0, 0, 0, 0, 0], 10) by unfold onM; rw [bad_kind (by decide)]; rfl] at hcl
  simp only [zeroF, Fr.cells, NILV, List.map_cons, List.map_nil, List.cons_append, List.nil_append] at hcl
  have HCL := Lib.hid hcl
  clear hcl hth
  go_wp2_with fail
  refine Calls.mono HCL.out ?_
  rintro e w9 ⟨rfl, C4, la2, ra2, lc2, rc2, hu, hth⟩
  replace HK := Lib.hid (HK.out.stepT hu (t' := th0 [2, 0, 0, 0, 0, 0, 0, 0]) ⟨_, _, _, _, _, _, _, hth⟩)
  clear hu hth HCL
  have hcl := has_any w9 po C2 _ _ _ HK.out.ho [1, 0, 0, 0, 0, 0, 0, 0] (cid_of1 (by omega) (by omega) (by omega) (by omega))
  simp only [cidV, List.map_cons, List.map_nil, List.any_cons, beq_self_eq_true, Bool.true_or] at hcl
  have HCL := Lib.hid hcl
  clear hcl
  go_wp2_with fail
  refine Calls.mono HCL.out ?_
  rintro e w10 ⟨rfl, hb⟩
  replace HK := Lib.hid (HK.out.below hb)
  clear hb HCL
  go_wp2_with fail
  refine Calls.mono (all_any w10 po C2 _ _ _ HK.out.ho) ?_
  rintro e w11 ⟨a1, n1, k1, rfl, hnk1, hkm1, hat1, hb⟩
  have hn2 : n1 = 2 := by have h9 := hat1.1; simp at h9; omega
  subst hn2
  replace HK := Lib.hid (HK.out.below hb)
  clear hb hat1
  obtain ⟨la, ra, lc, rc, bn, bs, bg, hth⟩ := HK.out.ht
  have hcl := now20_any w11 pt C4 _ _ la ra lc rc bn bs bg hth
  simp only [th0, cidV, List.map_cons, List.map_nil] at hcl
  have HCL := Lib.hid hcl
  clear hcl hth
  go_wp2_with fail
  refine Calls.mono HCL.out ?_
  rintro e w12 ⟨rfl, hb⟩
  replace HK := Lib.hid (HK.out.below hb)
  clear hb HCL
  have HC2 : Hid (cidOk [2, 0, 0, 0, 0, 0, 0, 0]) := Lib.hid (cid_of1 (by omega) (by omega) (by omega) (by omega))
  have hcc : ([2, 0, 0, 0, 0, 0, 0, 0] == ([2, 0, 0, 0, 0, 0, 0, 0] : List Int)) = true := by decide
  go_wp2_with (first | (refine wpList_eql_cid_g (by kernel_rfl) _ _ _ rfl [2, 0, 0, 0, 0, 0, 0, 0] [2, 0, 0, 0, 0, 0, 0, 0] rfl rfl HC2.out HC2.out ?_; rw [hcc]) | fail)
  go_ret
  exact ⟨rfl, HK.out.low⟩
end Go.Proofs.Ytjdcmhclamjcjaa
namespace Go.Proofs.Ytjdcmhclamjcjaa
open Go.RowKit Go.WideShapes Go.ChangeShapes
set_option linter.unusedVariables false

section
variable {H : Type} {enc : TypeId × Value → H} {P : Program} {w : World} {base : Nat} {spare : Nat → Bool} {held : Bool} {fuel : Nat} {t : TypeId}

/-- cells that read as an array of n integers of kind k. -/
theorem trod_ints_arr {n : Nat} {e : TypeId} {k : IntKind} {cs : List Value} {x : DataW H × List MemPlace} (ht : P.underlying t = some (.array n e)) (he : P.underlying e = some (.int k)) (hc : P.cellsOf e = 1) (hn : P.cellsOf t = n)
    (h : DataW.trod enc P w base spare held fuel t cs = some x) : ∃ xs : List Int, xs.length = n ∧ (∀ x ∈ xs, (Lit.int k x).wf = true) ∧ cs = xs.map (Value.int k) := by
  obtain ⟨ys, m, _, _, hl, hy, hall⟩ := DataW.trod_array ht h
  have hl' : cs.length = n := hl.trans hn
  have each : ∀ i, i < n → ∃ q, cs[i]? = some (.int k q) ∧ (Lit.int k q).wf = true := by
    intro i hi
    have h1 := hall i hi
    rw [hc, Nat.mul_one, List.getElem?_eq_getElem (by omega)] at h1
    obtain ⟨q, h2, _, h3⟩ := DataW.trod_int he h1
    refine ⟨q, ?_, h3⟩
    have h4 : ((cs.drop i).take 1)[0]? = some (.int k q) := by rw [h2]; rfl
    simpa using h4
  refine ⟨cs.map intOf, by simp [hl'], ?_, ?_⟩
  · intro q hq
    obtain ⟨v, hv, rfl⟩ := List.mem_map.1 hq
    obtain ⟨i, hi, rfl⟩ := List.getElem_of_mem hv
    obtain ⟨q, h1, h2⟩ := each i (by omega)
    rw [List.getElem?_eq_getElem hi] at h1
    injection h1 with h1
    rw [h1]; exact h2
  · apply List.ext_getElem
    · simp
    · intro i h1 h2
      obtain ⟨q, h3, _⟩ := each i (by omega)
      rw [List.getElem?_eq_getElem h1] at h3
      injection h3 with h3
      simp [h3, intOf]
set_option maxRecDepth 100000 in
theorem open_ints_arr {r : Reach} {b0 : Nat} {n : Nat} {e : TypeId} {k : IntKind} {v : Value} {d : DataW H} {p : List MemPlace} (ht : P.underlying t = some (.array n e)) (he : P.underlying e = some (.int k)) (hc : P.cellsOf e = 1) (hn : P.cellsOf t = n)
    (hv : Value.okWide P w r b0 t v) (h : DataW.Trod enc P w base spare held t v d p) : ∃ xs : List Int, xs.length = n ∧ (∀ x ∈ xs, (Lit.int k x).wf = true) ∧ v = .agg (xs.map (Value.int k)).toArray := by
  simp only [Value.okWide, ht] at hv
  obtain ⟨cs, rfl, _, _⟩ := hv
  obtain ⟨fuel, hf⟩ := h
  obtain ⟨xs, h1, h2, h3⟩ := trod_ints_arr ht he hc hn hf
  refine ⟨xs, h1, h2, ?_⟩
  simp only [Value.cells] at h3
  rw [← h3]

/-- cells that read as a struct: each field reads. -/
theorem trod_fields {fs : Array Field} {cs : List Value} {x : DataW H × List MemPlace} (ht : P.underlying t = some (.struct fs))
    (h : DataW.trod enc P w base spare held fuel t cs = some x) :
    cs.length = P.cellsOf t ∧ ∃ m, ∀ (i : Nat) (f : Field), fs.toList[i]? = some f → ∃ y, DataW.trod enc P w base spare held m f.type ((cs.drop f.offset).take (P.cellsOf f.type)) = some y := by
  cases fuel with
  | zero => simp [DataW.trod] at h
  | succ m =>
    unfold DataW.trod at h
    rw [ht] at h
    split at h <;> simp_all
    obtain ⟨hl, xs, hp, hd⟩ := h
    refine ⟨m, fun i f hf => ?_⟩
    have h1 := mapM_some_get hp i f (by simpa using hf)
    have h3 := mapM_some_length hp
    have h4 := (Array.getElem?_eq_some_iff.1 hf).1
    have h2 : i < xs.length := by rw [h3]; simpa using h4
    rw [List.getElem?_eq_getElem h2] at h1
    exact ⟨_, xs[i].2, h1⟩

/-- a slice of rows of N cells that came in. -/
theorem open_rows {a : Option Addr} {len cap N : Nat} {e : TypeId} {d : DataW H} {p : List MemPlace} (ht : P.underlying t = some (.slice e)) (hN : P.cellsOf e = N) (h0 : 0 < N)
    (h : DataW.Trod enc P w base spare held t (.slice a len cap) d p) :
    len ≤ cap ∧ (∃ elems rest : List (DataW H), (d = .nil ∧ len = 0 ∧ cap = 0) ∨ (d = .slice elems rest ∧ elems.length = len)) ∧
      (len = 0 ∨ ∃ b off, a = some ⟨b, off, none⟩ ∧ b < w.heap.size ∧ ∀ j, j < len → ∃ (cs : List Value) (m : Nat) (y : DataW H × List MemPlace), cs.length = N ∧
        (∀ i, i < N → w.cell? ⟨b, off + j * N + i, none⟩ = cs[i]?) ∧ DataW.trod enc P w base spare held m e cs = some y) := by
  obtain ⟨fuel, hf⟩ := h
  rcases DataW.trod_slice ht hf with ⟨hcs, hx⟩ | ⟨ad, l, c, elems, rest, n, _, hcs, hx, hb, hl, hm, hlen, hel, hsp, hns⟩
  · simp [Value.cells] at hcs
    obtain ⟨rfl, rfl, rfl⟩ := hcs
    simp only [Prod.mk.injEq] at hx
    exact ⟨Nat.le_refl _, ⟨[], [], .inl ⟨hx.1, rfl, rfl⟩⟩, .inl rfl⟩
  · simp [Value.cells] at hcs
    obtain ⟨rfl, rfl, rfl⟩ := hcs
    simp only [Prod.mk.injEq] at hx
    refine ⟨hl, ⟨_, _, .inr ⟨hx.1, by simp [hlen]⟩⟩, ?_⟩
    by_cases hz : len = 0
    · exact .inl hz
    · have each : ∀ j, j < len → ∃ (cs : List Value) (y : DataW H × List MemPlace), cs.length = N ∧ (∀ i, i < N → w.cell? ((ad.add (j * N)).add i) = cs[i]?) ∧ DataW.trod enc P w base spare held n e cs = some y := by
        intro j hj
        have h1 := hel j hj
        rw [List.getElem?_eq_getElem (by omega), hN] at h1
        obtain ⟨cs, hc1, hc2⟩ := Option.bind_eq_some_iff.1 h1
        obtain ⟨_, h2, h3⟩ := World.cells?_some hc1
        exact ⟨cs, _, h2, h3, hc2⟩
      obtain ⟨b, off, spot⟩ := ad
      obtain ⟨cs0, _, hl0, hc0, _⟩ := each 0 (by omega)
      have hc00 := hc0 0 h0
      rw [List.getElem?_eq_getElem (by omega)] at hc00
      have hspot : spot = none := by simpa [Addr.add] using World.cell?_spot hc00
      subst hspot
      refine .inr ⟨b, off, rfl, ?_, fun j hj => ?_⟩
      · have := block_lt_of_cell hc00
        simpa [Addr.add] using this
      · obtain ⟨cs, y, h1, h2, h3⟩ := each j hj
        exact ⟨cs, n, y, h1, fun i hi => by rw [← h2 i hi, add_none, add_none], h3⟩
end
end Go.Proofs.Ytjdcmhclamjcjaa
namespace Go.Proofs.Ytjdcmhclamjcjaa
open Go.RowKit Go.WideShapes Go.ChangeShapes
set_option linter.unusedVariables false
set_option linter.unusedSimpArgs false

set_option maxRecDepth 100000 in
theorem bytes_open20 {H : Type} {enc : TypeId × Value → H} {w : World} {base : Nat} {spare : Nat → Bool} {held : Bool} {fuel : Nat} {cs : List Value} {x : DataW H × List MemPlace}
    (hx : DataW.trod enc Try.prog w base spare held fuel 25 cs = some x) : ∃ a len cap bs, cs = [.slice a len cap] ∧ len ≤ cap ∧ cap ≤ 9223372036854775807 ∧ IntsK .u8 w a len bs := by
  rcases Go.ChangeShapes.open_ints Try.underlying25 Try.underlying5 (by kernel_rfl) hx with ⟨hcs, _⟩ | ⟨y, l, c, zs, hcs, _, hl, hm, hz, _, hcell, hwz⟩
  · exact ⟨none, 0, 0, [], hcs, Nat.le_refl _, by omega, IntsK.nil _ _ _⟩
  · have hzl : l ≤ zs.length := by rw [hz]; split <;> omega
    exact ⟨some y, l, c, zs.take l, hcs, hl, by unfold maxLen at hm; omega, IntsK.of_cells hzl rfl hcell hwz⟩
set_option maxRecDepth 100000 in
theorem words_open20 {H : Type} {enc : TypeId × Value → H} {w : World} {base : Nat} {spare : Nat → Bool} {held : Bool} {fuel : Nat} {cs : List Value} {x : DataW H × List MemPlace}
    (hx : DataW.trod enc Try.prog w base spare held fuel 26 cs = some x) : ∃ a len cap bs, cs = [.slice a len cap] ∧ len ≤ cap ∧ cap ≤ 9223372036854775807 ∧ IntsK .u64 w a len bs := by
  rcases Go.ChangeShapes.open_ints Try.underlying26 Try.underlying24 (by kernel_rfl) hx with ⟨hcs, _⟩ | ⟨y, l, c, zs, hcs, _, hl, hm, hz, _, hcell, hwz⟩
  · exact ⟨none, 0, 0, [], hcs, Nat.le_refl _, by omega, IntsK.nil _ _ _⟩
  · have hzl : l ≤ zs.length := by rw [hz]; split <;> omega
    exact ⟨some y, l, c, zs.take l, hcs, hl, by unfold maxLen at hm; omega, IntsK.of_cells hzl rfl hcell hwz⟩
theorem one_of_take20 {cs : List Value} {i : Nat} {v : Value} (h : (cs.drop i).take 1 = [v]) : cs[i]? = some v := by
  have h1 : ((cs.drop i).take 1)[0]? = some v := by rw [h]; rfl
  rw [List.getElem?_take_of_lt (by omega), List.getElem?_drop] at h1
  simpa using h1
theorem two_of_take20 {cs : List Value} {i n j : Nat} {v : Value} (h : ((((cs.drop i).take n).drop j).take 1) = [v]) (hj : j < n) : cs[i + j]? = some v := by
  have h1 := one_of_take20 h
  rw [List.getElem?_take_of_lt hj, List.getElem?_drop] at h1
  exact h1
/-- a slice of asks. -/
def Asks (w : World) (a : Option Addr) (len : Nat) : Prop :=
  len = 0 ∨ ∃ b off, a = some ⟨b, off, none⟩ ∧ b < w.heap.size ∧ ∀ j, j < len → ∃ x : AskV, x.At w ∧ w.rangeAt b (off + j * 12) x.cells
theorem Asks.below {w y : World} {a : Option Addr} {len : Nat} (h : Asks w a len) (hb : Below w.heap.size w y) : Asks y a len := by
  rcases h with h | ⟨b, off, ha, hl, h⟩
  · exact .inl h
  · exact .inr ⟨b, off, ha, Nat.lt_of_lt_of_le hl hb.size, fun j hj => by
      obtain ⟨x, h1, h2⟩ := h j hj
      exact ⟨x, h1.below hb, fun i v hv => bl_cell hb (p := ⟨b, off + j * 12 + i, none⟩) hl (h2 i v hv)⟩⟩
theorem Asks.at {w : World} {a : Option Addr} {len : Nat} (h : Asks w a len) {j : Nat} (hj : j < len) : ∃ b off x, a = some ⟨b, off, none⟩ ∧ b < w.heap.size ∧ AskV.At w x ∧ w.rangeAt b (off + j * 12) x.cells := by
  rcases h with h | ⟨b, off, ha, hl, h⟩
  · omega
  · obtain ⟨x, h1, h2⟩ := h j hj
    exact ⟨b, off, x, ha, hl, h1, h2⟩
set_option maxRecDepth 100000 in
theorem asks_open {H : Type} {enc : TypeId × Value → H} {w : World} {base : Nat} {spare : Nat → Bool} {held : Bool} {a : Option Addr} {len cap : Nat} {d : DataW H} {p : List MemPlace}
    (h : DataW.Trod enc Try.prog w base spare held 31 (.slice a len cap) d p) :
    len ≤ cap ∧ (∃ elems rest : List (DataW H), (d = .nil ∧ len = 0 ∧ cap = 0) ∨ (d = .slice elems rest ∧ elems.length = len)) ∧ Asks w a len := by
  obtain ⟨h1, h2, h3⟩ := open_rows (N := 12) (e := 30) Try.underlying31 (by kernel_rfl) (by omega) h
  refine ⟨h1, h2, ?_⟩
  rcases h3 with h3 | ⟨b, off, ha, hb, hr⟩
  · exact .inl h3
  · refine .inr ⟨b, off, ha, hb, fun j hj => ?_⟩
    obtain ⟨cs, m, y, hl, hc, hy⟩ := hr j hj
    obtain ⟨_, m2, hfs⟩ := trod_fields Try.underlying30 hy
    obtain ⟨y0, h0⟩ := hfs 0 _ rfl
    obtain ⟨y1, h1⟩ := hfs 1 _ rfl
    obtain ⟨y2, h2⟩ := hfs 2 _ rfl
    obtain ⟨y3, h3⟩ := hfs 3 _ rfl
    obtain ⟨y4, h4⟩ := hfs 4 _ rfl
    obtain ⟨k, hk, _, wk⟩ := DataW.trod_int Try.underlying3 h0
    obtain ⟨n, hn, _, wn⟩ := DataW.trod_int Try.underlying3 h1
    obtain ⟨se, hse, _, wse⟩ := DataW.trod_int Try.underlying24 h2
    obtain ⟨li, hli, _, wli⟩ := DataW.trod_int Try.underlying24 h3
    obtain ⟨_, m3, hgs⟩ := trod_fields Try.underlying28 h4
    obtain ⟨z0, f0⟩ := hgs 0 _ rfl
    obtain ⟨z1, f1⟩ := hgs 1 _ rfl
    obtain ⟨z2, f2⟩ := hgs 2 _ rfl
    obtain ⟨z3, f3⟩ := hgs 3 _ rfl
    obtain ⟨z4, f4⟩ := hgs 4 _ rfl
    obtain ⟨z5, f5⟩ := hgs 5 _ rfl
    obtain ⟨z6, f6⟩ := hgs 6 _ rfl
    obtain ⟨z7, f7⟩ := hgs 7 _ rfl
    obtain ⟨xk, hxk, _, wxk⟩ := DataW.trod_int Try.underlying3 f0
    obtain ⟨xa, hxa, _, wxa⟩ := DataW.trod_int Try.underlying24 f1
    obtain ⟨xb, hxb, _, wxb⟩ := DataW.trod_int Try.underlying24 f2
    obtain ⟨xc, hxc, _, wxc⟩ := DataW.trod_int Try.underlying24 f3
    obtain ⟨da, dn, dc, data, hd, hdl, hdm, hdi⟩ := bytes_open20 f4
    obtain ⟨xf, hxf, _⟩ := DataW.trod_bool Try.underlying4 f5
    obtain ⟨ra, rn, rc, rows, hr2, hrl, hrm, hri⟩ := words_open20 f6
    obtain ⟨xn, hxn, _, wxn⟩ := DataW.trod_int Try.underlying3 f7
    have g0 := one_of_take20 (i := 0) hk
    have g1 := one_of_take20 (i := 1) hn
    have g2 := one_of_take20 (i := 2) hse
    have g3 := one_of_take20 (i := 3) hli
    have g4 := two_of_take20 (i := 4) (n := 8) (j := 0) hxk (by omega)
    have g5 := two_of_take20 (i := 4) (n := 8) (j := 1) hxa (by omega)
    have g6 := two_of_take20 (i := 4) (n := 8) (j := 2) hxb (by omega)
    have g7 := two_of_take20 (i := 4) (n := 8) (j := 3) hxc (by omega)
    have g8 := two_of_take20 (i := 4) (n := 8) (j := 4) hd (by omega)
    have g9 := two_of_take20 (i := 4) (n := 8) (j := 5) hxf (by omega)
    have g10 := two_of_take20 (i := 4) (n := 8) (j := 6) hr2 (by omega)
    have g11 := two_of_take20 (i := 4) (n := 8) (j := 7) hxn (by omega)
    refine ⟨⟨k, n, se, li, xk, xa, xb, xc, xn, xf, da, dn, dc, ra, rn, rc, data, rows⟩, ⟨bdI64 wk, bdI64 wn, bdU64 wse, bdU64 wli, bdI64 wxk, bdU64 wxa, bdU64 wxb, bdU64 wxc, bdI64 wxn, hdi, ⟨hdl, hdm⟩, hri, by simp only; omega⟩, fun i v hv => ?_⟩
    have hi : i < 12 := by have := lt_of_get hv; simpa [AskV.cells] using this
    show w.cell? ⟨b, off + j * 12 + i, none⟩ = some v
    rw [hc i hi, ← hv]
    rcases (by omega : i = 0 ∨ i = 1 ∨ i = 2 ∨ i = 3 ∨ i = 4 ∨ i = 5 ∨ i = 6 ∨ i = 7 ∨ i = 8 ∨ i = 9 ∨ i = 10 ∨ i = 11) with rfl | rfl | rfl | rfl | rfl | rfl | rfl | rfl | rfl | rfl | rfl | rfl
    · exact g0
    · exact g1
    · exact g2
    · exact g3
    · exact g4
    · exact g5
    · exact g6
    · exact g7
    · exact g8
    · exact g9
    · exact g10
    · exact g11
theorem ask_one (x : AskV) : ∀ v ∈ x.cells, v.oneCell' = true := by
  intro v hv
  simp only [AskV.cells, List.mem_cons, List.not_mem_nil, or_false] at hv
  rcases hv with rfl | rfl | rfl | rfl | rfl | rfl | rfl | rfl | rfl | rfl | rfl | rfl <;> rfl
/-- both sides after some calls. -/
def Rnd (w0 : World) (g : Nat) (R : List AuxR) (i : Nat) (w : World) : Prop :=
  ∃ po pt pp pq B1 B2 B3 B4 N o t, Sx w0.heap.size w0 w g po pt pp pq B1 B2 B3 B4 N o t o t R ∧ N ≤ 1000 ∧ TI t ∧ TW t ∧ t.came.length ≤ i + 1 ∧ o.nx ≤ i + 1
theorem Rnd.next {w0 w' : World} {g po pt pp pq i : Nat} {o : Ow} {t : Th} {R : List AuxR} (hc : t.came.length ≤ i + 1) (hn : o.nx ≤ i + 1) (hi : i ≤ 900) (h : DoR w0.heap.size w0 g po pt pp pq o t R w') : Rnd w0 g R (i + 1) w' := by
  obtain ⟨B1, B2, B3, B4, N, o', t', hs, ti, tw, h1, h2⟩ := h
  have hl := ti.lens (M := i + 2) (by omega)
  refine ⟨po, pt, pp, pq, B1, B2, B3, B4, i + 2, o', t', { hs with wd := hs.wd.tight hl.1 hl.2 }, by omega, ti, tw, by omega, by omega⟩
set_option maxRecDepth 100000 in
set_option maxHeartbeats 8000000 in
theorem plays20_any (w : World) (sd : Int) (hs : U64 sd) (a : Option Addr) (len cap : Nat) (hl : len ≤ cap) (hl2 : len ≤ 140737488351232) (hA : Asks w a len) :
    Makes Try.prog 4 #[.int .u64 sd, .slice a len cap] w (.bool true) := by
  have HA := Lib.hid hA
  have HF := Lib.hid (fresh_any w sd hs)
  have hs1 := hs.1; have hs2 := hs.2
  clear hA hs
  go_enter Try.func4, Try.ntmps4
  go_wp2_with fail
  refine Calls.mono HF.out ?_
  rintro e w1 ⟨g, po, pt, pp, pq, B1, B2, B3, B4, rfl, hS⟩
  have hr : Rnd w g [] 0 w1 := ⟨po, pt, pp, pq, B1, B2, B3, B4, 1, _, _, hS, by omega, TI.first (cid_of1 (by omega) (by omega) (by omega) (by omega)), TW.first _, by simp [th0], by simp⟩
  have HR := Lib.hid hr
  clear hr hS HF
  go_wp2_with fail
  go_loopw [6] (fun s6 wr => ∃ (i : Nat), s6 = .int .i64 i ∧ i ≤ len ∧ i ≤ 60 ∧ Hid (Rnd w g [] i wr)) (fun s _ => 61 - (intOf s).toNat)
  case atStart => exact ⟨0, rfl, by omega, by omega, HR⟩
  case round =>
    clear HR
    obtain ⟨i, rfl, hi, hi6, HR⟩ := hrel
    obtain ⟨po, pt, pp, pq, B1, B2, B3, B4, N, o, t, hS, hN, ti, tw, hc, hnx⟩ := HR.out
    have HS := Lib.hid hS; have HTI := Lib.hid ti; have HTW := Lib.hid tw; have HC := Lib.hid hc; have HNX := Lib.hid hnx
    clear hS ti tw hc hnx HR
    by_cases hlt : i < len ∧ i < 60
    · obtain ⟨hlt, hlt6⟩ := hlt
      have HN6 := Lib.hid hlt6
      obtain ⟨ab, ao, x, rfl, hab, hxa, hrg⟩ := HA.out.at hlt
      have hrg2 : wr.rangeAt ab (ao + i * 12) x.cells := fun j v hv => bl_cell HS.out.low (p := ⟨ab, ao + i * 12 + j, none⟩) hab (hrg j v hv)
      have HXA := Lib.hid hxa; have HRG := Lib.hid hrg2
      clear hxa hrg hrg2 hab
      obtain ⟨RX, hRX⟩ : ∃ R, x.cells = R := ⟨_, rfl⟩
      have HRX := Lib.hid hRX
      rw [hRX] at HRG
      have HL : Hid (RX.length = 12) := Lib.hid (by rw [← hRX]; rfl)
      have HO : Hid (∀ v ∈ RX, v.oneCell' = true) := Lib.hid (by rw [← hRX]; exact ask_one x)
      have HN : Hid (RX[1]? = some (.int .i64 x.n)) := Lib.hid (by rw [← hRX]; rfl)
      have HSE : Hid (RX[2]? = some (.int .u64 x.se)) := Lib.hid (by rw [← hRX]; rfl)
      have HLI : Hid (RX[3]? = some (.int .u64 x.li)) := Lib.hid (by rw [← hRX]; rfl)
      clear hRX
      go_upto_region 6 with (first | (refine wpList_load_mid rfl AKT _ rfl ab (ao + i * 12) rfl RX _ HRG.out Try.underlying30 rfl (by rw [HL.out]; rfl) ?_) | (refine wpList_store_row rfl AKT _ _ rfl wr.heap.size rfl RX [.int .i64 0, .int .i64 0, .int .u64 0, .int .u64 0, .int .i64 0, .int .u64 0, .int .u64 0, .int .u64 0, .slice none 0 0, .bool false, .slice none 0 0, .int .i64 0] rfl AKT (heap_alloc_new _ _) (by rw [HL.out]; rfl) (by rw [HL.out]; rfl) HO.out ?_; intro w3 hr hg; have HN9 := Lib.hid HS.out.ne; replace HS := Lib.hid ((HS.out.boxed [.int .i64 0, .int .i64 0, .int .u64 0, .int .u64 0, .int .i64 0, .int .u64 0, .int .u64 0, .int .u64 0, .slice none 0 0, .bool false, .slice none 0 0, .int .i64 0] AKT).stored HN9.out hg hr); clear hr hg HN9) | fail)
      try simp only [Act.put]
      obtain ⟨gx, hgx⟩ : ∃ g, wr.heap.size = g := ⟨_, rfl⟩
      rw [hgx] at HS ⊢
      clear hgx HRG
      have HA0 : Hid (∀ W, Below w.heap.size w W → x.At W) := Lib.hid (fun W h => HXA.out.below h)
      clear HXA
      have hrow := HS.out.row _ (List.mem_cons_self ..)
      have HROW : Hid (w3.heap[gx]? = some (.cells RX.toArray AKT (0, 0))) := Lib.hid hrow
      clear hrow
      have c1 := cell_row HROW.out 1 _ HN.out
      obtain ⟨n, hn⟩ : ∃ n, x.n = n := ⟨_, rfl⟩
      have hni := (HA0.out w (Below.refl _ _)).n
      rw [hn] at c1 hni
      unfold I64 at hni
      clear hn HN
      by_cases hz : n.tmod 3 = 0
      · skip
        have hze : (n.tmod 3 != 0) = false := by simpa using hz
        clear hz
        have HA9 := HA0
        have hcl := wdo_any w w3 (HS.out.less (R' := []) (fun r hr => by cases hr)) HTI.out HTW.out x HA9.out hN (by have := HNX.out; omega)
        rw [HRX.out] at hcl
        have HCL := Lib.hid hcl
        clear hcl
        go_wp2_with (first | (refine wpList_load_g AKT _ rfl (by kernel_rfl) gx 0 rfl RX _ (rngL HROW.out) Try.underlying30 rfl (by rw [HL.out]; rfl) ?_) | fail)
        refine Calls.mono HCL.out ?_
        rintro e w9 ⟨rfl, hd⟩
        have HR9 := Lib.hid (Rnd.next HC.out HNX.out (by omega) hd)
        clear hd HCL HS HROW
        go_wp2_with fail
        go_roundw
        case rel => exact ⟨i + 1, by go_num, by omega, by omega, HR9⟩
        case measure => simp [intOf]; omega
      · skip
        have hze : (n.tmod 3 != 0) = true := by simpa using hz
        clear hz
        have c2 := cell_row HROW.out 2 _ HSE.out
        have c3 := cell_row HROW.out 3 _ HLI.out
        have hu2 := (HA0.out w (Below.refl _ _)).se
        have hu3 := (HA0.out w (Below.refl _ _)).li
        obtain ⟨se, hse⟩ : ∃ n, x.se = n := ⟨_, rfl⟩
        obtain ⟨li, hli⟩ : ∃ n, x.li = n := ⟨_, rfl⟩
        rw [hse] at c2 hu2; rw [hli] at c3 hu3
        obtain ⟨hu21, hu22⟩ := hu2; obtain ⟨hu31, hu32⟩ := hu3
        have HSEE := Lib.hid hse; have HLIE := Lib.hid hli
        clear hse hli HSE HLI
        have f2 := row_free HROW.out 2; have f3 := row_free HROW.out 3
        have hem := Int.emod_nonneg se (show (12 : Int) ≠ 0 by omega); have hem2 := Int.emod_lt_of_pos se (show (0 : Int) < 12 by omega); have hlm := Int.emod_nonneg li (show (12 : Int) ≠ 0 by omega); have hlm2 := Int.emod_lt_of_pos li (show (0 : Int) < 12 by omega)
        go_upto_region 8 with fail
        clear c1 c2 c3 f2 f3
        have h1 := HS.out.stored (l := RX.set 2 (.int .u64 (se % 12))) (fun r hr => by cases hr) (grown_setCell w3 gx 2 (.int .u64 (se % 12))) (row_setL HROW.out 2 (.int .u64 (se % 12)))
        have h2 := h1.stored (l := (RX.set 2 (.int .u64 (se % 12))).set 3 (.int .u64 (li % 12))) (fun r hr => by cases hr) (grown_setCell _ gx 3 (.int .u64 (li % 12))) (row_setL (row_setL HROW.out 2 (.int .u64 (se % 12))) 3 (.int .u64 (li % 12)))
        clear h1
        obtain ⟨x2, hx2⟩ : ∃ y : AskV, (⟨x.k, x.n, se % 12, li % 12, x.xk, x.xa, x.xb, x.xc, x.xn, x.xf, x.da, x.dn, x.dc, x.ra, x.rn, x.rc, x.data, x.rows⟩ : AskV) = y := ⟨_, rfl⟩
        have he2 : (RX.set 2 (.int .u64 (se % 12))).set 3 (.int .u64 (li % 12)) = x2.cells := by rw [← HRX.out, ← hx2]; rfl
        have HA9 : Hid (∀ W, Below w.heap.size w W → x2.At W) := Lib.hid (fun W h => by rw [← hx2]; exact { HA0.out W h with se := ⟨hem, by simp only; omega⟩, li := ⟨hlm, by simp only; omega⟩ })
        rw [he2] at h2
        obtain ⟨RY, hRY⟩ : ∃ R, x2.cells = R := ⟨_, rfl⟩
        have HRY := Lib.hid hRY
        rw [hRY] at h2
        replace HS := Lib.hid h2
        replace HL : Hid (RY.length = 12) := Lib.hid (by rw [← hRY]; rfl)
        clear h2 he2 hx2 hRY HROW HRX HO HA0 hem hem2 hlm hlm2
        generalize (w3.setCell ⟨gx, 2, none⟩ (.int .u64 (se % 12))).setCell ⟨gx, 3, none⟩ (.int .u64 (li % 12)) = w5 at HS ⊢
        have HROW : Hid (w5.heap[gx]? = some (.cells RY.toArray AKT (0, 0))) := Lib.hid (HS.out.row _ (List.mem_cons_self ..))
        have hcl := wdo_any w w5 (HS.out.less (R' := []) (fun r hr => by cases hr)) HTI.out HTW.out x2 HA9.out hN (by have := HNX.out; omega)
        rw [HRY.out] at hcl
        have HCL := Lib.hid hcl
        clear hcl
        go_wp2_with (first | (refine wpList_load_g AKT _ rfl (by kernel_rfl) gx 0 rfl RY _ (rngL HROW.out) Try.underlying30 rfl (by rw [HL.out]; rfl) ?_) | fail)
        refine Calls.mono HCL.out ?_
        rintro e w9 ⟨rfl, hd⟩
        have HR9 := Lib.hid (Rnd.next HC.out HNX.out (by omega) hd)
        clear hd HCL HS HROW
        go_wp2_with fail
        go_roundw
        case rel => exact ⟨i + 1, by go_num, by omega, by omega, HR9⟩
        case measure => simp [intOf]; omega
    · skip
      have HK9 : Hid (∀ W, Makes Try.prog 7 #[] W (.bool true)) := Lib.hid known20_any
      have HLOW := Lib.hid HS.out.low
      clear HS
      by_cases hlt2 : i < len
      · skip
        have h60 : ¬ i < 60 := fun h => hlt ⟨hlt2, h⟩
        clear hlt
        go_wp2_with fail
        refine Calls.mono (HK9.out _) ?_
        rintro e w9 ⟨rfl, hb⟩
        go_wp2_with fail
        (try simp only [Exit.inBlock, Exit.then])
        go_ret
        exact ⟨rfl, bl_next HLOW.out HLOW.out.size hb⟩
      · skip
        clear hlt
        go_wp2_with fail
        refine Calls.mono (HK9.out _) ?_
        rintro e w9 ⟨rfl, hb⟩
        go_wp2_with fail
        (try simp only [Exit.inBlock, Exit.then])
        go_ret
        exact ⟨rfl, bl_next HLOW.out HLOW.out.size hb⟩
end Go.Proofs.Ytjdcmhclamjcjaa
