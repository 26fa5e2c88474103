/- texts of the proof, laid together: Cid44, Cid45. -/
import Derived.Test.YtjdcmhclamjcjaaV9
import Derived.Test.YtjdcmhclamjcjaaV10
namespace Go.Proofs.Ytjdcmhclamjcjaa
open Go.RowKit
set_option linter.unusedVariables false
set_option linter.unusedSimpArgs false

theorem issT_wf (o : Ow) (h : 0 ≤ o.nx ∧ o.nx ≤ 4611686018427387904) : (issT o).1.Wf := by
  unfold issT; split
  · exact zeroF_wf
  · exact ⟨by simp [issF], by simp [issF, U64], by simp [issF, U64], by simp [issF, U64], by simp [issF, U64], by simp [issF, U64], by simp only [issF, U64]; omega, by simp [issF, U64], rfl, wf_bytes _⟩
theorem nil_nil (w : World) (f : Fr) (h : f.data = [] ∧ f.rg = []) : (∃ a n c, NILV = .slice a n c ∧ n ≤ c ∧ c ≤ 9223372036854775807 ∧ IntsK .u8 w a n f.data) ∧ ∃ a n c, NILV = .slice a n c ∧ n ≤ c ∧ c ≤ 9223372036854775807 ∧ rgK.At w a n f.rg := by
  rw [h.1, h.2]; exact ⟨⟨none, 0, 0, rfl, Nat.le_refl _, by omega, IntsK.nil _ _ _⟩, ⟨none, 0, 0, rfl, Nat.le_refl _, by omega, RK.At.nil _ _⟩⟩
theorem issT_nil (w : World) (o : Ow) : (∃ a n c, NILV = .slice a n c ∧ n ≤ c ∧ c ≤ 9223372036854775807 ∧ IntsK .u8 w a n (issT o).1.data) ∧ ∃ a n c, NILV = .slice a n c ∧ n ≤ c ∧ c ≤ 9223372036854775807 ∧ rgK.At w a n (issT o).1.rg := nil_nil w _ (by unfold issT; split <;> exact ⟨rfl, rfl⟩)
theorem nxtT_nil (w : World) (S : Th) : (∃ a n c, NILV = .slice a n c ∧ n ≤ c ∧ c ≤ 9223372036854775807 ∧ IntsK .u8 w a n (nxtT S).1.data) ∧ ∃ a n c, NILV = .slice a n c ∧ n ≤ c ∧ c ≤ 9223372036854775807 ∧ rgK.At w a n (nxtT S).1.rg := nil_nil w _ (by unfold nxtT; cases S.due <;> exact ⟨rfl, rfl⟩)
theorem nxtT_wf (S : Th) (h : ∀ d ∈ S.due, U64 d) : (nxtT S).1.Wf := by
  unfold nxtT
  cases hd : S.due with
  | nil => exact zeroF_wf
  | cons d l => exact ⟨by simp [retF], by simp [retF, U64], by simp [retF, U64], by simp [retF, U64], by simp [retF, U64], by simp [retF, U64], h d (by rw [hd]; exact List.mem_cons_self ..), by simp [retF, U64], rfl, z8_ok.2⟩
set_option maxRecDepth 100000 in
set_option maxHeartbeats 4000000 in
theorem do_ret {x1 x2 x4 x5 x6 x7 x8 x9 x10 x11 x12 x13 x14 x15 x16 x17 x18 x19 x20 x21 x22 x23 x24 x25 x26 x27 x28 x29 x30 x31 x32 x33 x34 x35 x36 x37 x38 x39 x40 x41 x42 x43 x44 x45 x46 x47 x48 x49 x50 x51 x52 x53 x54 x55 x56 x57 x58 x59 x60 x61 x62 x63 x64 x65 x66 x67 x68 x69 x70 x71 x72 x73 x74 x75 x76 x77 x78 x79 x80 x81 x82 x83 x84 x85 x86 x87 x88 x89 x90 x91 x92 x93 x94 x95 x96 x97 x98 x99 x100 x101 x102 x103 x104 x105 x106 x107 x108 x109 x110 x111 x112 x113 x114 x115 x116 x117 x118 x119 x120 x121 x122 x123 x124 x125 x126 x127 x128 x129 x130 x131 x132 x133 x134 x135 x136 x137 x138 x139 x140 x141 x142 x143 x144 x145 x146 x147 x148 x149 x150 x151 x152 x153 x154 x155 x156 x157 x158 x159 x160 x161 x162 x163 x164 x165 x166 x167 x168 x169 x170 x171 x172 x173 x174 x175 x176 x177 x178 x179 x180 x181 x182 x183 x184 x185 x186 x187 x188 : Value} {g gx po pt pp pq bse N : Nat} {B1 B2 B3 B4 : List Nat} {o p : Ow} {t q : Th} {R : List AuxR} {w0 : World} {se : Int} {RX : List Value} (w : World) {Q : Exit → Act → World → Prop}
    (HS : Hid (Sx bse w0 w g po pt pp pq B1 B2 B3 B4 N o t p q R)) (hNN : N ≤ 10000) (HX : Hid ((gx, RX, AKT) ∈ R)) (H2 : Hid (RX[2]? = some (.int .u64 se))) (hse : U64 se)
    (hQp : ∀ c a d v w, Q (.panic c) (a.put d v) w → Q (.panic c) a w)
    (hQ : ∀ (y48 y49 y50 y51 y52 y53 y54 y55 y56 y57 : Value) (gz : Nat) (C : List Nat) (w' : World), Hid (Sx bse w0 w' g po pt pp pq C B2 B3 B4 N ⟨(retT o.L se).2.2, o.nx, o.sd⟩ t p q ((gz, ((retT o.L se).1.map (Value.int .u8)), 38) :: R)) → Q .normal ⟨List.toArray (.pointer (some ⟨g, 0, none⟩) :: x1 :: x2 :: .pointer (some ⟨gx, 0, none⟩) :: x4 :: .pointer (some ⟨gz, 0, none⟩) :: .int .i64 (retT o.L se).2.1 :: x7 :: x8 :: x9 :: x10 :: x11 :: x12 :: x13 :: x14 :: x15 :: x16 :: x17 :: x18 :: x19 :: x20 :: x21 :: x22 :: x23 :: x24 :: x25 :: x26 :: x27 :: x28 :: x29 :: x30 :: x31 :: x32 :: x33 :: x34 :: x35 :: x36 :: x37 :: x38 :: x39 :: x40 :: x41 :: x42 :: x43 :: x44 :: x45 :: x46 :: x47 :: y48 :: y49 :: y50 :: y51 :: y52 :: y53 :: y54 :: y55 :: y56 :: y57 :: x58 :: x59 :: x60 :: x61 :: x62 :: x63 :: x64 :: x65 :: x66 :: x67 :: x68 :: x69 :: x70 :: x71 :: x72 :: x73 :: x74 :: x75 :: x76 :: x77 :: x78 :: x79 :: x80 :: x81 :: x82 :: x83 :: x84 :: x85 :: x86 :: x87 :: x88 :: x89 :: x90 :: x91 :: x92 :: x93 :: x94 :: x95 :: x96 :: x97 :: x98 :: x99 :: x100 :: x101 :: x102 :: x103 :: x104 :: x105 :: x106 :: x107 :: x108 :: x109 :: x110 :: x111 :: x112 :: x113 :: x114 :: x115 :: x116 :: x117 :: x118 :: x119 :: x120 :: x121 :: x122 :: x123 :: x124 :: x125 :: x126 :: x127 :: x128 :: x129 :: x130 :: x131 :: x132 :: x133 :: x134 :: x135 :: x136 :: x137 :: x138 :: x139 :: x140 :: x141 :: x142 :: x143 :: x144 :: x145 :: x146 :: x147 :: x148 :: x149 :: x150 :: x151 :: x152 :: x153 :: x154 :: x155 :: x156 :: x157 :: x158 :: x159 :: x160 :: x161 :: x162 :: x163 :: x164 :: x165 :: x166 :: x167 :: x168 :: x169 :: x170 :: x171 :: x172 :: x173 :: x174 :: x175 :: x176 :: x177 :: x178 :: x179 :: x180 :: x181 :: x182 :: x183 :: x184 :: x185 :: x186 :: x187 :: x188 :: []), []⟩ w') :
    Code.wp Try.prog (((Try.f6.body.bind (subRegion 7)).getD .skip)) Q ⟨List.toArray (.pointer (some ⟨g, 0, none⟩) :: x1 :: x2 :: .pointer (some ⟨gx, 0, none⟩) :: x4 :: x5 :: x6 :: x7 :: x8 :: x9 :: x10 :: x11 :: x12 :: x13 :: x14 :: x15 :: x16 :: x17 :: x18 :: x19 :: x20 :: x21 :: x22 :: x23 :: x24 :: x25 :: x26 :: x27 :: x28 :: x29 :: x30 :: x31 :: x32 :: x33 :: x34 :: x35 :: x36 :: x37 :: x38 :: x39 :: x40 :: x41 :: x42 :: x43 :: x44 :: x45 :: x46 :: x47 :: x48 :: x49 :: x50 :: x51 :: x52 :: x53 :: x54 :: x55 :: x56 :: x57 :: x58 :: x59 :: x60 :: x61 :: x62 :: x63 :: x64 :: x65 :: x66 :: x67 :: x68 :: x69 :: x70 :: x71 :: x72 :: x73 :: x74 :: x75 :: x76 :: x77 :: x78 :: x79 :: x80 :: x81 :: x82 :: x83 :: x84 :: x85 :: x86 :: x87 :: x88 :: x89 :: x90 :: x91 :: x92 :: x93 :: x94 :: x95 :: x96 :: x97 :: x98 :: x99 :: x100 :: x101 :: x102 :: x103 :: x104 :: x105 :: x106 :: x107 :: x108 :: x109 :: x110 :: x111 :: x112 :: x113 :: x114 :: x115 :: x116 :: x117 :: x118 :: x119 :: x120 :: x121 :: x122 :: x123 :: x124 :: x125 :: x126 :: x127 :: x128 :: x129 :: x130 :: x131 :: x132 :: x133 :: x134 :: x135 :: x136 :: x137 :: x138 :: x139 :: x140 :: x141 :: x142 :: x143 :: x144 :: x145 :: x146 :: x147 :: x148 :: x149 :: x150 :: x151 :: x152 :: x153 :: x154 :: x155 :: x156 :: x157 :: x158 :: x159 :: x160 :: x161 :: x162 :: x163 :: x164 :: x165 :: x166 :: x167 :: x168 :: x169 :: x170 :: x171 :: x172 :: x173 :: x174 :: x175 :: x176 :: x177 :: x178 :: x179 :: x180 :: x181 :: x182 :: x183 :: x184 :: x185 :: x186 :: x187 :: x188 :: []), []⟩ w := by
  have HK := Lib.hid hQ; have HKP := Lib.hid hQp
  clear hQ hQp
  conv => arg 2; whnf
  have HOK := Lib.hid (retT_ok se (OwnAt.ok HS.out.wd.ho))
  have hl : ((retT o.L se).1.map (Value.int .u8)).length = 8 := by simp [HOK.out.1]
  have ho : ∀ v ∈ ((retT o.L se).1.map (Value.int .u8)), v.oneCell' = true := cdK.one _ HOK.out
  obtain ⟨RC, hRC⟩ : ∃ R, ((retT o.L se).1.map (Value.int .u8)) = R := ⟨_, rfl⟩
  have HRC := Lib.hid hRC
  rw [hRC] at hl ho
  have HLC := Lib.hid hl; have HOC := Lib.hid ho
  clear hl ho hRC
  have HROW := Lib.hid HS.out.wd.row
  have HXR : Hid (w.heap[gx]? = some (.cells RX.toArray AKT (0, 0))) := Lib.hid (HS.out.row _ HX.out)
  have g0 : ∀ z : In (fun y => y.heap[g]? = some (.cells (wdRow po pt pp pq).toArray WDT (0, 0)) ∧ y.heap[gx]? = some (.cells RX.toArray AKT (0, 0))), z.w.cell? ⟨g, 0, none⟩ = some (.pointer (some ⟨po, 0, none⟩)) := fun z => cell_row z.h.1 0 _ rfl
  have g1 : ∀ z : In (fun y => y.heap[g]? = some (.cells (wdRow po pt pp pq).toArray WDT (0, 0)) ∧ y.heap[gx]? = some (.cells RX.toArray AKT (0, 0))), z.w.cell? ⟨gx, 2, none⟩ = some (.int .u64 se) := fun z => cell_row z.h.2 2 _ H2.out
  refine wp_plan (.t 0 (.t 1 (.t 2 (.t 3 (.t 4 (.t 5 (.b 6 (.t 7 (.t 8 (.t 9 (.u 10 (.u 11 (.t 12 .done)))))) 10 (.u 6 (.t 7 (.t 8 (.t 9 (.u 11 (.t 12 .done))))))))))))) (fun y => y.heap[g]? = some (.cells (wdRow po pt pp pq).toArray WDT (0, 0)) ∧ y.heap[gx]? = some (.cells RX.toArray AKT (0, 0))) (by kernel_rfl) (by kernel_rfl) (by kernel_rfl) (fun c a d v w h => by first | (cases d <;> exact h) | exact HKP.out c a d v w h) ⟨HROW.out, HXR.out⟩ ?_
  replace HS := Lib.hid HS.out.drew
  have hS : w.drew.heap[g]? = _ ∧ w.drew.heap[gx]? = _ := ⟨HROW.out, HXR.out⟩
  generalize w.drew = wd at HS hS ⊢
  haveI hne : Nonempty (In (fun y => y.heap[g]? = some (.cells (wdRow po pt pp pq).toArray WDT (0, 0)) ∧ y.heap[gx]? = some (.cells RX.toArray AKT (0, 0)))) := ⟨⟨wd, hS⟩⟩
  repeat (first | (refine plan_t (by rfl) ?_; (first | go_big_quiet_skip | (go_big_quiet_want; go_big_quiet_op; go_big_quiet_on)); refine wpQuiet_nil ?_))
  clear hS g0 g1
  refine plan_b ?_ ?_
  · refine plan_half (by rfl) (by kernel_rfl) ?_
    intro K hK
    have hcl := Calls.mono (retire_any wd po B1 o.L o.nx o.sd se HS.out.wd.ho hse) (fun e w' h => RetR.get h)
    simp only [HRC.out] at hcl
    have HCL := Lib.hid hcl
    clear hcl
    go_wp2_with fail
    refine Calls.mono HCL.out ?_
    rintro e w1 ⟨C, hu, rfl, hown⟩
    replace HS := Lib.hid (HS.out.stepO hu (o' := ⟨(retT o.L se).2.2, o.nx, o.sd⟩) hown)
    clear hu hown HCL
    go_wp2_with fail
    refine ⟨⟨HS.out.wd.row, HS.out.row _ HX.out⟩, ?_⟩
    repeat (first | (refine plan_t (by rfl) ?_; (first | go_big_quiet_skip | (go_big_quiet_want; go_big_quiet_op; go_big_quiet_on)); refine wpQuiet_nil ?_))
    refine plan_us (by rfl) (by kernel_rfl) ?_
    intro K hK
    have HN9 := Lib.hid HS.out.ne
    replace HS := Lib.hid (HS.out.boxed [.int .u8 0, .int .u8 0, .int .u8 0, .int .u8 0, .int .u8 0, .int .u8 0, .int .u8 0, .int .u8 0] 38)
    go_wp2_with fail
    (try change _ ∧ Plan.wp _ _ _ _ _ _ (w1.alloc (.cells ([.int .u8 0, .int .u8 0, .int .u8 0, .int .u8 0, .int .u8 0, .int .u8 0, .int .u8 0, .int .u8 0] : List Value).toArray 38)))
    refine ⟨⟨HS.out.wd.row, HS.out.row _ (List.mem_cons_of_mem _ HX.out)⟩, ?_⟩
    (try change Plan.wp _ _ _ _ _ _ (w1.alloc (.cells ([.int .u8 0, .int .u8 0, .int .u8 0, .int .u8 0, .int .u8 0, .int .u8 0, .int .u8 0, .int .u8 0] : List Value).toArray 38)))
    generalize w1.alloc (.cells ([.int .u8 0, .int .u8 0, .int .u8 0, .int .u8 0, .int .u8 0, .int .u8 0, .int .u8 0, .int .u8 0] : List Value).toArray 38) = w2 at HS ⊢
    obtain ⟨gz, hgz⟩ : ∃ g, w1.heap.size = g := ⟨_, rfl⟩
    rw [hgz] at HS HN9 ⊢
    clear hgz
    refine plan_us (by rfl) (by kernel_rfl) ?_
    intro K hK
    refine wp_store_row 38 _ _ rfl gz rfl RC [.int .u8 0, .int .u8 0, .int .u8 0, .int .u8 0, .int .u8 0, .int .u8 0, .int .u8 0, .int .u8 0] rfl 38 (HS.out.row _ (List.mem_cons_self ..)) (by rw [HLC.out]; rfl) (by rw [HLC.out]; rfl) HOC.out ?_
    intro w3 hr hg
    replace HS := Lib.hid (HS.out.stored HN9.out hg hr)
    clear hr hg
    refine hK _ _ ⟨⟨HS.out.wd.row, HS.out.row _ (List.mem_cons_of_mem _ HX.out)⟩, ?_⟩
    clear hK K
    simp only [Act.put, List.setIfInBounds_toArray, List.set_cons_succ, List.set_cons_zero]
    repeat (first | (refine plan_t (by rfl) ?_; (first | go_big_quiet_skip | (go_big_quiet_want; go_big_quiet_op; go_big_quiet_on)); refine wpQuiet_nil ?_))
    clear hne
    show Q _ _ _
    have hfin := HS.out
    have hrc := HRC.out
    rw [← hrc] at hfin
    exact HK.out _ _ _ _ _ _ _ _ _ _ gz C _ (Lib.hid hfin)
  · refine plan_half (by rfl) (by kernel_rfl) ?_
    intro K hK
    have HN9 := Lib.hid HS.out.ne
    replace HS := Lib.hid (HS.out.boxed [.int .u8 0, .int .u8 0, .int .u8 0, .int .u8 0, .int .u8 0, .int .u8 0, .int .u8 0, .int .u8 0] 38)
    go_wp2_with fail
    (try change _ ∧ Plan.wp _ _ _ _ _ _ (wd.alloc (.cells ([.int .u8 0, .int .u8 0, .int .u8 0, .int .u8 0, .int .u8 0, .int .u8 0, .int .u8 0, .int .u8 0] : List Value).toArray 38)))
    refine ⟨⟨HS.out.wd.row, HS.out.row _ (List.mem_cons_of_mem _ HX.out)⟩, ?_⟩
    (try change Plan.wp _ _ _ _ _ _ (wd.alloc (.cells ([.int .u8 0, .int .u8 0, .int .u8 0, .int .u8 0, .int .u8 0, .int .u8 0, .int .u8 0, .int .u8 0] : List Value).toArray 38)))
    generalize wd.alloc (.cells ([.int .u8 0, .int .u8 0, .int .u8 0, .int .u8 0, .int .u8 0, .int .u8 0, .int .u8 0, .int .u8 0] : List Value).toArray 38) = w4 at HS ⊢
    obtain ⟨gz, hgz⟩ : ∃ g, wd.heap.size = g := ⟨_, rfl⟩
    rw [hgz] at HS HN9 ⊢
    clear hgz
    refine plan_us (by rfl) (by kernel_rfl) ?_
    intro K hK
    have hcl := Calls.mono (retire_any w4 po B1 o.L o.nx o.sd se HS.out.wd.ho hse) (fun e w' h => RetR.get h)
    simp only [HRC.out] at hcl
    have HCL := Lib.hid hcl
    clear hcl
    go_wp2_with fail
    refine Calls.mono HCL.out ?_
    rintro e w5 ⟨C, hu, rfl, hown⟩
    replace HS := Lib.hid (HS.out.stepO hu (o' := ⟨(retT o.L se).2.2, o.nx, o.sd⟩) hown)
    clear hu hown HCL
    go_wp2_with fail
    refine ⟨⟨HS.out.wd.row, HS.out.row _ (List.mem_cons_of_mem _ HX.out)⟩, ?_⟩
    repeat (first | (refine plan_t (by rfl) ?_; (first | go_big_quiet_skip | (go_big_quiet_want; go_big_quiet_op; go_big_quiet_on)); refine wpQuiet_nil ?_))
    refine plan_us (by rfl) (by kernel_rfl) ?_
    intro K hK
    refine wp_store_row 38 _ _ rfl gz rfl RC [.int .u8 0, .int .u8 0, .int .u8 0, .int .u8 0, .int .u8 0, .int .u8 0, .int .u8 0, .int .u8 0] rfl 38 (HS.out.row _ (List.mem_cons_self ..)) (by rw [HLC.out]; rfl) (by rw [HLC.out]; rfl) HOC.out ?_
    intro w6 hr hg
    replace HS := Lib.hid (HS.out.stored HN9.out hg hr)
    clear hr hg
    refine hK _ _ ⟨⟨HS.out.wd.row, HS.out.row _ (List.mem_cons_of_mem _ HX.out)⟩, ?_⟩
    clear hK K
    simp only [Act.put, List.setIfInBounds_toArray, List.set_cons_succ, List.set_cons_zero]
    repeat (first | (refine plan_t (by rfl) ?_; (first | go_big_quiet_skip | (go_big_quiet_want; go_big_quiet_op; go_big_quiet_on)); refine wpQuiet_nil ?_))
    clear hne
    show Q _ _ _
    have hfin := HS.out
    have hrc := HRC.out
    rw [← hrc] at hfin
    exact HK.out _ _ _ _ _ _ _ _ _ _ gz C _ (Lib.hid hfin)
set_option maxRecDepth 100000 in
set_option maxHeartbeats 4000000 in
theorem do_rret {x1 x2 x4 x5 x6 x7 x8 x9 x10 x11 x12 x13 x14 x15 x16 x17 x18 x19 x20 x21 x22 x23 x24 x25 x26 x27 x28 x29 x30 x31 x32 x33 x34 x35 x36 x37 x38 x39 x40 x41 x42 x43 x44 x45 x46 x47 x48 x49 x50 x51 x52 x53 x54 x55 x56 x57 x58 x59 x60 x61 x62 x63 x64 x65 x66 x67 x68 x69 x70 x71 x72 x73 x74 x75 x76 x77 x78 x79 x80 x81 x82 x83 x84 x85 x86 x87 x88 x89 x90 x91 x92 x93 x94 x95 x96 x97 x98 x99 x100 x101 x102 x103 x104 x105 x106 x107 x108 x109 x110 x111 x112 x113 x114 x115 x116 x117 x118 x119 x120 x121 x122 x123 x124 x125 x126 x127 x128 x129 x130 x131 x132 x133 x134 x135 x136 x137 x138 x139 x140 x141 x142 x143 x144 x145 x146 x147 x148 x149 x150 x151 x152 x153 x154 x155 x156 x157 x158 x159 x160 x161 x162 x163 x164 x165 x166 x167 x168 x169 x170 x171 x172 x173 x174 x175 x176 x177 x178 x179 x180 x181 x182 x183 x184 x185 x186 x187 x188 : Value} {g gx po pt pp pq bse N : Nat} {B1 B2 B3 B4 : List Nat} {o p : Ow} {t q : Th} {R : List AuxR} {w0 : World} {se : Int} {RX : List Value} (w : World) {Q : Exit → Act → World → Prop}
    (HS : Hid (Sx bse w0 w g po pt pp pq B1 B2 B3 B4 N o t p q R)) (hNN : N ≤ 10000) (HX : Hid ((gx, RX, AKT) ∈ R)) (H2 : Hid (RX[2]? = some (.int .u64 se))) (hse : U64 se)
    (hQp : ∀ c a d v w, Q (.panic c) (a.put d v) w → Q (.panic c) a w)
    (hQ : ∀ (y58 y59 y60 y61 y62 y63 y64 y65 y66 y67 : Value) (gz : Nat) (C : List Nat) (w' : World), Hid (Sx bse w0 w' g po pt pp pq B1 B2 C B4 N o t ⟨(retT p.L se).2.2, p.nx, p.sd⟩ q ((gz, ((retT p.L se).1.map (Value.int .u8)), 38) :: R)) → Q .normal ⟨List.toArray (.pointer (some ⟨g, 0, none⟩) :: x1 :: x2 :: .pointer (some ⟨gx, 0, none⟩) :: x4 :: x5 :: x6 :: .pointer (some ⟨gz, 0, none⟩) :: .int .i64 (retT p.L se).2.1 :: x9 :: x10 :: x11 :: x12 :: x13 :: x14 :: x15 :: x16 :: x17 :: x18 :: x19 :: x20 :: x21 :: x22 :: x23 :: x24 :: x25 :: x26 :: x27 :: x28 :: x29 :: x30 :: x31 :: x32 :: x33 :: x34 :: x35 :: x36 :: x37 :: x38 :: x39 :: x40 :: x41 :: x42 :: x43 :: x44 :: x45 :: x46 :: x47 :: x48 :: x49 :: x50 :: x51 :: x52 :: x53 :: x54 :: x55 :: x56 :: x57 :: y58 :: y59 :: y60 :: y61 :: y62 :: y63 :: y64 :: y65 :: y66 :: y67 :: x68 :: x69 :: x70 :: x71 :: x72 :: x73 :: x74 :: x75 :: x76 :: x77 :: x78 :: x79 :: x80 :: x81 :: x82 :: x83 :: x84 :: x85 :: x86 :: x87 :: x88 :: x89 :: x90 :: x91 :: x92 :: x93 :: x94 :: x95 :: x96 :: x97 :: x98 :: x99 :: x100 :: x101 :: x102 :: x103 :: x104 :: x105 :: x106 :: x107 :: x108 :: x109 :: x110 :: x111 :: x112 :: x113 :: x114 :: x115 :: x116 :: x117 :: x118 :: x119 :: x120 :: x121 :: x122 :: x123 :: x124 :: x125 :: x126 :: x127 :: x128 :: x129 :: x130 :: x131 :: x132 :: x133 :: x134 :: x135 :: x136 :: x137 :: x138 :: x139 :: x140 :: x141 :: x142 :: x143 :: x144 :: x145 :: x146 :: x147 :: x148 :: x149 :: x150 :: x151 :: x152 :: x153 :: x154 :: x155 :: x156 :: x157 :: x158 :: x159 :: x160 :: x161 :: x162 :: x163 :: x164 :: x165 :: x166 :: x167 :: x168 :: x169 :: x170 :: x171 :: x172 :: x173 :: x174 :: x175 :: x176 :: x177 :: x178 :: x179 :: x180 :: x181 :: x182 :: x183 :: x184 :: x185 :: x186 :: x187 :: x188 :: []), []⟩ w') :
    Code.wp Try.prog (((Try.f6.body.bind (subRegion 8)).getD .skip)) Q ⟨List.toArray (.pointer (some ⟨g, 0, none⟩) :: x1 :: x2 :: .pointer (some ⟨gx, 0, none⟩) :: x4 :: x5 :: x6 :: x7 :: x8 :: x9 :: x10 :: x11 :: x12 :: x13 :: x14 :: x15 :: x16 :: x17 :: x18 :: x19 :: x20 :: x21 :: x22 :: x23 :: x24 :: x25 :: x26 :: x27 :: x28 :: x29 :: x30 :: x31 :: x32 :: x33 :: x34 :: x35 :: x36 :: x37 :: x38 :: x39 :: x40 :: x41 :: x42 :: x43 :: x44 :: x45 :: x46 :: x47 :: x48 :: x49 :: x50 :: x51 :: x52 :: x53 :: x54 :: x55 :: x56 :: x57 :: x58 :: x59 :: x60 :: x61 :: x62 :: x63 :: x64 :: x65 :: x66 :: x67 :: x68 :: x69 :: x70 :: x71 :: x72 :: x73 :: x74 :: x75 :: x76 :: x77 :: x78 :: x79 :: x80 :: x81 :: x82 :: x83 :: x84 :: x85 :: x86 :: x87 :: x88 :: x89 :: x90 :: x91 :: x92 :: x93 :: x94 :: x95 :: x96 :: x97 :: x98 :: x99 :: x100 :: x101 :: x102 :: x103 :: x104 :: x105 :: x106 :: x107 :: x108 :: x109 :: x110 :: x111 :: x112 :: x113 :: x114 :: x115 :: x116 :: x117 :: x118 :: x119 :: x120 :: x121 :: x122 :: x123 :: x124 :: x125 :: x126 :: x127 :: x128 :: x129 :: x130 :: x131 :: x132 :: x133 :: x134 :: x135 :: x136 :: x137 :: x138 :: x139 :: x140 :: x141 :: x142 :: x143 :: x144 :: x145 :: x146 :: x147 :: x148 :: x149 :: x150 :: x151 :: x152 :: x153 :: x154 :: x155 :: x156 :: x157 :: x158 :: x159 :: x160 :: x161 :: x162 :: x163 :: x164 :: x165 :: x166 :: x167 :: x168 :: x169 :: x170 :: x171 :: x172 :: x173 :: x174 :: x175 :: x176 :: x177 :: x178 :: x179 :: x180 :: x181 :: x182 :: x183 :: x184 :: x185 :: x186 :: x187 :: x188 :: []), []⟩ w := by
  have HK := Lib.hid hQ; have HKP := Lib.hid hQp
  clear hQ hQp
  conv => arg 2; whnf
  have HOK := Lib.hid (retT_ok se (OwnAt.ok HS.out.wd.hp))
  have hl : ((retT p.L se).1.map (Value.int .u8)).length = 8 := by simp [HOK.out.1]
  have ho : ∀ v ∈ ((retT p.L se).1.map (Value.int .u8)), v.oneCell' = true := cdK.one _ HOK.out
  obtain ⟨RC, hRC⟩ : ∃ R, ((retT p.L se).1.map (Value.int .u8)) = R := ⟨_, rfl⟩
  have HRC := Lib.hid hRC
  rw [hRC] at hl ho
  have HLC := Lib.hid hl; have HOC := Lib.hid ho
  clear hl ho hRC
  have HROW := Lib.hid HS.out.wd.row
  have HXR : Hid (w.heap[gx]? = some (.cells RX.toArray AKT (0, 0))) := Lib.hid (HS.out.row _ HX.out)
  have g0 : ∀ z : In (fun y => y.heap[g]? = some (.cells (wdRow po pt pp pq).toArray WDT (0, 0)) ∧ y.heap[gx]? = some (.cells RX.toArray AKT (0, 0))), z.w.cell? ⟨g, 2, none⟩ = some (.pointer (some ⟨pp, 0, none⟩)) := fun z => cell_row z.h.1 2 _ rfl
  have g1 : ∀ z : In (fun y => y.heap[g]? = some (.cells (wdRow po pt pp pq).toArray WDT (0, 0)) ∧ y.heap[gx]? = some (.cells RX.toArray AKT (0, 0))), z.w.cell? ⟨gx, 2, none⟩ = some (.int .u64 se) := fun z => cell_row z.h.2 2 _ H2.out
  refine wp_plan (.t 0 (.t 1 (.t 2 (.t 3 (.t 4 (.t 5 (.b 6 (.t 7 (.t 8 (.t 9 (.u 10 (.u 11 (.t 12 .done)))))) 10 (.u 6 (.t 7 (.t 8 (.t 9 (.u 11 (.t 12 .done))))))))))))) (fun y => y.heap[g]? = some (.cells (wdRow po pt pp pq).toArray WDT (0, 0)) ∧ y.heap[gx]? = some (.cells RX.toArray AKT (0, 0))) (by kernel_rfl) (by kernel_rfl) (by kernel_rfl) (fun c a d v w h => by first | (cases d <;> exact h) | exact HKP.out c a d v w h) ⟨HROW.out, HXR.out⟩ ?_
  replace HS := Lib.hid HS.out.drew
  have hS : w.drew.heap[g]? = _ ∧ w.drew.heap[gx]? = _ := ⟨HROW.out, HXR.out⟩
  generalize w.drew = wd at HS hS ⊢
  haveI hne : Nonempty (In (fun y => y.heap[g]? = some (.cells (wdRow po pt pp pq).toArray WDT (0, 0)) ∧ y.heap[gx]? = some (.cells RX.toArray AKT (0, 0)))) := ⟨⟨wd, hS⟩⟩
  repeat (first | (refine plan_t (by rfl) ?_; (first | go_big_quiet_skip | (go_big_quiet_want; go_big_quiet_op; go_big_quiet_on)); refine wpQuiet_nil ?_))
  clear hS g0 g1
  refine plan_b ?_ ?_
  · refine plan_half (by rfl) (by kernel_rfl) ?_
    intro K hK
    have hcl := Calls.mono (rretire_any wd pp B3 p.L p.nx p.sd se HS.out.wd.hp hse) (fun e w' h => RetR.get h)
    simp only [HRC.out] at hcl
    have HCL := Lib.hid hcl
    clear hcl
    go_wp2_with fail
    refine Calls.mono HCL.out ?_
    rintro e w1 ⟨C, hu, rfl, hown⟩
    replace HS := Lib.hid (HS.out.stepP hu (p' := ⟨(retT p.L se).2.2, p.nx, p.sd⟩) hown)
    clear hu hown HCL
    go_wp2_with fail
    refine ⟨⟨HS.out.wd.row, HS.out.row _ HX.out⟩, ?_⟩
    repeat (first | (refine plan_t (by rfl) ?_; (first | go_big_quiet_skip | (go_big_quiet_want; go_big_quiet_op; go_big_quiet_on)); refine wpQuiet_nil ?_))
    refine plan_us (by rfl) (by kernel_rfl) ?_
    intro K hK
    have HN9 := Lib.hid HS.out.ne
    replace HS := Lib.hid (HS.out.boxed [.int .u8 0, .int .u8 0, .int .u8 0, .int .u8 0, .int .u8 0, .int .u8 0, .int .u8 0, .int .u8 0] 38)
    go_wp2_with fail
    (try change _ ∧ Plan.wp _ _ _ _ _ _ (w1.alloc (.cells ([.int .u8 0, .int .u8 0, .int .u8 0, .int .u8 0, .int .u8 0, .int .u8 0, .int .u8 0, .int .u8 0] : List Value).toArray 38)))
    refine ⟨⟨HS.out.wd.row, HS.out.row _ (List.mem_cons_of_mem _ HX.out)⟩, ?_⟩
    (try change Plan.wp _ _ _ _ _ _ (w1.alloc (.cells ([.int .u8 0, .int .u8 0, .int .u8 0, .int .u8 0, .int .u8 0, .int .u8 0, .int .u8 0, .int .u8 0] : List Value).toArray 38)))
    generalize w1.alloc (.cells ([.int .u8 0, .int .u8 0, .int .u8 0, .int .u8 0, .int .u8 0, .int .u8 0, .int .u8 0, .int .u8 0] : List Value).toArray 38) = w2 at HS ⊢
    obtain ⟨gz, hgz⟩ : ∃ g, w1.heap.size = g := ⟨_, rfl⟩
    rw [hgz] at HS HN9 ⊢
    clear hgz
    refine plan_us (by rfl) (by kernel_rfl) ?_
    intro K hK
    refine wp_store_row 38 _ _ rfl gz rfl RC [.int .u8 0, .int .u8 0, .int .u8 0, .int .u8 0, .int .u8 0, .int .u8 0, .int .u8 0, .int .u8 0] rfl 38 (HS.out.row _ (List.mem_cons_self ..)) (by rw [HLC.out]; rfl) (by rw [HLC.out]; rfl) HOC.out ?_
    intro w3 hr hg
    replace HS := Lib.hid (HS.out.stored HN9.out hg hr)
    clear hr hg
    refine hK _ _ ⟨⟨HS.out.wd.row, HS.out.row _ (List.mem_cons_of_mem _ HX.out)⟩, ?_⟩
    clear hK K
    simp only [Act.put, List.setIfInBounds_toArray, List.set_cons_succ, List.set_cons_zero]
    repeat (first | (refine plan_t (by rfl) ?_; (first | go_big_quiet_skip | (go_big_quiet_want; go_big_quiet_op; go_big_quiet_on)); refine wpQuiet_nil ?_))
    clear hne
    show Q _ _ _
    have hfin := HS.out
    have hrc := HRC.out
    rw [← hrc] at hfin
    exact HK.out _ _ _ _ _ _ _ _ _ _ gz C _ (Lib.hid hfin)
  · refine plan_half (by rfl) (by kernel_rfl) ?_
    intro K hK
    have HN9 := Lib.hid HS.out.ne
    replace HS := Lib.hid (HS.out.boxed [.int .u8 0, .int .u8 0, .int .u8 0, .int .u8 0, .int .u8 0, .int .u8 0, .int .u8 0, .int .u8 0] 38)
    go_wp2_with fail
    (try change _ ∧ Plan.wp _ _ _ _ _ _ (wd.alloc (.cells ([.int .u8 0, .int .u8 0, .int .u8 0, .int .u8 0, .int .u8 0, .int .u8 0, .int .u8 0, .int .u8 0] : List Value).toArray 38)))
    refine ⟨⟨HS.out.wd.row, HS.out.row _ (List.mem_cons_of_mem _ HX.out)⟩, ?_⟩
    (try change Plan.wp _ _ _ _ _ _ (wd.alloc (.cells ([.int .u8 0, .int .u8 0, .int .u8 0, .int .u8 0, .int .u8 0, .int .u8 0, .int .u8 0, .int .u8 0] : List Value).toArray 38)))
    generalize wd.alloc (.cells ([.int .u8 0, .int .u8 0, .int .u8 0, .int .u8 0, .int .u8 0, .int .u8 0, .int .u8 0, .int .u8 0] : List Value).toArray 38) = w4 at HS ⊢
    obtain ⟨gz, hgz⟩ : ∃ g, wd.heap.size = g := ⟨_, rfl⟩
    rw [hgz] at HS HN9 ⊢
    clear hgz
    refine plan_us (by rfl) (by kernel_rfl) ?_
    intro K hK
    have hcl := Calls.mono (rretire_any w4 pp B3 p.L p.nx p.sd se HS.out.wd.hp hse) (fun e w' h => RetR.get h)
    simp only [HRC.out] at hcl
    have HCL := Lib.hid hcl
    clear hcl
    go_wp2_with fail
    refine Calls.mono HCL.out ?_
    rintro e w5 ⟨C, hu, rfl, hown⟩
    replace HS := Lib.hid (HS.out.stepP hu (p' := ⟨(retT p.L se).2.2, p.nx, p.sd⟩) hown)
    clear hu hown HCL
    go_wp2_with fail
    refine ⟨⟨HS.out.wd.row, HS.out.row _ (List.mem_cons_of_mem _ HX.out)⟩, ?_⟩
    repeat (first | (refine plan_t (by rfl) ?_; (first | go_big_quiet_skip | (go_big_quiet_want; go_big_quiet_op; go_big_quiet_on)); refine wpQuiet_nil ?_))
    refine plan_us (by rfl) (by kernel_rfl) ?_
    intro K hK
    refine wp_store_row 38 _ _ rfl gz rfl RC [.int .u8 0, .int .u8 0, .int .u8 0, .int .u8 0, .int .u8 0, .int .u8 0, .int .u8 0, .int .u8 0] rfl 38 (HS.out.row _ (List.mem_cons_self ..)) (by rw [HLC.out]; rfl) (by rw [HLC.out]; rfl) HOC.out ?_
    intro w6 hr hg
    replace HS := Lib.hid (HS.out.stored HN9.out hg hr)
    clear hr hg
    refine hK _ _ ⟨⟨HS.out.wd.row, HS.out.row _ (List.mem_cons_of_mem _ HX.out)⟩, ?_⟩
    clear hK K
    simp only [Act.put, List.setIfInBounds_toArray, List.set_cons_succ, List.set_cons_zero]
    repeat (first | (refine plan_t (by rfl) ?_; (first | go_big_quiet_skip | (go_big_quiet_want; go_big_quiet_op; go_big_quiet_on)); refine wpQuiet_nil ?_))
    clear hne
    show Q _ _ _
    have hfin := HS.out
    have hrc := HRC.out
    rw [← hrc] at hfin
    exact HK.out _ _ _ _ _ _ _ _ _ _ gz C _ (Lib.hid hfin)
set_option maxRecDepth 100000 in
set_option maxHeartbeats 4000000 in
theorem do_iss {x1 x2 x3 x4 x5 x6 x7 x8 x9 x10 x11 x12 x13 x14 x15 x16 x17 x18 x19 x20 x21 x22 x23 x24 x25 x26 x27 x28 x29 x30 x31 x32 x33 x34 x35 x36 x37 x38 x39 x40 x41 x42 x43 x44 x45 x46 x47 x48 x49 x50 x51 x52 x53 x54 x55 x56 x57 x58 x59 x60 x61 x62 x63 x64 x65 x66 x67 x68 x69 x70 x71 x72 x73 x74 x75 x76 x77 x78 x79 x80 x81 x82 x83 x84 x85 x86 x87 x88 x89 x90 x91 x92 x93 x94 x95 x96 x97 x98 x99 x100 x101 x102 x103 x104 x105 x106 x107 x108 x109 x110 x111 x112 x113 x114 x115 x116 x117 x118 x119 x120 x121 x122 x123 x124 x125 x126 x127 x128 x129 x130 x131 x132 x133 x134 x135 x136 x137 x138 x139 x140 x141 x142 x143 x144 x145 x146 x147 x148 x149 x150 x151 x152 x153 x154 x155 x156 x157 x158 x159 x160 x161 x162 x163 x164 x165 x166 x167 x168 x169 x170 x171 x172 x173 x174 x175 x176 x177 x178 x179 x180 x181 x182 x183 x184 x185 x186 x187 x188 : Value} {g gx po pt pp pq bse N : Nat} {B1 B2 B3 B4 : List Nat} {o p : Ow} {t q : Th} {R : List AuxR} {w0 : World} (w : World) {Q : Exit → Act → World → Prop}
    (HS : Hid (Sx bse w0 w g po pt pp pq B1 B2 B3 B4 N o t p q R)) (hNN : N ≤ 10000) (hnx : o.nx ≤ 1000000)
    (hQp : ∀ c a d v w, Q (.panic c) (a.put d v) w → Q (.panic c) a w)
    (hQ : ∀ (y21 y22 y23 y24 y25 y26 y27 y28 : Value) (gz : Nat) (C : List Nat) (w' : World), Hid (Sx bse w0 w' g po pt pp pq C B2 B3 B4 N (issT o).2.2 t p q ((gz, ((issT o).1.cells NILV NILV), 53) :: R)) → Q .normal ⟨List.toArray (.pointer (some ⟨g, 0, none⟩) :: x1 :: x2 :: x3 :: x4 :: x5 :: x6 :: x7 :: x8 :: x9 :: x10 :: x11 :: x12 :: x13 :: x14 :: .pointer (some ⟨gz, 0, none⟩) :: .bool (issT o).2.1 :: x17 :: x18 :: x19 :: x20 :: y21 :: y22 :: y23 :: y24 :: y25 :: y26 :: y27 :: y28 :: x29 :: x30 :: x31 :: x32 :: x33 :: x34 :: x35 :: x36 :: x37 :: x38 :: x39 :: x40 :: x41 :: x42 :: x43 :: x44 :: x45 :: x46 :: x47 :: x48 :: x49 :: x50 :: x51 :: x52 :: x53 :: x54 :: x55 :: x56 :: x57 :: x58 :: x59 :: x60 :: x61 :: x62 :: x63 :: x64 :: x65 :: x66 :: x67 :: x68 :: x69 :: x70 :: x71 :: x72 :: x73 :: x74 :: x75 :: x76 :: x77 :: x78 :: x79 :: x80 :: x81 :: x82 :: x83 :: x84 :: x85 :: x86 :: x87 :: x88 :: x89 :: x90 :: x91 :: x92 :: x93 :: x94 :: x95 :: x96 :: x97 :: x98 :: x99 :: x100 :: x101 :: x102 :: x103 :: x104 :: x105 :: x106 :: x107 :: x108 :: x109 :: x110 :: x111 :: x112 :: x113 :: x114 :: x115 :: x116 :: x117 :: x118 :: x119 :: x120 :: x121 :: x122 :: x123 :: x124 :: x125 :: x126 :: x127 :: x128 :: x129 :: x130 :: x131 :: x132 :: x133 :: x134 :: x135 :: x136 :: x137 :: x138 :: x139 :: x140 :: x141 :: x142 :: x143 :: x144 :: x145 :: x146 :: x147 :: x148 :: x149 :: x150 :: x151 :: x152 :: x153 :: x154 :: x155 :: x156 :: x157 :: x158 :: x159 :: x160 :: x161 :: x162 :: x163 :: x164 :: x165 :: x166 :: x167 :: x168 :: x169 :: x170 :: x171 :: x172 :: x173 :: x174 :: x175 :: x176 :: x177 :: x178 :: x179 :: x180 :: x181 :: x182 :: x183 :: x184 :: x185 :: x186 :: x187 :: x188 :: []), []⟩ w') :
    Code.wp Try.prog (((Try.f6.body.bind (subRegion 2)).getD .skip)) Q ⟨List.toArray (.pointer (some ⟨g, 0, none⟩) :: x1 :: x2 :: x3 :: x4 :: x5 :: x6 :: x7 :: x8 :: x9 :: x10 :: x11 :: x12 :: x13 :: x14 :: x15 :: x16 :: x17 :: x18 :: x19 :: x20 :: x21 :: x22 :: x23 :: x24 :: x25 :: x26 :: x27 :: x28 :: x29 :: x30 :: x31 :: x32 :: x33 :: x34 :: x35 :: x36 :: x37 :: x38 :: x39 :: x40 :: x41 :: x42 :: x43 :: x44 :: x45 :: x46 :: x47 :: x48 :: x49 :: x50 :: x51 :: x52 :: x53 :: x54 :: x55 :: x56 :: x57 :: x58 :: x59 :: x60 :: x61 :: x62 :: x63 :: x64 :: x65 :: x66 :: x67 :: x68 :: x69 :: x70 :: x71 :: x72 :: x73 :: x74 :: x75 :: x76 :: x77 :: x78 :: x79 :: x80 :: x81 :: x82 :: x83 :: x84 :: x85 :: x86 :: x87 :: x88 :: x89 :: x90 :: x91 :: x92 :: x93 :: x94 :: x95 :: x96 :: x97 :: x98 :: x99 :: x100 :: x101 :: x102 :: x103 :: x104 :: x105 :: x106 :: x107 :: x108 :: x109 :: x110 :: x111 :: x112 :: x113 :: x114 :: x115 :: x116 :: x117 :: x118 :: x119 :: x120 :: x121 :: x122 :: x123 :: x124 :: x125 :: x126 :: x127 :: x128 :: x129 :: x130 :: x131 :: x132 :: x133 :: x134 :: x135 :: x136 :: x137 :: x138 :: x139 :: x140 :: x141 :: x142 :: x143 :: x144 :: x145 :: x146 :: x147 :: x148 :: x149 :: x150 :: x151 :: x152 :: x153 :: x154 :: x155 :: x156 :: x157 :: x158 :: x159 :: x160 :: x161 :: x162 :: x163 :: x164 :: x165 :: x166 :: x167 :: x168 :: x169 :: x170 :: x171 :: x172 :: x173 :: x174 :: x175 :: x176 :: x177 :: x178 :: x179 :: x180 :: x181 :: x182 :: x183 :: x184 :: x185 :: x186 :: x187 :: x188 :: []), []⟩ w := by
  have HK := Lib.hid hQ; have HKP := Lib.hid hQp
  clear hQ hQp
  conv => arg 2; whnf
  have hwf : (issT o).1.Wf := issT_wf o (OwnAt.nx HS.out.wd.ho)
  have hl : ((issT o).1.cells NILV NILV).length = 19 := Fr.len hwf
  have ho : ∀ v ∈ ((issT o).1.cells NILV NILV), v.oneCell' = true := Fr.one (w := w) ⟨hwf, (issT_nil w o).1, (issT_nil w o).2⟩
  obtain ⟨RC, hRC⟩ : ∃ R, ((issT o).1.cells NILV NILV) = R := ⟨_, rfl⟩
  have HRC := Lib.hid hRC
  rw [hRC] at hl ho
  have HLC := Lib.hid hl; have HOC := Lib.hid ho
  clear hl ho hRC
  have HROW := Lib.hid HS.out.wd.row
  have cg := cell_row HROW.out 0 _ rfl
  have hcl := Calls.mono (issue_any w po B1 o.L o.nx o.sd HS.out.wd.ho hnx) (fun e w' h => IssR.get (o := o) h)
  simp only [HRC.out] at hcl
  have HCL := Lib.hid hcl
  clear hcl
  go_wp2_with fail
  refine Calls.mono HCL.out ?_
  rintro e w1 ⟨C, hu, rfl, hown⟩
  replace HS := Lib.hid (HS.out.stepO hu (o' := (issT o).2.2) hown)
  clear hu hown HCL
  go_wp2_with (first | (refine wpList_store_row rfl 53 _ _ rfl w1.heap.size rfl RC [.int .i64 0, .int .u64 0, .int .u64 0, .slice none 0 0, .bool false, .int .u64 0, .int .u64 0, .int .u64 0, .int .u64 0, .int .u64 0, .slice none 0 0, .int .u8 0, .int .u8 0, .int .u8 0, .int .u8 0, .int .u8 0, .int .u8 0, .int .u8 0, .int .u8 0] rfl 53 (heap_alloc_new _ _) (by rw [HLC.out]; rfl) (by rw [HLC.out]; rfl) HOC.out ?_; intro w2 hr hg; have HN9 := Lib.hid HS.out.ne; replace HS := Lib.hid ((HS.out.boxed [.int .i64 0, .int .u64 0, .int .u64 0, .slice none 0 0, .bool false, .int .u64 0, .int .u64 0, .int .u64 0, .int .u64 0, .int .u64 0, .slice none 0 0, .int .u8 0, .int .u8 0, .int .u8 0, .int .u8 0, .int .u8 0, .int .u8 0, .int .u8 0, .int .u8 0] 53).stored HN9.out hg hr); clear hr hg) | fail)
  have hfin := HS.out
  have hrc := HRC.out
  rw [← hrc] at hfin
  exact HK.out _ _ _ _ _ _ _ _ _ C _ (Lib.hid hfin)
set_option maxRecDepth 100000 in
set_option maxHeartbeats 4000000 in
theorem do_riss {x1 x2 x3 x4 x5 x6 x7 x8 x9 x10 x11 x12 x13 x14 x15 x16 x17 x18 x19 x20 x21 x22 x23 x24 x25 x26 x27 x28 x29 x30 x31 x32 x33 x34 x35 x36 x37 x38 x39 x40 x41 x42 x43 x44 x45 x46 x47 x48 x49 x50 x51 x52 x53 x54 x55 x56 x57 x58 x59 x60 x61 x62 x63 x64 x65 x66 x67 x68 x69 x70 x71 x72 x73 x74 x75 x76 x77 x78 x79 x80 x81 x82 x83 x84 x85 x86 x87 x88 x89 x90 x91 x92 x93 x94 x95 x96 x97 x98 x99 x100 x101 x102 x103 x104 x105 x106 x107 x108 x109 x110 x111 x112 x113 x114 x115 x116 x117 x118 x119 x120 x121 x122 x123 x124 x125 x126 x127 x128 x129 x130 x131 x132 x133 x134 x135 x136 x137 x138 x139 x140 x141 x142 x143 x144 x145 x146 x147 x148 x149 x150 x151 x152 x153 x154 x155 x156 x157 x158 x159 x160 x161 x162 x163 x164 x165 x166 x167 x168 x169 x170 x171 x172 x173 x174 x175 x176 x177 x178 x179 x180 x181 x182 x183 x184 x185 x186 x187 x188 : Value} {g gx po pt pp pq bse N : Nat} {B1 B2 B3 B4 : List Nat} {o p : Ow} {t q : Th} {R : List AuxR} {w0 : World} (w : World) {Q : Exit → Act → World → Prop}
    (HS : Hid (Sx bse w0 w g po pt pp pq B1 B2 B3 B4 N o t p q R)) (hNN : N ≤ 10000) (hnx : p.nx ≤ 1000000)
    (hQp : ∀ c a d v w, Q (.panic c) (a.put d v) w → Q (.panic c) a w)
    (hQ : ∀ (y29 y30 y31 y32 y33 y34 y35 y36 : Value) (gz : Nat) (C : List Nat) (w' : World), Hid (Sx bse w0 w' g po pt pp pq B1 B2 C B4 N o t (issT p).2.2 q ((gz, ((issT p).1.cells NILV NILV), 53) :: R)) → Q .normal ⟨List.toArray (.pointer (some ⟨g, 0, none⟩) :: x1 :: x2 :: x3 :: x4 :: x5 :: x6 :: x7 :: x8 :: x9 :: x10 :: x11 :: x12 :: x13 :: x14 :: x15 :: x16 :: .pointer (some ⟨gz, 0, none⟩) :: .bool (issT p).2.1 :: x19 :: x20 :: x21 :: x22 :: x23 :: x24 :: x25 :: x26 :: x27 :: x28 :: y29 :: y30 :: y31 :: y32 :: y33 :: y34 :: y35 :: y36 :: x37 :: x38 :: x39 :: x40 :: x41 :: x42 :: x43 :: x44 :: x45 :: x46 :: x47 :: x48 :: x49 :: x50 :: x51 :: x52 :: x53 :: x54 :: x55 :: x56 :: x57 :: x58 :: x59 :: x60 :: x61 :: x62 :: x63 :: x64 :: x65 :: x66 :: x67 :: x68 :: x69 :: x70 :: x71 :: x72 :: x73 :: x74 :: x75 :: x76 :: x77 :: x78 :: x79 :: x80 :: x81 :: x82 :: x83 :: x84 :: x85 :: x86 :: x87 :: x88 :: x89 :: x90 :: x91 :: x92 :: x93 :: x94 :: x95 :: x96 :: x97 :: x98 :: x99 :: x100 :: x101 :: x102 :: x103 :: x104 :: x105 :: x106 :: x107 :: x108 :: x109 :: x110 :: x111 :: x112 :: x113 :: x114 :: x115 :: x116 :: x117 :: x118 :: x119 :: x120 :: x121 :: x122 :: x123 :: x124 :: x125 :: x126 :: x127 :: x128 :: x129 :: x130 :: x131 :: x132 :: x133 :: x134 :: x135 :: x136 :: x137 :: x138 :: x139 :: x140 :: x141 :: x142 :: x143 :: x144 :: x145 :: x146 :: x147 :: x148 :: x149 :: x150 :: x151 :: x152 :: x153 :: x154 :: x155 :: x156 :: x157 :: x158 :: x159 :: x160 :: x161 :: x162 :: x163 :: x164 :: x165 :: x166 :: x167 :: x168 :: x169 :: x170 :: x171 :: x172 :: x173 :: x174 :: x175 :: x176 :: x177 :: x178 :: x179 :: x180 :: x181 :: x182 :: x183 :: x184 :: x185 :: x186 :: x187 :: x188 :: []), []⟩ w') :
    Code.wp Try.prog (((Try.f6.body.bind (subRegion 3)).getD .skip)) Q ⟨List.toArray (.pointer (some ⟨g, 0, none⟩) :: x1 :: x2 :: x3 :: x4 :: x5 :: x6 :: x7 :: x8 :: x9 :: x10 :: x11 :: x12 :: x13 :: x14 :: x15 :: x16 :: x17 :: x18 :: x19 :: x20 :: x21 :: x22 :: x23 :: x24 :: x25 :: x26 :: x27 :: x28 :: x29 :: x30 :: x31 :: x32 :: x33 :: x34 :: x35 :: x36 :: x37 :: x38 :: x39 :: x40 :: x41 :: x42 :: x43 :: x44 :: x45 :: x46 :: x47 :: x48 :: x49 :: x50 :: x51 :: x52 :: x53 :: x54 :: x55 :: x56 :: x57 :: x58 :: x59 :: x60 :: x61 :: x62 :: x63 :: x64 :: x65 :: x66 :: x67 :: x68 :: x69 :: x70 :: x71 :: x72 :: x73 :: x74 :: x75 :: x76 :: x77 :: x78 :: x79 :: x80 :: x81 :: x82 :: x83 :: x84 :: x85 :: x86 :: x87 :: x88 :: x89 :: x90 :: x91 :: x92 :: x93 :: x94 :: x95 :: x96 :: x97 :: x98 :: x99 :: x100 :: x101 :: x102 :: x103 :: x104 :: x105 :: x106 :: x107 :: x108 :: x109 :: x110 :: x111 :: x112 :: x113 :: x114 :: x115 :: x116 :: x117 :: x118 :: x119 :: x120 :: x121 :: x122 :: x123 :: x124 :: x125 :: x126 :: x127 :: x128 :: x129 :: x130 :: x131 :: x132 :: x133 :: x134 :: x135 :: x136 :: x137 :: x138 :: x139 :: x140 :: x141 :: x142 :: x143 :: x144 :: x145 :: x146 :: x147 :: x148 :: x149 :: x150 :: x151 :: x152 :: x153 :: x154 :: x155 :: x156 :: x157 :: x158 :: x159 :: x160 :: x161 :: x162 :: x163 :: x164 :: x165 :: x166 :: x167 :: x168 :: x169 :: x170 :: x171 :: x172 :: x173 :: x174 :: x175 :: x176 :: x177 :: x178 :: x179 :: x180 :: x181 :: x182 :: x183 :: x184 :: x185 :: x186 :: x187 :: x188 :: []), []⟩ w := by
  have HK := Lib.hid hQ; have HKP := Lib.hid hQp
  clear hQ hQp
  conv => arg 2; whnf
  have hwf : (issT p).1.Wf := issT_wf p (OwnAt.nx HS.out.wd.hp)
  have hl : ((issT p).1.cells NILV NILV).length = 19 := Fr.len hwf
  have ho : ∀ v ∈ ((issT p).1.cells NILV NILV), v.oneCell' = true := Fr.one (w := w) ⟨hwf, (issT_nil w p).1, (issT_nil w p).2⟩
  obtain ⟨RC, hRC⟩ : ∃ R, ((issT p).1.cells NILV NILV) = R := ⟨_, rfl⟩
  have HRC := Lib.hid hRC
  rw [hRC] at hl ho
  have HLC := Lib.hid hl; have HOC := Lib.hid ho
  clear hl ho hRC
  have HROW := Lib.hid HS.out.wd.row
  have cg := cell_row HROW.out 2 _ rfl
  have hcl := Calls.mono (rissue_any w pp B3 p.L p.nx p.sd HS.out.wd.hp hnx) (fun e w' h => IssR.get (o := p) h)
  simp only [HRC.out] at hcl
  have HCL := Lib.hid hcl
  clear hcl
  go_wp2_with fail
  refine Calls.mono HCL.out ?_
  rintro e w1 ⟨C, hu, rfl, hown⟩
  replace HS := Lib.hid (HS.out.stepP hu (p' := (issT p).2.2) hown)
  clear hu hown HCL
  go_wp2_with (first | (refine wpList_store_row rfl 53 _ _ rfl w1.heap.size rfl RC [.int .i64 0, .int .u64 0, .int .u64 0, .slice none 0 0, .bool false, .int .u64 0, .int .u64 0, .int .u64 0, .int .u64 0, .int .u64 0, .slice none 0 0, .int .u8 0, .int .u8 0, .int .u8 0, .int .u8 0, .int .u8 0, .int .u8 0, .int .u8 0, .int .u8 0] rfl 53 (heap_alloc_new _ _) (by rw [HLC.out]; rfl) (by rw [HLC.out]; rfl) HOC.out ?_; intro w2 hr hg; have HN9 := Lib.hid HS.out.ne; replace HS := Lib.hid ((HS.out.boxed [.int .i64 0, .int .u64 0, .int .u64 0, .slice none 0 0, .bool false, .int .u64 0, .int .u64 0, .int .u64 0, .int .u64 0, .int .u64 0, .slice none 0 0, .int .u8 0, .int .u8 0, .int .u8 0, .int .u8 0, .int .u8 0, .int .u8 0, .int .u8 0, .int .u8 0] 53).stored HN9.out hg hr); clear hr hg) | fail)
  have hfin := HS.out
  have hrc := HRC.out
  rw [← hrc] at hfin
  exact HK.out _ _ _ _ _ _ _ _ _ C _ (Lib.hid hfin)
set_option maxRecDepth 100000 in
set_option maxHeartbeats 4000000 in
theorem do_nxt {x1 x2 x3 x4 x5 x6 x7 x8 x9 x10 x11 x12 x13 x14 x15 x16 x17 x18 x19 x20 x21 x22 x23 x24 x25 x26 x27 x28 x29 x30 x31 x32 x33 x34 x35 x36 x37 x38 x39 x40 x41 x42 x43 x44 x45 x46 x47 x48 x49 x50 x51 x52 x53 x54 x55 x56 x57 x58 x59 x60 x61 x62 x63 x64 x65 x66 x67 x68 x69 x70 x71 x72 x73 x74 x75 x76 x77 x78 x79 x80 x81 x82 x83 x84 x85 x86 x87 x88 x89 x90 x91 x92 x93 x94 x95 x96 x97 x98 x99 x100 x101 x102 x103 x104 x105 x106 x107 x108 x109 x110 x111 x112 x113 x114 x115 x116 x117 x118 x119 x120 x121 x122 x123 x124 x125 x126 x127 x128 x129 x130 x131 x132 x133 x134 x135 x136 x137 x138 x139 x140 x141 x142 x143 x144 x145 x146 x147 x148 x149 x150 x151 x152 x153 x154 x155 x156 x157 x158 x159 x160 x161 x162 x163 x164 x165 x166 x167 x168 x169 x170 x171 x172 x173 x174 x175 x176 x177 x178 x179 x180 x181 x182 x183 x184 x185 x186 x187 x188 : Value} {g gx po pt pp pq bse N : Nat} {B1 B2 B3 B4 : List Nat} {o p : Ow} {t q : Th} {R : List AuxR} {w0 : World} (w : World) {Q : Exit → Act → World → Prop}
    (HS : Hid (Sx bse w0 w g po pt pp pq B1 B2 B3 B4 N o t p q R)) (hNN : N ≤ 10000)
    (hQp : ∀ c a d v w, Q (.panic c) (a.put d v) w → Q (.panic c) a w)
    (hQ : ∀ (y129 y130 y131 y132 y133 y134 y135 y136 : Value) (gz : Nat) (C : List Nat) (w' : World), Hid (Sx bse w0 w' g po pt pp pq B1 C B3 B4 N o (nextS t) p q ((gz, ((nxtT t).1.cells NILV NILV), 53) :: R)) → Q .normal ⟨List.toArray (.pointer (some ⟨g, 0, none⟩) :: x1 :: x2 :: x3 :: x4 :: x5 :: x6 :: x7 :: x8 :: x9 :: .pointer (some ⟨gz, 0, none⟩) :: .bool (nxtT t).2 :: x12 :: x13 :: x14 :: x15 :: x16 :: x17 :: x18 :: x19 :: x20 :: x21 :: x22 :: x23 :: x24 :: x25 :: x26 :: x27 :: x28 :: x29 :: x30 :: x31 :: x32 :: x33 :: x34 :: x35 :: x36 :: x37 :: x38 :: x39 :: x40 :: x41 :: x42 :: x43 :: x44 :: x45 :: x46 :: x47 :: x48 :: x49 :: x50 :: x51 :: x52 :: x53 :: x54 :: x55 :: x56 :: x57 :: x58 :: x59 :: x60 :: x61 :: x62 :: x63 :: x64 :: x65 :: x66 :: x67 :: x68 :: x69 :: x70 :: x71 :: x72 :: x73 :: x74 :: x75 :: x76 :: x77 :: x78 :: x79 :: x80 :: x81 :: x82 :: x83 :: x84 :: x85 :: x86 :: x87 :: x88 :: x89 :: x90 :: x91 :: x92 :: x93 :: x94 :: x95 :: x96 :: x97 :: x98 :: x99 :: x100 :: x101 :: x102 :: x103 :: x104 :: x105 :: x106 :: x107 :: x108 :: x109 :: x110 :: x111 :: x112 :: x113 :: x114 :: x115 :: x116 :: x117 :: x118 :: x119 :: x120 :: x121 :: x122 :: x123 :: x124 :: x125 :: x126 :: x127 :: x128 :: y129 :: y130 :: y131 :: y132 :: y133 :: y134 :: y135 :: y136 :: x137 :: x138 :: x139 :: x140 :: x141 :: x142 :: x143 :: x144 :: x145 :: x146 :: x147 :: x148 :: x149 :: x150 :: x151 :: x152 :: x153 :: x154 :: x155 :: x156 :: x157 :: x158 :: x159 :: x160 :: x161 :: x162 :: x163 :: x164 :: x165 :: x166 :: x167 :: x168 :: x169 :: x170 :: x171 :: x172 :: x173 :: x174 :: x175 :: x176 :: x177 :: x178 :: x179 :: x180 :: x181 :: x182 :: x183 :: x184 :: x185 :: x186 :: x187 :: x188 :: []), []⟩ w') :
    Code.wp Try.prog (((Try.f6.body.bind (subRegion 23)).getD .skip)) Q ⟨List.toArray (.pointer (some ⟨g, 0, none⟩) :: x1 :: x2 :: x3 :: x4 :: x5 :: x6 :: x7 :: x8 :: x9 :: x10 :: x11 :: x12 :: x13 :: x14 :: x15 :: x16 :: x17 :: x18 :: x19 :: x20 :: x21 :: x22 :: x23 :: x24 :: x25 :: x26 :: x27 :: x28 :: x29 :: x30 :: x31 :: x32 :: x33 :: x34 :: x35 :: x36 :: x37 :: x38 :: x39 :: x40 :: x41 :: x42 :: x43 :: x44 :: x45 :: x46 :: x47 :: x48 :: x49 :: x50 :: x51 :: x52 :: x53 :: x54 :: x55 :: x56 :: x57 :: x58 :: x59 :: x60 :: x61 :: x62 :: x63 :: x64 :: x65 :: x66 :: x67 :: x68 :: x69 :: x70 :: x71 :: x72 :: x73 :: x74 :: x75 :: x76 :: x77 :: x78 :: x79 :: x80 :: x81 :: x82 :: x83 :: x84 :: x85 :: x86 :: x87 :: x88 :: x89 :: x90 :: x91 :: x92 :: x93 :: x94 :: x95 :: x96 :: x97 :: x98 :: x99 :: x100 :: x101 :: x102 :: x103 :: x104 :: x105 :: x106 :: x107 :: x108 :: x109 :: x110 :: x111 :: x112 :: x113 :: x114 :: x115 :: x116 :: x117 :: x118 :: x119 :: x120 :: x121 :: x122 :: x123 :: x124 :: x125 :: x126 :: x127 :: x128 :: x129 :: x130 :: x131 :: x132 :: x133 :: x134 :: x135 :: x136 :: x137 :: x138 :: x139 :: x140 :: x141 :: x142 :: x143 :: x144 :: x145 :: x146 :: x147 :: x148 :: x149 :: x150 :: x151 :: x152 :: x153 :: x154 :: x155 :: x156 :: x157 :: x158 :: x159 :: x160 :: x161 :: x162 :: x163 :: x164 :: x165 :: x166 :: x167 :: x168 :: x169 :: x170 :: x171 :: x172 :: x173 :: x174 :: x175 :: x176 :: x177 :: x178 :: x179 :: x180 :: x181 :: x182 :: x183 :: x184 :: x185 :: x186 :: x187 :: x188 :: []), []⟩ w := by
  have HK := Lib.hid hQ; have HKP := Lib.hid hQp
  clear hQ hQp
  conv => arg 2; whnf
  obtain ⟨la, ra, lc, rc, bn, bs, bg, hth⟩ := HS.out.wd.ht
  have hwf : (nxtT t).1.Wf := nxtT_wf t (fun d hd => (hth.r.2.1 d hd))
  clear hth
  have hl : ((nxtT t).1.cells NILV NILV).length = 19 := Fr.len hwf
  have ho : ∀ v ∈ ((nxtT t).1.cells NILV NILV), v.oneCell' = true := Fr.one (w := w) ⟨hwf, (nxtT_nil w t).1, (nxtT_nil w t).2⟩
  obtain ⟨RC, hRC⟩ : ∃ R, ((nxtT t).1.cells NILV NILV) = R := ⟨_, rfl⟩
  have HRC := Lib.hid hRC
  rw [hRC] at hl ho
  have HLC := Lib.hid hl; have HOC := Lib.hid ho
  clear hl ho hRC
  have HROW := Lib.hid HS.out.wd.row
  have cg := cell_row HROW.out 1 _ rfl
  obtain ⟨la, ra, lc, rc, bn, bs, bg, hth⟩ := HS.out.wd.ht
  have hcl := next20_any w pt B2 N t la ra lc rc bn bs bg hth
  rw [nextV_eq] at hcl
  clear hth
  simp only [HRC.out] at hcl
  have HCL := Lib.hid hcl
  clear hcl
  go_wp2_with fail
  refine Calls.mono HCL.out ?_
  rintro e w1 ⟨rfl, C, la2, ra2, lc2, rc2, hu, hth⟩
  replace HS := Lib.hid (HS.out.stepT hu (t' := (nextS t)) ⟨_, _, _, _, _, _, _, hth⟩ (Nat.le_refl _))
  clear hu hth HCL
  go_wp2_with (first | (refine wpList_store_row rfl 53 _ _ rfl w1.heap.size rfl RC [.int .i64 0, .int .u64 0, .int .u64 0, .slice none 0 0, .bool false, .int .u64 0, .int .u64 0, .int .u64 0, .int .u64 0, .int .u64 0, .slice none 0 0, .int .u8 0, .int .u8 0, .int .u8 0, .int .u8 0, .int .u8 0, .int .u8 0, .int .u8 0, .int .u8 0] rfl 53 (heap_alloc_new _ _) (by rw [HLC.out]; rfl) (by rw [HLC.out]; rfl) HOC.out ?_; intro w2 hr hg; have HN9 := Lib.hid HS.out.ne; replace HS := Lib.hid ((HS.out.boxed [.int .i64 0, .int .u64 0, .int .u64 0, .slice none 0 0, .bool false, .int .u64 0, .int .u64 0, .int .u64 0, .int .u64 0, .int .u64 0, .slice none 0 0, .int .u8 0, .int .u8 0, .int .u8 0, .int .u8 0, .int .u8 0, .int .u8 0, .int .u8 0, .int .u8 0] 53).stored HN9.out hg hr); clear hr hg) | fail)
  have hfin := HS.out
  have hrc := HRC.out
  rw [← hrc] at hfin
  exact HK.out _ _ _ _ _ _ _ _ _ C _ (Lib.hid hfin)
set_option maxRecDepth 100000 in
set_option maxHeartbeats 4000000 in
theorem do_rnxt {x1 x2 x3 x4 x5 x6 x7 x8 x9 x10 x11 x12 x13 x14 x15 x16 x17 x18 x19 x20 x21 x22 x23 x24 x25 x26 x27 x28 x29 x30 x31 x32 x33 x34 x35 x36 x37 x38 x39 x40 x41 x42 x43 x44 x45 x46 x47 x48 x49 x50 x51 x52 x53 x54 x55 x56 x57 x58 x59 x60 x61 x62 x63 x64 x65 x66 x67 x68 x69 x70 x71 x72 x73 x74 x75 x76 x77 x78 x79 x80 x81 x82 x83 x84 x85 x86 x87 x88 x89 x90 x91 x92 x93 x94 x95 x96 x97 x98 x99 x100 x101 x102 x103 x104 x105 x106 x107 x108 x109 x110 x111 x112 x113 x114 x115 x116 x117 x118 x119 x120 x121 x122 x123 x124 x125 x126 x127 x128 x129 x130 x131 x132 x133 x134 x135 x136 x137 x138 x139 x140 x141 x142 x143 x144 x145 x146 x147 x148 x149 x150 x151 x152 x153 x154 x155 x156 x157 x158 x159 x160 x161 x162 x163 x164 x165 x166 x167 x168 x169 x170 x171 x172 x173 x174 x175 x176 x177 x178 x179 x180 x181 x182 x183 x184 x185 x186 x187 x188 : Value} {g gx po pt pp pq bse N : Nat} {B1 B2 B3 B4 : List Nat} {o p : Ow} {t q : Th} {R : List AuxR} {w0 : World} (w : World) {Q : Exit → Act → World → Prop}
    (HS : Hid (Sx bse w0 w g po pt pp pq B1 B2 B3 B4 N o t p q R)) (hNN : N ≤ 10000)
    (hQp : ∀ c a d v w, Q (.panic c) (a.put d v) w → Q (.panic c) a w)
    (hQ : ∀ (y137 y138 y139 y140 y141 y142 y143 y144 : Value) (gz : Nat) (C : List Nat) (w' : World), Hid (Sx bse w0 w' g po pt pp pq B1 B2 B3 C N o t p (nextS q) ((gz, ((nxtT q).1.cells NILV NILV), 53) :: R)) → Q .normal ⟨List.toArray (.pointer (some ⟨g, 0, none⟩) :: x1 :: x2 :: x3 :: x4 :: x5 :: x6 :: x7 :: x8 :: x9 :: x10 :: x11 :: .pointer (some ⟨gz, 0, none⟩) :: .bool (nxtT q).2 :: x14 :: x15 :: x16 :: x17 :: x18 :: x19 :: x20 :: x21 :: x22 :: x23 :: x24 :: x25 :: x26 :: x27 :: x28 :: x29 :: x30 :: x31 :: x32 :: x33 :: x34 :: x35 :: x36 :: x37 :: x38 :: x39 :: x40 :: x41 :: x42 :: x43 :: x44 :: x45 :: x46 :: x47 :: x48 :: x49 :: x50 :: x51 :: x52 :: x53 :: x54 :: x55 :: x56 :: x57 :: x58 :: x59 :: x60 :: x61 :: x62 :: x63 :: x64 :: x65 :: x66 :: x67 :: x68 :: x69 :: x70 :: x71 :: x72 :: x73 :: x74 :: x75 :: x76 :: x77 :: x78 :: x79 :: x80 :: x81 :: x82 :: x83 :: x84 :: x85 :: x86 :: x87 :: x88 :: x89 :: x90 :: x91 :: x92 :: x93 :: x94 :: x95 :: x96 :: x97 :: x98 :: x99 :: x100 :: x101 :: x102 :: x103 :: x104 :: x105 :: x106 :: x107 :: x108 :: x109 :: x110 :: x111 :: x112 :: x113 :: x114 :: x115 :: x116 :: x117 :: x118 :: x119 :: x120 :: x121 :: x122 :: x123 :: x124 :: x125 :: x126 :: x127 :: x128 :: x129 :: x130 :: x131 :: x132 :: x133 :: x134 :: x135 :: x136 :: y137 :: y138 :: y139 :: y140 :: y141 :: y142 :: y143 :: y144 :: x145 :: x146 :: x147 :: x148 :: x149 :: x150 :: x151 :: x152 :: x153 :: x154 :: x155 :: x156 :: x157 :: x158 :: x159 :: x160 :: x161 :: x162 :: x163 :: x164 :: x165 :: x166 :: x167 :: x168 :: x169 :: x170 :: x171 :: x172 :: x173 :: x174 :: x175 :: x176 :: x177 :: x178 :: x179 :: x180 :: x181 :: x182 :: x183 :: x184 :: x185 :: x186 :: x187 :: x188 :: []), []⟩ w') :
    Code.wp Try.prog (((Try.f6.body.bind (subRegion 24)).getD .skip)) Q ⟨List.toArray (.pointer (some ⟨g, 0, none⟩) :: x1 :: x2 :: x3 :: x4 :: x5 :: x6 :: x7 :: x8 :: x9 :: x10 :: x11 :: x12 :: x13 :: x14 :: x15 :: x16 :: x17 :: x18 :: x19 :: x20 :: x21 :: x22 :: x23 :: x24 :: x25 :: x26 :: x27 :: x28 :: x29 :: x30 :: x31 :: x32 :: x33 :: x34 :: x35 :: x36 :: x37 :: x38 :: x39 :: x40 :: x41 :: x42 :: x43 :: x44 :: x45 :: x46 :: x47 :: x48 :: x49 :: x50 :: x51 :: x52 :: x53 :: x54 :: x55 :: x56 :: x57 :: x58 :: x59 :: x60 :: x61 :: x62 :: x63 :: x64 :: x65 :: x66 :: x67 :: x68 :: x69 :: x70 :: x71 :: x72 :: x73 :: x74 :: x75 :: x76 :: x77 :: x78 :: x79 :: x80 :: x81 :: x82 :: x83 :: x84 :: x85 :: x86 :: x87 :: x88 :: x89 :: x90 :: x91 :: x92 :: x93 :: x94 :: x95 :: x96 :: x97 :: x98 :: x99 :: x100 :: x101 :: x102 :: x103 :: x104 :: x105 :: x106 :: x107 :: x108 :: x109 :: x110 :: x111 :: x112 :: x113 :: x114 :: x115 :: x116 :: x117 :: x118 :: x119 :: x120 :: x121 :: x122 :: x123 :: x124 :: x125 :: x126 :: x127 :: x128 :: x129 :: x130 :: x131 :: x132 :: x133 :: x134 :: x135 :: x136 :: x137 :: x138 :: x139 :: x140 :: x141 :: x142 :: x143 :: x144 :: x145 :: x146 :: x147 :: x148 :: x149 :: x150 :: x151 :: x152 :: x153 :: x154 :: x155 :: x156 :: x157 :: x158 :: x159 :: x160 :: x161 :: x162 :: x163 :: x164 :: x165 :: x166 :: x167 :: x168 :: x169 :: x170 :: x171 :: x172 :: x173 :: x174 :: x175 :: x176 :: x177 :: x178 :: x179 :: x180 :: x181 :: x182 :: x183 :: x184 :: x185 :: x186 :: x187 :: x188 :: []), []⟩ w := by
  have HK := Lib.hid hQ; have HKP := Lib.hid hQp
  clear hQ hQp
  conv => arg 2; whnf
  obtain ⟨hh, hth⟩ := HS.out.wd.hq
  have hwf : (nxtT q).1.Wf := nxtT_wf q (fun d hd => (hth.r.2.1 d hd))
  clear hth
  have hl : ((nxtT q).1.cells NILV NILV).length = 19 := Fr.len hwf
  have ho : ∀ v ∈ ((nxtT q).1.cells NILV NILV), v.oneCell' = true := Fr.one (w := w) ⟨hwf, (nxtT_nil w q).1, (nxtT_nil w q).2⟩
  obtain ⟨RC, hRC⟩ : ∃ R, ((nxtT q).1.cells NILV NILV) = R := ⟨_, rfl⟩
  have HRC := Lib.hid hRC
  rw [hRC] at hl ho
  have HLC := Lib.hid hl; have HOC := Lib.hid ho
  clear hl ho hRC
  have HROW := Lib.hid HS.out.wd.row
  have cg := cell_row HROW.out 3 _ rfl
  obtain ⟨hh, hth⟩ := HS.out.wd.hq
  have hcl := rnext20_any w pq B4 N q hh hth (by omega)
  rw [nextV_eq] at hcl
  clear hth
  simp only [HRC.out] at hcl
  have HCL := Lib.hid hcl
  clear hcl
  go_wp2_with fail
  refine Calls.mono HCL.out ?_
  rintro e w1 ⟨rfl, C, h2, hu, hth⟩
  replace HS := Lib.hid (HS.out.stepQ hu (q' := (nextS q)) ⟨_, hth⟩ (Nat.le_refl _))
  clear hu hth HCL
  go_wp2_with (first | (refine wpList_store_row rfl 53 _ _ rfl w1.heap.size rfl RC [.int .i64 0, .int .u64 0, .int .u64 0, .slice none 0 0, .bool false, .int .u64 0, .int .u64 0, .int .u64 0, .int .u64 0, .int .u64 0, .slice none 0 0, .int .u8 0, .int .u8 0, .int .u8 0, .int .u8 0, .int .u8 0, .int .u8 0, .int .u8 0, .int .u8 0] rfl 53 (heap_alloc_new _ _) (by rw [HLC.out]; rfl) (by rw [HLC.out]; rfl) HOC.out ?_; intro w2 hr hg; have HN9 := Lib.hid HS.out.ne; replace HS := Lib.hid ((HS.out.boxed [.int .i64 0, .int .u64 0, .int .u64 0, .slice none 0 0, .bool false, .int .u64 0, .int .u64 0, .int .u64 0, .int .u64 0, .int .u64 0, .slice none 0 0, .int .u8 0, .int .u8 0, .int .u8 0, .int .u8 0, .int .u8 0, .int .u8 0, .int .u8 0, .int .u8 0] 53).stored HN9.out hg hr); clear hr hg) | fail)
  have hfin := HS.out
  have hrc := HRC.out
  rw [← hrc] at hfin
  exact HK.out _ _ _ _ _ _ _ _ _ C _ (Lib.hid hfin)
end Go.Proofs.Ytjdcmhclamjcjaa
namespace Go.Proofs.Ytjdcmhclamjcjaa
open Go.RowKit
set_option linter.unusedVariables false
set_option linter.unusedSimpArgs false

structure AskV where
  k : Int
  n : Int
  se : Int
  li : Int
  xk : Int
  xa : Int
  xb : Int
  xc : Int
  xn : Int
  xf : Bool
  da : Option Addr
  dn : Nat
  dc : Nat
  ra : Option Addr
  rn : Nat
  rc : Nat
  data : List Int
  rows : List Int
def AskV.cells (x : AskV) : List Value := [.int .i64 x.k, .int .i64 x.n, .int .u64 x.se, .int .u64 x.li, .int .i64 x.xk, .int .u64 x.xa, .int .u64 x.xb, .int .u64 x.xc, .slice x.da x.dn x.dc, .bool x.xf, .slice x.ra x.rn x.rc, .int .i64 x.xn]
def I64 (n : Int) : Prop := -9223372036854775808 ≤ n ∧ n ≤ 9223372036854775807
structure AskV.At (w : World) (x : AskV) : Prop where
  k : I64 x.k
  n : I64 x.n
  se : U64 x.se
  li : U64 x.li
  xk : I64 x.xk
  xa : U64 x.xa
  xb : U64 x.xb
  xc : U64 x.xc
  xn : I64 x.xn
  d : IntsK .u8 w x.da x.dn x.data
  dc : x.dn ≤ x.dc ∧ x.dc ≤ 9223372036854775807
  r : IntsK .u64 w x.ra x.rn x.rows
  rc : x.rn ≤ 9223372036854775807
theorem newF_wf {se li m : Int} (hs : U64 se) (hl : U64 li) (hm : 0 ≤ m) : Fr.Wf (⟨24, 0, 0, [], false, li, 0, 0, se, 0, [], [se % 256, m % 5 / 4, 0, 0, 0, 0, 0, 0]⟩ : Fr) := by
  refine ⟨by simp, by simp [U64], by simp [U64], hl, by simp [U64], by simp [U64], hs, by simp [U64], rfl, ?_⟩
  intro x hx
  simp only [List.mem_cons, List.not_mem_nil, or_false] at hx
  rcases hx with rfl | rfl | rfl | rfl | rfl | rfl | rfl | rfl
  case inl => exact wf_u8_of (by omega) (by omega)
  case inr.inl => exact wf_u8_of (by omega) (by omega)
  all_goals decide
theorem retF_wf {d : Int} (h : U64 d) : (retF d).Wf := ⟨by simp [retF], by simp [retF, U64], by simp [retF, U64], by simp [retF, U64], by simp [retF, U64], by simp [retF, U64], h, by simp [retF, U64], rfl, z8_ok.2⟩
theorem askF {x : AskV} (j : Nat) (v : Value) (h : ([.int .i64 x.xk, .int .u64 x.xa, .int .u64 x.xb, .int .u64 x.xc, .slice x.da x.dn x.dc, .bool x.xf, .slice x.ra x.rn x.rc, .int .i64 x.xn] : List Value)[j]? = some v) : x.cells[4 + j]? = some v := by
  unfold AskV.cells
  rw [Nat.add_comm]; exact h
theorem AskV.At.below {w y : World} {x : AskV} (h : x.At w) (hb : Below w.heap.size w y) : x.At y := { h with d := h.d.below hb, r := h.r.below hb }
set_option maxRecDepth 100000 in
set_option maxHeartbeats 4000000 in
theorem do_new {x0 x1 x2 x4 x5 x6 x7 x8 x9 x10 x11 x12 x13 x14 x15 x16 x17 x18 x19 x20 x21 x22 x23 x24 x25 x26 x27 x28 x29 x30 x31 x32 x33 x34 x35 x36 x37 x38 x39 x40 x41 x42 x43 x44 x45 x46 x47 x48 x49 x50 x51 x52 x53 x54 x55 x56 x57 x58 x59 x60 x61 x62 x63 x64 x65 x66 x67 x68 x69 x70 x71 x72 x73 x74 x75 x76 x77 x78 x79 x80 x81 x82 x83 x84 x85 x86 x87 x88 x89 x90 x91 x92 x93 x94 x95 x96 x97 x98 x99 x100 x101 x102 x103 x104 x105 x106 x107 x108 x109 x110 x111 x112 x113 x114 x115 x116 x117 x118 x119 x120 x121 x122 x123 x124 x125 x126 x127 x128 x129 x130 x131 x132 x133 x134 x135 x136 x137 x138 x139 x140 x141 x142 x143 x144 x145 x146 x147 x148 x149 x150 x151 x152 x153 x154 x155 x156 x157 x158 x159 x160 x161 x162 x163 x164 x165 x166 x167 x168 x169 x170 x171 x172 x173 x174 x175 x176 x177 x178 x179 x180 x181 x182 x183 x184 x185 x186 x187 x188 : Value} {g gx po pt pp pq bse N : Nat} {B1 B2 B3 B4 : List Nat} {o p : Ow} {t q : Th} {R : List AuxR} {w0 : World} {x : AskV} (w : World) {Q : Exit → Act → World → Prop}
    (HS : Hid (Sx bse w0 w g po pt pp pq B1 B2 B3 B4 N o t p q R)) (HX : Hid ((gx, x.cells, AKT) ∈ R)) (HA : Hid (I64 x.n ∧ U64 x.se ∧ U64 x.li))
    (hQp : ∀ c a d v w, Q (.panic c) (a.put d v) w → Q (.panic c) a w)
    (hQ : ∀ (y80 y81 y82 y83 y84 y85 y86 y87 y88 y89 y90 y91 y92 y93 y94 : Value) (gz : Nat) (f : Fr) (w' : World), Hid (f.Wf) → Hid (∀ r ∈ R, r.1 ≠ gz) → Hid (Sx bse w0 w' g po pt pp pq B1 B2 B3 B4 N o t p q ((gz, f.cells NILV NILV, FRT) :: R)) → Q .normal ⟨List.toArray (x0 :: x1 :: x2 :: .pointer (some ⟨gx, 0, none⟩) :: x4 :: x5 :: x6 :: x7 :: x8 :: .pointer (some ⟨gz, 0, none⟩) :: x10 :: x11 :: x12 :: x13 :: x14 :: x15 :: x16 :: x17 :: x18 :: x19 :: x20 :: x21 :: x22 :: x23 :: x24 :: x25 :: x26 :: x27 :: x28 :: x29 :: x30 :: x31 :: x32 :: x33 :: x34 :: x35 :: x36 :: x37 :: x38 :: x39 :: x40 :: x41 :: x42 :: x43 :: x44 :: x45 :: x46 :: x47 :: x48 :: x49 :: x50 :: x51 :: x52 :: x53 :: x54 :: x55 :: x56 :: x57 :: x58 :: x59 :: x60 :: x61 :: x62 :: x63 :: x64 :: x65 :: x66 :: x67 :: x68 :: x69 :: x70 :: x71 :: x72 :: x73 :: x74 :: x75 :: x76 :: x77 :: x78 :: x79 :: y80 :: y81 :: y82 :: y83 :: y84 :: y85 :: y86 :: y87 :: y88 :: y89 :: y90 :: y91 :: y92 :: y93 :: y94 :: x95 :: x96 :: x97 :: x98 :: x99 :: x100 :: x101 :: x102 :: x103 :: x104 :: x105 :: x106 :: x107 :: x108 :: x109 :: x110 :: x111 :: x112 :: x113 :: x114 :: x115 :: x116 :: x117 :: x118 :: x119 :: x120 :: x121 :: x122 :: x123 :: x124 :: x125 :: x126 :: x127 :: x128 :: x129 :: x130 :: x131 :: x132 :: x133 :: x134 :: x135 :: x136 :: x137 :: x138 :: x139 :: x140 :: x141 :: x142 :: x143 :: x144 :: x145 :: x146 :: x147 :: x148 :: x149 :: x150 :: x151 :: x152 :: x153 :: x154 :: x155 :: x156 :: x157 :: x158 :: x159 :: x160 :: x161 :: x162 :: x163 :: x164 :: x165 :: x166 :: x167 :: x168 :: x169 :: x170 :: x171 :: x172 :: x173 :: x174 :: x175 :: x176 :: x177 :: x178 :: x179 :: x180 :: x181 :: x182 :: x183 :: x184 :: x185 :: x186 :: x187 :: x188 :: []), []⟩ w') :
    Code.wp Try.prog (((Try.f6.body.bind (subRegion 14)).getD .skip)) Q ⟨List.toArray (x0 :: x1 :: x2 :: .pointer (some ⟨gx, 0, none⟩) :: x4 :: x5 :: x6 :: x7 :: x8 :: x9 :: x10 :: x11 :: x12 :: x13 :: x14 :: x15 :: x16 :: x17 :: x18 :: x19 :: x20 :: x21 :: x22 :: x23 :: x24 :: x25 :: x26 :: x27 :: x28 :: x29 :: x30 :: x31 :: x32 :: x33 :: x34 :: x35 :: x36 :: x37 :: x38 :: x39 :: x40 :: x41 :: x42 :: x43 :: x44 :: x45 :: x46 :: x47 :: x48 :: x49 :: x50 :: x51 :: x52 :: x53 :: x54 :: x55 :: x56 :: x57 :: x58 :: x59 :: x60 :: x61 :: x62 :: x63 :: x64 :: x65 :: x66 :: x67 :: x68 :: x69 :: x70 :: x71 :: x72 :: x73 :: x74 :: x75 :: x76 :: x77 :: x78 :: x79 :: x80 :: x81 :: x82 :: x83 :: x84 :: x85 :: x86 :: x87 :: x88 :: x89 :: x90 :: x91 :: x92 :: x93 :: x94 :: x95 :: x96 :: x97 :: x98 :: x99 :: x100 :: x101 :: x102 :: x103 :: x104 :: x105 :: x106 :: x107 :: x108 :: x109 :: x110 :: x111 :: x112 :: x113 :: x114 :: x115 :: x116 :: x117 :: x118 :: x119 :: x120 :: x121 :: x122 :: x123 :: x124 :: x125 :: x126 :: x127 :: x128 :: x129 :: x130 :: x131 :: x132 :: x133 :: x134 :: x135 :: x136 :: x137 :: x138 :: x139 :: x140 :: x141 :: x142 :: x143 :: x144 :: x145 :: x146 :: x147 :: x148 :: x149 :: x150 :: x151 :: x152 :: x153 :: x154 :: x155 :: x156 :: x157 :: x158 :: x159 :: x160 :: x161 :: x162 :: x163 :: x164 :: x165 :: x166 :: x167 :: x168 :: x169 :: x170 :: x171 :: x172 :: x173 :: x174 :: x175 :: x176 :: x177 :: x178 :: x179 :: x180 :: x181 :: x182 :: x183 :: x184 :: x185 :: x186 :: x187 :: x188 :: []), []⟩ w := by
  have HK := Lib.hid hQ; have HKP := Lib.hid hQp
  clear hQ hQp
  conv => arg 2; whnf
  have HXR : Hid (w.heap[gx]? = some (.cells x.cells.toArray AKT (0, 0))) := Lib.hid (HS.out.row _ HX.out)
  obtain ⟨hn, hse, hto⟩ := HA.out
  obtain ⟨n, hnn⟩ : ∃ n, x.n = n := ⟨_, rfl⟩
  obtain ⟨se, hss⟩ : ∃ n, x.se = n := ⟨_, rfl⟩
  obtain ⟨li, hll⟩ : ∃ n, x.li = n := ⟨_, rfl⟩
  have g1 : ∀ z : In (fun y => y.heap[gx]? = some (.cells x.cells.toArray AKT (0, 0))), z.w.cell? ⟨gx, 1, none⟩ = some (.int .i64 n) := fun z => cell_row z.h 1 _ (by rw [← hnn]; rfl)
  have g2 : ∀ z : In (fun y => y.heap[gx]? = some (.cells x.cells.toArray AKT (0, 0))), z.w.cell? ⟨gx, 2, none⟩ = some (.int .u64 se) := fun z => cell_row z.h 2 _ (by rw [← hss]; rfl)
  have g3 : ∀ z : In (fun y => y.heap[gx]? = some (.cells x.cells.toArray AKT (0, 0))), z.w.cell? ⟨gx, 3, none⟩ = some (.int .u64 li) := fun z => cell_row z.h 3 _ (by rw [← hll]; rfl)
  rw [hnn] at hn; rw [hss] at hse; rw [hll] at hto
  clear hnn hss hll HA
  have hn1 := hn.1; have hn2 := hn.2; have hs1 := hse.1; have hs2 := hse.2; have hl1 := hto.1; have hl2 := hto.2
  have hwi := within_in n 0 1048576 (by omega)
  obtain ⟨m, hm⟩ : ∃ m, within n 0 1048576 = m := ⟨_, rfl⟩
  rw [hm] at hwi
  have HWI := Lib.hid (fun W => within_any W n 0 1048576 (by omega) (by omega) (by omega) hn)
  rw [hm] at HWI
  clear hm
  refine wp_plan (.t 0 (.t 1 (.t 2 (.t 3 (.t 4 (.t 5 (.t 6 (.t 7 (.t 8 (.b 9 (.t 10 (.t 11 (.t 12 (.t 13 (.t 14 (.u 15 (.u 16 .done))))))) 15 (.u 9 (.t 10 (.t 11 (.t 12 (.t 13 (.t 14 (.u 16 .done))))))))))))))))) (fun y => y.heap[gx]? = some (.cells x.cells.toArray AKT (0, 0))) (by kernel_rfl) (by kernel_rfl) (by kernel_rfl) (fun c a d v w h => by first | (cases d <;> exact h) | exact HKP.out c a d v w h) HXR.out ?_
  replace HS := Lib.hid HS.out.drew
  have hS : w.drew.heap[gx]? = _ := HXR.out
  generalize w.drew = wd at HS hS ⊢
  haveI hne : Nonempty (In (fun y => y.heap[gx]? = some (.cells x.cells.toArray AKT (0, 0)))) := ⟨⟨wd, hS⟩⟩
  repeat (first | (refine plan_t (by rfl) ?_; (first | go_big_quiet_skip | (go_big_quiet_want; go_big_quiet_op; go_big_quiet_on)); refine wpQuiet_nil ?_))
  clear hS g1 g2 g3
  refine plan_b ?_ ?_
  · refine plan_half (by rfl) (by kernel_rfl) ?_
    intro K hK
    go_wp2_with fail
    refine Calls.mono (HWI.out _) ?_
    rintro e wq ⟨rfl, rfl⟩
    go_wp2_with fail
    refine ⟨HS.out.row _ HX.out, ?_⟩
    repeat (first | (refine plan_t (by rfl) ?_; (first | go_big_quiet_skip | (go_big_quiet_want; go_big_quiet_op; go_big_quiet_on)); refine wpQuiet_nil ?_))
    refine plan_us (by rfl) (by kernel_rfl) ?_
    intro K hK
    have HN9 := Lib.hid HS.out.ne
    replace HS := Lib.hid (HS.out.boxed [.int .i64 0, .int .u64 0, .int .u64 0, .slice none 0 0, .bool false, .int .u64 0, .int .u64 0, .int .u64 0, .int .u64 0, .int .u64 0, .slice none 0 0, .int .u8 0, .int .u8 0, .int .u8 0, .int .u8 0, .int .u8 0, .int .u8 0, .int .u8 0, .int .u8 0] FRT)
    go_wp2_with fail
    (try change _ ∧ Plan.wp _ _ _ _ _ _ (wd.alloc (.cells ([.int .i64 0, .int .u64 0, .int .u64 0, .slice none 0 0, .bool false, .int .u64 0, .int .u64 0, .int .u64 0, .int .u64 0, .int .u64 0, .slice none 0 0, .int .u8 0, .int .u8 0, .int .u8 0, .int .u8 0, .int .u8 0, .int .u8 0, .int .u8 0, .int .u8 0] : List Value).toArray FRT)))
    refine ⟨HS.out.row _ (List.mem_cons_of_mem _ HX.out), ?_⟩
    (try change Plan.wp _ _ _ _ _ _ (wd.alloc (.cells ([.int .i64 0, .int .u64 0, .int .u64 0, .slice none 0 0, .bool false, .int .u64 0, .int .u64 0, .int .u64 0, .int .u64 0, .int .u64 0, .slice none 0 0, .int .u8 0, .int .u8 0, .int .u8 0, .int .u8 0, .int .u8 0, .int .u8 0, .int .u8 0, .int .u8 0] : List Value).toArray FRT)))
    generalize wd.alloc (.cells ([.int .i64 0, .int .u64 0, .int .u64 0, .slice none 0 0, .bool false, .int .u64 0, .int .u64 0, .int .u64 0, .int .u64 0, .int .u64 0, .slice none 0 0, .int .u8 0, .int .u8 0, .int .u8 0, .int .u8 0, .int .u8 0, .int .u8 0, .int .u8 0, .int .u8 0] : List Value).toArray FRT) = w2 at HS ⊢
    obtain ⟨gz, hgz⟩ : ∃ g, wd.heap.size = g := ⟨_, rfl⟩
    rw [hgz] at HS HN9 ⊢
    clear hgz
    refine plan_us (by rfl) (by kernel_rfl) ?_
    intro K hK
    have hwf : Fr.Wf (⟨24, 0, 0, [], false, li, 0, 0, se, 0, [], [se % 256, m % 5 / 4, 0, 0, 0, 0, 0, 0]⟩ : Fr) := newF_wf hse hto (by omega)
    have ho : ∀ v ∈ (⟨24, 0, 0, [], false, li, 0, 0, se, 0, [], [se % 256, m % 5 / 4, 0, 0, 0, 0, 0, 0]⟩ : Fr).cells NILV NILV, v.oneCell' = true := Fr.one (w := w2) ⟨hwf, (nil_nil w2 (⟨24, 0, 0, [], false, li, 0, 0, se, 0, [], [se % 256, m % 5 / 4, 0, 0, 0, 0, 0, 0]⟩ : Fr) ⟨rfl, rfl⟩).1, (nil_nil w2 (⟨24, 0, 0, [], false, li, 0, 0, se, 0, [], [se % 256, m % 5 / 4, 0, 0, 0, 0, 0, 0]⟩ : Fr) ⟨rfl, rfl⟩).2⟩
    refine wp_store_row FRT _ _ rfl gz rfl ((⟨24, 0, 0, [], false, li, 0, 0, se, 0, [], [se % 256, m % 5 / 4, 0, 0, 0, 0, 0, 0]⟩ : Fr).cells NILV NILV) [.int .i64 0, .int .u64 0, .int .u64 0, .slice none 0 0, .bool false, .int .u64 0, .int .u64 0, .int .u64 0, .int .u64 0, .int .u64 0, .slice none 0 0, .int .u8 0, .int .u8 0, .int .u8 0, .int .u8 0, .int .u8 0, .int .u8 0, .int .u8 0, .int .u8 0] rfl FRT (HS.out.row _ (List.mem_cons_self ..)) rfl rfl ho ?_
    intro w3 hr hg
    replace HS := Lib.hid (HS.out.stored HN9.out hg hr)
    clear hr hg
    refine hK _ _ ⟨HS.out.row _ (List.mem_cons_of_mem _ HX.out), ?_⟩
    clear hK K
    simp only [Act.put, List.setIfInBounds_toArray, List.set_cons_succ, List.set_cons_zero]
    have HWF := Lib.hid hwf
    clear hne
    show Q _ _ _
    exact HK.out _ _ _ _ _ _ _ _ _ _ _ _ _ _ _ gz _ _ HWF HN9 HS
  · refine plan_half (by rfl) (by kernel_rfl) ?_
    intro K hK
    have HN9 := Lib.hid HS.out.ne
    replace HS := Lib.hid (HS.out.boxed [.int .i64 0, .int .u64 0, .int .u64 0, .slice none 0 0, .bool false, .int .u64 0, .int .u64 0, .int .u64 0, .int .u64 0, .int .u64 0, .slice none 0 0, .int .u8 0, .int .u8 0, .int .u8 0, .int .u8 0, .int .u8 0, .int .u8 0, .int .u8 0, .int .u8 0] FRT)
    go_wp2_with fail
    (try change _ ∧ Plan.wp _ _ _ _ _ _ (wd.alloc (.cells ([.int .i64 0, .int .u64 0, .int .u64 0, .slice none 0 0, .bool false, .int .u64 0, .int .u64 0, .int .u64 0, .int .u64 0, .int .u64 0, .slice none 0 0, .int .u8 0, .int .u8 0, .int .u8 0, .int .u8 0, .int .u8 0, .int .u8 0, .int .u8 0, .int .u8 0] : List Value).toArray FRT)))
    refine ⟨HS.out.row _ (List.mem_cons_of_mem _ HX.out), ?_⟩
    (try change Plan.wp _ _ _ _ _ _ (wd.alloc (.cells ([.int .i64 0, .int .u64 0, .int .u64 0, .slice none 0 0, .bool false, .int .u64 0, .int .u64 0, .int .u64 0, .int .u64 0, .int .u64 0, .slice none 0 0, .int .u8 0, .int .u8 0, .int .u8 0, .int .u8 0, .int .u8 0, .int .u8 0, .int .u8 0, .int .u8 0] : List Value).toArray FRT)))
    generalize wd.alloc (.cells ([.int .i64 0, .int .u64 0, .int .u64 0, .slice none 0 0, .bool false, .int .u64 0, .int .u64 0, .int .u64 0, .int .u64 0, .int .u64 0, .slice none 0 0, .int .u8 0, .int .u8 0, .int .u8 0, .int .u8 0, .int .u8 0, .int .u8 0, .int .u8 0, .int .u8 0] : List Value).toArray FRT) = w4 at HS ⊢
    obtain ⟨gz, hgz⟩ : ∃ g, wd.heap.size = g := ⟨_, rfl⟩
    rw [hgz] at HS HN9 ⊢
    clear hgz
    refine plan_us (by rfl) (by kernel_rfl) ?_
    intro K hK
    go_wp2_with fail
    refine Calls.mono (HWI.out _) ?_
    rintro e wq ⟨rfl, rfl⟩
    go_wp2_with fail
    refine ⟨HS.out.row _ (List.mem_cons_of_mem _ HX.out), ?_⟩
    repeat (first | (refine plan_t (by rfl) ?_; (first | go_big_quiet_skip | (go_big_quiet_want; go_big_quiet_op; go_big_quiet_on)); refine wpQuiet_nil ?_))
    refine plan_us (by rfl) (by kernel_rfl) ?_
    intro K hK
    have hwf : Fr.Wf (⟨24, 0, 0, [], false, li, 0, 0, se, 0, [], [se % 256, m % 5 / 4, 0, 0, 0, 0, 0, 0]⟩ : Fr) := newF_wf hse hto (by omega)
    have ho : ∀ v ∈ (⟨24, 0, 0, [], false, li, 0, 0, se, 0, [], [se % 256, m % 5 / 4, 0, 0, 0, 0, 0, 0]⟩ : Fr).cells NILV NILV, v.oneCell' = true := Fr.one (w := w4) ⟨hwf, (nil_nil w4 (⟨24, 0, 0, [], false, li, 0, 0, se, 0, [], [se % 256, m % 5 / 4, 0, 0, 0, 0, 0, 0]⟩ : Fr) ⟨rfl, rfl⟩).1, (nil_nil w4 (⟨24, 0, 0, [], false, li, 0, 0, se, 0, [], [se % 256, m % 5 / 4, 0, 0, 0, 0, 0, 0]⟩ : Fr) ⟨rfl, rfl⟩).2⟩
    refine wp_store_row FRT _ _ rfl gz rfl ((⟨24, 0, 0, [], false, li, 0, 0, se, 0, [], [se % 256, m % 5 / 4, 0, 0, 0, 0, 0, 0]⟩ : Fr).cells NILV NILV) [.int .i64 0, .int .u64 0, .int .u64 0, .slice none 0 0, .bool false, .int .u64 0, .int .u64 0, .int .u64 0, .int .u64 0, .int .u64 0, .slice none 0 0, .int .u8 0, .int .u8 0, .int .u8 0, .int .u8 0, .int .u8 0, .int .u8 0, .int .u8 0, .int .u8 0] rfl FRT (HS.out.row _ (List.mem_cons_self ..)) rfl rfl ho ?_
    intro w6 hr hg
    replace HS := Lib.hid (HS.out.stored HN9.out hg hr)
    clear hr hg
    refine hK _ _ ⟨HS.out.row _ (List.mem_cons_of_mem _ HX.out), ?_⟩
    clear hK K
    simp only [Act.put, List.setIfInBounds_toArray, List.set_cons_succ, List.set_cons_zero]
    have HWF := Lib.hid hwf
    clear hne
    show Q _ _ _
    exact HK.out _ _ _ _ _ _ _ _ _ _ _ _ _ _ _ gz _ _ HWF HN9 HS
set_option maxRecDepth 100000 in
set_option maxHeartbeats 4000000 in
theorem do_retf {x0 x1 x2 x4 x5 x6 x7 x8 x9 x10 x11 x12 x13 x14 x15 x16 x17 x18 x19 x20 x21 x22 x23 x24 x25 x26 x27 x28 x29 x30 x31 x32 x33 x34 x35 x36 x37 x38 x39 x40 x41 x42 x43 x44 x45 x46 x47 x48 x49 x50 x51 x52 x53 x54 x55 x56 x57 x58 x59 x60 x61 x62 x63 x64 x65 x66 x67 x68 x69 x70 x71 x72 x73 x74 x75 x76 x77 x78 x79 x80 x81 x82 x83 x84 x85 x86 x87 x88 x89 x90 x91 x92 x93 x94 x95 x96 x97 x98 x99 x100 x101 x102 x103 x104 x105 x106 x107 x108 x109 x110 x111 x112 x113 x114 x115 x116 x117 x118 x119 x120 x121 x122 x123 x124 x125 x126 x127 x128 x129 x130 x131 x132 x133 x134 x135 x136 x137 x138 x139 x140 x141 x142 x143 x144 x145 x146 x147 x148 x149 x150 x151 x152 x153 x154 x155 x156 x157 x158 x159 x160 x161 x162 x163 x164 x165 x166 x167 x168 x169 x170 x171 x172 x173 x174 x175 x176 x177 x178 x179 x180 x181 x182 x183 x184 x185 x186 x187 x188 : Value} {g gx po pt pp pq bse N : Nat} {B1 B2 B3 B4 : List Nat} {o p : Ow} {t q : Th} {R : List AuxR} {w0 : World} {x : AskV} (w : World) {Q : Exit → Act → World → Prop}
    (HS : Hid (Sx bse w0 w g po pt pp pq B1 B2 B3 B4 N o t p q R)) (HX : Hid ((gx, x.cells, AKT) ∈ R)) (HA : Hid (U64 x.se))
    (hQp : ∀ c a d v w, Q (.panic c) (a.put d v) w → Q (.panic c) a w)
    (hQ : ∀ (y156 y157 y158 : Value) (gz : Nat) (w' : World), Hid (∀ r ∈ R, r.1 ≠ gz) → Hid (Sx bse w0 w' g po pt pp pq B1 B2 B3 B4 N o t p q ((gz, (retF x.se).cells NILV NILV, FRT) :: R)) → Q .normal ⟨List.toArray (x0 :: x1 :: x2 :: .pointer (some ⟨gx, 0, none⟩) :: x4 :: x5 :: x6 :: x7 :: x8 :: x9 :: x10 :: x11 :: x12 :: x13 :: .pointer (some ⟨gz, 0, none⟩) :: x15 :: x16 :: x17 :: x18 :: x19 :: x20 :: x21 :: x22 :: x23 :: x24 :: x25 :: x26 :: x27 :: x28 :: x29 :: x30 :: x31 :: x32 :: x33 :: x34 :: x35 :: x36 :: x37 :: x38 :: x39 :: x40 :: x41 :: x42 :: x43 :: x44 :: x45 :: x46 :: x47 :: x48 :: x49 :: x50 :: x51 :: x52 :: x53 :: x54 :: x55 :: x56 :: x57 :: x58 :: x59 :: x60 :: x61 :: x62 :: x63 :: x64 :: x65 :: x66 :: x67 :: x68 :: x69 :: x70 :: x71 :: x72 :: x73 :: x74 :: x75 :: x76 :: x77 :: x78 :: x79 :: x80 :: x81 :: x82 :: x83 :: x84 :: x85 :: x86 :: x87 :: x88 :: x89 :: x90 :: x91 :: x92 :: x93 :: x94 :: x95 :: x96 :: x97 :: x98 :: x99 :: x100 :: x101 :: x102 :: x103 :: x104 :: x105 :: x106 :: x107 :: x108 :: x109 :: x110 :: x111 :: x112 :: x113 :: x114 :: x115 :: x116 :: x117 :: x118 :: x119 :: x120 :: x121 :: x122 :: x123 :: x124 :: x125 :: x126 :: x127 :: x128 :: x129 :: x130 :: x131 :: x132 :: x133 :: x134 :: x135 :: x136 :: x137 :: x138 :: x139 :: x140 :: x141 :: x142 :: x143 :: x144 :: x145 :: x146 :: x147 :: x148 :: x149 :: x150 :: x151 :: x152 :: x153 :: x154 :: x155 :: y156 :: y157 :: y158 :: x159 :: x160 :: x161 :: x162 :: x163 :: x164 :: x165 :: x166 :: x167 :: x168 :: x169 :: x170 :: x171 :: x172 :: x173 :: x174 :: x175 :: x176 :: x177 :: x178 :: x179 :: x180 :: x181 :: x182 :: x183 :: x184 :: x185 :: x186 :: x187 :: x188 :: []), []⟩ w') :
    Code.wp Try.prog (((Try.f6.body.bind (subRegion 28)).getD .skip)) Q ⟨List.toArray (x0 :: x1 :: x2 :: .pointer (some ⟨gx, 0, none⟩) :: x4 :: x5 :: x6 :: x7 :: x8 :: x9 :: x10 :: x11 :: x12 :: x13 :: x14 :: x15 :: x16 :: x17 :: x18 :: x19 :: x20 :: x21 :: x22 :: x23 :: x24 :: x25 :: x26 :: x27 :: x28 :: x29 :: x30 :: x31 :: x32 :: x33 :: x34 :: x35 :: x36 :: x37 :: x38 :: x39 :: x40 :: x41 :: x42 :: x43 :: x44 :: x45 :: x46 :: x47 :: x48 :: x49 :: x50 :: x51 :: x52 :: x53 :: x54 :: x55 :: x56 :: x57 :: x58 :: x59 :: x60 :: x61 :: x62 :: x63 :: x64 :: x65 :: x66 :: x67 :: x68 :: x69 :: x70 :: x71 :: x72 :: x73 :: x74 :: x75 :: x76 :: x77 :: x78 :: x79 :: x80 :: x81 :: x82 :: x83 :: x84 :: x85 :: x86 :: x87 :: x88 :: x89 :: x90 :: x91 :: x92 :: x93 :: x94 :: x95 :: x96 :: x97 :: x98 :: x99 :: x100 :: x101 :: x102 :: x103 :: x104 :: x105 :: x106 :: x107 :: x108 :: x109 :: x110 :: x111 :: x112 :: x113 :: x114 :: x115 :: x116 :: x117 :: x118 :: x119 :: x120 :: x121 :: x122 :: x123 :: x124 :: x125 :: x126 :: x127 :: x128 :: x129 :: x130 :: x131 :: x132 :: x133 :: x134 :: x135 :: x136 :: x137 :: x138 :: x139 :: x140 :: x141 :: x142 :: x143 :: x144 :: x145 :: x146 :: x147 :: x148 :: x149 :: x150 :: x151 :: x152 :: x153 :: x154 :: x155 :: x156 :: x157 :: x158 :: x159 :: x160 :: x161 :: x162 :: x163 :: x164 :: x165 :: x166 :: x167 :: x168 :: x169 :: x170 :: x171 :: x172 :: x173 :: x174 :: x175 :: x176 :: x177 :: x178 :: x179 :: x180 :: x181 :: x182 :: x183 :: x184 :: x185 :: x186 :: x187 :: x188 :: []), []⟩ w := by
  have HK := Lib.hid hQ; have HKP := Lib.hid hQp
  clear hQ hQp
  conv => arg 2; whnf
  have hse := HA.out
  have c2 := cell_row (HS.out.row _ HX.out) 2 (.int .u64 x.se) rfl
  have HN9 := Lib.hid HS.out.ne
  have hwf : (retF x.se).Wf := retF_wf hse
  have ho : ∀ v ∈ (retF x.se).cells NILV NILV, v.oneCell' = true := Fr.one (w := w) ⟨hwf, (nil_nil w (retF x.se) ⟨rfl, rfl⟩).1, (nil_nil w (retF x.se) ⟨rfl, rfl⟩).2⟩
  have HO := Lib.hid ho
  clear ho hwf
  go_wp2_with (first | (refine wpList_store_row rfl FRT _ _ rfl w.heap.size rfl ((retF x.se).cells NILV NILV) [.int .i64 0, .int .u64 0, .int .u64 0, .slice none 0 0, .bool false, .int .u64 0, .int .u64 0, .int .u64 0, .int .u64 0, .int .u64 0, .slice none 0 0, .int .u8 0, .int .u8 0, .int .u8 0, .int .u8 0, .int .u8 0, .int .u8 0, .int .u8 0, .int .u8 0] rfl FRT (heap_alloc_new _ _) rfl rfl HO.out ?_; intro w2 hr hg; replace HS := Lib.hid ((HS.out.boxed [.int .i64 0, .int .u64 0, .int .u64 0, .slice none 0 0, .bool false, .int .u64 0, .int .u64 0, .int .u64 0, .int .u64 0, .int .u64 0, .slice none 0 0, .int .u8 0, .int .u8 0, .int .u8 0, .int .u8 0, .int .u8 0, .int .u8 0, .int .u8 0, .int .u8 0] FRT).stored HN9.out hg hr); clear hr hg) | fail)
  exact HK.out _ _ _ _ _ HN9 HS
set_option maxRecDepth 100000 in
set_option maxHeartbeats 4000000 in
theorem do_drawn {x0 x1 x2 x4 x5 x6 x7 x8 x10 x11 x12 x13 x14 x15 x16 x17 x18 x19 x20 x21 x22 x23 x24 x25 x26 x27 x28 x29 x30 x31 x32 x33 x34 x35 x36 x37 x38 x39 x40 x41 x42 x43 x44 x45 x46 x47 x48 x49 x50 x51 x52 x53 x54 x55 x56 x57 x58 x59 x60 x61 x62 x63 x64 x65 x66 x67 x68 x69 x70 x71 x72 x73 x74 x75 x76 x77 x78 x79 x80 x81 x82 x83 x84 x85 x86 x87 x88 x89 x90 x91 x92 x93 x94 x95 x96 x97 x98 x99 x100 x101 x102 x103 x104 x105 x106 x107 x108 x109 x110 x111 x112 x113 x114 x115 x116 x117 x118 x119 x120 x121 x122 x123 x124 x125 x126 x127 x128 x129 x130 x131 x132 x133 x134 x135 x136 x137 x138 x139 x140 x141 x142 x143 x144 x145 x146 x147 x148 x149 x150 x151 x152 x153 x154 x155 x156 x157 x158 x159 x160 x161 x162 x163 x164 x165 x166 x167 x168 x169 x170 x171 x172 x173 x174 x175 x176 x177 x178 x179 x180 x181 x182 x183 x184 x185 x186 x187 x188 : Value} {g gx gz po pt pp pq bse N : Nat} {B1 B2 B3 B4 : List Nat} {o p : Ow} {t q : Th} {R : List AuxR} {w0 : World} {x : AskV} {Z : List Value} (w : World) {Q : Exit → Act → World → Prop}
    (HS : Hid (Sx bse w0 w g po pt pp pq B1 B2 B3 B4 N o t p q ((gz, Z, FRT) :: R))) (HZL : Hid (Z.length = 19)) (HNE : Hid (∀ r ∈ R, r.1 ≠ gz)) (HX : Hid ((gx, x.cells, AKT) ∈ R)) (HA : Hid (x.At w))
    (hQp : ∀ c a d v w, Q (.panic c) (a.put d v) w → Q (.panic c) a w)
    (hQ : ∀ (y98 y99 y100 : Value) (f : Fr) (dv rv : Value) (w' : World), Hid (f.Wf) → Hid (dv.oneCell' = true ∧ rv.oneCell' = true) → Hid (Sx bse w0 w' g po pt pp pq B1 B2 B3 B4 N o t p q ((gz, f.cells dv rv, FRT) :: R)) → Q .normal ⟨List.toArray (x0 :: x1 :: x2 :: .pointer (some ⟨gx, 0, none⟩) :: x4 :: x5 :: x6 :: x7 :: x8 :: .pointer (some ⟨gz, 0, none⟩) :: x10 :: x11 :: x12 :: x13 :: x14 :: x15 :: x16 :: x17 :: x18 :: x19 :: x20 :: x21 :: x22 :: x23 :: x24 :: x25 :: x26 :: x27 :: x28 :: x29 :: x30 :: x31 :: x32 :: x33 :: x34 :: x35 :: x36 :: x37 :: x38 :: x39 :: x40 :: x41 :: x42 :: x43 :: x44 :: x45 :: x46 :: x47 :: x48 :: x49 :: x50 :: x51 :: x52 :: x53 :: x54 :: x55 :: x56 :: x57 :: x58 :: x59 :: x60 :: x61 :: x62 :: x63 :: x64 :: x65 :: x66 :: x67 :: x68 :: x69 :: x70 :: x71 :: x72 :: x73 :: x74 :: x75 :: x76 :: x77 :: x78 :: x79 :: x80 :: x81 :: x82 :: x83 :: x84 :: x85 :: x86 :: x87 :: x88 :: x89 :: x90 :: x91 :: x92 :: x93 :: x94 :: x95 :: x96 :: x97 :: y98 :: y99 :: y100 :: x101 :: x102 :: x103 :: x104 :: x105 :: x106 :: x107 :: x108 :: x109 :: x110 :: x111 :: x112 :: x113 :: x114 :: x115 :: x116 :: x117 :: x118 :: x119 :: x120 :: x121 :: x122 :: x123 :: x124 :: x125 :: x126 :: x127 :: x128 :: x129 :: x130 :: x131 :: x132 :: x133 :: x134 :: x135 :: x136 :: x137 :: x138 :: x139 :: x140 :: x141 :: x142 :: x143 :: x144 :: x145 :: x146 :: x147 :: x148 :: x149 :: x150 :: x151 :: x152 :: x153 :: x154 :: x155 :: x156 :: x157 :: x158 :: x159 :: x160 :: x161 :: x162 :: x163 :: x164 :: x165 :: x166 :: x167 :: x168 :: x169 :: x170 :: x171 :: x172 :: x173 :: x174 :: x175 :: x176 :: x177 :: x178 :: x179 :: x180 :: x181 :: x182 :: x183 :: x184 :: x185 :: x186 :: x187 :: x188 :: []), []⟩ w') :
    Code.wp Try.prog (((Try.f6.body.bind (subRegion 16)).getD .skip)) Q ⟨List.toArray (x0 :: x1 :: x2 :: .pointer (some ⟨gx, 0, none⟩) :: x4 :: x5 :: x6 :: x7 :: x8 :: .pointer (some ⟨gz, 0, none⟩) :: x10 :: x11 :: x12 :: x13 :: x14 :: x15 :: x16 :: x17 :: x18 :: x19 :: x20 :: x21 :: x22 :: x23 :: x24 :: x25 :: x26 :: x27 :: x28 :: x29 :: x30 :: x31 :: x32 :: x33 :: x34 :: x35 :: x36 :: x37 :: x38 :: x39 :: x40 :: x41 :: x42 :: x43 :: x44 :: x45 :: x46 :: x47 :: x48 :: x49 :: x50 :: x51 :: x52 :: x53 :: x54 :: x55 :: x56 :: x57 :: x58 :: x59 :: x60 :: x61 :: x62 :: x63 :: x64 :: x65 :: x66 :: x67 :: x68 :: x69 :: x70 :: x71 :: x72 :: x73 :: x74 :: x75 :: x76 :: x77 :: x78 :: x79 :: x80 :: x81 :: x82 :: x83 :: x84 :: x85 :: x86 :: x87 :: x88 :: x89 :: x90 :: x91 :: x92 :: x93 :: x94 :: x95 :: x96 :: x97 :: x98 :: x99 :: x100 :: x101 :: x102 :: x103 :: x104 :: x105 :: x106 :: x107 :: x108 :: x109 :: x110 :: x111 :: x112 :: x113 :: x114 :: x115 :: x116 :: x117 :: x118 :: x119 :: x120 :: x121 :: x122 :: x123 :: x124 :: x125 :: x126 :: x127 :: x128 :: x129 :: x130 :: x131 :: x132 :: x133 :: x134 :: x135 :: x136 :: x137 :: x138 :: x139 :: x140 :: x141 :: x142 :: x143 :: x144 :: x145 :: x146 :: x147 :: x148 :: x149 :: x150 :: x151 :: x152 :: x153 :: x154 :: x155 :: x156 :: x157 :: x158 :: x159 :: x160 :: x161 :: x162 :: x163 :: x164 :: x165 :: x166 :: x167 :: x168 :: x169 :: x170 :: x171 :: x172 :: x173 :: x174 :: x175 :: x176 :: x177 :: x178 :: x179 :: x180 :: x181 :: x182 :: x183 :: x184 :: x185 :: x186 :: x187 :: x188 :: []), []⟩ w := by
  have HK := Lib.hid hQ; have HKP := Lib.hid hQp
  clear hQ hQp
  conv => arg 2; whnf
  have HXR := Lib.hid (HS.out.row _ (List.mem_cons_of_mem _ HX.out))
  have hrg : w.rangeAt gx 4 ([.int .i64 x.xk, .int .u64 x.xa, .int .u64 x.xb, .int .u64 x.xc, .slice x.da x.dn x.dc, .bool x.xf, .slice x.ra x.rn x.rc, .int .i64 x.xn] : List Value) := rng_row HXR.out 4 _ (fun j v hv => askF j v hv)
  have HRG := Lib.hid hrg
  clear hrg
  have hcl := kframe_any w x.xk x.xa x.xb x.xc x.xn x.xf x.da x.ra x.dn x.dc x.rn x.rc x.data x.rows HA.out.d HA.out.dc.1 HA.out.dc.2 HA.out.r HA.out.rc HA.out.xk HA.out.xa HA.out.xb HA.out.xc HA.out.xn
  have HCL := Lib.hid hcl
  clear hcl
  go_wp2_with (first | (refine wpList_load_mid rfl 28 _ rfl gx 4 rfl [.int .i64 x.xk, .int .u64 x.xa, .int .u64 x.xb, .int .u64 x.xc, .slice x.da x.dn x.dc, .bool x.xf, .slice x.ra x.rn x.rc, .int .i64 x.xn] _ HRG.out Try.underlying28 rfl rfl ?_) | fail)
  refine Calls.mono HCL.out ?_
  rintro e w1 ⟨f, dv, rv, rfl, hfa, _, hb⟩
  replace HS := Lib.hid (HS.out.below hb)
  have hl := Fr.len (dv := dv) (rv := rv) hfa.wf; have ho := Fr.one hfa
  have HFW := Lib.hid hfa.wf
  have HDR : Hid (dv.oneCell' = true ∧ rv.oneCell' = true) := Lib.hid (by obtain ⟨_, _, _, e, _⟩ := hfa.d; obtain ⟨_, _, _, e2, _⟩ := hfa.r; rw [e, e2]; exact ⟨rfl, rfl⟩)
  obtain ⟨RF, hRF⟩ : ∃ R, f.cells dv rv = R := ⟨_, rfl⟩
  have HRF := Lib.hid hRF
  rw [hRF] at hl ho ⊢
  have HL := Lib.hid hl; have HO := Lib.hid ho
  clear hb hl ho hRF hfa
  go_wp2_with (first | (refine wpList_store_row rfl FRT _ _ rfl gz rfl RF Z rfl FRT (HS.out.row _ (List.mem_cons_self ..)) (by rw [HL.out, HZL.out]) (by rw [HL.out]; rfl) HO.out ?_; intro w2 hr hg; replace HS := Lib.hid (HS.out.stored HNE.out hg hr); clear hr hg) | fail)
  have hfin := HS.out
  have hrf := HRF.out
  rw [← hrf] at hfin
  exact HK.out _ _ _ f dv rv _ HFW HDR (Lib.hid hfin)
set_option maxRecDepth 100000 in
set_option maxHeartbeats 4000000 in
theorem do_drawn2 {x0 x1 x2 x4 x5 x6 x7 x8 x9 x10 x11 x12 x13 x15 x16 x17 x18 x19 x20 x21 x22 x23 x24 x25 x26 x27 x28 x29 x30 x31 x32 x33 x34 x35 x36 x37 x38 x39 x40 x41 x42 x43 x44 x45 x46 x47 x48 x49 x50 x51 x52 x53 x54 x55 x56 x57 x58 x59 x60 x61 x62 x63 x64 x65 x66 x67 x68 x69 x70 x71 x72 x73 x74 x75 x76 x77 x78 x79 x80 x81 x82 x83 x84 x85 x86 x87 x88 x89 x90 x91 x92 x93 x94 x95 x96 x97 x98 x99 x100 x101 x102 x103 x104 x105 x106 x107 x108 x109 x110 x111 x112 x113 x114 x115 x116 x117 x118 x119 x120 x121 x122 x123 x124 x125 x126 x127 x128 x129 x130 x131 x132 x133 x134 x135 x136 x137 x138 x139 x140 x141 x142 x143 x144 x145 x146 x147 x148 x149 x150 x151 x152 x153 x154 x155 x156 x157 x158 x159 x160 x161 x162 x163 x164 x165 x166 x167 x168 x169 x170 x171 x172 x173 x174 x175 x176 x177 x178 x179 x180 x181 x182 x183 x184 x185 x186 x187 x188 : Value} {g gx gz po pt pp pq bse N : Nat} {B1 B2 B3 B4 : List Nat} {o p : Ow} {t q : Th} {R : List AuxR} {w0 : World} {x : AskV} {Z : List Value} (w : World) {Q : Exit → Act → World → Prop}
    (HS : Hid (Sx bse w0 w g po pt pp pq B1 B2 B3 B4 N o t p q ((gz, Z, FRT) :: R))) (HZL : Hid (Z.length = 19)) (HNE : Hid (∀ r ∈ R, r.1 ≠ gz)) (HX : Hid ((gx, x.cells, AKT) ∈ R)) (HA : Hid (x.At w))
    (hQp : ∀ c a d v w, Q (.panic c) (a.put d v) w → Q (.panic c) a w)
    (hQ : ∀ (y163 y164 y165 : Value) (f : Fr) (dv rv : Value) (w' : World), Hid (f.Wf) → Hid (dv.oneCell' = true ∧ rv.oneCell' = true) → Hid (Sx bse w0 w' g po pt pp pq B1 B2 B3 B4 N o t p q ((gz, f.cells dv rv, FRT) :: R)) → Q .normal ⟨List.toArray (x0 :: x1 :: x2 :: .pointer (some ⟨gx, 0, none⟩) :: x4 :: x5 :: x6 :: x7 :: x8 :: x9 :: x10 :: x11 :: x12 :: x13 :: .pointer (some ⟨gz, 0, none⟩) :: x15 :: x16 :: x17 :: x18 :: x19 :: x20 :: x21 :: x22 :: x23 :: x24 :: x25 :: x26 :: x27 :: x28 :: x29 :: x30 :: x31 :: x32 :: x33 :: x34 :: x35 :: x36 :: x37 :: x38 :: x39 :: x40 :: x41 :: x42 :: x43 :: x44 :: x45 :: x46 :: x47 :: x48 :: x49 :: x50 :: x51 :: x52 :: x53 :: x54 :: x55 :: x56 :: x57 :: x58 :: x59 :: x60 :: x61 :: x62 :: x63 :: x64 :: x65 :: x66 :: x67 :: x68 :: x69 :: x70 :: x71 :: x72 :: x73 :: x74 :: x75 :: x76 :: x77 :: x78 :: x79 :: x80 :: x81 :: x82 :: x83 :: x84 :: x85 :: x86 :: x87 :: x88 :: x89 :: x90 :: x91 :: x92 :: x93 :: x94 :: x95 :: x96 :: x97 :: x98 :: x99 :: x100 :: x101 :: x102 :: x103 :: x104 :: x105 :: x106 :: x107 :: x108 :: x109 :: x110 :: x111 :: x112 :: x113 :: x114 :: x115 :: x116 :: x117 :: x118 :: x119 :: x120 :: x121 :: x122 :: x123 :: x124 :: x125 :: x126 :: x127 :: x128 :: x129 :: x130 :: x131 :: x132 :: x133 :: x134 :: x135 :: x136 :: x137 :: x138 :: x139 :: x140 :: x141 :: x142 :: x143 :: x144 :: x145 :: x146 :: x147 :: x148 :: x149 :: x150 :: x151 :: x152 :: x153 :: x154 :: x155 :: x156 :: x157 :: x158 :: x159 :: x160 :: x161 :: x162 :: y163 :: y164 :: y165 :: x166 :: x167 :: x168 :: x169 :: x170 :: x171 :: x172 :: x173 :: x174 :: x175 :: x176 :: x177 :: x178 :: x179 :: x180 :: x181 :: x182 :: x183 :: x184 :: x185 :: x186 :: x187 :: x188 :: []), []⟩ w') :
    Code.wp Try.prog (((Try.f6.body.bind (subRegion 30)).getD .skip)) Q ⟨List.toArray (x0 :: x1 :: x2 :: .pointer (some ⟨gx, 0, none⟩) :: x4 :: x5 :: x6 :: x7 :: x8 :: x9 :: x10 :: x11 :: x12 :: x13 :: .pointer (some ⟨gz, 0, none⟩) :: x15 :: x16 :: x17 :: x18 :: x19 :: x20 :: x21 :: x22 :: x23 :: x24 :: x25 :: x26 :: x27 :: x28 :: x29 :: x30 :: x31 :: x32 :: x33 :: x34 :: x35 :: x36 :: x37 :: x38 :: x39 :: x40 :: x41 :: x42 :: x43 :: x44 :: x45 :: x46 :: x47 :: x48 :: x49 :: x50 :: x51 :: x52 :: x53 :: x54 :: x55 :: x56 :: x57 :: x58 :: x59 :: x60 :: x61 :: x62 :: x63 :: x64 :: x65 :: x66 :: x67 :: x68 :: x69 :: x70 :: x71 :: x72 :: x73 :: x74 :: x75 :: x76 :: x77 :: x78 :: x79 :: x80 :: x81 :: x82 :: x83 :: x84 :: x85 :: x86 :: x87 :: x88 :: x89 :: x90 :: x91 :: x92 :: x93 :: x94 :: x95 :: x96 :: x97 :: x98 :: x99 :: x100 :: x101 :: x102 :: x103 :: x104 :: x105 :: x106 :: x107 :: x108 :: x109 :: x110 :: x111 :: x112 :: x113 :: x114 :: x115 :: x116 :: x117 :: x118 :: x119 :: x120 :: x121 :: x122 :: x123 :: x124 :: x125 :: x126 :: x127 :: x128 :: x129 :: x130 :: x131 :: x132 :: x133 :: x134 :: x135 :: x136 :: x137 :: x138 :: x139 :: x140 :: x141 :: x142 :: x143 :: x144 :: x145 :: x146 :: x147 :: x148 :: x149 :: x150 :: x151 :: x152 :: x153 :: x154 :: x155 :: x156 :: x157 :: x158 :: x159 :: x160 :: x161 :: x162 :: x163 :: x164 :: x165 :: x166 :: x167 :: x168 :: x169 :: x170 :: x171 :: x172 :: x173 :: x174 :: x175 :: x176 :: x177 :: x178 :: x179 :: x180 :: x181 :: x182 :: x183 :: x184 :: x185 :: x186 :: x187 :: x188 :: []), []⟩ w := by
  have HK := Lib.hid hQ; have HKP := Lib.hid hQp
  clear hQ hQp
  conv => arg 2; whnf
  have HXR := Lib.hid (HS.out.row _ (List.mem_cons_of_mem _ HX.out))
  have hrg : w.rangeAt gx 4 ([.int .i64 x.xk, .int .u64 x.xa, .int .u64 x.xb, .int .u64 x.xc, .slice x.da x.dn x.dc, .bool x.xf, .slice x.ra x.rn x.rc, .int .i64 x.xn] : List Value) := rng_row HXR.out 4 _ (fun j v hv => askF j v hv)
  have HRG := Lib.hid hrg
  clear hrg
  have hcl := kframe_any w x.xk x.xa x.xb x.xc x.xn x.xf x.da x.ra x.dn x.dc x.rn x.rc x.data x.rows HA.out.d HA.out.dc.1 HA.out.dc.2 HA.out.r HA.out.rc HA.out.xk HA.out.xa HA.out.xb HA.out.xc HA.out.xn
  have HCL := Lib.hid hcl
  clear hcl
  go_wp2_with (first | (refine wpList_load_mid rfl 28 _ rfl gx 4 rfl [.int .i64 x.xk, .int .u64 x.xa, .int .u64 x.xb, .int .u64 x.xc, .slice x.da x.dn x.dc, .bool x.xf, .slice x.ra x.rn x.rc, .int .i64 x.xn] _ HRG.out Try.underlying28 rfl rfl ?_) | fail)
  refine Calls.mono HCL.out ?_
  rintro e w1 ⟨f, dv, rv, rfl, hfa, _, hb⟩
  replace HS := Lib.hid (HS.out.below hb)
  have hl := Fr.len (dv := dv) (rv := rv) hfa.wf; have ho := Fr.one hfa
  have HFW := Lib.hid hfa.wf
  have HDR : Hid (dv.oneCell' = true ∧ rv.oneCell' = true) := Lib.hid (by obtain ⟨_, _, _, e, _⟩ := hfa.d; obtain ⟨_, _, _, e2, _⟩ := hfa.r; rw [e, e2]; exact ⟨rfl, rfl⟩)
  obtain ⟨RF, hRF⟩ : ∃ R, f.cells dv rv = R := ⟨_, rfl⟩
  have HRF := Lib.hid hRF
  rw [hRF] at hl ho ⊢
  have HL := Lib.hid hl; have HO := Lib.hid ho
  clear hb hl ho hRF hfa
  go_wp2_with (first | (refine wpList_store_row rfl FRT _ _ rfl gz rfl RF Z rfl FRT (HS.out.row _ (List.mem_cons_self ..)) (by rw [HL.out, HZL.out]) (by rw [HL.out]; rfl) HO.out ?_; intro w2 hr hg; replace HS := Lib.hid (HS.out.stored HNE.out hg hr); clear hr hg) | fail)
  have hfin := HS.out
  have hrf := HRF.out
  rw [← hrf] at hfin
  exact HK.out _ _ _ f dv rv _ HFW HDR (Lib.hid hfin)
end Go.Proofs.Ytjdcmhclamjcjaa
