/- texts of the proof, laid together: Cid29, Cid30, Cid31, Cid32, Cid33, Cid34. -/
import Derived.Test.YtjdcmhclamjcjaaV6
namespace Go.Proofs.Ytjdcmhclamjcjaa
open Go.RowKit
set_option linter.unusedVariables false
set_option linter.unusedSimpArgs false

set_option maxRecDepth 100000 in
set_option maxHeartbeats 4000000 in
theorem ron_put {x1 x2 x3 x4 x5 x6 x7 x8 x11 x12 x13 x14 x15 x16 x17 x18 x19 x20 x21 x22 x23 x24 x25 x26 x27 x28 x29 x30 x31 x32 x33 x34 x35 x36 x37 x38 x39 x40 x41 x42 x43 x44 x45 x46 x47 x48 x49 x50 x51 x52 x53 x54 x55 x56 x57 x58 x59 x60 x61 x62 x63 x64 x65 x66 x67 x68 x69 x70 x71 x72 x73 x74 x75 x76 x77 x78 x79 x80 x81 x82 x83 x84 x85 x86 x87 x88 x89 x90 x91 x92 x93 x94 x95 x96 x97 x98 x99 x100 x101 x102 x103 x104 x105 x106 x107 x108 x109 x110 x111 x112 x113 x114 x115 x116 x117 x118 x119 x120 x121 x122 x123 x124 x125 x126 x127 x128 x129 x130 x131 x132 x133 x134 x135 x136 x137 x138 x139 x140 x141 x142 x143 x144 x145 x146 x147 x148 x149 x150 x151 x152 x153 x154 x155 x156 x157 x158 x159 x160 x161 x162 x163 x164 x165 x166 x167 x168 x169 x170 x171 x172 x173 x174 x175 : Value} {p gx N i : Nat} {B : List Nat} {S : Th} {h : RH} {x : Nm} {RX : List Value} (w : World) {Q : Exit → Act → World → Prop}
    (hN : N < 90000) (hi : i ≤ S.L.length) (h0 : 0 < S.L.length) (HT : Hid (RtAt w p B N S h)) (HX : Hid (w.heap[gx]? = some (.cells RX.toArray 75 (0, 0)))) (HRX : Hid (nmK.enc x = RX)) (HXO : Hid (nmK.ok x))
    (hQp : ∀ c a d v w, Q (.panic c) (a.put d v) w → Q (.panic c) a w)
    (hQ : ∀ (y99 y100 y101 y102 y103 y104 y105 y106 y107 y108 y109 y110 y111 y112 y113 y114 y115 y116 y117 y118 y119 : Value) (w' : World), Hid (RtU w p B w' (N + 1) ⟨S.L.take i ++ x :: S.L.drop i, S.came, S.due, S.was, S.now⟩) → Hid (w'.heap[gx]? = some (.cells RX.toArray 75 (0, 0))) → Q .normal ⟨List.toArray (.pointer (some ⟨p, 0, none⟩) :: x1 :: x2 :: x3 :: x4 :: x5 :: x6 :: x7 :: x8 :: .pointer (some ⟨gx, 0, none⟩) :: .int .i64 i :: x11 :: x12 :: x13 :: x14 :: x15 :: x16 :: x17 :: x18 :: x19 :: x20 :: x21 :: x22 :: x23 :: x24 :: x25 :: x26 :: x27 :: x28 :: x29 :: x30 :: x31 :: x32 :: x33 :: x34 :: x35 :: x36 :: x37 :: x38 :: x39 :: x40 :: x41 :: x42 :: x43 :: x44 :: x45 :: x46 :: x47 :: x48 :: x49 :: x50 :: x51 :: x52 :: x53 :: x54 :: x55 :: x56 :: x57 :: x58 :: x59 :: x60 :: x61 :: x62 :: x63 :: x64 :: x65 :: x66 :: x67 :: x68 :: x69 :: x70 :: x71 :: x72 :: x73 :: x74 :: x75 :: x76 :: x77 :: x78 :: x79 :: x80 :: x81 :: x82 :: x83 :: x84 :: x85 :: x86 :: x87 :: x88 :: x89 :: x90 :: x91 :: x92 :: x93 :: x94 :: x95 :: x96 :: x97 :: x98 :: y99 :: y100 :: y101 :: y102 :: y103 :: y104 :: y105 :: y106 :: y107 :: y108 :: y109 :: y110 :: y111 :: y112 :: y113 :: y114 :: y115 :: y116 :: y117 :: y118 :: y119 :: x120 :: x121 :: x122 :: x123 :: x124 :: x125 :: x126 :: x127 :: x128 :: x129 :: x130 :: x131 :: x132 :: x133 :: x134 :: x135 :: x136 :: x137 :: x138 :: x139 :: x140 :: x141 :: x142 :: x143 :: x144 :: x145 :: x146 :: x147 :: x148 :: x149 :: x150 :: x151 :: x152 :: x153 :: x154 :: x155 :: x156 :: x157 :: x158 :: x159 :: x160 :: x161 :: x162 :: x163 :: x164 :: x165 :: x166 :: x167 :: x168 :: x169 :: x170 :: x171 :: x172 :: x173 :: x174 :: x175 :: []), []⟩ w') :
    Code.wp Try.prog (((Try.f17.body.bind (subRegion 20)).getD .skip)) Q ⟨List.toArray (.pointer (some ⟨p, 0, none⟩) :: x1 :: x2 :: x3 :: x4 :: x5 :: x6 :: x7 :: x8 :: .pointer (some ⟨gx, 0, none⟩) :: .int .i64 i :: x11 :: x12 :: x13 :: x14 :: x15 :: x16 :: x17 :: x18 :: x19 :: x20 :: x21 :: x22 :: x23 :: x24 :: x25 :: x26 :: x27 :: x28 :: x29 :: x30 :: x31 :: x32 :: x33 :: x34 :: x35 :: x36 :: x37 :: x38 :: x39 :: x40 :: x41 :: x42 :: x43 :: x44 :: x45 :: x46 :: x47 :: x48 :: x49 :: x50 :: x51 :: x52 :: x53 :: x54 :: x55 :: x56 :: x57 :: x58 :: x59 :: x60 :: x61 :: x62 :: x63 :: x64 :: x65 :: x66 :: x67 :: x68 :: x69 :: x70 :: x71 :: x72 :: x73 :: x74 :: x75 :: x76 :: x77 :: x78 :: x79 :: x80 :: x81 :: x82 :: x83 :: x84 :: x85 :: x86 :: x87 :: x88 :: x89 :: x90 :: x91 :: x92 :: x93 :: x94 :: x95 :: x96 :: x97 :: x98 :: x99 :: x100 :: x101 :: x102 :: x103 :: x104 :: x105 :: x106 :: x107 :: x108 :: x109 :: x110 :: x111 :: x112 :: x113 :: x114 :: x115 :: x116 :: x117 :: x118 :: x119 :: x120 :: x121 :: x122 :: x123 :: x124 :: x125 :: x126 :: x127 :: x128 :: x129 :: x130 :: x131 :: x132 :: x133 :: x134 :: x135 :: x136 :: x137 :: x138 :: x139 :: x140 :: x141 :: x142 :: x143 :: x144 :: x145 :: x146 :: x147 :: x148 :: x149 :: x150 :: x151 :: x152 :: x153 :: x154 :: x155 :: x156 :: x157 :: x158 :: x159 :: x160 :: x161 :: x162 :: x163 :: x164 :: x165 :: x166 :: x167 :: x168 :: x169 :: x170 :: x171 :: x172 :: x173 :: x174 :: x175 :: []), []⟩ w := by
  have HK := Lib.hid hQ; have HKP := Lib.hid hQp
  clear hQ hQp
  conv => arg 2; whnf
  have HROW := Lib.hid HT.out.row
  have HGX0 : Hid (gx < w.heap.size) := Lib.hid (lt_of_block HX.out)
  have HCM := Lib.hid HT.out.l
  have hln := HT.out.len.1
  have HO := Lib.hid (Off.refl [p] w)
  obtain ⟨ca, hca⟩ : ∃ a, h.la = a := ⟨_, rfl⟩
  obtain ⟨cc, hcc⟩ : ∃ a, h.lc = a := ⟨_, rfl⟩
  have HCA := Lib.hid hca; have HCC := Lib.hid hcc
  rw [hca] at HROW HCM; rw [hcc] at HROW
  obtain ⟨n, hn⟩ : ∃ n, S.L.length = n := ⟨_, rfl⟩
  have HN := Lib.hid hn
  rw [hn] at HROW HCM hln hi h0
  clear hca hcc hn
  obtain ⟨ab, ao, _, rfl, hab, _, _, _⟩ := HCM.out.at (j := 0) h0
  have HAB0 : Hid (ab < w.heap.size) := Lib.hid hab
  have hcl := HT.out.lc
  rw [HCC.out, HN.out] at hcl
  obtain ⟨hcl1, hcl2⟩ := hcl
  clear hab
  have hl9 := nmK.len x HXO.out; have ho9 := nmK.one x HXO.out
  rw [HRX.out] at hl9 ho9
  have HL9 : Hid (RX.length = 9) := Lib.hid hl9; have HO9 := Lib.hid ho9
  have HCK := Lib.hid HCM.out.2.1
  clear hl9 ho9
  have g0 : ∀ z : In (fun y => y.heap[p]? = some (.cells (rtRow (.slice (some ⟨ab, ao, none⟩) n cc) (.slice h.ca S.came.length h.cc) (.slice h.ra S.due.length h.rc) (.slice h.wa S.was.length h.wc) S.now).toArray RTT (0, 0)) ∧ y.heap[gx]? = some (.cells RX.toArray 75 (0, 0))), z.w.cell? ⟨p, 0, none⟩ = some (.slice (some ⟨ab, ao, none⟩) n cc) := fun z => cell_row z.h.1 0 _ (rtRow_0 ..)
  refine wp_plan2 19 (.t 0 (.t 2 (.t 3 (.t 4 (.t 5 (.t 6 (.t 7 (.t 9 (.t 12 (.t 13 (.t 14 (.t 15 (.t 16 (.t 17 (.b 1 (.b 8 (.u 10 (.u 11 (.u 18 .done))) 10 (.u 8 (.u 11 (.u 18 .done)))) 10 (.u 1 (.u 8 (.u 11 (.u 18 .done))))))))))))))))))) (.t 19 (.t 20 (.u 21 .done))) (fun y => y.heap[p]? = some (.cells (rtRow (.slice (some ⟨ab, ao, none⟩) n cc) (.slice h.ca S.came.length h.cc) (.slice h.ra S.due.length h.rc) (.slice h.wa S.was.length h.wc) S.now).toArray RTT (0, 0)) ∧ y.heap[gx]? = some (.cells RX.toArray 75 (0, 0))) (by kernel_rfl) (by kernel_rfl) (by kernel_rfl) (fun c a d v w h => by first | (cases d <;> exact h) | exact HKP.out c a d v w h) ⟨HROW.out, HX.out⟩ ?_
  have hb := (Below.refl w.heap.size w).drew
  replace HO := Lib.hid (HO.out.next hb)
  replace HROW := Lib.hid (bl_row hb (lt_of_block HROW.out) HROW.out)
  replace HX := Lib.hid (bl_row hb (lt_of_block HX.out) HX.out)
  replace HCM := Lib.hid (HCM.out.below hb)
  clear hb
  generalize w.drew = w1 at HROW HX HCM HO ⊢
  haveI hne : Nonempty (In (fun y => y.heap[p]? = some (.cells (rtRow (.slice (some ⟨ab, ao, none⟩) n cc) (.slice h.ca S.came.length h.cc) (.slice h.ra S.due.length h.rc) (.slice h.wa S.was.length h.wc) S.now).toArray RTT (0, 0)) ∧ y.heap[gx]? = some (.cells RX.toArray 75 (0, 0)))) := ⟨⟨w1, ⟨HROW.out, HX.out⟩⟩⟩
  repeat (first | (refine plan_t_load (by rfl) (by kernel_rfl) 75 _ rfl gx 0 rfl RX _ (fun y hy => rngL hy.2) Try.underlying75 rfl (by rw [HL9.out]; rfl) ?_; simp only [Act.put, List.setIfInBounds_toArray, List.set_cons_succ, List.set_cons_zero]) | (refine plan_t (by rfl) ?_; (first | go_big_quiet_skip | (go_big_quiet_want; go_big_quiet_op; go_big_quiet_on)); refine wpQuiet_nil ?_))
  clear g0
  have HPRE := Lib.hid (HCM.out.pre i hi)
  have HSUF : Hid (nmK.At w1 (if cc = i then (some ⟨ab, ao, none⟩ : Option Addr) else some ⟨ab, ao + i * 9, none⟩) (n - i) (S.L.drop i)) := Lib.hid (HCM.out.sufC i cc hi hcl1)
  have HDA : Hid (∀ y, (if cc = i then (some ⟨ab, ao, none⟩ : Option Addr) else some ⟨ab, ao + i * 9, none⟩) = some y → y.block = ab) := Lib.hid (fun y hy => by split at hy <;> (injection hy with hy; subst hy; rfl))
  generalize (if cc = i then (some ⟨ab, ao, none⟩ : Option Addr) else some ⟨ab, ao + i * 9, none⟩) = dsx at HSUF HDA ⊢
  clear HCM
  have HGXL : Hid (gx < w.heap.size) := HGX0
  refine plan_b ?_ ?_
  · refine plan_half (by rfl) (by kernel_rfl) ?_
    intro K hK
    go_wp2_with fail
    have hal := (Below.refl w1.heap.size w1).alloc (Nat.le_refl _) (.cells #[] 75)
    have hee : (w1.alloc (.cells #[] 75)).ownsRow 0 75 nmK.N (.slice (some ⟨w1.heap.size, 0, none⟩) 0 0) 0 (nmK.flat []) := ⟨rfl, .inr ⟨_, 0, #[], rfl, Nat.zero_le _, heap_alloc_new w1 (.cells #[] 75), Nat.le_refl _, by unfold maxLen; omega, rfl, rfl⟩⟩
    have HGE : Hid (w.heap.size ≤ w1.heap.size) := Lib.hid HO.out.size
    replace HO := Lib.hid (HO.out.next hal)
    replace HROW := Lib.hid (bl_row hal (lt_of_block HROW.out) HROW.out)
    replace HX := Lib.hid (bl_row hal (lt_of_block HX.out) HX.out)
    replace HPRE := Lib.hid (HPRE.out.below hal)
    replace HSUF := Lib.hid (HSUF.out.below hal)
    have HE := Lib.hid hee
    refine ⟨⟨HROW.out, HX.out⟩, ?_⟩
    clear hal hee
    (try change Plan.wp _ _ _ _ _ _ (w1.alloc (.cells #[] 75)))
    generalize w1.alloc (.cells #[] 75) = w2 at HROW HX HPRE HSUF HO HE ⊢
    obtain ⟨ge, hge⟩ : ∃ g, w1.heap.size = g := ⟨_, rfl⟩
    rw [hge] at HE HGE ⊢
    clear hge
    refine plan_b ?_ ?_
    · refine plan_half (by rfl) (by kernel_rfl) ?_
      intro K hK
      refine wp_append_rk rnmT _ _ rfl 0 0 (.slice (some ⟨ge, 0, none⟩) 0 0) [] rfl HE.out _ i _ (S.L.take i) rfl HPRE.out (by omega) (Nat.zero_le _) ?_
      intro v' w3 ho2 hg2 hor
      replace HROW := Lib.hid (grown_row hg2 (fun e => own_ne HE.out HROW.out (by decide) e.symm) HROW.out)
      replace HX := Lib.hid (grown_row hg2 (fun e => by injection e with e; have e3 : gx = ge := e; have := HGXL.out; have := HGE.out; omega) HX.out)
      replace HSUF := Lib.hid (HSUF.out.grown hg2 (fun y hy e => by injection e with e; rw [HDA.out y hy] at e; have e3 : ab = ge := e; have := HAB0.out; have := HGE.out; omega))
      have hgz : w.heap.size ≤ w2.heap.size := HO.out.size
      replace HO := Lib.hid (HO.out.fresh hg2 HGE.out)
      obtain ⟨ab2, ac2, rfl, _⟩ := sl_own ho2
      simp only [Nat.zero_add] at ho2 hor hK ⊢
      rw [List.nil_append] at ho2
      replace HE := Lib.hid ho2
      have HAB : Hid (∀ x, ab2 = some x → w.heap.size ≤ x.block ∧ (x.block = ge ∨ x.block = w2.heap.size)) := Lib.hid (fun x hx => by subst hx; rcases hor with e | e <;> (have e2 : some x.block = some _ := e; injection e2 with e2; rw [e2]); exact ⟨HGE.out, .inl rfl⟩; exact ⟨hgz, .inr rfl⟩)
      clear ho2 hor hg2 hgz HPRE
      refine hK _ _ ⟨⟨HROW.out, HX.out⟩, ?_⟩
      clear hK K
      simp only [Act.put, List.setIfInBounds_toArray, List.set_cons_succ, List.set_cons_zero]
      refine plan_us (by rfl) (by kernel_rfl) ?_
      intro K hK
      refine wp_build_rk rnmT _ rfl x HXO.out (by show Value.agg _ = _; rw [HRX.out]) ?_
      have hal := (Below.refl w3.heap.size w3).alloc (Nat.le_refl _) (.cells (nmK.flat [x]).toArray 75)
      replace HO := Lib.hid (HO.out.next hal)
      replace HROW := Lib.hid (bl_row hal (lt_of_block HROW.out) HROW.out)
      replace HX := Lib.hid (bl_row hal (lt_of_block HX.out) HX.out)
      replace HSUF := Lib.hid (HSUF.out.below hal)
      replace HE := Lib.hid (own_below HE.out hal)
      have HLT := Lib.hid (RK.At.of_row (K := nmK) (t := 75) (l := [x]) (heap_alloc_new w3 _) (fun y hy => by rw [List.mem_singleton.1 hy]; exact HXO.out))
      refine hK _ _ ⟨⟨HROW.out, HX.out⟩, ?_⟩
      clear hal hK K
      simp only [Act.put, List.setIfInBounds_toArray, List.set_cons_succ, List.set_cons_zero]
      generalize w3.alloc (.cells (nmK.flat [x]).toArray 75) = w4 at HROW HX HSUF HE HO HLT ⊢
      obtain ⟨gs, hgs⟩ : ∃ g, w3.heap.size = g := ⟨_, rfl⟩
      rw [hgs] at HLT ⊢
      clear hgs
      refine plan_us (by rfl) (by kernel_rfl) ?_
      intro K hK
      refine wp_append_rk rnmT _ _ rfl 0 i (.slice ab2 i ac2) (S.L.take i) rfl HE.out _ 1 1 [x] rfl HLT.out (by omega) (Nat.zero_le _) ?_
      intro v' w5 ho2 hg2 hor
      have hgz : w.heap.size ≤ w4.heap.size := HO.out.size
      replace HROW := Lib.hid (grown_row hg2 (fun e => own_ne HE.out HROW.out (by decide) e.symm) HROW.out)
      replace HX := Lib.hid (grown_row hg2 (fun e => by cases ab2 with | none => cases e | some y => have e2 : some gx = some y.block := e; injection e2 with e2; have := HGXL.out; have := (HAB.out y rfl).1; omega) HX.out)
      replace HO := Lib.hid (HO.out.freshS hg2 (fun x hx => (HAB.out x hx).1))
      obtain ⟨ab3, ac3, rfl, _⟩ := sl_own ho2
      replace HE := Lib.hid ho2
      have HAC : Hid (∀ x, ab3 = some x → w.heap.size ≤ x.block) := Lib.hid (fun x hx => by subst hx; rcases hor with e | e; (cases ab2 with | none => cases e | some y => have e2 : some x.block = some y.block := e; injection e2 with e2; rw [e2]; exact (HAB.out y rfl).1); (have e2 : some x.block = some _ := e; injection e2 with e2; rw [e2]; exact hgz))
      replace HSUF := Lib.hid (HSUF.out.grown hg2 (fun y hy e => by cases ab2 with | none => cases e | some z => (have e2 : some y.block = some z.block := e; injection e2 with e2; rw [HDA.out y hy] at e2; have := HAB0.out; have := (HAB.out z rfl).1; omega)))
      clear ho2 hor hg2 hgz HLT HAB
      refine hK _ _ ⟨⟨HROW.out, HX.out⟩, ?_⟩
      clear hK K
      simp only [Act.put, List.setIfInBounds_toArray, List.set_cons_succ, List.set_cons_zero]
      refine plan_us (by rfl) (by kernel_rfl) ?_
      intro K hK
      refine wp_append_rk rnmT _ _ rfl 0 (i + 1) (.slice ab3 (i + 1) ac3) (S.L.take i ++ [x]) rfl HE.out dsx (n - i) _ (S.L.drop i) rfl HSUF.out (by omega) (Nat.zero_le _) ?_
      intro v' w6 ho2 hg2 hor
      have hgz : w.heap.size ≤ w5.heap.size := HO.out.size
      replace HROW := Lib.hid (grown_row hg2 (fun e => own_ne HE.out HROW.out (by decide) e.symm) HROW.out)
      replace HX := Lib.hid (grown_row hg2 (fun e => by cases ab3 with | none => cases e | some y => have e2 : some gx = some y.block := e; injection e2 with e2; have := HGXL.out; have := HAC.out y rfl; omega) HX.out)
      replace HO := Lib.hid (HO.out.freshS hg2 (fun x hx => HAC.out x hx))
      obtain ⟨ab4, ac4, rfl, _⟩ := sl_own ho2
      have hie : i + 1 + (n - i) = n + 1 := by omega
      rw [hie] at ho2 ⊢
      replace HE := Lib.hid ho2
      have HAD : Hid (∀ x, ab4 = some x → w.heap.size ≤ x.block) := Lib.hid (fun x hx => by subst hx; rcases hor with e | e; (cases ab3 with | none => cases e | some y => have e2 : some x.block = some y.block := e; injection e2 with e2; rw [e2]; exact HAC.out y rfl); (have e2 : some x.block = some _ := e; injection e2 with e2; rw [e2]; exact hgz))
      skip
      clear ho2 hor hg2 hgz HSUF HAC
      refine hK _ _ ⟨⟨HROW.out, HX.out⟩, ?_⟩
      clear hK K
      simp only [Act.put, List.setIfInBounds_toArray, List.set_cons_succ, List.set_cons_zero]
      clear hne
      refine ⟨fun _ => True, trivial, ?_⟩
      haveI hne : Nonempty (In (fun _ => True)) := ⟨⟨w6, trivial⟩⟩
      repeat (first | (refine plan_t (by rfl) ?_; (first | go_big_quiet_skip | (go_big_quiet_want; go_big_quiet_op; go_big_quiet_on)); refine wpQuiet_nil ?_))
      refine plan_us (by rfl) (by kernel_rfl) ?_
      intro K hK
      have hcell := cell_row HROW.out 0 _ (rtRow_0 ..)
      have f0 := row_free HROW.out 0
      go_wp2_with fail
      clear hcell f0
      have hgs := grown_setCell w6 p 0 (.slice ab4 (n + 1) ac4)
      have hrs := row_setL HROW.out 0 (.slice ab4 (n + 1) ac4)
      rw [rtRow_set0] at hrs
      have ho9 := HO.out.setCell (k := 0) (List.mem_singleton.2 rfl) (.slice ab4 (n + 1) ac4)
      have he9 := own_grown HE.out hgs (fun g hg e => own_ne HE.out HROW.out (by decide) (hg.trans e))
      have hx9 := grown_row hgs (row_ne HX.out HROW.out (by decide)) HX.out
      have HE9 := Lib.hid he9; have HO9 := Lib.hid ho9; have HR9 := Lib.hid hrs; have HX9 := Lib.hid hx9
      clear hgs hrs ho9 he9 hx9
      generalize w6.setCell ⟨p, 0, none⟩ (.slice ab4 (n + 1) ac4) = w99 at HE9 HO9 HR9 HX9 ⊢
      try refine ⟨trivial, ?_⟩
      clear hne
      simp only [Plan.wp]
      have hle : (S.L.take i ++ x :: S.L.drop i).length = n + 1 := by simp [HN.out]; omega
      have hokl : ∀ y ∈ S.L.take i ++ x :: S.L.drop i, nmK.ok y := fun y hy => by rcases List.mem_append.1 hy with hy | hy; exact HCK.out y (List.mem_of_mem_take hy); rcases List.mem_cons.1 hy with rfl | hy; exact HXO.out; exact HCK.out y (List.mem_of_mem_drop hy)
      obtain ⟨_, _, e0, hc1, hc2⟩ := sl_own HE9.out
      injection e0 with e0 e1 e2; subst e2
      have hnew : RtU w p B w99 (N + 1) ⟨S.L.take i ++ x :: S.L.drop i, S.came, S.due, S.was, S.now⟩ := HT.out.newl HO9.out (by rw [hle]; exact HR9.out) (by rw [hle]; exact RK.At.of_own (by have h9 := HE9.out; rwa [List.append_assoc] at h9) hokl) (by rw [hle]; exact ⟨hc1, hc2⟩) (fun y hy => ⟨HAD.out y hy, by subst hy; exact own_ltS HE9.out rfl, by subst hy; exact own_addr HE9.out⟩) ⟨by omega, by rw [hle]; omega⟩
      show Q _ _ _
      exact HK.out _ _ _ _ _ _ _ _ _ _ _ _ _ _ _ _ _ _ _ _ _ w99 (Lib.hid hnew) HX9
    · refine plan_half (by rfl) (by kernel_rfl) ?_
      intro K hK
      have HNS : Hid (w2.heap.size ≠ ge) := Lib.hid (Nat.ne_of_gt (own_lt HE.out rfl))
      refine wp_build_rk rnmT _ rfl x HXO.out (by show Value.agg _ = _; rw [HRX.out]) ?_
      have hal := (Below.refl w2.heap.size w2).alloc (Nat.le_refl _) (.cells (nmK.flat [x]).toArray 75)
      replace HO := Lib.hid (HO.out.next hal)
      replace HROW := Lib.hid (bl_row hal (lt_of_block HROW.out) HROW.out)
      replace HX := Lib.hid (bl_row hal (lt_of_block HX.out) HX.out)
      replace HPRE := Lib.hid (HPRE.out.below hal)
      replace HSUF := Lib.hid (HSUF.out.below hal)
      replace HE := Lib.hid (own_below HE.out hal)
      have HLT := Lib.hid (RK.At.of_row (K := nmK) (t := 75) (l := [x]) (heap_alloc_new w2 _) (fun y hy => by rw [List.mem_singleton.1 hy]; exact HXO.out))
      refine hK _ _ ⟨⟨HROW.out, HX.out⟩, ?_⟩
      clear hal hK K
      simp only [Act.put, List.setIfInBounds_toArray, List.set_cons_succ, List.set_cons_zero]
      generalize w2.alloc (.cells (nmK.flat [x]).toArray 75) = w7 at HROW HX HPRE HSUF HE HO HLT ⊢
      obtain ⟨gs, hgs⟩ : ∃ g, w2.heap.size = g := ⟨_, rfl⟩
      rw [hgs] at HLT HNS ⊢
      clear hgs
      refine plan_us (by rfl) (by kernel_rfl) ?_
      intro K hK
      refine wp_append_rk rnmT _ _ rfl 0 0 (.slice (some ⟨ge, 0, none⟩) 0 0) [] rfl HE.out _ i _ (S.L.take i) rfl HPRE.out (by omega) (Nat.zero_le _) ?_
      intro v' w8 ho2 hg2 hor
      replace HROW := Lib.hid (grown_row hg2 (fun e => own_ne HE.out HROW.out (by decide) e.symm) HROW.out)
      replace HX := Lib.hid (grown_row hg2 (fun e => by injection e with e; have e3 : gx = ge := e; have := HGXL.out; have := HGE.out; omega) HX.out)
      replace HSUF := Lib.hid (HSUF.out.grown hg2 (fun y hy e => by injection e with e; rw [HDA.out y hy] at e; have e3 : ab = ge := e; have := HAB0.out; have := HGE.out; omega))
      have hgz : w.heap.size ≤ w7.heap.size := HO.out.size
      replace HO := Lib.hid (HO.out.fresh hg2 HGE.out)
      replace HLT := Lib.hid (HLT.out.grown hg2 (fun x hx e => by injection hx with hx; subst hx; injection e with e; exact HNS.out e))
      obtain ⟨ab2, ac2, rfl, _⟩ := sl_own ho2
      simp only [Nat.zero_add] at ho2 hor hK ⊢
      rw [List.nil_append] at ho2
      replace HE := Lib.hid ho2
      have HAB : Hid (∀ x, ab2 = some x → w.heap.size ≤ x.block ∧ (x.block = ge ∨ x.block = w7.heap.size)) := Lib.hid (fun x hx => by subst hx; rcases hor with e | e <;> (have e2 : some x.block = some _ := e; injection e2 with e2; rw [e2]); exact ⟨HGE.out, .inl rfl⟩; exact ⟨hgz, .inr rfl⟩)
      clear ho2 hor hg2 hgz HPRE
      refine hK _ _ ⟨⟨HROW.out, HX.out⟩, ?_⟩
      clear hK K
      simp only [Act.put, List.setIfInBounds_toArray, List.set_cons_succ, List.set_cons_zero]
      refine plan_us (by rfl) (by kernel_rfl) ?_
      intro K hK
      refine wp_append_rk rnmT _ _ rfl 0 i (.slice ab2 i ac2) (S.L.take i) rfl HE.out _ 1 1 [x] rfl HLT.out (by omega) (Nat.zero_le _) ?_
      intro v' w9 ho2 hg2 hor
      have hgz : w.heap.size ≤ w8.heap.size := HO.out.size
      replace HROW := Lib.hid (grown_row hg2 (fun e => own_ne HE.out HROW.out (by decide) e.symm) HROW.out)
      replace HX := Lib.hid (grown_row hg2 (fun e => by cases ab2 with | none => cases e | some y => have e2 : some gx = some y.block := e; injection e2 with e2; have := HGXL.out; have := (HAB.out y rfl).1; omega) HX.out)
      replace HO := Lib.hid (HO.out.freshS hg2 (fun x hx => (HAB.out x hx).1))
      obtain ⟨ab3, ac3, rfl, _⟩ := sl_own ho2
      replace HE := Lib.hid ho2
      have HAC : Hid (∀ x, ab3 = some x → w.heap.size ≤ x.block) := Lib.hid (fun x hx => by subst hx; rcases hor with e | e; (cases ab2 with | none => cases e | some y => have e2 : some x.block = some y.block := e; injection e2 with e2; rw [e2]; exact (HAB.out y rfl).1); (have e2 : some x.block = some _ := e; injection e2 with e2; rw [e2]; exact hgz))
      replace HSUF := Lib.hid (HSUF.out.grown hg2 (fun y hy e => by cases ab2 with | none => cases e | some z => (have e2 : some y.block = some z.block := e; injection e2 with e2; rw [HDA.out y hy] at e2; have := HAB0.out; have := (HAB.out z rfl).1; omega)))
      clear ho2 hor hg2 hgz HLT HAB
      refine hK _ _ ⟨⟨HROW.out, HX.out⟩, ?_⟩
      clear hK K
      simp only [Act.put, List.setIfInBounds_toArray, List.set_cons_succ, List.set_cons_zero]
      refine plan_us (by rfl) (by kernel_rfl) ?_
      intro K hK
      refine wp_append_rk rnmT _ _ rfl 0 (i + 1) (.slice ab3 (i + 1) ac3) (S.L.take i ++ [x]) rfl HE.out dsx (n - i) _ (S.L.drop i) rfl HSUF.out (by omega) (Nat.zero_le _) ?_
      intro v' w10 ho2 hg2 hor
      have hgz : w.heap.size ≤ w9.heap.size := HO.out.size
      replace HROW := Lib.hid (grown_row hg2 (fun e => own_ne HE.out HROW.out (by decide) e.symm) HROW.out)
      replace HX := Lib.hid (grown_row hg2 (fun e => by cases ab3 with | none => cases e | some y => have e2 : some gx = some y.block := e; injection e2 with e2; have := HGXL.out; have := HAC.out y rfl; omega) HX.out)
      replace HO := Lib.hid (HO.out.freshS hg2 (fun x hx => HAC.out x hx))
      obtain ⟨ab4, ac4, rfl, _⟩ := sl_own ho2
      have hie : i + 1 + (n - i) = n + 1 := by omega
      rw [hie] at ho2 ⊢
      replace HE := Lib.hid ho2
      have HAD : Hid (∀ x, ab4 = some x → w.heap.size ≤ x.block) := Lib.hid (fun x hx => by subst hx; rcases hor with e | e; (cases ab3 with | none => cases e | some y => have e2 : some x.block = some y.block := e; injection e2 with e2; rw [e2]; exact HAC.out y rfl); (have e2 : some x.block = some _ := e; injection e2 with e2; rw [e2]; exact hgz))
      skip
      clear ho2 hor hg2 hgz HSUF HAC
      refine hK _ _ ⟨⟨HROW.out, HX.out⟩, ?_⟩
      clear hK K
      simp only [Act.put, List.setIfInBounds_toArray, List.set_cons_succ, List.set_cons_zero]
      clear hne
      refine ⟨fun _ => True, trivial, ?_⟩
      haveI hne : Nonempty (In (fun _ => True)) := ⟨⟨w10, trivial⟩⟩
      repeat (first | (refine plan_t (by rfl) ?_; (first | go_big_quiet_skip | (go_big_quiet_want; go_big_quiet_op; go_big_quiet_on)); refine wpQuiet_nil ?_))
      refine plan_us (by rfl) (by kernel_rfl) ?_
      intro K hK
      have hcell := cell_row HROW.out 0 _ (rtRow_0 ..)
      have f0 := row_free HROW.out 0
      go_wp2_with fail
      clear hcell f0
      have hgs := grown_setCell w10 p 0 (.slice ab4 (n + 1) ac4)
      have hrs := row_setL HROW.out 0 (.slice ab4 (n + 1) ac4)
      rw [rtRow_set0] at hrs
      have ho9 := HO.out.setCell (k := 0) (List.mem_singleton.2 rfl) (.slice ab4 (n + 1) ac4)
      have he9 := own_grown HE.out hgs (fun g hg e => own_ne HE.out HROW.out (by decide) (hg.trans e))
      have hx9 := grown_row hgs (row_ne HX.out HROW.out (by decide)) HX.out
      have HE9 := Lib.hid he9; have HO9 := Lib.hid ho9; have HR9 := Lib.hid hrs; have HX9 := Lib.hid hx9
      clear hgs hrs ho9 he9 hx9
      generalize w10.setCell ⟨p, 0, none⟩ (.slice ab4 (n + 1) ac4) = w99 at HE9 HO9 HR9 HX9 ⊢
      try refine ⟨trivial, ?_⟩
      clear hne
      simp only [Plan.wp]
      have hle : (S.L.take i ++ x :: S.L.drop i).length = n + 1 := by simp [HN.out]; omega
      have hokl : ∀ y ∈ S.L.take i ++ x :: S.L.drop i, nmK.ok y := fun y hy => by rcases List.mem_append.1 hy with hy | hy; exact HCK.out y (List.mem_of_mem_take hy); rcases List.mem_cons.1 hy with rfl | hy; exact HXO.out; exact HCK.out y (List.mem_of_mem_drop hy)
      obtain ⟨_, _, e0, hc1, hc2⟩ := sl_own HE9.out
      injection e0 with e0 e1 e2; subst e2
      have hnew : RtU w p B w99 (N + 1) ⟨S.L.take i ++ x :: S.L.drop i, S.came, S.due, S.was, S.now⟩ := HT.out.newl HO9.out (by rw [hle]; exact HR9.out) (by rw [hle]; exact RK.At.of_own (by have h9 := HE9.out; rwa [List.append_assoc] at h9) hokl) (by rw [hle]; exact ⟨hc1, hc2⟩) (fun y hy => ⟨HAD.out y hy, by subst hy; exact own_ltS HE9.out rfl, by subst hy; exact own_addr HE9.out⟩) ⟨by omega, by rw [hle]; omega⟩
      show Q _ _ _
      exact HK.out _ _ _ _ _ _ _ _ _ _ _ _ _ _ _ _ _ _ _ _ _ w99 (Lib.hid hnew) HX9
  · refine plan_half (by rfl) (by kernel_rfl) ?_
    intro K hK
    refine wp_build_rk rnmT _ rfl x HXO.out (by show Value.agg _ = _; rw [HRX.out]) ?_
    have hal := (Below.refl w1.heap.size w1).alloc (Nat.le_refl _) (.cells (nmK.flat [x]).toArray 75)
    replace HO := Lib.hid (HO.out.next hal)
    replace HROW := Lib.hid (bl_row hal (lt_of_block HROW.out) HROW.out)
    replace HX := Lib.hid (bl_row hal (lt_of_block HX.out) HX.out)
    replace HPRE := Lib.hid (HPRE.out.below hal)
    replace HSUF := Lib.hid (HSUF.out.below hal)
    have HLT := Lib.hid (RK.At.of_row (K := nmK) (t := 75) (l := [x]) (heap_alloc_new w1 _) (fun y hy => by rw [List.mem_singleton.1 hy]; exact HXO.out))
    refine hK _ _ ⟨⟨HROW.out, HX.out⟩, ?_⟩
    clear hal hK K
    simp only [Act.put, List.setIfInBounds_toArray, List.set_cons_succ, List.set_cons_zero]
    generalize w1.alloc (.cells (nmK.flat [x]).toArray 75) = w11 at HROW HX HPRE HSUF HO HLT ⊢
    obtain ⟨gs, hgs⟩ : ∃ g, w1.heap.size = g := ⟨_, rfl⟩
    rw [hgs] at HLT ⊢
    clear hgs
    have HSL := HLT
    refine plan_us (by rfl) (by kernel_rfl) ?_
    intro K hK
    go_wp2_with fail
    have hal := (Below.refl w11.heap.size w11).alloc (Nat.le_refl _) (.cells #[] 75)
    have hee : (w11.alloc (.cells #[] 75)).ownsRow 0 75 nmK.N (.slice (some ⟨w11.heap.size, 0, none⟩) 0 0) 0 (nmK.flat []) := ⟨rfl, .inr ⟨_, 0, #[], rfl, Nat.zero_le _, heap_alloc_new w11 (.cells #[] 75), Nat.le_refl _, by unfold maxLen; omega, rfl, rfl⟩⟩
    have HGE : Hid (w.heap.size ≤ w11.heap.size) := Lib.hid HO.out.size
    replace HO := Lib.hid (HO.out.next hal)
    replace HROW := Lib.hid (bl_row hal (lt_of_block HROW.out) HROW.out)
    replace HX := Lib.hid (bl_row hal (lt_of_block HX.out) HX.out)
    replace HPRE := Lib.hid (HPRE.out.below hal)
    replace HSUF := Lib.hid (HSUF.out.below hal)
    replace HLT := Lib.hid (HLT.out.below hal)
    have HE := Lib.hid hee
    refine ⟨⟨HROW.out, HX.out⟩, ?_⟩
    clear hal hee
    (try change Plan.wp _ _ _ _ _ _ (w11.alloc (.cells #[] 75)))
    generalize w11.alloc (.cells #[] 75) = w12 at HROW HX HPRE HSUF HLT HO HE ⊢
    have HNS : Hid (gs ≠ w11.heap.size) := Lib.hid (Nat.ne_of_lt (HSL.out.lt _ rfl Nat.one_ne_zero))
    clear HSL
    obtain ⟨ge, hge⟩ : ∃ g, w11.heap.size = g := ⟨_, rfl⟩
    rw [hge] at HE HGE HNS ⊢
    clear hge
    refine plan_us (by rfl) (by kernel_rfl) ?_
    intro K hK
    refine wp_append_rk rnmT _ _ rfl 0 0 (.slice (some ⟨ge, 0, none⟩) 0 0) [] rfl HE.out _ i _ (S.L.take i) rfl HPRE.out (by omega) (Nat.zero_le _) ?_
    intro v' w13 ho2 hg2 hor
    replace HROW := Lib.hid (grown_row hg2 (fun e => own_ne HE.out HROW.out (by decide) e.symm) HROW.out)
    replace HX := Lib.hid (grown_row hg2 (fun e => by injection e with e; have e3 : gx = ge := e; have := HGXL.out; have := HGE.out; omega) HX.out)
    replace HSUF := Lib.hid (HSUF.out.grown hg2 (fun y hy e => by injection e with e; rw [HDA.out y hy] at e; have e3 : ab = ge := e; have := HAB0.out; have := HGE.out; omega))
    have hgz : w.heap.size ≤ w12.heap.size := HO.out.size
    replace HO := Lib.hid (HO.out.fresh hg2 HGE.out)
    replace HLT := Lib.hid (HLT.out.grown hg2 (fun x hx e => by injection hx with hx; subst hx; injection e with e; exact HNS.out e))
    obtain ⟨ab2, ac2, rfl, _⟩ := sl_own ho2
    simp only [Nat.zero_add] at ho2 hor hK ⊢
    rw [List.nil_append] at ho2
    replace HE := Lib.hid ho2
    have HAB : Hid (∀ x, ab2 = some x → w.heap.size ≤ x.block ∧ (x.block = ge ∨ x.block = w12.heap.size)) := Lib.hid (fun x hx => by subst hx; rcases hor with e | e <;> (have e2 : some x.block = some _ := e; injection e2 with e2; rw [e2]); exact ⟨HGE.out, .inl rfl⟩; exact ⟨hgz, .inr rfl⟩)
    clear ho2 hor hg2 hgz HPRE
    refine hK _ _ ⟨⟨HROW.out, HX.out⟩, ?_⟩
    clear hK K
    simp only [Act.put, List.setIfInBounds_toArray, List.set_cons_succ, List.set_cons_zero]
    refine plan_us (by rfl) (by kernel_rfl) ?_
    intro K hK
    refine wp_append_rk rnmT _ _ rfl 0 i (.slice ab2 i ac2) (S.L.take i) rfl HE.out _ 1 1 [x] rfl HLT.out (by omega) (Nat.zero_le _) ?_
    intro v' w14 ho2 hg2 hor
    have hgz : w.heap.size ≤ w13.heap.size := HO.out.size
    replace HROW := Lib.hid (grown_row hg2 (fun e => own_ne HE.out HROW.out (by decide) e.symm) HROW.out)
    replace HX := Lib.hid (grown_row hg2 (fun e => by cases ab2 with | none => cases e | some y => have e2 : some gx = some y.block := e; injection e2 with e2; have := HGXL.out; have := (HAB.out y rfl).1; omega) HX.out)
    replace HO := Lib.hid (HO.out.freshS hg2 (fun x hx => (HAB.out x hx).1))
    obtain ⟨ab3, ac3, rfl, _⟩ := sl_own ho2
    replace HE := Lib.hid ho2
    have HAC : Hid (∀ x, ab3 = some x → w.heap.size ≤ x.block) := Lib.hid (fun x hx => by subst hx; rcases hor with e | e; (cases ab2 with | none => cases e | some y => have e2 : some x.block = some y.block := e; injection e2 with e2; rw [e2]; exact (HAB.out y rfl).1); (have e2 : some x.block = some _ := e; injection e2 with e2; rw [e2]; exact hgz))
    replace HSUF := Lib.hid (HSUF.out.grown hg2 (fun y hy e => by cases ab2 with | none => cases e | some z => (have e2 : some y.block = some z.block := e; injection e2 with e2; rw [HDA.out y hy] at e2; have := HAB0.out; have := (HAB.out z rfl).1; omega)))
    clear ho2 hor hg2 hgz HLT HAB
    refine hK _ _ ⟨⟨HROW.out, HX.out⟩, ?_⟩
    clear hK K
    simp only [Act.put, List.setIfInBounds_toArray, List.set_cons_succ, List.set_cons_zero]
    refine plan_us (by rfl) (by kernel_rfl) ?_
    intro K hK
    refine wp_append_rk rnmT _ _ rfl 0 (i + 1) (.slice ab3 (i + 1) ac3) (S.L.take i ++ [x]) rfl HE.out dsx (n - i) _ (S.L.drop i) rfl HSUF.out (by omega) (Nat.zero_le _) ?_
    intro v' w15 ho2 hg2 hor
    have hgz : w.heap.size ≤ w14.heap.size := HO.out.size
    replace HROW := Lib.hid (grown_row hg2 (fun e => own_ne HE.out HROW.out (by decide) e.symm) HROW.out)
    replace HX := Lib.hid (grown_row hg2 (fun e => by cases ab3 with | none => cases e | some y => have e2 : some gx = some y.block := e; injection e2 with e2; have := HGXL.out; have := HAC.out y rfl; omega) HX.out)
    replace HO := Lib.hid (HO.out.freshS hg2 (fun x hx => HAC.out x hx))
    obtain ⟨ab4, ac4, rfl, _⟩ := sl_own ho2
    have hie : i + 1 + (n - i) = n + 1 := by omega
    rw [hie] at ho2 ⊢
    replace HE := Lib.hid ho2
    have HAD : Hid (∀ x, ab4 = some x → w.heap.size ≤ x.block) := Lib.hid (fun x hx => by subst hx; rcases hor with e | e; (cases ab3 with | none => cases e | some y => have e2 : some x.block = some y.block := e; injection e2 with e2; rw [e2]; exact HAC.out y rfl); (have e2 : some x.block = some _ := e; injection e2 with e2; rw [e2]; exact hgz))
    skip
    clear ho2 hor hg2 hgz HSUF HAC
    refine hK _ _ ⟨⟨HROW.out, HX.out⟩, ?_⟩
    clear hK K
    simp only [Act.put, List.setIfInBounds_toArray, List.set_cons_succ, List.set_cons_zero]
    clear hne
    refine ⟨fun _ => True, trivial, ?_⟩
    haveI hne : Nonempty (In (fun _ => True)) := ⟨⟨w15, trivial⟩⟩
    repeat (first | (refine plan_t (by rfl) ?_; (first | go_big_quiet_skip | (go_big_quiet_want; go_big_quiet_op; go_big_quiet_on)); refine wpQuiet_nil ?_))
    refine plan_us (by rfl) (by kernel_rfl) ?_
    intro K hK
    have hcell := cell_row HROW.out 0 _ (rtRow_0 ..)
    have f0 := row_free HROW.out 0
    go_wp2_with fail
    clear hcell f0
    have hgs := grown_setCell w15 p 0 (.slice ab4 (n + 1) ac4)
    have hrs := row_setL HROW.out 0 (.slice ab4 (n + 1) ac4)
    rw [rtRow_set0] at hrs
    have ho9 := HO.out.setCell (k := 0) (List.mem_singleton.2 rfl) (.slice ab4 (n + 1) ac4)
    have he9 := own_grown HE.out hgs (fun g hg e => own_ne HE.out HROW.out (by decide) (hg.trans e))
    have hx9 := grown_row hgs (row_ne HX.out HROW.out (by decide)) HX.out
    have HE9 := Lib.hid he9; have HO9 := Lib.hid ho9; have HR9 := Lib.hid hrs; have HX9 := Lib.hid hx9
    clear hgs hrs ho9 he9 hx9
    generalize w15.setCell ⟨p, 0, none⟩ (.slice ab4 (n + 1) ac4) = w99 at HE9 HO9 HR9 HX9 ⊢
    try refine ⟨trivial, ?_⟩
    clear hne
    simp only [Plan.wp]
    have hle : (S.L.take i ++ x :: S.L.drop i).length = n + 1 := by simp [HN.out]; omega
    have hokl : ∀ y ∈ S.L.take i ++ x :: S.L.drop i, nmK.ok y := fun y hy => by rcases List.mem_append.1 hy with hy | hy; exact HCK.out y (List.mem_of_mem_take hy); rcases List.mem_cons.1 hy with rfl | hy; exact HXO.out; exact HCK.out y (List.mem_of_mem_drop hy)
    obtain ⟨_, _, e0, hc1, hc2⟩ := sl_own HE9.out
    injection e0 with e0 e1 e2; subst e2
    have hnew : RtU w p B w99 (N + 1) ⟨S.L.take i ++ x :: S.L.drop i, S.came, S.due, S.was, S.now⟩ := HT.out.newl HO9.out (by rw [hle]; exact HR9.out) (by rw [hle]; exact RK.At.of_own (by have h9 := HE9.out; rwa [List.append_assoc] at h9) hokl) (by rw [hle]; exact ⟨hc1, hc2⟩) (fun y hy => ⟨HAD.out y hy, by subst hy; exact own_ltS HE9.out rfl, by subst hy; exact own_addr HE9.out⟩) ⟨by omega, by rw [hle]; omega⟩
    show Q _ _ _
    exact HK.out _ _ _ _ _ _ _ _ _ _ _ _ _ _ _ _ _ _ _ _ _ w99 (Lib.hid hnew) HX9
end Go.Proofs.Ytjdcmhclamjcjaa
namespace Go.Proofs.Ytjdcmhclamjcjaa
open Go.RowKit
set_option linter.unusedVariables false
set_option linter.unusedSimpArgs false

theorem pw_eq {α β : Type} {f : α → β} {C : List α} (h : C.Pairwise (fun x y => f x ≠ f y)) {x y : α} (hx : x ∈ C) (hy : y ∈ C) (e : f x = f y) : x = y := by
  induction C with
  | nil => cases hx
  | cons z C ih =>
    obtain ⟨h1, h2⟩ := List.pairwise_cons.1 h
    rcases List.mem_cons.1 hx with e1 | hx
    · rcases List.mem_cons.1 hy with e2 | hy
      · rw [e1, e2]
      · rw [e1] at e; exact absurd e (h1 y hy)
    · rcases List.mem_cons.1 hy with e2 | hy
      · rw [e2] at e; exact absurd e.symm (h1 x hx)
      · exact ih h2 hx hy
theorem look_of {S : Th} (ti : TI S) {y : Nm} (hy : y ∈ S.came) : lookN S.came y.1 = some y.2 ∧ lookS S.came y.2 = some y.1 := by
  constructor
  · cases h : lookN S.came y.1 with
    | none => exact absurd rfl (lookN_none h y hy)
    | some d => rw [← pw_eq (f := Prod.fst) ti.n1 (lookN_some h) hy rfl]
  · cases h : lookS S.came y.2 with
    | none => exact absurd rfl (lookS_none h y hy)
    | some d => rw [← pw_eq (f := Prod.snd) ti.n2 (lookS_some h) hy rfl]
theorem bad_of {S : Th} (ti : TI S) (k : Int) {se : Int} {c : List Int} {y : Nm} (hy : y ∈ S.came) (h : decide (y.1 = se) ≠ decide (y.2 = c)) : badB S k se c = true := by
  obtain ⟨h1, h2⟩ := look_of ti hy
  unfold badB
  by_cases e1 : y.1 = se
  · have e2 : y.2 ≠ c := fun e2 => h (by simp [e1, e2])
    rw [e1] at h1; rw [h1]; simp [e2]
  · have e2 : y.2 = c := by
      cases hd : decide (y.2 = c) with
      | true => simpa using hd
      | false => exact absurd (by rw [hd]; simpa using e1) h
    rw [e2] at h2; rw [h2]; simp [e1]
theorem bad_none {S : Th} {se : Int} {c : List Int} (h : ∀ y ∈ S.came, decide (y.1 = se) = decide (y.2 = c)) : badB S 24 se c = false := by
  unfold badB
  have k1 : ∀ d, lookN S.came se = some d → d = c := fun d e => by have := h _ (lookN_some e); simpa using this
  have k2 : ∀ q, lookS S.came c = some q → q = se := fun q e => by have := h _ (lookS_some e); simpa using this
  cases e1 : lookN S.came se with
  | none =>
    cases e2 : lookS S.came c with
    | none => rfl
    | some q => simp [k2 q e2]
  | some d =>
    cases e2 : lookS S.came c with
    | none => simp [k1 d e1]
    | some q => simp [k1 d e1, k2 q e2]
theorem bad_kind {S : Th} {k se : Int} {c : List Int} (h : k ≠ 24) : badB S k se c = true := by unfold badB; simp [h]
theorem has_look (C : List Nm) (se : Int) : (lookN C se).isSome = C.any (fun y => decide (y.1 = se)) := by
  unfold lookN
  rw [Option.isSome_map]
  induction C with
  | nil => rfl
  | cons y C ih => simp only [List.find?_cons, List.any_cons]; cases decide (y.1 = se) <;> simp [ih]
end Go.Proofs.Ytjdcmhclamjcjaa
namespace Go.Proofs.Ytjdcmhclamjcjaa
open Go.RowKit
set_option linter.unusedVariables false
set_option linter.unusedSimpArgs false

set_option maxRecDepth 100000 in
set_option maxHeartbeats 4000000 in
theorem ron_see {x1 x2 x4 x5 x7 x8 x9 x10 x11 x12 x13 x14 x15 x16 x17 x18 x19 x20 x21 x22 x23 x24 x25 x26 x27 x28 x29 x30 x31 x32 x33 x34 x35 x36 x37 x38 x39 x40 x41 x42 x43 x44 x45 x46 x47 x48 x49 x50 x51 x52 x53 x54 x55 x56 x57 x58 x59 x60 x61 x62 x63 x64 x65 x66 x67 x68 x69 x70 x71 x72 x73 x74 x75 x76 x77 x78 x79 x80 x81 x82 x83 x84 x85 x86 x87 x88 x89 x90 x91 x92 x93 x94 x95 x96 x97 x98 x99 x100 x101 x102 x103 x104 x105 x106 x107 x108 x109 x110 x111 x112 x113 x114 x115 x116 x117 x118 x119 x120 x121 x122 x123 x124 x125 x126 x127 x128 x129 x130 x131 x132 x133 x134 x135 x136 x137 x138 x139 x140 x141 x142 x143 x144 x145 x146 x147 x148 x149 x150 x151 x152 x153 x154 x155 x156 x157 x158 x159 x160 x161 x162 x163 x164 x165 x166 x167 x168 x169 x170 x171 x172 x173 x174 x175 : Value} {p gf N i : Nat} {B : List Nat} {S : Th} {h : RH} {d se : Int} {e c : List Int} {RF : List Value} (w : World) {Q : Exit → Act → World → Prop}
    (HT : Hid (RtAt w p B N S h)) (HF : Hid (w.heap[gf]? = some (.cells RF.toArray 53 (0, 0)))) (HF8 : Hid (RF[8]? = some (.int .u64 se))) (HFC : Hid (∀ (j : Nat) (v : Value), (c.map (Value.int .u8))[j]? = some v → RF[11 + j]? = some v)) (HCO : Hid (cidOk c)) (hse : U64 se) (HX : Hid (S.came[i]? = some (d, e)))
    (hQp : ∀ c a d v w, Q (.panic c) (a.put d v) w → Q (.panic c) a w)
    (hQ : ∀ (y25 y26 y27 y28 y29 y30 y31 y32 y33 y34 y35 y36 y37 y38 y39 y40 y41 y42 y43 y44 y45 y46 : Value) (w' : World), Hid (Below w.heap.size w w') → Q .normal ⟨List.toArray (.pointer (some ⟨p, 0, none⟩) :: x1 :: x2 :: .pointer (some ⟨gf, 0, none⟩) :: x4 :: x5 :: .int .i64 i :: .bool (d == se) :: .bool (e == c) :: x9 :: x10 :: x11 :: x12 :: x13 :: x14 :: x15 :: x16 :: x17 :: x18 :: x19 :: x20 :: x21 :: x22 :: x23 :: x24 :: y25 :: y26 :: y27 :: y28 :: y29 :: y30 :: y31 :: y32 :: y33 :: y34 :: y35 :: y36 :: y37 :: y38 :: y39 :: y40 :: y41 :: y42 :: y43 :: y44 :: y45 :: y46 :: x47 :: x48 :: x49 :: x50 :: x51 :: x52 :: x53 :: x54 :: x55 :: x56 :: x57 :: x58 :: x59 :: x60 :: x61 :: x62 :: x63 :: x64 :: x65 :: x66 :: x67 :: x68 :: x69 :: x70 :: x71 :: x72 :: x73 :: x74 :: x75 :: x76 :: x77 :: x78 :: x79 :: x80 :: x81 :: x82 :: x83 :: x84 :: x85 :: x86 :: x87 :: x88 :: x89 :: x90 :: x91 :: x92 :: x93 :: x94 :: x95 :: x96 :: x97 :: x98 :: x99 :: x100 :: x101 :: x102 :: x103 :: x104 :: x105 :: x106 :: x107 :: x108 :: x109 :: x110 :: x111 :: x112 :: x113 :: x114 :: x115 :: x116 :: x117 :: x118 :: x119 :: x120 :: x121 :: x122 :: x123 :: x124 :: x125 :: x126 :: x127 :: x128 :: x129 :: x130 :: x131 :: x132 :: x133 :: x134 :: x135 :: x136 :: x137 :: x138 :: x139 :: x140 :: x141 :: x142 :: x143 :: x144 :: x145 :: x146 :: x147 :: x148 :: x149 :: x150 :: x151 :: x152 :: x153 :: x154 :: x155 :: x156 :: x157 :: x158 :: x159 :: x160 :: x161 :: x162 :: x163 :: x164 :: x165 :: x166 :: x167 :: x168 :: x169 :: x170 :: x171 :: x172 :: x173 :: x174 :: x175 :: []), []⟩ w') :
    Code.wp Try.prog (((Try.f17.body.bind (subRegion 7)).getD .skip)) Q ⟨List.toArray (.pointer (some ⟨p, 0, none⟩) :: x1 :: x2 :: .pointer (some ⟨gf, 0, none⟩) :: x4 :: x5 :: .int .i64 i :: x7 :: x8 :: x9 :: x10 :: x11 :: x12 :: x13 :: x14 :: x15 :: x16 :: x17 :: x18 :: x19 :: x20 :: x21 :: x22 :: x23 :: x24 :: x25 :: x26 :: x27 :: x28 :: x29 :: x30 :: x31 :: x32 :: x33 :: x34 :: x35 :: x36 :: x37 :: x38 :: x39 :: x40 :: x41 :: x42 :: x43 :: x44 :: x45 :: x46 :: x47 :: x48 :: x49 :: x50 :: x51 :: x52 :: x53 :: x54 :: x55 :: x56 :: x57 :: x58 :: x59 :: x60 :: x61 :: x62 :: x63 :: x64 :: x65 :: x66 :: x67 :: x68 :: x69 :: x70 :: x71 :: x72 :: x73 :: x74 :: x75 :: x76 :: x77 :: x78 :: x79 :: x80 :: x81 :: x82 :: x83 :: x84 :: x85 :: x86 :: x87 :: x88 :: x89 :: x90 :: x91 :: x92 :: x93 :: x94 :: x95 :: x96 :: x97 :: x98 :: x99 :: x100 :: x101 :: x102 :: x103 :: x104 :: x105 :: x106 :: x107 :: x108 :: x109 :: x110 :: x111 :: x112 :: x113 :: x114 :: x115 :: x116 :: x117 :: x118 :: x119 :: x120 :: x121 :: x122 :: x123 :: x124 :: x125 :: x126 :: x127 :: x128 :: x129 :: x130 :: x131 :: x132 :: x133 :: x134 :: x135 :: x136 :: x137 :: x138 :: x139 :: x140 :: x141 :: x142 :: x143 :: x144 :: x145 :: x146 :: x147 :: x148 :: x149 :: x150 :: x151 :: x152 :: x153 :: x154 :: x155 :: x156 :: x157 :: x158 :: x159 :: x160 :: x161 :: x162 :: x163 :: x164 :: x165 :: x166 :: x167 :: x168 :: x169 :: x170 :: x171 :: x172 :: x173 :: x174 :: x175 :: []), []⟩ w := by
  have HK := Lib.hid hQ; have HKP := Lib.hid hQp
  clear hQ hQp
  conv => arg 2; whnf
  have HROW := Lib.hid HT.out.row
  have HCM := Lib.hid HT.out.c
  obtain ⟨ca, hca⟩ : ∃ a, h.ca = a := ⟨_, rfl⟩
  obtain ⟨cc, hcc⟩ : ∃ a, h.cc = a := ⟨_, rfl⟩
  rw [hca] at HROW HCM; rw [hcc] at HROW
  obtain ⟨n, hn⟩ : ∃ n, S.came.length = n := ⟨_, rfl⟩
  have hlt := lt_of_get HX.out
  rw [hn] at HROW HCM hlt
  clear hca hcc hn
  obtain ⟨ab, ao, y, rfl, _, hx, hok, hrg⟩ := HCM.out.at hlt
  rw [HX.out] at hx; injection hx with hx; subst hx
  have HOK := Lib.hid hok
  have hxu := hok.1
  simp only at hxu
  obtain ⟨RX, hRX⟩ : ∃ R, nmK.enc (d, e) = R := ⟨_, rfl⟩
  have HRX := Lib.hid hRX
  rw [hRX] at hrg
  have HRG := Lib.hid hrg
  clear hok hrg hRX HCM
  have hq0 : w.cell? ⟨ab, ao + i * 9, none⟩ = some (.int .u64 d) := by have h9 := HRG.out 0 _ (nm_head HRX.out); rw [Nat.add_zero] at h9; exact h9
  have hq1 : w.rangeAt ab (ao + i * 9 + 1) (e.map (Value.int .u8)) := fun j v hv => by have h9 := HRG.out (1 + j) v (nm_tail HRX.out j v hv); rw [← Nat.add_assoc] at h9; exact h9
  have he8 : (e.map (Value.int .u8)).length = 8 := by simp [HOK.out.2.1]
  have hc8 : (c.map (Value.int .u8)).length = 8 := by simp [HCO.out.1]
  obtain ⟨EX, hEX⟩ : ∃ C, e.map (Value.int .u8) = C := ⟨_, rfl⟩
  obtain ⟨CX, hCX⟩ : ∃ C, c.map (Value.int .u8) = C := ⟨_, rfl⟩
  have HEX := Lib.hid hEX; have HCX := Lib.hid hCX
  rw [hEX] at he8 hq1; rw [hCX] at hc8 HFC
  have HE8 := Lib.hid he8; have HC8 := Lib.hid hc8; have HQ0 := Lib.hid hq0; have HQ1 := Lib.hid hq1
  clear he8 hc8 hq0 hq1 hEX hCX HRG
  have g0 : ∀ z : In (fun y => y.heap[p]? = some (.cells (rtRow (.slice h.la S.L.length h.lc) (.slice (some ⟨ab, ao, none⟩) n cc) (.slice h.ra S.due.length h.rc) (.slice h.wa S.was.length h.wc) S.now).toArray RTT (0, 0)) ∧ y.heap[gf]? = some (.cells RF.toArray 53 (0, 0)) ∧ y.cell? ⟨ab, ao + i * 9, none⟩ = some (.int .u64 d) ∧ y.rangeAt ab (ao + i * 9 + 1) EX), z.w.cell? ⟨p, 1, none⟩ = some (.slice (some ⟨ab, ao, none⟩) n cc) := fun z => cell_row z.h.1 1 _ (rtRow_1 ..)
  have g1 : ∀ z : In (fun y => y.heap[p]? = some (.cells (rtRow (.slice h.la S.L.length h.lc) (.slice (some ⟨ab, ao, none⟩) n cc) (.slice h.ra S.due.length h.rc) (.slice h.wa S.was.length h.wc) S.now).toArray RTT (0, 0)) ∧ y.heap[gf]? = some (.cells RF.toArray 53 (0, 0)) ∧ y.cell? ⟨ab, ao + i * 9, none⟩ = some (.int .u64 d) ∧ y.rangeAt ab (ao + i * 9 + 1) EX), z.w.cell? ⟨gf, 8, none⟩ = some (.int .u64 se) := fun z => cell_row z.h.2.1 8 _ HF8.out
  have g2 : ∀ z : In (fun y => y.heap[p]? = some (.cells (rtRow (.slice h.la S.L.length h.lc) (.slice (some ⟨ab, ao, none⟩) n cc) (.slice h.ra S.due.length h.rc) (.slice h.wa S.was.length h.wc) S.now).toArray RTT (0, 0)) ∧ y.heap[gf]? = some (.cells RF.toArray 53 (0, 0)) ∧ y.cell? ⟨ab, ao + i * 9, none⟩ = some (.int .u64 d) ∧ y.rangeAt ab (ao + i * 9 + 1) EX), z.w.cell? ⟨ab, ao + i * 9, none⟩ = some (.int .u64 d) := fun z => z.h.2.2.1
  refine wp_plan (.t 0 (.t 1 (.t 2 (.t 3 (.t 4 (.t 5 (.t 6 (.t 7 (.t 8 (.t 9 (.t 10 (.t 11 (.t 12 (.t 13 (.t 14 (.t 15 (.t 16 (.t 17 (.t 18 (.t 19 (.t 20 (.t 21 (.t 22 (.t 23 .done)))))))))))))))))))))))) (fun y => y.heap[p]? = some (.cells (rtRow (.slice h.la S.L.length h.lc) (.slice (some ⟨ab, ao, none⟩) n cc) (.slice h.ra S.due.length h.rc) (.slice h.wa S.was.length h.wc) S.now).toArray RTT (0, 0)) ∧ y.heap[gf]? = some (.cells RF.toArray 53 (0, 0)) ∧ y.cell? ⟨ab, ao + i * 9, none⟩ = some (.int .u64 d) ∧ y.rangeAt ab (ao + i * 9 + 1) EX) (by kernel_rfl) (by kernel_rfl) (by kernel_rfl) (fun c a d v w h => by first | (cases d <;> exact h) | exact HKP.out c a d v w h) ⟨HROW.out, HF.out, HQ0.out, HQ1.out⟩ ?_
  haveI hne : Nonempty (In (fun y => y.heap[p]? = some (.cells (rtRow (.slice h.la S.L.length h.lc) (.slice (some ⟨ab, ao, none⟩) n cc) (.slice h.ra S.due.length h.rc) (.slice h.wa S.was.length h.wc) S.now).toArray RTT (0, 0)) ∧ y.heap[gf]? = some (.cells RF.toArray 53 (0, 0)) ∧ y.cell? ⟨ab, ao + i * 9, none⟩ = some (.int .u64 d) ∧ y.rangeAt ab (ao + i * 9 + 1) EX)) := ⟨⟨w, ⟨HROW.out, HF.out, HQ0.out, HQ1.out⟩⟩⟩
  repeat (first | (refine plan_t_load (by rfl) (by kernel_rfl) 38 _ rfl ab (ao + i * 9 + 1) rfl EX _ (fun y hy => hy.2.2.2) Try.underlying38 rfl (by rw [HE8.out]; rfl) ?_; simp only [Act.put, List.setIfInBounds_toArray, List.set_cons_succ, List.set_cons_zero]) | (refine plan_t_load (by rfl) (by kernel_rfl) 38 _ rfl gf 11 rfl CX _ (fun y hy => rng_row hy.2.1 11 _ HFC.out) Try.underlying38 rfl (by rw [HC8.out]; rfl) ?_; simp only [Act.put, List.setIfInBounds_toArray, List.set_cons_succ, List.set_cons_zero]) | (refine plan_t_eql_cid (by rfl) (by kernel_rfl) _ _ _ rfl e c (by rw [HEX.out]; rfl) (by rw [HCX.out]; rfl) HOK.out.2 HCO.out ?_; simp only [Act.put, List.setIfInBounds_toArray, List.set_cons_succ, List.set_cons_zero]) | (refine plan_t (by rfl) ?_; (first | go_big_quiet_skip | (go_big_quiet_want; go_big_quiet_op; go_big_quiet_on)); refine wpQuiet_nil ?_))
  clear hne g0 g1 g2
  show Q _ _ _
  exact HK.out _ _ _ _ _ _ _ _ _ _ _ _ _ _ _ _ _ _ _ _ _ _ w.drew (Lib.hid (Below.refl w.heap.size w).drew)
end Go.Proofs.Ytjdcmhclamjcjaa
namespace Go.Proofs.Ytjdcmhclamjcjaa
open Go.RowKit
set_option linter.unusedVariables false
set_option linter.unusedSimpArgs false

set_option maxRecDepth 100000 in
set_option maxHeartbeats 4000000 in
theorem ron_less {x1 x2 x3 x4 x5 x6 x7 x8 x11 x12 x13 x14 x15 x16 x17 x18 x19 x20 x21 x22 x23 x24 x25 x26 x27 x28 x29 x30 x31 x32 x33 x34 x35 x36 x37 x38 x39 x40 x41 x42 x43 x44 x45 x46 x47 x48 x49 x50 x51 x52 x53 x54 x55 x56 x57 x58 x59 x60 x61 x62 x63 x64 x65 x66 x67 x68 x69 x70 x71 x72 x73 x74 x75 x76 x77 x78 x79 x80 x81 x82 x83 x84 x85 x86 x87 x88 x89 x90 x91 x92 x93 x94 x95 x96 x97 x98 x99 x100 x101 x102 x103 x104 x105 x106 x107 x108 x109 x110 x111 x112 x113 x114 x115 x116 x117 x118 x119 x120 x121 x122 x123 x124 x125 x126 x127 x128 x129 x130 x131 x132 x133 x134 x135 x136 x137 x138 x139 x140 x141 x142 x143 x144 x145 x146 x147 x148 x149 x150 x151 x152 x153 x154 x155 x156 x157 x158 x159 x160 x161 x162 x163 x164 x165 x166 x167 x168 x169 x170 x171 x172 x173 x174 x175 : Value} {p gx N i : Nat} {B : List Nat} {S : Th} {h : RH} {d q : Int} {e : List Int} {RX : List Value} (w : World) {Q : Exit → Act → World → Prop}
    (HT : Hid (RtAt w p B N S h)) (HG : Hid (w.heap[gx]? = some (.cells RX.toArray 75 (0, 0)))) (HG0 : Hid (RX[0]? = some (.int .u64 q))) (hq : U64 q) (hnb : N < 90000) (HX : Hid (S.L[i]? = some (d, e))) (hds : d < q)
    (hQp : ∀ c a d v w, Q (.panic c) (a.put d v) w → Q (.panic c) a w)
    (hQ : ∀ (y77 y78 y79 y80 y81 y82 y83 y84 y85 y86 y87 y88 y89 y90 y91 y92 y93 y94 y95 : Value) (w' : World), Hid (Below w.heap.size w w') → Q .normal ⟨List.toArray (.pointer (some ⟨p, 0, none⟩) :: x1 :: x2 :: x3 :: x4 :: x5 :: x6 :: x7 :: x8 :: .pointer (some ⟨gx, 0, none⟩) :: .int .i64 i :: x11 :: x12 :: x13 :: x14 :: x15 :: x16 :: x17 :: x18 :: x19 :: x20 :: x21 :: x22 :: x23 :: x24 :: x25 :: x26 :: x27 :: x28 :: x29 :: x30 :: x31 :: x32 :: x33 :: x34 :: x35 :: x36 :: x37 :: x38 :: x39 :: x40 :: x41 :: x42 :: x43 :: x44 :: x45 :: x46 :: x47 :: x48 :: x49 :: x50 :: x51 :: x52 :: x53 :: x54 :: x55 :: x56 :: x57 :: x58 :: x59 :: x60 :: x61 :: x62 :: x63 :: x64 :: x65 :: x66 :: x67 :: x68 :: x69 :: x70 :: x71 :: x72 :: x73 :: x74 :: x75 :: x76 :: y77 :: y78 :: y79 :: y80 :: y81 :: y82 :: y83 :: y84 :: y85 :: y86 :: y87 :: y88 :: y89 :: y90 :: y91 :: y92 :: y93 :: y94 :: y95 :: .bool true :: x97 :: x98 :: x99 :: x100 :: x101 :: x102 :: x103 :: x104 :: x105 :: x106 :: x107 :: x108 :: x109 :: x110 :: x111 :: x112 :: x113 :: x114 :: x115 :: x116 :: x117 :: x118 :: x119 :: x120 :: x121 :: x122 :: x123 :: x124 :: x125 :: x126 :: x127 :: x128 :: x129 :: x130 :: x131 :: x132 :: x133 :: x134 :: x135 :: x136 :: x137 :: x138 :: x139 :: x140 :: x141 :: x142 :: x143 :: x144 :: x145 :: x146 :: x147 :: x148 :: x149 :: x150 :: x151 :: x152 :: x153 :: x154 :: x155 :: x156 :: x157 :: x158 :: x159 :: x160 :: x161 :: x162 :: x163 :: x164 :: x165 :: x166 :: x167 :: x168 :: x169 :: x170 :: x171 :: x172 :: x173 :: x174 :: x175 :: []), []⟩ w') :
    Code.wp Try.prog (((Try.f17.body.bind (subRegion 18)).getD .skip)) Q ⟨List.toArray (.pointer (some ⟨p, 0, none⟩) :: x1 :: x2 :: x3 :: x4 :: x5 :: x6 :: x7 :: x8 :: .pointer (some ⟨gx, 0, none⟩) :: .int .i64 i :: x11 :: x12 :: x13 :: x14 :: x15 :: x16 :: x17 :: x18 :: x19 :: x20 :: x21 :: x22 :: x23 :: x24 :: x25 :: x26 :: x27 :: x28 :: x29 :: x30 :: x31 :: x32 :: x33 :: x34 :: x35 :: x36 :: x37 :: x38 :: x39 :: x40 :: x41 :: x42 :: x43 :: x44 :: x45 :: x46 :: x47 :: x48 :: x49 :: x50 :: x51 :: x52 :: x53 :: x54 :: x55 :: x56 :: x57 :: x58 :: x59 :: x60 :: x61 :: x62 :: x63 :: x64 :: x65 :: x66 :: x67 :: x68 :: x69 :: x70 :: x71 :: x72 :: x73 :: x74 :: x75 :: x76 :: x77 :: x78 :: x79 :: x80 :: x81 :: x82 :: x83 :: x84 :: x85 :: x86 :: x87 :: x88 :: x89 :: x90 :: x91 :: x92 :: x93 :: x94 :: x95 :: x96 :: x97 :: x98 :: x99 :: x100 :: x101 :: x102 :: x103 :: x104 :: x105 :: x106 :: x107 :: x108 :: x109 :: x110 :: x111 :: x112 :: x113 :: x114 :: x115 :: x116 :: x117 :: x118 :: x119 :: x120 :: x121 :: x122 :: x123 :: x124 :: x125 :: x126 :: x127 :: x128 :: x129 :: x130 :: x131 :: x132 :: x133 :: x134 :: x135 :: x136 :: x137 :: x138 :: x139 :: x140 :: x141 :: x142 :: x143 :: x144 :: x145 :: x146 :: x147 :: x148 :: x149 :: x150 :: x151 :: x152 :: x153 :: x154 :: x155 :: x156 :: x157 :: x158 :: x159 :: x160 :: x161 :: x162 :: x163 :: x164 :: x165 :: x166 :: x167 :: x168 :: x169 :: x170 :: x171 :: x172 :: x173 :: x174 :: x175 :: []), []⟩ w := by
  have HK := Lib.hid hQ; have HKP := Lib.hid hQp
  clear hQ hQp
  conv => arg 2; whnf
  have HROW := Lib.hid HT.out.row
  have HCM := Lib.hid HT.out.l
  have hln := HT.out.len.1
  obtain ⟨ca, hca⟩ : ∃ a, h.la = a := ⟨_, rfl⟩
  obtain ⟨cc, hcc⟩ : ∃ a, h.lc = a := ⟨_, rfl⟩
  rw [hca] at HROW HCM; rw [hcc] at HROW
  obtain ⟨n, hn⟩ : ∃ n, S.L.length = n := ⟨_, rfl⟩
  have hlt := lt_of_get HX.out
  rw [hn] at HROW HCM hlt hln
  clear hca hcc hn
  obtain ⟨ab, ao, y, rfl, _, hx, hok, hrg⟩ := HCM.out.at hlt
  rw [HX.out] at hx; injection hx with hx; subst hx
  have hxu := hok.1
  simp only at hxu
  have hq0 : w.cell? ⟨ab, ao + i * 9, none⟩ = some (.int .u64 d) := by have h9 := hrg 0 _ rfl; rw [Nat.add_zero] at h9; exact h9
  have HQ0 := Lib.hid hq0
  clear hok hrg hq0 HCM
  have hgc := cell_row HG.out 0 _ HG0.out
  have HGC := Lib.hid hgc
  clear hgc
  have g0 : ∀ z : In (fun y => y.heap[p]? = some (.cells (rtRow (.slice (some ⟨ab, ao, none⟩) n cc) (.slice h.ca S.came.length h.cc) (.slice h.ra S.due.length h.rc) (.slice h.wa S.was.length h.wc) S.now).toArray RTT (0, 0)) ∧ y.cell? ⟨gx, 0, none⟩ = some (.int .u64 q) ∧ y.cell? ⟨ab, ao + i * 9, none⟩ = some (.int .u64 d)), z.w.cell? ⟨p, 0, none⟩ = some (.slice (some ⟨ab, ao, none⟩) n cc) := fun z => cell_row z.h.1 0 _ (rtRow_0 ..)
  have g1 : ∀ z : In (fun y => y.heap[p]? = some (.cells (rtRow (.slice (some ⟨ab, ao, none⟩) n cc) (.slice h.ca S.came.length h.cc) (.slice h.ra S.due.length h.rc) (.slice h.wa S.was.length h.wc) S.now).toArray RTT (0, 0)) ∧ y.cell? ⟨gx, 0, none⟩ = some (.int .u64 q) ∧ y.cell? ⟨ab, ao + i * 9, none⟩ = some (.int .u64 d)), z.w.cell? ⟨gx, 0, none⟩ = some (.int .u64 q) := fun z => z.h.2.1
  have g2 : ∀ z : In (fun y => y.heap[p]? = some (.cells (rtRow (.slice (some ⟨ab, ao, none⟩) n cc) (.slice h.ca S.came.length h.cc) (.slice h.ra S.due.length h.rc) (.slice h.wa S.was.length h.wc) S.now).toArray RTT (0, 0)) ∧ y.cell? ⟨gx, 0, none⟩ = some (.int .u64 q) ∧ y.cell? ⟨ab, ao + i * 9, none⟩ = some (.int .u64 d)), z.w.cell? ⟨ab, ao + i * 9, none⟩ = some (.int .u64 d) := fun z => z.h.2.2
  refine wp_plan (.t 0 (.t 1 (.t 2 (.t 3 (.t 4 (.t 5 (.t 6 (.t 7 (.t 8 (.t 9 (.t 10 (.t 11 (.t 12 (.t 13 (.t 14 (.t 15 (.t 16 (.t 17 (.t 18 (.t 19 .done)))))))))))))))))))) (fun y => y.heap[p]? = some (.cells (rtRow (.slice (some ⟨ab, ao, none⟩) n cc) (.slice h.ca S.came.length h.cc) (.slice h.ra S.due.length h.rc) (.slice h.wa S.was.length h.wc) S.now).toArray RTT (0, 0)) ∧ y.cell? ⟨gx, 0, none⟩ = some (.int .u64 q) ∧ y.cell? ⟨ab, ao + i * 9, none⟩ = some (.int .u64 d)) (by kernel_rfl) (by kernel_rfl) (by kernel_rfl) (fun c a d v w h => by first | (cases d <;> exact h) | exact HKP.out c a d v w h) ⟨HROW.out, HGC.out, HQ0.out⟩ ?_
  haveI hne : Nonempty (In (fun y => y.heap[p]? = some (.cells (rtRow (.slice (some ⟨ab, ao, none⟩) n cc) (.slice h.ca S.came.length h.cc) (.slice h.ra S.due.length h.rc) (.slice h.wa S.was.length h.wc) S.now).toArray RTT (0, 0)) ∧ y.cell? ⟨gx, 0, none⟩ = some (.int .u64 q) ∧ y.cell? ⟨ab, ao + i * 9, none⟩ = some (.int .u64 d))) := ⟨⟨w, ⟨HROW.out, HGC.out, HQ0.out⟩⟩⟩
  repeat (first | (refine plan_t (by rfl) ?_; (first | go_big_quiet_skip | (go_big_quiet_want; go_big_quiet_op; go_big_quiet_on)); refine wpQuiet_nil ?_))
  clear hne g0 g1 g2
  show Q _ _ _
  exact HK.out _ _ _ _ _ _ _ _ _ _ _ _ _ _ _ _ _ _ _ w.drew (Lib.hid (Below.refl w.heap.size w).drew)
set_option maxRecDepth 100000 in
set_option maxHeartbeats 4000000 in
theorem ron_notless {x1 x2 x3 x4 x5 x6 x7 x8 x11 x12 x13 x14 x15 x16 x17 x18 x19 x20 x21 x22 x23 x24 x25 x26 x27 x28 x29 x30 x31 x32 x33 x34 x35 x36 x37 x38 x39 x40 x41 x42 x43 x44 x45 x46 x47 x48 x49 x50 x51 x52 x53 x54 x55 x56 x57 x58 x59 x60 x61 x62 x63 x64 x65 x66 x67 x68 x69 x70 x71 x72 x73 x74 x75 x76 x77 x78 x79 x80 x81 x82 x83 x84 x85 x86 x87 x88 x89 x90 x91 x92 x93 x94 x95 x96 x97 x98 x99 x100 x101 x102 x103 x104 x105 x106 x107 x108 x109 x110 x111 x112 x113 x114 x115 x116 x117 x118 x119 x120 x121 x122 x123 x124 x125 x126 x127 x128 x129 x130 x131 x132 x133 x134 x135 x136 x137 x138 x139 x140 x141 x142 x143 x144 x145 x146 x147 x148 x149 x150 x151 x152 x153 x154 x155 x156 x157 x158 x159 x160 x161 x162 x163 x164 x165 x166 x167 x168 x169 x170 x171 x172 x173 x174 x175 : Value} {p gx N i : Nat} {B : List Nat} {S : Th} {h : RH} {d q : Int} {e : List Int} {RX : List Value} (w : World) {Q : Exit → Act → World → Prop}
    (HT : Hid (RtAt w p B N S h)) (HG : Hid (w.heap[gx]? = some (.cells RX.toArray 75 (0, 0)))) (HG0 : Hid (RX[0]? = some (.int .u64 q))) (hq : U64 q) (hnb : N < 90000) (HX : Hid (S.L[i]? = some (d, e))) (hds : ¬ d < q)
    (hQp : ∀ c a d v w, Q (.panic c) (a.put d v) w → Q (.panic c) a w)
    (hQ : ∀ (y77 y78 y79 y80 y81 y82 y83 y84 y85 y86 y87 y88 y89 y90 y91 y92 y93 y94 y95 : Value) (w' : World), Hid (Below w.heap.size w w') → Q .normal ⟨List.toArray (.pointer (some ⟨p, 0, none⟩) :: x1 :: x2 :: x3 :: x4 :: x5 :: x6 :: x7 :: x8 :: .pointer (some ⟨gx, 0, none⟩) :: .int .i64 i :: x11 :: x12 :: x13 :: x14 :: x15 :: x16 :: x17 :: x18 :: x19 :: x20 :: x21 :: x22 :: x23 :: x24 :: x25 :: x26 :: x27 :: x28 :: x29 :: x30 :: x31 :: x32 :: x33 :: x34 :: x35 :: x36 :: x37 :: x38 :: x39 :: x40 :: x41 :: x42 :: x43 :: x44 :: x45 :: x46 :: x47 :: x48 :: x49 :: x50 :: x51 :: x52 :: x53 :: x54 :: x55 :: x56 :: x57 :: x58 :: x59 :: x60 :: x61 :: x62 :: x63 :: x64 :: x65 :: x66 :: x67 :: x68 :: x69 :: x70 :: x71 :: x72 :: x73 :: x74 :: x75 :: x76 :: y77 :: y78 :: y79 :: y80 :: y81 :: y82 :: y83 :: y84 :: y85 :: y86 :: y87 :: y88 :: y89 :: y90 :: y91 :: y92 :: y93 :: y94 :: y95 :: .bool false :: x97 :: x98 :: x99 :: x100 :: x101 :: x102 :: x103 :: x104 :: x105 :: x106 :: x107 :: x108 :: x109 :: x110 :: x111 :: x112 :: x113 :: x114 :: x115 :: x116 :: x117 :: x118 :: x119 :: x120 :: x121 :: x122 :: x123 :: x124 :: x125 :: x126 :: x127 :: x128 :: x129 :: x130 :: x131 :: x132 :: x133 :: x134 :: x135 :: x136 :: x137 :: x138 :: x139 :: x140 :: x141 :: x142 :: x143 :: x144 :: x145 :: x146 :: x147 :: x148 :: x149 :: x150 :: x151 :: x152 :: x153 :: x154 :: x155 :: x156 :: x157 :: x158 :: x159 :: x160 :: x161 :: x162 :: x163 :: x164 :: x165 :: x166 :: x167 :: x168 :: x169 :: x170 :: x171 :: x172 :: x173 :: x174 :: x175 :: []), []⟩ w') :
    Code.wp Try.prog (((Try.f17.body.bind (subRegion 18)).getD .skip)) Q ⟨List.toArray (.pointer (some ⟨p, 0, none⟩) :: x1 :: x2 :: x3 :: x4 :: x5 :: x6 :: x7 :: x8 :: .pointer (some ⟨gx, 0, none⟩) :: .int .i64 i :: x11 :: x12 :: x13 :: x14 :: x15 :: x16 :: x17 :: x18 :: x19 :: x20 :: x21 :: x22 :: x23 :: x24 :: x25 :: x26 :: x27 :: x28 :: x29 :: x30 :: x31 :: x32 :: x33 :: x34 :: x35 :: x36 :: x37 :: x38 :: x39 :: x40 :: x41 :: x42 :: x43 :: x44 :: x45 :: x46 :: x47 :: x48 :: x49 :: x50 :: x51 :: x52 :: x53 :: x54 :: x55 :: x56 :: x57 :: x58 :: x59 :: x60 :: x61 :: x62 :: x63 :: x64 :: x65 :: x66 :: x67 :: x68 :: x69 :: x70 :: x71 :: x72 :: x73 :: x74 :: x75 :: x76 :: x77 :: x78 :: x79 :: x80 :: x81 :: x82 :: x83 :: x84 :: x85 :: x86 :: x87 :: x88 :: x89 :: x90 :: x91 :: x92 :: x93 :: x94 :: x95 :: x96 :: x97 :: x98 :: x99 :: x100 :: x101 :: x102 :: x103 :: x104 :: x105 :: x106 :: x107 :: x108 :: x109 :: x110 :: x111 :: x112 :: x113 :: x114 :: x115 :: x116 :: x117 :: x118 :: x119 :: x120 :: x121 :: x122 :: x123 :: x124 :: x125 :: x126 :: x127 :: x128 :: x129 :: x130 :: x131 :: x132 :: x133 :: x134 :: x135 :: x136 :: x137 :: x138 :: x139 :: x140 :: x141 :: x142 :: x143 :: x144 :: x145 :: x146 :: x147 :: x148 :: x149 :: x150 :: x151 :: x152 :: x153 :: x154 :: x155 :: x156 :: x157 :: x158 :: x159 :: x160 :: x161 :: x162 :: x163 :: x164 :: x165 :: x166 :: x167 :: x168 :: x169 :: x170 :: x171 :: x172 :: x173 :: x174 :: x175 :: []), []⟩ w := by
  have HK := Lib.hid hQ; have HKP := Lib.hid hQp
  clear hQ hQp
  conv => arg 2; whnf
  have HROW := Lib.hid HT.out.row
  have HCM := Lib.hid HT.out.l
  have hln := HT.out.len.1
  obtain ⟨ca, hca⟩ : ∃ a, h.la = a := ⟨_, rfl⟩
  obtain ⟨cc, hcc⟩ : ∃ a, h.lc = a := ⟨_, rfl⟩
  rw [hca] at HROW HCM; rw [hcc] at HROW
  obtain ⟨n, hn⟩ : ∃ n, S.L.length = n := ⟨_, rfl⟩
  have hlt := lt_of_get HX.out
  rw [hn] at HROW HCM hlt hln
  clear hca hcc hn
  obtain ⟨ab, ao, y, rfl, _, hx, hok, hrg⟩ := HCM.out.at hlt
  rw [HX.out] at hx; injection hx with hx; subst hx
  have hxu := hok.1
  simp only at hxu
  have hq0 : w.cell? ⟨ab, ao + i * 9, none⟩ = some (.int .u64 d) := by have h9 := hrg 0 _ rfl; rw [Nat.add_zero] at h9; exact h9
  have HQ0 := Lib.hid hq0
  clear hok hrg hq0 HCM
  have hgc := cell_row HG.out 0 _ HG0.out
  have HGC := Lib.hid hgc
  clear hgc
  have g0 : ∀ z : In (fun y => y.heap[p]? = some (.cells (rtRow (.slice (some ⟨ab, ao, none⟩) n cc) (.slice h.ca S.came.length h.cc) (.slice h.ra S.due.length h.rc) (.slice h.wa S.was.length h.wc) S.now).toArray RTT (0, 0)) ∧ y.cell? ⟨gx, 0, none⟩ = some (.int .u64 q) ∧ y.cell? ⟨ab, ao + i * 9, none⟩ = some (.int .u64 d)), z.w.cell? ⟨p, 0, none⟩ = some (.slice (some ⟨ab, ao, none⟩) n cc) := fun z => cell_row z.h.1 0 _ (rtRow_0 ..)
  have g1 : ∀ z : In (fun y => y.heap[p]? = some (.cells (rtRow (.slice (some ⟨ab, ao, none⟩) n cc) (.slice h.ca S.came.length h.cc) (.slice h.ra S.due.length h.rc) (.slice h.wa S.was.length h.wc) S.now).toArray RTT (0, 0)) ∧ y.cell? ⟨gx, 0, none⟩ = some (.int .u64 q) ∧ y.cell? ⟨ab, ao + i * 9, none⟩ = some (.int .u64 d)), z.w.cell? ⟨gx, 0, none⟩ = some (.int .u64 q) := fun z => z.h.2.1
  have g2 : ∀ z : In (fun y => y.heap[p]? = some (.cells (rtRow (.slice (some ⟨ab, ao, none⟩) n cc) (.slice h.ca S.came.length h.cc) (.slice h.ra S.due.length h.rc) (.slice h.wa S.was.length h.wc) S.now).toArray RTT (0, 0)) ∧ y.cell? ⟨gx, 0, none⟩ = some (.int .u64 q) ∧ y.cell? ⟨ab, ao + i * 9, none⟩ = some (.int .u64 d)), z.w.cell? ⟨ab, ao + i * 9, none⟩ = some (.int .u64 d) := fun z => z.h.2.2
  refine wp_plan (.t 0 (.t 1 (.t 2 (.t 3 (.t 4 (.t 5 (.t 6 (.t 7 (.t 8 (.t 9 (.t 10 (.t 11 (.t 12 (.t 13 (.t 14 (.t 15 (.t 16 (.t 17 (.t 18 (.t 19 .done)))))))))))))))))))) (fun y => y.heap[p]? = some (.cells (rtRow (.slice (some ⟨ab, ao, none⟩) n cc) (.slice h.ca S.came.length h.cc) (.slice h.ra S.due.length h.rc) (.slice h.wa S.was.length h.wc) S.now).toArray RTT (0, 0)) ∧ y.cell? ⟨gx, 0, none⟩ = some (.int .u64 q) ∧ y.cell? ⟨ab, ao + i * 9, none⟩ = some (.int .u64 d)) (by kernel_rfl) (by kernel_rfl) (by kernel_rfl) (fun c a d v w h => by first | (cases d <;> exact h) | exact HKP.out c a d v w h) ⟨HROW.out, HGC.out, HQ0.out⟩ ?_
  haveI hne : Nonempty (In (fun y => y.heap[p]? = some (.cells (rtRow (.slice (some ⟨ab, ao, none⟩) n cc) (.slice h.ca S.came.length h.cc) (.slice h.ra S.due.length h.rc) (.slice h.wa S.was.length h.wc) S.now).toArray RTT (0, 0)) ∧ y.cell? ⟨gx, 0, none⟩ = some (.int .u64 q) ∧ y.cell? ⟨ab, ao + i * 9, none⟩ = some (.int .u64 d))) := ⟨⟨w, ⟨HROW.out, HGC.out, HQ0.out⟩⟩⟩
  repeat (first | (refine plan_t (by rfl) ?_; (first | go_big_quiet_skip | (go_big_quiet_want; go_big_quiet_op; go_big_quiet_on)); refine wpQuiet_nil ?_))
  clear hne g0 g1 g2
  show Q _ _ _
  exact HK.out _ _ _ _ _ _ _ _ _ _ _ _ _ _ _ _ _ _ _ w.drew (Lib.hid (Below.refl w.heap.size w).drew)
set_option maxRecDepth 100000 in
set_option maxHeartbeats 4000000 in
theorem ron_end {x1 x2 x3 x4 x5 x6 x7 x8 x11 x12 x13 x14 x15 x16 x17 x18 x19 x20 x21 x22 x23 x24 x25 x26 x27 x28 x29 x30 x31 x32 x33 x34 x35 x36 x37 x38 x39 x40 x41 x42 x43 x44 x45 x46 x47 x48 x49 x50 x51 x52 x53 x54 x55 x56 x57 x58 x59 x60 x61 x62 x63 x64 x65 x66 x67 x68 x69 x70 x71 x72 x73 x74 x75 x76 x77 x78 x79 x80 x81 x82 x83 x84 x85 x86 x87 x88 x89 x90 x91 x92 x93 x94 x95 x96 x97 x98 x99 x100 x101 x102 x103 x104 x105 x106 x107 x108 x109 x110 x111 x112 x113 x114 x115 x116 x117 x118 x119 x120 x121 x122 x123 x124 x125 x126 x127 x128 x129 x130 x131 x132 x133 x134 x135 x136 x137 x138 x139 x140 x141 x142 x143 x144 x145 x146 x147 x148 x149 x150 x151 x152 x153 x154 x155 x156 x157 x158 x159 x160 x161 x162 x163 x164 x165 x166 x167 x168 x169 x170 x171 x172 x173 x174 x175 : Value} {p gx N i : Nat} {B : List Nat} {S : Th} {h : RH} {q : Int} {RX : List Value} (w : World) {Q : Exit → Act → World → Prop}
    (HT : Hid (RtAt w p B N S h)) (HG : Hid (w.heap[gx]? = some (.cells RX.toArray 75 (0, 0)))) (HG0 : Hid (RX[0]? = some (.int .u64 q))) (hq : U64 q) (hnb : N < 90000) (HE : Hid (i = S.L.length))
    (hQp : ∀ c a d v w, Q (.panic c) (a.put d v) w → Q (.panic c) a w)
    (hQ : ∀ (y77 y78 y79 y80 y81 y82 y83 y84 y85 y86 y87 y88 y89 y90 y91 y92 y93 y94 y95 : Value) (w' : World), Hid (Below w.heap.size w w') → Q .normal ⟨List.toArray (.pointer (some ⟨p, 0, none⟩) :: x1 :: x2 :: x3 :: x4 :: x5 :: x6 :: x7 :: x8 :: .pointer (some ⟨gx, 0, none⟩) :: .int .i64 i :: x11 :: x12 :: x13 :: x14 :: x15 :: x16 :: x17 :: x18 :: x19 :: x20 :: x21 :: x22 :: x23 :: x24 :: x25 :: x26 :: x27 :: x28 :: x29 :: x30 :: x31 :: x32 :: x33 :: x34 :: x35 :: x36 :: x37 :: x38 :: x39 :: x40 :: x41 :: x42 :: x43 :: x44 :: x45 :: x46 :: x47 :: x48 :: x49 :: x50 :: x51 :: x52 :: x53 :: x54 :: x55 :: x56 :: x57 :: x58 :: x59 :: x60 :: x61 :: x62 :: x63 :: x64 :: x65 :: x66 :: x67 :: x68 :: x69 :: x70 :: x71 :: x72 :: x73 :: x74 :: x75 :: x76 :: y77 :: y78 :: y79 :: y80 :: y81 :: y82 :: y83 :: y84 :: y85 :: y86 :: y87 :: y88 :: y89 :: y90 :: y91 :: y92 :: y93 :: y94 :: y95 :: .bool false :: x97 :: x98 :: x99 :: x100 :: x101 :: x102 :: x103 :: x104 :: x105 :: x106 :: x107 :: x108 :: x109 :: x110 :: x111 :: x112 :: x113 :: x114 :: x115 :: x116 :: x117 :: x118 :: x119 :: x120 :: x121 :: x122 :: x123 :: x124 :: x125 :: x126 :: x127 :: x128 :: x129 :: x130 :: x131 :: x132 :: x133 :: x134 :: x135 :: x136 :: x137 :: x138 :: x139 :: x140 :: x141 :: x142 :: x143 :: x144 :: x145 :: x146 :: x147 :: x148 :: x149 :: x150 :: x151 :: x152 :: x153 :: x154 :: x155 :: x156 :: x157 :: x158 :: x159 :: x160 :: x161 :: x162 :: x163 :: x164 :: x165 :: x166 :: x167 :: x168 :: x169 :: x170 :: x171 :: x172 :: x173 :: x174 :: x175 :: []), []⟩ w') :
    Code.wp Try.prog (((Try.f17.body.bind (subRegion 18)).getD .skip)) Q ⟨List.toArray (.pointer (some ⟨p, 0, none⟩) :: x1 :: x2 :: x3 :: x4 :: x5 :: x6 :: x7 :: x8 :: .pointer (some ⟨gx, 0, none⟩) :: .int .i64 i :: x11 :: x12 :: x13 :: x14 :: x15 :: x16 :: x17 :: x18 :: x19 :: x20 :: x21 :: x22 :: x23 :: x24 :: x25 :: x26 :: x27 :: x28 :: x29 :: x30 :: x31 :: x32 :: x33 :: x34 :: x35 :: x36 :: x37 :: x38 :: x39 :: x40 :: x41 :: x42 :: x43 :: x44 :: x45 :: x46 :: x47 :: x48 :: x49 :: x50 :: x51 :: x52 :: x53 :: x54 :: x55 :: x56 :: x57 :: x58 :: x59 :: x60 :: x61 :: x62 :: x63 :: x64 :: x65 :: x66 :: x67 :: x68 :: x69 :: x70 :: x71 :: x72 :: x73 :: x74 :: x75 :: x76 :: x77 :: x78 :: x79 :: x80 :: x81 :: x82 :: x83 :: x84 :: x85 :: x86 :: x87 :: x88 :: x89 :: x90 :: x91 :: x92 :: x93 :: x94 :: x95 :: x96 :: x97 :: x98 :: x99 :: x100 :: x101 :: x102 :: x103 :: x104 :: x105 :: x106 :: x107 :: x108 :: x109 :: x110 :: x111 :: x112 :: x113 :: x114 :: x115 :: x116 :: x117 :: x118 :: x119 :: x120 :: x121 :: x122 :: x123 :: x124 :: x125 :: x126 :: x127 :: x128 :: x129 :: x130 :: x131 :: x132 :: x133 :: x134 :: x135 :: x136 :: x137 :: x138 :: x139 :: x140 :: x141 :: x142 :: x143 :: x144 :: x145 :: x146 :: x147 :: x148 :: x149 :: x150 :: x151 :: x152 :: x153 :: x154 :: x155 :: x156 :: x157 :: x158 :: x159 :: x160 :: x161 :: x162 :: x163 :: x164 :: x165 :: x166 :: x167 :: x168 :: x169 :: x170 :: x171 :: x172 :: x173 :: x174 :: x175 :: []), []⟩ w := by
  have HK := Lib.hid hQ; have HKP := Lib.hid hQp
  clear hQ hQp
  conv => arg 2; whnf
  have HROW := Lib.hid HT.out.row
  have HCM := Lib.hid HT.out.l
  have hln := HT.out.len.1
  obtain ⟨ca, hca⟩ : ∃ a, h.la = a := ⟨_, rfl⟩
  obtain ⟨cc, hcc⟩ : ∃ a, h.lc = a := ⟨_, rfl⟩
  rw [hca] at HROW HCM; rw [hcc] at HROW
  obtain ⟨n, hn⟩ : ∃ n, S.L.length = n := ⟨_, rfl⟩
  have HN := HE
  rw [hn] at HROW HN hln
  obtain rfl : i = n := HN.out
  clear hca hcc HCM HN hn
  have hgc := cell_row HG.out 0 _ HG0.out
  have HGC := Lib.hid hgc
  clear hgc
  have g0 : ∀ z : In (fun y => y.heap[p]? = some (.cells (rtRow (.slice ca i cc) (.slice h.ca S.came.length h.cc) (.slice h.ra S.due.length h.rc) (.slice h.wa S.was.length h.wc) S.now).toArray RTT (0, 0)) ∧ y.cell? ⟨gx, 0, none⟩ = some (.int .u64 q)), z.w.cell? ⟨p, 0, none⟩ = some (.slice ca i cc) := fun z => cell_row z.h.1 0 _ (rtRow_0 ..)
  have g1 : ∀ z : In (fun y => y.heap[p]? = some (.cells (rtRow (.slice ca i cc) (.slice h.ca S.came.length h.cc) (.slice h.ra S.due.length h.rc) (.slice h.wa S.was.length h.wc) S.now).toArray RTT (0, 0)) ∧ y.cell? ⟨gx, 0, none⟩ = some (.int .u64 q)), z.w.cell? ⟨gx, 0, none⟩ = some (.int .u64 q) := fun z => z.h.2
  refine wp_plan (.t 0 (.t 1 (.t 2 (.t 3 (.t 4 (.t 5 (.t 6 (.t 7 (.t 8 (.t 9 (.t 10 (.t 11 (.t 12 (.t 13 (.t 14 (.t 15 (.t 16 (.t 17 (.t 18 (.t 19 .done)))))))))))))))))))) (fun y => y.heap[p]? = some (.cells (rtRow (.slice ca i cc) (.slice h.ca S.came.length h.cc) (.slice h.ra S.due.length h.rc) (.slice h.wa S.was.length h.wc) S.now).toArray RTT (0, 0)) ∧ y.cell? ⟨gx, 0, none⟩ = some (.int .u64 q)) (by kernel_rfl) (by kernel_rfl) (by kernel_rfl) (fun c a d v w h => by first | (cases d <;> exact h) | exact HKP.out c a d v w h) ⟨HROW.out, HGC.out⟩ ?_
  haveI hne : Nonempty (In (fun y => y.heap[p]? = some (.cells (rtRow (.slice ca i cc) (.slice h.ca S.came.length h.cc) (.slice h.ra S.due.length h.rc) (.slice h.wa S.was.length h.wc) S.now).toArray RTT (0, 0)) ∧ y.cell? ⟨gx, 0, none⟩ = some (.int .u64 q))) := ⟨⟨w, ⟨HROW.out, HGC.out⟩⟩⟩
  repeat (first | (refine plan_t (by rfl) ?_; (first | go_big_quiet_skip | (go_big_quiet_want; go_big_quiet_op; go_big_quiet_on)); refine wpQuiet_nil ?_))
  clear hne g0 g1
  show Q _ _ _
  exact HK.out _ _ _ _ _ _ _ _ _ _ _ _ _ _ _ _ _ _ _ w.drew (Lib.hid (Below.refl w.heap.size w).drew)
end Go.Proofs.Ytjdcmhclamjcjaa
namespace Go.Proofs.Ytjdcmhclamjcjaa
open Go.RowKit
set_option linter.unusedVariables false
set_option linter.unusedSimpArgs false

set_option maxRecDepth 100000 in
set_option maxHeartbeats 4000000 in
theorem ron_goes {x0 x1 x2 x4 x5 x6 x7 x8 x9 x10 x13 x14 x15 x16 x17 x18 x19 x20 x21 x22 x23 x24 x25 x26 x27 x28 x29 x30 x31 x32 x33 x34 x35 x36 x37 x38 x39 x40 x41 x42 x43 x44 x45 x46 x47 x48 x49 x50 x51 x52 x53 x54 x55 x56 x57 x58 x59 x60 x61 x62 x63 x64 x65 x66 x67 x68 x69 x70 x71 x72 x73 x74 x75 x76 x77 x78 x79 x80 x81 x82 x83 x84 x85 x86 x87 x88 x89 x90 x91 x92 x93 x94 x95 x96 x97 x98 x99 x100 x101 x102 x103 x104 x105 x106 x107 x108 x109 x110 x111 x112 x113 x114 x115 x116 x117 x118 x119 x120 x121 x122 x123 x124 x125 x126 x127 x128 x129 x130 x131 x132 x133 x134 x135 x136 x137 x138 x139 x140 x141 x142 x143 x144 x145 x146 x147 x148 x149 x150 x151 x152 x153 x154 x155 x156 x157 x158 x159 x160 x161 x162 x163 x164 x165 x166 x167 x168 x169 x170 x171 x172 x173 x174 x175 : Value} {gf i n lc : Nat} {la : Option Addr} {L : List Nm} {d li : Int} {e : List Int} {RF : List Value} (w : World) {Q : Exit → Act → World → Prop}
    (HF : Hid (w.heap[gf]? = some (.cells RF.toArray 53 (0, 0)))) (HF5 : Hid (RF[5]? = some (.int .u64 li))) (hli : U64 li) (HL : Hid (nmK.At w la n L)) (hlt : i < n) (HX : Hid (L[i]? = some (d, e))) (hds : d < li)
    (hQp : ∀ c a d v w, Q (.panic c) (a.put d v) w → Q (.panic c) a w)
    (hQ : ∀ (y130 y131 y132 y133 y134 y135 y136 : Value) (w' : World), Hid (Below w.heap.size w w') → Q .normal ⟨List.toArray (x0 :: x1 :: x2 :: .pointer (some ⟨gf, 0, none⟩) :: x4 :: x5 :: x6 :: x7 :: x8 :: x9 :: x10 :: .slice la n lc :: .int .i64 i :: x13 :: x14 :: x15 :: x16 :: x17 :: x18 :: x19 :: x20 :: x21 :: x22 :: x23 :: x24 :: x25 :: x26 :: x27 :: x28 :: x29 :: x30 :: x31 :: x32 :: x33 :: x34 :: x35 :: x36 :: x37 :: x38 :: x39 :: x40 :: x41 :: x42 :: x43 :: x44 :: x45 :: x46 :: x47 :: x48 :: x49 :: x50 :: x51 :: x52 :: x53 :: x54 :: x55 :: x56 :: x57 :: x58 :: x59 :: x60 :: x61 :: x62 :: x63 :: x64 :: x65 :: x66 :: x67 :: x68 :: x69 :: x70 :: x71 :: x72 :: x73 :: x74 :: x75 :: x76 :: x77 :: x78 :: x79 :: x80 :: x81 :: x82 :: x83 :: x84 :: x85 :: x86 :: x87 :: x88 :: x89 :: x90 :: x91 :: x92 :: x93 :: x94 :: x95 :: x96 :: x97 :: x98 :: x99 :: x100 :: x101 :: x102 :: x103 :: x104 :: x105 :: x106 :: x107 :: x108 :: x109 :: x110 :: x111 :: x112 :: x113 :: x114 :: x115 :: x116 :: x117 :: x118 :: x119 :: x120 :: x121 :: x122 :: x123 :: x124 :: x125 :: x126 :: x127 :: x128 :: x129 :: y130 :: y131 :: y132 :: y133 :: y134 :: y135 :: y136 :: .bool true :: x138 :: x139 :: x140 :: x141 :: x142 :: x143 :: x144 :: x145 :: x146 :: x147 :: x148 :: x149 :: x150 :: x151 :: x152 :: x153 :: x154 :: x155 :: x156 :: x157 :: x158 :: x159 :: x160 :: x161 :: x162 :: x163 :: x164 :: x165 :: x166 :: x167 :: x168 :: x169 :: x170 :: x171 :: x172 :: x173 :: x174 :: x175 :: []), []⟩ w') :
    Code.wp Try.prog (((Try.f17.body.bind (subRegion 25)).getD .skip)) Q ⟨List.toArray (x0 :: x1 :: x2 :: .pointer (some ⟨gf, 0, none⟩) :: x4 :: x5 :: x6 :: x7 :: x8 :: x9 :: x10 :: .slice la n lc :: .int .i64 i :: x13 :: x14 :: x15 :: x16 :: x17 :: x18 :: x19 :: x20 :: x21 :: x22 :: x23 :: x24 :: x25 :: x26 :: x27 :: x28 :: x29 :: x30 :: x31 :: x32 :: x33 :: x34 :: x35 :: x36 :: x37 :: x38 :: x39 :: x40 :: x41 :: x42 :: x43 :: x44 :: x45 :: x46 :: x47 :: x48 :: x49 :: x50 :: x51 :: x52 :: x53 :: x54 :: x55 :: x56 :: x57 :: x58 :: x59 :: x60 :: x61 :: x62 :: x63 :: x64 :: x65 :: x66 :: x67 :: x68 :: x69 :: x70 :: x71 :: x72 :: x73 :: x74 :: x75 :: x76 :: x77 :: x78 :: x79 :: x80 :: x81 :: x82 :: x83 :: x84 :: x85 :: x86 :: x87 :: x88 :: x89 :: x90 :: x91 :: x92 :: x93 :: x94 :: x95 :: x96 :: x97 :: x98 :: x99 :: x100 :: x101 :: x102 :: x103 :: x104 :: x105 :: x106 :: x107 :: x108 :: x109 :: x110 :: x111 :: x112 :: x113 :: x114 :: x115 :: x116 :: x117 :: x118 :: x119 :: x120 :: x121 :: x122 :: x123 :: x124 :: x125 :: x126 :: x127 :: x128 :: x129 :: x130 :: x131 :: x132 :: x133 :: x134 :: x135 :: x136 :: x137 :: x138 :: x139 :: x140 :: x141 :: x142 :: x143 :: x144 :: x145 :: x146 :: x147 :: x148 :: x149 :: x150 :: x151 :: x152 :: x153 :: x154 :: x155 :: x156 :: x157 :: x158 :: x159 :: x160 :: x161 :: x162 :: x163 :: x164 :: x165 :: x166 :: x167 :: x168 :: x169 :: x170 :: x171 :: x172 :: x173 :: x174 :: x175 :: []), []⟩ w := by
  have HK := Lib.hid hQ; have HKP := Lib.hid hQp
  clear hQ hQp
  conv => arg 2; whnf
  obtain ⟨ab, ao, y, rfl, _, hx, hok, hrg⟩ := HL.out.at hlt
  rw [HX.out] at hx; injection hx with hx; subst hx
  have hxu := hok.1
  simp only at hxu
  have hq0 : w.cell? ⟨ab, ao + i * 9, none⟩ = some (.int .u64 d) := by have h9 := hrg 0 _ rfl; rw [Nat.add_zero] at h9; exact h9
  have HQ0 := Lib.hid hq0
  clear hok hrg hq0
  have hgc := cell_row HF.out 5 _ HF5.out
  have HGC := Lib.hid hgc
  clear hgc
  have g0 : ∀ z : In (fun y => y.cell? ⟨gf, 5, none⟩ = some (.int .u64 li) ∧ y.cell? ⟨ab, ao + i * 9, none⟩ = some (.int .u64 d)), z.w.cell? ⟨gf, 5, none⟩ = some (.int .u64 li) := fun z => z.h.1
  have g1 : ∀ z : In (fun y => y.cell? ⟨gf, 5, none⟩ = some (.int .u64 li) ∧ y.cell? ⟨ab, ao + i * 9, none⟩ = some (.int .u64 d)), z.w.cell? ⟨ab, ao + i * 9, none⟩ = some (.int .u64 d) := fun z => z.h.2
  refine wp_plan (.t 0 (.t 1 (.t 2 (.t 3 (.t 4 (.t 5 (.t 6 (.t 7 .done)))))))) (fun y => y.cell? ⟨gf, 5, none⟩ = some (.int .u64 li) ∧ y.cell? ⟨ab, ao + i * 9, none⟩ = some (.int .u64 d)) (by kernel_rfl) (by kernel_rfl) (by kernel_rfl) (fun c a d v w h => by first | (cases d <;> exact h) | exact HKP.out c a d v w h) ⟨HGC.out, HQ0.out⟩ ?_
  haveI hne : Nonempty (In (fun y => y.cell? ⟨gf, 5, none⟩ = some (.int .u64 li) ∧ y.cell? ⟨ab, ao + i * 9, none⟩ = some (.int .u64 d))) := ⟨⟨w, ⟨HGC.out, HQ0.out⟩⟩⟩
  repeat (first | (refine plan_t (by rfl) ?_; (first | go_big_quiet_skip | (go_big_quiet_want; go_big_quiet_op; go_big_quiet_on)); refine wpQuiet_nil ?_))
  clear hne g0 g1
  show Q _ _ _
  exact HK.out _ _ _ _ _ _ _ w.drew (Lib.hid (Below.refl w.heap.size w).drew)
set_option maxRecDepth 100000 in
set_option maxHeartbeats 4000000 in
theorem ron_stays {x0 x1 x2 x4 x5 x6 x7 x8 x9 x10 x13 x14 x15 x16 x17 x18 x19 x20 x21 x22 x23 x24 x25 x26 x27 x28 x29 x30 x31 x32 x33 x34 x35 x36 x37 x38 x39 x40 x41 x42 x43 x44 x45 x46 x47 x48 x49 x50 x51 x52 x53 x54 x55 x56 x57 x58 x59 x60 x61 x62 x63 x64 x65 x66 x67 x68 x69 x70 x71 x72 x73 x74 x75 x76 x77 x78 x79 x80 x81 x82 x83 x84 x85 x86 x87 x88 x89 x90 x91 x92 x93 x94 x95 x96 x97 x98 x99 x100 x101 x102 x103 x104 x105 x106 x107 x108 x109 x110 x111 x112 x113 x114 x115 x116 x117 x118 x119 x120 x121 x122 x123 x124 x125 x126 x127 x128 x129 x130 x131 x132 x133 x134 x135 x136 x137 x138 x139 x140 x141 x142 x143 x144 x145 x146 x147 x148 x149 x150 x151 x152 x153 x154 x155 x156 x157 x158 x159 x160 x161 x162 x163 x164 x165 x166 x167 x168 x169 x170 x171 x172 x173 x174 x175 : Value} {gf i n lc : Nat} {la : Option Addr} {L : List Nm} {d li : Int} {e : List Int} {RF : List Value} (w : World) {Q : Exit → Act → World → Prop}
    (HF : Hid (w.heap[gf]? = some (.cells RF.toArray 53 (0, 0)))) (HF5 : Hid (RF[5]? = some (.int .u64 li))) (hli : U64 li) (HL : Hid (nmK.At w la n L)) (hlt : i < n) (HX : Hid (L[i]? = some (d, e))) (hds : ¬ d < li)
    (hQp : ∀ c a d v w, Q (.panic c) (a.put d v) w → Q (.panic c) a w)
    (hQ : ∀ (y130 y131 y132 y133 y134 y135 y136 : Value) (w' : World), Hid (Below w.heap.size w w') → Q .normal ⟨List.toArray (x0 :: x1 :: x2 :: .pointer (some ⟨gf, 0, none⟩) :: x4 :: x5 :: x6 :: x7 :: x8 :: x9 :: x10 :: .slice la n lc :: .int .i64 i :: x13 :: x14 :: x15 :: x16 :: x17 :: x18 :: x19 :: x20 :: x21 :: x22 :: x23 :: x24 :: x25 :: x26 :: x27 :: x28 :: x29 :: x30 :: x31 :: x32 :: x33 :: x34 :: x35 :: x36 :: x37 :: x38 :: x39 :: x40 :: x41 :: x42 :: x43 :: x44 :: x45 :: x46 :: x47 :: x48 :: x49 :: x50 :: x51 :: x52 :: x53 :: x54 :: x55 :: x56 :: x57 :: x58 :: x59 :: x60 :: x61 :: x62 :: x63 :: x64 :: x65 :: x66 :: x67 :: x68 :: x69 :: x70 :: x71 :: x72 :: x73 :: x74 :: x75 :: x76 :: x77 :: x78 :: x79 :: x80 :: x81 :: x82 :: x83 :: x84 :: x85 :: x86 :: x87 :: x88 :: x89 :: x90 :: x91 :: x92 :: x93 :: x94 :: x95 :: x96 :: x97 :: x98 :: x99 :: x100 :: x101 :: x102 :: x103 :: x104 :: x105 :: x106 :: x107 :: x108 :: x109 :: x110 :: x111 :: x112 :: x113 :: x114 :: x115 :: x116 :: x117 :: x118 :: x119 :: x120 :: x121 :: x122 :: x123 :: x124 :: x125 :: x126 :: x127 :: x128 :: x129 :: y130 :: y131 :: y132 :: y133 :: y134 :: y135 :: y136 :: .bool false :: x138 :: x139 :: x140 :: x141 :: x142 :: x143 :: x144 :: x145 :: x146 :: x147 :: x148 :: x149 :: x150 :: x151 :: x152 :: x153 :: x154 :: x155 :: x156 :: x157 :: x158 :: x159 :: x160 :: x161 :: x162 :: x163 :: x164 :: x165 :: x166 :: x167 :: x168 :: x169 :: x170 :: x171 :: x172 :: x173 :: x174 :: x175 :: []), []⟩ w') :
    Code.wp Try.prog (((Try.f17.body.bind (subRegion 25)).getD .skip)) Q ⟨List.toArray (x0 :: x1 :: x2 :: .pointer (some ⟨gf, 0, none⟩) :: x4 :: x5 :: x6 :: x7 :: x8 :: x9 :: x10 :: .slice la n lc :: .int .i64 i :: x13 :: x14 :: x15 :: x16 :: x17 :: x18 :: x19 :: x20 :: x21 :: x22 :: x23 :: x24 :: x25 :: x26 :: x27 :: x28 :: x29 :: x30 :: x31 :: x32 :: x33 :: x34 :: x35 :: x36 :: x37 :: x38 :: x39 :: x40 :: x41 :: x42 :: x43 :: x44 :: x45 :: x46 :: x47 :: x48 :: x49 :: x50 :: x51 :: x52 :: x53 :: x54 :: x55 :: x56 :: x57 :: x58 :: x59 :: x60 :: x61 :: x62 :: x63 :: x64 :: x65 :: x66 :: x67 :: x68 :: x69 :: x70 :: x71 :: x72 :: x73 :: x74 :: x75 :: x76 :: x77 :: x78 :: x79 :: x80 :: x81 :: x82 :: x83 :: x84 :: x85 :: x86 :: x87 :: x88 :: x89 :: x90 :: x91 :: x92 :: x93 :: x94 :: x95 :: x96 :: x97 :: x98 :: x99 :: x100 :: x101 :: x102 :: x103 :: x104 :: x105 :: x106 :: x107 :: x108 :: x109 :: x110 :: x111 :: x112 :: x113 :: x114 :: x115 :: x116 :: x117 :: x118 :: x119 :: x120 :: x121 :: x122 :: x123 :: x124 :: x125 :: x126 :: x127 :: x128 :: x129 :: x130 :: x131 :: x132 :: x133 :: x134 :: x135 :: x136 :: x137 :: x138 :: x139 :: x140 :: x141 :: x142 :: x143 :: x144 :: x145 :: x146 :: x147 :: x148 :: x149 :: x150 :: x151 :: x152 :: x153 :: x154 :: x155 :: x156 :: x157 :: x158 :: x159 :: x160 :: x161 :: x162 :: x163 :: x164 :: x165 :: x166 :: x167 :: x168 :: x169 :: x170 :: x171 :: x172 :: x173 :: x174 :: x175 :: []), []⟩ w := by
  have HK := Lib.hid hQ; have HKP := Lib.hid hQp
  clear hQ hQp
  conv => arg 2; whnf
  obtain ⟨ab, ao, y, rfl, _, hx, hok, hrg⟩ := HL.out.at hlt
  rw [HX.out] at hx; injection hx with hx; subst hx
  have hxu := hok.1
  simp only at hxu
  have hq0 : w.cell? ⟨ab, ao + i * 9, none⟩ = some (.int .u64 d) := by have h9 := hrg 0 _ rfl; rw [Nat.add_zero] at h9; exact h9
  have HQ0 := Lib.hid hq0
  clear hok hrg hq0
  have hgc := cell_row HF.out 5 _ HF5.out
  have HGC := Lib.hid hgc
  clear hgc
  have g0 : ∀ z : In (fun y => y.cell? ⟨gf, 5, none⟩ = some (.int .u64 li) ∧ y.cell? ⟨ab, ao + i * 9, none⟩ = some (.int .u64 d)), z.w.cell? ⟨gf, 5, none⟩ = some (.int .u64 li) := fun z => z.h.1
  have g1 : ∀ z : In (fun y => y.cell? ⟨gf, 5, none⟩ = some (.int .u64 li) ∧ y.cell? ⟨ab, ao + i * 9, none⟩ = some (.int .u64 d)), z.w.cell? ⟨ab, ao + i * 9, none⟩ = some (.int .u64 d) := fun z => z.h.2
  refine wp_plan (.t 0 (.t 1 (.t 2 (.t 3 (.t 4 (.t 5 (.t 6 (.t 7 .done)))))))) (fun y => y.cell? ⟨gf, 5, none⟩ = some (.int .u64 li) ∧ y.cell? ⟨ab, ao + i * 9, none⟩ = some (.int .u64 d)) (by kernel_rfl) (by kernel_rfl) (by kernel_rfl) (fun c a d v w h => by first | (cases d <;> exact h) | exact HKP.out c a d v w h) ⟨HGC.out, HQ0.out⟩ ?_
  haveI hne : Nonempty (In (fun y => y.cell? ⟨gf, 5, none⟩ = some (.int .u64 li) ∧ y.cell? ⟨ab, ao + i * 9, none⟩ = some (.int .u64 d))) := ⟨⟨w, ⟨HGC.out, HQ0.out⟩⟩⟩
  repeat (first | (refine plan_t (by rfl) ?_; (first | go_big_quiet_skip | (go_big_quiet_want; go_big_quiet_op; go_big_quiet_on)); refine wpQuiet_nil ?_))
  clear hne g0 g1
  show Q _ _ _
  exact HK.out _ _ _ _ _ _ _ w.drew (Lib.hid (Below.refl w.heap.size w).drew)
end Go.Proofs.Ytjdcmhclamjcjaa
namespace Go.Proofs.Ytjdcmhclamjcjaa
open Go.RowKit
set_option linter.unusedVariables false
set_option linter.unusedSimpArgs false

set_option maxRecDepth 100000 in
set_option maxHeartbeats 4000000 in
theorem ron_nowgoes {x1 x2 x4 x5 x6 x7 x8 x9 x10 x11 x12 x13 x14 x15 x16 x17 x18 x19 x20 x21 x22 x23 x24 x25 x26 x27 x28 x29 x30 x31 x32 x33 x34 x35 x36 x37 x38 x39 x40 x41 x42 x43 x44 x45 x46 x47 x48 x49 x50 x51 x52 x53 x54 x55 x56 x57 x58 x59 x60 x61 x62 x63 x64 x65 x66 x67 x68 x69 x70 x71 x72 x73 x74 x75 x76 x77 x78 x79 x80 x81 x82 x83 x84 x85 x86 x87 x88 x89 x90 x91 x92 x93 x94 x95 x96 x97 x98 x99 x100 x101 x102 x103 x104 x105 x106 x107 x108 x109 x110 x111 x112 x113 x114 x115 x116 x117 x118 x119 x120 x121 x122 x123 x124 x125 x126 x127 x128 x129 x130 x131 x132 x133 x134 x135 x136 x137 x138 x139 x140 x141 x142 x143 x144 x145 x146 x147 x148 x149 x150 x151 x152 x153 x154 x155 x156 x157 x158 x159 x160 x161 x162 x163 x164 x165 x166 x167 x168 x169 x170 x171 x172 x173 x174 x175 : Value} {p gf N : Nat} {B : List Nat} {S : Th} {h : RH} {q li : Int} {RF : List Value} (w : World) {Q : Exit → Act → World → Prop}
    (HT : Hid (RtAt w p B N S h)) (HF : Hid (w.heap[gf]? = some (.cells RF.toArray 53 (0, 0)))) (HF5 : Hid (RF[5]? = some (.int .u64 li))) (hli : U64 li) (hqu : U64 q) (HQN : Hid (S.now.1 = q)) (hnb : N < 90000) (h0 : 0 < S.L.length) (hds : q < li)
    (hQp : ∀ c a d v w, Q (.panic c) (a.put d v) w → Q (.panic c) a w)
    (hQ : ∀ (y145 y146 y147 y148 y149 y150 y151 y152 y153 y154 y155 y156 y157 y158 y159 : Value) (w' : World), Hid (Below w.heap.size w w') → Q .normal ⟨List.toArray (.pointer (some ⟨p, 0, none⟩) :: x1 :: x2 :: .pointer (some ⟨gf, 0, none⟩) :: x4 :: x5 :: x6 :: x7 :: x8 :: x9 :: x10 :: x11 :: x12 :: x13 :: x14 :: x15 :: x16 :: x17 :: x18 :: x19 :: x20 :: x21 :: x22 :: x23 :: x24 :: x25 :: x26 :: x27 :: x28 :: x29 :: x30 :: x31 :: x32 :: x33 :: x34 :: x35 :: x36 :: x37 :: x38 :: x39 :: x40 :: x41 :: x42 :: x43 :: x44 :: x45 :: x46 :: x47 :: x48 :: x49 :: x50 :: x51 :: x52 :: x53 :: x54 :: x55 :: x56 :: x57 :: x58 :: x59 :: x60 :: x61 :: x62 :: x63 :: x64 :: x65 :: x66 :: x67 :: x68 :: x69 :: x70 :: x71 :: x72 :: x73 :: x74 :: x75 :: x76 :: x77 :: x78 :: x79 :: x80 :: x81 :: x82 :: x83 :: x84 :: x85 :: x86 :: x87 :: x88 :: x89 :: x90 :: x91 :: x92 :: x93 :: x94 :: x95 :: x96 :: x97 :: x98 :: x99 :: x100 :: x101 :: x102 :: x103 :: x104 :: x105 :: x106 :: x107 :: x108 :: x109 :: x110 :: x111 :: x112 :: x113 :: x114 :: x115 :: x116 :: x117 :: x118 :: x119 :: x120 :: x121 :: x122 :: x123 :: x124 :: x125 :: x126 :: x127 :: x128 :: x129 :: x130 :: x131 :: x132 :: x133 :: x134 :: x135 :: x136 :: x137 :: x138 :: x139 :: x140 :: x141 :: x142 :: x143 :: x144 :: y145 :: y146 :: y147 :: y148 :: y149 :: y150 :: y151 :: y152 :: y153 :: y154 :: y155 :: y156 :: y157 :: y158 :: y159 :: .bool true :: x161 :: x162 :: x163 :: x164 :: x165 :: x166 :: x167 :: x168 :: x169 :: x170 :: x171 :: x172 :: x173 :: x174 :: x175 :: []), []⟩ w') :
    Code.wp Try.prog (((Try.f17.body.bind (subRegion 27)).getD .skip)) Q ⟨List.toArray (.pointer (some ⟨p, 0, none⟩) :: x1 :: x2 :: .pointer (some ⟨gf, 0, none⟩) :: x4 :: x5 :: x6 :: x7 :: x8 :: x9 :: x10 :: x11 :: x12 :: x13 :: x14 :: x15 :: x16 :: x17 :: x18 :: x19 :: x20 :: x21 :: x22 :: x23 :: x24 :: x25 :: x26 :: x27 :: x28 :: x29 :: x30 :: x31 :: x32 :: x33 :: x34 :: x35 :: x36 :: x37 :: x38 :: x39 :: x40 :: x41 :: x42 :: x43 :: x44 :: x45 :: x46 :: x47 :: x48 :: x49 :: x50 :: x51 :: x52 :: x53 :: x54 :: x55 :: x56 :: x57 :: x58 :: x59 :: x60 :: x61 :: x62 :: x63 :: x64 :: x65 :: x66 :: x67 :: x68 :: x69 :: x70 :: x71 :: x72 :: x73 :: x74 :: x75 :: x76 :: x77 :: x78 :: x79 :: x80 :: x81 :: x82 :: x83 :: x84 :: x85 :: x86 :: x87 :: x88 :: x89 :: x90 :: x91 :: x92 :: x93 :: x94 :: x95 :: x96 :: x97 :: x98 :: x99 :: x100 :: x101 :: x102 :: x103 :: x104 :: x105 :: x106 :: x107 :: x108 :: x109 :: x110 :: x111 :: x112 :: x113 :: x114 :: x115 :: x116 :: x117 :: x118 :: x119 :: x120 :: x121 :: x122 :: x123 :: x124 :: x125 :: x126 :: x127 :: x128 :: x129 :: x130 :: x131 :: x132 :: x133 :: x134 :: x135 :: x136 :: x137 :: x138 :: x139 :: x140 :: x141 :: x142 :: x143 :: x144 :: x145 :: x146 :: x147 :: x148 :: x149 :: x150 :: x151 :: x152 :: x153 :: x154 :: x155 :: x156 :: x157 :: x158 :: x159 :: x160 :: x161 :: x162 :: x163 :: x164 :: x165 :: x166 :: x167 :: x168 :: x169 :: x170 :: x171 :: x172 :: x173 :: x174 :: x175 :: []), []⟩ w := by
  have HK := Lib.hid hQ; have HKP := Lib.hid hQp
  clear hQ hQp
  conv => arg 2; whnf
  have HROW := Lib.hid HT.out.row
  have hln := HT.out.len.1
  obtain ⟨n, hn⟩ : ∃ n, S.L.length = n := ⟨_, rfl⟩
  rw [hn] at HROW hln h0
  clear hn
  have hgc := cell_row HF.out 5 _ HF5.out
  have HGC := Lib.hid hgc
  clear hgc
  have g0 : ∀ z : In (fun y => y.cell? ⟨gf, 5, none⟩ = some (.int .u64 li) ∧ y.heap[p]? = some (.cells (rtRow (.slice h.la n h.lc) (.slice h.ca S.came.length h.cc) (.slice h.ra S.due.length h.rc) (.slice h.wa S.was.length h.wc) S.now).toArray RTT (0, 0))), z.w.cell? ⟨gf, 5, none⟩ = some (.int .u64 li) := fun z => z.h.1
  have g1 : ∀ z : In (fun y => y.cell? ⟨gf, 5, none⟩ = some (.int .u64 li) ∧ y.heap[p]? = some (.cells (rtRow (.slice h.la n h.lc) (.slice h.ca S.came.length h.cc) (.slice h.ra S.due.length h.rc) (.slice h.wa S.was.length h.wc) S.now).toArray RTT (0, 0))), z.w.cell? ⟨p, 4, none⟩ = some (.int .u64 q) := fun z => cell_row z.h.2 4 _ (by rw [← HQN.out]; exact rtRow_4 ..)
  have g2 : ∀ z : In (fun y => y.cell? ⟨gf, 5, none⟩ = some (.int .u64 li) ∧ y.heap[p]? = some (.cells (rtRow (.slice h.la n h.lc) (.slice h.ca S.came.length h.cc) (.slice h.ra S.due.length h.rc) (.slice h.wa S.was.length h.wc) S.now).toArray RTT (0, 0))), z.w.cell? ⟨p, 0, none⟩ = some (.slice h.la n h.lc) := fun z => cell_row z.h.2 0 _ (rtRow_0 ..)
  refine wp_plan (.t 0 (.t 1 (.t 2 (.t 3 (.t 4 (.t 5 (.t 6 (.t 7 (.t 8 (.t 9 (.t 10 (.t 11 (.t 12 (.t 13 (.t 14 (.t 15 .done)))))))))))))))) (fun y => y.cell? ⟨gf, 5, none⟩ = some (.int .u64 li) ∧ y.heap[p]? = some (.cells (rtRow (.slice h.la n h.lc) (.slice h.ca S.came.length h.cc) (.slice h.ra S.due.length h.rc) (.slice h.wa S.was.length h.wc) S.now).toArray RTT (0, 0))) (by kernel_rfl) (by kernel_rfl) (by kernel_rfl) (fun c a d v w h => by first | (cases d <;> exact h) | exact HKP.out c a d v w h) ⟨HGC.out, HROW.out⟩ ?_
  haveI hne : Nonempty (In (fun y => y.cell? ⟨gf, 5, none⟩ = some (.int .u64 li) ∧ y.heap[p]? = some (.cells (rtRow (.slice h.la n h.lc) (.slice h.ca S.came.length h.cc) (.slice h.ra S.due.length h.rc) (.slice h.wa S.was.length h.wc) S.now).toArray RTT (0, 0)))) := ⟨⟨w, ⟨HGC.out, HROW.out⟩⟩⟩
  repeat (first | (refine plan_t (by rfl) ?_; (first | go_big_quiet_skip | (go_big_quiet_want; go_big_quiet_op; go_big_quiet_on)); refine wpQuiet_nil ?_))
  clear hne g0 g1 g2
  show Q _ _ _
  exact HK.out _ _ _ _ _ _ _ _ _ _ _ _ _ _ _ w.drew (Lib.hid (Below.refl w.heap.size w).drew)
set_option maxRecDepth 100000 in
set_option maxHeartbeats 4000000 in
theorem ron_nowstays {x1 x2 x4 x5 x6 x7 x8 x9 x10 x11 x12 x13 x14 x15 x16 x17 x18 x19 x20 x21 x22 x23 x24 x25 x26 x27 x28 x29 x30 x31 x32 x33 x34 x35 x36 x37 x38 x39 x40 x41 x42 x43 x44 x45 x46 x47 x48 x49 x50 x51 x52 x53 x54 x55 x56 x57 x58 x59 x60 x61 x62 x63 x64 x65 x66 x67 x68 x69 x70 x71 x72 x73 x74 x75 x76 x77 x78 x79 x80 x81 x82 x83 x84 x85 x86 x87 x88 x89 x90 x91 x92 x93 x94 x95 x96 x97 x98 x99 x100 x101 x102 x103 x104 x105 x106 x107 x108 x109 x110 x111 x112 x113 x114 x115 x116 x117 x118 x119 x120 x121 x122 x123 x124 x125 x126 x127 x128 x129 x130 x131 x132 x133 x134 x135 x136 x137 x138 x139 x140 x141 x142 x143 x144 x145 x146 x147 x148 x149 x150 x151 x152 x153 x154 x155 x156 x157 x158 x159 x160 x161 x162 x163 x164 x165 x166 x167 x168 x169 x170 x171 x172 x173 x174 x175 : Value} {p gf N : Nat} {B : List Nat} {S : Th} {h : RH} {q li : Int} {RF : List Value} (w : World) {Q : Exit → Act → World → Prop}
    (HT : Hid (RtAt w p B N S h)) (HF : Hid (w.heap[gf]? = some (.cells RF.toArray 53 (0, 0)))) (HF5 : Hid (RF[5]? = some (.int .u64 li))) (hli : U64 li) (hqu : U64 q) (HQN : Hid (S.now.1 = q)) (hnb : N < 90000) (h0 : 0 < S.L.length) (hds : ¬ q < li)
    (hQp : ∀ c a d v w, Q (.panic c) (a.put d v) w → Q (.panic c) a w)
    (hQ : ∀ (y145 y146 y147 y148 y149 y150 y151 y152 y153 y154 y155 y156 y157 y158 y159 : Value) (w' : World), Hid (Below w.heap.size w w') → Q .normal ⟨List.toArray (.pointer (some ⟨p, 0, none⟩) :: x1 :: x2 :: .pointer (some ⟨gf, 0, none⟩) :: x4 :: x5 :: x6 :: x7 :: x8 :: x9 :: x10 :: x11 :: x12 :: x13 :: x14 :: x15 :: x16 :: x17 :: x18 :: x19 :: x20 :: x21 :: x22 :: x23 :: x24 :: x25 :: x26 :: x27 :: x28 :: x29 :: x30 :: x31 :: x32 :: x33 :: x34 :: x35 :: x36 :: x37 :: x38 :: x39 :: x40 :: x41 :: x42 :: x43 :: x44 :: x45 :: x46 :: x47 :: x48 :: x49 :: x50 :: x51 :: x52 :: x53 :: x54 :: x55 :: x56 :: x57 :: x58 :: x59 :: x60 :: x61 :: x62 :: x63 :: x64 :: x65 :: x66 :: x67 :: x68 :: x69 :: x70 :: x71 :: x72 :: x73 :: x74 :: x75 :: x76 :: x77 :: x78 :: x79 :: x80 :: x81 :: x82 :: x83 :: x84 :: x85 :: x86 :: x87 :: x88 :: x89 :: x90 :: x91 :: x92 :: x93 :: x94 :: x95 :: x96 :: x97 :: x98 :: x99 :: x100 :: x101 :: x102 :: x103 :: x104 :: x105 :: x106 :: x107 :: x108 :: x109 :: x110 :: x111 :: x112 :: x113 :: x114 :: x115 :: x116 :: x117 :: x118 :: x119 :: x120 :: x121 :: x122 :: x123 :: x124 :: x125 :: x126 :: x127 :: x128 :: x129 :: x130 :: x131 :: x132 :: x133 :: x134 :: x135 :: x136 :: x137 :: x138 :: x139 :: x140 :: x141 :: x142 :: x143 :: x144 :: y145 :: y146 :: y147 :: y148 :: y149 :: y150 :: y151 :: y152 :: y153 :: y154 :: y155 :: y156 :: y157 :: y158 :: y159 :: .bool false :: x161 :: x162 :: x163 :: x164 :: x165 :: x166 :: x167 :: x168 :: x169 :: x170 :: x171 :: x172 :: x173 :: x174 :: x175 :: []), []⟩ w') :
    Code.wp Try.prog (((Try.f17.body.bind (subRegion 27)).getD .skip)) Q ⟨List.toArray (.pointer (some ⟨p, 0, none⟩) :: x1 :: x2 :: .pointer (some ⟨gf, 0, none⟩) :: x4 :: x5 :: x6 :: x7 :: x8 :: x9 :: x10 :: x11 :: x12 :: x13 :: x14 :: x15 :: x16 :: x17 :: x18 :: x19 :: x20 :: x21 :: x22 :: x23 :: x24 :: x25 :: x26 :: x27 :: x28 :: x29 :: x30 :: x31 :: x32 :: x33 :: x34 :: x35 :: x36 :: x37 :: x38 :: x39 :: x40 :: x41 :: x42 :: x43 :: x44 :: x45 :: x46 :: x47 :: x48 :: x49 :: x50 :: x51 :: x52 :: x53 :: x54 :: x55 :: x56 :: x57 :: x58 :: x59 :: x60 :: x61 :: x62 :: x63 :: x64 :: x65 :: x66 :: x67 :: x68 :: x69 :: x70 :: x71 :: x72 :: x73 :: x74 :: x75 :: x76 :: x77 :: x78 :: x79 :: x80 :: x81 :: x82 :: x83 :: x84 :: x85 :: x86 :: x87 :: x88 :: x89 :: x90 :: x91 :: x92 :: x93 :: x94 :: x95 :: x96 :: x97 :: x98 :: x99 :: x100 :: x101 :: x102 :: x103 :: x104 :: x105 :: x106 :: x107 :: x108 :: x109 :: x110 :: x111 :: x112 :: x113 :: x114 :: x115 :: x116 :: x117 :: x118 :: x119 :: x120 :: x121 :: x122 :: x123 :: x124 :: x125 :: x126 :: x127 :: x128 :: x129 :: x130 :: x131 :: x132 :: x133 :: x134 :: x135 :: x136 :: x137 :: x138 :: x139 :: x140 :: x141 :: x142 :: x143 :: x144 :: x145 :: x146 :: x147 :: x148 :: x149 :: x150 :: x151 :: x152 :: x153 :: x154 :: x155 :: x156 :: x157 :: x158 :: x159 :: x160 :: x161 :: x162 :: x163 :: x164 :: x165 :: x166 :: x167 :: x168 :: x169 :: x170 :: x171 :: x172 :: x173 :: x174 :: x175 :: []), []⟩ w := by
  have HK := Lib.hid hQ; have HKP := Lib.hid hQp
  clear hQ hQp
  conv => arg 2; whnf
  have HROW := Lib.hid HT.out.row
  have hln := HT.out.len.1
  obtain ⟨n, hn⟩ : ∃ n, S.L.length = n := ⟨_, rfl⟩
  rw [hn] at HROW hln h0
  clear hn
  have hgc := cell_row HF.out 5 _ HF5.out
  have HGC := Lib.hid hgc
  clear hgc
  have g0 : ∀ z : In (fun y => y.cell? ⟨gf, 5, none⟩ = some (.int .u64 li) ∧ y.heap[p]? = some (.cells (rtRow (.slice h.la n h.lc) (.slice h.ca S.came.length h.cc) (.slice h.ra S.due.length h.rc) (.slice h.wa S.was.length h.wc) S.now).toArray RTT (0, 0))), z.w.cell? ⟨gf, 5, none⟩ = some (.int .u64 li) := fun z => z.h.1
  have g1 : ∀ z : In (fun y => y.cell? ⟨gf, 5, none⟩ = some (.int .u64 li) ∧ y.heap[p]? = some (.cells (rtRow (.slice h.la n h.lc) (.slice h.ca S.came.length h.cc) (.slice h.ra S.due.length h.rc) (.slice h.wa S.was.length h.wc) S.now).toArray RTT (0, 0))), z.w.cell? ⟨p, 4, none⟩ = some (.int .u64 q) := fun z => cell_row z.h.2 4 _ (by rw [← HQN.out]; exact rtRow_4 ..)
  have g2 : ∀ z : In (fun y => y.cell? ⟨gf, 5, none⟩ = some (.int .u64 li) ∧ y.heap[p]? = some (.cells (rtRow (.slice h.la n h.lc) (.slice h.ca S.came.length h.cc) (.slice h.ra S.due.length h.rc) (.slice h.wa S.was.length h.wc) S.now).toArray RTT (0, 0))), z.w.cell? ⟨p, 0, none⟩ = some (.slice h.la n h.lc) := fun z => cell_row z.h.2 0 _ (rtRow_0 ..)
  refine wp_plan (.t 0 (.t 1 (.t 2 (.t 3 (.t 4 (.t 5 (.t 6 (.t 7 (.t 8 (.t 9 (.t 10 (.t 11 (.t 12 (.t 13 (.t 14 (.t 15 .done)))))))))))))))) (fun y => y.cell? ⟨gf, 5, none⟩ = some (.int .u64 li) ∧ y.heap[p]? = some (.cells (rtRow (.slice h.la n h.lc) (.slice h.ca S.came.length h.cc) (.slice h.ra S.due.length h.rc) (.slice h.wa S.was.length h.wc) S.now).toArray RTT (0, 0))) (by kernel_rfl) (by kernel_rfl) (by kernel_rfl) (fun c a d v w h => by first | (cases d <;> exact h) | exact HKP.out c a d v w h) ⟨HGC.out, HROW.out⟩ ?_
  haveI hne : Nonempty (In (fun y => y.cell? ⟨gf, 5, none⟩ = some (.int .u64 li) ∧ y.heap[p]? = some (.cells (rtRow (.slice h.la n h.lc) (.slice h.ca S.came.length h.cc) (.slice h.ra S.due.length h.rc) (.slice h.wa S.was.length h.wc) S.now).toArray RTT (0, 0)))) := ⟨⟨w, ⟨HGC.out, HROW.out⟩⟩⟩
  repeat (first | (refine plan_t (by rfl) ?_; (first | go_big_quiet_skip | (go_big_quiet_want; go_big_quiet_op; go_big_quiet_on)); refine wpQuiet_nil ?_))
  clear hne g0 g1 g2
  show Q _ _ _
  exact HK.out _ _ _ _ _ _ _ _ _ _ _ _ _ _ _ w.drew (Lib.hid (Below.refl w.heap.size w).drew)
end Go.Proofs.Ytjdcmhclamjcjaa
