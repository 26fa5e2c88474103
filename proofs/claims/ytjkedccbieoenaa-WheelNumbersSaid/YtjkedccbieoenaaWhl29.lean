/- wheel: play: one call. -/
import Derived.Test.YtjkedccbieoenaaWhl28
namespace Go.Proofs.Ytjkedccbieoenaa
open Go.RowKit
set_option linter.unusedVariables false
set_option linter.unusedSimpArgs false

theorem mem_ids {m T : List Tm} (h : m.Perm T) (id : Int) : id ∈ m.map Prod.fst ↔ id ∈ T.map Prod.fst := (h.map Prod.fst).mem_iff
theorem TsR.len {B : Nat} {w : World} {l : List Tm} {v : Value} (h : TsR B w l v) : ∃ a cap, v = .slice a l.length cap ∧ l.length ≤ cap ∧ cap ≤ 9223372036854775807 ∧ Tms w a l.length l := by
  obtain ⟨a, cap, e, h1, h2, h3, _⟩ := h; exact ⟨a, cap, e, h1, h2, h3⟩
set_option maxRecDepth 100000 in
set_option maxHeartbeats 4000000 in
theorem play_do {x0 x1 x2 x3 x4 x5 x6 x10 x13 x14 x15 x16 x17 x18 x19 x20 x21 x22 x23 x24 x25 x26 x27 x28 x29 x30 x31 x32 x33 x34 x35 x36 x37 x38 x39 x40 x41 x42 x43 x44 x45 x46 x47 x48 x49 x50 x51 x52 x53 x54 x55 x56 x57 x58 x59 x60 x61 x62 x63 x64 x65 x66 x67 x68 x69 x70 x72 x73 x74 x75 x76 x77 x78 x79 x80 x81 x82 x83 x84 x85 x86 x87 x88 x89 x90 x91 x92 x93 x94 x95 x96 x97 x98 x99 x100 x101 x102 x103 x104 x105 x106 x107 x108 x109 x110 x111 x112 x113 x114 x115 x116 x117 x118 x119 x120 x121 x122 x123 x124 x125 x126 x127 x128 x129 x130 x131 x132 x133 x134 x135 x136 x137 x138 x139 x140 x141 x142 x143 x144 x145 x146 x147 x148 x149 x150 x151 x152 x153 x154 x155 x156 x157 x158 x159 x160 x161 x162 x163 x164 x165 x166 x167 x168 x169 x170 x171 x172 x173 x174 x175 x176 x177 x178 x179 x180 x181 x182 x183 x184 x185 x186 x187 x188 x189 x190 x191 x192 x193 x194 x195 x196 x197 x198 x199 x200 x201 x202 x203 x204 x205 x206 x207 x208 x209 x210 : Value} {bse p n N K cap : Nat} {now id at_ ak : Int} {T m : List Tm} {a : Option Addr} (w : World) {Q : Exit → Act → World → Prop}
    (HP : Hid (PlX bse w p now T n (.slice a N cap) m)) (HM : Hid (m.Perm T)) (HA : Hid (Tms w a N m)) (HC : Hid (N ≤ cap ∧ cap ≤ 9223372036854775807)) (hK : K ≤ 80) (hn : n ≤ K) (hN : N ≤ K) (hid : -20 < id ∧ id < 20) (hat : -9223372036854775808 ≤ at_ ∧ at_ ≤ 9223372036854775807)
    (hQp : ∀ c a d v w, Q (.panic c) (a.put d v) w → Q (.panic c) a w)
    (hQ : ∀ (y6 y13 y14 y15 y16 y17 y18 y19 y72 y73 y74 y75 y76 y77 y78 y79 y80 y81 y82 y83 y84 y85 y86 y87 y88 y89 y90 y91 y92 y93 y94 y95 y96 y97 y98 y99 y100 y101 y102 y103 y104 y105 y106 y107 y108 y109 y110 y111 y112 y113 y114 y115 y116 y117 y118 y119 y120 y121 y122 y123 y124 y125 y126 y127 y128 y129 y130 y131 y132 y133 y134 y135 y136 : Value) (now2 : Int) (v2 : Value) (T2 m2 : List Tm) (n2 : Nat) (w' : World), Hid (PlX bse w' p now2 T2 n2 v2 m2) → Hid (m2.Perm T2) → n2 ≤ K + 1 → m2.length ≤ K + 1 → Hid (Below bse w w') → Q .normal ⟨List.toArray (x0 :: x1 :: x2 :: x3 :: x4 :: x5 :: y6 :: .pointer (some ⟨p, 0, none⟩) :: .int .i64 now2 :: v2 :: x10 :: .int .i64 id :: .int .i64 at_ :: y13 :: y14 :: y15 :: y16 :: y17 :: y18 :: y19 :: x20 :: x21 :: x22 :: x23 :: x24 :: x25 :: x26 :: x27 :: x28 :: x29 :: x30 :: x31 :: x32 :: x33 :: x34 :: x35 :: x36 :: x37 :: x38 :: x39 :: x40 :: x41 :: x42 :: x43 :: x44 :: x45 :: x46 :: x47 :: x48 :: x49 :: x50 :: x51 :: x52 :: x53 :: x54 :: x55 :: x56 :: x57 :: x58 :: x59 :: x60 :: x61 :: x62 :: x63 :: x64 :: x65 :: x66 :: x67 :: x68 :: x69 :: x70 :: .int .i64 ak :: y72 :: y73 :: y74 :: y75 :: y76 :: y77 :: y78 :: y79 :: y80 :: y81 :: y82 :: y83 :: y84 :: y85 :: y86 :: y87 :: y88 :: y89 :: y90 :: y91 :: y92 :: y93 :: y94 :: y95 :: y96 :: y97 :: y98 :: y99 :: y100 :: y101 :: y102 :: y103 :: y104 :: y105 :: y106 :: y107 :: y108 :: y109 :: y110 :: y111 :: y112 :: y113 :: y114 :: y115 :: y116 :: y117 :: y118 :: y119 :: y120 :: y121 :: y122 :: y123 :: y124 :: y125 :: y126 :: y127 :: y128 :: y129 :: y130 :: y131 :: y132 :: y133 :: y134 :: y135 :: y136 :: x137 :: x138 :: x139 :: x140 :: x141 :: x142 :: x143 :: x144 :: x145 :: x146 :: x147 :: x148 :: x149 :: x150 :: x151 :: x152 :: x153 :: x154 :: x155 :: x156 :: x157 :: x158 :: x159 :: x160 :: x161 :: x162 :: x163 :: x164 :: x165 :: x166 :: x167 :: x168 :: x169 :: x170 :: x171 :: x172 :: x173 :: x174 :: x175 :: x176 :: x177 :: x178 :: x179 :: x180 :: x181 :: x182 :: x183 :: x184 :: x185 :: x186 :: x187 :: x188 :: x189 :: x190 :: x191 :: x192 :: x193 :: x194 :: x195 :: x196 :: x197 :: x198 :: x199 :: x200 :: x201 :: x202 :: x203 :: x204 :: x205 :: x206 :: x207 :: x208 :: x209 :: x210 :: []), []⟩ w') :
    Code.wp Try.prog (((Try.f17.body.bind (subBlock 2)).getD .skip)) Q ⟨List.toArray (x0 :: x1 :: x2 :: x3 :: x4 :: x5 :: x6 :: .pointer (some ⟨p, 0, none⟩) :: .int .i64 now :: .slice a N cap :: x10 :: .int .i64 id :: .int .i64 at_ :: x13 :: x14 :: x15 :: x16 :: x17 :: x18 :: x19 :: x20 :: x21 :: x22 :: x23 :: x24 :: x25 :: x26 :: x27 :: x28 :: x29 :: x30 :: x31 :: x32 :: x33 :: x34 :: x35 :: x36 :: x37 :: x38 :: x39 :: x40 :: x41 :: x42 :: x43 :: x44 :: x45 :: x46 :: x47 :: x48 :: x49 :: x50 :: x51 :: x52 :: x53 :: x54 :: x55 :: x56 :: x57 :: x58 :: x59 :: x60 :: x61 :: x62 :: x63 :: x64 :: x65 :: x66 :: x67 :: x68 :: x69 :: x70 :: .int .i64 ak :: x72 :: x73 :: x74 :: x75 :: x76 :: x77 :: x78 :: x79 :: x80 :: x81 :: x82 :: x83 :: x84 :: x85 :: x86 :: x87 :: x88 :: x89 :: x90 :: x91 :: x92 :: x93 :: x94 :: x95 :: x96 :: x97 :: x98 :: x99 :: x100 :: x101 :: x102 :: x103 :: x104 :: x105 :: x106 :: x107 :: x108 :: x109 :: x110 :: x111 :: x112 :: x113 :: x114 :: x115 :: x116 :: x117 :: x118 :: x119 :: x120 :: x121 :: x122 :: x123 :: x124 :: x125 :: x126 :: x127 :: x128 :: x129 :: x130 :: x131 :: x132 :: x133 :: x134 :: x135 :: x136 :: x137 :: x138 :: x139 :: x140 :: x141 :: x142 :: x143 :: x144 :: x145 :: x146 :: x147 :: x148 :: x149 :: x150 :: x151 :: x152 :: x153 :: x154 :: x155 :: x156 :: x157 :: x158 :: x159 :: x160 :: x161 :: x162 :: x163 :: x164 :: x165 :: x166 :: x167 :: x168 :: x169 :: x170 :: x171 :: x172 :: x173 :: x174 :: x175 :: x176 :: x177 :: x178 :: x179 :: x180 :: x181 :: x182 :: x183 :: x184 :: x185 :: x186 :: x187 :: x188 :: x189 :: x190 :: x191 :: x192 :: x193 :: x194 :: x195 :: x196 :: x197 :: x198 :: x199 :: x200 :: x201 :: x202 :: x203 :: x204 :: x205 :: x206 :: x207 :: x208 :: x209 :: x210 :: []), []⟩ w := by
  have HK := Lib.hid hQ; have HKP := Lib.hid hQp
  clear hQ hQp
  conv => arg 2; whnf
  have HTL : Hid (T.length = N) := Lib.hid (by rw [← HM.out.length_eq]; exact HA.out.1.symm)
  have HNW := Lib.hid HP.out.now0
  have HND : Hid ((m.map Prod.fst).Nodup) := Lib.hid (((HM.out.map Prod.fst).nodup_iff).2 HP.out.nd)
  have HIDW : Hid ((Lit.int .i64 id).wf = true) := Lib.hid (wf_i64_of (by omega) (by omega))
  have HBS : Hid (bse ≤ w.heap.size) := Lib.hid (by obtain ⟨M, vs, b, _, _, h, _⟩ := HP.out; exact h)
  have HWO := Lib.hid (fun W (hb : Below w.heap.size w W) => without_any W a N cap m id (HA.out.below hb) HND.out (by omega) HC.out)
  by_cases k4 : ak = 4
  · have e4 : (ak == 4) = true := by simpa using k4
    clear k4
    go_wp2_with fail
    refine Calls.mono (HWO.out _ (Below.refl _ _)) ?_
    rintro e w1 (⟨hni, rfl, rfl⟩ | ⟨hmem, v2, rfl, hR, hb⟩)
    · skip
      have hd1 : decide (id ∈ T.map Prod.fst) = false := decide_eq_false (fun h => hni ((mem_ids HM.out id).2 h))
      have hdn : dropT T id = T := dropT_not (fun h => hni ((mem_ids HM.out id).2 h))
      have HDR := Lib.hid (HP.out.drop id HIDW.out (by rw [HTL.out]; omega))
      rw [hd1, hdn] at HDR
      clear hd1 hdn hni
      go_wp2_with fail
      refine Calls.mono HDR.out ?_
      rintro e w2 ⟨rfl, hp2, hb2⟩
      have HP2 := Lib.hid hp2; have HB2 := Lib.hid hb2
      clear hp2 hb2
      go_wp2_with fail
      exact HK.out _ _ _ _ _ _ _ _ _ _ _ _ _ _ _ _ _ _ _ _ _ _ _ _ _ _ _ _ _ _ _ _ _ _ _ _ _ _ _ _ _ _ _ _ _ _ _ _ _ _ _ _ _ _ _ _ _ _ _ _ _ _ _ _ _ _ _ _ _ _ _ _ _ _ _ _ _ _ _ HP2 HM (by omega) (by rw [← HA.out.1]; omega) HB2
    · skip
      have hd1 : decide (id ∈ T.map Prod.fst) = true := decide_eq_true ((mem_ids HM.out id).1 hmem)
      have HPN := Lib.hid (HP.out.new hb hR)
      have HDR := Lib.hid (HPN.out.drop id HIDW.out (by rw [HTL.out]; omega))
      rw [hd1] at HDR
      have HB1 : Hid (Below bse w w1) := Lib.hid (hb.mono HBS.out)
      clear hd1 hmem hR hb
      go_wp2_with fail
      refine Calls.mono HDR.out ?_
      rintro e w2 ⟨rfl, hp2, hb2⟩
      have HP2 := Lib.hid hp2; have HB2 := Lib.hid (HB1.out.trans hb2)
      clear hp2 hb2
      go_wp2_with fail
      exact HK.out _ _ _ _ _ _ _ _ _ _ _ _ _ _ _ _ _ _ _ _ _ _ _ _ _ _ _ _ _ _ _ _ _ _ _ _ _ _ _ _ _ _ _ _ _ _ _ _ _ _ _ _ _ _ _ _ _ _ _ _ _ _ _ _ _ _ _ _ _ _ _ _ _ _ _ _ _ _ _ HP2 (Lib.hid (dropT_perm HM.out id)) (by omega) (Nat.le_trans (len_dropT m id) (by rw [← HA.out.1]; omega)) HB2
  · have e4 : (ak == 4) = false := by simpa using k4
    clear k4
    have HDU := Lib.hid (fun W t (hb : Below w.heap.size w W) => due_any W a N cap m t (HA.out.below hb) (by omega))
    have HG0 : Hid (goN now at_ = max now (min at_ 1099511627776)) := Lib.hid rfl
    by_cases k5 : ak = 5
    · have e5 : (ak == 5) = true := by simpa using k5
      clear k5
      go_wp2_with fail
      refine Calls.mono (HDU.out _ _ (Below.refl _ _)) ?_
      rintro e w1 ⟨xa, xc, v2, N0, rfl, hxi, hn0, hs0, hR, hb, hxf⟩
      rw [← HG0.out] at *
      have HPY := Lib.hid (HP.out.withX hb hR hxi hxf)
      have HB1 : Hid (Below bse w w1) := Lib.hid (hb.mono HBS.out)
      have HN0 := Lib.hid hn0; have HS0 := Lib.hid hs0
      clear hxi hn0 hs0 hR hb hxf
      go_wp2_with fail
      refine Calls.mono (HPY.out.go at_ (by rw [HTL.out]; omega)) ?_
      rintro e w2 ⟨ga, gc, S, n2, rfl, hgi, hgp, hgs, hn2, hxi, hp2, hb2⟩
      obtain ⟨ed, hpm⟩ := due_same hgp HM.out hgs HN0.out HS0.out
      rw [ed] at hgi ⊢
      rw [List.length_map] at hgi ⊢
      have HSA := Lib.hid (same_int w2 _ _ _ gc xc _ (by have := hgi.1; have h1 := HN0.out.length_eq; have h2 := List.length_filter_le (duM (goN now at_)) m; have h3 := HA.out.1; rw [List.length_map] at this; omega) hgi hxi)
      have HP2 := Lib.hid hp2; have HB2 := Lib.hid (HB1.out.trans hb2); have HPM := Lib.hid hpm; have HN2 : Hid (n2 ≤ N) := Lib.hid (by rw [← HTL.out]; exact hn2)
      clear hgi hgp hgs hn2 hxi hp2 hb2 ed hpm HPY HN0 HS0
      go_wp2_with fail
      refine Calls.mono HSA.out ?_
      rintro e w3 ⟨rfl, nd, rfl⟩
      have hdr := bl_drewN (Below.refl w2.heap.size w2) nd
      have HP3 := Lib.hid (HP2.out.below hdr); have HB3 := Lib.hid (bl_next HB2.out (Nat.le_trans HBS.out HB2.out.size) hdr)
      clear hdr HSA HP2 HB2
      go_wp2_with fail
      exact HK.out _ _ _ _ _ _ _ _ _ _ _ _ _ _ _ _ _ _ _ _ _ _ _ _ _ _ _ _ _ _ _ _ _ _ _ _ _ _ _ _ _ _ _ _ _ _ _ _ _ _ _ _ _ _ _ _ _ _ _ _ _ _ _ _ _ _ _ _ _ _ _ _ _ _ _ _ _ _ _ HP3 HPM (by have := HN2.out; omega) (Nat.le_trans (List.length_filter_le _ _) (by rw [← HA.out.1]; omega)) HB3
    · have e5 : (ak == 5) = false := by simpa using k5
      clear k5
      by_cases k6 : ak = 6
      · have e6 : (ak == 6) = true := by simpa using k6
        clear k6
        go_wp2_with fail
        refine Calls.mono (HDU.out _ _ (Below.refl _ _)) ?_
        rintro e w1 ⟨xa, xc, v2, N0, rfl, hxi, hn0, hs0, hR, hb, hxf⟩
        rw [← HG0.out] at *
        have HPY := Lib.hid (HP.out.withX hb hR hxi hxf)
        have HB1 : Hid (Below bse w w1) := Lib.hid (hb.mono HBS.out)
        have HN0 := Lib.hid hn0; have HS0 := Lib.hid hs0
        clear hxi hn0 hs0 hR hb hxf
        go_wp2_with fail
        refine Calls.mono (HPY.out.go at_ (by rw [HTL.out]; omega)) ?_
        rintro e w2 ⟨ga, gc, S, n2, rfl, hgi, hgp, hgs, hn2, hxi, hp2, hb2⟩
        obtain ⟨ed, hpm⟩ := due_same hgp HM.out hgs HN0.out HS0.out
        rw [ed] at hgi ⊢
        rw [List.length_map] at hgi ⊢
        have HSA := Lib.hid (same_int w2 _ _ _ gc xc _ (by have := hgi.1; have h1 := HN0.out.length_eq; have h2 := List.length_filter_le (duM (goN now at_)) m; have h3 := HA.out.1; rw [List.length_map] at this; omega) hgi hxi)
        have HP2 := Lib.hid hp2; have HB2 := Lib.hid (HB1.out.trans hb2); have HPM := Lib.hid hpm; have HN2 : Hid (n2 ≤ N) := Lib.hid (by rw [← HTL.out]; exact hn2)
        clear hgi hgp hgs hn2 hxi hp2 hb2 ed hpm HPY HN0 HS0
        go_wp2_with fail
        refine Calls.mono HSA.out ?_
        rintro e w3 ⟨rfl, nd, rfl⟩
        have hdr := bl_drewN (Below.refl w2.heap.size w2) nd
        have HP3 := Lib.hid (HP2.out.below hdr); have HB3 := Lib.hid (bl_next HB2.out (Nat.le_trans HBS.out HB2.out.size) hdr)
        clear hdr HSA HP2 HB2
        go_wp2_with fail
        exact HK.out _ _ _ _ _ _ _ _ _ _ _ _ _ _ _ _ _ _ _ _ _ _ _ _ _ _ _ _ _ _ _ _ _ _ _ _ _ _ _ _ _ _ _ _ _ _ _ _ _ _ _ _ _ _ _ _ _ _ _ _ _ _ _ _ _ _ _ _ _ _ _ _ _ _ _ _ _ _ _ HP3 HPM (by have := HN2.out; omega) (Nat.le_trans (List.length_filter_le _ _) (by rw [← HA.out.1]; omega)) HB3
      · have e6 : (ak == 6) = false := by simpa using k6
        clear k6
        by_cases k7 : ak = 7
        · have e7 : (ak == 7) = true := by simpa using k7
          clear k7
          go_wp2_with fail
          refine Calls.mono (HDU.out _ _ (Below.refl _ _)) ?_
          rintro e w1 ⟨xa, xc, v2, N0, rfl, hxi, hn0, hs0, hR, hb, hxf⟩
          rw [← HG0.out] at *
          have HPY := Lib.hid (HP.out.withX hb hR hxi hxf)
          have HB1 : Hid (Below bse w w1) := Lib.hid (hb.mono HBS.out)
          have HN0 := Lib.hid hn0; have HS0 := Lib.hid hs0
          clear hxi hn0 hs0 hR hb hxf
          go_wp2_with fail
          refine Calls.mono (HPY.out.go at_ (by rw [HTL.out]; omega)) ?_
          rintro e w2 ⟨ga, gc, S, n2, rfl, hgi, hgp, hgs, hn2, hxi, hp2, hb2⟩
          obtain ⟨ed, hpm⟩ := due_same hgp HM.out hgs HN0.out HS0.out
          rw [ed] at hgi ⊢
          rw [List.length_map] at hgi ⊢
          have HSA := Lib.hid (same_int w2 _ _ _ gc xc _ (by have := hgi.1; have h1 := HN0.out.length_eq; have h2 := List.length_filter_le (duM (goN now at_)) m; have h3 := HA.out.1; rw [List.length_map] at this; omega) hgi hxi)
          have HP2 := Lib.hid hp2; have HB2 := Lib.hid (HB1.out.trans hb2); have HPM := Lib.hid hpm; have HN2 : Hid (n2 ≤ N) := Lib.hid (by rw [← HTL.out]; exact hn2)
          clear hgi hgp hgs hn2 hxi hp2 hb2 ed hpm HPY HN0 HS0
          go_wp2_with fail
          refine Calls.mono HSA.out ?_
          rintro e w3 ⟨rfl, nd, rfl⟩
          have hdr := bl_drewN (Below.refl w2.heap.size w2) nd
          have HP3 := Lib.hid (HP2.out.below hdr); have HB3 := Lib.hid (bl_next HB2.out (Nat.le_trans HBS.out HB2.out.size) hdr)
          clear hdr HSA HP2 HB2
          go_wp2_with fail
          exact HK.out _ _ _ _ _ _ _ _ _ _ _ _ _ _ _ _ _ _ _ _ _ _ _ _ _ _ _ _ _ _ _ _ _ _ _ _ _ _ _ _ _ _ _ _ _ _ _ _ _ _ _ _ _ _ _ _ _ _ _ _ _ _ _ _ _ _ _ _ _ _ _ _ _ _ _ _ _ _ _ HP3 HPM (by have := HN2.out; omega) (Nat.le_trans (List.length_filter_le _ _) (by rw [← HA.out.1]; omega)) HB3
        · have e7 : (ak == 7) = false := by simpa using k7
          clear k7
          by_cases k8 : ak = 8
          · have e8 : (ak == 8) = true := by simpa using k8
            clear k8
            go_wp2_with fail
            refine Calls.mono (HDU.out _ _ (Below.refl _ _)) ?_
            rintro e w1 ⟨xa, xc, v2, N0, rfl, hxi, hn0, hs0, hR, hb, hxf⟩
            rw [← HG0.out] at *
            have HPY := Lib.hid (HP.out.withX hb hR hxi hxf)
            have HB1 : Hid (Below bse w w1) := Lib.hid (hb.mono HBS.out)
            have HN0 := Lib.hid hn0; have HS0 := Lib.hid hs0
            clear hxi hn0 hs0 hR hb hxf
            go_wp2_with fail
            refine Calls.mono (HPY.out.go at_ (by rw [HTL.out]; omega)) ?_
            rintro e w2 ⟨ga, gc, S, n2, rfl, hgi, hgp, hgs, hn2, hxi, hp2, hb2⟩
            obtain ⟨ed, hpm⟩ := due_same hgp HM.out hgs HN0.out HS0.out
            rw [ed] at hgi ⊢
            rw [List.length_map] at hgi ⊢
            have HSA := Lib.hid (same_int w2 _ _ _ gc xc _ (by have := hgi.1; have h1 := HN0.out.length_eq; have h2 := List.length_filter_le (duM (goN now at_)) m; have h3 := HA.out.1; rw [List.length_map] at this; omega) hgi hxi)
            have HP2 := Lib.hid hp2; have HB2 := Lib.hid (HB1.out.trans hb2); have HPM := Lib.hid hpm; have HN2 : Hid (n2 ≤ N) := Lib.hid (by rw [← HTL.out]; exact hn2)
            clear hgi hgp hgs hn2 hxi hp2 hb2 ed hpm HPY HN0 HS0
            go_wp2_with fail
            refine Calls.mono HSA.out ?_
            rintro e w3 ⟨rfl, nd, rfl⟩
            have hdr := bl_drewN (Below.refl w2.heap.size w2) nd
            have HP3 := Lib.hid (HP2.out.below hdr); have HB3 := Lib.hid (bl_next HB2.out (Nat.le_trans HBS.out HB2.out.size) hdr)
            clear hdr HSA HP2 HB2
            go_wp2_with fail
            exact HK.out _ _ _ _ _ _ _ _ _ _ _ _ _ _ _ _ _ _ _ _ _ _ _ _ _ _ _ _ _ _ _ _ _ _ _ _ _ _ _ _ _ _ _ _ _ _ _ _ _ _ _ _ _ _ _ _ _ _ _ _ _ _ _ _ _ _ _ _ _ _ _ _ _ _ _ _ _ _ _ HP3 HPM (by have := HN2.out; omega) (Nat.le_trans (List.length_filter_le _ _) (by rw [← HA.out.1]; omega)) HB3
          · have e8 : (ak == 8) = false := by simpa using k8
            clear k8
            by_cases hok : 0 ≤ at_ ∧ at_ ≤ 1125899906842624
            · obtain ⟨ho1, ho2⟩ := hok
              have HDM : Hid (max at_ now = dueM now at_) := Lib.hid (by unfold dueM; split <;> omega)
              have HTW : Hid (tmwf (id, dueM now at_)) := Lib.hid ⟨HIDW.out, wf_i64_of (by unfold dueM; split <;> (have := HNW.out; omega)) (by unfold dueM; split <;> (have := HNW.out; omega))⟩
              go_wp2_with fail
              refine Calls.mono (HP.out.set id at_ HIDW.out ⟨ho1, ho2⟩ (by omega) (by rw [HTL.out]; omega)) ?_
              rintro e w2 ⟨rfl, hp2, hb2⟩
              obtain ⟨a2, c2, ev, _, _, htm⟩ := hp2.lst
              injection ev with ev1 ev2 ev3
              subst ev1; subst ev3
              rw [← ev2] at htm
              have HP2 := Lib.hid hp2; have HB2 := Lib.hid hb2; have HT2 := Lib.hid htm
              clear hp2 hb2 htm ev2
              go_wp2_with fail
              refine Calls.mono (without_any w2 a N cap m id HT2.out HND.out (by omega) HC.out) ?_
              rintro e w3 hwo
              obtain ⟨ok3, n3, a3, c3, rfl, hb3, ht3, hle3⟩ : ∃ (ok3 : Bool) (n3 : Nat) (a3 : Option Addr) (c3 : Nat), e = .returned (.tuple #[.slice a3 n3 c3, .bool ok3]) ∧ Below w2.heap.size w2 w3 ∧ Tms w3 a3 n3 (dropT m id) ∧ n3 ≤ N := by
                rcases hwo with ⟨hni, rfl, rfl⟩ | ⟨_, v2, rfl, hR, hb⟩
                · exact ⟨false, N, a, cap, rfl, Below.refl _ _, by rw [dropT_not hni]; exact HT2.out, Nat.le_refl _⟩
                · obtain ⟨a3, c3, e3, _, _, h3⟩ := hR.len
                  exact ⟨true, _, a3, c3, by rw [e3], hb, h3, Nat.le_trans (len_dropT m id) (by rw [← HA.out.1]; exact Nat.le_refl _)⟩
              clear hwo
              have HP3 := Lib.hid (HP2.out.below hb3); have HB3 := Lib.hid (bl_next HB2.out (Nat.le_trans HBS.out HB2.out.size) hb3); have HT3 := Lib.hid ht3
              clear hb3 ht3 HP2 HB2 HT2
              have hal := (Below.refl w3.heap.size w3).alloc (Nat.le_refl _) (.cells #[] 70)
              have HO0 := Lib.hid (mk_own w3.heap.size w3 (Nat.le_refl _)); have HB0 := Lib.hid hal; have HI0 := Lib.hid (HT3.out.below hal)
              clear hal
              go_wp2_with (first | (at_builtin; refine wpList_append_tm tmL rfl _ _ rfl w3.heap.size 0 (.slice (some ⟨w3.heap.size, 0, none⟩) 0 0) [] rfl HO0.out a3 n3 c3 (dropT m id) rfl HI0.out (by omega) HB0.out.size ?_; intro v1 w5 ho5 hg5 _; rw [List.nil_append, Nat.zero_add] at ho5; have HO1 := Lib.hid ho5; have HB1 := Lib.hid (HB0.out.grown hg5 HB0.out.size (fun k hk => by simp [Value.ownBlock] at hk; omega)); clear ho5 hg5) | ((try rw [HDM.out]); refine wpList_build_tm tmL rfl _ rfl (id, dueM now at_) rfl ?_) | (at_builtin; refine wpList_append_tm tmL rfl _ _ rfl w3.heap.size n3 v1 (dropT m id) rfl (own_below HO1.out ((Below.refl w5.heap.size w5).alloc (Nat.le_refl _) (.cells (tmV (id, dueM now at_)).toArray 70))) _ 1 1 [(id, dueM now at_)] rfl (tms_made w5 (id, dueM now at_) HTW.out 70) (by omega) (Nat.le_trans HB1.out.size (by simp)) ?_; intro v6 w6 ho6 hg6 _; have HO6 := Lib.hid ho6; have HB6 := Lib.hid ((bl_next HB1.out HB1.out.size ((Below.refl w5.heap.size w5).alloc (Nat.le_refl _) (.cells (tmV (id, dueM now at_)).toArray 70))).grown hg6 (Nat.le_trans HB1.out.size (by simp)) (fun k hk => (HO1.out.lt k hk).1)); clear ho6 hg6) | fail)
              have HR6 := Lib.hid (TsR.of HO6.out (fun y hy => by rcases List.mem_append.1 hy with hy | hy; (exact HT3.out.2.1 y hy); (rw [List.mem_singleton.1 hy]; exact HTW.out)))
              have HP6 := Lib.hid (HP3.out.new HB6.out HR6.out)
              exact HK.out _ _ _ _ _ _ _ _ _ _ _ _ _ _ _ _ _ _ _ _ _ _ _ _ _ _ _ _ _ _ _ _ _ _ _ _ _ _ _ _ _ _ _ _ _ _ _ _ _ _ _ _ _ _ _ _ _ _ _ _ _ _ _ _ _ _ _ _ _ _ _ _ _ _ _ _ _ _ _ HP6 (Lib.hid ((dropT_perm HM.out id).append_right _)) (by omega) (by rw [List.length_append, ← HT3.out.1]; simp; omega) (Lib.hid (bl_next HB3.out (Nat.le_trans HBS.out (HB3.out.size)) HB6.out))
            · have hbad : at_ < 0 ∨ 1125899906842624 < at_ := by omega
              by_cases ho1 : 0 ≤ at_
              · skip
                have ho2 : ¬ at_ ≤ 1125899906842624 := by omega
                have HST := Lib.hid (set_bad w p id at_ hbad)
                clear hok hbad
                go_wp2_with fail
                refine Calls.mono HST.out ?_
                rintro e wq ⟨rfl, rfl⟩
                go_wp2_with fail
                exact HK.out _ _ _ _ _ _ _ _ _ _ _ _ _ _ _ _ _ _ _ _ _ _ _ _ _ _ _ _ _ _ _ _ _ _ _ _ _ _ _ _ _ _ _ _ _ _ _ _ _ _ _ _ _ _ _ _ _ _ _ _ _ _ _ _ _ _ _ _ _ _ _ _ _ _ _ _ _ _ _ HP HM (by omega) (by rw [← HA.out.1]; omega) (Lib.hid ((Below.refl w.heap.size w).mono HBS.out))
              · skip
                skip
                have HST := Lib.hid (set_bad w p id at_ hbad)
                clear hok hbad
                go_wp2_with fail
                refine Calls.mono HST.out ?_
                rintro e wq ⟨rfl, rfl⟩
                go_wp2_with fail
                exact HK.out _ _ _ _ _ _ _ _ _ _ _ _ _ _ _ _ _ _ _ _ _ _ _ _ _ _ _ _ _ _ _ _ _ _ _ _ _ _ _ _ _ _ _ _ _ _ _ _ _ _ _ _ _ _ _ _ _ _ _ _ _ _ _ _ _ _ _ _ _ _ _ _ _ _ _ _ _ _ _ HP HM (by omega) (by rw [← HA.out.1]; omega) (Lib.hid ((Below.refl w.heap.size w).mono HBS.out))
end Go.Proofs.Ytjkedccbieoenaa
