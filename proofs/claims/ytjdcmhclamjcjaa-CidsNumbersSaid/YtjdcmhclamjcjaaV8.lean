/- texts of the proof, laid together: Cid35, Cid36, PlanN, Cid37, Cid38, Cid39, Cid40. -/
import Derived.Test.YtjdcmhclamjcjaaV7
import Derived.Test.YtjdcmhclamjcjaaV6
import Derived.Test.YtjdcmhclamjcjaaV1
import Derived.Test.YtjdcmhclamjcjaaV3
namespace Go.Proofs.Ytjdcmhclamjcjaa
open Go.RowKit
set_option linter.unusedVariables false
set_option linter.unusedSimpArgs false

theorem nm_pair {L : List Nm} {i : Nat} (h : i < L.length) : ∃ d e, L[i]? = some (d, e) := ⟨L[i].1, L[i].2, List.getElem?_eq_getElem h⟩
theorem filt_snoc {L : List Nm} {i : Nat} {x : Nm} (hx : L[i]? = some x) (is : Nm → Bool) : (L.take (i + 1)).filter is = if is x then (L.take i).filter is ++ [x] else (L.take i).filter is := by
  rw [take_snd' hx, List.filter_append]
  by_cases h : is x <;> simp [h]
theorem retF9_snoc (M : List Nm) (x : Nm) (T : Th) : retF9 (M ++ [x]) T = retS (retF9 M T) x.1 := by unfold retF9; rw [List.foldl_append]; rfl
theorem retF9_due : ∀ (M : List Nm) (T : Th), T.due.Pairwise (· < ·) → (retF9 M T).due.Pairwise (· < ·)
  | [], T, h => h
  | y :: M, T, h => retF9_due M (retS T y.1) (dueM_sorted h)
set_option maxRecDepth 100000 in
set_option maxHeartbeats 4000000 in
theorem ron_place {x1 x2 x3 x4 x5 x6 x7 x8 x11 x12 x13 x14 x15 x16 x17 x18 x19 x20 x21 x22 x23 x24 x25 x26 x27 x28 x29 x30 x31 x32 x33 x34 x35 x36 x37 x38 x39 x40 x41 x42 x43 x44 x45 x46 x47 x48 x49 x50 x51 x52 x53 x54 x55 x56 x57 x58 x59 x60 x61 x62 x63 x64 x65 x66 x67 x68 x69 x70 x71 x72 x73 x74 x75 x76 x77 x78 x79 x80 x81 x82 x83 x84 x85 x86 x87 x88 x89 x90 x91 x92 x93 x94 x95 x96 x97 x98 x99 x100 x101 x102 x103 x104 x105 x106 x107 x108 x109 x110 x111 x112 x113 x114 x115 x116 x117 x118 x119 x120 x121 x122 x123 x124 x125 x126 x127 x128 x129 x130 x131 x132 x133 x134 x135 x136 x137 x138 x139 x140 x141 x142 x143 x144 x145 x146 x147 x148 x149 x150 x151 x152 x153 x154 x155 x156 x157 x158 x159 x160 x161 x162 x163 x164 x165 x166 x167 x168 x169 x170 x171 x172 x173 x174 x175 : Value} {p gx N : Nat} {B : List Nat} {S : Th} {h : RH} {q : Int} {RX : List Value} (w : World) {Q : Exit → Act → World → Prop}
    (HT : Hid (RtAt w p B N S h)) (HG : Hid (w.heap[gx]? = some (.cells RX.toArray 75 (0, 0)))) (HG0 : Hid (RX[0]? = some (.int .u64 q))) (hq : U64 q) (hnb : N < 90000)
    (hQp : ∀ c a d v w, Q (.panic c) (a.put d v) w → Q (.panic c) a w)
    (hQ : ∀ (y77 y78 y79 y80 y81 y82 y83 y84 y85 y86 y87 y88 y89 y90 y91 y92 y93 y94 y95 y96 y97 y98 : Value) (i : Nat) (w' : World), i ≤ S.L.length → Hid (∀ y ∈ S.L.take i, y.1 < q) → Hid (∀ y, S.L[i]? = some y → ¬ y.1 < q) → Hid (Below w.heap.size w w') → Q .normal ⟨List.toArray (.pointer (some ⟨p, 0, none⟩) :: x1 :: x2 :: x3 :: x4 :: x5 :: x6 :: x7 :: x8 :: .pointer (some ⟨gx, 0, none⟩) :: .int .i64 (i : Int) :: x11 :: x12 :: x13 :: x14 :: x15 :: x16 :: x17 :: x18 :: x19 :: x20 :: x21 :: x22 :: x23 :: x24 :: x25 :: x26 :: x27 :: x28 :: x29 :: x30 :: x31 :: x32 :: x33 :: x34 :: x35 :: x36 :: x37 :: x38 :: x39 :: x40 :: x41 :: x42 :: x43 :: x44 :: x45 :: x46 :: x47 :: x48 :: x49 :: x50 :: x51 :: x52 :: x53 :: x54 :: x55 :: x56 :: x57 :: x58 :: x59 :: x60 :: x61 :: x62 :: x63 :: x64 :: x65 :: x66 :: x67 :: x68 :: x69 :: x70 :: x71 :: x72 :: x73 :: x74 :: x75 :: x76 :: y77 :: y78 :: y79 :: y80 :: y81 :: y82 :: y83 :: y84 :: y85 :: y86 :: y87 :: y88 :: y89 :: y90 :: y91 :: y92 :: y93 :: y94 :: y95 :: y96 :: y97 :: y98 :: x99 :: x100 :: x101 :: x102 :: x103 :: x104 :: x105 :: x106 :: x107 :: x108 :: x109 :: x110 :: x111 :: x112 :: x113 :: x114 :: x115 :: x116 :: x117 :: x118 :: x119 :: x120 :: x121 :: x122 :: x123 :: x124 :: x125 :: x126 :: x127 :: x128 :: x129 :: x130 :: x131 :: x132 :: x133 :: x134 :: x135 :: x136 :: x137 :: x138 :: x139 :: x140 :: x141 :: x142 :: x143 :: x144 :: x145 :: x146 :: x147 :: x148 :: x149 :: x150 :: x151 :: x152 :: x153 :: x154 :: x155 :: x156 :: x157 :: x158 :: x159 :: x160 :: x161 :: x162 :: x163 :: x164 :: x165 :: x166 :: x167 :: x168 :: x169 :: x170 :: x171 :: x172 :: x173 :: x174 :: x175 :: []), []⟩ w') :
    Code.wp Try.prog (((Try.f17.body.bind (subBlock 2)).getD .skip)) Q ⟨List.toArray (.pointer (some ⟨p, 0, none⟩) :: x1 :: x2 :: x3 :: x4 :: x5 :: x6 :: x7 :: x8 :: .pointer (some ⟨gx, 0, none⟩) :: .int .i64 0 :: x11 :: x12 :: x13 :: x14 :: x15 :: x16 :: x17 :: x18 :: x19 :: x20 :: x21 :: x22 :: x23 :: x24 :: x25 :: x26 :: x27 :: x28 :: x29 :: x30 :: x31 :: x32 :: x33 :: x34 :: x35 :: x36 :: x37 :: x38 :: x39 :: x40 :: x41 :: x42 :: x43 :: x44 :: x45 :: x46 :: x47 :: x48 :: x49 :: x50 :: x51 :: x52 :: x53 :: x54 :: x55 :: x56 :: x57 :: x58 :: x59 :: x60 :: x61 :: x62 :: x63 :: x64 :: x65 :: x66 :: x67 :: x68 :: x69 :: x70 :: x71 :: x72 :: x73 :: x74 :: x75 :: x76 :: x77 :: x78 :: x79 :: x80 :: x81 :: x82 :: x83 :: x84 :: x85 :: x86 :: x87 :: x88 :: x89 :: x90 :: x91 :: x92 :: x93 :: x94 :: x95 :: x96 :: x97 :: x98 :: x99 :: x100 :: x101 :: x102 :: x103 :: x104 :: x105 :: x106 :: x107 :: x108 :: x109 :: x110 :: x111 :: x112 :: x113 :: x114 :: x115 :: x116 :: x117 :: x118 :: x119 :: x120 :: x121 :: x122 :: x123 :: x124 :: x125 :: x126 :: x127 :: x128 :: x129 :: x130 :: x131 :: x132 :: x133 :: x134 :: x135 :: x136 :: x137 :: x138 :: x139 :: x140 :: x141 :: x142 :: x143 :: x144 :: x145 :: x146 :: x147 :: x148 :: x149 :: x150 :: x151 :: x152 :: x153 :: x154 :: x155 :: x156 :: x157 :: x158 :: x159 :: x160 :: x161 :: x162 :: x163 :: x164 :: x165 :: x166 :: x167 :: x168 :: x169 :: x170 :: x171 :: x172 :: x173 :: x174 :: x175 :: []), []⟩ w := by
  have HK := Lib.hid hQ; have HKP := Lib.hid hQp
  clear hQ hQp
  conv => arg 2; whnf
  have hln := HT.out.len.1
  obtain ⟨n, hn⟩ : ∃ n, S.L.length = n := ⟨_, rfl⟩
  have HN := Lib.hid hn
  rw [hn] at hln
  clear hn
  go_wp2_with fail
  go_loopw [10] (fun s10 wr => ∃ (i : Nat), s10 = .int .i64 i ∧ i ≤ n ∧ Hid (Below w.heap.size w wr) ∧ Hid (∀ y ∈ S.L.take i, y.1 < q)) (fun s _ => n - (intOf s).toNat)
  case atStart => exact ⟨0, rfl, by omega, Lib.hid (Below.refl _ _), Lib.hid (by simp)⟩
  case round =>
    obtain ⟨i, rfl, hi, HB, HA⟩ := hrel
    have HT1 := Lib.hid (HT.out.below HB.out)
    have HG1 := Lib.hid (bl_row HB.out (lt_of_block HG.out) HG.out)
    by_cases hlt : i < n
    · skip
      obtain ⟨d, e, hx⟩ := nm_pair (L := S.L) (i := i) (by rw [HN.out]; exact hlt)
      have HX := Lib.hid hx
      clear hx
      by_cases hds : d < q
      · skip
        go_upto_region 18 with fail
        refine ron_less _ HT1 HG1 HG0 hq hnb HX hds (fun c a d v w h => by first | (cases d <;> exact h) | exact HKP.out c a d v w h) ?_
        rintro _ _ _ _ _ _ _ _ _ _ _ _ _ _ _ _ _ _ _ w8 HB8
        replace HB := Lib.hid (bl_next HB.out HB.out.size HB8.out)
        clear HB8 HT1 HG1
        have HDS := Lib.hid hds
        clear hds
        go_wp2_with fail
        go_roundw
        case rel => exact ⟨i + 1, by go_num, by omega, HB, Lib.hid (fun y hy => by rw [take_snd' HX.out] at hy; rcases List.mem_append.1 hy with h9 | h9; exact HA.out y h9; rw [List.mem_singleton.1 h9]; exact HDS.out)⟩
        case measure => simp [intOf]; omega
      · skip
        go_upto_region 18 with fail
        refine ron_notless _ HT1 HG1 HG0 hq hnb HX hds (fun c a d v w h => by first | (cases d <;> exact h) | exact HKP.out c a d v w h) ?_
        rintro _ _ _ _ _ _ _ _ _ _ _ _ _ _ _ _ _ _ _ w8 HB8
        replace HB := Lib.hid (bl_next HB.out HB.out.size HB8.out)
        clear HB8 HT1 HG1
        have HDS := Lib.hid hds
        clear hds
        go_wp2_with fail
        exact HK.out _ _ _ _ _ _ _ _ _ _ _ _ _ _ _ _ _ _ _ _ _ _ i _ (by rw [HN.out]; exact hi) HA (Lib.hid (fun y hy => by rw [HX.out] at hy; injection hy with hy; subst hy; exact HDS.out)) HB
    · obtain rfl : n = i := by omega
      go_upto_region 18 with fail
      refine ron_end _ HT1 HG1 HG0 hq hnb (Lib.hid HN.out.symm) (fun c a d v w h => by first | (cases d <;> exact h) | exact HKP.out c a d v w h) ?_
      rintro _ _ _ _ _ _ _ _ _ _ _ _ _ _ _ _ _ _ _ w8 HB8
      replace HB := Lib.hid (bl_next HB.out HB.out.size HB8.out)
      clear HB8 HT1 HG1
      go_wp2_with fail
      exact HK.out _ _ _ _ _ _ _ _ _ _ _ _ _ _ _ _ _ _ _ _ _ _ n _ (by rw [HN.out]; exact Nat.le_refl _) HA (Lib.hid (fun y hy => by rw [List.getElem?_eq_none (by rw [HN.out]; exact Nat.le_refl _)] at hy; cases hy)) HB
set_option maxRecDepth 100000 in
set_option maxHeartbeats 4000000 in
theorem ron_drop {x1 x2 x4 x5 x6 x7 x8 x9 x10 x13 x14 x15 x16 x17 x18 x19 x20 x21 x22 x23 x24 x25 x26 x27 x28 x29 x30 x31 x32 x33 x34 x35 x36 x37 x38 x39 x40 x41 x42 x43 x44 x45 x46 x47 x48 x49 x50 x51 x52 x53 x54 x55 x56 x57 x58 x59 x60 x61 x62 x63 x64 x65 x66 x67 x68 x69 x70 x71 x72 x73 x74 x75 x76 x77 x78 x79 x80 x81 x82 x83 x84 x85 x86 x87 x88 x89 x90 x91 x92 x93 x94 x95 x96 x97 x98 x99 x100 x101 x102 x103 x104 x105 x106 x107 x108 x109 x110 x111 x112 x113 x114 x115 x116 x117 x118 x119 x120 x121 x122 x123 x124 x125 x126 x127 x128 x129 x130 x131 x132 x133 x134 x135 x136 x137 x138 x139 x140 x141 x142 x143 x144 x145 x146 x147 x148 x149 x150 x151 x152 x153 x154 x155 x156 x157 x158 x159 x160 x161 x162 x163 x164 x165 x166 x167 x168 x169 x170 x171 x172 x173 x174 x175 : Value} {p gf N n : Nat} {B : List Nat} {S : Th} {h : RH} {li : Int} {RF : List Value} (w : World) {Q : Exit → Act → World → Prop}
    (HT : Hid (RtAt w p B N S h)) (HF : Hid (w.heap[gf]? = some (.cells RF.toArray 53 (0, 0)))) (HF5 : Hid (RF[5]? = some (.int .u64 li))) (hli : U64 li) (HN : Hid (S.L.length = n)) (HSD : Hid (S.due.Pairwise (· < ·))) (HGB : Hid (gf ∉ B)) (hnb : N + n + n < 80000)
    (hQp : ∀ c a d v w, Q (.panic c) (a.put d v) w → Q (.panic c) a w)
    (hQ : ∀ (y12 y124 y125 y126 y127 y128 y129 y130 y131 y132 y133 y134 y135 y136 y137 y138 y139 y140 y141 y142 y143 y144 : Value) (w' : World), Hid (RtU w p B w' (N + n + n) (retF9 (S.L.filter fun x => decide (x.1 < li)) S)) → Hid (w'.heap[gf]? = some (.cells RF.toArray 53 (0, 0))) → Q .normal ⟨List.toArray (.pointer (some ⟨p, 0, none⟩) :: x1 :: x2 :: .pointer (some ⟨gf, 0, none⟩) :: x4 :: x5 :: x6 :: x7 :: x8 :: x9 :: x10 :: .slice h.la n h.lc :: y12 :: x13 :: x14 :: x15 :: x16 :: x17 :: x18 :: x19 :: x20 :: x21 :: x22 :: x23 :: x24 :: x25 :: x26 :: x27 :: x28 :: x29 :: x30 :: x31 :: x32 :: x33 :: x34 :: x35 :: x36 :: x37 :: x38 :: x39 :: x40 :: x41 :: x42 :: x43 :: x44 :: x45 :: x46 :: x47 :: x48 :: x49 :: x50 :: x51 :: x52 :: x53 :: x54 :: x55 :: x56 :: x57 :: x58 :: x59 :: x60 :: x61 :: x62 :: x63 :: x64 :: x65 :: x66 :: x67 :: x68 :: x69 :: x70 :: x71 :: x72 :: x73 :: x74 :: x75 :: x76 :: x77 :: x78 :: x79 :: x80 :: x81 :: x82 :: x83 :: x84 :: x85 :: x86 :: x87 :: x88 :: x89 :: x90 :: x91 :: x92 :: x93 :: x94 :: x95 :: x96 :: x97 :: x98 :: x99 :: x100 :: x101 :: x102 :: x103 :: x104 :: x105 :: x106 :: x107 :: x108 :: x109 :: x110 :: x111 :: x112 :: x113 :: x114 :: x115 :: x116 :: x117 :: x118 :: x119 :: x120 :: x121 :: x122 :: x123 :: y124 :: y125 :: y126 :: y127 :: y128 :: y129 :: y130 :: y131 :: y132 :: y133 :: y134 :: y135 :: y136 :: y137 :: y138 :: y139 :: y140 :: y141 :: y142 :: y143 :: y144 :: x145 :: x146 :: x147 :: x148 :: x149 :: x150 :: x151 :: x152 :: x153 :: x154 :: x155 :: x156 :: x157 :: x158 :: x159 :: x160 :: x161 :: x162 :: x163 :: x164 :: x165 :: x166 :: x167 :: x168 :: x169 :: x170 :: x171 :: x172 :: x173 :: x174 :: x175 :: []), []⟩ w') :
    Code.wp Try.prog (((Try.f17.body.bind (subBlock 4)).getD .skip)) Q ⟨List.toArray (.pointer (some ⟨p, 0, none⟩) :: x1 :: x2 :: .pointer (some ⟨gf, 0, none⟩) :: x4 :: x5 :: x6 :: x7 :: x8 :: x9 :: x10 :: .slice h.la n h.lc :: .int .i64 0 :: x13 :: x14 :: x15 :: x16 :: x17 :: x18 :: x19 :: x20 :: x21 :: x22 :: x23 :: x24 :: x25 :: x26 :: x27 :: x28 :: x29 :: x30 :: x31 :: x32 :: x33 :: x34 :: x35 :: x36 :: x37 :: x38 :: x39 :: x40 :: x41 :: x42 :: x43 :: x44 :: x45 :: x46 :: x47 :: x48 :: x49 :: x50 :: x51 :: x52 :: x53 :: x54 :: x55 :: x56 :: x57 :: x58 :: x59 :: x60 :: x61 :: x62 :: x63 :: x64 :: x65 :: x66 :: x67 :: x68 :: x69 :: x70 :: x71 :: x72 :: x73 :: x74 :: x75 :: x76 :: x77 :: x78 :: x79 :: x80 :: x81 :: x82 :: x83 :: x84 :: x85 :: x86 :: x87 :: x88 :: x89 :: x90 :: x91 :: x92 :: x93 :: x94 :: x95 :: x96 :: x97 :: x98 :: x99 :: x100 :: x101 :: x102 :: x103 :: x104 :: x105 :: x106 :: x107 :: x108 :: x109 :: x110 :: x111 :: x112 :: x113 :: x114 :: x115 :: x116 :: x117 :: x118 :: x119 :: x120 :: x121 :: x122 :: x123 :: x124 :: x125 :: x126 :: x127 :: x128 :: x129 :: x130 :: x131 :: x132 :: x133 :: x134 :: x135 :: x136 :: x137 :: x138 :: x139 :: x140 :: x141 :: x142 :: x143 :: x144 :: x145 :: x146 :: x147 :: x148 :: x149 :: x150 :: x151 :: x152 :: x153 :: x154 :: x155 :: x156 :: x157 :: x158 :: x159 :: x160 :: x161 :: x162 :: x163 :: x164 :: x165 :: x166 :: x167 :: x168 :: x169 :: x170 :: x171 :: x172 :: x173 :: x174 :: x175 :: []), []⟩ w := by
  have HK := Lib.hid hQ; have HKP := Lib.hid hQp
  clear hQ hQp
  conv => arg 2; whnf
  have HP := Lib.hid HT.out.pm
  have hgl := lt_of_block HF.out
  have hpg : gf ≠ p := fun e => HGB.out (by rw [e]; exact HT.out.pm)
  have HPG := Lib.hid hpg; have HGL := Lib.hid hgl
  clear hpg hgl
  have hst : RtP w p B w (N + 0 + 0) (retF9 ((S.L.take 0).filter fun x => decide (x.1 < li)) S) := ⟨⟨B, h, UpdO.refl _ _, HT.out⟩, Off.refl _ _⟩
  have HST := Lib.hid hst
  clear hst
  have HLL := Lib.hid HT.out.l
  rw [HN.out] at HLL
  have hnle : n ≤ 9223372036854775807 := by have := HT.out.lc; rw [HN.out] at this; omega
  have HLA : Hid (∀ x, h.la = some x → x.block ∉ [p]) := Lib.hid (fun x hx => by simpa using (HT.out.ad x (.inl hx)).2.1)
  obtain ⟨la, hla0⟩ : ∃ a, h.la = a := ⟨_, rfl⟩
  obtain ⟨lc, hlc0⟩ : ∃ a, h.lc = a := ⟨_, rfl⟩
  rw [hla0] at HLL HLA ⊢
  rw [hlc0]
  have HLA0 := Lib.hid hla0; have HLC0 := Lib.hid hlc0
  clear hla0 hlc0
  go_wp2_with fail
  go_loopw [12] (fun s12 wr => ∃ (i : Nat), s12 = .int .i64 i ∧ i ≤ n ∧ Hid (RtP w p B wr (N + i + i) (retF9 ((S.L.take i).filter fun x => decide (x.1 < li)) S))) (fun s _ => n - (intOf s).toNat)
  case atStart => exact ⟨0, rfl, by omega, HST⟩
  case round =>
    clear HST
    obtain ⟨i, rfl, hi, HI⟩ := hrel
    have HF1 := Lib.hid (HI.out.2.row HF.out (by simpa using HPG.out))
    by_cases hlt : i < n
    · skip
      obtain ⟨d, e, hx⟩ := nm_pair (L := S.L) (i := i) (by rw [HN.out]; exact hlt)
      have HX := Lib.hid hx
      clear hx
      have HL1 := Lib.hid (HI.out.2.rk HLL.out HLA.out)
      go_upto_region 25 with fail
      by_cases hds : d < li
      · skip
        refine ron_goes _ HF1 HF5 hli HL1 hlt HX hds (fun c a d v w h => by first | (cases d <;> exact h) | exact HKP.out c a d v w h) ?_
        rintro _ _ _ _ _ _ _ w8 HB8
        have HDS := Lib.hid hds
        clear hds
        obtain ⟨⟨B1, h1, hu1, ht1⟩, ho1⟩ := HI.out
        replace HL1 := Lib.hid (HL1.out.below HB8.out)
        have HU8 := Lib.hid (hu1.next HB8.out); have HT8 := Lib.hid (ht1.below HB8.out); have HO8 := Lib.hid (ho1.next HB8.out)
        clear hu1 ht1 ho1 HB8 HI
        obtain ⟨ab, ao, x, rfl, hbl, hx, hok, hrg⟩ := HL1.out.at hlt
        rw [HX.out] at hx; injection hx with hx; subst hx
        have hdu : U64 d := hok.1
        have cd : w8.cell? ⟨ab, ao + i * 9, none⟩ = some (.int .u64 d) := by have h9 := hrg 0 _ rfl; rw [Nat.add_zero] at h9; exact h9
        clear hok hrg hbl
        go_wp2_with fail
        refine Calls.mono (rretP_any w8 p B1 _ _ h1 HT8.out d hdu (retF9_due _ _ HSD.out) (by omega)) ?_
        rintro e w9 ⟨rfl, ⟨B9, h9, hu9, ht9⟩, ho9⟩
        have hnx : RtP w p B w9 (N + (i + 1) + (i + 1)) (retF9 ((S.L.take (i + 1)).filter fun x => decide (x.1 < li)) S) := by
          have hft := filt_snoc HX.out (fun x => decide (x.1 < li))
          rw [if_pos (by simpa using HDS.out)] at hft
          rw [hft, retF9_snoc]
          exact ⟨⟨B9, h9, HU8.out.trans hu9, ht9.mono⟩, HO8.out.trans ho9 (fun x hx => .inl hx)⟩
        have HNX := Lib.hid hnx
        clear hnx hu9 ht9 ho9 HU8 HT8 HO8
        go_wp2_with fail
        go_roundw
        case rel => exact ⟨i + 1, by go_num, by omega, HNX⟩
        case measure => simp [intOf]; omega
      · skip
        refine ron_stays _ HF1 HF5 hli HL1 hlt HX hds (fun c a d v w h => by first | (cases d <;> exact h) | exact HKP.out c a d v w h) ?_
        rintro _ _ _ _ _ _ _ w8 HB8
        have HDS := Lib.hid hds
        clear hds
        have hnx : RtP w p B w8 (N + (i + 1) + (i + 1)) (retF9 ((S.L.take (i + 1)).filter fun x => decide (x.1 < li)) S) := by
          have hft := filt_snoc HX.out (fun x => decide (x.1 < li))
          rw [if_neg (by simpa using HDS.out)] at hft
          rw [hft]
          obtain ⟨⟨B1, h1, hu1, ht1⟩, ho1⟩ := HI.out
          exact ⟨⟨B1, h1, hu1.next HB8.out, (ht1.below HB8.out).mono⟩, ho1.next HB8.out⟩
        have HNX := Lib.hid hnx
        clear hnx HI HB8
        go_wp2_with fail
        go_roundw
        case rel => exact ⟨i + 1, by go_num, by omega, HNX⟩
        case measure => simp [intOf]; omega
    · obtain rfl : n = i := by omega
      have htk : S.L.take n = S.L := List.take_of_length_le (by rw [HN.out]; exact Nat.le_refl _)
      rw [htk] at HI
      have HI1 := Lib.hid HI.out.1
      clear htk HI
      go_wp2_with fail
      first | (have e1 := HLA0.out; have e2 := HLC0.out; rw [← e1, ← e2]; exact HK.out _ _ _ _ _ _ _ _ _ _ _ _ _ _ _ _ _ _ _ _ _ _ _ HI1 HF1)
end Go.Proofs.Ytjdcmhclamjcjaa
namespace Go.Proofs.Ytjdcmhclamjcjaa
open Go.RowKit
set_option linter.unusedVariables false
set_option linter.unusedSimpArgs false

theorem dec_beq {α : Type} [DecidableEq α] [BEq α] [LawfulBEq α] (a b : α) : decide (a = b) = (a == b) := by by_cases h : a = b <;> simp [h]
theorem headD_of {L : List Nm} {x d : Nm} (h : L[0]? = some x) : L.headD d = x := by cases L with | nil => cases h | cons z l => injection h
theorem onM_came {S : Th} {k se li : Int} {c : List Int} (hb : badB S k se c = false) (hl : ¬ se < li) (hn : (lookN S.came se).isSome = true) : onM S k se li c = (S, 0) := by unfold onM; rw [hb, hn]; simp only [Bool.false_eq_true, if_false, if_true]; rw [if_neg hl]
theorem retF9_now (M : List Nm) (T : Th) : (retF9 M T).now = T.now := by rw [retF9_eq]
theorem onM_put {S : Th} (ti : TI S) (hw : TW S) {se li : Int} {c : List Int} (hb : badB S 24 se c = false) (hl : ¬ se < li) (hn : (lookN S.came se).isSome = false) :
    onM S 24 se li c = (rdropM ⟨insM S.L (se, c), S.came ++ [(se, c)], S.due, S.was, S.now⟩ li, if 4 < (rdropM ⟨insM S.L (se, c), S.came ++ [(se, c)], S.due, S.was, S.now⟩ li).L.length then 10 else 0) ∧
    0 < (retF9 ((insM S.L (se, c)).filter fun x => decide (x.1 < li)) ⟨insM S.L (se, c), S.came ++ [(se, c)], S.due, S.was, S.now⟩).L.length := by
  have hn9 : lookN S.came se = none := by cases e : lookN S.came se with | none => rfl | some _ => rw [e] at hn; simp at hn
  have hnl : ∀ y ∈ S.L, y.1 ≠ se := fun y hy => lookN_none hn9 y (ti.sub y hy)
  have hsr := insM_sorted (x := (se, c)) ti.srt hnl
  have hde : rdropM ⟨insM S.L (se, c), S.came ++ [(se, c)], S.due, S.was, S.now⟩ li = dropM ⟨insM S.L (se, c), S.came ++ [(se, c)], S.due, S.was, S.now⟩ (fun x => decide (x.1 < li)) := by
    refine rdropM_eq hsr (insM_mem.2 (.inr ti.now)) ?_
    intro y hy
    rcases insM_mem.1 hy with rfl | hy
    · intro hm; obtain ⟨z, hz, e⟩ := hw _ hm; exact lookN_none hn9 z hz e
    · exact ti.dis y hy
  constructor
  · unfold onM; rw [hb, hn]; simp only [Bool.false_eq_true, if_false]; rw [if_neg hl, ← hde]
  · rw [retF9_eq]; simp only
    rw [filt_all hsr]
    exact List.length_pos_of_mem (List.mem_filter.2 ⟨insM_mem.2 (.inl rfl), by simpa using hl⟩)
theorem RtAt.newnow' {w y : World} {p N : Nat} {B : List Nat} {S : Th} {h : RH} (hr : RtAt w p B N S h) (ho : Off [p] w y) {x : Nm} (hx : nmK.ok x) (hrow : y.heap[p]? = some (.cells (rtRow (.slice h.la S.L.length h.lc) (.slice h.ca S.came.length h.cc) (.slice h.ra S.due.length h.rc) (.slice h.wa S.was.length h.wc) x).toArray RTT (0, 0))) :
    RtAt y p B N ⟨S.L, S.came, S.due, S.was, x⟩ h := hr.newnow ho hx hrow
set_option maxRecDepth 100000 in
set_option maxHeartbeats 16000000 in
theorem ron20_any (w : World) (p : Nat) (B : List Nat) (N : Nat) (S : Th) (h : RH) (hr : RtAt w p B N S h) (ti : TI S) (hw : TW S) (f : Fr) (hf : f.Wf) (dv rv : Value) (hN : N < 20000) :
    Calls Try.prog 17 #[.pointer (some ⟨p, 0, none⟩), .agg (f.cells dv rv).toArray] w fun e w' => e = .returned (.int .i64 (onM S f.kind f.se f.li f.cid).2) ∧ RtU w p B w' (N + N + N + 5) (onM S f.kind f.se f.li f.cid).1 := by
  have H := Lib.hid hr; have HTI := Lib.hid ti; have HTW := Lib.hid hw
  have hse := hf.se; have hli := hf.li; have hkd := hf.kind
  have HCO : Hid (cidOk f.cid) := Lib.hid ⟨hf.cidl, hf.cid⟩
  obtain ⟨f0, f5, f8⟩ := frc (f := f) (dv := dv) (rv := rv)
  have HFC := Lib.hid (frc_cid (f := f) (dv := dv) (rv := rv))
  obtain ⟨RF, hRF⟩ : ∃ R, f.cells dv rv = R := ⟨_, rfl⟩
  rw [hRF] at f0 f5 f8 HFC ⊢
  have HF0 := Lib.hid f0; have HF5 := Lib.hid f5; have HF8 := Lib.hid f8
  obtain ⟨k, hk⟩ : ∃ k, f.kind = k := ⟨_, rfl⟩
  obtain ⟨se, hs⟩ : ∃ k, f.se = k := ⟨_, rfl⟩
  obtain ⟨li, hl⟩ : ∃ k, f.li = k := ⟨_, rfl⟩
  obtain ⟨c, hc⟩ : ∃ k, f.cid = k := ⟨_, rfl⟩
  rw [hk] at hkd HF0 ⊢; rw [hs] at hse HF8 ⊢; rw [hl] at hli HF5 ⊢; rw [hc] at HCO HFC ⊢
  obtain ⟨n, hn⟩ : ∃ n, S.came.length = n := ⟨_, rfl⟩
  have HN := Lib.hid hn
  have hln := hr.len.2.1
  have HGL := Lib.hid hr.lt
  rw [hn] at hln
  clear hr ti hw hf f0 f5 f8 hk hs hl hc hRF hn
  go_enter Try.func17, Try.ntmps17
  go_upto_region 1 with fail
  change Code.wp _ _ _ _ (w.alloc (.cells RF.toArray 53))
  have HTH := H
  have HB := Lib.hid (Below.refl w.heap.size w)
  have HB2 := HB
  have hb := (Below.refl w.heap.size w).alloc (Nat.le_refl _) (.cells RF.toArray 53)
  replace HTH := Lib.hid (HTH.out.below hb)
  replace HB := Lib.hid (bl_next HB.out HB.out.size hb)
  have HF := Lib.hid (heap_alloc_new w (.cells RF.toArray 53))
  clear hb
  generalize w.alloc (.cells RF.toArray 53) = w1 at HTH HB HF ⊢
  obtain ⟨gf, hg⟩ : ∃ g, w.heap.size = g := ⟨_, rfl⟩
  rw [hg] at HF ⊢
  have HGF := Lib.hid hg
  clear hg
  clear HB2
  have HGB : Hid (gf ∉ B) := Lib.hid (fun hm => by have := HGL.out _ hm; have := HGF.out; omega)
  have c0 := cell_row HF.out 0 _ HF0.out
  by_cases hk : k = 24
  · skip
    have hke : (k == 24) = true := by simpa using hk
    have HK := Lib.hid hk
    clear hk
    go_wp2_with fail
    clear c0
    go_loopw [5, 6] (fun s5 s6 wr => ∃ (i : Nat) (has : Bool), s5 = .bool has ∧ s6 = .int .i64 i ∧ i ≤ n ∧ Hid (Below w1.heap.size w1 wr) ∧ Hid (has = (S.came.take i).any (fun y => decide (y.1 = se))) ∧ Hid (∀ y ∈ S.came.take i, decide (y.1 = se) = decide (y.2 = c))) (fun _ s _ => n - (intOf s).toNat)
    case atStart => exact ⟨0, false, rfl, rfl, by omega, Lib.hid (Below.refl _ _), Lib.hid rfl, Lib.hid (by simp)⟩
    case round =>
      obtain ⟨i, has, rfl, rfl, hi, HBW, HH, HA⟩ := hrel
      have hbw := HBW.out
      replace HTH := Lib.hid (HTH.out.below hbw)
      replace HB := Lib.hid (bl_next HB.out HB.out.size hbw)
      replace HF := Lib.hid (bl_row hbw (lt_of_block HF.out) HF.out)
      clear hbw
      have HTR := Lib.hid HTH.out.row
      rw [HN.out] at HTR
      have c1 := cell_row HTR.out 1 _ (rtRow_1 ..)
      by_cases hlt : i < n
      · skip
        obtain ⟨d, e, hx⟩ := nm_pair (L := S.came) (i := i) (by rw [HN.out]; exact hlt)
        have HX := Lib.hid hx
        clear hx
        go_upto_region 7 with fail
        clear c1 HTR
        refine ron_see _ HTH HF HF8 HFC HCO hse HX (fun c a d v w h => by cases d <;> exact h) ?_
        rintro _ _ _ _ _ _ _ _ _ _ _ _ _ _ _ _ _ _ _ _ _ _ w8 HB8
        have hb8 := HB8.out
        replace HTH := Lib.hid (HTH.out.below hb8)
        replace HB := Lib.hid (bl_next HB.out HB.out.size hb8)
        replace HF := Lib.hid (bl_row hb8 (lt_of_block HF.out) HF.out)
        replace HBW := Lib.hid (bl_next HBW.out HBW.out.size hb8)
        clear hb8 HB8
        obtain ⟨b7, h7⟩ : ∃ b, (d == se) = b := ⟨_, rfl⟩
        obtain ⟨b8, h8⟩ : ∃ b, (e == c) = b := ⟨_, rfl⟩
        rw [h7, h8]
        have H7 : Hid (decide (d = se) = b7) := Lib.hid (by rw [dec_beq]; exact h7)
        have H8 : Hid (decide (e = c) = b8) := Lib.hid (by rw [dec_beq]; exact h8)
        clear h7 h8
        have HTS := Lib.hid (take_snd' HX.out)
        cases b7
        · cases b8
          · skip
            cases has
            · skip
              go_wp2_with fail
              go_roundw
              case rel => exact ⟨i + 1, false, rfl, by go_num, by omega, HBW, Lib.hid (by rw [HTS.out, List.any_append, ← HH.out]; simp only [List.any_cons, List.any_nil, H7.out]; rfl), Lib.hid (fun y hy => by rw [HTS.out] at hy; rcases List.mem_append.1 hy with h9 | h9; exact HA.out y h9; rw [List.mem_singleton.1 h9]; exact H7.out.trans H8.out.symm)⟩
              case measure => simp [intOf]; omega
            · skip
              go_wp2_with fail
              go_roundw
              case rel => exact ⟨i + 1, true, rfl, by go_num, by omega, HBW, Lib.hid (by rw [HTS.out, List.any_append, ← HH.out]; simp only [List.any_cons, List.any_nil, H7.out]; rfl), Lib.hid (fun y hy => by rw [HTS.out] at hy; rcases List.mem_append.1 hy with h9 | h9; exact HA.out y h9; rw [List.mem_singleton.1 h9]; exact H7.out.trans H8.out.symm)⟩
              case measure => simp [intOf]; omega
          · skip
            go_wp2_with fail
            (try simp only [Exit.inBlock, Exit.then])
            go_ret
            have hbad := bad_of HTI.out k (List.mem_of_getElem? HX.out) (by show decide (d = se) ≠ decide (e = c); rw [H7.out, H8.out]; decide)
            have hon : onM S k se li c = (S, 10) := by unfold onM; rw [hbad]; rfl
            rw [hon]
            exact ⟨rfl, B, h, UpdO.of_below HB.out, HTH.out.mono⟩
        · cases b8
          · skip
            go_wp2_with fail
            (try simp only [Exit.inBlock, Exit.then])
            go_ret
            have hbad := bad_of HTI.out k (List.mem_of_getElem? HX.out) (by show decide (d = se) ≠ decide (e = c); rw [H7.out, H8.out]; decide)
            have hon : onM S k se li c = (S, 10) := by unfold onM; rw [hbad]; rfl
            rw [hon]
            exact ⟨rfl, B, h, UpdO.of_below HB.out, HTH.out.mono⟩
          · skip
            cases has
            · skip
              go_wp2_with fail
              go_roundw
              case rel => exact ⟨i + 1, true, rfl, by go_num, by omega, HBW, Lib.hid (by rw [HTS.out, List.any_append, ← HH.out]; simp only [List.any_cons, List.any_nil, H7.out]; rfl), Lib.hid (fun y hy => by rw [HTS.out] at hy; rcases List.mem_append.1 hy with h9 | h9; exact HA.out y h9; rw [List.mem_singleton.1 h9]; exact H7.out.trans H8.out.symm)⟩
              case measure => simp [intOf]; omega
            · skip
              go_wp2_with fail
              go_roundw
              case rel => exact ⟨i + 1, true, rfl, by go_num, by omega, HBW, Lib.hid (by rw [HTS.out, List.any_append, ← HH.out]; simp only [List.any_cons, List.any_nil, H7.out]; rfl), Lib.hid (fun y hy => by rw [HTS.out] at hy; rcases List.mem_append.1 hy with h9 | h9; exact HA.out y h9; rw [List.mem_singleton.1 h9]; exact H7.out.trans H8.out.symm)⟩
              case measure => simp [intOf]; omega
      · obtain rfl : n = i := by omega
        have htk : S.came.take n = S.came := List.take_of_length_le (by rw [HN.out]; exact Nat.le_refl _)
        rw [htk] at HH HA
        clear htk
        have hbad : badB S 24 se c = false := bad_none HA.out
        have HBD := Lib.hid hbad
        have hlk := has_look S.came se
        rw [← HH.out] at hlk
        have HLK := Lib.hid hlk
        clear hbad hlk HH HA HBW
        have c5 := cell_row HF.out 5 _ HF5.out; have c8 := cell_row HF.out 8 _ HF8.out
        by_cases hls : se < li
        · skip
          go_wp2_with fail
          (try simp only [Exit.inBlock, Exit.then])
          go_ret
          have hon : onM S k se li c = (S, 7) := by rw [HK.out]; unfold onM; rw [HBD.out, if_pos hls]; rfl
          rw [hon]
          exact ⟨rfl, B, h, UpdO.of_below HB.out, HTH.out.mono⟩
        · skip
          cases has with
          | true =>
            go_wp2_with fail
            (try simp only [Exit.inBlock, Exit.then])
            go_ret
            have hon : onM S k se li c = (S, 0) := by rw [HK.out]; exact onM_came HBD.out (by omega) HLK.out
            rw [hon]
            exact ⟨rfl, B, h, UpdO.of_below HB.out, HTH.out.mono⟩
          | false =>
            have HPO := Lib.hid (onM_put HTI.out HTW.out HBD.out hls HLK.out)
            have HLS := Lib.hid hls
            obtain ⟨c0', c1', c2', c3', c4', c5', c6', c7', rfl⟩ := Kc.len8 HCO.out.1
            simp only [List.map_cons, List.map_nil] at HFC
            have HRC := Lib.hid (rng_row HF.out 11 _ HFC.out)
            have HXO : Hid (nmK.ok (se, [c0', c1', c2', c3', c4', c5', c6', c7'])) := Lib.hid ⟨hse, HCO.out⟩
            go_upto_region 16 with (first | (refine wpList_load_mid rfl 38 _ rfl gf 11 rfl [.int .u8 c0', .int .u8 c1', .int .u8 c2', .int .u8 c3', .int .u8 c4', .int .u8 c5', .int .u8 c6', .int .u8 c7'] _ HRC.out Try.underlying38 rfl rfl ?_) | fail)
            clear hls HRC c5 c8 c1 HTR
            change Code.wp _ _ _ _ (wr.alloc (.cells (nmK.enc (se, [c0', c1', c2', c3', c4', c5', c6', c7'])).toArray 75))
            have HGS : Hid (gf < wr.heap.size) := Lib.hid (lt_of_block HF.out)
            obtain ⟨RX, hRX⟩ : ∃ R, nmK.enc (se, [c0', c1', c2', c3', c4', c5', c6', c7']) = R := ⟨_, rfl⟩
            have HRX := Lib.hid hRX
            rw [hRX]
            clear hRX
            have hb := (Below.refl wr.heap.size wr).alloc (Nat.le_refl _) (.cells RX.toArray 75)
            replace HTH := Lib.hid (HTH.out.below hb)
            replace HB := Lib.hid (bl_next HB.out HB.out.size hb)
            replace HF := Lib.hid (bl_row hb (lt_of_block HF.out) HF.out)
            have HG := Lib.hid (heap_alloc_new wr (.cells RX.toArray 75))
            clear hb
            generalize wr.alloc (.cells RX.toArray 75) = w2 at HTH HB HF HG ⊢
            obtain ⟨gx, hg⟩ : ∃ g, wr.heap.size = g := ⟨_, rfl⟩
            rw [hg] at HG ⊢
            clear hg
            refine ron_came _ (by omega) HTH HG HRX HXO (fun c a d v w h => by cases d <;> exact h) ?_
            rintro _ _ _ _ _ _ _ _ _ _ _ _ w9 HRT HG9
            obtain ⟨B1, h1, hu1, ht1⟩ := HRT.out
            have HU1 := Lib.hid ((UpdO.of_below HB.out).trans hu1); have HT1 := Lib.hid ht1; have HF1 := Lib.hid (hu1.off.row HF.out HGB.out)
            have HGB1 : Hid (gf ∉ B1) := Lib.hid (fun hm => by rcases hu1.new _ hm with h9 | h9; exact HGB.out h9; have h8 := lt_of_block HF.out; omega)
            clear HRT hu1 ht1 HTH HF HG HB
            go_upto_block 2 with fail
            refine ron_place _ HT1 HG9 (Lib.hid (nm_head HRX.out)) hse (by omega) (fun c a d v w h => by cases d <;> exact h) ?_
            rintro _ _ _ _ _ _ _ _ _ _ _ _ _ _ _ _ _ _ _ _ _ _ i w10 hi9 HA HA2 HB10
            have HT2 := Lib.hid (HT1.out.below HB10.out); have HU2 := Lib.hid (HU1.out.next HB10.out); have HF2 := Lib.hid (bl_row HB10.out (lt_of_block HF1.out) HF1.out); have HG2 := Lib.hid (bl_row HB10.out (lt_of_block HG9.out) HG9.out)
            clear HT1 HU1 HF1 HG9 HB10
            have hpos : 0 < S.L.length := List.length_pos_of_mem HTI.out.now
            go_upto_region 20 with fail
            refine ron_put _ (by omega) hi9 hpos HT2 HG2 HRX HXO (fun c a d v w h => by cases d <;> exact h) ?_
            rintro _ _ _ _ _ _ _ _ _ _ _ _ _ _ _ _ _ _ _ _ _ w11 HRT HG11
            obtain ⟨B2, h2, hu2, ht2⟩ := HRT.out
            have hdm : insM S.L (se, [c0', c1', c2', c3', c4', c5', c6', c7']) = S.L.take i ++ (se, [c0', c1', c2', c3', c4', c5', c6', c7']) :: S.L.drop i := by
              have h9 := insM_at (l1 := S.L.take i) (l2 := S.L.drop i) (x := (se, [c0', c1', c2', c3', c4', c5', c6', c7'])) HA.out (fun z hz => by rw [List.head?_drop] at hz; exact HA2.out z hz)
              rw [List.take_append_drop] at h9; exact h9
            simp only at ht2
            rw [← hdm] at ht2
            have HU3 := Lib.hid (HU2.out.trans hu2); have HT3 := Lib.hid ht2; have HF3 := Lib.hid (hu2.off.row HF2.out HGB1.out)
            have HGB2 : Hid (gf ∉ B2) := Lib.hid (fun hm => by rcases hu2.new _ hm with h9 | h9; exact HGB1.out h9; have h8 := lt_of_block HF2.out; omega)
            clear HRT hu2 ht2 HT2 HF2 HG2 HU2 HA HA2 hdm HG11
            obtain ⟨L2, hL2⟩ : ∃ l, insM S.L (se, [c0', c1', c2', c3', c4', c5', c6', c7']) = l := ⟨_, rfl⟩
            have hl2n : L2.length ≤ N + 1 := by rw [← hL2, insM_len]; have := H.out.len.1; omega
            rw [hL2] at HT3
            have HL2 := Lib.hid hL2
            clear hL2
            obtain ⟨S2, hS2⟩ : ∃ T : Th, (⟨L2, S.came ++ [(se, [c0', c1', c2', c3', c4', c5', c6', c7'])], S.due, S.was, S.now⟩ : Th) = T := ⟨_, rfl⟩
            rw [hS2] at HT3
            have HLE2 : Hid (S2.L = L2) := Lib.hid (by rw [← hS2])
            have HD2 : Hid (S2.due.Pairwise (· < ·)) := Lib.hid (by rw [← hS2]; exact HTI.out.due)
            have HNW2 : Hid (S2.now = S.now) := Lib.hid (by rw [← hS2])
            have HS2 := Lib.hid hS2
            clear hS2
            have HTR := Lib.hid HT3.out.row
            have c0 := cell_row HTR.out 0 _ (rtRow_0 ..)
            have hl2s : S2.L.length ≤ N + 1 := by rw [HLE2.out]; exact hl2n
            go_upto_block 4 with fail
            clear c0 HTR
            refine ron_drop _ HT3 HF3 HF5 hli (Lib.hid rfl) HD2 HGB2 (by omega) (fun c a d v w h => by cases d <;> exact h) ?_
            rintro _ _ _ _ _ _ _ _ _ _ _ _ _ _ _ _ _ _ _ _ _ _ w12 HRT HF4
            obtain ⟨B3, h3, hu3, ht3⟩ := HRT.out
            obtain ⟨T, hT⟩ : ∃ T, retF9 (S2.L.filter fun x => decide (x.1 < li)) S2 = T := ⟨_, rfl⟩
            rw [hT] at ht3
            have HNWT : Hid (T.now = S.now) := Lib.hid (by rw [← hT, retF9_now]; exact HNW2.out)
            have HT4 := Lib.hid (ht3.mono (N2 := N + N + N + 5)); have HU4 := Lib.hid (HU3.out.trans hu3)
            have HTT := Lib.hid hT
            clear HRT hu3 ht3 hT HT3 HU3 HF3
            have hpo := HPO.out
            rw [HL2.out, HS2.out, ← HLE2.out, HTT.out] at hpo
            have HPO2 := Lib.hid hpo.1
            have hpos2 := hpo.2
            clear hpo HPO
            obtain ⟨q, hq⟩ : ∃ q, T.now.1 = q := ⟨_, rfl⟩
            have HQN := Lib.hid hq
            have hqu : U64 q := by rw [← hq]; exact HT4.out.now.1
            clear hq
            go_upto_region 27 with fail
            by_cases hds : q < li
            · skip
              refine ron_nowgoes _ HT4 HF4 HF5 hli hqu HQN (by omega) hpos2 hds (fun c a d v w h => by cases d <;> exact h) ?_
              rintro _ _ _ _ _ _ _ _ _ _ _ _ _ _ _ w13 HB13
              have HT5 := Lib.hid (HT4.out.below HB13.out); have HU5 := Lib.hid (HU4.out.next HB13.out)
              clear HB13 HF4
              obtain ⟨ab, ao, x0, hla, habl, hx, hok, hrg⟩ := HT5.out.l.at hpos2
              have HX0 := Lib.hid hx; have HOK0 := Lib.hid hok; have HRG0 := Lib.hid hrg; have HLA := Lib.hid hla
              clear hx hok hrg habl hla
              have hl9 := nmK.len x0 HOK0.out; have ho9 := nmK.one x0 HOK0.out
              obtain ⟨R1, hR1⟩ : ∃ R, nmK.enc x0 = R := ⟨_, rfl⟩
              have HR1 := Lib.hid hR1
              rw [hR1] at hl9 ho9
              rw [hR1] at HRG0
              have HL9 : Hid (R1.length = 9) := Lib.hid hl9; have HO9 := Lib.hid ho9
              clear hl9 ho9 hR1
              have hl8 := nmK.len _ HT5.out.now
              obtain ⟨R0, hR0⟩ : ∃ R, nmK.enc T.now = R := ⟨_, rfl⟩
              have HR0 := Lib.hid hR0
              rw [hR0] at hl8
              have HL0 : Hid (R0.length = 9) := Lib.hid hl8
              clear hl8 hR0
              have HTR := Lib.hid HT5.out.row
              rw [HLA.out] at HTR
              obtain ⟨lc, hlc⟩ : ∃ l, h3.lc = l := ⟨_, rfl⟩
              have HLC := Lib.hid hlc
              rw [hlc] at HTR
              obtain ⟨m, hm⟩ : ∃ m, T.L.length = m := ⟨_, rfl⟩
              have HM0 := Lib.hid hm
              rw [hm] at HTR
              have hmp : 0 < m := by rw [← hm]; exact hpos2
              have hmb : m ≤ 1000000 := by have := HT5.out.len.1; rw [hm] at this; omega
              clear hm hlc
              have c0 := cell_row HTR.out 0 _ (rtRow_0 ..)
              have hrow : w13.heap[p]? = some (.cells ([.slice (some ⟨ab, ao, none⟩) m lc, .slice h3.ca T.came.length h3.cc, .slice h3.ra T.due.length h3.rc, .slice h3.wa T.was.length h3.wc] ++ (R0 ++ []) : List Value).toArray RTT (0, 0)) := by have h9 := HTR.out; unfold rtRow at h9; rw [HR0.out] at h9; rw [List.append_nil]; exact h9
              have HRP := Lib.hid hrow
              clear hrow
              go_upto_region 29 with (first | (refine wpList_load_mid rfl 75 _ rfl ab (ao + 0) rfl R1 _ (HRG0.out) Try.underlying75 rfl (by rw [HL9.out]; rfl) ?_) | (refine wpList_load_mid rfl 75 _ rfl ab (ao) rfl R1 _ ((by have h9 := HRG0.out; rw [Nat.zero_mul, Nat.add_zero] at h9; exact h9)) Try.underlying75 rfl (by rw [HL9.out]; rfl) ?_) | (refine wpList_store_part rfl 75 _ _ rfl p 4 rfl R1 RTT [.slice (some ⟨ab, ao, none⟩) m lc, .slice h3.ca T.came.length h3.cc, .slice h3.ra T.due.length h3.rc, .slice h3.wa T.was.length h3.wc] R0 [] rfl HRP.out rfl (by rw [HL0.out, HL9.out]) (by rw [HL9.out]; rfl) HO9.out ?_; intro w14 hr hg; have HR6 := Lib.hid hr; have HG6 := Lib.hid hg; clear hr hg) | fail)
              try simp only [Act.put]
              clear c0
              have ho6 : Off [p] w13 w14 := Off.of_grown HG6.out (fun g hg => by injection hg with hg; subst hg; simp)
              have hrow6 : w14.heap[p]? = some (.cells (rtRow (.slice h3.la T.L.length h3.lc) (.slice h3.ca T.came.length h3.cc) (.slice h3.ra T.due.length h3.rc) (.slice h3.wa T.was.length h3.wc) x0).toArray RTT (0, 0)) := by have h9 := HR6.out; rw [List.append_nil, ← HR1.out] at h9; unfold rtRow; rw [HLA.out, HLC.out, HM0.out]; exact h9
              have HT6 := Lib.hid (HT5.out.newnow' ho6 HOK0.out hrow6)
              have HU6 := Lib.hid (HU5.out.trans (⟨ho6.wide (fun y hy => by rw [List.mem_singleton.1 hy]; exact HT5.out.pm), fun g hg => .inl hg⟩ : UpdO B3 w13 w14 B3))
              clear hrow6 ho6 HR6 HG6 HRP HTR
              have HX1 : Hid (T.L.headD S2.now = x0) := Lib.hid (headD_of HX0.out)
              clear hmb hmp HM0
              have HRD : Hid (rdropM S2 li = (⟨T.L, T.came, T.due, T.was, x0⟩ : Th)) := Lib.hid (by have h1 : S2.now.1 < li ∧ 0 < T.L.length := ⟨by rw [HNW2.out, ← HNWT.out, HQN.out]; exact hds, hpos2⟩; unfold rdropM; simp only [HTT.out]; rw [if_pos h1, HX1.out])
              have HTR := Lib.hid HT6.out.row
              have c0 := cell_row HTR.out 0 _ (rtRow_0 ..)
              clear HTR
              obtain ⟨m, hm⟩ : ∃ m, T.L.length = m := ⟨_, rfl⟩
              simp only [hm] at c0
              have hmb : m ≤ 1000000 := by have := HT4.out.len.1; omega
              have HM := Lib.hid hm
              clear hm
              by_cases h4 : 4 < m
              · skip
                go_wp2_with fail
                (try simp only [Exit.inBlock, Exit.then])
                go_ret
                have hon : onM S k se li [c0', c1', c2', c3', c4', c5', c6', c7'] = ((⟨T.L, T.came, T.due, T.was, x0⟩ : Th), 10) := by rw [HK.out, HPO2.out, HRD.out]; simp only [HM.out]; rw [if_pos h4]
                rw [hon]
                exact ⟨rfl, B3, h3, HU6.out, HT6.out⟩
              · skip
                go_wp2_with fail
                (try simp only [Exit.inBlock, Exit.then])
                go_ret
                have hon : onM S k se li [c0', c1', c2', c3', c4', c5', c6', c7'] = ((⟨T.L, T.came, T.due, T.was, x0⟩ : Th), 0) := by rw [HK.out, HPO2.out, HRD.out]; simp only [HM.out]; rw [if_neg h4]
                rw [hon]
                exact ⟨rfl, B3, h3, HU6.out, HT6.out⟩
            · skip
              refine ron_nowstays _ HT4 HF4 HF5 hli hqu HQN (by omega) hpos2 hds (fun c a d v w h => by cases d <;> exact h) ?_
              rintro _ _ _ _ _ _ _ _ _ _ _ _ _ _ _ w13 HB13
              have HT5 := Lib.hid (HT4.out.below HB13.out); have HU5 := Lib.hid (HU4.out.next HB13.out)
              clear HB13 HF4
              have HRD : Hid (rdropM S2 li = T) := Lib.hid (by have h1 : ¬ (S2.now.1 < li ∧ 0 < T.L.length) := fun h => hds (by rw [← HQN.out, HNWT.out, ← HNW2.out]; exact h.1); unfold rdropM; simp only [HTT.out]; rw [if_neg h1])
              have HTR := Lib.hid HT5.out.row
              have c0 := cell_row HTR.out 0 _ (rtRow_0 ..)
              clear HTR
              obtain ⟨m, hm⟩ : ∃ m, T.L.length = m := ⟨_, rfl⟩
              simp only [hm] at c0
              have hmb : m ≤ 1000000 := by have := HT4.out.len.1; omega
              have HM := Lib.hid hm
              clear hm
              by_cases h4 : 4 < m
              · skip
                go_wp2_with fail
                (try simp only [Exit.inBlock, Exit.then])
                go_ret
                have hon : onM S k se li [c0', c1', c2', c3', c4', c5', c6', c7'] = (T, 10) := by rw [HK.out, HPO2.out, HRD.out]; simp only [HM.out]; rw [if_pos h4]
                rw [hon]
                exact ⟨rfl, B3, h3, HU5.out, HT5.out⟩
              · skip
                go_wp2_with fail
                (try simp only [Exit.inBlock, Exit.then])
                go_ret
                have hon : onM S k se li [c0', c1', c2', c3', c4', c5', c6', c7'] = (T, 0) := by rw [HK.out, HPO2.out, HRD.out]; simp only [HM.out]; rw [if_neg h4]
                rw [hon]
                exact ⟨rfl, B3, h3, HU5.out, HT5.out⟩
  · skip
    have hke : (k == 24) = false := by simpa using hk
    go_wp2_with fail
    go_ret
    have hon : onM S k se li c = (S, 10) := by unfold onM; rw [bad_kind hk]; rfl
    rw [hon]
    exact ⟨rfl, B, h, UpdO.of_below HB.out, HTH.out.mono⟩
end Go.Proofs.Ytjdcmhclamjcjaa
namespace Go.Proofs.Ytjdcmhclamjcjaa
open Go.RowKit
set_option linter.unusedVariables false

inductive PlanN where
  | done
  | t (k : Nat) (p : PlanN)
  | alt (ks : List Nat) (f : Nat → PlanN)

def PlanN.ok (md : Region.Mode) (ops : Array Oper) : PlanN → Nat → Array Bool → Bool
  | .done, _, l => (Region.ready md ops l).isEmpty
  | .t _ _, 0, _ => false
  | .t k p, n + 1, l => (Region.ready md ops l).contains k && Region.free md ops l k && ((ops[k]?).map isVal).getD false && p.ok md ops n (l.setIfInBounds k true)
  | .alt _ _, 0, _ => false
  | .alt ks f, n + 1, l => !ks.isEmpty && Region.ready md ops l == ks && ks.all fun k => (f k).ok md ops n (l.setIfInBounds k true)

section
variable {P : Program} {ops : Array Oper} {Q : Exit → Act → World → Prop} {md : Region.Mode}

def PlanN.wp (P : Program) (ops : Array Oper) (Q : Exit → Act → World → Prop) : PlanN → (World → Prop) → Act → World → Prop
  | .done, _, a, w => Q .normal a w
  | .t k p, S, a, w => ∃ o, ops[k]? = some o ∧ wpQuiet P ops (fun w' => ∃ s : In S, w' = s.w) (fun a' => p.wp P ops Q S a' w) [o] a
  | .alt ks f, S, a, w => ∀ k ∈ ks, wpOp P ops Q k (fun a' w' => ∃ S' : World → Prop, (∀ x, S' x → S x) ∧ S' w' ∧ (f k).wp P ops Q S' a' w') a w

theorem wpAnyG_of_planN (hs : Region.noSelect ops = true) (hQ : ∀ c a d v w, Q (.panic c) (a.put d v) w → Q (.panic c) a w) :
    ∀ (p : PlanN) (n : Nat) (l : Array Bool) (S : World → Prop) (a : Act) (w : World), p.ok md ops n l = true → S w → p.wp P ops Q S a w → wpAnyG P md ops Q n l S a w := by
  intro p
  induction p with
  | done =>
    intro n l S a w hok hS h
    have hr : Region.ready md ops l = [] := by simpa [PlanN.ok] using hok
    cases n with
    | zero => exact ⟨hr, h⟩
    | succ n => exact ⟨fun _ => h, by rw [hr]; simp⟩
  | t k p ih =>
    intro n l S a w hok hS h
    cases n with
    | zero => simp [PlanN.ok] at hok
    | succ n =>
      simp only [PlanN.ok, Bool.and_eq_true] at hok
      obtain ⟨⟨⟨h1, h2⟩, h3⟩, h4⟩ := hok
      obtain ⟨o, ho, hq⟩ := h
      rw [ho] at h3
      obtain ⟨v, hy, hk⟩ := yieldsIf_of_quiet (by simpa using h3) hS hq
      exact wpAnyG_first ho (Region.noSelect_spec hs) (fun c a w => hQ c a _ _ w) n l S a w (Region.free_spec ho h2) (by simpa using h1) hy hS (ih n _ S _ w h4 hS hk)
  | alt ks f ih =>
    intro n l S a w hok hS h
    cases n with
    | zero => simp [PlanN.ok] at hok
    | succ n =>
      simp only [PlanN.ok, Bool.and_eq_true] at hok
      obtain ⟨⟨h0, h1⟩, h4⟩ := hok
      have hr : Region.ready md ops l = ks := by simpa using h1
      have h5 := List.all_eq_true.1 h4
      cases ks with
      | nil => cases h0
      | cons k0 ks =>
      refine ⟨fun h0 => (by rw [hr] at h0; cases h0), fun i hi => ?_⟩
      rw [hr] at hi
      exact wpOp_mono (fun a' w' ⟨S', h5', h6, h7⟩ => ⟨S', h5', h6, ih i n _ S' a' w' (h5 i hi) h6 h7⟩) (h i hi)

/-- A REGION THAT DRAWS, BY SUCH A PLAN. -/
theorem wp_planN {id : Nat} {l : List Oper} {a : Act} {w : World} (p : PlanN) (S : World → Prop) (hm : P.follows .mixedOrders = true) (hs : Region.noSelect l.toArray = true)
    (hok : p.ok .any l.toArray l.length (Array.replicate l.length false) = true) (hQ : ∀ c a d v w, Q (.panic c) (a.put d v) w → Q (.panic c) a w) (hS : S w.drew)
    (h : p.wp P l.toArray Q S a w.drew) : (Code.region id l.toArray true).wp P Q a w :=
  wp_region_any hm (wpAny_of_G _ _ S _ _ (by simpa using wpAnyG_of_planN hs hQ p l.length (Array.replicate l.length false) S a w.drew hok hS h))
theorem planN_t {l : List Oper} {k : Nat} {p : PlanN} {S : World → Prop} {a : Act} {w : World} {o : Oper} (ho : l[k]? = some o)
    (h : wpQuiet P l.toArray (fun w' => ∃ s : In S, w' = s.w) (fun a' => p.wp P l.toArray Q S a' w) [o] a) : (PlanN.t k p).wp P l.toArray Q S a w := ⟨o, by simpa using ho, h⟩
/-- one of those that may come up; the class stays as it is. -/
theorem planN_op {l : List Oper} {k : Nat} {p : PlanN} {S : World → Prop} {a : Act} {w : World} {o : Oper} (ho : l[k]? = some o) (hw : Region.wanted o (yielded l.toArray a.tmps) = true)
    (h : ∀ K' : Act → World → Prop, (∀ a' w', S w' ∧ p.wp P l.toArray Q S a' w' → K' a' w') → Oper.wp P o a w K' Q) :
    wpOp P l.toArray Q k (fun a' w' => ∃ S' : World → Prop, (∀ x, S' x → S x) ∧ S' w' ∧ p.wp P l.toArray Q S' a' w') a w :=
  wpOp_step (by simpa using ho) fun K' hK => by rw [if_pos hw]; exact h K' fun a' w' ⟨h2, h3⟩ => hK a' w' ⟨S, fun _ h => h, h2, h3⟩
end
end Go.Proofs.Ytjdcmhclamjcjaa
namespace Go.Proofs.Ytjdcmhclamjcjaa
open Go.RowKit
set_option linter.unusedVariables false
set_option linter.unusedSimpArgs false

open Go.Maps (Keyed)
noncomputable def ofOps : List Oper := match (Try.f9.body.bind (subRegion 2)).getD .skip with | .region _ l _ => l.toList | _ => []
/-- what may come up, by what was done: the row, the maps (made, filled), the last map. -/
def ofPl : Nat → Bool → Nat → Nat → Bool → PlanN
  | 0, _, _, _, _ => .t 12 (.alt [13] fun _ => .t 14 .done)
  | n + 1, a, c1, c2, m => .alt ((if a then [] else [1]) ++ (if c1 = 0 then [2] else if c1 = 1 then [4] else []) ++ (if c2 = 0 then [6] else if c2 = 1 then [8] else []) ++ (if m then [] else [11]))
      fun k => if k = 1 then ofPl n true c1 c2 m else if k = 2 then ofPl n a 1 c2 m else if k = 4 then .t 5 (ofPl n a 2 c2 m) else if k = 6 then ofPl n a c1 1 m else if k = 8 then .t 9 (ofPl n a c1 2 m) else ofPl n a c1 c2 true
def ofPlan : PlanN := .t 0 (.t 3 (.t 7 (.t 10 (ofPl 6 false 0 0 false))))
set_option maxRecDepth 100000 in
theorem ofPlan_ok : ofPlan.ok .any ofOps.toArray ofOps.length (Array.replicate ofOps.length false) = true := by kernel_rfl
set_option maxRecDepth 100000 in
set_option maxHeartbeats 8000000 in
theorem wp_make_map {o : Oper} {a : Act} {w : World} {J : Act → World → Prop} {Q : Exit → Act → World → Prop} {t : TypeId} (hop : o.op = .makeMap t none) (h : J (a.put o.dst (.map (some w.heap.size))) (w.alloc (.map #[] 0))) : Oper.wp Try.prog o a w J Q := by
  unfold Oper.wp execOp
  simp only [hop, Option.map_none, run_makeMap, Sem.run_bind, Sem.run_pure, Result.andThen_ok]
  exact h
end Go.Proofs.Ytjdcmhclamjcjaa
namespace Go.Proofs.Ytjdcmhclamjcjaa
open Go.RowKit
set_option linter.unusedVariables false
set_option linter.unusedSimpArgs false

open Go.Maps (Keyed)
noncomputable def none1 (X : Nm) (c : Nat) : Value → Option Value := if c = 2 then updF (fun _ => none) (.int .u64 0) (cidV X.2) else fun _ => none
noncomputable def none2 (X : Nm) (c : Nat) : Value → Option Value := if c = 2 then updF (fun _ => none) (cidV X.2) (.int .u64 0) else fun _ => none
structure OfF (w0 : World) (X : Nm) (a : Bool) (c1 c2 : Nat) (m : Bool) (x7 x8 x10 x11 x13 x15 : Value) (y : World) : Prop where
  low : Below w0.heap.size w0 y
  row : a = true → ∃ g, x7 = .slice (some ⟨g, 0, none⟩) 1 1 ∧ y.heap[g]? = some (.cells (nmK.flat [X]).toArray 65 (0, 0)) ∧ w0.heap.size ≤ g
  m1 : c1 ≠ 0 → ∃ b n, x8 = .map (some b) ∧ HM Try.prog U64T y b n (none1 X c1) ∧ w0.heap.size ≤ b
  m2 : c2 ≠ 0 → ∃ b n, x11 = .map (some b) ∧ HM Try.prog CIDT y b n (none2 X c2) ∧ w0.heap.size ≤ b
  m3 : m = true → ∃ b n, x15 = .map (some b) ∧ HM Try.prog U64T y b n (fun _ => none) ∧ w0.heap.size ≤ b
  e1 : c1 = 2 → x10 = x8
  e2 : c2 = 2 → x13 = x11
  d12 : c1 ≠ 0 → c2 ≠ 0 → x8 ≠ x11
  d13 : c1 ≠ 0 → m = true → x8 ≠ x15
  d23 : c2 ≠ 0 → m = true → x11 ≠ x15
section
variable {w0 y z : World} {X : Nm} {a m : Bool} {c1 c2 : Nat} {x7 x8 x10 x11 x13 x15 : Value}
theorem OfF.next (h : OfF w0 X a c1 c2 m x7 x8 x10 x11 x13 x15 y) (hb : Below y.heap.size y z) : OfF w0 X a c1 c2 m x7 x8 x10 x11 x13 x15 z :=
  ⟨bl_next h.low h.low.size hb, fun e => by obtain ⟨g, h1, h2, h3⟩ := h.row e; exact ⟨g, h1, bl_row hb (lt_of_block h2) h2, h3⟩, fun e => by obtain ⟨b, n, h1, h2, h3⟩ := h.m1 e; exact ⟨b, n, h1, h2.below hb, h3⟩,
    fun e => by obtain ⟨b, n, h1, h2, h3⟩ := h.m2 e; exact ⟨b, n, h1, h2.below hb, h3⟩, fun e => by obtain ⟨b, n, h1, h2, h3⟩ := h.m3 e; exact ⟨b, n, h1, h2.below hb, h3⟩, h.e1, h.e2, h.d12, h.d13, h.d23⟩
theorem OfF.ne1 (h : OfF w0 X a c1 c2 m x7 x8 x10 x11 x13 x15 y) (hc : c1 ≠ 0) : x8 ≠ .map (some y.heap.size) := fun e => by obtain ⟨b, n, h1, h2, _⟩ := h.m1 hc; rw [e] at h1; injection h1 with h1; injection h1 with h1; have := h2.lt; omega
theorem OfF.ne2 (h : OfF w0 X a c1 c2 m x7 x8 x10 x11 x13 x15 y) (hc : c2 ≠ 0) : x11 ≠ .map (some y.heap.size) := fun e => by obtain ⟨b, n, h1, h2, _⟩ := h.m2 hc; rw [e] at h1; injection h1 with h1; injection h1 with h1; have := h2.lt; omega
theorem OfF.ne3 (h : OfF w0 X a c1 c2 m x7 x8 x10 x11 x13 x15 y) (hc : m = true) : x15 ≠ .map (some y.heap.size) := fun e => by obtain ⟨b, n, h1, h2, _⟩ := h.m3 hc; rw [e] at h1; injection h1 with h1; injection h1 with h1; have := h2.lt; omega
theorem al_next (y : World) (o : Obj) : Below y.heap.size y (y.alloc o) := (Below.refl _ _).alloc (Nat.le_refl _) o
theorem OfF.addA (h : OfF w0 X a c1 c2 m x7 x8 x10 x11 x13 x15 y) : OfF w0 X true c1 c2 m (.slice (some ⟨y.heap.size, 0, none⟩) 1 1) x8 x10 x11 x13 x15 (y.alloc (.cells (nmK.flat [X]).toArray 65)) :=
  { h.next (al_next y _) with row := fun _ => ⟨_, rfl, heap_alloc_new _ _, h.low.size⟩ }
theorem OfF.add1 (h : OfF w0 X a 0 c2 m x7 x8 x10 x11 x13 x15 y) : OfF w0 X a 1 c2 m x7 (.map (some y.heap.size)) x10 x11 x13 x15 (y.alloc (.map #[] 0)) :=
  { h.next (al_next y _) with m1 := fun _ => ⟨_, 0, rfl, HM.made _ _, h.low.size⟩, e1 := fun e => (by cases e), d12 := fun _ e => (h.ne2 e).symm, d13 := fun _ e => (h.ne3 e).symm }
theorem OfF.add2 (h : OfF w0 X a c1 0 m x7 x8 x10 x11 x13 x15 y) : OfF w0 X a c1 1 m x7 x8 x10 (.map (some y.heap.size)) x13 x15 (y.alloc (.map #[] 0)) :=
  { h.next (al_next y _) with m2 := fun _ => ⟨_, 0, rfl, HM.made _ _, h.low.size⟩, e2 := fun e => (by cases e), d12 := fun e _ => h.ne1 e, d23 := fun _ e => (h.ne3 e).symm }
theorem OfF.add3 (h : OfF w0 X a c1 c2 m x7 x8 x10 x11 x13 x15 y) : OfF w0 X a c1 c2 true x7 x8 x10 x11 x13 (.map (some y.heap.size)) (y.alloc (.map #[] 0)) :=
  { h.next (al_next y _) with m3 := fun _ => ⟨_, 0, rfl, HM.made _ _, h.low.size⟩, d13 := fun e _ => h.ne1 e, d23 := fun e _ => h.ne2 e }
theorem OfF.fill {b : Nat} (h : OfF w0 X a c1 c2 m x7 x8 x10 x11 x13 x15 y) (hg : y.grownBy z (some b)) (hb : w0.heap.size ≤ b) (hm : ∃ es c, y.heap[b]? = some (.map es c)) :
    Below w0.heap.size w0 z ∧ (a = true → ∃ g, x7 = .slice (some ⟨g, 0, none⟩) 1 1 ∧ z.heap[g]? = some (.cells (nmK.flat [X]).toArray 65 (0, 0)) ∧ w0.heap.size ≤ g) ∧
    (c1 ≠ 0 → x8 ≠ .map (some b) → ∃ b n, x8 = .map (some b) ∧ HM Try.prog U64T z b n (none1 X c1) ∧ w0.heap.size ≤ b) ∧ (c2 ≠ 0 → x11 ≠ .map (some b) → ∃ b n, x11 = .map (some b) ∧ HM Try.prog CIDT z b n (none2 X c2) ∧ w0.heap.size ≤ b) ∧
    (m = true → x15 ≠ .map (some b) → ∃ b n, x15 = .map (some b) ∧ HM Try.prog U64T z b n (fun _ => none) ∧ w0.heap.size ≤ b) := by
  refine ⟨h.low.grown hg h.low.size (fun k hk => by injection hk with hk; omega), fun e => ?_, fun e n => ?_, fun e n => ?_, fun e n => ?_⟩
  · obtain ⟨g, h1, h2, h3⟩ := h.row e
    exact ⟨g, h1, grown_row hg (fun e => by injection e with e; obtain ⟨es, c, hm⟩ := hm; rw [← e, h2] at hm; cases hm) h2, h3⟩
  · obtain ⟨b1, n1, h1, h2, h3⟩ := h.m1 e; exact ⟨b1, n1, h1, h2.grown hg (fun e => n (by injection e with e; rw [h1, e])), h3⟩
  · obtain ⟨b1, n1, h1, h2, h3⟩ := h.m2 e; exact ⟨b1, n1, h1, h2.grown hg (fun e => n (by injection e with e; rw [h1, e])), h3⟩
  · obtain ⟨b1, n1, h1, h2, h3⟩ := h.m3 e; exact ⟨b1, n1, h1, h2.grown hg (fun e => n (by injection e with e; rw [h1, e])), h3⟩
theorem OfF.fill1 {b n : Nat} (h : OfF w0 X a 1 c2 m x7 (.map (some b)) x10 x11 x13 x15 y) (hg : y.grownBy z (some b)) (hh : HM Try.prog U64T z b n (none1 X 2)) : OfF w0 X a 2 c2 m x7 (.map (some b)) (.map (some b)) x11 x13 x15 z := by
  obtain ⟨b1, n1, e, h2, h3⟩ := h.m1 (by decide)
  injection e with e; injection e with e; subst e
  obtain ⟨k1, k2, k3, k4, k5⟩ := h.fill hg h3 (hm_map h2)
  exact ⟨k1, k2, fun _ => ⟨_, _, rfl, hh, h3⟩, fun e => k4 e (h.d12 (by decide) e).symm, fun e => k5 e (h.d13 (by decide) e).symm, fun _ => rfl, h.e2, fun _ => h.d12 (by decide), fun _ => h.d13 (by decide), h.d23⟩
theorem OfF.fill2 {b n : Nat} (h : OfF w0 X a c1 1 m x7 x8 x10 (.map (some b)) x13 x15 y) (hg : y.grownBy z (some b)) (hh : HM Try.prog CIDT z b n (none2 X 2)) : OfF w0 X a c1 2 m x7 x8 x10 (.map (some b)) (.map (some b)) x15 z := by
  obtain ⟨b1, n1, e, h2, h3⟩ := h.m2 (by decide)
  injection e with e; injection e with e; subst e
  obtain ⟨k1, k2, k3, k4, k5⟩ := h.fill hg h3 (hm_map h2)
  exact ⟨k1, k2, fun e => k3 e (h.d12 e (by decide)), fun _ => ⟨_, _, rfl, hh, h3⟩, fun e => k5 e (h.d23 (by decide) e).symm, h.e1, fun _ => rfl, fun e _ => h.d12 e (by decide), h.d13, fun _ => h.d23 (by decide)⟩
end
set_option maxRecDepth 100000 in
set_option maxHeartbeats 8000000 in
theorem of_wp {x0 x1 x3 x4 x5 : Value} {c0 c1 c2 c3 c4 c5 c6 c7 : Int} (w0 : World) {Q : Exit → Act → World → Prop} (HC : Hid (cidOk [c0, c1, c2, c3, c4, c5, c6, c7]))
    (HK : Hid (∀ x7 x8 x11 x15 x16 x17 y, OfF w0 (0, [c0, c1, c2, c3, c4, c5, c6, c7]) true 2 2 true x7 x8 x8 x11 x11 x15 y → ∀ g, g = y.heap.size → Q .normal ⟨#[x0, x1, .pointer (some ⟨g, 0, none⟩), x3, x4, x5, .agg #[.int .u64 0, .int .u8 c0, .int .u8 c1, .int .u8 c2, .int .u8 c3, .int .u8 c4, .int .u8 c5, .int .u8 c6, .int .u8 c7], x7, x8, .agg #[.int .u8 c0, .int .u8 c1, .int .u8 c2, .int .u8 c3, .int .u8 c4, .int .u8 c5, .int .u8 c6, .int .u8 c7], x8, x11, .agg #[.int .u8 c0, .int .u8 c1, .int .u8 c2, .int .u8 c3, .int .u8 c4, .int .u8 c5, .int .u8 c6, .int .u8 c7], x11, .agg #[.int .u64 0, .int .u8 c0, .int .u8 c1, .int .u8 c2, .int .u8 c3, .int .u8 c4, .int .u8 c5, .int .u8 c6, .int .u8 c7], x15, x16, x17], []⟩ (y.alloc (.cells ([x7, x8, x11, .int .u64 0, .int .u8 c0, .int .u8 c1, .int .u8 c2, .int .u8 c3, .int .u8 c4, .int .u8 c5, .int .u8 c6, .int .u8 c7, x15, .slice none 0 0] : List Value).toArray THT)))) :
    ∀ (n : Nat) (a : Bool) (k1 k2 : Nat) (m : Bool) (x2 x7 x8 x10 x11 x13 x15 x16 x17 : Value) (y : World), OfF w0 (0, [c0, c1, c2, c3, c4, c5, c6, c7]) a k1 k2 m x7 x8 x10 x11 x13 x15 y → k1 ≤ 2 → k2 ≤ 2 → n = (if a then 0 else 1) + (2 - k1) + (2 - k2) + (if m then 0 else 1) →
      (ofPl n a k1 k2 m).wp Try.prog ofOps.toArray Q (fun y => Below w0.heap.size w0 y) ⟨#[x0, x1, x2, x3, x4, x5, .agg #[.int .u64 0, .int .u8 c0, .int .u8 c1, .int .u8 c2, .int .u8 c3, .int .u8 c4, .int .u8 c5, .int .u8 c6, .int .u8 c7], x7, x8, .agg #[.int .u8 c0, .int .u8 c1, .int .u8 c2, .int .u8 c3, .int .u8 c4, .int .u8 c5, .int .u8 c6, .int .u8 c7], x10, x11, .agg #[.int .u8 c0, .int .u8 c1, .int .u8 c2, .int .u8 c3, .int .u8 c4, .int .u8 c5, .int .u8 c6, .int .u8 c7], x13, .agg #[.int .u64 0, .int .u8 c0, .int .u8 c1, .int .u8 c2, .int .u8 c3, .int .u8 c4, .int .u8 c5, .int .u8 c6, .int .u8 c7], x15, x16, x17], []⟩ y := by
  intro n
  induction n with
  | zero =>
    intro a k1 k2 m x2 x7 x8 x10 x11 x13 x15 x16 x17 y h l1 l2 hn
    have ha : a = true := by
      cases a
      · exfalso; cases m <;> simp at hn <;> omega
      · rfl
    have hm : m = true := by
      cases m
      · exfalso; subst ha; simp at hn
      · rfl
    obtain rfl : k1 = 2 := by subst ha; subst hm; simp at hn; omega
    obtain rfl : k2 = 2 := by subst ha; subst hm; simp at hn; omega
    subst ha; subst hm
    obtain ⟨g, e7, hr, hg⟩ := h.row rfl
    obtain ⟨b1, n1, e8, hb1, hs1⟩ := h.m1 (by decide)
    obtain ⟨b2, n2, e11, hb2, hs2⟩ := h.m2 (by decide)
    obtain ⟨b3, n3, e15, hb3, hs3⟩ := h.m3 rfl
    have e10 := h.e1 rfl
    have e13 := h.e2 rfl
    subst e10; subst e13
    have HH := Lib.hid h
    subst e7; subst e8; subst e11; subst e15
    clear h hn l1 l2 hr hg hb1 hs1 hb2 hs2 hb3 hs3
    change (PlanN.t 12 (.alt [13] fun _ => .t 14 .done)).wp _ _ _ _ _ _
    haveI hne : Nonempty (In fun y => Below w0.heap.size w0 y) := ⟨⟨w0, Below.refl _ _⟩⟩
    conv => arg 2; arg 1; whnf
    refine planN_t (by rfl) ?_
    go_big_quiet_want
    go_big_quiet_op
    go_big_quiet_on
    refine wpQuiet_nil ?_
    intro k hk
    obtain rfl := List.mem_singleton.1 hk
    refine planN_op (by rfl) (by kernel_rfl) ?_
    intro K hK
    go_wp2_with fail
    refine ⟨HH.out.low.alloc HH.out.low.size _, ?_⟩
    repeat (refine planN_t (by rfl) ?_; (first | go_big_quiet_skip | (go_big_quiet_want; go_big_quiet_op; go_big_quiet_on)); refine wpQuiet_nil ?_)
    exact HK.out _ _ _ _ _ _ _ HH.out _ rfl
  | succ n ih =>
    intro a k1 k2 m x2 x7 x8 x10 x11 x13 x15 x16 x17 y h l1 l2 hn
    have HH := Lib.hid h; have HI := Lib.hid ih; have HN := Lib.hid hn
    haveI hne : Nonempty (In fun y => Below w0.heap.size w0 y) := ⟨⟨w0, Below.refl _ _⟩⟩
    clear h ih hn
    unfold ofPl
    intro k hk
    simp only [List.mem_append] at hk
    rcases hk with ((hk | hk) | hk) | hk
    · cases a with
      | true => cases hk
      | false =>
        obtain rfl := List.mem_singleton.1 hk
        clear hk
        refine planN_op (by rfl) (by kernel_rfl) ?_
        intro K hK
        refine wp_build_rk nmT _ rfl (0, [c0, c1, c2, c3, c4, c5, c6, c7]) ⟨⟨Int.le_refl 0, (by decide : (0 : Int) < 18446744073709551616)⟩, HC.out⟩ rfl ?_
        have h9 := HH.out.addA
        refine hK _ _ ⟨h9.low, ?_⟩
        simp only [if_true]
        exact HI.out _ _ _ _ _ _ _ _ _ _ _ _ _ _ h9 l1 l2 (by have h8 := HN.out; simp at h8 ⊢; omega)
    · by_cases e0 : k1 = 0
      · subst e0
        rw [if_pos rfl] at hk
        obtain rfl := List.mem_singleton.1 hk
        clear hk
        refine planN_op (by rfl) (by kernel_rfl) ?_
        intro K hK
        refine wp_make_map rfl ?_
        have h9 := HH.out.add1
        refine hK _ _ ⟨h9.low, ?_⟩
        exact HI.out _ _ _ _ _ _ _ _ _ _ _ _ _ _ h9 (by omega) l2 (by have h8 := HN.out; simp at h8 ⊢; omega)
      · rw [if_neg e0] at hk
        by_cases e1 : k1 = 1
        · subst e1
          rw [if_pos rfl] at hk
          obtain rfl := List.mem_singleton.1 hk
          clear hk e0
          refine planN_op (by rfl) (by kernel_rfl) ?_
          intro K hK
          obtain ⟨b, n9, e8, hb, hs⟩ := HH.out.m1 (by decide)
          subst e8
          refine wp_update_hm _ _ _ (.inr rfl) keyU Try.underlying69 rfl hb rfl rfl (keyUof ⟨Int.le_refl 0, (by decide : (0 : Int) < 18446744073709551616)⟩) ?_
          intro z hz hg
          have h9 := HH.out.fill1 hg hz
          refine hK _ _ ⟨h9.low, ?_⟩
          change (PlanN.t 5 (ofPl n a 2 k2 m)).wp _ _ _ _ _ _
          haveI hne : Nonempty (In fun y => Below w0.heap.size w0 y) := ⟨⟨w0, Below.refl _ _⟩⟩
          conv => arg 2; arg 1; whnf
          simp only [Act.put]
          refine planN_t (by rfl) ?_
          go_big_quiet_want
          go_big_quiet_op
          go_big_quiet_on
          refine wpQuiet_nil ?_
          exact HI.out _ _ _ _ _ _ _ _ _ _ _ _ _ _ h9 (by omega) l2 (by have h8 := HN.out; simp at h8 ⊢; omega)
        · rw [if_neg e1] at hk; cases hk
    · by_cases e0 : k2 = 0
      · subst e0
        rw [if_pos rfl] at hk
        obtain rfl := List.mem_singleton.1 hk
        clear hk
        refine planN_op (by rfl) (by kernel_rfl) ?_
        intro K hK
        refine wp_make_map rfl ?_
        have h9 := HH.out.add2
        refine hK _ _ ⟨h9.low, ?_⟩
        exact HI.out _ _ _ _ _ _ _ _ _ _ _ _ _ _ h9 l1 (by omega) (by have h8 := HN.out; simp at h8 ⊢; omega)
      · rw [if_neg e0] at hk
        by_cases e1 : k2 = 1
        · subst e1
          rw [if_pos rfl] at hk
          obtain rfl := List.mem_singleton.1 hk
          clear hk e0
          refine planN_op (by rfl) (by kernel_rfl) ?_
          intro K hK
          obtain ⟨b, n9, e8, hb, hs⟩ := HH.out.m2 (by decide)
          subst e8
          obtain ⟨kl, hkl⟩ := key_cid HC.out
          refine wp_update_hm _ _ _ (.inr rfl) keyC Try.underlying70 rfl hb rfl rfl hkl ?_
          intro z hz hg
          have h9 := HH.out.fill2 hg hz
          refine hK _ _ ⟨h9.low, ?_⟩
          change (PlanN.t 9 (ofPl n a k1 2 m)).wp _ _ _ _ _ _
          haveI hne : Nonempty (In fun y => Below w0.heap.size w0 y) := ⟨⟨w0, Below.refl _ _⟩⟩
          conv => arg 2; arg 1; whnf
          simp only [Act.put]
          refine planN_t (by rfl) ?_
          go_big_quiet_want
          go_big_quiet_op
          go_big_quiet_on
          refine wpQuiet_nil ?_
          exact HI.out _ _ _ _ _ _ _ _ _ _ _ _ _ _ h9 l1 (by omega) (by have h8 := HN.out; simp at h8 ⊢; omega)
        · rw [if_neg e1] at hk; cases hk
    · cases m with
      | true => cases hk
      | false =>
        obtain rfl := List.mem_singleton.1 hk
        clear hk
        refine planN_op (by rfl) (by kernel_rfl) ?_
        intro K hK
        refine wp_make_map rfl ?_
        have h9 := HH.out.add3
        refine hK _ _ ⟨h9.low, ?_⟩
        exact HI.out _ _ _ _ _ _ _ _ _ _ _ _ _ _ h9 l1 l2 (by have h8 := HN.out; simp at h8 ⊢; omega)
theorem planN_t_load {P : Program} {Q : Exit → Act → World → Prop} {l : List Oper} {k : Nat} {p : PlanN} {S : World → Prop} {a : Act} {w : World} {o : Oper} (ho : l[k]? = some o) (hw : Region.wanted o (yielded l.toArray a.tmps) = true) (ty : TypeId) (x : Operand) (hop : o.op = .load ty x)
    (g off : Nat) (hx : a.eval x = .pointer (some ⟨g, off, none⟩)) (cs : List Value) (d : TypeDesc) (hS : ∀ w, S w → w.rangeAt g off cs) (hu : P.underlying ty = some d) (hd : d.isRow = true) (hi : (P.info? ty).map (·.size) = some cs.length)
    (h : p.wp P l.toArray Q S (a.put o.dst (.agg cs.toArray)) w) : (PlanN.t k p).wp P l.toArray Q S a w := by
  refine ⟨o, by simpa using ho, wpQuiet_step fun K hK => ?_⟩
  rw [if_pos hw]
  refine ⟨.agg cs.toArray, fun y hy => ?_, hK _ (wpQuiet_nil h)⟩
  obtain ⟨s, rfl⟩ := hy
  unfold Oper.quietAt execOp
  simp only [hop, hx, Instr.loadAt, Instr.sureAddr, Sem.run_bind, Sem.run_pure, Result.andThen_ok, run_loadVar_mid s.w g off ty cs d (hS s.w s.h) hu hd hi]
  exact ⟨rfl, rfl⟩
set_option maxRecDepth 100000 in
set_option maxHeartbeats 8000000 in
theorem of20_any (w : World) (c : List Int) (hc : cidOk c) :
    Calls Try.prog 9 #[cidV c] w fun e w' => ∃ p B la ra lc rc bn bs bg, e = .returned (.pointer (some ⟨p, 0, none⟩)) ∧ Below w.heap.size w w' ∧ ThAt w' p B 1 ⟨[(0, c)], [(0, c)], [], [], (0, c)⟩ la ra lc rc bn bs bg ∧ ∀ g ∈ B, w.heap.size ≤ g := by
  obtain ⟨c0, c1, c2, c3, c4, c5, c6, c7, rfl⟩ := Kc.len8 hc.1
  have HC := Lib.hid hc
  clear hc
  simp only [cidV, List.map_cons, List.map_nil]
  go_enter Try.func9, Try.ntmps9
  go_upto_region 2 with fail
  change Code.wp _ _ _ _ ((w.alloc (.cells ([.int .u8 c0, .int .u8 c1, .int .u8 c2, .int .u8 c3, .int .u8 c4, .int .u8 c5, .int .u8 c6, .int .u8 c7] : List Value).toArray 38)).alloc (.cells ([.int .u64 0, .int .u8 c0, .int .u8 c1, .int .u8 c2, .int .u8 c3, .int .u8 c4, .int .u8 c5, .int .u8 c6, .int .u8 c7] : List Value).toArray 65))
  have h1 := (Below.refl w.heap.size w).alloc (Nat.le_refl _) (.cells ([.int .u8 c0, .int .u8 c1, .int .u8 c2, .int .u8 c3, .int .u8 c4, .int .u8 c5, .int .u8 c6, .int .u8 c7] : List Value).toArray 38)
  have r1 := heap_alloc_new w (.cells ([.int .u8 c0, .int .u8 c1, .int .u8 c2, .int .u8 c3, .int .u8 c4, .int .u8 c5, .int .u8 c6, .int .u8 c7] : List Value).toArray 38)
  have b2 := (Below.refl _ (w.alloc (.cells ([.int .u8 c0, .int .u8 c1, .int .u8 c2, .int .u8 c3, .int .u8 c4, .int .u8 c5, .int .u8 c6, .int .u8 c7] : List Value).toArray 38))).alloc (Nat.le_refl _) (.cells ([.int .u64 0, .int .u8 c0, .int .u8 c1, .int .u8 c2, .int .u8 c3, .int .u8 c4, .int .u8 c5, .int .u8 c6, .int .u8 c7] : List Value).toArray 65)
  have h2 := h1.alloc h1.size (.cells ([.int .u64 0, .int .u8 c0, .int .u8 c1, .int .u8 c2, .int .u8 c3, .int .u8 c4, .int .u8 c5, .int .u8 c6, .int .u8 c7] : List Value).toArray 65)
  have r2 := heap_alloc_new (w.alloc (.cells ([.int .u8 c0, .int .u8 c1, .int .u8 c2, .int .u8 c3, .int .u8 c4, .int .u8 c5, .int .u8 c6, .int .u8 c7] : List Value).toArray 38)) (.cells ([.int .u64 0, .int .u8 c0, .int .u8 c1, .int .u8 c2, .int .u8 c3, .int .u8 c4, .int .u8 c5, .int .u8 c6, .int .u8 c7] : List Value).toArray 65)
  have r1' := bl_row b2 (lt_of_block r1) r1
  have s1 : (w.alloc (.cells ([.int .u8 c0, .int .u8 c1, .int .u8 c2, .int .u8 c3, .int .u8 c4, .int .u8 c5, .int .u8 c6, .int .u8 c7] : List Value).toArray 38)).heap.size = w.heap.size + 1 := by simp
  rw [s1] at r2
  clear b2 r1 h1
  generalize ((w.alloc (.cells ([.int .u8 c0, .int .u8 c1, .int .u8 c2, .int .u8 c3, .int .u8 c4, .int .u8 c5, .int .u8 c6, .int .u8 c7] : List Value).toArray 38)).alloc (.cells ([.int .u64 0, .int .u8 c0, .int .u8 c1, .int .u8 c2, .int .u8 c3, .int .u8 c4, .int .u8 c5, .int .u8 c6, .int .u8 c7] : List Value).toArray 65)) = w2 at h2 r2 r1' ⊢
  have H2 := Lib.hid h2; have HR1 := Lib.hid r1'; have HR2 := Lib.hid r2
  clear s1 h2 r2 r1'
  refine wp_planN (l := ofOps) (id := 2) ofPlan (fun y => Below w2.heap.size w2 y) (by kernel_rfl) (by kernel_rfl) ofPlan_ok (fun c a d v w h => by cases d <;> exact h) (Below.refl _ _).drew ?_
  have hd := (Below.refl w2.heap.size w2).drew
  have HB := Lib.hid hd
  clear hd
  generalize w2.drew = w3 at HB ⊢
  haveI hne : Nonempty (In fun y => Below w2.heap.size w2 y) := ⟨⟨w2, Below.refl _ _⟩⟩
  change (PlanN.t 0 (.t 3 (.t 7 (.t 10 (ofPl 6 false 0 0 false))))).wp _ _ _ _ _ _
  conv => arg 2; arg 1; whnf
  refine planN_t_load (k := 0) (by rfl) (by kernel_rfl) 65 _ rfl (w.heap.size + 1) 0 rfl [.int .u64 0, .int .u8 c0, .int .u8 c1, .int .u8 c2, .int .u8 c3, .int .u8 c4, .int .u8 c5, .int .u8 c6, .int .u8 c7] _ (fun y hy => rngL ((fun y hy => bl_row hy (lt_of_block HR2.out) HR2.out) y hy)) Try.underlying65 rfl rfl ?_
  simp only [Act.put, List.setIfInBounds_toArray, List.set_cons_succ, List.set_cons_zero]
  refine planN_t_load (k := 3) (by rfl) (by kernel_rfl) 38 _ rfl w.heap.size 0 rfl [.int .u8 c0, .int .u8 c1, .int .u8 c2, .int .u8 c3, .int .u8 c4, .int .u8 c5, .int .u8 c6, .int .u8 c7] _ (fun y hy => rngL ((fun y hy => bl_row hy (lt_of_block HR1.out) HR1.out) y hy)) Try.underlying38 rfl rfl ?_
  simp only [Act.put, List.setIfInBounds_toArray, List.set_cons_succ, List.set_cons_zero]
  refine planN_t_load (k := 7) (by rfl) (by kernel_rfl) 38 _ rfl w.heap.size 0 rfl [.int .u8 c0, .int .u8 c1, .int .u8 c2, .int .u8 c3, .int .u8 c4, .int .u8 c5, .int .u8 c6, .int .u8 c7] _ (fun y hy => rngL ((fun y hy => bl_row hy (lt_of_block HR1.out) HR1.out) y hy)) Try.underlying38 rfl rfl ?_
  simp only [Act.put, List.setIfInBounds_toArray, List.set_cons_succ, List.set_cons_zero]
  refine planN_t_load (k := 10) (by rfl) (by kernel_rfl) 65 _ rfl (w.heap.size + 1) 0 rfl [.int .u64 0, .int .u8 c0, .int .u8 c1, .int .u8 c2, .int .u8 c3, .int .u8 c4, .int .u8 c5, .int .u8 c6, .int .u8 c7] _ (fun y hy => rngL ((fun y hy => bl_row hy (lt_of_block HR2.out) HR2.out) y hy)) Try.underlying65 rfl rfl ?_
  simp only [Act.put, List.setIfInBounds_toArray, List.set_cons_succ, List.set_cons_zero]
  refine of_wp w2 HC (Lib.hid ?_) 6 false 0 0 false _ _ _ _ _ _ _ _ _ w3 ⟨HB.out, fun e => (by cases e), fun e => absurd rfl e, fun e => absurd rfl e, fun e => (by cases e), fun e => (by cases e), fun e => (by cases e), fun e => absurd rfl e, fun e => absurd rfl e, fun e => absurd rfl e⟩ (by omega) (by omega) rfl
  intro x7 x8 x11 x15 x16 x17 y hf g hg
  subst hg
  show Exit.then _ _ _ _ _
  have HF := Lib.hid hf
  clear hf
  go_wp2_with fail
  go_ret
  obtain ⟨gA, e7, hrA, hgA⟩ := HF.out.row rfl
  obtain ⟨b1, n1, e8, hb1, hs1⟩ := HF.out.m1 (by decide)
  obtain ⟨b2, n2, e11, hb2, hs2⟩ := HF.out.m2 (by decide)
  obtain ⟨b3, n3, e15, hb3, hs3⟩ := HF.out.m3 rfl
  have d12 := HF.out.d12 (by decide) (by decide); have d13 := HF.out.d13 (by decide) rfl; have d23 := HF.out.d23 (by decide) rfl
  have hlow := HF.out.low
  clear HF
  subst e7; subst e8; subst e11; subst e15
  have hok : ∀ z ∈ [((0 : Int), [c0, c1, c2, c3, c4, c5, c6, c7])], nmK.ok z := fun z hz => by rw [List.mem_singleton.1 hz]; exact ⟨⟨Int.le_refl 0, (by decide : (0 : Int) < 18446744073709551616)⟩, HC.out⟩
  generalize hH : ([.slice (some ⟨gA, 0, none⟩) 1 1, .map (some b1), .map (some b2), .int .u64 0, .int .u8 c0, .int .u8 c1, .int .u8 c2, .int .u8 c3, .int .u8 c4, .int .u8 c5, .int .u8 c6, .int .u8 c7, .map (some b3), .slice none 0 0] : List Value) = HD
  have hal := (Below.refl y.heap.size y).alloc (Nat.le_refl _) (.cells HD.toArray THT)
  have rH := heap_alloc_new y (.cells HD.toArray THT)
  have hsz := H2.out.size
  have hsy := hlow.size
  have hlA := lt_of_block hrA
  have hl1 := hb1.lt; have hl2 := hb2.lt; have hl3 := hb3.lt
  refine ⟨y.heap.size, [y.heap.size, gA, b1, b2, b3], some ⟨gA, 0, none⟩, none, 1, 0, b1, b2, b3, rfl, ?_, ?_, ?_⟩
  · exact bl_next (bl_next H2.out H2.out.size hlow) (Nat.le_trans H2.out.size hlow.size) hal
  · refine ⟨?_, RK.At.of_row (bl_row hal hlA hrA) hok, RK.At.nil _ _, by simp, by simp, ⟨_, _, hb1.below hal, ?_⟩, ⟨_, _, hb2.below hal, ?_⟩, ⟨_, _, hb3.below hal, ?_⟩, ⟨fun e => d12 (by rw [e]), fun e => d13 (by rw [e]), fun e => d23 (by rw [e])⟩, hok _ (List.mem_singleton.2 rfl), by simp, by simp, ?_, fun x hx => (by cases hx), ?_, by simp⟩
    · rw [rH, ← hH]; rfl
    · intro s hs
      have h9 := (NF.put (C := []) (x := (0, [c0, c1, c2, c3, c4, c5, c6, c7])) (f := fun _ => none) (fun s _ => rfl) (fun y hy => (by cases hy))) s hs
      exact h9
    · intro s hs
      have h9 := (SF.put (C := []) (x := (0, [c0, c1, c2, c3, c4, c5, c6, c7])) (f := fun _ => none) (fun s _ => rfl) (fun y hy => (by cases hy))) s hs
      exact h9
    · intro s hs; rfl
    · intro x hx; injection hx with hx; subst hx; exact ⟨by simp, by simp only; omega, _, _, rfl⟩
    · intro g hg; simp only [List.mem_cons, List.not_mem_nil, or_false] at hg; have := hal.size; simp only [World.alloc] at this ⊢; simp; omega
  · intro g hg; simp only [List.mem_cons, List.not_mem_nil, or_false] at hg; omega
end Go.Proofs.Ytjdcmhclamjcjaa
namespace Go.Proofs.Ytjdcmhclamjcjaa
open Go.RowKit
set_option linter.unusedVariables false
set_option linter.unusedSimpArgs false

theorem wpList_eql_cid_g {ops : Array Oper} {rest : List Oper} {o : Oper} {a : Act} {w : World} {Q : Exit → Act → World → Prop} (hw : Region.wanted o (yielded ops a.tmps) = true) (x y : Operand) (t2 : TypeId) (ho : o.op = .binOp .eql 38 x y t2) (xs ys : List Int) (hx : a.eval x = .agg (xs.map (Value.int .u8)).toArray) (hy : a.eval y = .agg (ys.map (Value.int .u8)).toArray) (wx : cidOk xs) (wy : cidOk ys)
    (h : wpList Try.prog ops Q rest (a.put o.dst (.bool (xs == ys))) w) : wpList Try.prog ops Q (o :: rest) a w :=
  wpList_step fun K' hK => by rw [if_pos hw]; exact wp_eql_cid x y t2 ho xs ys hx hy wx wy (hK _ _ h)
set_option maxRecDepth 100000 in
set_option maxHeartbeats 8000000 in
theorem same4eq_any (w : World) (f : Fr) (hf : f.Wf) (dv rv : Value) (hkk : f.kind = 0 ∨ f.kind = 24 ∨ f.kind = 25) :
    Makes Try.prog 22 #[.agg (f.cells dv rv).toArray, .agg (f.cells dv rv).toArray] w (.bool true) := by
  have hse := hf.se; have hli := hf.li; have hkd := hf.kind
  have HCO : Hid (cidOk f.cid) := Lib.hid ⟨hf.cidl, hf.cid⟩
  obtain ⟨f0, f5, f8⟩ := frc (f := f) (dv := dv) (rv := rv)
  have HFC := Lib.hid (frc_cid (f := f) (dv := dv) (rv := rv))
  obtain ⟨RF, hRF⟩ : ∃ R, f.cells dv rv = R := ⟨_, rfl⟩
  rw [hRF] at f0 f5 f8 HFC ⊢
  have HF0 := Lib.hid f0; have HF5 := Lib.hid f5; have HF8 := Lib.hid f8
  obtain ⟨k, hk⟩ : ∃ k, f.kind = k := ⟨_, rfl⟩
  obtain ⟨se, hs⟩ : ∃ k, f.se = k := ⟨_, rfl⟩
  obtain ⟨li, hl⟩ : ∃ k, f.li = k := ⟨_, rfl⟩
  obtain ⟨c, hc⟩ : ∃ k, f.cid = k := ⟨_, rfl⟩
  rw [hk] at hkd HF0 hkk; rw [hs] at hse HF8; rw [hl] at hli HF5; rw [hc] at HCO HFC
  have hc8 : (c.map (Value.int .u8)).length = 8 := by simp [HCO.out.1]
  obtain ⟨CX, hCX⟩ : ∃ C, c.map (Value.int .u8) = C := ⟨_, rfl⟩
  have HCX := Lib.hid hCX
  rw [hCX] at hc8 HFC
  have HC8 := Lib.hid hc8
  clear hf f0 f5 f8 hk hs hl hc hRF hCX hc8
  have HB := Lib.hid (Below.refl w.heap.size w)
  go_enter Try.func22, Try.ntmps22
  go_upto_region 1 with fail
  change Code.wp _ _ _ _ ((w.alloc (.cells RF.toArray 53)).alloc (.cells RF.toArray 53))
  obtain ⟨ga, hg0⟩ : ∃ g, w.heap.size = g := ⟨_, rfl⟩
  try rw [hg0]
  have hb := (Below.refl w.heap.size w).alloc (Nat.le_refl _) (.cells RF.toArray 53)
  have hrw := heap_alloc_new w (.cells RF.toArray 53)
  have hsz : (w.alloc (.cells RF.toArray 53)).heap.size = ga + 1 := by simp [hg0]
  rw [hg0] at hrw
  replace HB := Lib.hid (bl_next HB.out HB.out.size hb)
  have HA := Lib.hid hrw
  clear hb hrw
  generalize w.alloc (.cells RF.toArray 53) = w1 at HB HA hsz ⊢
  have hg1 := hsz
  clear hsz
  clear hg0
  have hb := (Below.refl w1.heap.size w1).alloc (Nat.le_refl _) (.cells RF.toArray 53)
  have hrw := heap_alloc_new w1 (.cells RF.toArray 53)
  have hsz : (w1.alloc (.cells RF.toArray 53)).heap.size = ga + 1 + 1 := by simp [hg1]
  rw [hg1] at hrw
  replace HB := Lib.hid (bl_next HB.out HB.out.size hb)
  replace HA := Lib.hid (bl_row hb (lt_of_block HA.out) HA.out)
  have HG := Lib.hid hrw
  clear hb hrw
  generalize w1.alloc (.cells RF.toArray 53) = w2 at HB HA HG hsz ⊢
  have hg2 := hsz
  clear hsz
  clear hg1
  obtain ⟨gb, hgg⟩ : ∃ g, ga + 1 = g := ⟨_, rfl⟩
  rw [hgg] at HG hg2 ⊢
  have HLTgb : Hid (ga < gb) := Lib.hid (by omega)
  clear hgg
  clear hg2
  have ca0 := cell_row HA.out 0 _ HF0.out; have cb0 := cell_row HG.out 0 _ HF0.out; have ca5 := cell_row HA.out 5 _ HF5.out; have cb5 := cell_row HG.out 5 _ HF5.out; have ca8 := cell_row HA.out 8 _ HF8.out; have cb8 := cell_row HG.out 8 _ HF8.out
  have HRA := Lib.hid (rng_row HA.out 11 _ HFC.out); have HRB := Lib.hid (rng_row HG.out 11 _ HFC.out)
  have hcc : (c == c) = true := by simp
  rcases hkk with rfl | rfl | rfl
  · skip
    go_wp2_with fail
    go_ret
    exact ⟨rfl, HB.out⟩
  · skip
    go_wp2_with (first | (refine wpList_load_g 38 _ rfl (by kernel_rfl) ga 11 rfl CX _ HRA.out Try.underlying38 rfl (by rw [HC8.out]; rfl) ?_) | (refine wpList_load_g 38 _ rfl (by kernel_rfl) gb 11 rfl CX _ HRB.out Try.underlying38 rfl (by rw [HC8.out]; rfl) ?_) | (refine wpList_eql_cid_g (by kernel_rfl) _ _ _ rfl c c (by rw [HCX.out]; rfl) (by rw [HCX.out]; rfl) HCO.out HCO.out ?_; rw [hcc]) | fail)
    go_ret
    exact ⟨rfl, HB.out⟩
  · skip
    go_wp2_with fail
    go_ret
    exact ⟨rfl, HB.out⟩
end Go.Proofs.Ytjdcmhclamjcjaa
namespace Go.Proofs.Ytjdcmhclamjcjaa
open Go.RowKit
set_option linter.unusedVariables false
set_option linter.unusedSimpArgs false

def Dj (A B : List Nat) : Prop := ∀ x ∈ A, x ∉ B
theorem Dj.symm {A B : List Nat} (h : Dj A B) : Dj B A := fun x hx hm => h x hm hx
theorem Dj.new {A A' B : List Nat} {w y : World} (h : Dj A B) (hu : UpdO A w y A') (hl : ∀ x ∈ B, x < w.heap.size) : Dj A' B := fun x hx hm => by
  rcases hu.new x hx with h1 | h1
  · exact h x h1 hm
  · have := hl x hm; omega
abbrev OOT : TypeId := 68
abbrev ONT : TypeId := 65
abbrev POT : TypeId := 78
abbrev PNT : TypeId := 75
abbrev WDT : TypeId := 46
def wdRow (po pt pp pq : Nat) : List Value := [.pointer (some ⟨po, 0, none⟩), .pointer (some ⟨pt, 0, none⟩), .pointer (some ⟨pp, 0, none⟩), .pointer (some ⟨pq, 0, none⟩)]
/-- names of this end: the program's. -/
def OwnP (w : World) (p : Nat) (B : List Nat) (L : List Nm) (nx sd : Int) : Prop := OwnAt OOT ONT w p B L nx sd
def OwnR (w : World) (p : Nat) (B : List Nat) (L : List Nm) (nx sd : Int) : Prop := OwnAt POT PNT w p B L nx sd
def ThX (w : World) (p : Nat) (B : List Nat) (N : Nat) (S : Th) : Prop := ∃ la ra lc rc bn bs bg, ThAt w p B N S la ra lc rc bn bs bg
def RtX (w : World) (p : Nat) (B : List Nat) (N : Nat) (S : Th) : Prop := ∃ h, RtAt w p B N S h
structure Ow where
  L : List Nm
  nx : Int
  sd : Int
structure Wd (bse : Nat) (w : World) (g po pt pp pq : Nat) (B1 B2 B3 B4 : List Nat) (N : Nat) (o : Ow) (t : Th) (p : Ow) (q : Th) : Prop where
  row : w.heap[g]? = some (.cells (wdRow po pt pp pq).toArray WDT (0, 0))
  ho : OwnP w po B1 o.L o.nx o.sd
  ht : ThX w pt B2 N t
  hp : OwnR w pp B3 p.L p.nx p.sd
  hq : RtX w pq B4 N q
  d12 : Dj B1 B2
  d13 : Dj B1 B3
  d14 : Dj B1 B4
  d23 : Dj B2 B3
  d24 : Dj B2 B4
  d34 : Dj B3 B4
  g0 : g ∉ B1 ∧ g ∉ B2 ∧ g ∉ B3 ∧ g ∉ B4
  ge : bse ≤ g ∧ (∀ x ∈ B1, bse ≤ x) ∧ (∀ x ∈ B2, bse ≤ x) ∧ (∀ x ∈ B3, bse ≤ x) ∧ (∀ x ∈ B4, bse ≤ x)
section
variable {bse : Nat} {w y : World} {g po pt pp pq N N' : Nat} {B1 B2 B3 B4 C : List Nat} {o p : Ow} {t q : Th}
theorem OwnP.lt {w : World} {p : Nat} {B : List Nat} {L : List Nm} {nx sd : Int} (h : OwnP w p B L nx sd) : ∀ g ∈ B, g < w.heap.size := OwnAt.lt h
theorem OwnR.lt {w : World} {p : Nat} {B : List Nat} {L : List Nm} {nx sd : Int} (h : OwnR w p B L nx sd) : ∀ g ∈ B, g < w.heap.size := OwnAt.lt h
theorem ThX.lt {w : World} {p N : Nat} {B : List Nat} {S : Th} (h : ThX w p B N S) : ∀ g ∈ B, g < w.heap.size := by obtain ⟨_, _, _, _, _, _, _, h⟩ := h; exact h.lt
theorem RtX.lt {w : World} {p N : Nat} {B : List Nat} {S : Th} (h : RtX w p B N S) : ∀ g ∈ B, g < w.heap.size := by obtain ⟨_, h⟩ := h; exact h.lt
theorem OwnP.off {w y : World} {p : Nat} {B M : List Nat} {L : List Nm} {nx sd : Int} (h : OwnP w p B L nx sd) (ho : Off M w y) (hd : Dj B M) : OwnP y p B L nx sd := OwnAt.off h ho hd
theorem OwnR.off {w y : World} {p : Nat} {B M : List Nat} {L : List Nm} {nx sd : Int} (h : OwnR w p B L nx sd) (ho : Off M w y) (hd : Dj B M) : OwnR y p B L nx sd := OwnAt.off h ho hd
theorem ThX.off {w y : World} {p N : Nat} {B M : List Nat} {S : Th} (h : ThX w p B N S) (ho : Off M w y) (hd : Dj B M) : ThX y p B N S := by obtain ⟨a, b, c, d, e, f, g, h⟩ := h; exact ⟨a, b, c, d, e, f, g, h.off ho hd⟩
theorem RtX.off {w y : World} {p N : Nat} {B M : List Nat} {S : Th} (h : RtX w p B N S) (ho : Off M w y) (hd : Dj B M) : RtX y p B N S := by obtain ⟨a, h⟩ := h; exact ⟨a, h.off ho hd⟩
theorem ge_new {A A' : List Nat} {w y : World} (hu : UpdO A w y A') (h : ∀ x ∈ A, bse ≤ x) (hs : bse ≤ w.heap.size) : ∀ x ∈ A', bse ≤ x := fun x hx => by
  rcases hu.new x hx with h1 | h1
  · exact h x h1
  · omega
theorem ni_new {A A' : List Nat} {w y : World} (hu : UpdO A w y A') (h : g ∉ A) (hs : g < w.heap.size) : g ∉ A' := fun hx => by
  rcases hu.new g hx with h1 | h1
  · exact h h1
  · omega
theorem Wd.gs (h : Wd bse w g po pt pp pq B1 B2 B3 B4 N o t p q) : g < w.heap.size := lt_of_block h.row
theorem Wd.bs (h : Wd bse w g po pt pp pq B1 B2 B3 B4 N o t p q) : bse ≤ w.heap.size := by have := h.gs; have := h.ge.1; omega
theorem Wd.below (h : Wd bse w g po pt pp pq B1 B2 B3 B4 N o t p q) (hb : Below w.heap.size w y) : Wd bse y g po pt pp pq B1 B2 B3 B4 N o t p q :=
  have ho : Off [] w y := Off.of_below hb
  have hn : ∀ B, Dj B [] := fun B x _ hx => by cases hx
  ⟨bl_row hb h.gs h.row, h.ho.off ho (hn _), h.ht.off ho (hn _), h.hp.off ho (hn _), h.hq.off ho (hn _), h.d12, h.d13, h.d14, h.d23, h.d24, h.d34, h.g0, h.ge⟩
theorem Wd.stepO (h : Wd bse w g po pt pp pq B1 B2 B3 B4 N o t p q) (hu : UpdO B1 w y C) {o' : Ow} (hn : OwnP y po C o'.L o'.nx o'.sd) : Wd bse y g po pt pp pq C B2 B3 B4 N o' t p q :=
  ⟨hu.off.row h.row h.g0.1, hn, h.ht.off hu.off h.d12.symm, h.hp.off hu.off h.d13.symm, h.hq.off hu.off h.d14.symm, h.d12.new hu h.ht.lt, h.d13.new hu h.hp.lt, h.d14.new hu h.hq.lt, h.d23, h.d24, h.d34,
    ⟨ni_new hu h.g0.1 h.gs, h.g0.2⟩, ⟨h.ge.1, ge_new hu h.ge.2.1 h.bs, h.ge.2.2⟩⟩
theorem Wd.stepP (h : Wd bse w g po pt pp pq B1 B2 B3 B4 N o t p q) (hu : UpdO B3 w y C) {p' : Ow} (hn : OwnR y pp C p'.L p'.nx p'.sd) : Wd bse y g po pt pp pq B1 B2 C B4 N o t p' q :=
  ⟨hu.off.row h.row h.g0.2.2.1, h.ho.off hu.off h.d13, h.ht.off hu.off h.d23, hn, h.hq.off hu.off h.d34.symm, h.d12, (h.d13.symm.new hu h.ho.lt).symm, h.d14, (h.d23.symm.new hu h.ht.lt).symm, h.d24, h.d34.new hu h.hq.lt,
    ⟨h.g0.1, h.g0.2.1, ni_new hu h.g0.2.2.1 h.gs, h.g0.2.2.2⟩, ⟨h.ge.1, h.ge.2.1, h.ge.2.2.1, ge_new hu h.ge.2.2.2.1 h.bs, h.ge.2.2.2.2⟩⟩
theorem ThX.mono {w : World} {p N N' : Nat} {B : List Nat} {S : Th} (h : ThX w p B N S) (hN : N ≤ N') : ThX w p B N' S := by obtain ⟨a, b, c, d, e, f, g, h⟩ := h; exact ⟨a, b, c, d, e, f, g, h.mono hN⟩
theorem RtX.mono {w : World} {p N N' : Nat} {B : List Nat} {S : Th} (h : RtX w p B N S) (hN : N ≤ N') : RtX w p B N' S := by obtain ⟨a, h⟩ := h; exact ⟨a, h.mono hN⟩
theorem Wd.mono (h : Wd bse w g po pt pp pq B1 B2 B3 B4 N o t p q) (hN : N ≤ N') : Wd bse w g po pt pp pq B1 B2 B3 B4 N' o t p q := { h with ht := h.ht.mono hN, hq := h.hq.mono hN }
theorem Wd.stepT (h : Wd bse w g po pt pp pq B1 B2 B3 B4 N o t p q) (hu : UpdO B2 w y C) {t' : Th} (hn : ThX y pt C N' t') (hN : N ≤ N') : Wd bse y g po pt pp pq B1 C B3 B4 N' o t' p q :=
  ⟨hu.off.row h.row h.g0.2.1, h.ho.off hu.off h.d12, hn, h.hp.off hu.off h.d23.symm, (h.hq.off hu.off h.d24.symm).mono hN, (h.d12.symm.new hu h.ho.lt).symm, h.d13, h.d14, h.d23.new hu h.hp.lt, h.d24.new hu h.hq.lt, h.d34,
    ⟨h.g0.1, ni_new hu h.g0.2.1 h.gs, h.g0.2.2⟩, ⟨h.ge.1, h.ge.2.1, ge_new hu h.ge.2.2.1 h.bs, h.ge.2.2.2⟩⟩
theorem Wd.stepQ (h : Wd bse w g po pt pp pq B1 B2 B3 B4 N o t p q) (hu : UpdO B4 w y C) {q' : Th} (hn : RtX y pq C N' q') (hN : N ≤ N') : Wd bse y g po pt pp pq B1 B2 B3 C N' o t p q' :=
  ⟨hu.off.row h.row h.g0.2.2.2, h.ho.off hu.off h.d14, (h.ht.off hu.off h.d24).mono hN, h.hp.off hu.off h.d34, hn, h.d12, h.d13, (h.d14.symm.new hu h.ho.lt).symm, h.d23, (h.d24.symm.new hu h.ht.lt).symm, (h.d34.symm.new hu h.hp.lt).symm,
    ⟨h.g0.1, h.g0.2.1, h.g0.2.2.1, ni_new hu h.g0.2.2.2 h.gs⟩, ⟨h.ge.1, h.ge.2.1, h.ge.2.2.1, h.ge.2.2.2.1, ge_new hu h.ge.2.2.2.2 h.bs⟩⟩
/-- lengths as they are. -/
theorem Wd.tight (h : Wd bse w g po pt pp pq B1 B2 B3 B4 N o t p q) {M : Nat} (h1 : t.L.length ≤ M ∧ t.due.length ≤ M) (h2 : q.L.length ≤ M ∧ q.came.length ≤ M ∧ q.due.length ≤ M ∧ q.was.length ≤ M) : Wd bse w g po pt pp pq B1 B2 B3 B4 M o t p q :=
  { h with
    ht := by obtain ⟨a, b, c, d, e, f, g, k⟩ := h.ht; exact ⟨a, b, c, d, e, f, g, { k with len := h1 }⟩
    hq := by obtain ⟨a, k⟩ := h.hq; exact ⟨a, { k with len := h2 }⟩ }
theorem wdRow_0 : (wdRow po pt pp pq)[0]? = some (.pointer (some ⟨po, 0, none⟩)) := rfl
theorem wdRow_1 : (wdRow po pt pp pq)[1]? = some (.pointer (some ⟨pt, 0, none⟩)) := rfl
theorem wdRow_2 : (wdRow po pt pp pq)[2]? = some (.pointer (some ⟨pp, 0, none⟩)) := rfl
theorem wdRow_3 : (wdRow po pt pp pq)[3]? = some (.pointer (some ⟨pq, 0, none⟩)) := rfl
/-- all that the law writes stands above. -/
theorem low_of {A C : List Nat} (hu : UpdO A w y C) (hA : ∀ x ∈ A, bse ≤ x) (hs : bse ≤ w.heap.size) : Below bse w y := hu.off.below hs hA
/-- a row that is sorted, within another: no longer than it. -/
theorem sorted_len : ∀ {d l : List Int}, d.Pairwise (· < ·) → (∀ x ∈ d, x ∈ l) → d.length ≤ l.length
  | [], l, _, _ => Nat.zero_le _
  | x :: d, l, hp, hs => by
    obtain ⟨h1, h2⟩ := List.pairwise_cons.1 hp
    have hx := hs x (List.mem_cons_self ..)
    have h3 := sorted_len (d := d) (l := l.erase x) h2 (fun z hz => (List.mem_erase_of_ne (by have := h1 z hz; omega)).2 (hs z (List.mem_cons_of_mem _ hz)))
    have h4 := List.length_erase_of_mem hx
    have h5 : 0 < l.length := List.length_pos_of_mem hx
    simp only [List.length_cons]; omega
theorem TI.lens {S : Th} (h : TI S) {M : Nat} (hM : S.came.length ≤ M) : (S.L.length ≤ M ∧ S.due.length ≤ M) ∧ (S.L.length ≤ M ∧ S.came.length ≤ M ∧ S.due.length ≤ M ∧ S.was.length ≤ M) := by
  have h1 := h.len
  have h2 := sorted_len h.due h.dw
  omega
end
end Go.Proofs.Ytjdcmhclamjcjaa
