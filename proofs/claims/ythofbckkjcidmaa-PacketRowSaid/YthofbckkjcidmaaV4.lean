/- texts of the proof, laid together: Pkt7, Pkt8, Pkt9. -/
import Derived.Test.YthofbckkjcidmaaV3
namespace Go.Proofs.Ythofbckkjcidmaa
open Go.RowKit
set_option linter.unusedVariables false
set_option linter.unusedSimpArgs false

theorem results_cell5 {P : Program} {fn : Func} {r t u v x : Tmp} {ty : TypeId} (h : fn.results = #[.cell r ty, .tmp t, .tmp u, .tmp v, .tmp x]) (tmps : Array Value) (w : World) (g : Nat) (hp : tmps.getD r undef = .pointer (some ⟨g, 0, none⟩))
    (cs : List Value) (d : TypeDesc) (e : TypeId) (hr : w.heap[g]? = some (.cells cs.toArray e (0, 0))) (hu : P.underlying ty = some d) (hd : d.isRow = true) (hi : (P.info? ty).map (·.size) = some cs.length) :
    (results fn tmps).run P w = .ok (.tuple #[.agg cs.toArray, tmps.getD t undef, tmps.getD u undef, tmps.getD v undef, tmps.getD x undef]) w := by
  have hl := run_loadVar_mid (P := P) w g 0 ty cs d (fun j v hv => by rw [Nat.zero_add]; exact row_cell hr j v (by simpa using hv)) hu hd hi
  have hp2 : tmps[r]?.getD undef = .pointer (some ⟨g, 0, none⟩) := by simpa using hp
  simp [results, h, hp2, asAddr, hl]
theorem row_set18 (h : Hd) (a : Option Addr) (tc : Nat) (x : Int) (ht : h.t.length = 8) (hf : h.f.length = 8) : (h.row a tc).set 18 (.int .i64 x) = ({ h with w := x } : Hd).row a tc := by
  obtain ⟨s, t, f, k, wd, p⟩ := h
  obtain ⟨t0, t1, t2, t3, t4, t5, t6, t7, rfl⟩ := len8 ht
  obtain ⟨f0, f1, f2, f3, f4, f5, f6, f7, rfl⟩ := len8 hf
  simp [Hd.row]
theorem row_set19 (h : Hd) (a : Option Addr) (tc : Nat) (x : Bool) (ht : h.t.length = 8) (hf : h.f.length = 8) : (h.row a tc).set 19 (.bool x) = ({ h with p := x } : Hd).row a tc := by
  obtain ⟨s, t, f, k, wd, p⟩ := h
  obtain ⟨t0, t1, t2, t3, t4, t5, t6, t7, rfl⟩ := len8 ht
  obtain ⟨f0, f1, f2, f3, f4, f5, f6, f7, rfl⟩ := len8 hf
  simp [Hd.row]
theorem own_mono {w : World} {B B' e s n : Nat} {v : Value} {xs : List Value} (h : w.ownsRow B' e s v n xs) (hB : B ≤ B') : w.ownsRow B e s v n xs := by
  refine ⟨h.1, ?_⟩
  rcases h.2 with h1 | ⟨g, cap, cur, h1, hg, hr⟩
  · exact .inl h1
  · exact .inr ⟨g, cap, cur, h1, Nat.le_trans hB hg, hr⟩
theorem drop_set0 {l : List Int} {x : Int} {n : Nat} (h : 1 ≤ n) : (l.set 0 x).drop n = l.drop n := by
  obtain ⟨k, rfl⟩ : ∃ k, n = k + 1 := ⟨n - 1, by omega⟩
  cases l with
  | nil => rfl
  | cons y l => rfl
theorem x0M_take (m b : List Int) (n : Nat) (hn : 1 ≤ n) : x0M m (b.take n) = x0M m b := by
  unfold x0M
  have : (b.take n).getD 0 0 = b.getD 0 0 := by rw [List.getD_eq_getElem?_getD, List.getElem?_take_of_lt (by omega), List.getD_eq_getElem?_getD]
  rw [this]
theorem open_plain (km : Int) (b : List Int) (h : Hd) (at' en wn : Nat) (x0 : Int) (hp : parM b = some (h, at', en)) (he : at' + 12 ≤ en) (hx : x0M (mskM km b at') b = x0) (hw : (x0 % 4 + 1).toNat = wn) (hw4 : wn ≤ 4) :
    revM km b = some ⟨{ h with w := x0 % 4 + 1, p := decide (x0 / 128 % 2 = 0 ∧ x0 / 4 % 2 = 1) }, lowB (xorAt (mskM km b at') at' wn ((b.take (at' + 4)).set 0 x0)) at' wn, xorAt (mskM km b at') at' wn ((b.take en).set 0 x0), at' + wn, en⟩ ∧
      (xorAt (mskM km b at') at' wn ((b.take (at' + 4)).set 0 x0)).take (at' + wn) = (xorAt (mskM km b at') at' wn ((b.take en).set 0 x0)).take (at' + wn) := by
  have e1 : (b.take (at' + 4)).set 0 x0 = ((b.take en).set 0 x0).take (at' + 4) := by
    rw [List.take_set, List.take_take, Nat.min_eq_left (by omega)]
  generalize hm : mskM km b at' = m at *
  have e2 : xorAt m at' wn ((b.take (at' + 4)).set 0 x0) = (xorAt m at' wn ((b.take en).set 0 x0)).take (at' + 4) := by rw [e1, xorAt_take]
  rw [e2]
  refine ⟨?_, by rw [List.take_take, Nat.min_eq_left (by omega)]⟩
  unfold revM
  rw [hp]
  simp only
  rw [hm, hx, hw]
  congr 1
  congr 1
  exact lowM_congr wn fun i hi => by rw [List.getD_eq_getElem?_getD, List.getD_eq_getElem?_getD, List.getElem?_take_of_lt (by omega)]
set_option maxRecDepth 100000 in
set_option maxHeartbeats 4000000 in
theorem open_phase {x0 x1 x2 x3 x4 x5 x6 x7 x8 x10 x11 x12 x13 x15 x16 x17 x18 x19 x20 x21 x22 x23 x24 x25 x26 x27 x28 x29 x30 x31 x32 x33 x34 x35 x36 x37 x38 x39 x40 x41 x42 x43 x44 x45 x46 x47 x48 x49 x50 x51 x52 x53 x54 x55 x56 x57 x58 x59 x60 x61 x62 x63 x64 x65 x66 x67 x68 x69 x70 x71 x72 x73 x74 x75 x76 x77 x78 x79 x80 x81 x82 x83 x84 x85 x86 x87 x88 x89 x90 x91 x92 x93 x94 x95 x96 x97 x98 x99 x100 x101 x102 x103 x104 x105 : Value} {gh gb n0 c0 : Nat} {f0 : Int} {RW : List Value} {pv : Bool} (wc : World) {Q : Exit → Act → World → Prop}
    (hn : 1 ≤ n0) (hf : 0 ≤ f0 ∧ f0 ≤ 255) (hrl : RW.length = 20) (c0' : wc.cell? ⟨gb, 0, none⟩ = some (.int .u8 f0)) (HGH : Hid (wc.heap[gh]? = some (.cells RW.toArray 32 (0, 0)))) (h19 : RW[19]? = some (.bool pv))
    (hQp : ∀ c a d v w, Q (.panic c) (a.put d v) w → Q (.panic c) a w)
    (hQ : ∀ (y56 y57 y58 y59 y60 y61 y62 y63 y64 y65 y66 y67 y68 : Value) (w' : World), w'.heap[gh]? = some (.cells (RW.set 19 (.bool (decide (f0 / 128 % 2 = 0 ∧ f0 / 4 % 2 = 1)))).toArray 32 (0, 0)) → wc.grownBy w' (some gh) → Q .normal ⟨List.toArray (x0 :: x1 :: x2 :: x3 :: x4 :: x5 :: x6 :: x7 :: x8 :: .pointer (some ⟨gh, 0, none⟩) :: x10 :: x11 :: x12 :: x13 :: .slice (some ⟨gb, 0, none⟩) n0 c0 :: x15 :: x16 :: x17 :: x18 :: x19 :: x20 :: x21 :: x22 :: x23 :: x24 :: x25 :: x26 :: x27 :: x28 :: x29 :: x30 :: x31 :: x32 :: x33 :: x34 :: x35 :: x36 :: x37 :: x38 :: x39 :: x40 :: x41 :: x42 :: x43 :: x44 :: x45 :: x46 :: x47 :: x48 :: x49 :: x50 :: x51 :: x52 :: x53 :: x54 :: x55 :: y56 :: y57 :: y58 :: y59 :: y60 :: y61 :: y62 :: y63 :: y64 :: y65 :: y66 :: y67 :: y68 :: x69 :: x70 :: x71 :: x72 :: x73 :: x74 :: x75 :: x76 :: x77 :: x78 :: x79 :: x80 :: x81 :: x82 :: x83 :: x84 :: x85 :: x86 :: x87 :: x88 :: x89 :: x90 :: x91 :: x92 :: x93 :: x94 :: x95 :: x96 :: x97 :: x98 :: x99 :: x100 :: x101 :: x102 :: x103 :: x104 :: x105 :: []), []⟩ w') :
    Code.wp Try.prog (((Try.f31.body.bind (subRegion 8)).getD .skip)) Q ⟨List.toArray (x0 :: x1 :: x2 :: x3 :: x4 :: x5 :: x6 :: x7 :: x8 :: .pointer (some ⟨gh, 0, none⟩) :: x10 :: x11 :: x12 :: x13 :: .slice (some ⟨gb, 0, none⟩) n0 c0 :: x15 :: x16 :: x17 :: x18 :: x19 :: x20 :: x21 :: x22 :: x23 :: x24 :: x25 :: x26 :: x27 :: x28 :: x29 :: x30 :: x31 :: x32 :: x33 :: x34 :: x35 :: x36 :: x37 :: x38 :: x39 :: x40 :: x41 :: x42 :: x43 :: x44 :: x45 :: x46 :: x47 :: x48 :: x49 :: x50 :: x51 :: x52 :: x53 :: x54 :: x55 :: x56 :: x57 :: x58 :: x59 :: x60 :: x61 :: x62 :: x63 :: x64 :: x65 :: x66 :: x67 :: x68 :: x69 :: x70 :: x71 :: x72 :: x73 :: x74 :: x75 :: x76 :: x77 :: x78 :: x79 :: x80 :: x81 :: x82 :: x83 :: x84 :: x85 :: x86 :: x87 :: x88 :: x89 :: x90 :: x91 :: x92 :: x93 :: x94 :: x95 :: x96 :: x97 :: x98 :: x99 :: x100 :: x101 :: x102 :: x103 :: x104 :: x105 :: []), []⟩ wc := by
  have HK := Lib.hid hQ; have HKP := Lib.hid hQp
  clear hQ hQp
  conv => arg 2; whnf
  have ha := (and48 f0 hf).2.1
  have ha4 := (and_hid f0 hf).2.2.2.2.2
  have c19 := cell_row HGH.out 19 _ h19
  have z19 := row_free HGH.out 19
  have HST := Lib.hid (fun b => heap_setCell_same wc gh 19 _ _ (.bool b) HGH.out)
  have HGR := Lib.hid (fun b => grown_setCell wc gh 19 (.bool b))
  simp only [List.setIfInBounds_toArray] at HST
  clear hrl h19
  rcases (by omega : f0 / 128 % 2 = 1 ∨ f0 / 128 % 2 = 0) with h1 | h1
  · skip
    have hb : decide (f0 / 128 % 2 = 0 ∧ f0 / 4 % 2 = 1) = false := by simp [h1]
    rw [h1] at ha
    rw [hb] at HK
    clear hb ha4 h1
    go_wp2_with fail
    exact HK.out _ _ _ _ _ _ _ _ _ _ _ _ _ _ (HST.out _) (HGR.out _)
  · skip
    rw [h1] at ha
    rcases (by omega : f0 / 4 % 2 = 1 ∨ f0 / 4 % 2 = 0) with h2 | h2
    · have hb : decide (f0 / 128 % 2 = 0 ∧ f0 / 4 % 2 = 1) = true := by simp [h1, h2]
      rw [h2] at ha4
      rw [hb] at HK
      clear hb h1 h2
      go_wp2_with fail
      exact HK.out _ _ _ _ _ _ _ _ _ _ _ _ _ _ (HST.out _) (HGR.out _)
    · have hb : decide (f0 / 128 % 2 = 0 ∧ f0 / 4 % 2 = 1) = false := by simp [h1, h2]
      rw [h2] at ha4
      rw [hb] at HK
      clear hb h1 h2
      go_wp2_with fail
      exact HK.out _ _ _ _ _ _ _ _ _ _ _ _ _ _ (HST.out _) (HGR.out _)
theorem own_grown {w w' : World} {B e n c g gb : Nat} {xs : List Value} (h : w.ownsRow B e 1 (.slice (some ⟨gb, 0, none⟩) n c) n xs) (hg : w.grownBy w' (some g)) (hne : some gb ≠ some g) : w'.ownsRow B e 1 (.slice (some ⟨gb, 0, none⟩) n c) n xs := by
  refine ⟨h.1, ?_⟩
  rcases h.2 with ⟨h1, h2⟩ | ⟨g', cap, cur, h1, hb, hr, hx⟩
  · cases h1
  · injection h1 with h1 h2 h3
    injection h1 with h1; injection h1 with h1
    subst h1; subst h3
    exact .inr ⟨gb, c, cur, rfl, hb, grown_row hg hne hr, hx⟩
theorem row_19 (h : Hd) (a : Option Addr) (tc : Nat) (ht : h.t.length = 8) (hf : h.f.length = 8) : (h.row a tc)[19]? = some (.bool h.p) := by
  obtain ⟨s, t, f, k, wd, p⟩ := h
  obtain ⟨t0, t1, t2, t3, t4, t5, t6, t7, rfl⟩ := len8 ht
  obtain ⟨f0, f1, f2, f3, f4, f5, f6, f7, rfl⟩ := len8 hf
  rfl
/-- what open hands back. -/
def OpenR (w : World) (km : Int) (b : List Int) (e : Ending) (w' : World) : Prop :=
  Below w.heap.size w w' ∧ ((revM km b = none ∧ e = .returned (.tuple #[.agg rowZ.toArray, .slice none 0 0, .int .i64 0, .int .u32 0, .int .i64 12])) ∨
    ∃ r a' tc oa oc, revM km b = some r ∧ e = .returned (.tuple #[r.h.val a' tc, .slice oa r.at' oc, .int .i64 r.en, .int .u32 r.low, .int .i64 0]) ∧ IntsK .u8 w' a' r.h.k.length r.h.k ∧ r.h.k.length ≤ tc ∧ r.at' ≤ oc ∧ oc ≤ 9223372036854775807 ∧ IntsK .u8 w' oa r.at' (r.x.take r.at') ∧ r.en ≤ b.length ∧ r.at' + 8 ≤ r.en ∧ r.x.drop r.at' = (b.take r.en).drop r.at' ∧ 1 ≤ r.at' ∧ 1 ≤ r.h.w ∧ r.h.w ≤ 4 ∧ r.h.t.length = 8 ∧ r.h.f.length = 8 ∧ (∀ x, a' = some x → w.heap.size ≤ x.block) ∧ (∃ g, oa = some ⟨g, 0, none⟩) ∧ 0 ≤ r.low ∧ r.low < 4294967296)

set_option maxRecDepth 100000 in
set_option maxHeartbeats 8000000 in
theorem open9_any (w : World) (ks km : Int) (a : Option Addr) (len cap : Nat) (b : List Int) (hlc : len ≤ cap) (hcap : cap ≤ 9223372036854775807) (hlen : len ≤ 1000000) (hI : IntsK .u8 w a len b) :
    Calls Try.prog 31 #[.agg #[.int .u64 ks, .int .u64 km], .slice a len cap] w (OpenR w km b) := by
  have hbl := hI.1
  obtain ⟨QQ, hQQ⟩ : ∃ Q, OpenR w km b = Q := ⟨_, rfl⟩
  have HQN : Hid (∀ w', Below w.heap.size w w' → parM b = none → QQ (.returned (.tuple #[.agg rowZ.toArray, .slice none 0 0, .int .i64 0, .int .u32 0, .int .i64 12])) w') := Lib.hid fun w' hb hp => by
    rw [← hQQ]; exact ⟨hb, .inl ⟨by unfold revM; rw [hp], rfl⟩⟩
  have HI := Lib.hid hI
  have HQQ := Lib.hid hQQ
  have HZL : Hid (rowZ.length = 20) := Lib.hid rfl
  have HZO : Hid (∀ v ∈ rowZ, v.oneCell' = true) := Lib.hid rowZ_one
  rw [hQQ]
  have HBL := Lib.hid hbl
  clear hI hQQ hbl
  go_enter Try.func31, Try.ntmps31
  go_upto_region 1 with fail
  change Code.wp _ _ _ _ ((w.alloc (.cells #[.int .u64 ks, .int .u64 km] 27)).alloc (.cells rowZ.toArray 32))
  have HB := Lib.hid (Below.refl w.heap.size w)
  obtain ⟨gk, hg0⟩ : ∃ g, w.heap.size = g := ⟨_, rfl⟩
  try rw [hg0]
  have hb := (Below.refl w.heap.size w).alloc (Nat.le_refl _) (.cells #[.int .u64 ks, .int .u64 km] 27)
  have hrw := heap_alloc_new w (.cells #[.int .u64 ks, .int .u64 km] 27)
  have hsz : (w.alloc (.cells #[.int .u64 ks, .int .u64 km] 27)).heap.size = gk + 1 := by simp [hg0]
  rw [hg0] at hrw
  replace HB := Lib.hid (bl_next HB.out HB.out.size hb)
  have HGK := Lib.hid hrw
  clear hb hrw
  generalize w.alloc (.cells #[.int .u64 ks, .int .u64 km] 27) = w1 at HB HGK hsz ⊢
  have hg1 := hsz
  clear hsz
  have HG0 := Lib.hid hg0
  clear hg0
  have hb := (Below.refl w1.heap.size w1).alloc (Nat.le_refl _) (.cells rowZ.toArray 32)
  have hrw := heap_alloc_new w1 (.cells rowZ.toArray 32)
  have hsz : (w1.alloc (.cells rowZ.toArray 32)).heap.size = gk + 1 + 1 := by simp [hg1]
  rw [hg1] at hrw
  replace HB := Lib.hid (bl_next HB.out HB.out.size hb)
  replace HGK := Lib.hid (bl_row hb (lt_of_block HGK.out) HGK.out)
  have HGR := Lib.hid hrw
  clear hb hrw
  generalize w1.alloc (.cells rowZ.toArray 32) = w2 at HB HGK HGR hsz ⊢
  have hg2 := hsz
  clear hsz
  clear hg1
  obtain ⟨gr, hgg⟩ : ∃ g, gk + 1 = g := ⟨_, rfl⟩
  rw [hgg] at HGR hg2 ⊢
  have HLTgr : Hid (gk < gr) := Lib.hid (by omega)
  clear hgg
  clear hg2
  go_wp2_with fail
  refine Calls.mono (parse_any _ a len cap b (by omega) (HI.out.below HB.out)) ?_
  rintro e w3 ⟨hb, hcase⟩
  have HB23 := Lib.hid hb.size
  have HSW := Lib.hid HB.out.size
  have HGS : Hid (gk < w2.heap.size ∧ gr < w2.heap.size) := Lib.hid ⟨lt_of_block HGK.out, lt_of_block HGR.out⟩
  replace HB := Lib.hid (bl_next HB.out HB.out.size hb)
  replace HGK := Lib.hid (bl_row hb (lt_of_block HGK.out) HGK.out)
  replace HGR := Lib.hid (bl_row hb (lt_of_block HGR.out) HGR.out)
  clear hb
  skip
  obtain ⟨RZ, hRZ⟩ : ∃ R, rowZ = R := ⟨_, rfl⟩
  rw [hRZ] at hcase HGR HZL HZO HQN
  have HRZ := Lib.hid hRZ
  clear hRZ
  have HB3 := Lib.hid (Below.refl w3.heap.size w3)
  rcases hcase with ⟨hpn, rfl⟩ | ⟨h, at', en, ha, tc, hps, rfl, hki, hkc, hkb⟩
  · skip
    go_upto_region 2 with (first | (refine wpList_store_row rfl 32 _ _ rfl _ rfl RZ (.int .i64 0 :: .int .u8 0 :: .int .u8 0 :: .int .u8 0 :: .int .u8 0 :: .int .u8 0 :: .int .u8 0 :: .int .u8 0 :: .int .u8 0 :: .int .u8 0 :: .int .u8 0 :: .int .u8 0 :: .int .u8 0 :: .int .u8 0 :: .int .u8 0 :: .int .u8 0 :: .int .u8 0 :: .slice none 0 0 :: .int .i64 0 :: .bool false :: []) rfl 32 (heap_alloc_new _ _) (by rw [HZL.out]; rfl) (by rw [HZL.out]; rfl) HZO.out ?_; intro w4 hr hg) | fail)
    have hal := (Below.refl w3.heap.size w3).alloc (Nat.le_refl _) (.cells ((.int .i64 0 :: .int .u8 0 :: .int .u8 0 :: .int .u8 0 :: .int .u8 0 :: .int .u8 0 :: .int .u8 0 :: .int .u8 0 :: .int .u8 0 :: .int .u8 0 :: .int .u8 0 :: .int .u8 0 :: .int .u8 0 :: .int .u8 0 :: .int .u8 0 :: .int .u8 0 :: .int .u8 0 :: .slice none 0 0 :: .int .i64 0 :: .bool false :: [])).toArray 32)
    have hb : Below w3.heap.size w3 w4 := hal.grown hg hal.size (by intro k hk; injection hk with hk; omega)
    replace HB := Lib.hid (bl_next HB.out HB.out.size hb)
    replace HGK := Lib.hid (bl_row hb (lt_of_block HGK.out) HGK.out)
    replace HGR := Lib.hid (bl_row hb (lt_of_block HGR.out) HGR.out)
    replace HB3 := Lib.hid (bl_next HB3.out HB3.out.size hb)
    have HGH := Lib.hid (hr)
    clear hr hg hal hb
    obtain ⟨gh, hg⟩ : ∃ g, w3.heap.size = g := ⟨_, rfl⟩
    rw [hg] at HGH ⊢
    clear hg
    go_wp2_with (first | (refine wpList_store_row rfl 32 _ _ rfl gr rfl (.int .i64 0 :: .int .u8 0 :: .int .u8 0 :: .int .u8 0 :: .int .u8 0 :: .int .u8 0 :: .int .u8 0 :: .int .u8 0 :: .int .u8 0 :: .int .u8 0 :: .int .u8 0 :: .int .u8 0 :: .int .u8 0 :: .int .u8 0 :: .int .u8 0 :: .int .u8 0 :: .int .u8 0 :: .slice none 0 0 :: .int .i64 0 :: .bool false :: []) RZ rfl 32 HGR.out (by rw [HZL.out]; rfl) rfl (by decide) ?_; intro w5 hr hg) | fail)
    replace HB := Lib.hid (HB.out.grown hg HB.out.size (by intro k hk; injection hk with hk; subst hk; have := HG0.out; have := HLTgr.out; omega))
    clear hg
    rw [← HRZ.out] at HQN
    refine bodyPost_ret (results_cell5 (r := 4) (t := 5) (u := 6) (v := 7) (x := 8) rfl _ _ gr rfl (.int .i64 0 :: .int .u8 0 :: .int .u8 0 :: .int .u8 0 :: .int .u8 0 :: .int .u8 0 :: .int .u8 0 :: .int .u8 0 :: .int .u8 0 :: .int .u8 0 :: .int .u8 0 :: .int .u8 0 :: .int .u8 0 :: .int .u8 0 :: .int .u8 0 :: .int .u8 0 :: .int .u8 0 :: .slice none 0 0 :: .int .i64 0 :: .bool false :: []) _ _ hr Try.underlying32 rfl rfl) rfl ?_
    exact HQN.out _ HB.out hpn
  · skip
    have hbd := parM_bd hps
    have hle := parM_lens hps
    have HPS := Lib.hid hps
    have HKI := Lib.hid hki
    rw [HBL.out] at hbd
    have HRL := Lib.hid (row_len h ha tc hle.1 hle.2)
    have HVAL : Hid (h.val ha tc = .agg (h.row ha tc).toArray) := Lib.hid rfl
    have HRO : Hid (∀ v ∈ h.row ha tc, v.oneCell' = true) := Lib.hid (row_one h ha tc)
    have HS18 := Lib.hid (fun x => row_set18 h ha tc x hle.1 hle.2)
    have HS19 := Lib.hid (fun (h' : Hd) x (h1 : h'.t.length = 8) (h2 : h'.f.length = 8) => row_set19 h' ha tc x h1 h2)
    have HLE := Lib.hid hle
    rw [HVAL.out]
    obtain ⟨RW, hRW⟩ : ∃ RW, h.row ha tc = RW := ⟨_, rfl⟩
    rw [hRW] at HRL HRO HS18 ⊢
    have HRW := Lib.hid hRW
    clear hps hki hRW hle HVAL HQN HRZ
    go_upto_region 2 with (first | (refine wpList_store_row rfl 32 _ _ rfl _ rfl RW (.int .i64 0 :: .int .u8 0 :: .int .u8 0 :: .int .u8 0 :: .int .u8 0 :: .int .u8 0 :: .int .u8 0 :: .int .u8 0 :: .int .u8 0 :: .int .u8 0 :: .int .u8 0 :: .int .u8 0 :: .int .u8 0 :: .int .u8 0 :: .int .u8 0 :: .int .u8 0 :: .int .u8 0 :: .slice none 0 0 :: .int .i64 0 :: .bool false :: []) rfl 32 (heap_alloc_new _ _) (by rw [HRL.out]; rfl) (by rw [HRL.out]; rfl) HRO.out ?_; intro w9 hr hg) | fail)
    have hal := (Below.refl w3.heap.size w3).alloc (Nat.le_refl _) (.cells ((.int .i64 0 :: .int .u8 0 :: .int .u8 0 :: .int .u8 0 :: .int .u8 0 :: .int .u8 0 :: .int .u8 0 :: .int .u8 0 :: .int .u8 0 :: .int .u8 0 :: .int .u8 0 :: .int .u8 0 :: .int .u8 0 :: .int .u8 0 :: .int .u8 0 :: .int .u8 0 :: .int .u8 0 :: .slice none 0 0 :: .int .i64 0 :: .bool false :: [])).toArray 32)
    have hb : Below w3.heap.size w3 w9 := hal.grown hg hal.size (by intro k hk; injection hk with hk; omega)
    replace HB := Lib.hid (bl_next HB.out HB.out.size hb)
    replace HGK := Lib.hid (bl_row hb (lt_of_block HGK.out) HGK.out)
    replace HGR := Lib.hid (bl_row hb (lt_of_block HGR.out) HGR.out)
    replace HB3 := Lib.hid (bl_next HB3.out HB3.out.size hb)
    have HGH := Lib.hid (hr)
    clear hr hg hal hb
    obtain ⟨gh, hg⟩ : ∃ g, w3.heap.size = g := ⟨_, rfl⟩
    have HGHE := Lib.hid hg
    rw [hg] at HGH ⊢
    clear hg
    have HGR3 : Hid (gr < w3.heap.size) := Lib.hid (Nat.lt_of_lt_of_le HGS.out.2 HB23.out)
    have HPW := Lib.hid hbd.2.2.2
    replace hbd : 1 ≤ at' ∧ at' + 12 ≤ en ∧ en ≤ len := ⟨hbd.1, hbd.2.1, hbd.2.2.1⟩
    skip
    have HPM := Lib.hid (fun W hI => pmask_any W ks km a len cap b at' (by omega) hlc hcap hI)
    have HKL : Hid (([.int .u64 ks, .int .u64 km] : List Value).length = 2) := Lib.hid rfl
    have HGK2 : Hid (w9.heap[gk]? = some (.cells ([.int .u64 ks, .int .u64 km] : List Value).toArray 27 (0, 0))) := HGK
    go_wp2_with (first | (refine wpList_load_mid rfl 27 _ rfl gk 0 rfl [.int .u64 ks, .int .u64 km] _ (rngL HGK2.out) Try.underlying27 rfl (by rw [HKL.out]; rfl) ?_) | fail)
    refine Calls.mono (HPM.out _ (HI.out.below HB.out)) ?_
    rintro e w10 ⟨rfl, hb⟩
    replace HB := Lib.hid (bl_next HB.out HB.out.size hb)
    replace HGR := Lib.hid (bl_row hb (lt_of_block HGR.out) HGR.out)
    replace HB3 := Lib.hid (bl_next HB3.out HB3.out.size hb)
    replace HGH := Lib.hid (bl_row hb (lt_of_block HGH.out) HGH.out)
    clear hb HPM HGK HGK2
    have HMW := Lib.hid (mskM_wf km b at')
    have HML8 := Lib.hid (mskM_len km b at')
    obtain ⟨m, hm⟩ : ∃ m, mskM km b at' = m := ⟨_, rfl⟩
    rw [hm] at HMW HML8 ⊢
    have HME := Lib.hid hm
    clear hm
    have HML : Hid ((m.map (Value.int .u8)).length = 5) := Lib.hid (by rw [List.length_map, HML8.out])
    have HMO : Hid (∀ v ∈ m.map (Value.int .u8), v.oneCell' = true) := Lib.hid ints_one
    obtain ⟨MC, hMC⟩ : ∃ MC, m.map (Value.int .u8) = MC := ⟨_, rfl⟩
    rw [hMC] at HML HMO ⊢
    have HMC := Lib.hid hMC
    clear hMC
    have HLH : Hid (gh < w10.heap.size ∧ gr < w10.heap.size) := Lib.hid ⟨lt_of_block HGH.out, lt_of_block HGR.out⟩
    go_upto_region 5 with (first | (refine wpList_store_row rfl 69 _ _ rfl _ rfl MC (.int .u8 0 :: .int .u8 0 :: .int .u8 0 :: .int .u8 0 :: .int .u8 0 :: []) rfl 69 (heap_alloc_new _ _) (by rw [HML.out]; rfl) (by rw [HML.out]; rfl) HMO.out ?_; intro w11 hr hg) | fail)
    have hal := (Below.refl w10.heap.size w10).alloc (Nat.le_refl _) (.cells ((.int .u8 0 :: .int .u8 0 :: .int .u8 0 :: .int .u8 0 :: .int .u8 0 :: [])).toArray 69)
    have hb : Below w10.heap.size w10 w11 := hal.grown hg hal.size (by intro k hk; injection hk with hk; omega)
    replace HB := Lib.hid (bl_next HB.out HB.out.size hb)
    replace HGR := Lib.hid (bl_row hb (lt_of_block HGR.out) HGR.out)
    replace HB3 := Lib.hid (bl_next HB3.out HB3.out.size hb)
    replace HGH := Lib.hid (bl_row hb (lt_of_block HGH.out) HGH.out)
    have HGM := Lib.hid (hr)
    clear hr hg hal hb
    obtain ⟨gm, hg⟩ : ∃ g, w10.heap.size = g := ⟨_, rfl⟩
    have HGME := Lib.hid hg
    rw [hg] at HGM ⊢
    clear hg
    rw [← HMC.out] at HGM
    go_wp2_with fail
    refine Calls.mono (clone_any8 _ a (at' + 4) cap (b.take (at' + 4)) (by omega) ((HI.out.below HB.out).pre (at' + 4) (by omega))) ?_
    rintro e w12 ⟨v, rfl, hb, hv⟩
    have HGL : Hid (gh < w11.heap.size ∧ gm < w11.heap.size ∧ gr < w11.heap.size) := Lib.hid ⟨lt_of_block HGH.out, lt_of_block HGM.out, lt_of_block HGR.out⟩
    have HCW := Lib.hid HB.out.size
    have HC3 := Lib.hid HB3.out.size
    replace HB := Lib.hid (bl_next HB.out HB.out.size hb)
    replace HGR := Lib.hid (bl_row hb (lt_of_block HGR.out) HGR.out)
    replace HB3 := Lib.hid (bl_next HB3.out HB3.out.size hb)
    replace HGH := Lib.hid (bl_row hb (lt_of_block HGH.out) HGH.out)
    replace HGM := Lib.hid (bl_row hb (lt_of_block HGM.out) HGM.out)
    clear hb
    obtain ⟨va, vc, rfl, _⟩ := own_slice hv
    obtain ⟨gb, rfl, hgb1, hgb2, _⟩ := own_set hv (Below.refl _ _) (i := 0) (by omega) (.int .u8 0) rfl
    have HO := Lib.hid (own_mono hv HCW.out)
    have HNE : Hid (gm ≠ gb ∧ gh ≠ gb ∧ gr ≠ gb ∧ w.heap.size ≤ gb ∧ w3.heap.size ≤ gb) := Lib.hid (by have := HGL.out; have := HCW.out; have := HC3.out; omega)
    have hvc := own_capm hv _ _ _ rfl
    clear hv hgb1 hgb2
    have HXW : Hid (∀ x ∈ b.take (at' + 4), (Lit.int .u8 x).wf = true) := Lib.hid fun x hx => HI.out.2.1 x (List.mem_of_mem_take hx)
    have HX0T : Hid (x0M m (b.take (at' + 4)) = x0M m b) := Lib.hid (x0M_take m b (at' + 4) (by omega))
    have HXL : Hid ((b.take (at' + 4)).length = at' + 4) := Lib.hid (by rw [List.length_take, HBL.out]; omega)
    go_upto_region 6 with fail
    refine open_first _ (by omega) HNE.out.1 HXW.out HMW.out HML8.out HO HGM (fun c a d v w h => by first | (cases d <;> exact h) | exact HKP.out c a d v w h) ?_
    rintro _ _ _ _ _ _ _ _ _ _ _ _ wa ho1 hg1
    replace HGR := Lib.hid (grown_row hg1 (by intro e; injection e with e; exact HNE.out.2.2.1 e) HGR.out)
    replace HGH := Lib.hid (grown_row hg1 (by intro e; injection e with e; exact HNE.out.2.1 e) HGH.out)
    replace HGM := Lib.hid (grown_row hg1 (by intro e; injection e with e; exact HNE.out.1 e) HGM.out)
    replace HB := Lib.hid (HB.out.grown hg1 HB.out.size (by intro k hk; injection hk with hk; subst hk; exact HNE.out.2.2.2.1))
    replace HB3 := Lib.hid (HB3.out.grown hg1 HB3.out.size (by intro k hk; injection hk with hk; subst hk; exact HNE.out.2.2.2.2))
    rw [HX0T.out] at ho1
    have HO1 := Lib.hid ho1
    clear ho1 hg1 HO
    have hf0 : 0 ≤ x0M m b ∧ x0M m b ≤ 255 := by unfold x0M; exact bdU8 (wf_bits _ _ _ _)
    have HXW1 : Hid (∀ x ∈ (b.take (at' + 4)).set 0 (x0M m b), (Lit.int .u8 x).wf = true) := Lib.hid (set_wf HXW.out 0 _ (by unfold x0M; exact wf_bits _ _ _ _))
    obtain ⟨f0, hf⟩ : ∃ f, x0M m b = f := ⟨_, rfl⟩
    rw [hf] at hf0 HO1 HXW1
    have HF0 := Lib.hid hf
    clear hf
    have HC0 : Hid (∀ W : World, W.ownsRow w.heap.size 5 1 (.slice (some ⟨gb, 0, none⟩) (at' + 4) vc) (at' + 4) (((b.take (at' + 4)).set 0 f0).map (Value.int .u8)) → W.cell? ⟨gb, 0, none⟩ = some (.int .u8 f0)) := Lib.hid fun W hW => by
      obtain ⟨_, hgb2, _, _, _, hcs2, _⟩ := own_set hW (Below.refl _ _) (i := 0) (by omega) (.int .u8 0) rfl
      injection hgb2 with hgb2; injection hgb2 with hgb2; subst hgb2
      exact hcs2 0 _ (by rw [List.getElem?_map, List.getElem?_set_self (by rw [HXL.out]; omega)]; rfl)
    have c0 := HC0.out _ HO1.out
    have ha3 := (and_hid f0 hf0).2.2.2.2.1
    have c18 := cell_row HGH.out 18 _ (by rw [← HRW.out]; exact (row_17 h ha tc HLE.out.1 HLE.out.2).2)
    have z18 := row_free HGH.out 18
    go_upto_region 8 with fail
    clear c0 ha3 c18 z18
    have HNH : Hid (gr ≠ gh ∧ gm ≠ gh ∧ w.heap.size ≤ gh ∧ w3.heap.size ≤ gh) := Lib.hid (by have a1 := HGHE.out; have a2 := HGR3.out; have a3 := HLH.out; have a4 := HGME.out; have a5 := HSW.out; have a6 := HB23.out; omega)
    have hg2 := grown_setCell wa gh 18 (.int .i64 (f0 % 4 + 1))
    have hr2 := heap_setCell_same wa gh 18 _ _ (.int .i64 (f0 % 4 + 1)) HGH.out
    rw [List.setIfInBounds_toArray] at hr2
    replace HGR := Lib.hid (grown_row hg2 (by intro e; injection e with e; exact HNH.out.1 e) HGR.out)
    replace HGM := Lib.hid (grown_row hg2 (by intro e; injection e with e; exact HNH.out.2.1 e) HGM.out)
    replace HB := Lib.hid (HB.out.grown hg2 HB.out.size (by intro k hk; injection hk with hk; subst hk; exact HNH.out.2.2.1))
    replace HB3 := Lib.hid (HB3.out.grown hg2 HB3.out.size (by intro k hk; injection hk with hk; subst hk; exact HNH.out.2.2.2))
    have HO2 := Lib.hid (own_grown HO1.out hg2 (by intro e; injection e with e; exact HNE.out.2.1 e.symm))
    have HGH2 := Lib.hid hr2
    clear hg2 hr2 HGH HO1
    generalize wa.setCell ⟨gh, 18, none⟩ (.int .i64 (f0 % 4 + 1)) = wb at HGR HGM HB HB3 HO2 HGH2 ⊢
    refine open_phase _ (by omega) hf0 (by rw [List.length_set, HRL.out]) (HC0.out _ HO2.out) HGH2 (pv := h.p) (by rw [List.getElem?_set_ne (by omega), ← HRW.out]; exact row_19 h ha tc HLE.out.1 HLE.out.2) (fun c a d v w h => by first | (cases d <;> exact h) | exact HKP.out c a d v w h) ?_
    rintro _ _ _ _ _ _ _ _ _ _ _ _ _ wc hr3 hg3
    replace HGR := Lib.hid (grown_row hg3 (by intro e; injection e with e; exact HNH.out.1 e) HGR.out)
    replace HGM := Lib.hid (grown_row hg3 (by intro e; injection e with e; exact HNH.out.2.1 e) HGM.out)
    replace HB := Lib.hid (HB.out.grown hg3 HB.out.size (by intro k hk; injection hk with hk; subst hk; exact HNH.out.2.2.1))
    replace HB3 := Lib.hid (HB3.out.grown hg3 HB3.out.size (by intro k hk; injection hk with hk; subst hk; exact HNH.out.2.2.2))
    have HO3 := Lib.hid (own_grown HO2.out hg3 (by intro e; injection e with e; exact HNE.out.2.1 e.symm))
    have HEH : Hid (((RW.set 18 (.int .i64 (f0 % 4 + 1))).set 19 (.bool (decide (f0 / 128 % 2 = 0 ∧ f0 / 4 % 2 = 1)))) = ({ h with w := f0 % 4 + 1, p := decide (f0 / 128 % 2 = 0 ∧ f0 / 4 % 2 = 1) } : Hd).row ha tc) := Lib.hid (by rw [HS18.out]; exact HS19.out _ _ HLE.out.1 HLE.out.2)
    rw [HEH.out] at hr3
    obtain ⟨wn, hwn⟩ : ∃ wn : Nat, f0 % 4 + 1 = (wn : Int) := ⟨(f0 % 4 + 1).toNat, by omega⟩
    have hwn4 : 1 ≤ wn ∧ wn ≤ 4 := by omega
    have HPLN := Lib.hid (open_plain km b h at' en wn f0 HPS.out hbd.2.1 (by rw [HME.out]; exact HF0.out) (by omega) hwn4.2)
    rw [HME.out, hwn] at HPLN
    rw [hwn] at hr3
    generalize decide (f0 / 128 % 2 = 0 ∧ f0 / 4 % 2 = 1) = pb at hr3 HPLN
    obtain ⟨h2, hh2⟩ : ∃ h2 : Hd, h2 = { h with w := (wn : Int), p := pb } := ⟨_, rfl⟩
    have HH2 : Hid (h2.w = wn ∧ h2.t.length = 8 ∧ h2.f.length = 8 ∧ h2.k = h.k) := Lib.hid (by rw [hh2]; exact ⟨rfl, HLE.out.1, HLE.out.2, rfl⟩)
    rw [← hh2] at hr3 HPLN
    have HR2L := Lib.hid (row_len h2 ha tc HH2.out.2.1 HH2.out.2.2.1)
    have HR2O := Lib.hid (row_one h2 ha tc)
    have HR2W := Lib.hid (row_17 h2 ha tc HH2.out.2.1 HH2.out.2.2.1).2
    rw [HH2.out.1] at HR2W
    have HV2 : Hid (h2.val ha tc = .agg (h2.row ha tc).toArray) := Lib.hid rfl
    obtain ⟨RX, hRX⟩ : ∃ R, h2.row ha tc = R := ⟨_, rfl⟩
    rw [hRX] at hr3 HR2L HR2O HR2W HV2
    have HGH := Lib.hid hr3
    clear hr3 hg3 hh2 hRX HEH HO2 HGH2
    have c18 := cell_row HGH.out 18 _ HR2W.out
    go_upto_block 0 with fail
    clear c18
    refine open_loop _ (by omega) (by omega) hwn4.2 HNE.out.1 HXW1.out HMW.out HML8.out HO3 HGM (fun c a d v w h => by first | (cases d <;> exact h) | exact HKP.out c a d v w h) ?_
    rintro _ _ _ _ _ _ _ _ _ _ _ _ _ _ _ _ _ _ _ _ _ _ _ _ _ _ _ wd ho4 hg4
    replace HGR := Lib.hid (grown_row hg4 (by intro e; injection e with e; exact HNE.out.2.2.1 e) HGR.out)
    replace HGM := Lib.hid (grown_row hg4 (by intro e; injection e with e; exact HNE.out.1 e) HGM.out)
    replace HGH := Lib.hid (grown_row hg4 (by intro e; injection e with e; exact HNE.out.2.1 e) HGH.out)
    replace HB := Lib.hid (HB.out.grown hg4 HB.out.size (by intro k hk; injection hk with hk; subst hk; exact HNE.out.2.2.2.1))
    replace HB3 := Lib.hid (HB3.out.grown hg4 HB3.out.size (by intro k hk; injection hk with hk; subst hk; exact HNE.out.2.2.2.2))
    have HO4 := Lib.hid ho4
    clear ho4 hg4 HO3
    generalize hY : xorAt m at' wn ((b.take (at' + 4)).set 0 f0) = Y at HO4 HPLN ⊢
    have HYW : Hid (∀ x ∈ Y, (Lit.int .u8 x).wf = true) := Lib.hid (by rw [← hY]; exact xorAt_wf HXW1.out)
    clear hY
    have hvl : at' + 4 ≤ vc := by obtain ⟨vb, vd, ve, hh⟩ := own_slice HO4.out; have hv := congrArg (fun v => match v with | Value.slice _ _ c => c | _ => 0) ve; simp only at hv; omega
    have HKW := Lib.hid (HKI.out.below HB3.out)
    have E1 : IntKind.i64.wrap ((at' : Int) + (wn : Int)) = (at' : Int) + (wn : Int) := IntWalk.i64_in _ (by omega)
    have E2 : ((at' : Int) + (wn : Int)).toNat = at' + wn := by omega
    have E3 : (0 : Int) ≤ (at' : Int) + (wn : Int) := by omega
    have E4 : (at' : Int) + (wn : Int) ≤ (vc : Int) := by omega
    have E5 : vc ≠ 0 := by omega
    go_upto_region 16 with fail
    have f18 : ∀ t : In (fun y => wd.grownBy y (some gr)), t.w.cell? ⟨gh, 18, none⟩ = some (.int .i64 wn) := fun t => t.h.cell (cell_row HGH.out 18 _ HR2W.out) (by intro e; injection e with e; exact HNH.out.1 e.symm)
    have HRG : Hid (∀ y, wd.grownBy y (some gr) → y.rangeAt gh 0 RX) := Lib.hid fun y hy => rngL (grown_row hy (by intro e; injection e with e; exact HNH.out.1 e.symm) HGH.out)
    refine wp_plan (.t 0 (.t 1 (.t 2 (.t 3 (.t 4 (.t 5 (.t 6 (.t 7 (.t 8 (.u 9 (.t 10 (.t 11 (.t 12 (.t 13 .done)))))))))))))) (fun y => wd.grownBy y (some gr)) (by kernel_rfl) (by kernel_rfl) (by kernel_rfl) (fun c a d v w h => by first | (cases d <;> exact h) | exact HKP.out c a d v w h) (grown_drew _ _) ?_
    haveI hne2 : Nonempty (In (fun y => wd.grownBy y (some gr))) := ⟨⟨wd, grown_refl _ _⟩⟩
    have hS : Hid (wd.grownBy wd.drew (some gr)) := Lib.hid (grown_drew _ _)
    have HGR2 : Hid (wd.drew.heap[gr]? = some (.cells RZ.toArray 32 (0, 0))) := HGR
    generalize wd.drew = W0 at hS HGR2 ⊢
    repeat (first | (refine plan_t_load (by rfl) (by kernel_rfl) 32 _ rfl gh 0 rfl RX _ (fun y hy => HRG.out y hy) Try.underlying32 rfl (by rw [HR2L.out]; rfl) ?_; simp only [Act.put, List.setIfInBounds_toArray, List.set_cons_succ, List.set_cons_zero]) | (refine plan_t (by rfl) ?_; (first | go_big_quiet_skip | (go_big_quiet_want; go_big_quiet_op; go_big_quiet_on)); refine wpQuiet_nil ?_))
    refine plan_us (by rfl) (by kernel_rfl) ?_
    intro K hK
    refine wp_store_row 32 _ _ rfl gr rfl RX RZ rfl 32 HGR2.out (HZL.out.trans HR2L.out.symm) (by rw [HR2L.out]; rfl) HR2O.out ?_
    intro w13 hr5 hg5
    have hg6 := grown_trans hS.out hg5
    refine hK _ _ ⟨hg6, ?_⟩
    clear hg5 hK K hS
    simp only [Act.put, List.setIfInBounds_toArray, List.set_cons_succ, List.set_cons_zero]
    repeat (refine plan_t (by rfl) ?_; (first | go_big_quiet_skip | (go_big_quiet_want; go_big_quiet_op; go_big_quiet_on)); refine wpQuiet_nil ?_)
    clear hne2 f18 E1 E2 E3 E4
    show Exit.then _ _ _ _ _
    have HB6 : Below w.heap.size w w13 := HB.out.grown hg6 HB.out.size (by intro k hk; injection hk with hk; subst hk; have := HG0.out; have := HLTgr.out; omega)
    have HO6 := own_grown HO4.out hg6 (by intro e; injection e with e; exact HNE.out.2.2.1 e.symm)
    have HK6 : IntsK .u8 w13 ha h.k.length h.k := HKW.out.grown hg6 (fun x hx e => by injection e with e; have h1 := hkb x hx; have h2 := HGS.out.2; omega)
    obtain ⟨oa, oc, eo, _, hoi, _⟩ := ints_of_own HO6 HYW.out
    injection eo with eo1 eo2 eo3
    subst eo1
    have HOI := Lib.hid hoi
    have HK7 := Lib.hid HK6
    have HB7 := Lib.hid HB6
    have HR5 := Lib.hid hr5
    clear eo3 eo2 hoi HO6 HK6 HB6 hg6 hr5
    go_wp2_with fail
    refine bodyPost_ret (results_cell5 (r := 4) (t := 5) (u := 6) (v := 7) (x := 8) rfl _ _ gr rfl RX _ _ HR5.out Try.underlying32 rfl (by rw [HR2L.out]; rfl)) rfl ?_
    rw [← HQQ.out]
    refine ⟨HB7.out, .inr ⟨_, ha, tc, some ⟨gb, 0, none⟩, vc, HPLN.out.1, by rw [HV2.out]; rfl, by rw [HH2.out.2.2.2]; exact HK7.out, by rw [HH2.out.2.2.2]; exact hkc, by show at' + wn ≤ vc; omega, hvc, ?_, by show en ≤ b.length; rw [HBL.out]; omega, by show at' + wn + 8 ≤ en; omega, ?_, by show 1 ≤ at' + wn; omega, by show 1 ≤ h2.w; rw [HH2.out.1]; omega, by show h2.w ≤ 4; rw [HH2.out.1]; omega, HH2.out.2.1, HH2.out.2.2.1, fun x hx => Nat.le_trans HSW.out (hkb x hx), ⟨gb, rfl⟩, (lowM_bd HYW.out at' wn).1, by have h1 := (lowM_bd HYW.out at' wn).2; have h2 : (256 : Int) ^ wn ≤ 4294967296 := (by rcases (by omega : wn = 1 ∨ wn = 2 ∨ wn = 3 ∨ wn = 4) with rfl | rfl | rfl | rfl <;> decide); show lowB Y at' wn < 4294967296; omega⟩⟩
    rotate_left
    · show (xorAt m at' wn ((List.take en b).set 0 f0)).drop (at' + wn) = ((List.take en b)).drop (at' + wn)
      rw [xorAt_drop _ _ _ _ _ (Nat.le_refl _), drop_set0 (by omega)]
    show IntsK .u8 _ _ (at' + wn) (List.take (at' + wn) (xorAt m at' wn ((List.take en b).set 0 f0)))
    rw [← HPLN.out.2]
    exact HOI.out.pre (at' + wn) (by omega)
end Go.Proofs.Ythofbckkjcidmaa
namespace Go.Proofs.Ythofbckkjcidmaa
open Go.RowKit
set_option linter.unusedVariables false
set_option linter.unusedSimpArgs false

theorem results_cell3 {P : Program} {fn : Func} {r t u : Tmp} {ty : TypeId} (h : fn.results = #[.cell r ty, .tmp t, .tmp u]) (tmps : Array Value) (w : World) (g : Nat) (hp : tmps.getD r undef = .pointer (some ⟨g, 0, none⟩))
    (cs : List Value) (d : TypeDesc) (e : TypeId) (hr : w.heap[g]? = some (.cells cs.toArray e (0, 0))) (hu : P.underlying ty = some d) (hd : d.isRow = true) (hi : (P.info? ty).map (·.size) = some cs.length) :
    (results fn tmps).run P w = .ok (.tuple #[.agg cs.toArray, tmps.getD t undef, tmps.getD u undef]) w := by
  have hl := run_loadVar_mid (P := P) w g 0 ty cs d (fun j v hv => by rw [Nat.zero_add]; exact row_cell hr j v (by simpa using hv)) hu hd hi
  have hp2 : tmps[r]?.getD undef = .pointer (some ⟨g, 0, none⟩) := by simpa using hp
  simp [results, h, hp2, asAddr, hl]
set_option maxRecDepth 100000 in
set_option maxHeartbeats 4000000 in
theorem pcutb_any (w : World) (a : Option Addr) (len cap : Nat) (b : List Int) (hlen : len ≤ 1000000) (hI : IntsK .u8 w a len b) :
    Makes Try.prog 14 #[.slice a len cap] w (match parM b with | none => .tuple #[.int .i64 0, .bool false] | some r => .tuple #[.int .i64 r.2.2, .bool true]) := by
  have HI := Lib.hid hI
  have HZL : Hid (rowZ.length = 20) := Lib.hid rfl
  have HZO : Hid (∀ v ∈ rowZ, v.oneCell' = true) := Lib.hid rowZ_one
  obtain ⟨VV, hVV⟩ : ∃ V, (match parM b with | none => Value.tuple #[.int .i64 0, .bool false] | some r => .tuple #[.int .i64 r.2.2, .bool true]) = V := ⟨_, rfl⟩
  rw [hVV]
  have HVV := Lib.hid hVV
  clear hVV hI
  go_enter Try.func14, Try.ntmps14
  go_wp2_with fail
  refine Calls.mono (parse_any _ a len cap b (by omega) HI.out) ?_
  rintro e w1 ⟨hb, hcase⟩
  have HB := Lib.hid hb
  clear hb
  obtain ⟨RZ, hRZ⟩ : ∃ R, rowZ = R := ⟨_, rfl⟩
  rw [hRZ] at hcase HZL HZO
  clear hRZ
  rcases hcase with ⟨hpn, rfl⟩ | ⟨h, at', en, ha, tc, hps, rfl, hki, hkc, hkb⟩
  · rw [hpn] at HVV
    have HVE := Lib.hid HVV.out.symm; clear HVV hpn
    go_upto_region 2 with (first | (refine wpList_store_row rfl 32 _ _ rfl _ rfl RZ (.int .i64 0 :: .int .u8 0 :: .int .u8 0 :: .int .u8 0 :: .int .u8 0 :: .int .u8 0 :: .int .u8 0 :: .int .u8 0 :: .int .u8 0 :: .int .u8 0 :: .int .u8 0 :: .int .u8 0 :: .int .u8 0 :: .int .u8 0 :: .int .u8 0 :: .int .u8 0 :: .int .u8 0 :: .slice none 0 0 :: .int .i64 0 :: .bool false :: []) rfl 32 (heap_alloc_new _ _) (by rw [HZL.out]; rfl) (by rw [HZL.out]; rfl) HZO.out ?_; intro w2 hr hg) | fail)
    have hal := (Below.refl w1.heap.size w1).alloc (Nat.le_refl _) (.cells ((.int .i64 0 :: .int .u8 0 :: .int .u8 0 :: .int .u8 0 :: .int .u8 0 :: .int .u8 0 :: .int .u8 0 :: .int .u8 0 :: .int .u8 0 :: .int .u8 0 :: .int .u8 0 :: .int .u8 0 :: .int .u8 0 :: .int .u8 0 :: .int .u8 0 :: .int .u8 0 :: .int .u8 0 :: .slice none 0 0 :: .int .i64 0 :: .bool false :: [])).toArray 32)
    have hb : Below w1.heap.size w1 w2 := hal.grown hg hal.size (by intro k hk; injection hk with hk; omega)
    replace HB := Lib.hid (bl_next HB.out HB.out.size hb)
    have HGH := Lib.hid (hr)
    clear hr hg hal hb
    obtain ⟨gh, hg⟩ : ∃ g, w1.heap.size = g := ⟨_, rfl⟩
    rw [hg] at HGH ⊢
    clear hg
    go_wp2_with fail
    go_ret2
    exact ⟨by rw [HVE.out]; rfl, HB.out⟩
  · rw [hps] at HVV
    have HVE := Lib.hid HVV.out.symm; have hle := parM_lens hps; clear HVV hps
    have HRL := Lib.hid (row_len h ha tc hle.1 hle.2)
    have HVAL : Hid (h.val ha tc = .agg (h.row ha tc).toArray) := Lib.hid rfl
    have HRO : Hid (∀ v ∈ h.row ha tc, v.oneCell' = true) := Lib.hid (row_one h ha tc)
    rw [HVAL.out]
    obtain ⟨RW, hRW⟩ : ∃ RW, h.row ha tc = RW := ⟨_, rfl⟩
    rw [hRW] at HRL HRO ⊢
    clear hRW HVAL hki hkb hkc hle
    go_upto_region 2 with (first | (refine wpList_store_row rfl 32 _ _ rfl _ rfl RW (.int .i64 0 :: .int .u8 0 :: .int .u8 0 :: .int .u8 0 :: .int .u8 0 :: .int .u8 0 :: .int .u8 0 :: .int .u8 0 :: .int .u8 0 :: .int .u8 0 :: .int .u8 0 :: .int .u8 0 :: .int .u8 0 :: .int .u8 0 :: .int .u8 0 :: .int .u8 0 :: .int .u8 0 :: .slice none 0 0 :: .int .i64 0 :: .bool false :: []) rfl 32 (heap_alloc_new _ _) (by rw [HRL.out]; rfl) (by rw [HRL.out]; rfl) HRO.out ?_; intro w7 hr hg) | fail)
    have hal := (Below.refl w1.heap.size w1).alloc (Nat.le_refl _) (.cells ((.int .i64 0 :: .int .u8 0 :: .int .u8 0 :: .int .u8 0 :: .int .u8 0 :: .int .u8 0 :: .int .u8 0 :: .int .u8 0 :: .int .u8 0 :: .int .u8 0 :: .int .u8 0 :: .int .u8 0 :: .int .u8 0 :: .int .u8 0 :: .int .u8 0 :: .int .u8 0 :: .int .u8 0 :: .slice none 0 0 :: .int .i64 0 :: .bool false :: [])).toArray 32)
    have hb : Below w1.heap.size w1 w7 := hal.grown hg hal.size (by intro k hk; injection hk with hk; omega)
    replace HB := Lib.hid (bl_next HB.out HB.out.size hb)
    have HGH := Lib.hid (hr)
    clear hr hg hal hb
    obtain ⟨gh, hg⟩ : ∃ g, w1.heap.size = g := ⟨_, rfl⟩
    rw [hg] at HGH ⊢
    clear hg
    go_wp2_with fail
    go_ret2
    exact ⟨by rw [HVE.out]; rfl, HB.out⟩

def RevR (w : World) (km : Int) (b : List Int) (e : Ending) (w' : World) : Prop :=
  Below w.heap.size w w' ∧ ((revM km b = none ∧ e = .returned (.tuple #[.agg rowZ.toArray, .int .u32 0, .int .i64 12])) ∨
    ∃ r a' tc, revM km b = some r ∧ e = .returned (.tuple #[r.h.val a' tc, .int .u32 r.low, .int .i64 0]) ∧ IntsK .u8 w' a' r.h.k.length r.h.k ∧ r.h.k.length ≤ tc ∧ 1 ≤ r.h.w ∧ r.h.w ≤ 4 ∧ r.h.t.length = 8 ∧ r.h.f.length = 8 ∧ (∀ x, a' = some x → w.heap.size ≤ x.block))
set_option maxRecDepth 100000 in
set_option maxHeartbeats 4000000 in
theorem preveal_any (w : World) (ks km : Int) (a : Option Addr) (len cap : Nat) (b : List Int) (hlc : len ≤ cap) (hcap : cap ≤ 9223372036854775807) (hlen : len ≤ 1000000) (hI : IntsK .u8 w a len b) :
    Calls Try.prog 43 #[.agg #[.int .u64 ks, .int .u64 km], .slice a len cap] w (RevR w km b) := by
  have HOP := Lib.hid (fun W hI => open9_any W ks km a len cap b hlc hcap hlen hI)
  have HI := Lib.hid hI
  obtain ⟨QQ, hQQ⟩ : ∃ Q, RevR w km b = Q := ⟨_, rfl⟩
  have HQQ := Lib.hid hQQ
  rw [hQQ]
  have HZL : Hid (rowZ.length = 20) := Lib.hid rfl
  have HZO : Hid (∀ v ∈ rowZ, v.oneCell' = true) := Lib.hid rowZ_one
  clear hQQ hI
  go_enter Try.func43, Try.ntmps43
  go_upto_region 1 with fail
  change Code.wp _ _ _ _ ((w.alloc (.cells ([.int .u64 ks, .int .u64 km] : List Value).toArray 27)).alloc (.cells rowZ.toArray 32))
  have HB := Lib.hid (Below.refl w.heap.size w)
  obtain ⟨gk, hg0⟩ : ∃ g, w.heap.size = g := ⟨_, rfl⟩
  try rw [hg0]
  have hb := (Below.refl w.heap.size w).alloc (Nat.le_refl _) (.cells ([.int .u64 ks, .int .u64 km] : List Value).toArray 27)
  have hrw := heap_alloc_new w (.cells ([.int .u64 ks, .int .u64 km] : List Value).toArray 27)
  have hsz : (w.alloc (.cells ([.int .u64 ks, .int .u64 km] : List Value).toArray 27)).heap.size = gk + 1 := by simp [hg0]
  rw [hg0] at hrw
  replace HB := Lib.hid (bl_next HB.out HB.out.size hb)
  have HGK := Lib.hid hrw
  clear hb hrw
  generalize w.alloc (.cells ([.int .u64 ks, .int .u64 km] : List Value).toArray 27) = w1 at HB HGK hsz ⊢
  have hg1 := hsz
  clear hsz
  have HG0 := Lib.hid hg0
  clear hg0
  have hb := (Below.refl w1.heap.size w1).alloc (Nat.le_refl _) (.cells rowZ.toArray 32)
  have hrw := heap_alloc_new w1 (.cells rowZ.toArray 32)
  have hsz : (w1.alloc (.cells rowZ.toArray 32)).heap.size = gk + 1 + 1 := by simp [hg1]
  rw [hg1] at hrw
  replace HB := Lib.hid (bl_next HB.out HB.out.size hb)
  replace HGK := Lib.hid (bl_row hb (lt_of_block HGK.out) HGK.out)
  have HGR := Lib.hid hrw
  clear hb hrw
  generalize w1.alloc (.cells rowZ.toArray 32) = w2 at HB HGK HGR hsz ⊢
  have hg2 := hsz
  clear hsz
  clear hg1
  obtain ⟨gr, hgg⟩ : ∃ g, gk + 1 = g := ⟨_, rfl⟩
  rw [hgg] at HGR hg2 ⊢
  have HLTgr : Hid (gk < gr) := Lib.hid (by omega)
  clear hgg
  clear hg2
  have HKL : Hid (([.int .u64 ks, .int .u64 km] : List Value).length = 2) := Lib.hid rfl
  go_wp2_with (first | (refine wpList_load_mid rfl 27 _ rfl gk 0 rfl [.int .u64 ks, .int .u64 km] _ (rngL HGK.out) Try.underlying27 rfl (by rw [HKL.out]; rfl) ?_) | fail)
  refine Calls.mono (HOP.out _ (HI.out.below HB.out)) ?_
  rintro e w3 ⟨hb, hcase⟩
  have HSW := Lib.hid HB.out.size
  have HGS : Hid (gr < w2.heap.size) := Lib.hid (lt_of_block HGR.out)
  replace HB := Lib.hid (bl_next HB.out HB.out.size hb)
  replace HGK := Lib.hid (bl_row hb (lt_of_block HGK.out) HGK.out)
  replace HGR := Lib.hid (bl_row hb (lt_of_block HGR.out) HGR.out)
  clear hb
  obtain ⟨RZ, hRZ⟩ : ∃ R, rowZ = R := ⟨_, rfl⟩
  rw [hRZ] at hcase HGR HZL HZO
  have HRZ := Lib.hid hRZ
  clear hRZ HGK HOP
  rcases hcase with ⟨hpn, rfl⟩ | ⟨r, ha, tc, oa, oc, hps, rfl, hki, hkc, _, _, _, _, _, _, _, hw1, hw4, ht8, hf8, hkb, _⟩
  · have HPN := Lib.hid hpn; clear hpn
    go_upto_region 2 with (first | (refine wpList_store_row rfl 32 _ _ rfl _ rfl RZ (.int .i64 0 :: .int .u8 0 :: .int .u8 0 :: .int .u8 0 :: .int .u8 0 :: .int .u8 0 :: .int .u8 0 :: .int .u8 0 :: .int .u8 0 :: .int .u8 0 :: .int .u8 0 :: .int .u8 0 :: .int .u8 0 :: .int .u8 0 :: .int .u8 0 :: .int .u8 0 :: .int .u8 0 :: .slice none 0 0 :: .int .i64 0 :: .bool false :: []) rfl 32 (heap_alloc_new _ _) (by rw [HZL.out]; rfl) (by rw [HZL.out]; rfl) HZO.out ?_; intro w4 hr hg) | fail)
    have hal := (Below.refl w3.heap.size w3).alloc (Nat.le_refl _) (.cells ((.int .i64 0 :: .int .u8 0 :: .int .u8 0 :: .int .u8 0 :: .int .u8 0 :: .int .u8 0 :: .int .u8 0 :: .int .u8 0 :: .int .u8 0 :: .int .u8 0 :: .int .u8 0 :: .int .u8 0 :: .int .u8 0 :: .int .u8 0 :: .int .u8 0 :: .int .u8 0 :: .int .u8 0 :: .slice none 0 0 :: .int .i64 0 :: .bool false :: [])).toArray 32)
    have hb : Below w3.heap.size w3 w4 := hal.grown hg hal.size (by intro k hk; injection hk with hk; omega)
    replace HB := Lib.hid (bl_next HB.out HB.out.size hb)
    replace HGR := Lib.hid (bl_row hb (lt_of_block HGR.out) HGR.out)
    have HGH := Lib.hid (hr)
    clear hr hg hal hb
    obtain ⟨gh, hg⟩ : ∃ g, w3.heap.size = g := ⟨_, rfl⟩
    rw [hg] at HGH ⊢
    clear hg
    go_wp2_with (first | (refine wpList_load_mid rfl 32 _ rfl gh 0 rfl RZ _ (rngL HGH.out) Try.underlying32 rfl (by rw [HZL.out]; rfl) ?_) | (refine wpList_store_row rfl 32 _ _ rfl gr rfl RZ RZ rfl 32 HGR.out (HZL.out.trans HZL.out.symm) (by rw [HZL.out]; rfl) HZO.out ?_; intro w5 hr hg) | fail)
    have HB7 := Lib.hid (HB.out.grown hg HB.out.size (by intro k hk; injection hk with hk; subst hk; have := HG0.out; have := HLTgr.out; omega))
    have hgx := Lib.hid hg
    clear hg
    refine bodyPost_ret (results_cell3 (r := 4) (t := 5) (u := 6) rfl _ _ gr rfl RZ _ _ hr Try.underlying32 rfl (by rw [HZL.out]; rfl)) rfl ?_
    rw [← HQQ.out]
    refine ⟨HB7.out, .inl ⟨HPN.out, by rw [HRZ.out]; rfl⟩⟩
  · have HPS := Lib.hid hps; have HKI := Lib.hid hki; clear hps hki
    have HRL := Lib.hid (row_len r.h ha tc ht8 hf8)
    have HVAL : Hid (r.h.val ha tc = .agg (r.h.row ha tc).toArray) := Lib.hid rfl
    have HRO : Hid (∀ v ∈ r.h.row ha tc, v.oneCell' = true) := Lib.hid (row_one r.h ha tc)
    have HKB := Lib.hid hkb
    have HH := Lib.hid (And.intro hkc (And.intro hw1 (And.intro hw4 (And.intro ht8 hf8))))
    skip
    rw [HVAL.out]
    obtain ⟨RW, hRW⟩ : ∃ RW, r.h.row ha tc = RW := ⟨_, rfl⟩
    rw [hRW] at HRL HRO HVAL ⊢
    clear hkb hRW ht8 hf8 hw1 hw4 hkc
    go_upto_region 2 with (first | (refine wpList_store_row rfl 32 _ _ rfl _ rfl RW (.int .i64 0 :: .int .u8 0 :: .int .u8 0 :: .int .u8 0 :: .int .u8 0 :: .int .u8 0 :: .int .u8 0 :: .int .u8 0 :: .int .u8 0 :: .int .u8 0 :: .int .u8 0 :: .int .u8 0 :: .int .u8 0 :: .int .u8 0 :: .int .u8 0 :: .int .u8 0 :: .int .u8 0 :: .slice none 0 0 :: .int .i64 0 :: .bool false :: []) rfl 32 (heap_alloc_new _ _) (by rw [HRL.out]; rfl) (by rw [HRL.out]; rfl) HRO.out ?_; intro w9 hr hg) | fail)
    have hal := (Below.refl w3.heap.size w3).alloc (Nat.le_refl _) (.cells ((.int .i64 0 :: .int .u8 0 :: .int .u8 0 :: .int .u8 0 :: .int .u8 0 :: .int .u8 0 :: .int .u8 0 :: .int .u8 0 :: .int .u8 0 :: .int .u8 0 :: .int .u8 0 :: .int .u8 0 :: .int .u8 0 :: .int .u8 0 :: .int .u8 0 :: .int .u8 0 :: .int .u8 0 :: .slice none 0 0 :: .int .i64 0 :: .bool false :: [])).toArray 32)
    have hb : Below w3.heap.size w3 w9 := hal.grown hg hal.size (by intro k hk; injection hk with hk; omega)
    replace HB := Lib.hid (bl_next HB.out HB.out.size hb)
    replace HGR := Lib.hid (bl_row hb (lt_of_block HGR.out) HGR.out)
    replace HKI := Lib.hid (HKI.out.below hb)
    have HGH := Lib.hid (hr)
    clear hr hg hal hb
    obtain ⟨gh, hg⟩ : ∃ g, w3.heap.size = g := ⟨_, rfl⟩
    rw [hg] at HGH ⊢
    clear hg
    go_wp2_with (first | (refine wpList_load_mid rfl 32 _ rfl gh 0 rfl RW _ (rngL HGH.out) Try.underlying32 rfl (by rw [HRL.out]; rfl) ?_) | (refine wpList_store_row rfl 32 _ _ rfl gr rfl RW RZ rfl 32 HGR.out (HZL.out.trans HRL.out.symm) (by rw [HRL.out]; rfl) HRO.out ?_; intro w10 hr hg) | fail)
    have HB7 := Lib.hid (HB.out.grown hg HB.out.size (by intro k hk; injection hk with hk; subst hk; have := HG0.out; have := HLTgr.out; omega))
    have hgx := Lib.hid hg
    clear hg
    refine bodyPost_ret (results_cell3 (r := 4) (t := 5) (u := 6) rfl _ _ gr rfl RW _ _ hr Try.underlying32 rfl (by rw [HRL.out]; rfl)) rfl ?_
    rw [← HQQ.out]
    refine ⟨HB7.out, .inr ⟨r, ha, tc, HPS.out, by rw [HVAL.out]; rfl, ?_, HH.out.1, HH.out.2.1, HH.out.2.2.1, HH.out.2.2.2.1, HH.out.2.2.2.2, fun x hx => Nat.le_trans HSW.out (HKB.out x hx)⟩⟩
    exact HKI.out.grown hgx.out (fun x hx e => by injection e with e; have h1 := HKB.out x hx; have h2 := HGS.out; omega)

theorem ints_cell0 {w : World} {g len : Nat} {zs : List Int} (h : IntsK .u8 w (some ⟨g, 0, none⟩) len zs) (h0 : 0 < len) : w.cell? ⟨g, 0, none⟩ = some (.int .u8 (zs.getD 0 0)) := by
  rcases h.2.2 with h1 | ⟨b, off, e, _, hc⟩
  · omega
  · injection e with e; injection e with e1 e2; subst e1; subst e2
    exact hc 0 h0
theorem slice_ints {w : World} {a : Option Addr} {len : Nat} {b : List Int} (h : IntsK .u8 w a len b) (lo hi : Nat) (h1 : lo < hi) (h2 : hi ≤ len) : IntsK .u8 w (a.map (·.add lo)) (hi - lo) ((b.take hi).drop lo) := by
  have h3 := h.pre hi h2
  rcases h.2.2 with h0 | ⟨bb, off, rfl, _⟩
  · omega
  · have h4 := h3.suf lo (by omega)
    rw [Option.map_some, add_none]
    exact h4
theorem whole_wf (l : Int) (has : Bool) (low k : Int) (hl : 0 ≤ l ∧ l < 18446744073709551616) (hlow : 0 ≤ low ∧ low < 4294967296) : (Lit.int .u64 (wholeM (nxM l has) low (powW (wM k)))).wf = true := by
  have hn := nxM_in l has hl.1
  generalize nxM l has = nx at hn
  have hp : powW (wM k) = 256 ∨ powW (wM k) = 65536 ∨ powW (wM k) = 16777216 ∨ powW (wM k) = 4294967296 := by
    rcases wM_cases k with h | h | h | h <;> rw [h] <;> simp [powW]
  have hb : 0 ≤ wholeM nx low (powW (wM k)) ∧ wholeM nx low (powW (wM k)) < 18446744073709551616 := by
    unfold wholeM
    rcases hp with hp | hp | hp | hp <;> rw [hp] <;> (repeat' split) <;> omega
  exact wf_u64_of hb.1 hb.2
def UnpR (w : World) (ks km : Int) (b : List Int) (largest : Int) (has : Bool) (e : Ending) (w' : World) : Prop :=
  Below w.heap.size w w' ∧ ∃ hd n pl err a' tc pa pc, unpM ks km b largest has = (hd, n, pl, err) ∧ e = .returned (.tuple #[hd.val a' tc, .int .u64 n, .slice pa pl.length pc, .int .i64 err]) ∧
    IntsK .u8 w' a' hd.k.length hd.k ∧ hd.k.length ≤ tc ∧ IntsK .u8 w' pa pl.length pl ∧ pl.length ≤ pc ∧ hd.t.length = 8 ∧ hd.f.length = 8
set_option maxRecDepth 100000 in
set_option maxHeartbeats 8000000 in
theorem punprot_any (w : World) (ks km : Int) (a : Option Addr) (len cap : Nat) (b : List Int) (largest : Int) (has : Bool) (hlc : len ≤ cap) (hcap : cap ≤ 9223372036854775807) (hlen : len ≤ 1000000) (hl : 0 ≤ largest ∧ largest < 18446744073709551616) (hI : IntsK .u8 w a len b) :
    Calls Try.prog 12 #[.agg #[.int .u64 ks, .int .u64 km], .slice a len cap, .int .u64 largest, .bool has] w (UnpR w ks km b largest has) := by
  have HOP := Lib.hid (fun W hI => open9_any W ks km a len cap b hlc hcap hlen hI)
  have HI := Lib.hid hI
  have HBL := Lib.hid hI.1
  obtain ⟨QQ, hQQ⟩ : ∃ Q, UnpR w ks km b largest has = Q := ⟨_, rfl⟩
  have HQZ : Hid (∀ w' err, Below w.heap.size w w' → unpM ks km b largest has = (zH, 0, [], err) → QQ (.returned (.tuple #[.agg rowZ.toArray, .int .u64 0, .slice none 0 0, .int .i64 err])) w') := Lib.hid fun w' err hb hu => by
    rw [← hQQ]; exact ⟨hb, zH, 0, [], err, none, 0, none, 0, hu, rfl, IntsK.nil _ _ _, Nat.le_refl _, IntsK.nil _ _ _, Nat.le_refl _, rfl, rfl⟩
  have HQQ := Lib.hid hQQ
  rw [hQQ]
  have HZL : Hid (rowZ.length = 20) := Lib.hid rfl
  have HZO : Hid (∀ v ∈ rowZ, v.oneCell' = true) := Lib.hid rowZ_one
  clear hQQ hI
  go_enter Try.func12, Try.ntmps12
  go_upto_region 1 with fail
  change Code.wp _ _ _ _ ((w.alloc (.cells ([.int .u64 ks, .int .u64 km] : List Value).toArray 27)).alloc (.cells rowZ.toArray 32))
  have HB := Lib.hid (Below.refl w.heap.size w)
  obtain ⟨gk, hg0⟩ : ∃ g, w.heap.size = g := ⟨_, rfl⟩
  try rw [hg0]
  have hb := (Below.refl w.heap.size w).alloc (Nat.le_refl _) (.cells ([.int .u64 ks, .int .u64 km] : List Value).toArray 27)
  have hrw := heap_alloc_new w (.cells ([.int .u64 ks, .int .u64 km] : List Value).toArray 27)
  have hsz : (w.alloc (.cells ([.int .u64 ks, .int .u64 km] : List Value).toArray 27)).heap.size = gk + 1 := by simp [hg0]
  rw [hg0] at hrw
  replace HB := Lib.hid (bl_next HB.out HB.out.size hb)
  have HGK := Lib.hid hrw
  clear hb hrw
  generalize w.alloc (.cells ([.int .u64 ks, .int .u64 km] : List Value).toArray 27) = w1 at HB HGK hsz ⊢
  have hg1 := hsz
  clear hsz
  have HG0 := Lib.hid hg0
  clear hg0
  have hb := (Below.refl w1.heap.size w1).alloc (Nat.le_refl _) (.cells rowZ.toArray 32)
  have hrw := heap_alloc_new w1 (.cells rowZ.toArray 32)
  have hsz : (w1.alloc (.cells rowZ.toArray 32)).heap.size = gk + 1 + 1 := by simp [hg1]
  rw [hg1] at hrw
  replace HB := Lib.hid (bl_next HB.out HB.out.size hb)
  replace HGK := Lib.hid (bl_row hb (lt_of_block HGK.out) HGK.out)
  have HGR := Lib.hid hrw
  clear hb hrw
  generalize w1.alloc (.cells rowZ.toArray 32) = w2 at HB HGK HGR hsz ⊢
  have hg2 := hsz
  clear hsz
  clear hg1
  obtain ⟨gr, hgg⟩ : ∃ g, gk + 1 = g := ⟨_, rfl⟩
  rw [hgg] at HGR hg2 ⊢
  have HLTgr : Hid (gk < gr) := Lib.hid (by omega)
  clear hgg
  clear hg2
  have HKL : Hid (([.int .u64 ks, .int .u64 km] : List Value).length = 2) := Lib.hid rfl
  go_wp2_with (first | (refine wpList_load_mid rfl 27 _ rfl gk 0 rfl [.int .u64 ks, .int .u64 km] _ (rngL HGK.out) Try.underlying27 rfl (by rw [HKL.out]; rfl) ?_) | fail)
  refine Calls.mono (HOP.out _ (HI.out.below HB.out)) ?_
  rintro e w3 ⟨hb, hcase⟩
  have HSW := Lib.hid HB.out.size
  have HGS : Hid (gr < w2.heap.size ∧ gk < w2.heap.size) := Lib.hid ⟨lt_of_block HGR.out, lt_of_block HGK.out⟩
  replace HB := Lib.hid (bl_next HB.out HB.out.size hb)
  replace HGK := Lib.hid (bl_row hb (lt_of_block HGK.out) HGK.out)
  replace HGR := Lib.hid (bl_row hb (lt_of_block HGR.out) HGR.out)
  clear hb
  obtain ⟨RZ, hRZ⟩ : ∃ R, rowZ = R := ⟨_, rfl⟩
  rw [hRZ] at hcase HGR HZL HZO
  have HRZ := Lib.hid hRZ
  clear hRZ HOP
  rcases hcase with ⟨hpn, rfl⟩ | ⟨r, ha, tc, oa, oc, hps, rfl, hki, hkc, hoc, hocm, hoi, hen, hat, hdr, h1at, hw1, hw4, ht8, hf8, hkb, ⟨go, rfl⟩, hlow⟩
  · have HUP : Hid (unpM ks km b largest has = (zH, 0, [], 12)) := Lib.hid (by unfold unpM; rw [hpn])
    clear hpn HGK
    go_upto_region 2 with (first | (refine wpList_store_row rfl 32 _ _ rfl _ rfl RZ (.int .i64 0 :: .int .u8 0 :: .int .u8 0 :: .int .u8 0 :: .int .u8 0 :: .int .u8 0 :: .int .u8 0 :: .int .u8 0 :: .int .u8 0 :: .int .u8 0 :: .int .u8 0 :: .int .u8 0 :: .int .u8 0 :: .int .u8 0 :: .int .u8 0 :: .int .u8 0 :: .int .u8 0 :: .slice none 0 0 :: .int .i64 0 :: .bool false :: []) rfl 32 (heap_alloc_new _ _) (by rw [HZL.out]; rfl) (by rw [HZL.out]; rfl) HZO.out ?_; intro w4 hr hg) | fail)
    have hal := (Below.refl w3.heap.size w3).alloc (Nat.le_refl _) (.cells ((.int .i64 0 :: .int .u8 0 :: .int .u8 0 :: .int .u8 0 :: .int .u8 0 :: .int .u8 0 :: .int .u8 0 :: .int .u8 0 :: .int .u8 0 :: .int .u8 0 :: .int .u8 0 :: .int .u8 0 :: .int .u8 0 :: .int .u8 0 :: .int .u8 0 :: .int .u8 0 :: .int .u8 0 :: .slice none 0 0 :: .int .i64 0 :: .bool false :: [])).toArray 32)
    have hb : Below w3.heap.size w3 w4 := hal.grown hg hal.size (by intro k hk; injection hk with hk; omega)
    replace HB := Lib.hid (bl_next HB.out HB.out.size hb)
    replace HGR := Lib.hid (bl_row hb (lt_of_block HGR.out) HGR.out)
    have HGH := Lib.hid (hr)
    clear hr hg hal hb
    obtain ⟨gh, hg⟩ : ∃ g, w3.heap.size = g := ⟨_, rfl⟩
    rw [hg] at HGH ⊢
    clear hg
    go_wp2_with (first | (refine wpList_store_row rfl 32 _ _ rfl gr rfl (.int .i64 0 :: .int .u8 0 :: .int .u8 0 :: .int .u8 0 :: .int .u8 0 :: .int .u8 0 :: .int .u8 0 :: .int .u8 0 :: .int .u8 0 :: .int .u8 0 :: .int .u8 0 :: .int .u8 0 :: .int .u8 0 :: .int .u8 0 :: .int .u8 0 :: .int .u8 0 :: .int .u8 0 :: .slice none 0 0 :: .int .i64 0 :: .bool false :: []) RZ rfl 32 HGR.out (by rw [HZL.out]; rfl) rfl (by decide) ?_; intro w5 hr hg) | fail)
    have HB7 := Lib.hid (HB.out.grown hg HB.out.size (by intro k hk; injection hk with hk; subst hk; have := HG0.out; have := HLTgr.out; omega))
    clear hg
    refine bodyPost_ret (results_cell4 (r := 8) (t := 9) (u := 10) (v := 11) rfl _ _ gr rfl (.int .i64 0 :: .int .u8 0 :: .int .u8 0 :: .int .u8 0 :: .int .u8 0 :: .int .u8 0 :: .int .u8 0 :: .int .u8 0 :: .int .u8 0 :: .int .u8 0 :: .int .u8 0 :: .int .u8 0 :: .int .u8 0 :: .int .u8 0 :: .int .u8 0 :: .int .u8 0 :: .int .u8 0 :: .slice none 0 0 :: .int .i64 0 :: .bool false :: []) _ _ hr Try.underlying32 rfl rfl) rfl ?_
    exact HQZ.out _ 12 HB7.out HUP.out
  · have HPS := Lib.hid hps; have HKI := Lib.hid hki; have HOI := Lib.hid hoi
    have HDR := Lib.hid hdr; have HKB := Lib.hid hkb
    rw [HBL.out] at hen
    clear hps hki hoi hdr hkb
    have HRL := Lib.hid (row_len r.h ha tc ht8 hf8)
    have HVAL : Hid (r.h.val ha tc = .agg (r.h.row ha tc).toArray) := Lib.hid rfl
    have HRO : Hid (∀ v ∈ r.h.row ha tc, v.oneCell' = true) := Lib.hid (row_one r.h ha tc)
    have HH := Lib.hid (And.intro hkc (And.intro ht8 hf8))
    have HR18 := Lib.hid (row_17 r.h ha tc ht8 hf8).2
    rw [HVAL.out]
    obtain ⟨RW, hRW⟩ : ∃ RW, r.h.row ha tc = RW := ⟨_, rfl⟩
    rw [hRW] at HRL HRO HVAL HR18 ⊢
    have HXG : Hid ((r.x.take r.at').getD 0 0 = r.x.getD 0 0) := Lib.hid (by rw [List.getD_eq_getElem?_getD, List.getElem?_take_of_lt (by omega), List.getD_eq_getElem?_getD])
    clear hRW ht8 hf8 hkc
    obtain ⟨wd, hwd⟩ : ∃ wd, r.h.w = wd := ⟨_, rfl⟩
    rw [hwd] at hw1 hw4 HR18
    have HWD := Lib.hid hwd
    obtain ⟨low, hlo⟩ : ∃ l, r.low = l := ⟨_, rfl⟩
    rw [hlo] at hlow ⊢
    have HLO := Lib.hid hlo
    obtain ⟨at', hate⟩ : ∃ t, r.at' = t := ⟨_, rfl⟩
    have HAT := Lib.hid hate
    obtain ⟨en, hene⟩ : ∃ t, r.en = t := ⟨_, rfl⟩
    have HEN := Lib.hid hene
    rw [hate] at hoc hat h1at HDR HOI HXG ⊢
    rw [hene] at hen hat HDR ⊢
    have HU : Hid (unpM ks km b largest has = if (openM ks (wholeM (nxM largest has) low (powW (wM wd))) (r.x.take at') ((b.take en).drop at')).2 = false then (zH, 0, [], 25) else if bits .and .u8 (r.x.getD 0 0) (keptM (r.x.getD 0 0)) ≠ 0 then (zH, 0, [], 14) else (r.h, wholeM (nxM largest has) low (powW (wM wd)), (openM ks (wholeM (nxM largest has) low (powW (wM wd))) (r.x.take at') ((b.take en).drop at')).1, 0)) := Lib.hid (by unfold unpM; rw [HPS.out]; simp only; rw [hlo, hwd, hate, HDR.out])
    clear hwd hlo hate hene HDR
    have HWH := Lib.hid (fun W => pwhole_any W largest low wd has hl hlow)
    have HWN : Hid ((Lit.int .u64 (wholeM (nxM largest has) low (powW (wM wd)))).wf = true) := Lib.hid (whole_wf largest has low wd hl hlow)
    generalize wholeM (nxM largest has) low (powW (wM wd)) = n at HU HWH HWN
    obtain ⟨x0, hx0⟩ : ∃ x0, r.x.getD 0 0 = x0 := ⟨_, rfl⟩
    rw [hx0] at HU HXG
    clear hx0
    generalize r.x.take at' = AH at HU HXG HOI
    go_upto_region 2 with (first | (refine wpList_store_row rfl 32 _ _ rfl _ rfl RW (.int .i64 0 :: .int .u8 0 :: .int .u8 0 :: .int .u8 0 :: .int .u8 0 :: .int .u8 0 :: .int .u8 0 :: .int .u8 0 :: .int .u8 0 :: .int .u8 0 :: .int .u8 0 :: .int .u8 0 :: .int .u8 0 :: .int .u8 0 :: .int .u8 0 :: .int .u8 0 :: .int .u8 0 :: .slice none 0 0 :: .int .i64 0 :: .bool false :: []) rfl 32 (heap_alloc_new _ _) (by rw [HRL.out]; rfl) (by rw [HRL.out]; rfl) HRO.out ?_; intro w9 hr hg) | fail)
    have hal := (Below.refl w3.heap.size w3).alloc (Nat.le_refl _) (.cells ((.int .i64 0 :: .int .u8 0 :: .int .u8 0 :: .int .u8 0 :: .int .u8 0 :: .int .u8 0 :: .int .u8 0 :: .int .u8 0 :: .int .u8 0 :: .int .u8 0 :: .int .u8 0 :: .int .u8 0 :: .int .u8 0 :: .int .u8 0 :: .int .u8 0 :: .int .u8 0 :: .int .u8 0 :: .slice none 0 0 :: .int .i64 0 :: .bool false :: [])).toArray 32)
    have hb : Below w3.heap.size w3 w9 := hal.grown hg hal.size (by intro k hk; injection hk with hk; omega)
    replace HB := Lib.hid (bl_next HB.out HB.out.size hb)
    replace HGK := Lib.hid (bl_row hb (lt_of_block HGK.out) HGK.out)
    replace HGR := Lib.hid (bl_row hb (lt_of_block HGR.out) HGR.out)
    replace HKI := Lib.hid (HKI.out.below hb)
    replace HOI := Lib.hid (HOI.out.below hb)
    have HGH := Lib.hid (hr)
    clear hr hg hal hb
    obtain ⟨gh, hg⟩ : ∃ g, w3.heap.size = g := ⟨_, rfl⟩
    rw [hg] at HGH ⊢
    clear hg
    have c18 := cell_row HGH.out 18 _ HR18.out
    go_wp2_with fail
    refine Calls.mono (HWH.out _) ?_
    rintro e w10 ⟨rfl, hb⟩
    replace HB := Lib.hid (bl_next HB.out HB.out.size hb)
    replace HGK := Lib.hid (bl_row hb (lt_of_block HGK.out) HGK.out)
    replace HGR := Lib.hid (bl_row hb (lt_of_block HGR.out) HGR.out)
    replace HKI := Lib.hid (HKI.out.below hb)
    replace HOI := Lib.hid (HOI.out.below hb)
    replace HGH := Lib.hid (bl_row hb (lt_of_block HGH.out) HGH.out)
    clear hb c18 HWH
    have hslc : at' ≤ en ∧ en ≤ cap ∧ at' ≠ cap := by omega
    have f0 : ∀ t : In (fun y => Below w10.heap.size w10 y), t.w.cell? ⟨gk, 0, none⟩ = some (.int .u64 ks) := fun t => cell_row (bl_row t.h (lt_of_block HGK.out) HGK.out) 0 _ rfl
    have HIS := Lib.hid (fun (W : World) (hb : Below w.heap.size w W) => slice_ints (HI.out.below hb) at' en (by omega) (by omega))
    have E1 : (at' : Int) ≤ (en : Int) := by omega
    have E2 : (en : Int) ≤ (cap : Int) := by omega
    have E3 : cap ≠ at' := by omega
    go_upto_region 5 with fail
    refine wp_plan (.t 0 (.t 1 (.t 2 (.t 3 (.t 4 (.t 5 (.t 6 (.t 7 (.t 8 (.u 9 (.t 10 (.t 11 (.t 12 (.t 13 (.t 14 .done))))))))))))))) (fun y => Below w10.heap.size w10 y) (by kernel_rfl) (by kernel_rfl) (by kernel_rfl) (fun c a d v w h => by first | (cases d <;> exact h) | exact HKP.out c a d v w h) (Below.refl _ _).drew ?_
    haveI hne2 : Nonempty (In (fun y => Below w10.heap.size w10 y)) := ⟨⟨w10, Below.refl _ _⟩⟩
    have hS : Hid (Below w10.heap.size w10 w10.drew) := Lib.hid (Below.refl _ _).drew
    generalize w10.drew = W0 at hS ⊢
    repeat (refine plan_t (by rfl) ?_; (first | go_big_quiet_skip | (go_big_quiet_want; go_big_quiet_op; go_big_quiet_on)); refine wpQuiet_nil ?_)
    have HBW : Hid (∀ x ∈ (b.take en).drop at', (Lit.int .u8 x).wf = true) := Lib.hid fun x hx => HI.out.2.1 x (List.mem_of_mem_take (List.mem_of_mem_drop hx))
    have HPW := Lib.hid (openM_wf ks n AH ((b.take en).drop at') HBW.out)
    have HOPN := Lib.hid (fun W (hb : Below w10.heap.size w10 W) => open_any W ks n (some ⟨go, 0, none⟩) at' oc AH (a.map (·.add at')) (en - at') (cap - at') ((b.take en).drop at') HWN.out (by omega) (by omega) (by omega) (by omega) (HOI.out.below hb) (HIS.out W (bl_next HB.out HB.out.size hb)))
    have HGW : Hid (gr < w10.heap.size) := Lib.hid (lt_of_block HGR.out)
    generalize openM ks n AH ((b.take en).drop at') = q at HU HOPN HPW
    obtain ⟨pl, ok⟩ := q
    simp only at HU HOPN HPW
    refine plan_us (by rfl) (by kernel_rfl) ?_
    intro K hK
    go_wp2_with fail
    refine Calls.mono (HOPN.out _ hS.out) ?_
    rintro e w12 ⟨v, rfl, hb, hv⟩
    obtain ⟨pa, pc, rfl, hpc, hpi, hpb⟩ := ints_of_own hv HPW.out
    have HPI := Lib.hid hpi; have HPC := Lib.hid hpc; have HPB : Hid (∀ x, pa = some x → w10.heap.size ≤ x.block) := Lib.hid fun x hx => Nat.le_trans hS.out.size (hpb x hx)
    replace hS := Lib.hid (bl_next hS.out hS.out.size hb)
    clear hb hv hpi hpc hpb
    go_wp2_with fail
    refine ⟨hS.out, ?_⟩
    repeat (refine plan_t (by rfl) ?_; (first | go_big_quiet_skip | (go_big_quiet_want; go_big_quiet_op; go_big_quiet_on)); refine wpQuiet_nil ?_)
    clear hne2 f0
    show Exit.then _ _ _ _ _
    skip
    replace HB := Lib.hid (bl_next HB.out HB.out.size hS.out)
    replace HGK := Lib.hid (bl_row hS.out (lt_of_block HGK.out) HGK.out)
    replace HGR := Lib.hid (bl_row hS.out (lt_of_block HGR.out) HGR.out)
    replace HKI := Lib.hid (HKI.out.below hS.out)
    replace HOI := Lib.hid (HOI.out.below hS.out)
    replace HGH := Lib.hid (bl_row hS.out (lt_of_block HGH.out) HGH.out)
    clear hS HOPN HIS
    cases ok with
    | false =>
      have HUP : Hid (unpM ks km b largest has = (zH, 0, [], 25)) := Lib.hid (by rw [HU.out]; rfl)
      go_wp2_with (first | (refine wpList_store_row rfl 32 _ _ rfl gr rfl (.int .i64 0 :: .int .u8 0 :: .int .u8 0 :: .int .u8 0 :: .int .u8 0 :: .int .u8 0 :: .int .u8 0 :: .int .u8 0 :: .int .u8 0 :: .int .u8 0 :: .int .u8 0 :: .int .u8 0 :: .int .u8 0 :: .int .u8 0 :: .int .u8 0 :: .int .u8 0 :: .int .u8 0 :: .slice none 0 0 :: .int .i64 0 :: .bool false :: []) RZ rfl 32 HGR.out (by rw [HZL.out]; rfl) rfl (by decide) ?_; intro w13 hr hg) | fail)
      have HB7 := Lib.hid (HB.out.grown hg HB.out.size (by intro k hk; injection hk with hk; subst hk; have := HG0.out; have := HLTgr.out; omega))
      clear hg
      refine bodyPost_ret (results_cell4 (r := 8) (t := 9) (u := 10) (v := 11) rfl _ _ gr rfl (.int .i64 0 :: .int .u8 0 :: .int .u8 0 :: .int .u8 0 :: .int .u8 0 :: .int .u8 0 :: .int .u8 0 :: .int .u8 0 :: .int .u8 0 :: .int .u8 0 :: .int .u8 0 :: .int .u8 0 :: .int .u8 0 :: .int .u8 0 :: .int .u8 0 :: .int .u8 0 :: .int .u8 0 :: .slice none 0 0 :: .int .i64 0 :: .bool false :: []) _ _ hr Try.underlying32 rfl rfl) rfl ?_
      exact HQZ.out _ 25 HB7.out HUP.out
    | true =>
      have f8 : ∀ t : In (fun y => Below w12.heap.size w12 y), t.w.cell? ⟨go, 0, none⟩ = some (.int .u8 x0) := fun t => by rw [← HXG.out]; exact ints_cell0 (HOI.out.below t.h) (by omega)
      have hx0b : 0 ≤ x0 ∧ x0 ≤ 255 := by rw [← HXG.out]; exact bdU8 (getD_wfB HOI.out.2.1 0)
      have HKP2 := Lib.hid (fun W => kept_any W x0 hx0b)
      generalize keptM x0 = kp at HKP2 HU
      go_upto_region 8 with fail
      refine wp_plan (.t 0 (.t 1 (.t 2 (.t 3 (.t 4 (.t 5 (.u 6 (.t 7 (.t 8 (.t 9 .done)))))))))) (fun y => Below w12.heap.size w12 y) (by kernel_rfl) (by kernel_rfl) (by kernel_rfl) (fun c a d v w h => by first | (cases d <;> exact h) | exact HKP.out c a d v w h) (Below.refl _ _).drew ?_
      haveI hne2 : Nonempty (In (fun y => Below w12.heap.size w12 y)) := ⟨⟨w12, Below.refl _ _⟩⟩
      have hS : Hid (Below w12.heap.size w12 w12.drew) := Lib.hid (Below.refl _ _).drew
      generalize w12.drew = W8 at hS ⊢
      repeat (refine plan_t (by rfl) ?_; (first | go_big_quiet_skip | (go_big_quiet_want; go_big_quiet_op; go_big_quiet_on)); refine wpQuiet_nil ?_)
      refine plan_us (by rfl) (by kernel_rfl) ?_
      intro K hK
      go_wp2_with fail
      refine Calls.mono (HKP2.out _) ?_
      rintro e wq ⟨rfl, hq⟩
      obtain rfl := hq.symm
      clear hq
      go_wp2_with fail
      refine ⟨hS.out, ?_⟩
      repeat (refine plan_t (by rfl) ?_; (first | go_big_quiet_skip | (go_big_quiet_want; go_big_quiet_op; go_big_quiet_on)); refine wpQuiet_nil ?_)
      clear hne2 f8
      show Exit.then _ _ _ _ _
      replace HB := Lib.hid (bl_next HB.out HB.out.size hS.out)
      replace HGK := Lib.hid (bl_row hS.out (lt_of_block HGK.out) HGK.out)
      replace HGR := Lib.hid (bl_row hS.out (lt_of_block HGR.out) HGR.out)
      replace HKI := Lib.hid (HKI.out.below hS.out)
      replace HOI := Lib.hid (HOI.out.below hS.out)
      replace HGH := Lib.hid (bl_row hS.out (lt_of_block HGH.out) HGH.out)
      replace HPI := Lib.hid (HPI.out.below hS.out)
      clear hS HKP2
      by_cases hkz : bits .and .u8 x0 kp = 0
      · have ek : (bits .and .u8 x0 kp != 0) = false := by simp [hkz]
        have HUP : Hid (unpM ks km b largest has = (r.h, n, pl, 0)) := Lib.hid (by rw [HU.out, if_neg (by decide), if_neg (by simp [hkz])])
        rw [ek]
        clear ek hkz
        go_wp2_with (first | (refine wpList_load_mid rfl 32 _ rfl gh 0 rfl RW _ (rngL HGH.out) Try.underlying32 rfl (by rw [HRL.out]; rfl) ?_) | (refine wpList_store_row rfl 32 _ _ rfl gr rfl RW RZ rfl 32 HGR.out (HZL.out.trans HRL.out.symm) (by rw [HRL.out]; rfl) HRO.out ?_; intro w15 hr hg) | fail)
        have HB7 := Lib.hid (HB.out.grown hg HB.out.size (by intro k hk; injection hk with hk; subst hk; have := HG0.out; have := HLTgr.out; omega))
        have hgx := Lib.hid hg
        clear hg
        refine bodyPost_ret (results_cell4 (r := 8) (t := 9) (u := 10) (v := 11) rfl _ _ gr rfl RW _ _ hr Try.underlying32 rfl (by rw [HRL.out]; rfl)) rfl ?_
        rw [← HQQ.out]
        refine ⟨HB7.out, r.h, n, pl, 0, ha, tc, pa, pc, HUP.out, by rw [HVAL.out]; rfl, ?_, HH.out.1, ?_, HPC.out, HH.out.2.1, HH.out.2.2⟩
        · exact HKI.out.grown hgx.out (fun x hx e => by injection e with e; have h1 := HKB.out x hx; have h2 := HGS.out.1; omega)
        · exact HPI.out.grown hgx.out (fun x hx e => by injection e with e; have h1 := HPB.out x hx; have h2 := HGW.out; omega)
      · have ek : (bits .and .u8 x0 kp != 0) = true := by simp [hkz]
        have HUP : Hid (unpM ks km b largest has = (zH, 0, [], 14)) := Lib.hid (by rw [HU.out, if_neg (by decide), if_pos hkz])
        rw [ek]
        clear ek hkz
        go_wp2_with (first | (refine wpList_store_row rfl 32 _ _ rfl gr rfl (.int .i64 0 :: .int .u8 0 :: .int .u8 0 :: .int .u8 0 :: .int .u8 0 :: .int .u8 0 :: .int .u8 0 :: .int .u8 0 :: .int .u8 0 :: .int .u8 0 :: .int .u8 0 :: .int .u8 0 :: .int .u8 0 :: .int .u8 0 :: .int .u8 0 :: .int .u8 0 :: .int .u8 0 :: .slice none 0 0 :: .int .i64 0 :: .bool false :: []) RZ rfl 32 HGR.out (by rw [HZL.out]; rfl) rfl (by decide) ?_; intro w16 hr hg) | fail)
        have HB7 := Lib.hid (HB.out.grown hg HB.out.size (by intro k hk; injection hk with hk; subst hk; have := HG0.out; have := HLTgr.out; omega))
        clear hg
        refine bodyPost_ret (results_cell4 (r := 8) (t := 9) (u := 10) (v := 11) rfl _ _ gr rfl (.int .i64 0 :: .int .u8 0 :: .int .u8 0 :: .int .u8 0 :: .int .u8 0 :: .int .u8 0 :: .int .u8 0 :: .int .u8 0 :: .int .u8 0 :: .int .u8 0 :: .int .u8 0 :: .int .u8 0 :: .int .u8 0 :: .int .u8 0 :: .int .u8 0 :: .int .u8 0 :: .int .u8 0 :: .slice none 0 0 :: .int .i64 0 :: .bool false :: []) _ _ hr Try.underlying32 rfl rfl) rfl ?_
        exact HQZ.out _ 14 HB7.out HUP.out
end Go.Proofs.Ythofbckkjcidmaa
namespace Go.Proofs.Ythofbckkjcidmaa
open Go.RowKit
set_option linter.unusedVariables false
set_option linter.unusedSimpArgs false

theorem ints_cell {w : World} {g off len : Nat} {zs : List Int} (h : IntsK .u8 w (some ⟨g, off, none⟩) len zs) (i : Nat) (h0 : i < len) : w.cell? ⟨g, off + i, none⟩ = some (.int .u8 (zs.getD i 0)) := by
  rcases h.2.2 with h1 | ⟨b, off', e, _, hc⟩
  · omega
  · injection e with e; injection e with e1 e2; subst e1; subst e2
    exact hc i h0
set_option maxRecDepth 100000 in
set_option maxHeartbeats 4000000 in
theorem rm_first4 {x0 x1 x2 x3 x4 x5 x6 x7 x8 x9 x10 x13 x14 x15 x16 x17 x18 x19 x20 x21 x22 x23 x24 x25 x26 x27 x28 x29 x30 x31 x32 x33 x34 x35 x36 x37 x38 x39 x40 x41 x42 x43 x44 x45 x46 x47 x48 x49 x50 x51 x52 x53 x54 x55 x56 x57 x58 x59 x60 x61 x62 x63 x64 x65 x66 x67 x68 x69 x70 x71 x72 x73 x74 x75 x76 x77 : Value} {B n0 c0 gb mb mo : Nat} {xs m : List Int} (wc : World) {Q : Exit → Act → World → Prop}
    (hn : 1 ≤ n0) (hne : mb ≠ gb) (hk : hidM (xs.getD 0 0) = 15) (hxw : ∀ x ∈ xs, (Lit.int .u8 x).wf = true) (HIM : Hid (IntsK .u8 wc (some ⟨mb, mo, none⟩) 5 m)) (HO : Hid (wc.ownsRow B 5 1 (.slice (some ⟨gb, 0, none⟩) n0 c0) n0 ((xs).map (Value.int .u8))))
    (hQp : ∀ c a d v w, Q (.panic c) (a.put d v) w → Q (.panic c) a w)
    (hQ : ∀ (y27 y28 y29 y30 y31 y32 y33 y34 y35 y36 : Value) (w' : World), w'.ownsRow B 5 1 (.slice (some ⟨gb, 0, none⟩) n0 c0) n0 ((xs.set 0 (x0M m xs)).map (Value.int .u8)) → wc.grownBy w' (some gb) → Q .normal ⟨List.toArray (x0 :: x1 :: x2 :: x3 :: x4 :: x5 :: x6 :: x7 :: x8 :: x9 :: x10 :: .slice (some ⟨mb, mo, none⟩) 5 8 :: .slice (some ⟨gb, 0, none⟩) n0 c0 :: x13 :: x14 :: x15 :: x16 :: x17 :: x18 :: x19 :: x20 :: x21 :: x22 :: x23 :: x24 :: x25 :: x26 :: y27 :: y28 :: y29 :: y30 :: y31 :: y32 :: y33 :: y34 :: y35 :: y36 :: x37 :: x38 :: x39 :: x40 :: x41 :: x42 :: x43 :: x44 :: x45 :: x46 :: x47 :: x48 :: x49 :: x50 :: x51 :: x52 :: x53 :: x54 :: x55 :: x56 :: x57 :: x58 :: x59 :: x60 :: x61 :: x62 :: x63 :: x64 :: x65 :: x66 :: x67 :: x68 :: x69 :: x70 :: x71 :: x72 :: x73 :: x74 :: x75 :: x76 :: x77 :: []), []⟩ w') :
    Code.wp Try.prog (((Try.f41.body.bind (subRegion 4)).getD .skip)) Q ⟨List.toArray (x0 :: x1 :: x2 :: x3 :: x4 :: x5 :: x6 :: x7 :: x8 :: x9 :: x10 :: .slice (some ⟨mb, mo, none⟩) 5 8 :: .slice (some ⟨gb, 0, none⟩) n0 c0 :: x13 :: x14 :: x15 :: x16 :: x17 :: x18 :: x19 :: x20 :: x21 :: x22 :: x23 :: x24 :: x25 :: x26 :: x27 :: x28 :: x29 :: x30 :: x31 :: x32 :: x33 :: x34 :: x35 :: x36 :: x37 :: x38 :: x39 :: x40 :: x41 :: x42 :: x43 :: x44 :: x45 :: x46 :: x47 :: x48 :: x49 :: x50 :: x51 :: x52 :: x53 :: x54 :: x55 :: x56 :: x57 :: x58 :: x59 :: x60 :: x61 :: x62 :: x63 :: x64 :: x65 :: x66 :: x67 :: x68 :: x69 :: x70 :: x71 :: x72 :: x73 :: x74 :: x75 :: x76 :: x77 :: []), []⟩ wc := by
  have HK := Lib.hid hQ; have HKP := Lib.hid hQp
  clear hQ hQp
  conv => arg 2; whnf
  obtain ⟨gb', hgb, _, _, hz, hcs, _⟩ := own_set HO.out (Below.refl _ _) (i := 0) (by omega) (.int .u8 0) rfl
  injection hgb with hgb; injection hgb with hgb; subst hgb
  have hxl : xs.length = n0 := by have := HO.out.1; rw [List.length_map] at this; omega
  obtain ⟨b0, hb0⟩ : ∃ x, xs[0]? = some x := ⟨_, List.getElem?_eq_getElem (by omega)⟩
  obtain ⟨m0, hm0⟩ : ∃ x, m.getD 0 0 = x := ⟨_, rfl⟩
  have hb0w := bdU8 (hxw b0 (List.mem_of_getElem? hb0)); have hm0w : 0 ≤ m0 ∧ m0 ≤ 255 := by rw [← hm0]; exact bdU8 (getD_wfB HIM.out.2.1 0)
  have c0' : wc.drew.cell? ⟨gb, 0, none⟩ = some (.int .u8 b0) := hcs 0 _ (by rw [List.getElem?_map, hb0]; rfl)
  have z0 : wc.drew.frozen? ⟨gb, 0, none⟩ = false := hz
  have f1 : ∀ t : In (fun y => wc.grownBy y (some gb)), t.w.cell? ⟨mb, mo, none⟩ = some (.int .u8 m0) := fun t => by rw [← hm0]; exact ints_cell (HIM.out.grown t.h (fun x hx e => by injection hx with hx; subst hx; injection e with e; exact hne e)) 0 (by omega)
  have HX0 : Hid (x0M m xs = bits .xor .u8 b0 (m0 % 16)) := Lib.hid (by unfold x0M; rw [hk, hm0, List.getD_eq_getElem?_getD, hb0, (and_hid m0 hm0w).1]; rfl)
  have HSET := Lib.hid (fun u (hu : u.oneCell' = true) => own_put HO.out (i := 0) (by omega) u hu)
  clear hz hcs hb0 hm0 hxw hxl hk
  refine wp_plan (.t 0 (.t 1 (.t 2 (.t 4 (.t 5 (.t 6 (.t 7 (.u 3 (.t 8 (.t 9 (.u 10 .done))))))))))) (fun y => wc.grownBy y (some gb)) (by kernel_rfl) (by kernel_rfl) (by kernel_rfl) (fun c a d v w h => by first | (cases d <;> exact h) | exact HKP.out c a d v w h) (grown_drew _ _) ?_
  have hS : Hid (wc.grownBy wc.drew (some gb)) := Lib.hid (grown_drew _ _)
  haveI hne2 : Nonempty (In (fun y => wc.grownBy y (some gb))) := ⟨⟨wc, grown_refl _ _⟩⟩
  have HSD : Hid (∀ u, (wc.drew.setCell ⟨gb, 0, none⟩ u) = (wc.setCell ⟨gb, 0, none⟩ u).drew) := Lib.hid fun u => rfl
  generalize hWd : wc.drew = W0 at c0' z0 hS HSD ⊢
  clear hWd
  repeat (refine plan_t (by rfl) ?_; (first | go_big_quiet_skip | (go_big_quiet_want; go_big_quiet_op; go_big_quiet_on)); refine wpQuiet_nil ?_)
  refine plan_us (by rfl) (by kernel_rfl) ?_
  intro K hK
  go_wp2_with fail
  refine ⟨hS.out, ?_⟩
  repeat (refine plan_t (by rfl) ?_; (first | go_big_quiet_skip | (go_big_quiet_want; go_big_quiet_op; go_big_quiet_on)); refine wpQuiet_nil ?_)
  refine plan_us (by rfl) (by kernel_rfl) ?_
  intro K hK
  go_wp2_with fail
  rw [HSD.out, ← HX0.out]
  have ho := HSET.out (.int .u8 (x0M m xs)) rfl
  have hg := grown_setCell wc gb 0 (.int .u8 (x0M m xs))
  rw [← List.map_set] at ho
  refine ⟨grown_trans hg (grown_drew _ _), ?_⟩
  clear hne2
  exact HK.out _ _ _ _ _ _ _ _ _ _ _ (own_below ho ((Below.refl _ _).drew)) (grown_trans hg (grown_drew _ _))
set_option maxRecDepth 100000 in
set_option maxHeartbeats 4000000 in
theorem rm_first5 {x0 x1 x2 x3 x4 x5 x6 x7 x8 x9 x10 x13 x14 x15 x16 x17 x18 x19 x20 x21 x22 x23 x24 x25 x26 x27 x28 x29 x30 x31 x32 x33 x34 x35 x36 x37 x38 x39 x40 x41 x42 x43 x44 x45 x46 x47 x48 x49 x50 x51 x52 x53 x54 x55 x56 x57 x58 x59 x60 x61 x62 x63 x64 x65 x66 x67 x68 x69 x70 x71 x72 x73 x74 x75 x76 x77 : Value} {B n0 c0 gb mb mo : Nat} {xs m : List Int} (wc : World) {Q : Exit → Act → World → Prop}
    (hn : 1 ≤ n0) (hne : mb ≠ gb) (hk : hidM (xs.getD 0 0) = 31) (hxw : ∀ x ∈ xs, (Lit.int .u8 x).wf = true) (HIM : Hid (IntsK .u8 wc (some ⟨mb, mo, none⟩) 5 m)) (HO : Hid (wc.ownsRow B 5 1 (.slice (some ⟨gb, 0, none⟩) n0 c0) n0 ((xs).map (Value.int .u8))))
    (hQp : ∀ c a d v w, Q (.panic c) (a.put d v) w → Q (.panic c) a w)
    (hQ : ∀ (y37 y38 y39 y40 y41 y42 y43 y44 y45 y46 : Value) (w' : World), w'.ownsRow B 5 1 (.slice (some ⟨gb, 0, none⟩) n0 c0) n0 ((xs.set 0 (x0M m xs)).map (Value.int .u8)) → wc.grownBy w' (some gb) → Q .normal ⟨List.toArray (x0 :: x1 :: x2 :: x3 :: x4 :: x5 :: x6 :: x7 :: x8 :: x9 :: x10 :: .slice (some ⟨mb, mo, none⟩) 5 8 :: .slice (some ⟨gb, 0, none⟩) n0 c0 :: x13 :: x14 :: x15 :: x16 :: x17 :: x18 :: x19 :: x20 :: x21 :: x22 :: x23 :: x24 :: x25 :: x26 :: x27 :: x28 :: x29 :: x30 :: x31 :: x32 :: x33 :: x34 :: x35 :: x36 :: y37 :: y38 :: y39 :: y40 :: y41 :: y42 :: y43 :: y44 :: y45 :: y46 :: x47 :: x48 :: x49 :: x50 :: x51 :: x52 :: x53 :: x54 :: x55 :: x56 :: x57 :: x58 :: x59 :: x60 :: x61 :: x62 :: x63 :: x64 :: x65 :: x66 :: x67 :: x68 :: x69 :: x70 :: x71 :: x72 :: x73 :: x74 :: x75 :: x76 :: x77 :: []), []⟩ w') :
    Code.wp Try.prog (((Try.f41.body.bind (subRegion 5)).getD .skip)) Q ⟨List.toArray (x0 :: x1 :: x2 :: x3 :: x4 :: x5 :: x6 :: x7 :: x8 :: x9 :: x10 :: .slice (some ⟨mb, mo, none⟩) 5 8 :: .slice (some ⟨gb, 0, none⟩) n0 c0 :: x13 :: x14 :: x15 :: x16 :: x17 :: x18 :: x19 :: x20 :: x21 :: x22 :: x23 :: x24 :: x25 :: x26 :: x27 :: x28 :: x29 :: x30 :: x31 :: x32 :: x33 :: x34 :: x35 :: x36 :: x37 :: x38 :: x39 :: x40 :: x41 :: x42 :: x43 :: x44 :: x45 :: x46 :: x47 :: x48 :: x49 :: x50 :: x51 :: x52 :: x53 :: x54 :: x55 :: x56 :: x57 :: x58 :: x59 :: x60 :: x61 :: x62 :: x63 :: x64 :: x65 :: x66 :: x67 :: x68 :: x69 :: x70 :: x71 :: x72 :: x73 :: x74 :: x75 :: x76 :: x77 :: []), []⟩ wc := by
  have HK := Lib.hid hQ; have HKP := Lib.hid hQp
  clear hQ hQp
  conv => arg 2; whnf
  obtain ⟨gb', hgb, _, _, hz, hcs, _⟩ := own_set HO.out (Below.refl _ _) (i := 0) (by omega) (.int .u8 0) rfl
  injection hgb with hgb; injection hgb with hgb; subst hgb
  have hxl : xs.length = n0 := by have := HO.out.1; rw [List.length_map] at this; omega
  obtain ⟨b0, hb0⟩ : ∃ x, xs[0]? = some x := ⟨_, List.getElem?_eq_getElem (by omega)⟩
  obtain ⟨m0, hm0⟩ : ∃ x, m.getD 0 0 = x := ⟨_, rfl⟩
  have hb0w := bdU8 (hxw b0 (List.mem_of_getElem? hb0)); have hm0w : 0 ≤ m0 ∧ m0 ≤ 255 := by rw [← hm0]; exact bdU8 (getD_wfB HIM.out.2.1 0)
  have c0' : wc.drew.cell? ⟨gb, 0, none⟩ = some (.int .u8 b0) := hcs 0 _ (by rw [List.getElem?_map, hb0]; rfl)
  have z0 : wc.drew.frozen? ⟨gb, 0, none⟩ = false := hz
  have f1 : ∀ t : In (fun y => wc.grownBy y (some gb)), t.w.cell? ⟨mb, mo, none⟩ = some (.int .u8 m0) := fun t => by rw [← hm0]; exact ints_cell (HIM.out.grown t.h (fun x hx e => by injection hx with hx; subst hx; injection e with e; exact hne e)) 0 (by omega)
  have HX0 : Hid (x0M m xs = bits .xor .u8 b0 (m0 % 32)) := Lib.hid (by unfold x0M; rw [hk, hm0, List.getD_eq_getElem?_getD, hb0, (and_hid m0 hm0w).2.1]; rfl)
  have HSET := Lib.hid (fun u (hu : u.oneCell' = true) => own_put HO.out (i := 0) (by omega) u hu)
  clear hz hcs hb0 hm0 hxw hxl hk
  refine wp_plan (.t 0 (.t 1 (.t 2 (.t 4 (.t 5 (.t 6 (.t 7 (.u 3 (.t 8 (.t 9 (.u 10 .done))))))))))) (fun y => wc.grownBy y (some gb)) (by kernel_rfl) (by kernel_rfl) (by kernel_rfl) (fun c a d v w h => by first | (cases d <;> exact h) | exact HKP.out c a d v w h) (grown_drew _ _) ?_
  have hS : Hid (wc.grownBy wc.drew (some gb)) := Lib.hid (grown_drew _ _)
  haveI hne2 : Nonempty (In (fun y => wc.grownBy y (some gb))) := ⟨⟨wc, grown_refl _ _⟩⟩
  have HSD : Hid (∀ u, (wc.drew.setCell ⟨gb, 0, none⟩ u) = (wc.setCell ⟨gb, 0, none⟩ u).drew) := Lib.hid fun u => rfl
  generalize hWd : wc.drew = W0 at c0' z0 hS HSD ⊢
  clear hWd
  repeat (refine plan_t (by rfl) ?_; (first | go_big_quiet_skip | (go_big_quiet_want; go_big_quiet_op; go_big_quiet_on)); refine wpQuiet_nil ?_)
  refine plan_us (by rfl) (by kernel_rfl) ?_
  intro K hK
  go_wp2_with fail
  refine ⟨hS.out, ?_⟩
  repeat (refine plan_t (by rfl) ?_; (first | go_big_quiet_skip | (go_big_quiet_want; go_big_quiet_op; go_big_quiet_on)); refine wpQuiet_nil ?_)
  refine plan_us (by rfl) (by kernel_rfl) ?_
  intro K hK
  go_wp2_with fail
  rw [HSD.out, ← HX0.out]
  have ho := HSET.out (.int .u8 (x0M m xs)) rfl
  have hg := grown_setCell wc gb 0 (.int .u8 (x0M m xs))
  rw [← List.map_set] at ho
  refine ⟨grown_trans hg (grown_drew _ _), ?_⟩
  clear hne2
  exact HK.out _ _ _ _ _ _ _ _ _ _ _ (own_below ho ((Below.refl _ _).drew)) (grown_trans hg (grown_drew _ _))
set_option maxRecDepth 100000 in
set_option maxHeartbeats 4000000 in
theorem rm_loop {x0 x1 x4 x5 x6 x7 x8 x9 x10 x14 x15 x16 x17 x18 x19 x20 x21 x22 x23 x24 x25 x26 x27 x28 x29 x30 x31 x32 x33 x34 x35 x36 x37 x38 x39 x40 x41 x42 x43 x44 x45 x46 x47 x48 x49 x50 x51 x52 x53 x54 x55 x56 x57 x58 x59 x60 x61 x62 x63 x64 x65 x66 x67 x68 x69 x70 x71 x72 x73 x74 x75 x76 x77 : Value} {B n0 c0 gb mb mo at' wn : Nat} {xs m : List Int} (wc : World) {Q : Exit → Act → World → Prop}
    (hn : at' + wn ≤ n0) (hn0 : n0 ≤ 2000000000000) (hw4 : wn ≤ 4) (hne : mb ≠ gb) (hxw : ∀ x ∈ xs, (Lit.int .u8 x).wf = true) (HIM : Hid (IntsK .u8 wc (some ⟨mb, mo, none⟩) 5 m)) (HO : Hid (wc.ownsRow B 5 1 (.slice (some ⟨gb, 0, none⟩) n0 c0) n0 ((xs).map (Value.int .u8))))
    (hQp : ∀ c a d v w, Q (.panic c) (a.put d v) w → Q (.panic c) a w)
    (hQ : ∀ (y13 y55 y56 y57 y58 y59 y60 y61 y62 y63 y64 y65 y66 y67 y68 y69 y70 y71 y72 y73 y74 y75 y76 : Value) (w' : World), w'.ownsRow B 5 1 (.slice (some ⟨gb, 0, none⟩) n0 c0) n0 (((xorAt m at' wn xs)).map (Value.int .u8)) → wc.grownBy w' (some gb) → Q .normal ⟨List.toArray (x0 :: x1 :: .int .i64 at' :: .int .i64 wn :: x4 :: x5 :: x6 :: x7 :: x8 :: x9 :: x10 :: .slice (some ⟨mb, mo, none⟩) 5 8 :: .slice (some ⟨gb, 0, none⟩) n0 c0 :: y13 :: x14 :: x15 :: x16 :: x17 :: x18 :: x19 :: x20 :: x21 :: x22 :: x23 :: x24 :: x25 :: x26 :: x27 :: x28 :: x29 :: x30 :: x31 :: x32 :: x33 :: x34 :: x35 :: x36 :: x37 :: x38 :: x39 :: x40 :: x41 :: x42 :: x43 :: x44 :: x45 :: x46 :: x47 :: x48 :: x49 :: x50 :: x51 :: x52 :: x53 :: x54 :: y55 :: y56 :: y57 :: y58 :: y59 :: y60 :: y61 :: y62 :: y63 :: y64 :: y65 :: y66 :: y67 :: y68 :: y69 :: y70 :: y71 :: y72 :: y73 :: y74 :: y75 :: y76 :: x77 :: []), []⟩ w') :
    Code.wp Try.prog (((Try.f41.body.bind (subBlock 0)).getD .skip)) Q ⟨List.toArray (x0 :: x1 :: .int .i64 at' :: .int .i64 wn :: x4 :: x5 :: x6 :: x7 :: x8 :: x9 :: x10 :: .slice (some ⟨mb, mo, none⟩) 5 8 :: .slice (some ⟨gb, 0, none⟩) n0 c0 :: .int .i64 0 :: x14 :: x15 :: x16 :: x17 :: x18 :: x19 :: x20 :: x21 :: x22 :: x23 :: x24 :: x25 :: x26 :: x27 :: x28 :: x29 :: x30 :: x31 :: x32 :: x33 :: x34 :: x35 :: x36 :: x37 :: x38 :: x39 :: x40 :: x41 :: x42 :: x43 :: x44 :: x45 :: x46 :: x47 :: x48 :: x49 :: x50 :: x51 :: x52 :: x53 :: x54 :: x55 :: x56 :: x57 :: x58 :: x59 :: x60 :: x61 :: x62 :: x63 :: x64 :: x65 :: x66 :: x67 :: x68 :: x69 :: x70 :: x71 :: x72 :: x73 :: x74 :: x75 :: x76 :: x77 :: []), []⟩ wc := by
  have HK := Lib.hid hQ; have HKP := Lib.hid hQp
  clear hQ hQp
  conv => arg 2; whnf
  have HXW := Lib.hid hxw; have HNE := Lib.hid hne
  clear hxw hne
  have HXL : Hid (xs.length = n0) := Lib.hid (by have := HO.out.1; rw [List.length_map] at this; omega)
  have HO0 : Hid (wc.ownsRow B 5 1 (.slice (some ⟨gb, 0, none⟩) n0 c0) n0 (((xorAt m at' 0 xs)).map (Value.int .u8))) := Lib.hid (by rw [xorAt_zero]; exact HO.out)
  have HG0 : Hid (wc.grownBy wc (some gb)) := Lib.hid (grown_refl _ _)
  clear HO
  go_wp2_with fail
  go_loopw [13] (fun s wx => ∃ j : Nat, s = .int .i64 j ∧ j ≤ wn ∧ Hid (wx.ownsRow B 5 1 (.slice (some ⟨gb, 0, none⟩) n0 c0) n0 (((xorAt m at' j xs)).map (Value.int .u8))) ∧ Hid (wc.grownBy wx (some gb))) (fun s _ => wn - (intOf s).toNat)
  case atStart => exact ⟨0, rfl, by omega, HO0, HG0⟩
  case round =>
    clear HO0 HG0
    obtain ⟨j, rfl, hj, HO, HG⟩ := hrel
    by_cases hlt : j < wn
    · skip
      obtain ⟨gb', hgb, _, _, hz, hcs, _⟩ := own_set HO.out (Below.refl _ _) (i := at' + j) (by omega) (.int .u8 0) rfl
      injection hgb with hgb; injection hgb with hgb; subst hgb
      obtain ⟨b0, hb0⟩ : ∃ x, xs[at' + j]? = some x := ⟨_, List.getElem?_eq_getElem (by rw [HXL.out]; omega)⟩
      obtain ⟨m0, hm0⟩ : ∃ x, m.getD (1 + j) 0 = x := ⟨_, rfl⟩
      have hb0w := bdU8 (HXW.out b0 (List.mem_of_getElem? hb0)); have hm0w : 0 ≤ m0 ∧ m0 ≤ 255 := by rw [← hm0]; exact bdU8 (getD_wfB HIM.out.2.1 _)
      have hx0 : (xorAt m at' j xs)[at' + j]? = some b0 := by rw [xorAt_get, hb0]; simp only [Option.map_some]; rw [if_neg (by omega)]
      have c0' : wr.drew.cell? ⟨gb, at' + j, none⟩ = some (.int .u8 b0) := hcs _ _ (by rw [List.getElem?_map, hx0]; rfl)
      have z0 : wr.drew.frozen? ⟨gb, at' + j, none⟩ = false := hz
      have f1 : ∀ t : In (fun y => wr.grownBy y (some gb)), t.w.cell? ⟨mb, mo + (1 + j), none⟩ = some (.int .u8 m0) := fun t => by rw [← hm0]; exact ints_cell ((HIM.out.grown HG.out (fun x hx e => by injection hx with hx; subst hx; injection e with e; exact HNE.out e)).grown t.h (fun x hx e => by injection hx with hx; subst hx; injection e with e; exact HNE.out e)) (1 + j) (by omega)
      have HX0 : Hid (xorAt m at' (j + 1) xs = (xorAt m at' j xs).set (at' + j) (bits .xor .u8 b0 m0)) := Lib.hid (by rw [xorAt_succ, hm0, List.getD_eq_getElem?_getD, hb0]; rfl)
      have HSET := Lib.hid (fun u (hu : u.oneCell' = true) => own_put HO.out (i := at' + j) (by omega) u hu)
      have E1 : IntKind.i64.wrap ((at' : Int) + (j : Int)) = (at' : Int) + (j : Int) := IntWalk.i64_in _ (by omega)
      have E2 : ((at' : Int) + (j : Int)).toNat = at' + j := by omega
      have E3 : (0 : Int) ≤ (at' : Int) + (j : Int) := by omega
      have E4 : (at' : Int) + (j : Int) < (n0 : Int) := by omega
      have E5 : IntKind.i64.wrap (1 + (j : Int)) = 1 + (j : Int) := IntWalk.i64_in _ (by omega)
      have E6 : (1 + (j : Int)).toNat = 1 + j := by omega
      have E7 : (0 : Int) ≤ 1 + (j : Int) := by omega
      have E8 : 1 + (j : Int) < 5 := by omega
      clear hz hcs hb0 hm0 hx0
      go_upto_region 11 with fail
      refine wp_plan (.t 0 (.t 1 (.t 2 (.t 3 (.t 4 (.t 5 (.t 6 (.t 7 (.t 8 (.t 10 (.t 11 (.t 12 (.t 13 (.t 14 (.u 9 (.t 15 (.t 16 (.u 17 .done)))))))))))))))))) (fun y => wr.grownBy y (some gb)) (by kernel_rfl) (by kernel_rfl) (by kernel_rfl) (fun c a d v w h => by first | (cases d <;> exact h) | exact HKP.out c a d v w h) (grown_drew _ _) ?_
      have hS : Hid (wr.grownBy wr.drew (some gb)) := Lib.hid (grown_drew _ _)
      haveI hne2 : Nonempty (In (fun y => wr.grownBy y (some gb))) := ⟨⟨wr, grown_refl _ _⟩⟩
      have HSD : Hid (∀ u, (wr.drew.setCell ⟨gb, at' + j, none⟩ u) = (wr.setCell ⟨gb, at' + j, none⟩ u).drew) := Lib.hid fun u => rfl
      generalize hWd : wr.drew = W0 at c0' z0 hS HSD ⊢
      clear hWd
      repeat (refine plan_t (by rfl) ?_; (first | go_big_quiet_skip | (go_big_quiet_want; go_big_quiet_op; go_big_quiet_on)); refine wpQuiet_nil ?_)
      refine plan_us (by rfl) (by kernel_rfl) ?_
      intro K hK
      go_wp2_with fail
      refine ⟨hS.out, ?_⟩
      repeat (refine plan_t (by rfl) ?_; (first | go_big_quiet_skip | (go_big_quiet_want; go_big_quiet_op; go_big_quiet_on)); refine wpQuiet_nil ?_)
      refine plan_us (by rfl) (by kernel_rfl) ?_
      intro K hK
      go_wp2_with fail
      rw [HSD.out]
      have ho := HSET.out (.int .u8 (bits .xor .u8 b0 m0)) rfl
      have hg := grown_setCell wr gb (at' + j) (.int .u8 (bits .xor .u8 b0 m0))
      rw [← List.map_set, ← HX0.out] at ho
      refine ⟨grown_trans hg (grown_drew _ _), ?_⟩
      clear hne2 f1 E1 E2 E3 E4 E5 E6 E7 E8 c0' z0
      show Exit.inBlock _ _ _ _ _
      have HO2 := Lib.hid (own_below ho ((Below.refl _ _).drew))
      have HG2 := Lib.hid (grown_trans HG.out (grown_trans hg (grown_drew _ _)))
      clear ho hg HSD HSET
      generalize (wr.setCell ⟨gb, at' + j, none⟩ (.int .u8 (bits .xor .u8 b0 m0))).drew = w2 at HO2 HG2 ⊢
      go_wp2_with fail
      go_roundw
      case rel => exact ⟨j + 1, by go_num, by omega, HO2, HG2⟩
      case measure => simp [intOf]; omega
    · obtain rfl : j = wn := by omega
      go_wp2_with fail
      exact HK.out _ _ _ _ _ _ _ _ _ _ _ _ _ _ _ _ _ _ _ _ _ _ _ _ HO.out HG.out
theorem mskM_slice (km : Int) (b : List Int) (at' : Nat) : (bytesM (keyedM km ((b.take (at' + 12)).drop (at' + 4)))).take 5 = mskM km b at' := by
  unfold mskM
  rw [List.drop_take, show at' + 12 - (at' + 4) = 8 by omega]
/-- what the document's mask makes of a row. -/
def rmM (km : Int) (b : List Int) (at' wd : Nat) : List Int := xorAt (mskM km b at') at' (if wd = 0 then (x0M (mskM km b at') b % 4 + 1).toNat else wd) (b.set 0 (x0M (mskM km b at') b))
set_option maxRecDepth 100000 in
set_option maxHeartbeats 8000000 in
theorem rmask9_any (w : World) (ks km : Int) (a : Option Addr) (len cap : Nat) (b : List Int) (at' wd : Nat) (lg : Bool) (h12 : at' + 12 ≤ len) (hlc : len ≤ cap) (hcap : cap ≤ 9223372036854775807) (hlen : len ≤ 1000000) (hw4 : wd ≤ 4) (hlg : lg = decide (b.getD 0 0 / 128 % 2 = 1)) (hI : IntsK .u8 w a len b) :
    Calls Try.prog 41 #[.agg #[.int .u64 ks, .int .u64 km], .slice a len cap, .int .i64 at', .int .i64 wd, .bool lg] w fun e w' => ∃ g c, e = .returned (.slice (some ⟨g, 0, none⟩) len c) ∧ Below w.heap.size w w' ∧ w'.ownsRow w.heap.size 5 1 (.slice (some ⟨g, 0, none⟩) len c) len ((rmM km b at' wd).map (Value.int .u8)) := by
  have HI := Lib.hid hI
  have HBL := Lib.hid hI.1
  have HLG := Lib.hid hlg
  have HRM := Lib.hid (fun W (hb : Below w.heap.size w W) => rmask_any W km (a.map (·.add (at' + 4))) 8 (cap - (at' + 4)) ((b.take (at' + 12)).drop (at' + 4)) (by omega) (by have := slice_ints (hI.below hb) (at' + 4) (at' + 12) (by omega) h12; rw [show at' + 12 - (at' + 4) = 8 by omega] at this; exact this))
  have HMS := Lib.hid (mskM_slice km b at')
  obtain ⟨RM, hRM⟩ : ∃ R, rmM km b at' wd = R := ⟨_, rfl⟩
  rw [hRM]
  have HRM2 := Lib.hid hRM
  clear hI hlg hRM
  go_enter Try.func41, Try.ntmps41
  go_upto_region 1 with fail
  change Code.wp _ _ _ _ (w.alloc (.cells ([.int .u64 ks, .int .u64 km] : List Value).toArray 49))
  have HB := Lib.hid (Below.refl w.heap.size w)
  obtain ⟨gk, hg0⟩ : ∃ g, w.heap.size = g := ⟨_, rfl⟩
  try rw [hg0]
  have hb := (Below.refl w.heap.size w).alloc (Nat.le_refl _) (.cells ([.int .u64 ks, .int .u64 km] : List Value).toArray 49)
  have hrw := heap_alloc_new w (.cells ([.int .u64 ks, .int .u64 km] : List Value).toArray 49)
  have hsz : (w.alloc (.cells ([.int .u64 ks, .int .u64 km] : List Value).toArray 49)).heap.size = gk + 1 := by simp [hg0]
  rw [hg0] at hrw
  replace HB := Lib.hid (bl_next HB.out HB.out.size hb)
  have HGK := Lib.hid hrw
  clear hb hrw
  generalize w.alloc (.cells ([.int .u64 ks, .int .u64 km] : List Value).toArray 49) = w1 at HB HGK hsz ⊢
  have hg1 := hsz
  clear hsz
  have HG0 := Lib.hid hg0
  clear hg0
  clear hg1
  have f0 : ∀ t : In (fun y => Below w1.heap.size w1 y), t.w.cell? ⟨gk, 1, none⟩ = some (.int .u64 km) := fun t => cell_row (bl_row t.h (lt_of_block HGK.out) HGK.out) 1 _ rfl
  have E1 : IntKind.i64.wrap ((at' : Int) + 4) = (at' : Int) + 4 := IntWalk.i64_in _ (by omega)
  have E2 : IntKind.i64.wrap ((at' : Int) + 12) = (at' : Int) + 12 := IntWalk.i64_in _ (by omega)
  have E3 : ((at' : Int) + 4).toNat = at' + 4 := by omega
  have E4 : ((at' : Int) + 12).toNat = at' + 12 := by omega
  have E5 : (0 : Int) ≤ (at' : Int) + 4 := by omega
  have E6 : (at' : Int) + 4 ≤ (at' : Int) + 12 := by omega
  have E7 : (at' : Int) + 12 ≤ (cap : Int) := by omega
  have E8 : cap ≠ at' + 4 := by omega
  have E9 : at' + 12 - (at' + 4) = 8 := by omega
  refine wp_plan (.t 0 (.t 1 (.t 2 (.t 3 (.t 4 (.t 5 (.t 6 (.t 7 (.u 8 (.t 9 .done)))))))))) (fun y => Below w1.heap.size w1 y) (by kernel_rfl) (by kernel_rfl) (by kernel_rfl) (fun c a d v w h => by first | (cases d <;> exact h) | exact HKP.out c a d v w h) (Below.refl _ _).drew ?_
  haveI hne2 : Nonempty (In (fun y => Below w1.heap.size w1 y)) := ⟨⟨w1, Below.refl _ _⟩⟩
  have hS : Hid (Below w1.heap.size w1 w1.drew) := Lib.hid (Below.refl _ _).drew
  generalize w1.drew = W0 at hS ⊢
  repeat (refine plan_t (by rfl) ?_; (first | go_big_quiet_skip | (go_big_quiet_want; go_big_quiet_op; go_big_quiet_on)); refine wpQuiet_nil ?_)
  refine plan_us (by rfl) (by kernel_rfl) ?_
  intro K hK
  go_wp2_with fail
  refine Calls.mono (HRM.out _ (bl_next HB.out HB.out.size hS.out)) ?_
  rintro e w2 ⟨ma, rfl, hb, hmi⟩
  rw [HMS.out] at hmi
  have HMI := Lib.hid hmi
  replace hS := Lib.hid (bl_next hS.out hS.out.size hb)
  clear hb hmi
  go_wp2_with fail
  refine ⟨hS.out, ?_⟩
  repeat (refine plan_t (by rfl) ?_; (first | go_big_quiet_skip | (go_big_quiet_want; go_big_quiet_op; go_big_quiet_on)); refine wpQuiet_nil ?_)
  clear hne2 f0 E1 E2 E3 E4 E5 E6 E7 E8 E9
  show Exit.then _ _ _ _ _
  clear HGK
  replace HB := Lib.hid (bl_next HB.out HB.out.size hS.out)
  clear hS HRM HMS
  have HIB := Lib.hid (HI.out.below HB.out)
  have HBS := Lib.hid HB.out.size
  obtain ⟨mb, mo, rfl, hmb⟩ : ∃ mb mo, ma = some ⟨mb, mo, none⟩ ∧ mb < w2.heap.size := by
    rcases HMI.out.2.2 with h0 | ⟨x, y, e, hx, _⟩
    · omega
    · exact ⟨x, y, e, hx⟩
  go_upto_region 3 with (first | (at_builtin; refine wpList_append_bytes rfl _ _ rfl w2.heap.size 0 (.slice (some ⟨w2.heap.size, 0, none⟩) 0 0) [] rfl (World.ownsRow_made _ _ _ (Nat.le_refl _) (by unfold maxLen; omega) (by rfl)) _ _ _ _ rfl (HIB.out.below ((Below.refl _ _).alloc (Nat.le_refl _) _)) (by omega) (by simp) ?_; intro v wa hown hgrow; rw [Nat.zero_add, List.nil_append] at hown; obtain ⟨bv, cv, rfl, _⟩ := own_slice hown; have HO := Lib.hid hown; have HL := Lib.hid (((Below.refl w2.heap.size w2).alloc (Nat.le_refl _) _).grown hgrow (by simp) (by intro k hk; simp [Value.ownBlock] at hk; omega)); clear hown hgrow) | fail)
  obtain ⟨gb, rfl, hgb1, hgb2, _⟩ := own_set HO.out (Below.refl _ _) (i := 0) (by omega) (.int .u8 0) rfl
  have HNE : Hid (mb ≠ gb ∧ w.heap.size ≤ gb) := Lib.hid (by have := HBS.out; omega)
  replace HO := Lib.hid (own_mono HO.out HBS.out)
  have HMI2 := Lib.hid (HMI.out.below HL.out)
  replace HB := Lib.hid (bl_next HB.out HB.out.size HL.out)
  clear HL HMI hgb1 hgb2 hmb HIB
  have HBW := Lib.hid HI.out.2.1
  generalize hm : mskM km b at' = m at HMI2
  have HRM3 : Hid (RM = xorAt m at' (if wd = 0 then (x0M m b % 4 + 1).toNat else wd) (b.set 0 (x0M m b))) := Lib.hid (by rw [← HRM2.out, ← hm]; rfl)
  clear hm
  cases lg with
  | false =>
    have hh : hidM (b.getD 0 0) = 31 := by
      have := of_decide_eq_false HLG.out.symm
      unfold hidM; rw [if_neg this]
    go_upto_region 5 with fail
    refine rm_first5 _ (by omega) HNE.out.1 hh HBW.out HMI2 HO (fun c a d v w h => by first | (cases d <;> exact h) | exact HKP.out c a d v w h) ?_
    rintro _ _ _ _ _ _ _ _ _ _ wb ho1 hg1
    have HB1 := Lib.hid (HB.out.grown hg1 HB.out.size (by intro k hk; injection hk with hk; subst hk; exact HNE.out.2))
    have HM1 := Lib.hid (HMI2.out.grown hg1 (fun x hx e => by injection hx with hx; subst hx; injection e with e; exact HNE.out.1 e))
    have HO1 := Lib.hid ho1
    clear ho1 hg1 hh HO HB HMI2 HLG
    have hxb : 0 ≤ x0M m b ∧ x0M m b ≤ 255 := by unfold x0M; exact bdU8 (wf_bits _ _ _ _)
    have HXW : Hid (∀ x ∈ b.set 0 (x0M m b), (Lit.int .u8 x).wf = true) := Lib.hid (set_wf HBW.out 0 _ (by unfold x0M; exact wf_bits _ _ _ _))
    have HC0 : Hid (wb.cell? ⟨gb, 0, none⟩ = some (.int .u8 (x0M m b))) := Lib.hid (by
      obtain ⟨_, hg2, _, _, _, hcs2, _⟩ := own_set HO1.out (Below.refl _ _) (i := 0) (by omega) (.int .u8 0) rfl
      injection hg2 with hg2; injection hg2 with hg2; subst hg2
      exact hcs2 0 _ (by rw [List.getElem?_map, List.getElem?_set_self (by rw [HBL.out]; omega)]; rfl))
    generalize x0M m b = x0 at hxb HXW HO1 HC0 HRM3
    by_cases hwd : wd = 0
    · skip
      rw [if_pos hwd] at HRM3
      subst hwd
      have c0 := HC0.out
      have ha3 := (and_hid x0 hxb).2.2.2.2.1
      obtain ⟨wn, hwn⟩ : ∃ wn : Nat, x0 % 4 + 1 = (wn : Int) := ⟨(x0 % 4 + 1).toNat, by omega⟩
      have hwn4 : wn ≤ 4 := by omega
      rw [hwn, Int.toNat_natCast] at HRM3
      have HWN := Lib.hid hwn
      clear hwn
      go_upto_block 0 with fail
      rw [HWN.out]
      clear c0 ha3
      refine rm_loop _ (by omega) (by omega) hwn4 HNE.out.1 HXW.out HM1 HO1 (fun c a d v w h => by first | (cases d <;> exact h) | exact HKP.out c a d v w h) ?_
      rintro _ _ _ _ _ _ _ _ _ _ _ _ _ _ _ _ _ _ _ _ _ _ _ wc ho2 hg2
      rw [← HRM3.out] at ho2
      have HO2 := Lib.hid ho2
      have HB2 := Lib.hid (HB1.out.grown hg2 HB1.out.size (by intro k hk; injection hk with hk; subst hk; exact HNE.out.2))
      clear ho2 hg2
      go_wp2_with fail
      go_ret
      exact ⟨gb, _, rfl, HB2.out, HO2.out⟩
    · skip
      rw [if_neg hwd] at HRM3
      have hwd2 : ¬ ((wd : Int) = 0) := by omega
      clear hwd
      have hwn4 : wd ≤ 4 := hw4
      go_upto_block 0 with fail
      refine rm_loop _ (by omega) (by omega) hwn4 HNE.out.1 HXW.out HM1 HO1 (fun c a d v w h => by first | (cases d <;> exact h) | exact HKP.out c a d v w h) ?_
      rintro _ _ _ _ _ _ _ _ _ _ _ _ _ _ _ _ _ _ _ _ _ _ _ wc ho2 hg2
      rw [← HRM3.out] at ho2
      have HO2 := Lib.hid ho2
      have HB2 := Lib.hid (HB1.out.grown hg2 HB1.out.size (by intro k hk; injection hk with hk; subst hk; exact HNE.out.2))
      clear ho2 hg2
      go_wp2_with fail
      go_ret
      exact ⟨gb, _, rfl, HB2.out, HO2.out⟩
  | true =>
    have hh : hidM (b.getD 0 0) = 15 := by
      have := of_decide_eq_true HLG.out.symm
      unfold hidM; rw [if_pos this]
    go_upto_region 4 with fail
    refine rm_first4 _ (by omega) HNE.out.1 hh HBW.out HMI2 HO (fun c a d v w h => by first | (cases d <;> exact h) | exact HKP.out c a d v w h) ?_
    rintro _ _ _ _ _ _ _ _ _ _ wb ho1 hg1
    have HB1 := Lib.hid (HB.out.grown hg1 HB.out.size (by intro k hk; injection hk with hk; subst hk; exact HNE.out.2))
    have HM1 := Lib.hid (HMI2.out.grown hg1 (fun x hx e => by injection hx with hx; subst hx; injection e with e; exact HNE.out.1 e))
    have HO1 := Lib.hid ho1
    clear ho1 hg1 hh HO HB HMI2 HLG
    have hxb : 0 ≤ x0M m b ∧ x0M m b ≤ 255 := by unfold x0M; exact bdU8 (wf_bits _ _ _ _)
    have HXW : Hid (∀ x ∈ b.set 0 (x0M m b), (Lit.int .u8 x).wf = true) := Lib.hid (set_wf HBW.out 0 _ (by unfold x0M; exact wf_bits _ _ _ _))
    have HC0 : Hid (wb.cell? ⟨gb, 0, none⟩ = some (.int .u8 (x0M m b))) := Lib.hid (by
      obtain ⟨_, hg2, _, _, _, hcs2, _⟩ := own_set HO1.out (Below.refl _ _) (i := 0) (by omega) (.int .u8 0) rfl
      injection hg2 with hg2; injection hg2 with hg2; subst hg2
      exact hcs2 0 _ (by rw [List.getElem?_map, List.getElem?_set_self (by rw [HBL.out]; omega)]; rfl))
    generalize x0M m b = x0 at hxb HXW HO1 HC0 HRM3
    by_cases hwd : wd = 0
    · skip
      rw [if_pos hwd] at HRM3
      subst hwd
      have c0 := HC0.out
      have ha3 := (and_hid x0 hxb).2.2.2.2.1
      obtain ⟨wn, hwn⟩ : ∃ wn : Nat, x0 % 4 + 1 = (wn : Int) := ⟨(x0 % 4 + 1).toNat, by omega⟩
      have hwn4 : wn ≤ 4 := by omega
      rw [hwn, Int.toNat_natCast] at HRM3
      have HWN := Lib.hid hwn
      clear hwn
      go_upto_block 0 with fail
      rw [HWN.out]
      clear c0 ha3
      refine rm_loop _ (by omega) (by omega) hwn4 HNE.out.1 HXW.out HM1 HO1 (fun c a d v w h => by first | (cases d <;> exact h) | exact HKP.out c a d v w h) ?_
      rintro _ _ _ _ _ _ _ _ _ _ _ _ _ _ _ _ _ _ _ _ _ _ _ wc ho2 hg2
      rw [← HRM3.out] at ho2
      have HO2 := Lib.hid ho2
      have HB2 := Lib.hid (HB1.out.grown hg2 HB1.out.size (by intro k hk; injection hk with hk; subst hk; exact HNE.out.2))
      clear ho2 hg2
      go_wp2_with fail
      go_ret
      exact ⟨gb, _, rfl, HB2.out, HO2.out⟩
    · skip
      rw [if_neg hwd] at HRM3
      have hwd2 : ¬ ((wd : Int) = 0) := by omega
      clear hwd
      have hwn4 : wd ≤ 4 := hw4
      go_upto_block 0 with fail
      refine rm_loop _ (by omega) (by omega) hwn4 HNE.out.1 HXW.out HM1 HO1 (fun c a d v w h => by first | (cases d <;> exact h) | exact HKP.out c a d v w h) ?_
      rintro _ _ _ _ _ _ _ _ _ _ _ _ _ _ _ _ _ _ _ _ _ _ _ wc ho2 hg2
      rw [← HRM3.out] at ho2
      have HO2 := Lib.hid ho2
      have HB2 := Lib.hid (HB1.out.grown hg2 HB1.out.size (by intro k hk; injection hk with hk; subst hk; exact HNE.out.2))
      clear ho2 hg2
      go_wp2_with fail
      go_ret
      exact ⟨gb, _, rfl, HB2.out, HO2.out⟩
end Go.Proofs.Ythofbckkjcidmaa
