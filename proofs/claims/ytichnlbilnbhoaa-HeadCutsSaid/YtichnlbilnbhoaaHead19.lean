/- heads: HeadCuts, any input; the walk of HeadTells. -/
import Derived.Test.YtichnlbilnbhoaaHead18
namespace Go.Proofs.Ytichnlbilnbhoaa
open Go.RowKit
set_option linter.unusedVariables false

theorem andnot64 (f : Int) (h : 0 ≤ f ∧ f ≤ 255) : bits .andNot .u8 f 64 / 64 % 2 = 0 := by
  have h2 : ∀ k : Fin 256, bits .andNot .u8 ((k.val : Nat) : Int) 64 / 64 % 2 = 0 := by decide +kernel
  have h3 := h2 ⟨f.toNat, by omega⟩
  simp only [Int.toNat_of_nonneg h.1] at h3
  exact h3
theorem or128 (f : Int) (h : 0 ≤ f ∧ f ≤ 255) : 128 ≤ bits .or .u8 f 128 := by
  have h2 : ∀ k : Fin 256, 128 ≤ bits .or .u8 ((k.val : Nat) : Int) 128 := by decide +kernel
  have h3 := h2 ⟨f.toNat, by omega⟩
  simp only [Int.toNat_of_nonneg h.1] at h3
  exact h3
theorem set_wf {xs : List Int} (h : ∀ x ∈ xs, (Lit.int .u8 x).wf = true) (i : Nat) (y : Int) (hy : (Lit.int .u8 y).wf = true) : ∀ x ∈ xs.set i y, (Lit.int .u8 x).wf = true := by
  intro x hx
  rcases List.mem_or_eq_of_mem_set hx with h' | h'
  · exact h x h'
  · rw [h']; exact hy
theorem zeros_wf {xs : List Int} (h : ∀ x ∈ xs, (Lit.int .u8 x).wf = true) (k : Nat) : ∀ x ∈ xs ++ List.replicate k 0, (Lit.int .u8 x).wf = true := by
  intro x hx
  rw [List.mem_append] at hx
  rcases hx with hx | hx
  · exact h x hx
  · rw [(List.mem_replicate.1 hx).2]; decide
/-- what HeadCuts asks of a head that is none of Data. -/
structure CutFacts (h : Hd) (k j : Nat) (v e0 : Int) (es : List Int) : Prop where
  len : 6 ≤ es.length ∧ es.length ≤ 1000
  c0 : (es ++ List.replicate k 0)[0]? = some e0
  c4 : (es ++ List.replicate k 0)[4]? = some 1
  wf : ∀ x ∈ es ++ List.replicate k 0, (Lit.int .u8 x).wf = true
  pj : parM ((es ++ List.replicate k 0).take j) = none
  py : parM ((es ++ List.replicate k 0).set 0 (bits .andNot .u8 e0 64)) = none
  pz : parM ((es ++ List.replicate k 0).set 4 (bits .or .u8 ((1 + v) % 256) 128)) = none
theorem cutFacts (h : Hd) (hok : h.ok) (hr : hrightP h) (hs : h.s ≠ 2) (hl : h.k.length ≤ 900) (k j : Nat) (hk : 12 ≤ k ∧ k ≤ 100) (hj : j < (encH h k).length + k) (v : Int) (hv : 0 ≤ v ∧ v ≤ 255) :
    CutFacts h k j v (firstM h) (encH h k) := by
  have hw1 := hr.1; have hw4 := hr.2.1
  have hs01 : h.s = 0 ∨ h.s = 1 := by
    rcases hr.2.2 with ⟨h1, _⟩ | ⟨h1, _⟩ | ⟨h1, _⟩
    · exact .inl h1
    · exact .inr h1
    · exact absurd h1 hs
  have hf : firstM h = 191 + h.w + 16 * h.s := by unfold firstM; rw [if_neg hs]
  have he : encH h k = [firstM h, 0, 0, 0, 1, 8] ++ (h.t ++ ([8] ++ (h.f ++ ((if h.s = 0 then putM h.k.length ++ h.k else []) ++ [(16384 + (k : Int)) / 256, (16384 + (k : Int)) % 256])))) := by unfold encH; rw [if_neg hs]
  have hfb : 0 ≤ firstM h ∧ firstM h ≤ 255 := by rw [hf]; omega
  refine ⟨⟨by rw [he, List.length_append]; simp, by rw [encH_len]; exact encH_le h hok hl⟩, by rw [he]; rfl, by rw [he]; rfl, zeros_wf (encH_wf h hok hr k (by omega)) k, par_cut h hok hr hs k (by omega) (by omega) j hj, ?_, ?_⟩
  · rw [he]
    exact par_first _ _ (andnot64 _ hfb)
  · rw [he]
    refine par_version (firstM h) 0 0 0 _ _ (by rw [hf]; omega) ?_
    have := or128 ((1 + v) % 256) (by omega)
    omega

set_option maxHeartbeats 2000000 in
theorem cuts5_any (w : World) (q : HX) (n cut v : Int) (hq : q.ok w) (hn : -9223372036854775808 ≤ n ∧ n ≤ 9223372036854775807) (hcut : -9223372036854775808 ≤ cut ∧ cut ≤ 9223372036854775807) (hv : 0 ≤ v ∧ v ≤ 255) :
    Makes Try.prog 5 #[q.val, .int .i64 n, .int .i64 cut, .int .u8 v] w (.bool true) := by
  have hwi := within_in n 12 100 (by omega)
  have hwa := fun w => within_any w n 12 100 (by omega) (by omega) (by omega) hn
  obtain ⟨k, ek⟩ : ∃ k : Nat, within n 12 100 = k := ⟨(within n 12 100).toNat, by omega⟩
  rw [ek] at hwi hwa
  have hok := keepH_ok q.s q.t q.f q.w q.k q.p hq.ints.2.1
  have hri := keepH_right q.s q.t q.f q.w q.k q.p
  have hkl := keepH_k q.s q.t q.f q.w q.k q.p
  have hkh := fun w1 (hb : Below w.heap.size w w1) => khead_any w1 q.s q.t q.f q.w q.a q.tl q.tc q.k q.p hq.le hq.max (hq.ints.below hb) hq.bs hq.bt hq.bf hq.bw
  generalize keepH q.s q.t q.f q.w q.k q.p = h at hok hri hkl hkh
  have hrp := (hrightM_eq h).1 hri
  have hw4 : h.w ≤ 4 := hrp.2.1
  have hKH : ∀ w1, Below w.heap.size w w1 → Calls Try.prog 6 #[.agg q.row.toArray] w1 fun e w' => Below w1.heap.size w1 w' ∧ ∃ b tc, e = .returned (.agg (h.row b tc).toArray) ∧ IntsK .u8 w' b h.k.length h.k := fun w1 hb => (hkh w1 hb).mono fun e w' ⟨b, he, hb, hi⟩ => ⟨hb, b, _, he, hi⟩
  -- the head that is written
  obtain ⟨g, hgok, hgr, hgs, hgk, hgeq⟩ : ∃ g : Hd, g.ok ∧ hrightM g = true ∧ g.s ≠ 2 ∧ g.k.length ≤ 32 ∧ g = (if h.s = 2 then ⟨1, h.t, z8, [], h.w, false⟩ else h) := by
    by_cases h2 : h.s = 2
    · rw [if_pos h2]
      exact ⟨⟨1, h.t, z8, [], h.w, false⟩, ⟨(by decide : (Lit.int .i64 1).wf = true), hok.ww, hok.lt, rfl, hok.wt, (by decide : ∀ x ∈ z8, (Lit.int .u8 x).wf = true), by simp⟩, (hrightM_eq _).2 ⟨hrp.1, hrp.2.1, .inr (.inl ⟨rfl, rfl, rfl⟩)⟩, (by decide : (1 : Int) ≠ 2), by simp, rfl⟩
    · rw [if_neg h2]
      exact ⟨h, hok, hri, h2, hkl, rfl⟩
  have hgp := (hrightM_eq g).1 hgr
  have hL1 := encH_len g k
  have hL2 := encH_le g hgok (by omega)
  have hwj := within_in cut 0 (((encH g k).length : Int) + k - 1) (by omega)
  have hwb := fun w => within_any w cut 0 (((encH g k).length : Int) + k - 1) (by omega) (by omega) (by omega) hcut
  obtain ⟨j, ej⟩ : ∃ j : Nat, within cut 0 (((encH g k).length : Int) + k - 1) = j := ⟨(within cut 0 (((encH g k).length : Int) + k - 1)).toNat, by omega⟩
  rw [ej] at hwj hwb
  have F := cutFacts g hgok hgp hgs (by omega) k j (by omega) (by omega) v hv
  have hlen : ((encH g k) ++ List.replicate k 0).length = (encH g k).length + k := by simp
  have hYW := set_wf F.wf 0 (bits .andNot .u8 (firstM g) 64) (wf_bits _ _ _ _)
  have hZW := set_wf F.wf 4 (bits .or .u8 ((1 + v) % 256) 128) (wf_bits _ _ _ _)
  have hpj := fun w1 a cap (hI : IntsK .u8 w1 a j (((encH g k) ++ List.replicate k 0).take j)) => parse_none w1 a j cap _ (by omega) hI F.pj
  have hpy := fun w1 a cap (hI : IntsK .u8 w1 a ((encH g k).length + k) (((encH g k) ++ List.replicate k 0).set 0 (bits .andNot .u8 (firstM g) 64))) => parse_none w1 a _ cap _ (by omega) hI F.py
  have hpz := fun w1 a cap (hI : IntsK .u8 w1 a ((encH g k).length + k) (((encH g k) ++ List.replicate k 0).set 4 (bits .or .u8 ((1 + v) % 256) 128))) => parse_none w1 a _ cap _ (by omega) hI F.pz
  have hen := fun w1 b tc (hI : IntsK .u8 w1 b g.k.length g.k) => hencode_ok w1 g b tc k hgok (by omega) hgr ⟨by have := hgp.2.1; omega, by omega⟩ hI
  by_cases h2 : h.s = 2
  · rw [if_pos h2] at hgeq
    have hro := fun a tc => row_cid h a tc hok.lt
    have hlt := hok.lt
    generalize ht : h.t = t at hro hlt hgeq
    obtain ⟨t0, t1, t2, t3, t4, t5, t6, t7, rfl⟩ := len8 hlt
    subst hgeq
    exact cuts5_core2 w q.row n cut v h h.s k _ h.k.length j _ h.k _ t0 t1 t2 t3 t4 t5 t6 t7 h.w
      (Lib.hid fun a tc => ⟨row_len h a tc hok.lt hok.lf, row_one h a tc, by rw [row_0, h2], hro a tc, (row_17 h a tc hok.lt hok.lf).2⟩)
      (Lib.hid fun w1 => (hen w1 none 0 (IntsK.nil _ _ _)).mono fun e w' ⟨hb, a', cap', he, _, _, hi⟩ => ⟨hb, a', cap', he, hi⟩)
      (Lib.hid rfl) F.len (by omega) (by omega) (Lib.hid F.c0) (Lib.hid F.c4) (Lib.hid F.wf) (Lib.hid hYW) (Lib.hid hZW) (Lib.hid hKH) (Lib.hid hwa) (Lib.hid hwb) rowZ (Lib.hid rfl) (Lib.hid rowZ_one) (Lib.hid hpj) (Lib.hid hpy) (Lib.hid hpz) (Lib.hid known5_any)
  · rw [if_neg h2] at hgeq
    subst hgeq
    exact cuts5_core w q.row n cut v g g.s k _ g.k.length j _ g.k _
      (Lib.hid fun a tc => ⟨row_len g a tc hok.lt hok.lf, row_one g a tc, row_0 g a tc⟩) (by simpa using h2)
      (Lib.hid fun w1 b tc hI => (hen w1 b tc hI).mono fun e w' ⟨hb, a', cap', he, _, _, hi⟩ => ⟨hb, a', cap', he, hi⟩)
      (Lib.hid rfl) F.len (by omega) (by omega) (Lib.hid F.c0) (Lib.hid F.c4) (Lib.hid F.wf) (Lib.hid hYW) (Lib.hid hZW) (Lib.hid hKH) (Lib.hid hwa) (Lib.hid hwb) rowZ (Lib.hid rfl) (Lib.hid rowZ_one) (Lib.hid hpj) (Lib.hid hpy) (Lib.hid hpz) (Lib.hid known5_any)

theorem own_capm {w : World} {base e n size : Nat} {v : Value} {xs : List Value} (h : w.ownsRow base e size v n xs) : ∀ b l c, v = .slice b l c → c ≤ 9223372036854775807 := by
  intro b l c hv
  rcases h.2 with ⟨h1, _⟩ | ⟨g, cap, cur, h1, hg, hrow, hn, hc, hsz, htk⟩
  · rw [h1] at hv; injection hv with h1 h2 h3; omega
  · rw [h1] at hv; injection hv with h1 h2 h3; subst h3; unfold maxLen at hc; omega

/-- a cell that holds something else is set: the integers stay. -/
theorem IntsK.setOther {k : IntKind} {w : World} {a : Option Addr} {len : Nat} {zs : List Int} (h : IntsK k w a len zs) {p : Addr} {x : Value} (hp : w.cell? p = some x) (hx : ∀ n, x ≠ .int k n) (u : Value) : IntsK k (w.setCell p u) a len zs := by
  refine ⟨h.1, h.2.1, ?_⟩
  rcases h.2.2 with h0 | ⟨b, off, ha, hb, hc⟩
  · exact .inl h0
  · refine .inr ⟨b, off, ha, by simpa using hb, fun i hi => ?_⟩
    rw [World.cell?_setCell_other]
    · exact hc i hi
    · intro e
      rw [e, hc i hi] at hp
      injection hp with hp
      exact hx _ hp.symm
set_option maxRecDepth 100000 in
set_option maxHeartbeats 8000000 in
theorem tells5_core (w : World) (X R : List Value) (n att turn : Int) (ra ba : Option Addr) (rl rc rq bl bc bq : Nat) (rs bb : List Int) (h : Hd) (k L kl j : Nat) (es ks : List Int) (xj : Int)
    (HHk : Hid (∀ a tc, (h.row a tc).length = 20 ∧ (∀ v ∈ h.row a tc, v.oneCell' = true)))
    (HXL : Hid (X.length = 6)) (HRL : Hid (R.length = 20)) (HRC : Hid (R[17]? = some (.slice ra rl rc)))
    (hL : 1 ≤ L ∧ L ≤ 1000) (hk : 4 ≤ k ∧ k ≤ 300) (hj : j < L + k) (HXJ : Hid ((es ++ List.replicate k 0)[j]? = some xj))
    (HYW : Hid (∀ x ∈ (es ++ List.replicate k 0).set j (bits .xor .u8 xj turn), (Lit.int .u8 x).wf = true))
    (HRI : Hid (IntsK .u8 w ra rq rs)) (HBI : Hid (IntsK .u8 w ba bq bb))
    (HKH : Hid (∀ w1, Below w.heap.size w w1 → Calls Try.prog 6 #[.agg X.toArray] w1 fun e w' => Below w1.heap.size w1 w' ∧ ∃ b tc, e = .returned (.agg (h.row b tc).toArray) ∧ IntsK .u8 w' b kl ks))
    (HC1 : Hid (∀ w1, Calls Try.prog 7 #[.slice ra rl rc, .int .i64 40] w1 fun e w' => e = .returned (.slice ra rq rc) ∧ w1 = w'))
    (HC2 : Hid (∀ w1, Calls Try.prog 7 #[.slice ba bl bc, .int .i64 80] w1 fun e w' => e = .returned (.slice ba bq bc) ∧ w1 = w'))
    (HWI : Hid (∀ w1, Calls Try.prog 8 #[.int .i64 n, .int .i64 4, .int .i64 300] w1 fun e w' => e = .returned (.int .i64 k) ∧ w1 = w'))
    (HWJ : Hid (∀ w1, Calls Try.prog 8 #[.int .i64 att, .int .i64 0, .int .i64 ((L : Int) + k - 1)] w1 fun e w' => e = .returned (.int .i64 j) ∧ w1 = w'))
    (HRE : Hid (∀ w1 b tc, IntsK .u8 w1 b kl ks → Calls Try.prog 9 #[.agg (h.row b tc).toArray, .int .i64 k] w1 fun e w' => ∃ v, e = .returned v ∧ Below w1.heap.size w1 w' ∧ w'.ownsRow w1.heap.size 5 1 v L (es.map (Value.int .u8))))
    (HEH : Hid (∀ w1 b tc, IntsK .u8 w1 b kl ks → Makes Try.prog 10 #[.agg (h.row b tc).toArray, .int .i64 n] w1 (.bool true)))
    (HE1 : Hid (∀ w1, IntsK .u8 w1 ra rq rs → Makes Try.prog 10 #[.agg (R.set 17 (.slice ra rq rc)).toArray, .int .i64 n] w1 (.bool true)))
    (HE2 : Hid (∀ w1, IntsK .u8 w1 ra rq rs → Makes Try.prog 10 #[.agg (R.set 17 (.slice ra rq rc)).toArray, .int .i64 k] w1 (.bool true)))
    (HPY : Hid (∀ w1 a cap, L + k ≤ cap → cap ≤ 9223372036854775807 → IntsK .u8 w1 a (L + k) ((es ++ List.replicate k 0).set j (bits .xor .u8 xj turn)) → Makes Try.prog 11 #[.slice a (L + k) cap] w1 (.bool true)))
    (HPB : Hid (∀ w1, IntsK .u8 w1 ba bq bb → Makes Try.prog 11 #[.slice ba bq bc] w1 (.bool true)))
    (HKN : Hid (∀ w1, Makes Try.prog 12 #[] w1 (.bool true))) :
    Makes Try.prog 3 #[.agg X.toArray, .agg R.toArray, .int .i64 n, .slice ba bl bc, .int .i64 att, .int .u8 turn] w (.bool true) := by
  have HB := Lib.hid (Below.refl w.heap.size w)
  go_enter Try.func3, Try.ntmps3
  go_upto_region 1 with fail
  have hb := (Below.refl w.heap.size w).alloc (Nat.le_refl _) (.cells X.toArray 24)
  replace HB := Lib.hid (bl_next HB.out HB.out.size hb)
  replace HRI := Lib.hid (HRI.out.below hb)
  replace HBI := Lib.hid (HBI.out.below hb)
  have HG0 := Lib.hid (heap_alloc_new w (.cells X.toArray 24))
  clear hb
  have hsz : (w.alloc (.cells X.toArray 24)).heap.size = w.heap.size + 1 := by simp
  generalize w.alloc (.cells X.toArray 24) = wx at HB HRI HBI HG0 hsz ⊢
  have HGE := Lib.hid HB.out.size
  have hb := (Below.refl wx.heap.size wx).alloc (Nat.le_refl _) (.cells R.toArray 28)
  replace HB := Lib.hid (bl_next HB.out HB.out.size hb)
  replace HRI := Lib.hid (HRI.out.below hb)
  replace HBI := Lib.hid (HBI.out.below hb)
  replace HG0 := Lib.hid (bl_row hb (lt_of_block HG0.out) HG0.out)
  have HG1 := Lib.hid (heap_alloc_new wx (.cells R.toArray 28))
  generalize wx.alloc (.cells R.toArray 28) = wy at HB HRI HBI HG0 HG1 hb ⊢
  rw [hsz] at HG1 HGE
  clear hsz hb
  obtain ⟨g1, hg⟩ : ∃ g, w.heap.size + 1 = g := ⟨_, rfl⟩
  rw [hg] at HG1 HGE ⊢
  clear hg
  obtain ⟨g0, hg⟩ : ∃ g, w.heap.size = g := ⟨_, rfl⟩
  rw [hg] at HG0 ⊢
  have HG := Lib.hid hg
  clear hg
  go_wp2_with (first | (refine wpList_load_mid rfl 24 _ rfl g0 0 rfl X _ (rngL HG0.out) Try.underlying24 rfl (by rw [HXL.out]; rfl) ?_) | fail)
  refine Calls.mono (HKH.out _ HB.out) ?_
  rintro e w1 ⟨hb, b1, tc1, rfl, hi1⟩
  replace HB := Lib.hid (bl_next HB.out HB.out.size hb)
  replace HRI := Lib.hid (HRI.out.below hb)
  replace HBI := Lib.hid (HBI.out.below hb)
  replace HG0 := Lib.hid (bl_row hb (lt_of_block HG0.out) HG0.out)
  replace HG1 := Lib.hid (bl_row hb (lt_of_block HG1.out) HG1.out)
  clear hb
  have HI1 := Lib.hid (hi1)
  clear hi1
  have HRE1 := Lib.hid (fun w1 => HRE.out w1 b1 tc1)
  have HEH1 := Lib.hid (fun w1 => HEH.out w1 b1 tc1)
  have HL2 := Lib.hid ((HHk.out b1 tc1).1); have HO2 := Lib.hid ((HHk.out b1 tc1).2)
  obtain ⟨R2, hR2⟩ : ∃ R, h.row b1 tc1 = R := ⟨_, rfl⟩
  rw [hR2] at HL2 HO2 HRE1 HEH1 ⊢
  clear hR2
  clear HHk HKH HG0 HRE HEH
  have HNE := Lib.hid (lt_of_block HG1.out)
  go_upto_region 2 with (first | (refine wpList_store_row rfl 28 _ _ rfl _ rfl R2 rowZ rfl 28 (heap_alloc_new _ _) (by rw [HL2.out]; rfl) (by rw [HL2.out]; rfl) HO2.out ?_; intro w2 hr hg) | fail)
  have hal := (Below.refl w1.heap.size w1).alloc (Nat.le_refl _) (.cells (rowZ).toArray 28)
  have hb : Below w1.heap.size w1 w2 := hal.grown hg hal.size (by intro k hk; injection hk with hk; omega)
  replace HB := Lib.hid (bl_next HB.out HB.out.size hb)
  replace HRI := Lib.hid (HRI.out.below hb)
  replace HBI := Lib.hid (HBI.out.below hb)
  replace HG1 := Lib.hid (bl_row hb (lt_of_block HG1.out) HG1.out)
  replace HI1 := Lib.hid (HI1.out.below hb)
  have HG2 := Lib.hid (hr)
  clear hr hg hal hb
  obtain ⟨g2, hg⟩ : ∃ g, w1.heap.size = g := ⟨_, rfl⟩
  rw [hg] at HG2 HNE ⊢
  clear hg
  have c17 := cell_row HG1.out 17 _ HRC.out
  have f17 := row_free HG1.out 17
  go_wp2_with fail
  refine Calls.mono (HC1.out _) ?_
  rintro e wq ⟨rfl, rfl⟩
  clear c17
  have c17 := cell_row HG1.out 17 _ HRC.out
  go_upto_region 3 with fail
  clear c17 f17
  have hs := ((At.base HG1.out).set 17 (.slice ra rq rc)).row
  rw [List.setIfInBounds_toArray] at hs
  have hgr := grown_setCell w2 g1 17 (.slice ra rq rc)
  replace HB := Lib.hid (HB.out.setCell (p := ⟨g1, 17, none⟩) HGE.out (.slice ra rq rc))
  replace HG2 := Lib.hid (grown_row hgr (by intro e; injection e with e; exact absurd HNE.out (by omega)) HG2.out)
  skip
  have hcell := cell_row HG1.out 17 _ HRC.out
  replace HRI := Lib.hid (HRI.out.setOther hcell (by intro n h; cases h) (.slice ra rq rc))
  replace HBI := Lib.hid (HBI.out.setOther hcell (by intro n h; cases h) (.slice ra rq rc))
  replace HI1 := Lib.hid (HI1.out.setOther hcell (by intro n h; cases h) (.slice ra rq rc))
  replace HG1 := Lib.hid hs
  have HL1 : Hid ((R.set 17 (.slice ra rq rc)).length = 20) := Lib.hid (by rw [List.length_set]; exact HRL.out)
  clear hs hgr hcell HRC HRL HC1 HGE HNE
  generalize w2.setCell ⟨g1, 17, none⟩ (.slice ra rq rc) = wz at HB HG1 HG2 HRI HBI HI1 ⊢
  obtain ⟨R1, hR1⟩ : ∃ R1, R.set 17 (.slice ra rq rc) = R1 := ⟨_, rfl⟩
  rw [hR1] at HG1 HL1 HE1 HE2
  clear hR1
  go_wp2_with fail
  refine Calls.mono (HWI.out _) ?_
  rintro e wq ⟨rfl, rfl⟩
  go_wp2_with (first | (refine wpList_load_mid rfl 28 _ rfl g2 0 rfl R2 _ (rngL HG2.out) Try.underlying28 rfl (by rw [HL2.out]; rfl) ?_) | fail)
  refine Calls.mono (HRE1.out _ HI1.out) ?_
  rintro e w3 ⟨v1, rfl, hb, ho1⟩
  have HLa := Lib.hid hb
  clear hb
  obtain ⟨bv, cv, rfl, _⟩ := own_slice ho1
  have HOa := Lib.hid ho1
  clear ho1
  go_upto_region 5 with (first | (at_builtin; refine wpList_append_zeros rfl _ _ rfl wz.heap.size _ _ _ rfl HOa.out k rfl (by omega) HLa.out.size ?_; intro vb wb hown hgrow _; obtain ⟨bvb, cvb, rfl, _⟩ := own_slice hown; have HOb := Lib.hid hown; have HLb := Lib.hid (HLa.out.grown hgrow HLa.out.size (fun k hk => own_base HOa.out k hk)); clear hown hgrow) | fail)
  clear HOa HLa HRE1
  go_wp2_with fail
  refine Calls.mono (HWJ.out _) ?_
  rintro e wq ⟨rfl, rfl⟩
  obtain ⟨gy, ey, hgy, hyl, hfy, hcy, _⟩ := own_set HOb.out (Below.refl _ _) (i := j) hj (.int .u8 0) rfl
  subst ey
  have hcj := hcy j _ (by rw [List.getElem?_map, HXJ.out]; rfl)
  have hput := own_put HOb.out (i := j) hj (.int .u8 (bits .xor .u8 xj turn)) rfl
  rw [← List.map_set] at hput
  have hb := HLb.out.setCell (p := ⟨gy, 0 + j, none⟩) hgy (.int .u8 (bits .xor .u8 xj turn))
  rw [Nat.zero_add] at hb
  clear hcy hyl hgy HLb
  go_upto_region 6 with fail
  generalize wb.setCell ⟨gy, j, none⟩ (.int .u8 (bits .xor .u8 xj turn)) = wf at hput hb ⊢
  replace HB := Lib.hid (bl_next HB.out HB.out.size hb)
  replace HRI := Lib.hid (HRI.out.below hb)
  replace HBI := Lib.hid (HBI.out.below hb)
  replace HG1 := Lib.hid (bl_row hb (lt_of_block HG1.out) HG1.out)
  replace HI1 := Lib.hid (HI1.out.below hb)
  replace HG2 := Lib.hid (bl_row hb (lt_of_block HG2.out) HG2.out)
  obtain ⟨_, _, ey, hcp, hiy, _⟩ := ints_of_own hput HYW.out
  have hcm := own_capm hput _ _ _ rfl
  injection ey with e1 e2 e3
  subst e1; subst e3
  clear e2 hb hput hfy hcj HOb
  have HIY := Lib.hid (hiy)
  clear hiy
  have HPY1 := Lib.hid (fun w1 => HPY.out w1 (some ⟨gy, 0, none⟩) _ hcp hcm)
  clear HPY hcp hcm
  go_wp2_with (first | (refine wpList_load_mid rfl 28 _ rfl g2 0 rfl R2 _ (rngL HG2.out) Try.underlying28 rfl (by rw [HL2.out]; rfl) ?_) | fail)
  refine Calls.mono (HEH1.out _ HI1.out) ?_
  rintro e w4 ⟨rfl, hb⟩
  replace HB := Lib.hid (bl_next HB.out HB.out.size hb)
  replace HRI := Lib.hid (HRI.out.below hb)
  replace HBI := Lib.hid (HBI.out.below hb)
  replace HG1 := Lib.hid (bl_row hb (lt_of_block HG1.out) HG1.out)
  replace HI1 := Lib.hid (HI1.out.below hb)
  replace HG2 := Lib.hid (bl_row hb (lt_of_block HG2.out) HG2.out)
  replace HIY := Lib.hid (HIY.out.below hb)
  clear hb
  clear HG2 HI1 HEH1
  go_wp2_with (first | (refine wpList_load_g 28 _ rfl (by kernel_rfl) g1 0 rfl R1 _ (rngL HG1.out) Try.underlying28 rfl (by rw [HL1.out]; rfl) ?_) | fail)
  refine Calls.mono (HE1.out _ HRI.out) ?_
  rintro e w5 ⟨rfl, hb⟩
  replace HB := Lib.hid (bl_next HB.out HB.out.size hb)
  replace HRI := Lib.hid (HRI.out.below hb)
  replace HBI := Lib.hid (HBI.out.below hb)
  replace HG1 := Lib.hid (bl_row hb (lt_of_block HG1.out) HG1.out)
  replace HIY := Lib.hid (HIY.out.below hb)
  clear hb
  go_wp2_with (first | (refine wpList_load_g 28 _ rfl (by kernel_rfl) g1 0 rfl R1 _ (rngL HG1.out) Try.underlying28 rfl (by rw [HL1.out]; rfl) ?_) | fail)
  refine Calls.mono (HE2.out _ HRI.out) ?_
  rintro e w6 ⟨rfl, hb⟩
  replace HB := Lib.hid (bl_next HB.out HB.out.size hb)
  replace HRI := Lib.hid (HRI.out.below hb)
  replace HBI := Lib.hid (HBI.out.below hb)
  replace HG1 := Lib.hid (bl_row hb (lt_of_block HG1.out) HG1.out)
  replace HIY := Lib.hid (HIY.out.below hb)
  clear hb
  go_wp2_with fail
  refine Calls.mono (HPY1.out _ HIY.out) ?_
  rintro e w7 ⟨rfl, hb⟩
  replace HB := Lib.hid (bl_next HB.out HB.out.size hb)
  replace HRI := Lib.hid (HRI.out.below hb)
  replace HBI := Lib.hid (HBI.out.below hb)
  replace HG1 := Lib.hid (bl_row hb (lt_of_block HG1.out) HG1.out)
  replace HIY := Lib.hid (HIY.out.below hb)
  clear hb
  go_wp2_with fail
  refine Calls.mono (HC2.out _) ?_
  rintro e wq ⟨rfl, rfl⟩
  go_wp2_with fail
  refine Calls.mono (HPB.out _ HBI.out) ?_
  rintro e w8 ⟨rfl, hb⟩
  replace HB := Lib.hid (bl_next HB.out HB.out.size hb)
  replace HRI := Lib.hid (HRI.out.below hb)
  replace HBI := Lib.hid (HBI.out.below hb)
  replace HG1 := Lib.hid (bl_row hb (lt_of_block HG1.out) HG1.out)
  replace HIY := Lib.hid (HIY.out.below hb)
  clear hb
  go_wp2_with fail
  refine Calls.mono (HKN.out _) ?_
  rintro e w9 ⟨rfl, hb⟩
  replace HB := Lib.hid (bl_next HB.out HB.out.size hb)
  replace HRI := Lib.hid (HRI.out.below hb)
  replace HBI := Lib.hid (HBI.out.below hb)
  replace HG1 := Lib.hid (bl_row hb (lt_of_block HG1.out) HG1.out)
  replace HIY := Lib.hid (HIY.out.below hb)
  clear hb
  go_wp2_with fail
  go_ret
  exact ⟨rfl, HB.out⟩
end Go.Proofs.Ytichnlbilnbhoaa
