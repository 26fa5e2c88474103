/- heads: Parse. -/
import Derived.Test.YthofbckkjcidmaaHead8
namespace Go.Proofs.Ythofbckkjcidmaa
open Go.RowKit
set_option linter.unusedVariables false

def rowZ : List Value := [.int .i64 0, .int .u8 0, .int .u8 0, .int .u8 0, .int .u8 0, .int .u8 0, .int .u8 0, .int .u8 0, .int .u8 0, .int .u8 0, .int .u8 0, .int .u8 0, .int .u8 0, .int .u8 0, .int .u8 0, .int .u8 0, .int .u8 0, .slice none 0 0, .int .i64 0, .bool false]
theorem and48 (f : Int) (h : 0 ≤ f ∧ f ≤ 255) : bits .and .u8 f 48 = 16 * (f / 16 % 4) ∧ bits .and .u8 f 128 = 128 * (f / 128 % 2) ∧ bits .and .u8 f 64 = 64 * (f / 64 % 2) := by
  have h2 : ∀ k : Fin 256, bits .and .u8 ((k.val : Nat) : Int) 48 = 16 * (((k.val : Nat) : Int) / 16 % 4) ∧ bits .and .u8 ((k.val : Nat) : Int) 128 = 128 * (((k.val : Nat) : Int) / 128 % 2) ∧ bits .and .u8 ((k.val : Nat) : Int) 64 = 64 * (((k.val : Nat) : Int) / 64 % 2) := by decide +kernel
  have h3 := h2 ⟨f.toNat, by omega⟩
  simp only [Int.toNat_of_nonneg h.1] at h3
  exact h3
theorem takeLong_any (W0 w : World) (L p g : Nat) (first : Int) (bs : List Int) (bad : Bool) (hf : 0 ≤ first ∧ first ≤ 255) (hr : w.heap[g]? = some (.cells (row0 2).toArray 32 (0, 0))) (hgp : g ≠ p) (hgW : W0.heap.size ≤ g) (h : Rd W0 w L p 121 bs bad) :
    Calls Try.prog 57 #[.pointer (some ⟨p, 0, none⟩), .int .u8 first, .pointer (some ⟨g, 0, none⟩)] w (LongR W0 w L p g first bs bad) := by
  have hb := (and48 first hf).1
  rcases (by omega : first / 16 % 4 = 0 ∨ first / 16 % 4 = 1 ∨ first / 16 % 4 = 2 ∨ first / 16 % 4 = 3) with hq | hq | hq | hq
  · rw [hq] at hb; exact takeLong_0 W0 w L p g first bs bad hb hq hr hgp hgW h
  · rw [hq] at hb; exact takeLong_1 W0 w L p g first bs bad hb hq hr hgp hgW h
  · rw [hq] at hb; exact takeLong_2 W0 w L p g first bs bad hb hq hr hgp hgW h
  · rw [hq] at hb; exact takeLong_3 W0 w L p g first bs bad hb hq hr hgp hgW h
theorem rd_ok8 {bs : List Int} {bad : Bool} (h : (rdM bs bad 8).2.2 = false) : (rdM bs bad 8).1.length = 8 := by
  unfold rdM at h ⊢
  split
  · rename_i hc; rw [if_pos hc] at h; cases h
  · rename_i hc
    simp only [List.length_take]
    have : ¬ ((bs.length : Int) < 8) := fun e => hc (.inr (.inr e))
    simp
    omega
theorem name_ok8 {bs : List Int} {bad : Bool} (h : (nameM bs bad).2.2.2 = false) : (nameM bs bad).2.1.length = 8 := rd_ok8 h
theorem lg_lens {first : Int} {bs : List Int} {bad : Bool} {g : Lg} (h : lgM first bs bad = some g) (hb : g.b = false) : g.t.length = 8 ∧ g.f.length = 8 := by
  unfold lgM at h
  simp only at h
  split at h
  · injection h with h
    subst h
    simp only at hb ⊢
    have h1 := (var_more [] hb).1
    have h2 := (tok_more [] h1).1
    have h3 := (name_more [] h2).1
    exact ⟨name_ok8 h3, name_ok8 h2⟩
  · cases h
theorem lrow_row (s : Int) (t f : List Int) (k : List Int) (a : Option Addr) (tc : Nat) (ht : t.length = 8) (hf : f.length = 8) : lrow s t f (.slice a k.length tc) = (Hd.mk s t f k 1 false).row a tc := by
  obtain ⟨t0, t1, t2, t3, t4, t5, t6, t7, rfl⟩ := len8 ht
  obtain ⟨f0, f1, f2, f3, f4, f5, f6, f7, rfl⟩ := len8 hf
  rfl
theorem drow_row (t : List Int) (ht : t.length = 8) : splice (row0 2) 1 (t.map (Value.int .u8)) = (Hd.mk 2 t z8 [] 1 false).row none 0 := by
  obtain ⟨t0, t1, t2, t3, t4, t5, t6, t7, rfl⟩ := len8 ht
  rfl
theorem row_one (h : Hd) (a : Option Addr) (tc : Nat) : ∀ v ∈ h.row a tc, v.oneCell' = true := by
  intro v hv
  unfold Hd.row at hv
  simp only [List.mem_append, List.mem_cons, List.mem_map, List.not_mem_nil, or_false] at hv
  rcases hv with rfl | ⟨x, _, rfl⟩ | ⟨x, _, rfl⟩ | rfl | rfl | rfl <;> rfl
theorem row_len (h : Hd) (a : Option Addr) (tc : Nat) (ht : h.t.length = 8) (hf : h.f.length = 8) : (h.row a tc).length = 20 := by
  unfold Hd.row
  simp [ht, hf]

def ParR (w : World) (bs : List Int) (e : Ending) (w' : World) : Prop :=
  Below w.heap.size w w' ∧
  ((parM bs = none ∧ e = .returned (.tuple #[.agg rowZ.toArray, .int .i64 0, .int .i64 0, .int .i64 12])) ∨
   (∃ (h : Hd) (at' en : Nat) (a : Option Addr) (tc : Nat), parM bs = some (h, at', en) ∧ e = .returned (.tuple #[h.val a tc, .int .i64 at', .int .i64 en, .int .i64 0]) ∧ IntsK .u8 w' a h.k.length h.k ∧ h.k.length ≤ tc ∧ (∀ x, a = some x → w.heap.size ≤ x.block)))
theorem rowZ_one : ∀ v ∈ rowZ, v.oneCell' = true := by decide
theorem row0_one : ∀ v ∈ row0 2, v.oneCell' = true := by decide
theorem tuple4_eq {v u : Value} {a b a' b' : Int} (h1 : a = a') (h2 : b = b') : Ending.returned (.tuple #[v, .int .i64 a, .int .i64 b, u]) = Ending.returned (.tuple #[v, .int .i64 a', .int .i64 b', u]) := by rw [h1, h2]
theorem byte_bd {bs : List Int} {bad : Bool} (hw : ∀ x ∈ bs, (Lit.int .u8 x).wf = true) : 0 ≤ (byteM bs bad).1 ∧ (byteM bs bad).1 ≤ 255 := by
  unfold byteM rdM
  split
  · simp
  · cases bs with
    | nil => simp
    | cons b t =>
      have := bounds_u8 (hw b (by simp))
      simpa using this
theorem byte_len (bs : List Int) (bad : Bool) : (byteM bs bad).2.1.length ≤ bs.length := by
  unfold byteM rdM
  split <;> simp
theorem rd_lenr (bs : List Int) (bad : Bool) (n : Int) : (rdM bs bad n).2.1.length ≤ bs.length := by unfold rdM; split <;> simp
theorem lg_lenr {first : Int} {bs : List Int} {bad : Bool} {g : Lg} (hg : lgM first bs bad = some g) : g.r.length ≤ bs.length := by
  unfold lgM at hg
  simp only at hg
  split at hg
  · injection hg with hg
    rw [← hg]
    simp only
    have hv : ∀ b c, (varM b c).2.1.length ≤ b.length := fun b c => by unfold varM; split <;> simp
    have hnm : ∀ b c, (nameM b c).2.2.1.length ≤ b.length := fun b c => Nat.le_trans (rd_lenr _ _ 8) (byte_len b c)
    have htk : ∀ s b c, (tokM s b c).2.1.length ≤ b.length := fun s b c => by unfold tokM; split; exact textM_len b c; exact Nat.le_refl _
    exact Nat.le_trans (hv _ _) (Nat.le_trans (htk _ _ _) (Nat.le_trans (hnm _ _) (Nat.le_trans (hnm _ _) (rd_lenr _ _ _))))
  · cases hg
theorem par_64 {bs : List Int} {x1 : Int} {x2 : List Int} {x3 : Bool} (hx : byteM bs false = (x1, x2, x3)) (h : x1 / 64 % 2 = 0) : parM bs = none := by
  unfold parM; simp only [hx]; rw [if_pos (.inr h)]
theorem par_l_no {bs : List Int} {x1 : Int} {x2 : List Int} {x3 : Bool} (hx : byteM bs false = (x1, x2, x3)) (h : x1 / 128 % 2 = 1) (hg : lgM x1 x2 x3 = none) : parM bs = none := by
  unfold parM; simp only [hx]; split
  · rfl
  · rw [if_neg (by omega), hg]
theorem par_l_x {bs : List Int} {x1 : Int} {x2 : List Int} {x3 : Bool} {g : Lg} (hx : byteM bs false = (x1, x2, x3)) (h : x1 / 128 % 2 = 1) (hg : lgM x1 x2 x3 = some g) (hc : g.b = true ∨ g.n < 12 ∨ (g.r.length : Int) < g.n) : parM bs = none := by
  unfold parM; simp only [hx]; split
  · rfl
  · rw [if_neg (by omega), hg]; simp only; rw [if_pos hc]
theorem par_l_ok {bs : List Int} {x1 : Int} {x2 : List Int} {x3 : Bool} {g : Lg} (hx : byteM bs false = (x1, x2, x3)) (h : x1 / 128 % 2 = 1) (h64 : ¬ x1 / 64 % 2 = 0) (hg : lgM x1 x2 x3 = some g) (hc : ¬ (g.b = true ∨ g.n < 12 ∨ (g.r.length : Int) < g.n)) :
    parM bs = some (⟨g.s, g.t, g.f, g.k, 1, false⟩, bs.length - g.r.length, bs.length - g.r.length + g.n.toNat) := by
  have hb : x3 = false := (lg_more [] hg (by cases hh : g.b <;> simp_all)).1
  unfold parM; simp only [hx]
  rw [if_neg (by rw [hb]; simp; exact h64), if_neg (by omega), hg]; simp only; rw [if_neg hc]
theorem par_d_x {bs : List Int} {x1 : Int} {x2 y1 y2 : List Int} {x3 y3 : Bool} (hx : byteM bs false = (x1, x2, x3)) (h : x1 / 128 % 2 = 0) (hy : rdM x2 x3 8 = (y1, y2, y3)) (hc : y3 = true ∨ y2.length < 12) : parM bs = none := by
  unfold parM; simp only [hx]
  by_cases hq : x3 = true ∨ x1 / 64 % 2 = 0
  · rw [if_pos hq]
  · rw [if_neg hq, if_pos h, hy]; simp only; rw [if_pos hc]
theorem par_d_ok {bs : List Int} {x1 : Int} {x2 y1 y2 : List Int} {x3 y3 : Bool} (hx : byteM bs false = (x1, x2, x3)) (h : x1 / 128 % 2 = 0) (h64 : ¬ x1 / 64 % 2 = 0) (hy : rdM x2 x3 8 = (y1, y2, y3)) (hc : ¬ (y3 = true ∨ y2.length < 12)) :
    parM bs = some (⟨2, y1, z8, [], 1, false⟩, bs.length - y2.length, bs.length) := by
  have hb : x3 = false := (rd_more (bs := x2) (bad := x3) (n := 8) [] (by rw [hy]; cases hh : y3 <;> simp_all)).1
  unfold parM; simp only [hx]
  rw [if_neg (by rw [hb]; simp; exact h64), if_pos h, hy]; simp only; rw [if_neg hc]

set_option maxRecDepth 100000 in
set_option maxHeartbeats 4000000 in
theorem parse_any (w : World) (a : Option Addr) (len cap : Nat) (bs : List Int) (hlen : len ≤ 1000000000000) (hI : IntsK .u8 w a len bs) :
    Calls Try.prog 35 #[.slice a len cap] w (ParR w bs) := by
  have HI := Lib.hid hI; have HLB := Lib.hid hI.1
  have hx1b := byte_bd (bad := false) hI.2.1
  clear hI
  obtain ⟨Q, hQ⟩ : ∃ Q, ParR w bs = Q := ⟨_, rfl⟩
  rw [hQ]
  have HQQ := Lib.hid hQ
  clear hQ
  obtain ⟨⟨x1, x2, x3⟩, hx⟩ : ∃ r, byteM bs false = r := ⟨_, rfl⟩
  rw [hx] at hx1b
  simp only at hx1b
  have hlx : x2.length ≤ len := by have h := byte_len bs false; rw [hx, HLB.out] at h; exact h
  have HX := Lib.hid hx; have HLX := Lib.hid hlx
  clear hx hlx
  have hand := and48 x1 hx1b
  have HAND := Lib.hid hand
  clear hand
  go_enter Try.func35, Try.ntmps35
  go_upto_region 1 with fail
  change Code.wp _ _ _ _ (w.alloc (.cells rowZ.toArray 32))
  have hbA := (Below.refl w.heap.size w).alloc (Nat.le_refl _) (.cells rowZ.toArray 32)
  have H0 := Lib.hid (heap_alloc_new w (.cells rowZ.toArray 32))
  have HB := Lib.hid hbA
  generalize w.alloc (.cells rowZ.toArray 32) = W at H0 HB ⊢
  obtain ⟨g0, hg⟩ : ∃ g0, w.heap.size = g0 := ⟨_, rfl⟩
  rw [hg] at H0 ⊢
  have HG0 := Lib.hid hg
  have hg0W := lt_of_block H0.out
  clear hg hbA
  go_wp2_with fail
  refine Calls.mono (of_any W a len cap bs hlen (HI.out.below HB.out)) ?_
  rintro e w1 ⟨W0, p, rfl, hR, hb0, hb1⟩
  have hgW0 : g0 < W0.heap.size := Nat.lt_of_lt_of_le hg0W hb0.size
  have hW0p : W0.heap.size ≤ p := hR.lo
  have HRD1 := Lib.hid hR
  have hb01 := bl_next hb0 hb0.size hb1
  have H01 := Lib.hid (bl_row hb01 hg0W H0.out)
  have HB1 := Lib.hid (bl_next HB.out HB.out.size hb01)
  have HBW0 := Lib.hid (Nat.le_trans HB.out.size hb0.size)
  clear hR hb0 hb1 hb01 H0 HB
  obtain ⟨L, hL⟩ : ∃ L, W.heap.size = L := ⟨_, rfl⟩
  rw [hL] at HRD1 hg0W
  clear hL hg0W
  go_wp2_with fail
  have hb := byte_any W0 w1 L p bs false HRD1.out
  rw [HX.out] at hb
  refine Calls.mono hb ?_
  clear hb
  rintro e w2 ⟨rfl, hR, hg1⟩
  have HRD2 := Lib.hid hR
  have H02 := Lib.hid (grown_row hg1 (by intro e; injection e with e; omega) H01.out)
  have HB2 := Lib.hid (HB1.out.grown hg1 HB1.out.size (by intro k hk; injection hk with hk; have := HBW0.out; omega))
  clear hR hg1 HRD1 H01 HB1
  go_upto_region 4 with (first | (refine wpList_store_row rfl 32 _ _ rfl _ rfl (row0 2) rowZ rfl 32 (heap_alloc_new _ _) rfl rfl row0_one ?_; intro w3 hr3 hg3) | fail)
  have hal := (Below.refl w2.heap.size w2).alloc (Nat.le_refl _) (.cells rowZ.toArray 32)
  have HR3 := Lib.hid hr3
  have hgp : w2.heap.size ≠ p := by have := HRD2.out.lt; omega
  have hgW : W0.heap.size ≤ w2.heap.size := HRD2.out.size
  have HRD3 := Lib.hid ((HRD2.out.to hal).grownG hg3 hgp hgW)
  have H03 := Lib.hid (grown_row hg3 (by intro e; injection e with e; have := lt_of_block H02.out; omega) (bl_row hal (lt_of_block H02.out) H02.out))
  have HB3 := Lib.hid ((bl_next HB2.out HB2.out.size hal).grown hg3 (bl_next HB2.out HB2.out.size hal).size (by intro k hk; injection hk with hk; have := HB2.out.size; omega))
  clear hr3 hg3 hal HRD2 H02 HB2
  obtain ⟨g, hgg⟩ : ∃ g, w2.heap.size = g := ⟨_, rfl⟩
  rw [hgg] at HR3 hgp hgW ⊢
  clear hgg
  rcases (by omega : x1 / 128 % 2 = 1 ∨ x1 / 128 % 2 = 0) with h128 | h128
  · have hb128 : bits .and .u8 x1 128 = 128 := by rw [HAND.out.2.1, h128]; rfl
    go_wp2_with fail
    clear hb128
    refine Calls.mono (takeLong_any W0 w3 L p g x1 x2 x3 hx1b HR3.out hgp hgW HRD3.out) ?_
    rintro e w4 ⟨hC, hcase⟩
    have HB4 := Lib.hid (hC.below HB3.out HB3.out.size (by have := HBW0.out; omega) (by intro k hk; injection hk with hk; have := HBW0.out; omega))
    have H04 := Lib.hid (hC.row H03.out (by omega) (by intro e; injection e with e; omega))
    have HS3 := Lib.hid HB3.out.size
    have HG03 := Lib.hid (lt_of_block H03.out)
    clear hC H03 HB3 HRD3 HR3
    rcases hcase with ⟨G, ta, tc, hG, rfl, hR, hr, hIt, htc, hlo⟩ | ⟨hno, n, bs', bad', rfl, hR⟩
    · obtain ⟨gs, gt, gf, gk, gn, gr, gb⟩ := G
      simp only at hR hr hIt htc hlo ⊢
      have HG := Lib.hid hG; have HRD4 := Lib.hid hR; have HR4 := Lib.hid hr; have HIT := Lib.hid hIt; have HTC := Lib.hid htc; have HLO := Lib.hid hlo
      have hgrl : gr.length ≤ len := by have h := lg_lenr hG; simp only at h; have := HLX.out; omega
      clear hG hR hr hIt htc hlo
      rcases (by omega : x1 / 64 % 2 = 0 ∨ x1 / 64 % 2 = 1) with h64 | h64
      · have hb64 : bits .and .u8 x1 64 = 0 := by rw [HAND.out.2.2, h64]; rfl
        go_wp2_with (first | (refine wpList_store_row rfl 32 _ _ rfl g0 rfl rowZ rowZ rfl 32 H04.out rfl rfl rowZ_one ?_; intro wz hz hgz) | fail)
        (try simp only [Exit.inBlock, Exit.then])
        refine bodyPost_ret (results_cell4 rfl _ _ g0 rfl rowZ _ _ hz Try.underlying32 rfl rfl) rfl ?_
        rw [← HQQ.out]
        exact ⟨HB4.out.grown hgz HB4.out.size (by intro k hk; injection hk with hk; have := HG0.out; omega), .inl ⟨par_64 HX.out h64, rfl⟩⟩
      · have hb64 : bits .and .u8 x1 64 = 64 := by rw [HAND.out.2.2, h64]; rfl
        go_wp2_with fail
        refine Calls.mono (bad_any W0 w4 L p gr gb HRD4.out) ?_
        rintro e w5 ⟨rfl, rfl⟩
        cases gb with
        | false =>
          by_cases h12 : gn < 12
          · skip
            go_wp2_with (first | (refine wpList_store_row rfl 32 _ _ rfl g0 rfl rowZ rowZ rfl 32 H04.out rfl rfl rowZ_one ?_; intro wz hz hgz) | fail)
            (try simp only [Exit.inBlock, Exit.then])
            refine bodyPost_ret (results_cell4 rfl _ _ g0 rfl rowZ _ _ hz Try.underlying32 rfl rfl) rfl ?_
            rw [← HQQ.out]
            exact ⟨HB4.out.grown hgz HB4.out.size (by intro k hk; injection hk with hk; have := HG0.out; omega), .inl ⟨par_l_x HX.out h128 HG.out (.inr (.inl h12)), rfl⟩⟩
          · go_wp2_with fail
            refine Calls.mono (left_any W0 _ L p gr false HRD4.out) ?_
            rintro e w6 ⟨rfl, rfl⟩
            by_cases hgt : (gr.length : Int) < gn
            · skip
              go_wp2_with (first | (refine wpList_store_row rfl 32 _ _ rfl g0 rfl rowZ rowZ rfl 32 H04.out rfl rfl rowZ_one ?_; intro wz hz hgz) | fail)
              (try simp only [Exit.inBlock, Exit.then])
              refine bodyPost_ret (results_cell4 rfl _ _ g0 rfl rowZ _ _ hz Try.underlying32 rfl rfl) rfl ?_
              rw [← HQQ.out]
              exact ⟨HB4.out.grown hgz HB4.out.size (by intro k hk; injection hk with hk; have := HG0.out; omega), .inl ⟨par_l_x HX.out h128 HG.out (.inr (.inr hgt)), rfl⟩⟩
            · go_wp2_with fail
              refine Calls.mono (left_any W0 _ L p gr false HRD4.out) ?_
              rintro e w7 ⟨rfl, rfl⟩
              have hl8 := lg_lens HG.out rfl
              have hrow := HR4.out
              simp only at hl8
              rw [lrow_row gs gt gf gk ta tc hl8.1 hl8.2] at hrow
              have HONE := Lib.hid (row_one ⟨gs, gt, gf, gk, 1, false⟩ ta tc)
              have HRL := Lib.hid (row_len ⟨gs, gt, gf, gk, 1, false⟩ ta tc hl8.1 hl8.2)
              obtain ⟨RW, hRW⟩ : ∃ RW, (Hd.mk gs gt gf gk 1 false).row ta tc = RW := ⟨_, rfl⟩
              rw [hRW] at hrow HONE HRL
              have HRW := Lib.hid hRW; have HROW := Lib.hid hrow
              clear hrow hRW hl8 HR4
              go_wp2_with (first | (refine wpList_load_mid rfl 32 _ rfl g 0 rfl _ _ (rng20 HROW.out) Try.underlying32 rfl (by rw [HRL.out]; rfl) ?_) | (refine wpList_store_row rfl 32 _ _ rfl g0 rfl RW rowZ rfl 32 H04.out (by rw [HRL.out]; rfl) (by rw [HRL.out]; rfl) HONE.out ?_; intro wz hz hgz) | fail)
              (try simp only [Exit.inBlock, Exit.then])
              refine bodyPost_ret (results_cell4 rfl _ _ g0 rfl RW _ _ hz Try.underlying32 rfl (by rw [HRL.out]; rfl)) rfl ?_
              rw [← HQQ.out]
              refine ⟨HB4.out.grown hgz HB4.out.size (by intro k hk; injection hk with hk; have := HG0.out; omega), .inr ?_⟩
              refine ⟨_, _, _, ta, tc, par_l_ok HX.out h128 (by omega) HG.out (by simp; omega), ?_, HIT.out.grown hgz (fun x hx e => by injection e with e; have h1 := HLO.out x hx; have := HG03.out; omega), HTC.out, fun x hx => Nat.le_trans HS3.out (HLO.out x hx)⟩
              simp only
              rw [show Hd.val ⟨gs, gt, gf, gk, 1, false⟩ ta tc = .agg RW.toArray by unfold Hd.val; rw [HRW.out]]
              exact tuple4_eq (by rw [HLB.out]; omega) (by rw [HLB.out]; omega)
        | true =>
          go_wp2_with (first | (refine wpList_store_row rfl 32 _ _ rfl g0 rfl rowZ rowZ rfl 32 H04.out rfl rfl rowZ_one ?_; intro wz hz hgz) | fail)
          (try simp only [Exit.inBlock, Exit.then])
          refine bodyPost_ret (results_cell4 rfl _ _ g0 rfl rowZ _ _ hz Try.underlying32 rfl rfl) rfl ?_
          rw [← HQQ.out]
          exact ⟨HB4.out.grown hgz HB4.out.size (by intro k hk; injection hk with hk; have := HG0.out; omega), .inl ⟨par_l_x HX.out h128 HG.out (.inl rfl), rfl⟩⟩
    · have HN := Lib.hid hno
      clear hno hR
      go_wp2_with (first | (refine wpList_store_row rfl 32 _ _ rfl g0 rfl rowZ rowZ rfl 32 H04.out rfl rfl rowZ_one ?_; intro wz hz hgz) | fail)
      (try simp only [Exit.inBlock, Exit.then])
      refine bodyPost_ret (results_cell4 rfl _ _ g0 rfl rowZ _ _ hz Try.underlying32 rfl rfl) rfl ?_
      rw [← HQQ.out]
      exact ⟨HB4.out.grown hgz HB4.out.size (by intro k hk; injection hk with hk; have := HG0.out; omega), .inl ⟨par_l_no HX.out h128 HN.out, rfl⟩⟩
  · have hb128 : bits .and .u8 x1 128 = 0 := by rw [HAND.out.2.1, h128]; rfl
    go_upto_region 7 with fail
    clear hb128
    obtain ⟨⟨y1, y2, y3⟩, hy⟩ : ∃ r, rdM x2 x3 8 = r := ⟨_, rfl⟩
    have hyl := rdM_len1 x2 x3 8
    have hylr := rd_lenr x2 x3 8
    rw [show ((8 : Nat) : Int) = 8 from rfl, hy] at hyl
    rw [hy] at hylr
    simp only at hyl hylr
    have hy2 : y2.length ≤ len := by have := HLX.out; omega
    have HY := Lib.hid hy; have HYL := Lib.hid hyl
    clear hy hyl hylr
    refine wp_plan (.t 0 (.t 1 (.t 2 (.u 3 (.u 4 .done))))) (fun y => True) (by kernel_rfl) (by kernel_rfl) (by kernel_rfl) (fun c a d v w h => by cases d <;> exact h) trivial ?_
    haveI hne : Nonempty (In fun y => True) := ⟨⟨w3, trivial⟩⟩
    have HB4 := Lib.hid HB3.out.drew
    have HRD4 := Lib.hid (HRD3.out.to (Below.refl _ _).drew)
    have HR4 : Hid (w3.drew.heap[g]? = some (.cells (row0 2).toArray 32 (0, 0))) := HR3
    have H04 : Hid (w3.drew.heap[g0]? = some (.cells rowZ.toArray 32 (0, 0))) := H03
    clear HB3 HRD3 HR3 H03
    generalize w3.drew = w4 at HB4 HRD4 HR4 H04 ⊢
    repeat (refine plan_t (by rfl) ?_; (first | go_big_quiet_skip | (go_big_quiet_want; go_big_quiet_op; go_big_quiet_on)); refine wpQuiet_nil ?_)
    refine plan_us (by rfl) (by kernel_rfl) ?_
    intro K hK
    go_wp2_with fail
    have hb := raw_any W0 w4 L p x2 x3 8 (by omega) HRD4.out
    rw [HY.out] at hb
    refine Calls.mono hb ?_
    clear hb
    rintro e w5 ⟨b, m, cb, rfl, hm, hI, hR, hg1, hlo⟩
    have HR5 := Lib.hid (grown_row hg1 (by intro e; injection e with e; exact hgp e) HR4.out)
    have H05 := Lib.hid (grown_row hg1 (by intro e; injection e with e; omega) H04.out)
    have HRD5 := Lib.hid hR
    have HB5 := Lib.hid (HB4.out.grown hg1 HB4.out.size (by intro k hk; injection hk with hk; have := HBW0.out; omega))
    have hm8 : m ≤ 8 := by have h1 : y1.length = m := hI.1; have := HYL.out; omega
    have HCP := Lib.hid (ints_copy hI 8 hm8)
    have HFIT : Hid (1 + (y1.map (Value.int .u8)).length ≤ (row0 2).length) := Lib.hid (by rw [List.length_map]; have := HYL.out; show 1 + y1.length ≤ 20; omega)
    clear hR hg1 hI hlo HR4 H04 HRD4 HB4 hm hm8
    go_wp2_with fail
    refine ⟨trivial, ?_⟩
    refine plan_us (by rfl) (by kernel_rfl) ?_
    intro K hK
    refine wp_copy_grown _ _ 23 23 rfl 5 Try.underlying23 infoU8t _ _ _ _ _ _ rfl rfl g 1 (row0 2) 32 HR5.out (y1.map (Value.int .u8)) HCP.out.1 (fun h => ⟨rfl, HCP.out.2 h⟩) HFIT.out ints_one ?_
    intro w6 hr6 hg2
    have HR6 := Lib.hid hr6
    have H06 := Lib.hid (grown_row hg2 (by intro e; injection e with e; omega) H05.out)
    have HRD6 := Lib.hid (HRD5.out.grownG hg2 hgp hgW)
    have HB6 := Lib.hid (HB5.out.grown hg2 HB5.out.size (by intro k hk; injection hk with hk; have := HBW0.out; omega))
    refine hK _ _ ⟨trivial, ?_⟩
    clear hK hr6 hg2 hne HCP HFIT HR5 H05 HRD5 HB5
    show Exit.then _ _ _ _ _
    simp only [Act.put, List.setIfInBounds_toArray, List.set_cons_succ, List.set_cons_zero]
    go_wp2_with fail
    refine Calls.mono (left_any W0 w6 L p y2 y3 HRD6.out) ?_
    rintro e w7 ⟨rfl, rfl⟩
    rcases (by omega : x1 / 64 % 2 = 0 ∨ x1 / 64 % 2 = 1) with h64 | h64
    · have hb64 : bits .and .u8 x1 64 = 0 := by rw [HAND.out.2.2, h64]; rfl
      go_wp2_with (first | (refine wpList_store_row rfl 32 _ _ rfl g0 rfl rowZ rowZ rfl 32 H06.out rfl rfl rowZ_one ?_; intro wz hz hgz) | fail)
      (try simp only [Exit.inBlock, Exit.then])
      refine bodyPost_ret (results_cell4 rfl _ _ g0 rfl rowZ _ _ hz Try.underlying32 rfl rfl) rfl ?_
      rw [← HQQ.out]
      exact ⟨HB6.out.grown hgz HB6.out.size (by intro k hk; injection hk with hk; have := HG0.out; omega), .inl ⟨par_64 HX.out h64, rfl⟩⟩
    · have hb64 : bits .and .u8 x1 64 = 64 := by rw [HAND.out.2.2, h64]; rfl
      go_wp2_with fail
      refine Calls.mono (bad_any W0 _ L p y2 y3 HRD6.out) ?_
      rintro e w8 ⟨rfl, rfl⟩
      cases y3 with
      | false =>
        by_cases h12 : ((y2.length : Nat) : Int) < 12
        · skip
          go_wp2_with (first | (refine wpList_store_row rfl 32 _ _ rfl g0 rfl rowZ rowZ rfl 32 H06.out rfl rfl rowZ_one ?_; intro wz hz hgz) | fail)
          (try simp only [Exit.inBlock, Exit.then])
          refine bodyPost_ret (results_cell4 rfl _ _ g0 rfl rowZ _ _ hz Try.underlying32 rfl rfl) rfl ?_
          rw [← HQQ.out]
          exact ⟨HB6.out.grown hgz HB6.out.size (by intro k hk; injection hk with hk; have := HG0.out; omega), .inl ⟨par_d_x HX.out h128 HY.out (.inr (by omega)), rfl⟩⟩
        · go_wp2_with fail
          refine Calls.mono (left_any W0 _ L p y2 false HRD6.out) ?_
          rintro e w9 ⟨rfl, rfl⟩
          go_wp2_with fail
          refine Calls.mono (left_any W0 _ L p y2 false HRD6.out) ?_
          rintro e wa ⟨rfl, rfl⟩
          have hl8 : y1.length = 8 := by have h := rd_ok8 (bs := x2) (bad := x3) (by rw [HY.out]); rw [HY.out] at h; exact h
          have hrow := HR6.out
          rw [drow_row y1 hl8] at hrow
          have HONE := Lib.hid (row_one ⟨2, y1, z8, [], 1, false⟩ none 0)
          have HRL := Lib.hid (row_len ⟨2, y1, z8, [], 1, false⟩ none 0 hl8 rfl)
          obtain ⟨RW, hRW⟩ : ∃ RW, (Hd.mk 2 y1 z8 [] 1 false).row none 0 = RW := ⟨_, rfl⟩
          rw [hRW] at hrow HONE HRL
          have HRW := Lib.hid hRW; have HROW := Lib.hid hrow
          clear hrow hRW hl8 HR6
          go_wp2_with (first | (refine wpList_load_mid rfl 32 _ rfl g 0 rfl _ _ (rng20 HROW.out) Try.underlying32 rfl (by rw [HRL.out]; rfl) ?_) | (refine wpList_store_row rfl 32 _ _ rfl g0 rfl RW rowZ rfl 32 H06.out (by rw [HRL.out]; rfl) (by rw [HRL.out]; rfl) HONE.out ?_; intro wz hz hgz) | fail)
          (try simp only [Exit.inBlock, Exit.then])
          refine bodyPost_ret (results_cell4 rfl _ _ g0 rfl RW _ _ hz Try.underlying32 rfl (by rw [HRL.out]; rfl)) rfl ?_
          rw [← HQQ.out]
          refine ⟨HB6.out.grown hgz HB6.out.size (by intro k hk; injection hk with hk; have := HG0.out; omega), .inr ?_⟩
          refine ⟨_, _, _, none, 0, par_d_ok HX.out h128 (by omega) HY.out (by simp <;> omega), ?_, IntsK.nil _ _ _, Nat.le_refl _, fun x hx => by cases hx⟩
          rw [show Hd.val ⟨2, y1, z8, [], 1, false⟩ none 0 = .agg RW.toArray by unfold Hd.val; rw [HRW.out]]
          exact tuple4_eq (by rw [HLB.out]; omega) (by rw [HLB.out])
      | true =>
        go_wp2_with (first | (refine wpList_store_row rfl 32 _ _ rfl g0 rfl rowZ rowZ rfl 32 H06.out rfl rfl rowZ_one ?_; intro wz hz hgz) | fail)
        (try simp only [Exit.inBlock, Exit.then])
        refine bodyPost_ret (results_cell4 rfl _ _ g0 rfl rowZ _ _ hz Try.underlying32 rfl rfl) rfl ?_
        rw [← HQQ.out]
        exact ⟨HB6.out.grown hgz HB6.out.size (by intro k hk; injection hk with hk; have := HG0.out; omega), .inl ⟨par_d_x HX.out h128 HY.out (.inl rfl), rfl⟩⟩
end Go.Proofs.Ythofbckkjcidmaa
