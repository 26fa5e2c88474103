/- heads: the walk of HeadCuts. -/
import Derived.Test.YtichnlbilnbhoaaHead17
namespace Go.Proofs.Ytichnlbilnbhoaa
open Go.RowKit
set_option linter.unusedVariables false

set_option maxRecDepth 100000 in
set_option maxHeartbeats 8000000 in
theorem cuts5_core (w : World) (X : List Value) (n cut v : Int) (h : Hd) (s : Int) (k L kl j : Nat) (es ks : List Int) (e0 : Int)
    (HHk : Hid (∀ a tc, (h.row a tc).length = 20 ∧ (∀ v ∈ h.row a tc, v.oneCell' = true) ∧ (h.row a tc)[0]? = some (.int .i64 s))) (hs2 : (s == 2) = false)
    (HEN : Hid (∀ w1 b tc, IntsK .u8 w1 b kl ks → Calls Try.prog 13 #[.agg (h.row b tc).toArray, .int .i64 k] w1 fun e w' => Below w1.heap.size w1 w' ∧ ∃ a cap, e = .returned (.tuple #[.slice a L cap, .int .i64 0]) ∧ IntsK .u8 w' a L es))
    (HXL : Hid (X.length = 6)) (hL : 6 ≤ L ∧ L ≤ 1000) (hk : 12 ≤ k ∧ k ≤ 100) (hj : j < L + k)
    (HE0 : Hid ((es ++ List.replicate k 0)[0]? = some e0)) (HE4 : Hid ((es ++ List.replicate k 0)[4]? = some 1)) 
    (HEW : Hid (∀ x ∈ es ++ List.replicate k 0, (Lit.int .u8 x).wf = true))
    (HYW : Hid (∀ x ∈ (es ++ List.replicate k 0).set 0 (bits .andNot .u8 e0 64), (Lit.int .u8 x).wf = true)) (HZW : Hid (∀ x ∈ (es ++ List.replicate k 0).set 4 (bits .or .u8 ((1 + v) % 256) 128), (Lit.int .u8 x).wf = true))
    (HKH : Hid (∀ w1, Below w.heap.size w w1 → Calls Try.prog 6 #[.agg X.toArray] w1 fun e w' => Below w1.heap.size w1 w' ∧ ∃ b tc, e = .returned (.agg (h.row b tc).toArray) ∧ IntsK .u8 w' b kl ks))
    (HWI : Hid (∀ w1, Calls Try.prog 8 #[.int .i64 n, .int .i64 12, .int .i64 100] w1 fun e w' => e = .returned (.int .i64 k) ∧ w1 = w'))
    (HWJ : Hid (∀ w1, Calls Try.prog 8 #[.int .i64 cut, .int .i64 0, .int .i64 ((L : Int) + k - 1)] w1 fun e w' => e = .returned (.int .i64 j) ∧ w1 = w'))
    (RZ : List Value) (HRL : Hid (RZ.length = 20)) (HRO : Hid (∀ v ∈ RZ, v.oneCell' = true))
    (HPJ : Hid (∀ w1 a cap, IntsK .u8 w1 a j ((es ++ List.replicate k 0).take j) → Makes Try.prog 14 #[.slice a j cap] w1 (.tuple #[.agg RZ.toArray, .int .i64 0, .int .i64 0, .int .i64 12])))
    (HPY : Hid (∀ w1 a cap, IntsK .u8 w1 a (L + k) ((es ++ List.replicate k 0).set 0 (bits .andNot .u8 e0 64)) → Makes Try.prog 14 #[.slice a (L + k) cap] w1 (.tuple #[.agg RZ.toArray, .int .i64 0, .int .i64 0, .int .i64 12])))
    (HPZ : Hid (∀ w1 a cap, IntsK .u8 w1 a (L + k) ((es ++ List.replicate k 0).set 4 (bits .or .u8 ((1 + v) % 256) 128)) → Makes Try.prog 14 #[.slice a (L + k) cap] w1 (.tuple #[.agg RZ.toArray, .int .i64 0, .int .i64 0, .int .i64 12])))
    (HKN : Hid (∀ w1, Makes Try.prog 12 #[] w1 (.bool true))) :
    Makes Try.prog 5 #[.agg X.toArray, .int .i64 n, .int .i64 cut, .int .u8 v] w (.bool true) := by
  have HB := Lib.hid (Below.refl w.heap.size w)
  have HS2 := Lib.hid hs2
  clear hs2
  go_enter Try.func5, Try.ntmps5
  go_upto_region 1 with fail
  have hb := (Below.refl w.heap.size w).alloc (Nat.le_refl _) (.cells X.toArray 24)
  replace HB := Lib.hid (bl_next HB.out HB.out.size hb)
  have HG0 := Lib.hid (heap_alloc_new w (.cells X.toArray 24))
  clear hb
  generalize w.alloc (.cells X.toArray 24) = w1 at HB HG0 ⊢
  obtain ⟨g0, hg⟩ : ∃ g, w.heap.size = g := ⟨_, rfl⟩
  rw [hg] at HG0 ⊢
  clear hg
  go_wp2_with (first | (refine wpList_load_mid rfl 24 _ rfl g0 0 rfl X _ (rngL HG0.out) Try.underlying24 rfl (by rw [HXL.out]; rfl) ?_) | fail)
  refine Calls.mono (HKH.out _ HB.out) ?_
  rintro e w2 ⟨hb, b1, tc1, rfl, hi1⟩
  replace HB := Lib.hid (bl_next HB.out HB.out.size hb)
  replace HG0 := Lib.hid (bl_row hb (lt_of_block HG0.out) HG0.out)
  clear hb
  have HI1 := Lib.hid (hi1)
  clear hi1
  have HR1 := Lib.hid (HHk.out b1 tc1).2.2
  have HEN1 := Lib.hid (fun w1 => HEN.out w1 b1 tc1)
  have HL1 := Lib.hid ((HHk.out b1 tc1).1); have HO1 := Lib.hid ((HHk.out b1 tc1).2.1)
  obtain ⟨R1, hR1⟩ : ∃ R, h.row b1 tc1 = R := ⟨_, rfl⟩
  rw [hR1] at HL1 HO1 HR1 HEN1 ⊢
  clear hR1
  clear HHk HKH HG0 HEN
  have HGE := Lib.hid HB.out.size
  go_upto_region 2 with (first | (refine wpList_store_row rfl 28 _ _ rfl _ rfl R1 rowZ rfl 28 (heap_alloc_new _ _) (by rw [HL1.out]; rfl) (by rw [HL1.out]; rfl) HO1.out ?_; intro w3 hr hg) | fail)
  have hal := (Below.refl w2.heap.size w2).alloc (Nat.le_refl _) (.cells (rowZ).toArray 28)
  have hb : Below w2.heap.size w2 w3 := hal.grown hg hal.size (by intro k hk; injection hk with hk; omega)
  replace HB := Lib.hid (bl_next HB.out HB.out.size hb)
  replace HI1 := Lib.hid (HI1.out.below hb)
  have HG1 := Lib.hid (hr)
  clear hr hg hal hb
  obtain ⟨g1, hg⟩ : ∃ g, w2.heap.size = g := ⟨_, rfl⟩
  rw [hg] at HG1 HGE ⊢
  clear hg
  have c0 := cell_row HG1.out 0 _ HR1.out
  have hs2 := HS2.out
  go_upto_region 4 with fail
  clear c0 hs2
  go_wp2_with fail
  refine Calls.mono (HWI.out _) ?_
  rintro e wq ⟨rfl, rfl⟩
  go_wp2_with (first | (refine wpList_load_mid rfl 28 _ rfl g1 0 rfl R1 _ (rngL HG1.out) Try.underlying28 rfl (by rw [HL1.out]; rfl) ?_) | fail)
  refine Calls.mono (HEN1.out _ HI1.out) ?_
  rintro e w4 ⟨hb, b2, cp2, rfl, hi2⟩
  clear HG1 HGE HI1 HEN1 HR1
  replace HB := Lib.hid (bl_next HB.out HB.out.size hb)
  clear hb HWI
  have HI2 := Lib.hid (hi2)
  clear hi2
  go_upto_region 9 with (first | (at_builtin; refine wpList_append_bytes rfl _ _ rfl w4.heap.size 0 (.slice (some ⟨w4.heap.size, 0, none⟩) 0 0) [] rfl (World.ownsRow_made _ _ _ (Nat.le_refl _) (by unfold maxLen; omega) (by rfl)) _ _ _ _ rfl (HI2.out.below ((Below.refl _ _).alloc (Nat.le_refl _) _)) (by omega) (by simp) ?_; intro va wa hown hgrow; rw [Nat.zero_add, List.nil_append] at hown; obtain ⟨bva, cva, rfl, _⟩ := own_slice hown; have HOa := Lib.hid hown; have HLa := Lib.hid (((Below.refl w4.heap.size w4).alloc (Nat.le_refl _) _).grown hgrow (by simp) (by intro k hk; simp [Value.ownBlock] at hk; omega)); clear hown hgrow) | (at_builtin; refine wpList_append_zeros rfl _ _ rfl w4.heap.size _ _ _ rfl HOa.out k rfl (by omega) HLa.out.size ?_; intro vb wb hown hgrow _; obtain ⟨bvb, cvb, rfl, _⟩ := own_slice hown; have HOb := Lib.hid hown; have HLb := Lib.hid (HLa.out.grown hgrow HLa.out.size (fun k hk => own_base HOa.out k hk)); clear hown hgrow) | fail)
  obtain ⟨bf, cf, e, hcf, hif, _⟩ := ints_of_own HOb.out HEW.out
  injection e with e1 e2 e3
  subst e1; subst e3
  clear e2
  have hb := HLb.out
  replace HB := Lib.hid (bl_next HB.out HB.out.size hb)
  clear hb HOa HOb HLa HLb HI2
  have HIF := Lib.hid (hif)
  clear hif
  go_wp2_with fail
  refine Calls.mono (HWJ.out _) ?_
  rintro e wq ⟨rfl, rfl⟩
  go_wp2_with fail
  refine Calls.mono (HPJ.out _ _ _ (HIF.out.pre j (by omega))) ?_
  rintro e w5 ⟨rfl, hb⟩
  replace HB := Lib.hid (bl_next HB.out HB.out.size hb)
  replace HIF := Lib.hid (HIF.out.below hb)
  clear hb
  go_upto_region 10 with (first | (refine wpList_store_row rfl 28 _ _ rfl _ rfl RZ rowZ rfl 28 (heap_alloc_new _ _) (by rw [HRL.out]; rfl) (by rw [HRL.out]; rfl) HRO.out ?_; intro w6 hr hg) | fail)
  have hal := (Below.refl w5.heap.size w5).alloc (Nat.le_refl _) (.cells (rowZ).toArray 28)
  have hb : Below w5.heap.size w5 w6 := hal.grown hg hal.size (by intro k hk; injection hk with hk; omega)
  replace HB := Lib.hid (bl_next HB.out HB.out.size hb)
  replace HIF := Lib.hid (HIF.out.below hb)
  have HG2 := Lib.hid (hr)
  clear hr hg hal hb
  obtain ⟨g2, hg⟩ : ∃ g, w5.heap.size = g := ⟨_, rfl⟩
  rw [hg] at HG2 ⊢
  clear hg
  clear HG2
  go_upto_region 11 with (first | (at_builtin; refine wpList_append_bytes rfl _ _ rfl w6.heap.size 0 (.slice (some ⟨w6.heap.size, 0, none⟩) 0 0) [] rfl (World.ownsRow_made _ _ _ (Nat.le_refl _) (by unfold maxLen; omega) (by rfl)) _ _ _ _ rfl (HIF.out.below ((Below.refl _ _).alloc (Nat.le_refl _) _)) (by omega) (by simp) ?_; intro vy wy hown hgrow; rw [Nat.zero_add, List.nil_append] at hown; obtain ⟨bvy, cvy, rfl, _⟩ := own_slice hown; have HOy := Lib.hid hown; have HLy := Lib.hid (((Below.refl w6.heap.size w6).alloc (Nat.le_refl _) _).grown hgrow (by simp) (by intro k hk; simp [Value.ownBlock] at hk; omega)); clear hown hgrow) | (at_builtin; refine wpList_append_bytes rfl _ _ rfl wy.heap.size 0 (.slice (some ⟨wy.heap.size, 0, none⟩) 0 0) [] rfl (World.ownsRow_made _ _ _ (Nat.le_refl _) (by unfold maxLen; omega) (by rfl)) _ _ _ _ rfl ((Lib.hid (HIF.out.below HLy.out)).out.below ((Below.refl _ _).alloc (Nat.le_refl _) _)) (by omega) (by simp) ?_; intro vz wz hown hgrow; rw [Nat.zero_add, List.nil_append] at hown; obtain ⟨bvz, cvz, rfl, _⟩ := own_slice hown; have HOz := Lib.hid hown; have HLz := Lib.hid (((Below.refl wy.heap.size wy).alloc (Nat.le_refl _) _).grown hgrow (by simp) (by intro k hk; simp [Value.ownBlock] at hk; omega)); clear hown hgrow) | fail)
  obtain ⟨gy, ey, hgy, hyl, _, _, _⟩ := own_set HOy.out (Below.refl _ _) (i := 0) (by omega) (.int .u8 0) rfl
  subst ey
  replace HOy := Lib.hid (own_below HOy.out HLz.out)
  have HGE := Lib.hid HB.out.size
  replace HB := Lib.hid (bl_next HB.out HB.out.size HLy.out)
  replace HB := Lib.hid (bl_next HB.out HB.out.size HLz.out)
  obtain ⟨gz, ez, hgz, hzl, hfzz, hcz, _⟩ := own_set HOz.out (Below.refl _ _) (i := 4) (by omega) (.int .u8 0) rfl
  subst ez
  have HNE : Hid (gy ≠ gz) := Lib.hid (by omega)
  obtain ⟨gy', ey', _, _, hfy, hcy, _⟩ := own_set HOy.out (Below.refl _ _) (i := 0) (by omega) (.int .u8 0) rfl
  injection ey' with ey'; injection ey' with ey'; subst ey'
  have HGY : Hid (w.heap.size ≤ gy) := Lib.hid (Nat.le_trans HGE.out hgy)
  have HGZ : Hid (w.heap.size ≤ gz) := Lib.hid (Nat.le_trans (Nat.le_trans HGE.out HLy.out.size) hgz)
  have hc0 := hcy 0 _ (by rw [List.getElem?_map, HE0.out]; rfl)
  have hput := own_put HOy.out (i := 0) (by omega) (.int .u8 (bits .andNot .u8 e0 64)) rfl
  rw [← List.map_set] at hput
  have hkz := HOz.out.kept (grown_setCell wz gy 0 (.int .u8 (bits .andNot .u8 e0 64))) (.inr (by simp only [Value.ownBlock]; intro h; injection h with h; exact HNE.out h.symm))
  have HBn := Lib.hid (HB.out.setCell (p := ⟨gy, 0, none⟩) HGY.out (.int .u8 (bits .andNot .u8 e0 64)))
  clear hcz hcy hfzz hgy hyl hgz hzl hcf HOy HOz HB
  have HOy := Lib.hid hput; have HOz := Lib.hid hkz
  clear hput hkz
  go_upto_region 12 with fail
  generalize wz.setCell ⟨gy, 0, none⟩ (.int .u8 (bits .andNot .u8 e0 64)) = wv at HOy HOz HBn ⊢
  clear hfy hc0
  obtain ⟨gz', ez', _, _, hfz, hcz, _⟩ := own_set HOz.out (Below.refl _ _) (i := 4) (by omega) (.int .u8 0) rfl
  injection ez' with ez'; injection ez' with ez'; subst ez'
  have hc4 := hcz 4 _ (by rw [List.getElem?_map, HE4.out]; rfl)
  have hput := own_put HOz.out (i := 4) (by omega) (.int .u8 (bits .or .u8 ((1 + v) % 256) 128)) rfl
  rw [← List.map_set] at hput
  have hky := HOy.out.kept (grown_setCell wv gz 4 (.int .u8 (bits .or .u8 ((1 + v) % 256) 128))) (.inr (by simp only [Value.ownBlock]; intro h; injection h with h; exact HNE.out h))
  have HB := Lib.hid (HBn.out.setCell (p := ⟨gz, 4, none⟩) HGZ.out (.int .u8 (bits .or .u8 ((1 + v) % 256) 128)))
  clear hcz HOy HOz HBn
  have HOy := Lib.hid hky; have HOz := Lib.hid hput
  clear hput hky
  go_upto_region 13 with fail
  generalize wv.setCell ⟨gz, 4, none⟩ (.int .u8 (bits .or .u8 ((1 + v) % 256) 128)) = wx at HOy HOz HB ⊢
  clear hfz hc4
  obtain ⟨_, _, ey, _, hiy, _⟩ := ints_of_own HOy.out HYW.out
  injection ey with e1 e2 e3
  subst e1; subst e3
  clear e2
  obtain ⟨_, _, ez, _, hiz, _⟩ := ints_of_own HOz.out HZW.out
  injection ez with e1 e2 e3
  subst e1; subst e3
  clear e2
  have HIY := Lib.hid (hiy)
  have HIZ := Lib.hid (hiz)
  clear hiy hiz HOy HOz HIF
  go_wp2_with fail
  refine Calls.mono (HPY.out _ _ _ HIY.out) ?_
  rintro e w7 ⟨rfl, hb⟩
  replace HB := Lib.hid (bl_next HB.out HB.out.size hb)
  replace HIY := Lib.hid (HIY.out.below hb)
  replace HIZ := Lib.hid (HIZ.out.below hb)
  clear hb
  go_upto_region 14 with (first | (refine wpList_store_row rfl 28 _ _ rfl _ rfl RZ rowZ rfl 28 (heap_alloc_new _ _) (by rw [HRL.out]; rfl) (by rw [HRL.out]; rfl) HRO.out ?_; intro w8 hr hg) | fail)
  have hal := (Below.refl w7.heap.size w7).alloc (Nat.le_refl _) (.cells (rowZ).toArray 28)
  have hb : Below w7.heap.size w7 w8 := hal.grown hg hal.size (by intro k hk; injection hk with hk; omega)
  replace HB := Lib.hid (bl_next HB.out HB.out.size hb)
  replace HIY := Lib.hid (HIY.out.below hb)
  replace HIZ := Lib.hid (HIZ.out.below hb)
  have HG3 := Lib.hid (hr)
  clear hr hg hal hb
  obtain ⟨g3, hg⟩ : ∃ g, w7.heap.size = g := ⟨_, rfl⟩
  rw [hg] at HG3 ⊢
  clear hg
  clear HG3
  go_wp2_with fail
  refine Calls.mono (HPZ.out _ _ _ HIZ.out) ?_
  rintro e w9 ⟨rfl, hb⟩
  replace HB := Lib.hid (bl_next HB.out HB.out.size hb)
  replace HIY := Lib.hid (HIY.out.below hb)
  replace HIZ := Lib.hid (HIZ.out.below hb)
  clear hb
  go_upto_region 15 with (first | (refine wpList_store_row rfl 28 _ _ rfl _ rfl RZ rowZ rfl 28 (heap_alloc_new _ _) (by rw [HRL.out]; rfl) (by rw [HRL.out]; rfl) HRO.out ?_; intro w10 hr hg) | fail)
  have hal := (Below.refl w9.heap.size w9).alloc (Nat.le_refl _) (.cells (rowZ).toArray 28)
  have hb : Below w9.heap.size w9 w10 := hal.grown hg hal.size (by intro k hk; injection hk with hk; omega)
  replace HB := Lib.hid (bl_next HB.out HB.out.size hb)
  replace HIY := Lib.hid (HIY.out.below hb)
  replace HIZ := Lib.hid (HIZ.out.below hb)
  have HG4 := Lib.hid (hr)
  clear hr hg hal hb
  obtain ⟨g4, hg⟩ : ∃ g, w9.heap.size = g := ⟨_, rfl⟩
  rw [hg] at HG4 ⊢
  clear hg
  clear HG4
  go_wp2_with fail
  refine Calls.mono (HKN.out _) ?_
  rintro e w11 ⟨rfl, hb⟩
  replace HB := Lib.hid (bl_next HB.out HB.out.size hb)
  replace HIY := Lib.hid (HIY.out.below hb)
  replace HIZ := Lib.hid (HIZ.out.below hb)
  clear hb
  go_wp2_with fail
  go_ret
  exact ⟨rfl, HB.out⟩
set_option maxRecDepth 100000 in
set_option maxHeartbeats 8000000 in
theorem cuts5_core2 (w : World) (X : List Value) (n cut v : Int) (h : Hd) (s : Int) (k L kl j : Nat) (es ks : List Int) (e0 : Int)
    (t0 t1 t2 t3 t4 t5 t6 t7 wd : Int)
    (HHk : Hid (∀ a tc, (h.row a tc).length = 20 ∧ (∀ v ∈ h.row a tc, v.oneCell' = true) ∧ (h.row a tc)[0]? = some (.int .i64 2) ∧ (∀ (j : Nat) (v : Value), ([.int .u8 t0, .int .u8 t1, .int .u8 t2, .int .u8 t3, .int .u8 t4, .int .u8 t5, .int .u8 t6, .int .u8 t7] : List Value)[j]? = some v → (h.row a tc)[1 + j]? = some v) ∧ (h.row a tc)[18]? = some (.int .i64 wd)))
    (HEN : Hid (∀ w1, Calls Try.prog 13 #[.agg ([.int .i64 1, .int .u8 t0, .int .u8 t1, .int .u8 t2, .int .u8 t3, .int .u8 t4, .int .u8 t5, .int .u8 t6, .int .u8 t7, .int .u8 0, .int .u8 0, .int .u8 0, .int .u8 0, .int .u8 0, .int .u8 0, .int .u8 0, .int .u8 0, .slice none 0 0, .int .i64 wd, .bool false] : List Value).toArray, .int .i64 k] w1 fun e w' => Below w1.heap.size w1 w' ∧ ∃ a cap, e = .returned (.tuple #[.slice a L cap, .int .i64 0]) ∧ IntsK .u8 w' a L es))
    (HXL : Hid (X.length = 6)) (hL : 6 ≤ L ∧ L ≤ 1000) (hk : 12 ≤ k ∧ k ≤ 100) (hj : j < L + k)
    (HE0 : Hid ((es ++ List.replicate k 0)[0]? = some e0)) (HE4 : Hid ((es ++ List.replicate k 0)[4]? = some 1)) 
    (HEW : Hid (∀ x ∈ es ++ List.replicate k 0, (Lit.int .u8 x).wf = true))
    (HYW : Hid (∀ x ∈ (es ++ List.replicate k 0).set 0 (bits .andNot .u8 e0 64), (Lit.int .u8 x).wf = true)) (HZW : Hid (∀ x ∈ (es ++ List.replicate k 0).set 4 (bits .or .u8 ((1 + v) % 256) 128), (Lit.int .u8 x).wf = true))
    (HKH : Hid (∀ w1, Below w.heap.size w w1 → Calls Try.prog 6 #[.agg X.toArray] w1 fun e w' => Below w1.heap.size w1 w' ∧ ∃ b tc, e = .returned (.agg (h.row b tc).toArray) ∧ IntsK .u8 w' b kl ks))
    (HWI : Hid (∀ w1, Calls Try.prog 8 #[.int .i64 n, .int .i64 12, .int .i64 100] w1 fun e w' => e = .returned (.int .i64 k) ∧ w1 = w'))
    (HWJ : Hid (∀ w1, Calls Try.prog 8 #[.int .i64 cut, .int .i64 0, .int .i64 ((L : Int) + k - 1)] w1 fun e w' => e = .returned (.int .i64 j) ∧ w1 = w'))
    (RZ : List Value) (HRL : Hid (RZ.length = 20)) (HRO : Hid (∀ v ∈ RZ, v.oneCell' = true))
    (HPJ : Hid (∀ w1 a cap, IntsK .u8 w1 a j ((es ++ List.replicate k 0).take j) → Makes Try.prog 14 #[.slice a j cap] w1 (.tuple #[.agg RZ.toArray, .int .i64 0, .int .i64 0, .int .i64 12])))
    (HPY : Hid (∀ w1 a cap, IntsK .u8 w1 a (L + k) ((es ++ List.replicate k 0).set 0 (bits .andNot .u8 e0 64)) → Makes Try.prog 14 #[.slice a (L + k) cap] w1 (.tuple #[.agg RZ.toArray, .int .i64 0, .int .i64 0, .int .i64 12])))
    (HPZ : Hid (∀ w1 a cap, IntsK .u8 w1 a (L + k) ((es ++ List.replicate k 0).set 4 (bits .or .u8 ((1 + v) % 256) 128)) → Makes Try.prog 14 #[.slice a (L + k) cap] w1 (.tuple #[.agg RZ.toArray, .int .i64 0, .int .i64 0, .int .i64 12])))
    (HKN : Hid (∀ w1, Makes Try.prog 12 #[] w1 (.bool true))) :
    Makes Try.prog 5 #[.agg X.toArray, .int .i64 n, .int .i64 cut, .int .u8 v] w (.bool true) := by
  have HB := Lib.hid (Below.refl w.heap.size w)
  go_enter Try.func5, Try.ntmps5
  go_upto_region 1 with fail
  have hb := (Below.refl w.heap.size w).alloc (Nat.le_refl _) (.cells X.toArray 24)
  replace HB := Lib.hid (bl_next HB.out HB.out.size hb)
  have HG0 := Lib.hid (heap_alloc_new w (.cells X.toArray 24))
  clear hb
  generalize w.alloc (.cells X.toArray 24) = w1 at HB HG0 ⊢
  obtain ⟨g0, hg⟩ : ∃ g, w.heap.size = g := ⟨_, rfl⟩
  rw [hg] at HG0 ⊢
  clear hg
  go_wp2_with (first | (refine wpList_load_mid rfl 24 _ rfl g0 0 rfl X _ (rngL HG0.out) Try.underlying24 rfl (by rw [HXL.out]; rfl) ?_) | fail)
  refine Calls.mono (HKH.out _ HB.out) ?_
  rintro e w2 ⟨hb, b1, tc1, rfl, hi1⟩
  replace HB := Lib.hid (bl_next HB.out HB.out.size hb)
  replace HG0 := Lib.hid (bl_row hb (lt_of_block HG0.out) HG0.out)
  clear hb
  have HI1 := Lib.hid (hi1)
  clear hi1
  have HR1 := Lib.hid (HHk.out b1 tc1).2.2
  have HL1 := Lib.hid ((HHk.out b1 tc1).1); have HO1 := Lib.hid ((HHk.out b1 tc1).2.1)
  obtain ⟨R1, hR1⟩ : ∃ R, h.row b1 tc1 = R := ⟨_, rfl⟩
  rw [hR1] at HL1 HO1 HR1 ⊢
  clear hR1
  clear HHk HKH HG0
  have HGE := Lib.hid HB.out.size
  go_upto_region 2 with (first | (refine wpList_store_row rfl 28 _ _ rfl _ rfl R1 rowZ rfl 28 (heap_alloc_new _ _) (by rw [HL1.out]; rfl) (by rw [HL1.out]; rfl) HO1.out ?_; intro w3 hr hg) | fail)
  have hal := (Below.refl w2.heap.size w2).alloc (Nat.le_refl _) (.cells (rowZ).toArray 28)
  have hb : Below w2.heap.size w2 w3 := hal.grown hg hal.size (by intro k hk; injection hk with hk; omega)
  replace HB := Lib.hid (bl_next HB.out HB.out.size hb)
  replace HI1 := Lib.hid (HI1.out.below hb)
  have HG1 := Lib.hid (hr)
  clear hr hg hal hb
  obtain ⟨g1, hg⟩ : ∃ g, w2.heap.size = g := ⟨_, rfl⟩
  rw [hg] at HG1 HGE ⊢
  clear hg
  have c0 := cell_row HG1.out 0 _ HR1.out.1
  have c18 := cell_row HG1.out 18 _ HR1.out.2.2
  have HRT := Lib.hid (rng_row HG1.out 1 _ HR1.out.2.1)
  go_upto_region 4 with (first | (refine wpList_load_mid rfl 26 _ rfl g1 1 rfl ([.int .u8 t0, .int .u8 t1, .int .u8 t2, .int .u8 t3, .int .u8 t4, .int .u8 t5, .int .u8 t6, .int .u8 t7] : List Value) _ HRT.out Try.underlying26 rfl rfl ?_) | (refine wpList_store_row rfl 28 _ _ rfl _ rfl ([.int .i64 1, .int .u8 t0, .int .u8 t1, .int .u8 t2, .int .u8 t3, .int .u8 t4, .int .u8 t5, .int .u8 t6, .int .u8 t7, .int .u8 0, .int .u8 0, .int .u8 0, .int .u8 0, .int .u8 0, .int .u8 0, .int .u8 0, .int .u8 0, .slice none 0 0, .int .i64 wd, .bool false] : List Value) R1 rfl 28 HG1.out (by rw [HL1.out]; rfl) rfl (by intro v hv; simp at hv; rcases hv with rfl | rfl | rfl | rfl | rfl | rfl | rfl | rfl | rfl | rfl | rfl | rfl | rfl <;> rfl) ?_; intro w4 hr hg) | fail)
  replace HB := Lib.hid (HB.out.grown hg HB.out.size (by intro k hk; injection hk with hk; have := HGE.out; omega))
  replace HG1 := Lib.hid hr
  clear hr hg c0 c18 HRT HR1 HL1 HO1 HI1
  have HL1 : Hid (([.int .i64 1, .int .u8 t0, .int .u8 t1, .int .u8 t2, .int .u8 t3, .int .u8 t4, .int .u8 t5, .int .u8 t6, .int .u8 t7, .int .u8 0, .int .u8 0, .int .u8 0, .int .u8 0, .int .u8 0, .int .u8 0, .int .u8 0, .int .u8 0, .slice none 0 0, .int .i64 wd, .bool false] : List Value).length = 20) := Lib.hid rfl
  obtain ⟨RN, hRN⟩ : ∃ R : List Value, [.int .i64 1, .int .u8 t0, .int .u8 t1, .int .u8 t2, .int .u8 t3, .int .u8 t4, .int .u8 t5, .int .u8 t6, .int .u8 t7, .int .u8 0, .int .u8 0, .int .u8 0, .int .u8 0, .int .u8 0, .int .u8 0, .int .u8 0, .int .u8 0, .slice none 0 0, .int .i64 wd, .bool false] = R := ⟨_, rfl⟩
  rw [hRN] at HG1 HL1 HEN
  clear hRN
  go_wp2_with fail
  refine Calls.mono (HWI.out _) ?_
  rintro e wq ⟨rfl, rfl⟩
  go_wp2_with (first | (refine wpList_load_mid rfl 28 _ rfl g1 0 rfl RN _ (rngL HG1.out) Try.underlying28 rfl (by rw [HL1.out]; rfl) ?_) | fail)
  refine Calls.mono (HEN.out _) ?_
  rintro e w5 ⟨hb, b2, cp2, rfl, hi2⟩
  clear HG1 HGE HEN
  replace HB := Lib.hid (bl_next HB.out HB.out.size hb)
  clear hb HWI
  have HI2 := Lib.hid (hi2)
  clear hi2
  go_upto_region 9 with (first | (at_builtin; refine wpList_append_bytes rfl _ _ rfl w5.heap.size 0 (.slice (some ⟨w5.heap.size, 0, none⟩) 0 0) [] rfl (World.ownsRow_made _ _ _ (Nat.le_refl _) (by unfold maxLen; omega) (by rfl)) _ _ _ _ rfl (HI2.out.below ((Below.refl _ _).alloc (Nat.le_refl _) _)) (by omega) (by simp) ?_; intro va wa hown hgrow; rw [Nat.zero_add, List.nil_append] at hown; obtain ⟨bva, cva, rfl, _⟩ := own_slice hown; have HOa := Lib.hid hown; have HLa := Lib.hid (((Below.refl w5.heap.size w5).alloc (Nat.le_refl _) _).grown hgrow (by simp) (by intro k hk; simp [Value.ownBlock] at hk; omega)); clear hown hgrow) | (at_builtin; refine wpList_append_zeros rfl _ _ rfl w5.heap.size _ _ _ rfl HOa.out k rfl (by omega) HLa.out.size ?_; intro vb wb hown hgrow _; obtain ⟨bvb, cvb, rfl, _⟩ := own_slice hown; have HOb := Lib.hid hown; have HLb := Lib.hid (HLa.out.grown hgrow HLa.out.size (fun k hk => own_base HOa.out k hk)); clear hown hgrow) | fail)
  obtain ⟨bf, cf, e, hcf, hif, _⟩ := ints_of_own HOb.out HEW.out
  injection e with e1 e2 e3
  subst e1; subst e3
  clear e2
  have hb := HLb.out
  replace HB := Lib.hid (bl_next HB.out HB.out.size hb)
  clear hb HOa HOb HLa HLb HI2
  have HIF := Lib.hid (hif)
  clear hif
  go_wp2_with fail
  refine Calls.mono (HWJ.out _) ?_
  rintro e wq ⟨rfl, rfl⟩
  go_wp2_with fail
  refine Calls.mono (HPJ.out _ _ _ (HIF.out.pre j (by omega))) ?_
  rintro e w6 ⟨rfl, hb⟩
  replace HB := Lib.hid (bl_next HB.out HB.out.size hb)
  replace HIF := Lib.hid (HIF.out.below hb)
  clear hb
  go_upto_region 10 with (first | (refine wpList_store_row rfl 28 _ _ rfl _ rfl RZ rowZ rfl 28 (heap_alloc_new _ _) (by rw [HRL.out]; rfl) (by rw [HRL.out]; rfl) HRO.out ?_; intro w7 hr hg) | fail)
  have hal := (Below.refl w6.heap.size w6).alloc (Nat.le_refl _) (.cells (rowZ).toArray 28)
  have hb : Below w6.heap.size w6 w7 := hal.grown hg hal.size (by intro k hk; injection hk with hk; omega)
  replace HB := Lib.hid (bl_next HB.out HB.out.size hb)
  replace HIF := Lib.hid (HIF.out.below hb)
  have HG2 := Lib.hid (hr)
  clear hr hg hal hb
  obtain ⟨g2, hg⟩ : ∃ g, w6.heap.size = g := ⟨_, rfl⟩
  rw [hg] at HG2 ⊢
  clear hg
  clear HG2
  go_upto_region 11 with (first | (at_builtin; refine wpList_append_bytes rfl _ _ rfl w7.heap.size 0 (.slice (some ⟨w7.heap.size, 0, none⟩) 0 0) [] rfl (World.ownsRow_made _ _ _ (Nat.le_refl _) (by unfold maxLen; omega) (by rfl)) _ _ _ _ rfl (HIF.out.below ((Below.refl _ _).alloc (Nat.le_refl _) _)) (by omega) (by simp) ?_; intro vy wy hown hgrow; rw [Nat.zero_add, List.nil_append] at hown; obtain ⟨bvy, cvy, rfl, _⟩ := own_slice hown; have HOy := Lib.hid hown; have HLy := Lib.hid (((Below.refl w7.heap.size w7).alloc (Nat.le_refl _) _).grown hgrow (by simp) (by intro k hk; simp [Value.ownBlock] at hk; omega)); clear hown hgrow) | (at_builtin; refine wpList_append_bytes rfl _ _ rfl wy.heap.size 0 (.slice (some ⟨wy.heap.size, 0, none⟩) 0 0) [] rfl (World.ownsRow_made _ _ _ (Nat.le_refl _) (by unfold maxLen; omega) (by rfl)) _ _ _ _ rfl ((Lib.hid (HIF.out.below HLy.out)).out.below ((Below.refl _ _).alloc (Nat.le_refl _) _)) (by omega) (by simp) ?_; intro vz wz hown hgrow; rw [Nat.zero_add, List.nil_append] at hown; obtain ⟨bvz, cvz, rfl, _⟩ := own_slice hown; have HOz := Lib.hid hown; have HLz := Lib.hid (((Below.refl wy.heap.size wy).alloc (Nat.le_refl _) _).grown hgrow (by simp) (by intro k hk; simp [Value.ownBlock] at hk; omega)); clear hown hgrow) | fail)
  obtain ⟨gy, ey, hgy, hyl, _, _, _⟩ := own_set HOy.out (Below.refl _ _) (i := 0) (by omega) (.int .u8 0) rfl
  subst ey
  replace HOy := Lib.hid (own_below HOy.out HLz.out)
  have HGE := Lib.hid HB.out.size
  replace HB := Lib.hid (bl_next HB.out HB.out.size HLy.out)
  replace HB := Lib.hid (bl_next HB.out HB.out.size HLz.out)
  obtain ⟨gz, ez, hgz, hzl, hfzz, hcz, _⟩ := own_set HOz.out (Below.refl _ _) (i := 4) (by omega) (.int .u8 0) rfl
  subst ez
  have HNE : Hid (gy ≠ gz) := Lib.hid (by omega)
  obtain ⟨gy', ey', _, _, hfy, hcy, _⟩ := own_set HOy.out (Below.refl _ _) (i := 0) (by omega) (.int .u8 0) rfl
  injection ey' with ey'; injection ey' with ey'; subst ey'
  have HGY : Hid (w.heap.size ≤ gy) := Lib.hid (Nat.le_trans HGE.out hgy)
  have HGZ : Hid (w.heap.size ≤ gz) := Lib.hid (Nat.le_trans (Nat.le_trans HGE.out HLy.out.size) hgz)
  have hc0 := hcy 0 _ (by rw [List.getElem?_map, HE0.out]; rfl)
  have hput := own_put HOy.out (i := 0) (by omega) (.int .u8 (bits .andNot .u8 e0 64)) rfl
  rw [← List.map_set] at hput
  have hkz := HOz.out.kept (grown_setCell wz gy 0 (.int .u8 (bits .andNot .u8 e0 64))) (.inr (by simp only [Value.ownBlock]; intro h; injection h with h; exact HNE.out h.symm))
  have HBn := Lib.hid (HB.out.setCell (p := ⟨gy, 0, none⟩) HGY.out (.int .u8 (bits .andNot .u8 e0 64)))
  clear hcz hcy hfzz hgy hyl hgz hzl hcf HOy HOz HB
  have HOy := Lib.hid hput; have HOz := Lib.hid hkz
  clear hput hkz
  go_upto_region 12 with fail
  generalize wz.setCell ⟨gy, 0, none⟩ (.int .u8 (bits .andNot .u8 e0 64)) = wv at HOy HOz HBn ⊢
  clear hfy hc0
  obtain ⟨gz', ez', _, _, hfz, hcz, _⟩ := own_set HOz.out (Below.refl _ _) (i := 4) (by omega) (.int .u8 0) rfl
  injection ez' with ez'; injection ez' with ez'; subst ez'
  have hc4 := hcz 4 _ (by rw [List.getElem?_map, HE4.out]; rfl)
  have hput := own_put HOz.out (i := 4) (by omega) (.int .u8 (bits .or .u8 ((1 + v) % 256) 128)) rfl
  rw [← List.map_set] at hput
  have hky := HOy.out.kept (grown_setCell wv gz 4 (.int .u8 (bits .or .u8 ((1 + v) % 256) 128))) (.inr (by simp only [Value.ownBlock]; intro h; injection h with h; exact HNE.out h))
  have HB := Lib.hid (HBn.out.setCell (p := ⟨gz, 4, none⟩) HGZ.out (.int .u8 (bits .or .u8 ((1 + v) % 256) 128)))
  clear hcz HOy HOz HBn
  have HOy := Lib.hid hky; have HOz := Lib.hid hput
  clear hput hky
  go_upto_region 13 with fail
  generalize wv.setCell ⟨gz, 4, none⟩ (.int .u8 (bits .or .u8 ((1 + v) % 256) 128)) = wx at HOy HOz HB ⊢
  clear hfz hc4
  obtain ⟨_, _, ey, _, hiy, _⟩ := ints_of_own HOy.out HYW.out
  injection ey with e1 e2 e3
  subst e1; subst e3
  clear e2
  obtain ⟨_, _, ez, _, hiz, _⟩ := ints_of_own HOz.out HZW.out
  injection ez with e1 e2 e3
  subst e1; subst e3
  clear e2
  have HIY := Lib.hid (hiy)
  have HIZ := Lib.hid (hiz)
  clear hiy hiz HOy HOz HIF
  go_wp2_with fail
  refine Calls.mono (HPY.out _ _ _ HIY.out) ?_
  rintro e w8 ⟨rfl, hb⟩
  replace HB := Lib.hid (bl_next HB.out HB.out.size hb)
  replace HIY := Lib.hid (HIY.out.below hb)
  replace HIZ := Lib.hid (HIZ.out.below hb)
  clear hb
  go_upto_region 14 with (first | (refine wpList_store_row rfl 28 _ _ rfl _ rfl RZ rowZ rfl 28 (heap_alloc_new _ _) (by rw [HRL.out]; rfl) (by rw [HRL.out]; rfl) HRO.out ?_; intro w9 hr hg) | fail)
  have hal := (Below.refl w8.heap.size w8).alloc (Nat.le_refl _) (.cells (rowZ).toArray 28)
  have hb : Below w8.heap.size w8 w9 := hal.grown hg hal.size (by intro k hk; injection hk with hk; omega)
  replace HB := Lib.hid (bl_next HB.out HB.out.size hb)
  replace HIY := Lib.hid (HIY.out.below hb)
  replace HIZ := Lib.hid (HIZ.out.below hb)
  have HG3 := Lib.hid (hr)
  clear hr hg hal hb
  obtain ⟨g3, hg⟩ : ∃ g, w8.heap.size = g := ⟨_, rfl⟩
  rw [hg] at HG3 ⊢
  clear hg
  clear HG3
  go_wp2_with fail
  refine Calls.mono (HPZ.out _ _ _ HIZ.out) ?_
  rintro e w10 ⟨rfl, hb⟩
  replace HB := Lib.hid (bl_next HB.out HB.out.size hb)
  replace HIY := Lib.hid (HIY.out.below hb)
  replace HIZ := Lib.hid (HIZ.out.below hb)
  clear hb
  go_upto_region 15 with (first | (refine wpList_store_row rfl 28 _ _ rfl _ rfl RZ rowZ rfl 28 (heap_alloc_new _ _) (by rw [HRL.out]; rfl) (by rw [HRL.out]; rfl) HRO.out ?_; intro w11 hr hg) | fail)
  have hal := (Below.refl w10.heap.size w10).alloc (Nat.le_refl _) (.cells (rowZ).toArray 28)
  have hb : Below w10.heap.size w10 w11 := hal.grown hg hal.size (by intro k hk; injection hk with hk; omega)
  replace HB := Lib.hid (bl_next HB.out HB.out.size hb)
  replace HIY := Lib.hid (HIY.out.below hb)
  replace HIZ := Lib.hid (HIZ.out.below hb)
  have HG4 := Lib.hid (hr)
  clear hr hg hal hb
  obtain ⟨g4, hg⟩ : ∃ g, w10.heap.size = g := ⟨_, rfl⟩
  rw [hg] at HG4 ⊢
  clear hg
  clear HG4
  go_wp2_with fail
  refine Calls.mono (HKN.out _) ?_
  rintro e w12 ⟨rfl, hb⟩
  replace HB := Lib.hid (bl_next HB.out HB.out.size hb)
  replace HIY := Lib.hid (HIY.out.below hb)
  replace HIZ := Lib.hid (HIZ.out.below hb)
  clear hb
  go_wp2_with fail
  go_ret
  exact ⟨rfl, HB.out⟩
end Go.Proofs.Ytichnlbilnbhoaa
