/- wheel: the law's due: one put in its place. -/
import Derived.Test.YtjkedccbieoenaaWhl24
import Derived.Test.YtjkedccbieoenaaRegion3
namespace Go.Proofs.Ytjkedccbieoenaa
open Go.RowKit
set_option linter.unusedVariables false
set_option linter.unusedSimpArgs false

set_option maxRecDepth 100000 in
set_option maxHeartbeats 4000000 in
theorem due_insN {x1 x2 x3 x4 x5 x6 x7 x11 x12 x13 x14 x15 x16 x17 x18 x19 x20 x21 x22 x23 x24 x25 x26 x27 x28 x29 x30 x31 x32 x33 x34 x35 x36 x37 x38 x39 x40 x41 x42 x43 x44 x45 x46 x47 x48 x49 x50 x51 x52 x53 x54 x55 x56 x57 x58 x59 x60 x61 x62 x63 x64 x65 x66 x67 x68 x69 x70 x71 x72 x73 x74 x75 x76 x77 x78 x79 x80 x81 x82 x83 x84 x85 x86 x87 x88 x89 x90 x91 x92 x93 x94 x95 x96 x97 x98 x99 x100 x101 x102 x103 x104 x105 x106 x107 : Value} {lb lo n cap i k : Nat} {N0 : List Tm} {x : Tm} {l : List Tm} (w : World) {Q : Exit → Act → World → Prop}
    (HI : Hid (Tms w (some ⟨lb, lo, none⟩) n l)) (HX : Hid (l[i]? = some x)) (hk : k ≤ 0) (HU : Hid (Tms w none 0 N0)) (hin : i < n) (hn : n ≤ 1000)
    (hQp : ∀ c a d v w, Q (.panic c) (a.put d v) w → Q (.panic c) a w)
    (hQ : ∀ (y77 y78 y79 y80 y81 y82 y83 y84 y85 y86 y87 y88 y89 y90 y91 : Value) (v' : Value) (w' : World), Below w.heap.size w w' → w'.ownsRow w.heap.size 70 2 v' 1 (rowV [x]) → Q .normal ⟨List.toArray (.slice (some ⟨lb, lo, none⟩) n cap :: x1 :: x2 :: x3 :: x4 :: x5 :: x6 :: x7 :: v' :: .int .i64 i :: .int .i64 k :: x11 :: x12 :: x13 :: x14 :: x15 :: x16 :: x17 :: x18 :: x19 :: x20 :: x21 :: x22 :: x23 :: x24 :: x25 :: x26 :: x27 :: x28 :: x29 :: x30 :: x31 :: x32 :: x33 :: x34 :: x35 :: x36 :: x37 :: x38 :: x39 :: x40 :: x41 :: x42 :: x43 :: x44 :: x45 :: x46 :: x47 :: x48 :: x49 :: x50 :: x51 :: x52 :: x53 :: x54 :: x55 :: x56 :: x57 :: x58 :: x59 :: x60 :: x61 :: x62 :: x63 :: x64 :: x65 :: x66 :: x67 :: x68 :: x69 :: x70 :: x71 :: x72 :: x73 :: x74 :: x75 :: x76 :: y77 :: y78 :: y79 :: y80 :: y81 :: y82 :: y83 :: y84 :: y85 :: y86 :: y87 :: y88 :: y89 :: y90 :: y91 :: x92 :: x93 :: x94 :: x95 :: x96 :: x97 :: x98 :: x99 :: x100 :: x101 :: x102 :: x103 :: x104 :: x105 :: x106 :: x107 :: []), []⟩ w') :
    Code.wp Try.prog (((Try.f29.body.bind (subRegion 12)).getD .skip)) Q ⟨List.toArray (.slice (some ⟨lb, lo, none⟩) n cap :: x1 :: x2 :: x3 :: x4 :: x5 :: x6 :: x7 :: .slice none 0 0 :: .int .i64 i :: .int .i64 k :: x11 :: x12 :: x13 :: x14 :: x15 :: x16 :: x17 :: x18 :: x19 :: x20 :: x21 :: x22 :: x23 :: x24 :: x25 :: x26 :: x27 :: x28 :: x29 :: x30 :: x31 :: x32 :: x33 :: x34 :: x35 :: x36 :: x37 :: x38 :: x39 :: x40 :: x41 :: x42 :: x43 :: x44 :: x45 :: x46 :: x47 :: x48 :: x49 :: x50 :: x51 :: x52 :: x53 :: x54 :: x55 :: x56 :: x57 :: x58 :: x59 :: x60 :: x61 :: x62 :: x63 :: x64 :: x65 :: x66 :: x67 :: x68 :: x69 :: x70 :: x71 :: x72 :: x73 :: x74 :: x75 :: x76 :: x77 :: x78 :: x79 :: x80 :: x81 :: x82 :: x83 :: x84 :: x85 :: x86 :: x87 :: x88 :: x89 :: x90 :: x91 :: x92 :: x93 :: x94 :: x95 :: x96 :: x97 :: x98 :: x99 :: x100 :: x101 :: x102 :: x103 :: x104 :: x105 :: x106 :: x107 :: []), []⟩ w := by
  have HK := Lib.hid hQ; have HKP := Lib.hid hQp
  clear hQ hQp
  conv => arg 2; whnf
  obtain ⟨bb, off, ea, _, hxw, hr⟩ := HI.out.rng HX.out
  injection ea with ea; injection ea with ea1 ea2; subst ea1; subst ea2
  have HR : Hid (∀ y, Below w.heap.size w y → y.rangeAt lb (lo + i * 2) (tmV x)) := Lib.hid (fun y hb => by obtain ⟨b2, o2, e2, _, _, h2⟩ := (HI.out.below hb).rng HX.out; injection e2 with e2; injection e2 with e3 e4; subst e3; subst e4; exact h2)
  have HXW := Lib.hid hxw
  clear hxw hr
  skip
  refine wp_plan (.t 1 (.t 2 (.t 3 (.t 5 (.t 6 (.t 7 (.t 8 (.t 11 (.t 12 (.t 13 (.b 0 (.b 4 (.u 9 (.u 10 (.u 14 (.t 15 .done)))) 9 (.u 4 (.u 10 (.u 14 (.t 15 .done))))) 9 (.u 0 (.u 4 (.u 10 (.u 14 (.t 15 .done)))))))))))))))) (fun y => Below w.heap.size w y) (by kernel_rfl) (by kernel_rfl) (by kernel_rfl) (fun c a d v w h => HKP.out c a d v w h) (Below.refl _ _).drew ?_
  have hS : (fun y => Below w.heap.size w y) w.drew := (Below.refl _ _).drew
  haveI hne : Nonempty (In (fun y => Below w.heap.size w y)) := ⟨⟨w, Below.refl _ _⟩⟩
  generalize w.drew = W0 at hS ⊢
  repeat (first | (refine plan_t_load (by rfl) (by kernel_rfl) 70 _ rfl lb (lo + i * 2) rfl (tmV x) _ (fun y hy => HR.out y hy) Try.underlying70 rfl rfl ?_; simp only [Act.put, List.setIfInBounds_toArray, List.set_cons_succ, List.set_cons_zero]) | (refine plan_t (by rfl) ?_; (first | go_big_quiet_skip | (go_big_quiet_want; go_big_quiet_op; go_big_quiet_on)); refine wpQuiet_nil ?_))
  skip
  refine plan_b ?_ ?_
  · refine plan_half (by rfl) (by kernel_rfl) ?_
    intro K hK
    go_wp2_with fail
    have hal := (Below.refl W0.heap.size W0).alloc (Nat.le_refl _) (.cells #[] 70)
    have ho := mk_own w.heap.size W0 hS.size
    have hS2 := bl_next hS hS.size hal
    refine ⟨hS2, ?_⟩
    clear hal hS
    generalize W0.alloc (.cells #[] 70) = w1 at hS2 ho ⊢
    generalize W0.heap.size = g0 at ho ⊢
    have hS := hS2
    clear hS2
    refine plan_b ?_ ?_
    · refine plan_half (by rfl) (by kernel_rfl) ?_
      intro K hK
      refine wp_append_tm tmL _ _ rfl w.heap.size 0 (.slice (some ⟨g0, 0, none⟩) 0 0) [] rfl ho none 0 0 [] rfl (Tms.nil _ _) (by omega) hS.size ?_
      intro v1 w2 ho2 hg2 hor2
      have hS2 := hS.grown hg2 hS.size (by intro q hq; exact (ho.lt q hq).1)
      refine hK _ _ ⟨hS2, ?_⟩
      simp only [Act.put, List.setIfInBounds_toArray, List.set_cons_succ, List.set_cons_zero]
      clear hK hS ho hg2 hor2
      have hS := hS2; have ho := ho2
      clear hS2 ho2
      rw [List.nil_append, Nat.zero_add] at ho
      refine plan_us (by rfl) (by kernel_rfl) ?_
      intro K hK
      refine wp_build_tm tmL _ rfl x rfl ?_
      have hal := (Below.refl w2.heap.size w2).alloc (Nat.le_refl _) (.cells (tmV x).toArray 70)
      have htm := tms_made w2 x HXW.out 70
      have hS2 := bl_next hS hS.size hal
      have hg9 : w2.heap.size < (w2.alloc (.cells (tmV x).toArray 70)).heap.size := by simp
      have hne9 : ∀ g, (Value.ownBlock v1) = some g → g ≠ w2.heap.size := fun g hg => by have := (ho.lt g hg).2; omega
      replace ho := own_below ho hal
      refine hK _ _ ⟨hS2, ?_⟩
      simp only [Act.put, List.setIfInBounds_toArray, List.set_cons_succ, List.set_cons_zero]
      clear hal hS hK
      generalize w2.alloc (.cells (tmV x).toArray 70) = w3 at hS2 htm hg9 ho ⊢
      generalize w2.heap.size = g9 at htm hg9 hne9 ⊢
      have hS := hS2
      clear hS2
      refine plan_us (by rfl) (by kernel_rfl) ?_
      intro K hK
      refine wp_append_tm tmL _ _ rfl w.heap.size 0 v1 [] rfl ho (some ⟨g9, 0, none⟩) 1 1 [x] rfl htm (by omega) hS.size ?_
      intro v2 w4 ho2 hg2 hor2
      have hS2 := hS.grown hg2 hS.size (by intro q hq; exact (ho.lt q hq).1)
      refine hK _ _ ⟨hS2, ?_⟩
      simp only [Act.put, List.setIfInBounds_toArray, List.set_cons_succ, List.set_cons_zero]
      replace htm := htm.off (Off.of_grown (M := blkV v1) hg2 (fun q hq => blkV_mem.2 hq)) (fun z hz hmm => by injection hz with hz; rw [← hz] at hmm; exact hne9 _ (blkV_mem.1 hmm) rfl)
      have hne2 : ∀ g, v2.ownBlock = some g → g ≠ g9 := fun g hg => by rcases hor2 with e | e; (rw [e] at hg; exact hne9 g hg); (rw [e] at hg; injection hg with hg; omega)
      replace hg9 := Nat.lt_of_lt_of_le hg9 hg2.size
      clear hne9
      have hne9 := hne2
      clear hne2
      clear hK hS ho hg2 hor2
      have hS := hS2; have ho := ho2
      clear hS2 ho2
      rw [List.nil_append, Nat.zero_add] at ho
      clear htm hne9 hg9
      refine plan_us (by rfl) (by kernel_rfl) ?_
      intro K hK
      refine wp_append_tm tmL _ _ rfl w.heap.size 1 v2 [x] rfl ho none 0 0 [] rfl (Tms.nil _ _) (by omega) hS.size ?_
      intro v3 w5 ho2 hg2 hor2
      have hS2 := hS.grown hg2 hS.size (by intro q hq; exact (ho.lt q hq).1)
      refine hK _ _ ⟨hS2, ?_⟩
      simp only [Act.put, List.setIfInBounds_toArray, List.set_cons_succ, List.set_cons_zero]
      clear hK hS ho hg2 hor2
      have hS := hS2; have ho := ho2
      clear hS2 ho2
      rw [List.append_nil, Nat.add_zero] at ho
      repeat (first | (refine plan_t (by rfl) ?_; (first | go_big_quiet_skip | (go_big_quiet_want; go_big_quiet_op; go_big_quiet_on)); refine wpQuiet_nil ?_))
      clear hne
      exact HK.out _ _ _ _ _ _ _ _ _ _ _ _ _ _ _ _ _ hS ho
    · refine plan_half (by rfl) (by kernel_rfl) ?_
      intro K hK
      refine wp_build_tm tmL _ rfl x rfl ?_
      have hal := (Below.refl w1.heap.size w1).alloc (Nat.le_refl _) (.cells (tmV x).toArray 70)
      have htm := tms_made w1 x HXW.out 70
      have hS2 := bl_next hS hS.size hal
      have hg9 : w1.heap.size < (w1.alloc (.cells (tmV x).toArray 70)).heap.size := by simp
      have hne9 : ∀ g, (Value.ownBlock (.slice (some ⟨g0, 0, none⟩) 0 0)) = some g → g ≠ w1.heap.size := fun g hg => by have := (ho.lt g hg).2; omega
      replace ho := own_below ho hal
      refine hK _ _ ⟨hS2, ?_⟩
      simp only [Act.put, List.setIfInBounds_toArray, List.set_cons_succ, List.set_cons_zero]
      clear hal hS hK
      generalize w1.alloc (.cells (tmV x).toArray 70) = w6 at hS2 htm hg9 ho ⊢
      generalize w1.heap.size = g9 at htm hg9 hne9 ⊢
      have hS := hS2
      clear hS2
      refine plan_us (by rfl) (by kernel_rfl) ?_
      intro K hK
      refine wp_append_tm tmL _ _ rfl w.heap.size 0 (.slice (some ⟨g0, 0, none⟩) 0 0) [] rfl ho none 0 0 [] rfl (Tms.nil _ _) (by omega) hS.size ?_
      intro v1 w7 ho2 hg2 hor2
      have hS2 := hS.grown hg2 hS.size (by intro q hq; exact (ho.lt q hq).1)
      refine hK _ _ ⟨hS2, ?_⟩
      simp only [Act.put, List.setIfInBounds_toArray, List.set_cons_succ, List.set_cons_zero]
      replace htm := htm.off (Off.of_grown (M := blkV (.slice (some ⟨g0, 0, none⟩) 0 0)) hg2 (fun q hq => blkV_mem.2 hq)) (fun z hz hmm => by injection hz with hz; rw [← hz] at hmm; exact hne9 _ (blkV_mem.1 hmm) rfl)
      have hne2 : ∀ g, v1.ownBlock = some g → g ≠ g9 := fun g hg => by rcases hor2 with e | e; (rw [e] at hg; exact hne9 g hg); (rw [e] at hg; injection hg with hg; omega)
      replace hg9 := Nat.lt_of_lt_of_le hg9 hg2.size
      clear hne9
      have hne9 := hne2
      clear hne2
      clear hK hS ho hg2 hor2
      have hS := hS2; have ho := ho2
      clear hS2 ho2
      rw [List.nil_append, Nat.zero_add] at ho
      refine plan_us (by rfl) (by kernel_rfl) ?_
      intro K hK
      refine wp_append_tm tmL _ _ rfl w.heap.size 0 v1 [] rfl ho (some ⟨g9, 0, none⟩) 1 1 [x] rfl htm (by omega) hS.size ?_
      intro v2 w8 ho2 hg2 hor2
      have hS2 := hS.grown hg2 hS.size (by intro q hq; exact (ho.lt q hq).1)
      refine hK _ _ ⟨hS2, ?_⟩
      simp only [Act.put, List.setIfInBounds_toArray, List.set_cons_succ, List.set_cons_zero]
      replace htm := htm.off (Off.of_grown (M := blkV v1) hg2 (fun q hq => blkV_mem.2 hq)) (fun z hz hmm => by injection hz with hz; rw [← hz] at hmm; exact hne9 _ (blkV_mem.1 hmm) rfl)
      have hne2 : ∀ g, v2.ownBlock = some g → g ≠ g9 := fun g hg => by rcases hor2 with e | e; (rw [e] at hg; exact hne9 g hg); (rw [e] at hg; injection hg with hg; omega)
      replace hg9 := Nat.lt_of_lt_of_le hg9 hg2.size
      clear hne9
      have hne9 := hne2
      clear hne2
      clear hK hS ho hg2 hor2
      have hS := hS2; have ho := ho2
      clear hS2 ho2
      rw [List.nil_append, Nat.zero_add] at ho
      clear htm hne9 hg9
      refine plan_us (by rfl) (by kernel_rfl) ?_
      intro K hK
      refine wp_append_tm tmL _ _ rfl w.heap.size 1 v2 [x] rfl ho none 0 0 [] rfl (Tms.nil _ _) (by omega) hS.size ?_
      intro v3 w9 ho2 hg2 hor2
      have hS2 := hS.grown hg2 hS.size (by intro q hq; exact (ho.lt q hq).1)
      refine hK _ _ ⟨hS2, ?_⟩
      simp only [Act.put, List.setIfInBounds_toArray, List.set_cons_succ, List.set_cons_zero]
      clear hK hS ho hg2 hor2
      have hS := hS2; have ho := ho2
      clear hS2 ho2
      rw [List.append_nil, Nat.add_zero] at ho
      repeat (first | (refine plan_t (by rfl) ?_; (first | go_big_quiet_skip | (go_big_quiet_want; go_big_quiet_op; go_big_quiet_on)); refine wpQuiet_nil ?_))
      clear hne
      exact HK.out _ _ _ _ _ _ _ _ _ _ _ _ _ _ _ _ _ hS ho
  · refine plan_half (by rfl) (by kernel_rfl) ?_
    intro K hK
    refine wp_build_tm tmL _ rfl x rfl ?_
    have hal := (Below.refl W0.heap.size W0).alloc (Nat.le_refl _) (.cells (tmV x).toArray 70)
    have htm := tms_made W0 x HXW.out 70
    have hS2 := bl_next hS hS.size hal
    have hg9 : W0.heap.size < (W0.alloc (.cells (tmV x).toArray 70)).heap.size := by simp
    refine hK _ _ ⟨hS2, ?_⟩
    simp only [Act.put, List.setIfInBounds_toArray, List.set_cons_succ, List.set_cons_zero]
    clear hal hS hK
    generalize W0.alloc (.cells (tmV x).toArray 70) = w10 at hS2 htm hg9 ⊢
    generalize W0.heap.size = g9 at htm hg9 ⊢
    have hS := hS2
    clear hS2
    refine plan_us (by rfl) (by kernel_rfl) ?_
    intro K hK
    go_wp2_with fail
    have hal := (Below.refl w10.heap.size w10).alloc (Nat.le_refl _) (.cells #[] 70)
    have ho := mk_own w.heap.size w10 hS.size
    have hS2 := bl_next hS hS.size hal
    refine ⟨hS2, ?_⟩
    replace htm := htm.below hal
    have hne9 : ∀ g, (Value.slice (some ⟨w10.heap.size, 0, none⟩) 0 0).ownBlock = some g → g ≠ g9 := fun g hg => by simp [Value.ownBlock] at hg; omega
    replace hg9 := Nat.lt_of_lt_of_le hg9 hal.size
    clear hal hS
    generalize w10.alloc (.cells #[] 70) = w11 at hS2 ho htm hg9 ⊢
    generalize w10.heap.size = g0 at ho hne9 ⊢
    have hS := hS2
    clear hS2
    refine plan_us (by rfl) (by kernel_rfl) ?_
    intro K hK
    refine wp_append_tm tmL _ _ rfl w.heap.size 0 (.slice (some ⟨g0, 0, none⟩) 0 0) [] rfl ho none 0 0 [] rfl (Tms.nil _ _) (by omega) hS.size ?_
    intro v1 w12 ho2 hg2 hor2
    have hS2 := hS.grown hg2 hS.size (by intro q hq; exact (ho.lt q hq).1)
    refine hK _ _ ⟨hS2, ?_⟩
    simp only [Act.put, List.setIfInBounds_toArray, List.set_cons_succ, List.set_cons_zero]
    replace htm := htm.off (Off.of_grown (M := blkV (.slice (some ⟨g0, 0, none⟩) 0 0)) hg2 (fun q hq => blkV_mem.2 hq)) (fun z hz hmm => by injection hz with hz; rw [← hz] at hmm; exact hne9 _ (blkV_mem.1 hmm) rfl)
    have hne2 : ∀ g, v1.ownBlock = some g → g ≠ g9 := fun g hg => by rcases hor2 with e | e; (rw [e] at hg; exact hne9 g hg); (rw [e] at hg; injection hg with hg; omega)
    replace hg9 := Nat.lt_of_lt_of_le hg9 hg2.size
    clear hne9
    have hne9 := hne2
    clear hne2
    clear hK hS ho hg2 hor2
    have hS := hS2; have ho := ho2
    clear hS2 ho2
    rw [List.nil_append, Nat.zero_add] at ho
    refine plan_us (by rfl) (by kernel_rfl) ?_
    intro K hK
    refine wp_append_tm tmL _ _ rfl w.heap.size 0 v1 [] rfl ho (some ⟨g9, 0, none⟩) 1 1 [x] rfl htm (by omega) hS.size ?_
    intro v2 w13 ho2 hg2 hor2
    have hS2 := hS.grown hg2 hS.size (by intro q hq; exact (ho.lt q hq).1)
    refine hK _ _ ⟨hS2, ?_⟩
    simp only [Act.put, List.setIfInBounds_toArray, List.set_cons_succ, List.set_cons_zero]
    replace htm := htm.off (Off.of_grown (M := blkV v1) hg2 (fun q hq => blkV_mem.2 hq)) (fun z hz hmm => by injection hz with hz; rw [← hz] at hmm; exact hne9 _ (blkV_mem.1 hmm) rfl)
    have hne2 : ∀ g, v2.ownBlock = some g → g ≠ g9 := fun g hg => by rcases hor2 with e | e; (rw [e] at hg; exact hne9 g hg); (rw [e] at hg; injection hg with hg; omega)
    replace hg9 := Nat.lt_of_lt_of_le hg9 hg2.size
    clear hne9
    have hne9 := hne2
    clear hne2
    clear hK hS ho hg2 hor2
    have hS := hS2; have ho := ho2
    clear hS2 ho2
    rw [List.nil_append, Nat.zero_add] at ho
    clear htm hne9 hg9
    refine plan_us (by rfl) (by kernel_rfl) ?_
    intro K hK
    refine wp_append_tm tmL _ _ rfl w.heap.size 1 v2 [x] rfl ho none 0 0 [] rfl (Tms.nil _ _) (by omega) hS.size ?_
    intro v3 w14 ho2 hg2 hor2
    have hS2 := hS.grown hg2 hS.size (by intro q hq; exact (ho.lt q hq).1)
    refine hK _ _ ⟨hS2, ?_⟩
    simp only [Act.put, List.setIfInBounds_toArray, List.set_cons_succ, List.set_cons_zero]
    clear hK hS ho hg2 hor2
    have hS := hS2; have ho := ho2
    clear hS2 ho2
    rw [List.append_nil, Nat.add_zero] at ho
    repeat (first | (refine plan_t (by rfl) ?_; (first | go_big_quiet_skip | (go_big_quiet_want; go_big_quiet_op; go_big_quiet_on)); refine wpQuiet_nil ?_))
    clear hne
    exact HK.out _ _ _ _ _ _ _ _ _ _ _ _ _ _ _ _ _ hS ho
set_option maxRecDepth 100000 in
set_option maxHeartbeats 4000000 in
theorem due_insS {x1 x2 x3 x4 x5 x6 x7 x11 x12 x13 x14 x15 x16 x17 x18 x19 x20 x21 x22 x23 x24 x25 x26 x27 x28 x29 x30 x31 x32 x33 x34 x35 x36 x37 x38 x39 x40 x41 x42 x43 x44 x45 x46 x47 x48 x49 x50 x51 x52 x53 x54 x55 x56 x57 x58 x59 x60 x61 x62 x63 x64 x65 x66 x67 x68 x69 x70 x71 x72 x73 x74 x75 x76 x77 x78 x79 x80 x81 x82 x83 x84 x85 x86 x87 x88 x89 x90 x91 x92 x93 x94 x95 x96 x97 x98 x99 x100 x101 x102 x103 x104 x105 x106 x107 : Value} {lb lo n cap i k m c8 b8 o8 : Nat} {N0 : List Tm} {x : Tm} {l : List Tm} (w : World) {Q : Exit → Act → World → Prop}
    (HI : Hid (Tms w (some ⟨lb, lo, none⟩) n l)) (HX : Hid (l[i]? = some x)) (hk : k ≤ m) (HU : Hid (Tms w (some ⟨b8, o8, none⟩) m N0)) (hin : i < n) (hn : n ≤ 1000) (hm : m ≤ 1000) (hc : m ≤ c8 ∧ c8 ≤ 9223372036854775807)
    (hQp : ∀ c a d v w, Q (.panic c) (a.put d v) w → Q (.panic c) a w)
    (hQ : ∀ (y77 y78 y79 y80 y81 y82 y83 y84 y85 y86 y87 y88 y89 y90 y91 : Value) (v' : Value) (w' : World), Below w.heap.size w w' → w'.ownsRow w.heap.size 70 2 v' (k + 1 + (m - k)) (rowV ((N0.take k ++ [x]) ++ N0.drop k)) → Q .normal ⟨List.toArray (.slice (some ⟨lb, lo, none⟩) n cap :: x1 :: x2 :: x3 :: x4 :: x5 :: x6 :: x7 :: v' :: .int .i64 i :: .int .i64 k :: x11 :: x12 :: x13 :: x14 :: x15 :: x16 :: x17 :: x18 :: x19 :: x20 :: x21 :: x22 :: x23 :: x24 :: x25 :: x26 :: x27 :: x28 :: x29 :: x30 :: x31 :: x32 :: x33 :: x34 :: x35 :: x36 :: x37 :: x38 :: x39 :: x40 :: x41 :: x42 :: x43 :: x44 :: x45 :: x46 :: x47 :: x48 :: x49 :: x50 :: x51 :: x52 :: x53 :: x54 :: x55 :: x56 :: x57 :: x58 :: x59 :: x60 :: x61 :: x62 :: x63 :: x64 :: x65 :: x66 :: x67 :: x68 :: x69 :: x70 :: x71 :: x72 :: x73 :: x74 :: x75 :: x76 :: y77 :: y78 :: y79 :: y80 :: y81 :: y82 :: y83 :: y84 :: y85 :: y86 :: y87 :: y88 :: y89 :: y90 :: y91 :: x92 :: x93 :: x94 :: x95 :: x96 :: x97 :: x98 :: x99 :: x100 :: x101 :: x102 :: x103 :: x104 :: x105 :: x106 :: x107 :: []), []⟩ w') :
    Code.wp Try.prog (((Try.f29.body.bind (subRegion 12)).getD .skip)) Q ⟨List.toArray (.slice (some ⟨lb, lo, none⟩) n cap :: x1 :: x2 :: x3 :: x4 :: x5 :: x6 :: x7 :: .slice (some ⟨b8, o8, none⟩) m c8 :: .int .i64 i :: .int .i64 k :: x11 :: x12 :: x13 :: x14 :: x15 :: x16 :: x17 :: x18 :: x19 :: x20 :: x21 :: x22 :: x23 :: x24 :: x25 :: x26 :: x27 :: x28 :: x29 :: x30 :: x31 :: x32 :: x33 :: x34 :: x35 :: x36 :: x37 :: x38 :: x39 :: x40 :: x41 :: x42 :: x43 :: x44 :: x45 :: x46 :: x47 :: x48 :: x49 :: x50 :: x51 :: x52 :: x53 :: x54 :: x55 :: x56 :: x57 :: x58 :: x59 :: x60 :: x61 :: x62 :: x63 :: x64 :: x65 :: x66 :: x67 :: x68 :: x69 :: x70 :: x71 :: x72 :: x73 :: x74 :: x75 :: x76 :: x77 :: x78 :: x79 :: x80 :: x81 :: x82 :: x83 :: x84 :: x85 :: x86 :: x87 :: x88 :: x89 :: x90 :: x91 :: x92 :: x93 :: x94 :: x95 :: x96 :: x97 :: x98 :: x99 :: x100 :: x101 :: x102 :: x103 :: x104 :: x105 :: x106 :: x107 :: []), []⟩ w := by
  have HK := Lib.hid hQ; have HKP := Lib.hid hQp
  clear hQ hQp
  conv => arg 2; whnf
  obtain ⟨bb, off, ea, _, hxw, hr⟩ := HI.out.rng HX.out
  injection ea with ea; injection ea with ea1 ea2; subst ea1; subst ea2
  have HR : Hid (∀ y, Below w.heap.size w y → y.rangeAt lb (lo + i * 2) (tmV x)) := Lib.hid (fun y hb => by obtain ⟨b2, o2, e2, _, _, h2⟩ := (HI.out.below hb).rng HX.out; injection e2 with e2; injection e2 with e3 e4; subst e3; subst e4; exact h2)
  have HXW := Lib.hid hxw
  clear hxw hr
  have HT : Hid (∀ y, Below w.heap.size w y → Tms y (some ⟨b8, o8, none⟩) k (N0.take k)) := Lib.hid (fun y hb => (HU.out.below hb).pre k hk)
  obtain ⟨hcc, hcm⟩ := hc
  refine wp_plan (.t 1 (.t 2 (.t 3 (.t 5 (.t 6 (.t 7 (.t 8 (.t 11 (.t 12 (.t 13 (.b 0 (.b 4 (.u 9 (.u 10 (.u 14 (.t 15 .done)))) 9 (.u 4 (.u 10 (.u 14 (.t 15 .done))))) 9 (.u 0 (.u 4 (.u 10 (.u 14 (.t 15 .done)))))))))))))))) (fun y => Below w.heap.size w y) (by kernel_rfl) (by kernel_rfl) (by kernel_rfl) (fun c a d v w h => HKP.out c a d v w h) (Below.refl _ _).drew ?_
  have hS : (fun y => Below w.heap.size w y) w.drew := (Below.refl _ _).drew
  haveI hne : Nonempty (In (fun y => Below w.heap.size w y)) := ⟨⟨w, Below.refl _ _⟩⟩
  generalize w.drew = W0 at hS ⊢
  repeat (first | (refine plan_t_load (by rfl) (by kernel_rfl) 70 _ rfl lb (lo + i * 2) rfl (tmV x) _ (fun y hy => HR.out y hy) Try.underlying70 rfl rfl ?_; simp only [Act.put, List.setIfInBounds_toArray, List.set_cons_succ, List.set_cons_zero]) | (refine plan_t (by rfl) ?_; (first | go_big_quiet_skip | (go_big_quiet_want; go_big_quiet_op; go_big_quiet_on)); refine wpQuiet_nil ?_))
  obtain ⟨bs, hbs⟩ : ∃ z, (if c8 = k then some (⟨b8, o8, none⟩ : Addr) else some ⟨b8, o8 + k * 2, none⟩) = z := ⟨_, rfl⟩
  have HD : Hid (∀ y, Below w.heap.size w y → Tms y bs (m - k) (N0.drop k)) := Lib.hid (fun y hb => by rw [← hbs]; exact (HU.out.below hb).rest k hk hcc)
  rw [hbs]
  clear hcc hcm hbs
  refine plan_b ?_ ?_
  · refine plan_half (by rfl) (by kernel_rfl) ?_
    intro K hK
    go_wp2_with fail
    have hal := (Below.refl W0.heap.size W0).alloc (Nat.le_refl _) (.cells #[] 70)
    have ho := mk_own w.heap.size W0 hS.size
    have hS2 := bl_next hS hS.size hal
    refine ⟨hS2, ?_⟩
    clear hal hS
    generalize W0.alloc (.cells #[] 70) = w1 at hS2 ho ⊢
    generalize W0.heap.size = g0 at ho ⊢
    have hS := hS2
    clear hS2
    refine plan_b ?_ ?_
    · refine plan_half (by rfl) (by kernel_rfl) ?_
      intro K hK
      refine wp_append_tm tmL _ _ rfl w.heap.size 0 (.slice (some ⟨g0, 0, none⟩) 0 0) [] rfl ho (some ⟨b8, o8, none⟩) k c8 (N0.take k) rfl (HT.out _ hS) (by omega) hS.size ?_
      intro v1 w2 ho2 hg2 hor2
      have hS2 := hS.grown hg2 hS.size (by intro q hq; exact (ho.lt q hq).1)
      refine hK _ _ ⟨hS2, ?_⟩
      simp only [Act.put, List.setIfInBounds_toArray, List.set_cons_succ, List.set_cons_zero]
      clear hK hS ho hg2 hor2
      have hS := hS2; have ho := ho2
      clear hS2 ho2
      rw [List.nil_append, Nat.zero_add] at ho
      refine plan_us (by rfl) (by kernel_rfl) ?_
      intro K hK
      refine wp_build_tm tmL _ rfl x rfl ?_
      have hal := (Below.refl w2.heap.size w2).alloc (Nat.le_refl _) (.cells (tmV x).toArray 70)
      have htm := tms_made w2 x HXW.out 70
      have hS2 := bl_next hS hS.size hal
      have hg9 : w2.heap.size < (w2.alloc (.cells (tmV x).toArray 70)).heap.size := by simp
      have hne9 : ∀ g, (Value.ownBlock v1) = some g → g ≠ w2.heap.size := fun g hg => by have := (ho.lt g hg).2; omega
      replace ho := own_below ho hal
      refine hK _ _ ⟨hS2, ?_⟩
      simp only [Act.put, List.setIfInBounds_toArray, List.set_cons_succ, List.set_cons_zero]
      clear hal hS hK
      generalize w2.alloc (.cells (tmV x).toArray 70) = w3 at hS2 htm hg9 ho ⊢
      generalize w2.heap.size = g9 at htm hg9 hne9 ⊢
      have hS := hS2
      clear hS2
      refine plan_us (by rfl) (by kernel_rfl) ?_
      intro K hK
      refine wp_append_tm tmL _ _ rfl w.heap.size k v1 (N0.take k) rfl ho (some ⟨g9, 0, none⟩) 1 1 [x] rfl htm (by omega) hS.size ?_
      intro v2 w4 ho2 hg2 hor2
      have hS2 := hS.grown hg2 hS.size (by intro q hq; exact (ho.lt q hq).1)
      refine hK _ _ ⟨hS2, ?_⟩
      simp only [Act.put, List.setIfInBounds_toArray, List.set_cons_succ, List.set_cons_zero]
      replace htm := htm.off (Off.of_grown (M := blkV v1) hg2 (fun q hq => blkV_mem.2 hq)) (fun z hz hmm => by injection hz with hz; rw [← hz] at hmm; exact hne9 _ (blkV_mem.1 hmm) rfl)
      have hne2 : ∀ g, v2.ownBlock = some g → g ≠ g9 := fun g hg => by rcases hor2 with e | e; (rw [e] at hg; exact hne9 g hg); (rw [e] at hg; injection hg with hg; omega)
      replace hg9 := Nat.lt_of_lt_of_le hg9 hg2.size
      clear hne9
      have hne9 := hne2
      clear hne2
      clear hK hS ho hg2 hor2
      have hS := hS2; have ho := ho2
      clear hS2 ho2
      clear htm hne9 hg9
      refine plan_us (by rfl) (by kernel_rfl) ?_
      intro K hK
      refine wp_append_tm tmL _ _ rfl w.heap.size (k + 1) v2 (N0.take k ++ [x]) rfl ho bs (m - k) (c8 - k) (N0.drop k) rfl (HD.out _ hS) (by omega) hS.size ?_
      intro v3 w5 ho2 hg2 hor2
      have hS2 := hS.grown hg2 hS.size (by intro q hq; exact (ho.lt q hq).1)
      refine hK _ _ ⟨hS2, ?_⟩
      simp only [Act.put, List.setIfInBounds_toArray, List.set_cons_succ, List.set_cons_zero]
      clear hK hS ho hg2 hor2
      have hS := hS2; have ho := ho2
      clear hS2 ho2
      repeat (first | (refine plan_t (by rfl) ?_; (first | go_big_quiet_skip | (go_big_quiet_want; go_big_quiet_op; go_big_quiet_on)); refine wpQuiet_nil ?_))
      clear hne
      exact HK.out _ _ _ _ _ _ _ _ _ _ _ _ _ _ _ _ _ hS ho
    · refine plan_half (by rfl) (by kernel_rfl) ?_
      intro K hK
      refine wp_build_tm tmL _ rfl x rfl ?_
      have hal := (Below.refl w1.heap.size w1).alloc (Nat.le_refl _) (.cells (tmV x).toArray 70)
      have htm := tms_made w1 x HXW.out 70
      have hS2 := bl_next hS hS.size hal
      have hg9 : w1.heap.size < (w1.alloc (.cells (tmV x).toArray 70)).heap.size := by simp
      have hne9 : ∀ g, (Value.ownBlock (.slice (some ⟨g0, 0, none⟩) 0 0)) = some g → g ≠ w1.heap.size := fun g hg => by have := (ho.lt g hg).2; omega
      replace ho := own_below ho hal
      refine hK _ _ ⟨hS2, ?_⟩
      simp only [Act.put, List.setIfInBounds_toArray, List.set_cons_succ, List.set_cons_zero]
      clear hal hS hK
      generalize w1.alloc (.cells (tmV x).toArray 70) = w6 at hS2 htm hg9 ho ⊢
      generalize w1.heap.size = g9 at htm hg9 hne9 ⊢
      have hS := hS2
      clear hS2
      refine plan_us (by rfl) (by kernel_rfl) ?_
      intro K hK
      refine wp_append_tm tmL _ _ rfl w.heap.size 0 (.slice (some ⟨g0, 0, none⟩) 0 0) [] rfl ho (some ⟨b8, o8, none⟩) k c8 (N0.take k) rfl (HT.out _ hS) (by omega) hS.size ?_
      intro v1 w7 ho2 hg2 hor2
      have hS2 := hS.grown hg2 hS.size (by intro q hq; exact (ho.lt q hq).1)
      refine hK _ _ ⟨hS2, ?_⟩
      simp only [Act.put, List.setIfInBounds_toArray, List.set_cons_succ, List.set_cons_zero]
      replace htm := htm.off (Off.of_grown (M := blkV (.slice (some ⟨g0, 0, none⟩) 0 0)) hg2 (fun q hq => blkV_mem.2 hq)) (fun z hz hmm => by injection hz with hz; rw [← hz] at hmm; exact hne9 _ (blkV_mem.1 hmm) rfl)
      have hne2 : ∀ g, v1.ownBlock = some g → g ≠ g9 := fun g hg => by rcases hor2 with e | e; (rw [e] at hg; exact hne9 g hg); (rw [e] at hg; injection hg with hg; omega)
      replace hg9 := Nat.lt_of_lt_of_le hg9 hg2.size
      clear hne9
      have hne9 := hne2
      clear hne2
      clear hK hS ho hg2 hor2
      have hS := hS2; have ho := ho2
      clear hS2 ho2
      rw [List.nil_append, Nat.zero_add] at ho
      refine plan_us (by rfl) (by kernel_rfl) ?_
      intro K hK
      refine wp_append_tm tmL _ _ rfl w.heap.size k v1 (N0.take k) rfl ho (some ⟨g9, 0, none⟩) 1 1 [x] rfl htm (by omega) hS.size ?_
      intro v2 w8 ho2 hg2 hor2
      have hS2 := hS.grown hg2 hS.size (by intro q hq; exact (ho.lt q hq).1)
      refine hK _ _ ⟨hS2, ?_⟩
      simp only [Act.put, List.setIfInBounds_toArray, List.set_cons_succ, List.set_cons_zero]
      replace htm := htm.off (Off.of_grown (M := blkV v1) hg2 (fun q hq => blkV_mem.2 hq)) (fun z hz hmm => by injection hz with hz; rw [← hz] at hmm; exact hne9 _ (blkV_mem.1 hmm) rfl)
      have hne2 : ∀ g, v2.ownBlock = some g → g ≠ g9 := fun g hg => by rcases hor2 with e | e; (rw [e] at hg; exact hne9 g hg); (rw [e] at hg; injection hg with hg; omega)
      replace hg9 := Nat.lt_of_lt_of_le hg9 hg2.size
      clear hne9
      have hne9 := hne2
      clear hne2
      clear hK hS ho hg2 hor2
      have hS := hS2; have ho := ho2
      clear hS2 ho2
      clear htm hne9 hg9
      refine plan_us (by rfl) (by kernel_rfl) ?_
      intro K hK
      refine wp_append_tm tmL _ _ rfl w.heap.size (k + 1) v2 (N0.take k ++ [x]) rfl ho bs (m - k) (c8 - k) (N0.drop k) rfl (HD.out _ hS) (by omega) hS.size ?_
      intro v3 w9 ho2 hg2 hor2
      have hS2 := hS.grown hg2 hS.size (by intro q hq; exact (ho.lt q hq).1)
      refine hK _ _ ⟨hS2, ?_⟩
      simp only [Act.put, List.setIfInBounds_toArray, List.set_cons_succ, List.set_cons_zero]
      clear hK hS ho hg2 hor2
      have hS := hS2; have ho := ho2
      clear hS2 ho2
      repeat (first | (refine plan_t (by rfl) ?_; (first | go_big_quiet_skip | (go_big_quiet_want; go_big_quiet_op; go_big_quiet_on)); refine wpQuiet_nil ?_))
      clear hne
      exact HK.out _ _ _ _ _ _ _ _ _ _ _ _ _ _ _ _ _ hS ho
  · refine plan_half (by rfl) (by kernel_rfl) ?_
    intro K hK
    refine wp_build_tm tmL _ rfl x rfl ?_
    have hal := (Below.refl W0.heap.size W0).alloc (Nat.le_refl _) (.cells (tmV x).toArray 70)
    have htm := tms_made W0 x HXW.out 70
    have hS2 := bl_next hS hS.size hal
    have hg9 : W0.heap.size < (W0.alloc (.cells (tmV x).toArray 70)).heap.size := by simp
    refine hK _ _ ⟨hS2, ?_⟩
    simp only [Act.put, List.setIfInBounds_toArray, List.set_cons_succ, List.set_cons_zero]
    clear hal hS hK
    generalize W0.alloc (.cells (tmV x).toArray 70) = w10 at hS2 htm hg9 ⊢
    generalize W0.heap.size = g9 at htm hg9 ⊢
    have hS := hS2
    clear hS2
    refine plan_us (by rfl) (by kernel_rfl) ?_
    intro K hK
    go_wp2_with fail
    have hal := (Below.refl w10.heap.size w10).alloc (Nat.le_refl _) (.cells #[] 70)
    have ho := mk_own w.heap.size w10 hS.size
    have hS2 := bl_next hS hS.size hal
    refine ⟨hS2, ?_⟩
    replace htm := htm.below hal
    have hne9 : ∀ g, (Value.slice (some ⟨w10.heap.size, 0, none⟩) 0 0).ownBlock = some g → g ≠ g9 := fun g hg => by simp [Value.ownBlock] at hg; omega
    replace hg9 := Nat.lt_of_lt_of_le hg9 hal.size
    clear hal hS
    generalize w10.alloc (.cells #[] 70) = w11 at hS2 ho htm hg9 ⊢
    generalize w10.heap.size = g0 at ho hne9 ⊢
    have hS := hS2
    clear hS2
    refine plan_us (by rfl) (by kernel_rfl) ?_
    intro K hK
    refine wp_append_tm tmL _ _ rfl w.heap.size 0 (.slice (some ⟨g0, 0, none⟩) 0 0) [] rfl ho (some ⟨b8, o8, none⟩) k c8 (N0.take k) rfl (HT.out _ hS) (by omega) hS.size ?_
    intro v1 w12 ho2 hg2 hor2
    have hS2 := hS.grown hg2 hS.size (by intro q hq; exact (ho.lt q hq).1)
    refine hK _ _ ⟨hS2, ?_⟩
    simp only [Act.put, List.setIfInBounds_toArray, List.set_cons_succ, List.set_cons_zero]
    replace htm := htm.off (Off.of_grown (M := blkV (.slice (some ⟨g0, 0, none⟩) 0 0)) hg2 (fun q hq => blkV_mem.2 hq)) (fun z hz hmm => by injection hz with hz; rw [← hz] at hmm; exact hne9 _ (blkV_mem.1 hmm) rfl)
    have hne2 : ∀ g, v1.ownBlock = some g → g ≠ g9 := fun g hg => by rcases hor2 with e | e; (rw [e] at hg; exact hne9 g hg); (rw [e] at hg; injection hg with hg; omega)
    replace hg9 := Nat.lt_of_lt_of_le hg9 hg2.size
    clear hne9
    have hne9 := hne2
    clear hne2
    clear hK hS ho hg2 hor2
    have hS := hS2; have ho := ho2
    clear hS2 ho2
    rw [List.nil_append, Nat.zero_add] at ho
    refine plan_us (by rfl) (by kernel_rfl) ?_
    intro K hK
    refine wp_append_tm tmL _ _ rfl w.heap.size k v1 (N0.take k) rfl ho (some ⟨g9, 0, none⟩) 1 1 [x] rfl htm (by omega) hS.size ?_
    intro v2 w13 ho2 hg2 hor2
    have hS2 := hS.grown hg2 hS.size (by intro q hq; exact (ho.lt q hq).1)
    refine hK _ _ ⟨hS2, ?_⟩
    simp only [Act.put, List.setIfInBounds_toArray, List.set_cons_succ, List.set_cons_zero]
    replace htm := htm.off (Off.of_grown (M := blkV v1) hg2 (fun q hq => blkV_mem.2 hq)) (fun z hz hmm => by injection hz with hz; rw [← hz] at hmm; exact hne9 _ (blkV_mem.1 hmm) rfl)
    have hne2 : ∀ g, v2.ownBlock = some g → g ≠ g9 := fun g hg => by rcases hor2 with e | e; (rw [e] at hg; exact hne9 g hg); (rw [e] at hg; injection hg with hg; omega)
    replace hg9 := Nat.lt_of_lt_of_le hg9 hg2.size
    clear hne9
    have hne9 := hne2
    clear hne2
    clear hK hS ho hg2 hor2
    have hS := hS2; have ho := ho2
    clear hS2 ho2
    clear htm hne9 hg9
    refine plan_us (by rfl) (by kernel_rfl) ?_
    intro K hK
    refine wp_append_tm tmL _ _ rfl w.heap.size (k + 1) v2 (N0.take k ++ [x]) rfl ho bs (m - k) (c8 - k) (N0.drop k) rfl (HD.out _ hS) (by omega) hS.size ?_
    intro v3 w14 ho2 hg2 hor2
    have hS2 := hS.grown hg2 hS.size (by intro q hq; exact (ho.lt q hq).1)
    refine hK _ _ ⟨hS2, ?_⟩
    simp only [Act.put, List.setIfInBounds_toArray, List.set_cons_succ, List.set_cons_zero]
    clear hK hS ho hg2 hor2
    have hS := hS2; have ho := ho2
    clear hS2 ho2
    repeat (first | (refine plan_t (by rfl) ?_; (first | go_big_quiet_skip | (go_big_quiet_want; go_big_quiet_op; go_big_quiet_on)); refine wpQuiet_nil ?_))
    clear hne
    exact HK.out _ _ _ _ _ _ _ _ _ _ _ _ _ _ _ _ _ hS ho
end Go.Proofs.Ytjkedccbieoenaa
