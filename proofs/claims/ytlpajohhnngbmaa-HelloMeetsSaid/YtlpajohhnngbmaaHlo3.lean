/- hello: finish, size. -/
import Derived.Test.YtlpajohhnngbmaaHlo2
import Derived.Test.YtlpajohhnngbmaaRowst
import Derived.OwnWalk
namespace Go.Proofs.Ytlpajohhnngbmaa
open Go.RowKit
set_option linter.unusedVariables false
set_option linter.unusedSimpArgs false

theorem ints_at {w : World} {g off len : Nat} {zs : List Int} (h : IntsK .u8 w (some ⟨g, off, none⟩) len zs) {i : Nat} (h0 : i < len) : w.cell? ⟨g, off + i, none⟩ = some (.int .u8 (zs.getD i 0)) := by
  rcases h.2.2 with h1 | ⟨b, o, e, _, hc⟩
  · omega
  · injection e with e; injection e with e1 e2; subst e1; subst e2; exact hc i h0
theorem ints_wf {w : World} {a : Option Addr} {len : Nat} {zs : List Int} (h : IntsK .u8 w a len zs) {i : Nat} (h0 : i < len) : (Lit.int .u8 (zs.getD i 0)).wf = true := by
  refine h.2.1 _ ?_
  rw [List.getD_eq_getElem?_getD, List.getElem?_eq_getElem (by rw [h.1]; exact h0)]
  exact List.getElem_mem _
theorem or256 {x y : Int} (hx : 0 ≤ x ∧ x ≤ 255) (hy : 0 ≤ y ∧ y ≤ 255) : bits .or .i64 (x * 256) y = x * 256 + y := by
  obtain ⟨X, rfl⟩ := Int.eq_ofNat_of_zero_le hx.1
  obtain ⟨Y, rfl⟩ := Int.eq_ofNat_of_zero_le hy.1
  have e : (X : Int) * 256 = ((X * 256 : Nat) : Int) := by omega
  rw [e]
  show IntKind.wrap .i64 ((BitVec.ofInt 64 ((X * 256 : Nat) : Int) ||| BitVec.ofInt 64 (Y : Int)).toNat : Int) = _
  rw [BitVec.toNat_or, ofInt_u64 _ (by omega), ofInt_u64 _ (by omega), nat_join 8 (X * 256) Y (by omega) (by omega)]
  simp only [IntKind.wrap, IntKind.signed, IntKind.bits]; simp; omega
set_option maxRecDepth 100000 in
set_option maxHeartbeats 4000000 in
theorem finish_any (w : World) (p : Nat) (R : List Value) (sh : Int) (b : Bool) (hr : w.heap[p]? = some (.cells R.toArray 69 (0, 0))) (h8 : R[8]? = some (.int .u64 sh)) :
    Calls Try.prog 57 #[.pointer (some ⟨p, 0, none⟩), .bool b] w fun e w' => ∃ g, e = .returned (.slice (some ⟨g, 0, none⟩) 8 8) ∧ Below w.heap.size w w' ∧ IntsK .u8 w' (some ⟨g, 0, none⟩) 8 (finM sh b) ∧ w.heap.size ≤ g := by
  have c8 := cell_row hr 8 _ h8
  have hlab : ∀ W, Makes Try.prog 28 #[.int .u64 sh, .string (if b then ⟨#[99, 108, 105, 101, 110, 116]⟩ else ⟨#[115, 101, 114, 118, 101, 114]⟩)] W (.int .u64 (keyedM sh (labM b))) := by
    intro W
    cases b
    · exact derive_any W sh ⟨#[115, 101, 114, 118, 101, 114]⟩ (by decide)
    · exact derive_any W sh ⟨#[99, 108, 105, 101, 110, 116]⟩ (by decide)
  have HFE : Hid (finM sh b = bytesM (keyedM sh (labM b))) := Lib.hid rfl
  obtain ⟨x, hx⟩ : ∃ x, keyedM sh (labM b) = x := ⟨_, rfl⟩
  rw [hx] at hlab HFE
  have HL := Lib.hid hlab
  clear hx hlab
  have HBY := Lib.hid (fun W => bytes_any W x)
  have HBW := Lib.hid (wf_bytes x)
  obtain ⟨xs, hxs⟩ : ∃ xs, bytesM x = xs := ⟨_, rfl⟩
  have HXL : Hid (xs.length = 8) := Lib.hid (by rw [← hxs]; rfl)
  rw [hxs] at HBY HBW HFE
  clear hxs
  obtain ⟨X, hX⟩ : ∃ X, xs.map (Value.int .u8) = X := ⟨_, rfl⟩
  have HXE := Lib.hid hX
  have HXC : Hid (X.length = 8) := Lib.hid (by rw [← hX, List.length_map]; exact HXL.out)
  have HXO : Hid (∀ v ∈ X, v.oneCell' = true) := Lib.hid (by rw [← hX]; exact ints_one)
  rw [hX] at HBY
  clear hX
  have HB := Lib.hid (Below.refl w.heap.size w)
  cases b
  · skip
    go_enter Try.func57, Try.ntmps57
    go_wp2_with fail
    refine Calls.mono (HL.out _) ?_
    rintro e w1 ⟨rfl, hb⟩
    replace HB := Lib.hid (bl_next HB.out HB.out.size hb)
    clear hb c8
    go_wp2_with fail
    refine Calls.mono (HBY.out _) ?_
    rintro e w2 ⟨rfl, hb⟩
    replace HB := Lib.hid (bl_next HB.out HB.out.size hb)
    clear hb
    have HSZ := Lib.hid HB.out.size
    go_upto_region 5 with (first | (refine wpList_store_row rfl 23 _ _ rfl _ rfl X (.int .u8 0 :: .int .u8 0 :: .int .u8 0 :: .int .u8 0 :: .int .u8 0 :: .int .u8 0 :: .int .u8 0 :: .int .u8 0 :: []) rfl 23 (heap_alloc_new _ _) (by rw [HXC.out]; rfl) (by rw [HXC.out]; rfl) HXO.out ?_; intro w3 hr hg) | fail)
    have hal := (Below.refl w2.heap.size w2).alloc (Nat.le_refl _) (.cells ((.int .u8 0 :: .int .u8 0 :: .int .u8 0 :: .int .u8 0 :: .int .u8 0 :: .int .u8 0 :: .int .u8 0 :: .int .u8 0 :: [])).toArray 23)
    have hb : Below w2.heap.size w2 w3 := hal.grown hg hal.size (by intro k hk; injection hk with hk; omega)
    replace HB := Lib.hid (bl_next HB.out HB.out.size hb)
    have HG := Lib.hid (hr)
    clear hr hg hal hb
    obtain ⟨g, hg⟩ : ∃ g, w2.heap.size = g := ⟨_, rfl⟩
    have HGE := Lib.hid hg
    rw [hg] at HG ⊢
    clear hg
    go_wp2_with fail
    go_ret
    have hi := IntsK.of_row (k := .u8) (zs := xs) (by rw [HXE.out]; exact HG.out) HBW.out
    rw [HXL.out] at hi
    rw [HFE.out]
    exact ⟨g, rfl, HB.out, hi, by have := HGE.out; have := HSZ.out; omega⟩
  · skip
    go_enter Try.func57, Try.ntmps57
    go_wp2_with fail
    refine Calls.mono (HL.out _) ?_
    rintro e w1 ⟨rfl, hb⟩
    replace HB := Lib.hid (bl_next HB.out HB.out.size hb)
    clear hb c8
    go_wp2_with fail
    refine Calls.mono (HBY.out _) ?_
    rintro e w2 ⟨rfl, hb⟩
    replace HB := Lib.hid (bl_next HB.out HB.out.size hb)
    clear hb
    have HSZ := Lib.hid HB.out.size
    go_upto_region 5 with (first | (refine wpList_store_row rfl 23 _ _ rfl _ rfl X (.int .u8 0 :: .int .u8 0 :: .int .u8 0 :: .int .u8 0 :: .int .u8 0 :: .int .u8 0 :: .int .u8 0 :: .int .u8 0 :: []) rfl 23 (heap_alloc_new _ _) (by rw [HXC.out]; rfl) (by rw [HXC.out]; rfl) HXO.out ?_; intro w3 hr hg) | fail)
    have hal := (Below.refl w2.heap.size w2).alloc (Nat.le_refl _) (.cells ((.int .u8 0 :: .int .u8 0 :: .int .u8 0 :: .int .u8 0 :: .int .u8 0 :: .int .u8 0 :: .int .u8 0 :: .int .u8 0 :: [])).toArray 23)
    have hb : Below w2.heap.size w2 w3 := hal.grown hg hal.size (by intro k hk; injection hk with hk; omega)
    replace HB := Lib.hid (bl_next HB.out HB.out.size hb)
    have HG := Lib.hid (hr)
    clear hr hg hal hb
    obtain ⟨g, hg⟩ : ∃ g, w2.heap.size = g := ⟨_, rfl⟩
    have HGE := Lib.hid hg
    rw [hg] at HG ⊢
    clear hg
    go_wp2_with fail
    go_ret
    have hi := IntsK.of_row (k := .u8) (zs := xs) (by rw [HXE.out]; exact HG.out) HBW.out
    rw [HXL.out] at hi
    rw [HFE.out]
    exact ⟨g, rfl, HB.out, hi, by have := HGE.out; have := HSZ.out; omega⟩

set_option maxRecDepth 100000 in
/-- the head of a message, read. -/
theorem sidesize_any (w : World) (p : Nat) (R : List Value) (sp : Bool) (a : Option Addr) (len cap : Nat) (bs : List Int) (kn : Bool) (hr : w.heap[p]? = some (.cells R.toArray 69 (0, 0)))
    (h4 : R[4 + sp.toNat]? = some (.slice a len cap)) (h9 : R[9]? = some (.bool kn)) (hlen : len ≤ 1000000) (hI : IntsK .u8 w a len bs) :
    Makes Try.prog 38 #[.pointer (some ⟨p, 0, none⟩), .int .i64 (sp.toNat : Nat)] w (.tuple #[.int .i64 (sizeHM sp kn bs).1, .bool (sizeHM sp kn bs).2.1, .int .i64 (sizeHM sp kn bs).2.2]) := by
  have hbl := hI.1
  have HB := Lib.hid (Below.refl w.heap.size w)
  have c9 := cell_row hr 9 _ h9
  have cb := cell_row hr _ _ h4
  have HI := Lib.hid hI
  clear hI hr h4 h9
  cases sp
  · skip
    have c4 : w.cell? ⟨p, 4, none⟩ = some (.slice a len cap) := cb
    clear cb
    by_cases h0 : len = 0
    · have hbs : bs = [] := List.eq_nil_of_length_eq_zero (by omega)
      have e : sizeHM false kn bs = (0, false, 0) := by rw [hbs]; rfl
      rw [e]
      subst h0
      clear e c9
      go_enter Try.func38, Try.ntmps38
      go_wp2_with fail
      go_ret3
      exact ⟨rfl, HB.out⟩
    · skip
      obtain ⟨ga, go, rfl⟩ : ∃ g o, a = some ⟨g, o, none⟩ := by rcases HI.out.2.2 with h | ⟨g, o, h, _⟩; omega; exact ⟨g, o, h⟩
      skip
      have hb0 := ints_at HI.out (i := 0) (by omega)
      rw [Nat.add_zero] at hb0
      have HGA : Hid (ga < w.heap.size) := Lib.hid (by rcases HI.out.2.2 with h | ⟨g, o, h, hl, _⟩; omega; injection h with h; injection h with h _; rw [h]; exact hl)
      obtain ⟨x0, hx0⟩ : ∃ x, bs.getD 0 0 = x := ⟨_, rfl⟩
      rw [hx0] at hb0
      by_cases hw : x0 = 1
      · subst hw
        have hc1 : ¬ (0 < bs.length ∧ (bs.getD 0 0 ≠ (if false then 20 else 1) ∨ (false = true ∧ kn = false))) := by rw [hx0]; simp
        by_cases h3 : len < 3
        · have e : sizeHM false kn bs = (0, false, 0) := by unfold sizeHM; rw [if_neg hc1, if_pos (by omega)]
          rw [e]
          clear e c9
          go_enter Try.func38, Try.ntmps38
          go_wp2_with fail
          go_ret3
          exact ⟨rfl, HB.out⟩
        · skip
          have hb1 := ints_at HI.out (i := 1) (by omega)
          have hb2 := ints_at HI.out (i := 2) (by omega)
          have w1 := bdU8 (ints_wf HI.out (i := 1) (by omega))
          have w2 := bdU8 (ints_wf HI.out (i := 2) (by omega))
          have es : sizeHM false kn bs = if bs.getD 1 0 * 256 + bs.getD 2 0 > 200 then (0, false, 10) else (3 + (bs.getD 1 0 * 256 + bs.getD 2 0).toNat, decide (3 + (bs.getD 1 0 * 256 + bs.getD 2 0).toNat ≤ bs.length), 0) := by unfold sizeHM; rw [if_neg hc1, if_neg (by omega)]
          rw [es, hbl]
          clear es hc1
          generalize bs.getD 1 0 = x1 at hb1 w1 ⊢
          generalize bs.getD 2 0 = x2 at hb2 w2 ⊢
          have hor := or256 w1 w2
          obtain ⟨n, hn⟩ : ∃ n : Nat, x1 * 256 + x2 = n := ⟨(x1 * 256 + x2).toNat, by omega⟩
          rw [hn] at hor ⊢
          by_cases h200 : (n : Int) > 200
          · rw [if_pos h200]
            go_enter Try.func38, Try.ntmps38
            go_upto_region 9 with fail
            have f1 : ∀ t : In (fun y => Below w.heap.size w y), t.w.cell? ⟨ga, go + 1, none⟩ = some (.int .u8 x1) := fun t => bl_cell (p := ⟨ga, go + 1, none⟩) t.h HGA.out hb1
            have f2 : ∀ t : In (fun y => Below w.heap.size w y), t.w.cell? ⟨ga, go + 2, none⟩ = some (.int .u8 x2) := fun t => bl_cell (p := ⟨ga, go + 2, none⟩) t.h HGA.out hb2
            refine wp_plan (.t 0 (.t 1 (.t 2 (.t 3 (.t 4 (.t 5 (.t 6 (.t 7 (.t 8 (.t 9 (.t 10 .done))))))))))) (fun y => Below w.heap.size w y) (by kernel_rfl) (by kernel_rfl) (by kernel_rfl) (fun c a d v w h => by cases d <;> exact h) (Below.refl _ _).drew ?_
            replace HB : Hid (Below w.heap.size w w.drew) := Lib.hid (Below.refl _ _).drew
            generalize w.drew = W0 at HB ⊢
            haveI hne2 : Nonempty (In (fun y => Below w.heap.size w y)) := ⟨⟨w, Below.refl _ _⟩⟩
            repeat (refine plan_t (by rfl) ?_; (first | go_big_quiet_skip | (go_big_quiet_want; go_big_quiet_op; go_big_quiet_on)); refine wpQuiet_nil ?_)
            clear hne2 f1 f2
            show Exit.then _ _ _ _ _
            go_wp2_with fail
            go_ret3
            exact ⟨rfl, HB.out⟩
          · rw [if_neg h200, Int.toNat_natCast]
            have ed : decide (3 + (n : Int) ≤ (len : Int)) = decide (3 + n ≤ len) := by rw [decide_eq_decide]; omega
            go_enter Try.func38, Try.ntmps38
            go_upto_region 9 with fail
            have f1 : ∀ t : In (fun y => Below w.heap.size w y), t.w.cell? ⟨ga, go + 1, none⟩ = some (.int .u8 x1) := fun t => bl_cell (p := ⟨ga, go + 1, none⟩) t.h HGA.out hb1
            have f2 : ∀ t : In (fun y => Below w.heap.size w y), t.w.cell? ⟨ga, go + 2, none⟩ = some (.int .u8 x2) := fun t => bl_cell (p := ⟨ga, go + 2, none⟩) t.h HGA.out hb2
            refine wp_plan (.t 0 (.t 1 (.t 2 (.t 3 (.t 4 (.t 5 (.t 6 (.t 7 (.t 8 (.t 9 (.t 10 .done))))))))))) (fun y => Below w.heap.size w y) (by kernel_rfl) (by kernel_rfl) (by kernel_rfl) (fun c a d v w h => by cases d <;> exact h) (Below.refl _ _).drew ?_
            replace HB : Hid (Below w.heap.size w w.drew) := Lib.hid (Below.refl _ _).drew
            generalize w.drew = W0 at HB ⊢
            haveI hne2 : Nonempty (In (fun y => Below w.heap.size w y)) := ⟨⟨w, Below.refl _ _⟩⟩
            repeat (refine plan_t (by rfl) ?_; (first | go_big_quiet_skip | (go_big_quiet_want; go_big_quiet_op; go_big_quiet_on)); refine wpQuiet_nil ?_)
            clear hne2 f1 f2
            show Exit.then _ _ _ _ _
            go_wp2_with fail
            go_ret3
            first | exact ⟨rfl, HB.out⟩ | (refine ⟨?_, HB.out⟩; rw [ed])
      · have e : sizeHM false kn bs = (0, false, 10) := by unfold sizeHM; rw [if_pos ⟨by omega, .inl (by rw [hx0]; simpa using hw)⟩]
        rw [e]
        have hwb : (x0 != 1) = true := by simpa using hw
        clear e c9
        go_enter Try.func38, Try.ntmps38
        go_wp2_with fail
        go_ret3
        exact ⟨rfl, HB.out⟩
  · skip
    have c5 : w.cell? ⟨p, 5, none⟩ = some (.slice a len cap) := cb
    clear cb
    by_cases h0 : len = 0
    · have hbs : bs = [] := List.eq_nil_of_length_eq_zero (by omega)
      have e : sizeHM true kn bs = (0, false, 0) := by rw [hbs]; rfl
      rw [e]
      subst h0
      clear e c9
      go_enter Try.func38, Try.ntmps38
      go_wp2_with fail
      go_ret3
      exact ⟨rfl, HB.out⟩
    · skip
      obtain ⟨ga, go, rfl⟩ : ∃ g o, a = some ⟨g, o, none⟩ := by rcases HI.out.2.2 with h | ⟨g, o, h, _⟩; omega; exact ⟨g, o, h⟩
      skip
      have hb0 := ints_at HI.out (i := 0) (by omega)
      rw [Nat.add_zero] at hb0
      have HGA : Hid (ga < w.heap.size) := Lib.hid (by rcases HI.out.2.2 with h | ⟨g, o, h, hl, _⟩; omega; injection h with h; injection h with h _; rw [h]; exact hl)
      obtain ⟨x0, hx0⟩ : ∃ x, bs.getD 0 0 = x := ⟨_, rfl⟩
      rw [hx0] at hb0
      by_cases hw : x0 = 20
      · subst hw
        cases kn
        · have e : sizeHM true false bs = (0, false, 10) := by unfold sizeHM; rw [if_pos ⟨by omega, .inr ⟨rfl, rfl⟩⟩]
          rw [e]
          clear e
          go_enter Try.func38, Try.ntmps38
          go_wp2_with fail
          go_ret3
          exact ⟨rfl, HB.out⟩
        · skip
          have hc1 : ¬ (0 < bs.length ∧ (bs.getD 0 0 ≠ (if true then 20 else 1) ∨ (true = true ∧ true = false))) := by rw [hx0]; simp
          by_cases h3 : len < 3
          · have e : sizeHM true true bs = (0, false, 0) := by unfold sizeHM; rw [if_neg hc1, if_pos (by omega)]
            rw [e]
            clear e
            go_enter Try.func38, Try.ntmps38
            go_wp2_with fail
            go_ret3
            exact ⟨rfl, HB.out⟩
          · skip
            have hb1 := ints_at HI.out (i := 1) (by omega)
            have hb2 := ints_at HI.out (i := 2) (by omega)
            have w1 := bdU8 (ints_wf HI.out (i := 1) (by omega))
            have w2 := bdU8 (ints_wf HI.out (i := 2) (by omega))
            have es : sizeHM true true bs = if bs.getD 1 0 * 256 + bs.getD 2 0 > 200 then (0, false, 10) else (3 + (bs.getD 1 0 * 256 + bs.getD 2 0).toNat, decide (3 + (bs.getD 1 0 * 256 + bs.getD 2 0).toNat ≤ bs.length), 0) := by unfold sizeHM; rw [if_neg hc1, if_neg (by omega)]
            rw [es, hbl]
            clear es hc1
            generalize bs.getD 1 0 = x1 at hb1 w1 ⊢
            generalize bs.getD 2 0 = x2 at hb2 w2 ⊢
            have hor := or256 w1 w2
            obtain ⟨n, hn⟩ : ∃ n : Nat, x1 * 256 + x2 = n := ⟨(x1 * 256 + x2).toNat, by omega⟩
            rw [hn] at hor ⊢
            by_cases h200 : (n : Int) > 200
            · rw [if_pos h200]
              go_enter Try.func38, Try.ntmps38
              go_upto_region 9 with fail
              have f1 : ∀ t : In (fun y => Below w.heap.size w y), t.w.cell? ⟨ga, go + 1, none⟩ = some (.int .u8 x1) := fun t => bl_cell (p := ⟨ga, go + 1, none⟩) t.h HGA.out hb1
              have f2 : ∀ t : In (fun y => Below w.heap.size w y), t.w.cell? ⟨ga, go + 2, none⟩ = some (.int .u8 x2) := fun t => bl_cell (p := ⟨ga, go + 2, none⟩) t.h HGA.out hb2
              refine wp_plan (.t 0 (.t 1 (.t 2 (.t 3 (.t 4 (.t 5 (.t 6 (.t 7 (.t 8 (.t 9 (.t 10 .done))))))))))) (fun y => Below w.heap.size w y) (by kernel_rfl) (by kernel_rfl) (by kernel_rfl) (fun c a d v w h => by cases d <;> exact h) (Below.refl _ _).drew ?_
              replace HB : Hid (Below w.heap.size w w.drew) := Lib.hid (Below.refl _ _).drew
              generalize w.drew = W0 at HB ⊢
              haveI hne2 : Nonempty (In (fun y => Below w.heap.size w y)) := ⟨⟨w, Below.refl _ _⟩⟩
              repeat (refine plan_t (by rfl) ?_; (first | go_big_quiet_skip | (go_big_quiet_want; go_big_quiet_op; go_big_quiet_on)); refine wpQuiet_nil ?_)
              clear hne2 f1 f2
              show Exit.then _ _ _ _ _
              go_wp2_with fail
              go_ret3
              exact ⟨rfl, HB.out⟩
            · rw [if_neg h200, Int.toNat_natCast]
              have ed : decide (3 + (n : Int) ≤ (len : Int)) = decide (3 + n ≤ len) := by rw [decide_eq_decide]; omega
              go_enter Try.func38, Try.ntmps38
              go_upto_region 9 with fail
              have f1 : ∀ t : In (fun y => Below w.heap.size w y), t.w.cell? ⟨ga, go + 1, none⟩ = some (.int .u8 x1) := fun t => bl_cell (p := ⟨ga, go + 1, none⟩) t.h HGA.out hb1
              have f2 : ∀ t : In (fun y => Below w.heap.size w y), t.w.cell? ⟨ga, go + 2, none⟩ = some (.int .u8 x2) := fun t => bl_cell (p := ⟨ga, go + 2, none⟩) t.h HGA.out hb2
              refine wp_plan (.t 0 (.t 1 (.t 2 (.t 3 (.t 4 (.t 5 (.t 6 (.t 7 (.t 8 (.t 9 (.t 10 .done))))))))))) (fun y => Below w.heap.size w y) (by kernel_rfl) (by kernel_rfl) (by kernel_rfl) (fun c a d v w h => by cases d <;> exact h) (Below.refl _ _).drew ?_
              replace HB : Hid (Below w.heap.size w w.drew) := Lib.hid (Below.refl _ _).drew
              generalize w.drew = W0 at HB ⊢
              haveI hne2 : Nonempty (In (fun y => Below w.heap.size w y)) := ⟨⟨w, Below.refl _ _⟩⟩
              repeat (refine plan_t (by rfl) ?_; (first | go_big_quiet_skip | (go_big_quiet_want; go_big_quiet_op; go_big_quiet_on)); refine wpQuiet_nil ?_)
              clear hne2 f1 f2
              show Exit.then _ _ _ _ _
              go_wp2_with fail
              go_ret3
              first | exact ⟨rfl, HB.out⟩ | (refine ⟨?_, HB.out⟩; rw [ed])
      · have e : sizeHM true kn bs = (0, false, 10) := by unfold sizeHM; rw [if_pos ⟨by omega, .inl (by rw [hx0]; simpa using hw)⟩]
        rw [e]
        have hwb : (x0 != 20) = true := by simpa using hw
        clear e c9
        go_enter Try.func38, Try.ntmps38
        go_wp2_with fail
        go_ret3
        exact ⟨rfl, HB.out⟩
end Go.Proofs.Ytlpajohhnngbmaa
