/- heads: contract of put. -/
import Derived.Test.YthofbckkjcidmaaHead2
namespace Go.Proofs.Ythofbckkjcidmaa
open Go.RowKit
set_option linter.unusedVariables false

/-- whatever is read at a is a row that was made behind base. -/
def OwnRow (w : World) (base : Nat) (a : Option Addr) (cap : Nat) : Prop := ∀ (n : Nat) (bs : List Int), IntsK .u8 w a n bs → n ≤ cap → w.ownsRow base 5 1 (.slice a n cap) n (bs.map (Value.int .u8))
theorem OwnRow.low {w : World} {base base' : Nat} {a : Option Addr} {cap : Nat} (h : OwnRow w base a cap) (hb : base' ≤ base) : OwnRow w base' a cap := by
  intro n bs hI hn
  have h1 := h n bs hI hn
  refine ⟨h1.1, ?_⟩
  rcases h1.2 with h2 | ⟨g, c, cur, h2, h3, h4⟩
  · exact .inl h2
  · exact .inr ⟨g, c, cur, h2, Nat.le_trans hb h3, h4⟩
theorem OwnRow.of {w : World} {base : Nat} {a : Option Addr} {cap L : Nat} {xs : List Int} (h : w.ownsRow base 5 1 (.slice a L cap) L (xs.map (Value.int .u8))) : OwnRow w base a cap := by
  intro n bs hI hn
  have hl := hI.1
  refine ⟨by rw [List.length_map]; omega, ?_⟩
  rcases h.2 with ⟨h1, h2⟩ | ⟨g, c, cur, h1, hg, hrow, hnc, hc, hsz, htk⟩
  · injection h1 with h1 h3 h4
    obtain rfl : n = 0 := by omega
    obtain rfl : bs = [] := List.eq_nil_of_length_eq_zero hl
    exact .inl ⟨by rw [h1, h4], rfl⟩
  · injection h1 with h1 h3 h4
    subst h4
    refine .inr ⟨g, cap, cur, by rw [h1], hg, hrow, hn, hc, hsz, ?_⟩
    apply List.ext_getElem?
    intro i
    rw [List.getElem?_take, Nat.mul_one]
    by_cases hi : i < n
    · rw [if_pos hi]
      rcases hI.2.2 with h0 | ⟨b, off, ha, hb, hcell⟩
      · omega
      · rw [h1] at ha
        injection ha with ha; injection ha with e1 e2
        subst e1; subst e2
        have h5 := hcell i hi
        rw [Nat.zero_add, cell_of_row _ _ _ _ _ _ hrow] at h5
        rw [List.getElem?_map, List.getElem?_eq_getElem (l := bs) (i := i) (by omega)]
        simp only [Array.getElem?_toList]
        rw [h5, List.getD_eq_getElem?_getD, List.getElem?_eq_getElem (l := bs) (i := i) (by omega)]
        rfl
    · rw [if_neg hi, List.getElem?_eq_none (by rw [List.length_map]; omega)]
set_option maxRecDepth 100000 in
theorem wdone_own (w : World) (B p : Nat) (v : Value) (bs : List Int) (hl : bs.length ≤ 140737488355328) (hwf : ∀ x ∈ bs, (Lit.int .u8 x).wf = true) (h : Wr w B p v bs) :
    Calls Try.prog 78 #[.pointer (some ⟨p, 0, none⟩)] w fun e w' => ∃ a cap, e = .returned (.slice a bs.length cap) ∧ bs.length ≤ cap ∧ cap ≤ 9223372036854775807 ∧ IntsK .u8 w' a bs.length bs ∧ OwnRow w' w.heap.size a cap ∧ Below w.heap.size w w' := by
  obtain ⟨b, cp, rfl, _, hi, _⟩ := ints_of_own h.own hwf
  have c0 : w.cell? ⟨p, 0, none⟩ = some (.slice b bs.length cp) := row_cell h.row 0 _ rfl
  have HI := Lib.hid hi
  clear h hi
  go_enter Try.func78, Try.ntmps78
  go_wp2_with fail
  refine Calls.mono (clone_any w b bs.length cp bs hl HI.out) ?_
  rintro e w' ⟨v2, rfl, hb, ho⟩
  have hcm := own_cap ho
  obtain ⟨a1, cap1, rfl, hc1, hi1, _⟩ := ints_of_own ho HI.out.2.1
  replace hcm := hcm _ _ _ rfl
  have hor := Lib.hid (OwnRow.of ho)
  have HB := Lib.hid hb; have HI1 := Lib.hid hi1
  clear hb ho hi1
  go_wp2_with fail
  go_ret
  exact ⟨a1, cap1, rfl, hc1, hcm, HI1.out, hor.out, HB.out⟩

theorem ints_mid {w : World} {g off n : Nat} {xs : Array Value} {ys : List Int} {t : TypeId} (h : w.heap[g]? = some (.cells xs t (0, 0))) (hn : ys.length = n) (hc : ∀ i, i < n → xs[off + i]? = some (.int .u8 (ys.getD i 0))) (hw : ∀ x ∈ ys, (Lit.int .u8 x).wf = true) : IntsK .u8 w (some ⟨g, off, none⟩) n ys :=
  ⟨hn, hw, .inr ⟨g, off, rfl, lt_of_block h, fun i hi => by rw [cell_of_row _ _ _ _ _ _ h]; exact hc i hi⟩⟩
theorem first_w (wd : Int) (h : 1 ≤ wd ∧ wd ≤ 4) : bits .or .i64 64 wd - 1 = 63 + wd := by
  rcases (by omega : wd = 1 ∨ wd = 2 ∨ wd = 3 ∨ wd = 4) with rfl | rfl | rfl | rfl <;> decide
theorem first_p (wd : Int) (h : 1 ≤ wd ∧ wd ≤ 4) : bits .or .u8 (63 + wd) 4 = 67 + wd := by
  rcases (by omega : wd = 1 ∨ wd = 2 ∨ wd = 3 ∨ wd = 4) with rfl | rfl | rfl | rfl <;> decide
theorem first_l0 (wd : Int) (h : 1 ≤ wd ∧ wd ≤ 4) : bits .or .u8 (63 + wd) 128 = 191 + wd := by
  rcases (by omega : wd = 1 ∨ wd = 2 ∨ wd = 3 ∨ wd = 4) with rfl | rfl | rfl | rfl <;> decide
theorem first_l1 (wd : Int) (h : 1 ≤ wd ∧ wd ≤ 4) : bits .or .u8 (191 + wd) 0 = 191 + wd ∧ bits .or .u8 (191 + wd) 16 = 207 + wd := by
  rcases (by omega : wd = 1 ∨ wd = 2 ∨ wd = 3 ∨ wd = 4) with rfl | rfl | rfl | rfl <;> decide
theorem ints_ch {w w' : World} {p : Nat} {q : Option Nat} {a : Option Addr} {len : Nat} {zs : List Int} (h : IntsK .u8 w a len zs) (hC : Ch w w' p q) (hp : 0 < len → ∀ x, a = some x → x.block ≠ p ∧ q ≠ some x.block) : IntsK .u8 w' a len zs := by
  refine ⟨h.1, h.2.1, ?_⟩
  rcases h.2.2 with h0 | ⟨b, off, rfl, hbl, hc⟩
  · exact .inl h0
  · by_cases h0 : 0 < len
    · refine .inr ⟨b, off, rfl, Nat.lt_of_lt_of_le hbl hC.size, fun i hi => ?_⟩
      have e := hC.block b hbl (hp h0 _ rfl).1 (hp h0 _ rfl).2
      exact (World.cell?_of_block (w := w) (a := ⟨b, off + i, none⟩) e).trans (hc i hi)
    · exact .inl (by omega)

set_option maxRecDepth 100000 in
set_option maxHeartbeats 4000000 in
theorem hput_data (w : World) (t0 t1 t2 t3 t4 t5 t6 t7 f0 f1 f2 f3 f4 f5 f6 f7 wd n : Int) (a : Option Addr) (tl tc : Nat) (p : Bool) (ks : List Int) (hI : IntsK .u8 w a tl ks) (hwd : 1 ≤ wd ∧ wd ≤ 4) (hwt : ∀ x ∈ [t0, t1, t2, t3, t4, t5, t6, t7], (Lit.int .u8 x).wf = true) :
    Calls Try.prog 49 #[.agg #[.int .i64 2, .int .u8 t0, .int .u8 t1, .int .u8 t2, .int .u8 t3, .int .u8 t4, .int .u8 t5, .int .u8 t6, .int .u8 t7, .int .u8 f0, .int .u8 f1, .int .u8 f2, .int .u8 f3, .int .u8 f4, .int .u8 f5, .int .u8 f6, .int .u8 f7, .slice a tl tc, .int .i64 wd, .bool p], .int .i64 n] w fun e w' => ∃ a' cap', e = .returned (.slice a' 9 cap') ∧ 9 ≤ cap' ∧ cap' ≤ 9223372036854775807 ∧ IntsK .u8 w' a' 9 ((63 + wd + (if p then 4 else 0)) :: [t0, t1, t2, t3, t4, t5, t6, t7]) ∧ (OwnRow w' w.heap.size a' cap') ∧ Below w.heap.size w w' := by
  have HWT := Lib.hid hwt; have HI := Lib.hid hI; have HA := Lib.hid hI.lt
  have hfw := first_w wd hwd
  have hfp := first_p wd hwd
  obtain ⟨fb, hfb⟩ : ∃ fb, 63 + wd + (if p then 4 else 0) = fb := ⟨_, rfl⟩
  have hfbw : (Lit.int .u8 fb).wf = true := by rw [← hfb]; cases p <;> exact wf_u8_of (by simp; omega) (by simp; omega)
  have HFW : Hid (∀ x ∈ fb :: [t0, t1, t2, t3, t4, t5, t6, t7], (Lit.int .u8 x).wf = true) := Lib.hid (by intro x hx; rcases List.mem_cons.1 hx with h | h; rw [h]; exact hfbw; exact hwt x h)
  rw [hfb]
  clear hwt hI
  go_enter Try.func49, Try.ntmps49
  go_upto_region 1 with fail
  have hbA := (Below.refl w.heap.size w).alloc (Nat.le_refl _) (.cells #[.int .i64 2, .int .u8 t0, .int .u8 t1, .int .u8 t2, .int .u8 t3, .int .u8 t4, .int .u8 t5, .int .u8 t6, .int .u8 t7, .int .u8 f0, .int .u8 f1, .int .u8 f2, .int .u8 f3, .int .u8 f4, .int .u8 f5, .int .u8 f6, .int .u8 f7, .slice a tl tc, .int .i64 wd, .bool p] 32)
  have HR := Lib.hid (heap_alloc_new w (.cells #[.int .i64 2, .int .u8 t0, .int .u8 t1, .int .u8 t2, .int .u8 t3, .int .u8 t4, .int .u8 t5, .int .u8 t6, .int .u8 t7, .int .u8 f0, .int .u8 f1, .int .u8 f2, .int .u8 f3, .int .u8 f4, .int .u8 f5, .int .u8 f6, .int .u8 f7, .slice a tl tc, .int .i64 wd, .bool p] 32))
  have HB := Lib.hid hbA
  generalize w.alloc (.cells #[.int .i64 2, .int .u8 t0, .int .u8 t1, .int .u8 t2, .int .u8 t3, .int .u8 t4, .int .u8 t5, .int .u8 t6, .int .u8 t7, .int .u8 f0, .int .u8 f1, .int .u8 f2, .int .u8 f3, .int .u8 f4, .int .u8 f5, .int .u8 f6, .int .u8 f7, .slice a tl tc, .int .i64 wd, .bool p] 32) = W at HR HB ⊢
  obtain ⟨g, hg⟩ : ∃ g, w.heap.size = g := ⟨_, rfl⟩
  rw [hg] at HR ⊢
  have HG := Lib.hid hg
  clear hg hbA
  go_wp2_with fail
  refine Calls.mono (new_any W) ?_
  rintro e w1 ⟨rfl, hW1, hb1⟩
  have hgl := lt_of_block HR.out
  have HR1 := Lib.hid (bl_row hb1 hgl HR.out); have HB1 := Lib.hid (bl_next HB.out HB.out.size hb1); have HW1 := Lib.hid hW1
  have HI1 := Lib.hid (((HI.out.below HB.out).below hb1))
  obtain ⟨pw, hpw⟩ : ∃ pw, W.heap.size = pw := ⟨_, rfl⟩
  rw [hpw] at HW1 hgl ⊢
  clear hb1 hW1 HR HB hpw
  have hgw : w.heap.size ≤ g := by have := HG.out; omega
  obtain ⟨c0, c1, c2, c3, c4, c5, c6, c7, c8, c9, c10, c11, c12, c13, c14, c15, c16, c17, c18, c19⟩ := row20 HR1.out
  cases p
  case' false => (have hfb : 63 + wd = fb := by simpa using hfb)
  case' true => (have hfb : 67 + wd = fb := by rw [← hfb]; simp; omega)
  all_goals (
    go_wp2_with fail
    clear c0 c1 c2 c3 c4 c5 c6 c7 c8 c9 c10 c11 c12 c13 c14 c15 c16 c17 c18 c19
    try rw [hfb]
    clear hfw hfp hfb
    refine Calls.mono (wbyte_any _ pw pw _ [] fb (by simp) HW1.out hfbw) ?_
    rintro e w2 ⟨v2, rfl, hW, hC, hv⟩
    have HI2 := Lib.hid (ints_ch HI1.out hC (fun h0 x hx => by have := HA.out h0 x hx; exact ⟨by omega, fun h => by have := own_base HW1.out.own _ h; omega⟩))
    have HR2 := Lib.hid (hC.row HR1.out (by omega) (fun h => by have := own_base HW1.out.own g h; omega))
    have HB2 := Lib.hid (hC.below HB1.out HB1.out.size (by omega) (fun k hk => by have := own_base HW1.out.own k hk; omega))
    have HW2 := Lib.hid hW
    clear hW hC hv HR1 HB1 HW1 HI1
    rw [List.nil_append] at HW2
    obtain ⟨c0, c1, c2, c3, c4, c5, c6, c7, c8, c9, c10, c11, c12, c13, c14, c15, c16, c17, c18, c19⟩ := row20 HR2.out
    go_wp2_with fail
    clear c0 c1 c2 c3 c4 c5 c6 c7 c8 c9 c10 c11 c12 c13 c14 c15 c16 c17 c18 c19
    have HT2 := Lib.hid (ints_mid (off := 1) (n := 8) (ys := [t0, t1, t2, t3, t4, t5, t6, t7]) HR2.out rfl (by intro i hi; rcases (by omega : i = 0 ∨ i = 1 ∨ i = 2 ∨ i = 3 ∨ i = 4 ∨ i = 5 ∨ i = 6 ∨ i = 7) with rfl | rfl | rfl | rfl | rfl | rfl | rfl | rfl <;> rfl) HWT.out)
    refine Calls.mono (wraw_any _ pw pw _ [fb] _ 8 _ _ (by simp) HW2.out HT2.out) ?_
    rintro e w3 ⟨v3, rfl, hW, hC, hv⟩
    have HI3 := Lib.hid (ints_ch HI2.out hC (fun h0 x hx => by have := HA.out h0 x hx; exact ⟨by omega, fun h => by have := own_base HW2.out.own _ h; omega⟩))
    have HR3 := Lib.hid (hC.row HR2.out (by omega) (fun h => by have := own_base HW2.out.own g h; omega))
    have HB3 := Lib.hid (hC.below HB2.out HB2.out.size (by omega) (fun k hk => by have := own_base HW2.out.own k hk; omega))
    have HW3 := Lib.hid hW
    clear hW hC hv HR2 HB2 HW2 HI2
    clear HT2
    go_wp2_with fail
    refine Calls.mono (wdone_own _ pw pw _ ([fb] ++ [t0, t1, t2, t3, t4, t5, t6, t7]) (by simp) HFW.out HW3.out) ?_
    rintro e w4 ⟨a4, cp4, rfl, h1, h2, h3, h4, h5⟩
    have HF := Lib.hid (bl_next HB3.out HB3.out.size h5)
    have hs3 := HB3.out.size
    clear HB3 HR3 HW3 HI3 h5
    go_wp2_with fail
    go_ret
    exact ⟨a4, cp4, rfl, h1, h2, h3, h4.low hs3, HF.out⟩)

set_option maxRecDepth 100000 in
set_option maxHeartbeats 4000000 in
theorem hput_0 (w : World) (t0 t1 t2 t3 t4 t5 t6 t7 f0 f1 f2 f3 f4 f5 f6 f7 wd n fb : Int) (a : Option Addr) (tl tc : Nat) (p : Bool) (ks : List Int) (hI : IntsK .u8 w a tl ks) (htl : tl ≤ 32) (hn : 0 ≤ n ∧ n ≤ 16383) (hwd : 1 ≤ wd ∧ wd ≤ 4) (hwt : ∀ x ∈ [t0, t1, t2, t3, t4, t5, t6, t7], (Lit.int .u8 x).wf = true) (hwf : ∀ x ∈ [f0, f1, f2, f3, f4, f5, f6, f7], (Lit.int .u8 x).wf = true) (hfb : 191 + wd = fb) :
    Calls Try.prog 49 #[.agg #[.int .i64 0, .int .u8 t0, .int .u8 t1, .int .u8 t2, .int .u8 t3, .int .u8 t4, .int .u8 t5, .int .u8 t6, .int .u8 t7, .int .u8 f0, .int .u8 f1, .int .u8 f2, .int .u8 f3, .int .u8 f4, .int .u8 f5, .int .u8 f6, .int .u8 f7, .slice a tl tc, .int .i64 wd, .bool p], .int .i64 n] w fun e w' => ∃ a' cap', e = .returned (.slice a' (((((([fb] ++ [0, 0, 0, 1, 8]) ++ [t0, t1, t2, t3, t4, t5, t6, t7]) ++ [8]) ++ [f0, f1, f2, f3, f4, f5, f6, f7]) ++ (putM tl ++ ks)) ++ [(16384 + n) / 256, (16384 + n) % 256]).length cap') ∧ (((((([fb] ++ [0, 0, 0, 1, 8]) ++ [t0, t1, t2, t3, t4, t5, t6, t7]) ++ [8]) ++ [f0, f1, f2, f3, f4, f5, f6, f7]) ++ (putM tl ++ ks)) ++ [(16384 + n) / 256, (16384 + n) % 256]).length ≤ cap' ∧ cap' ≤ 9223372036854775807 ∧ IntsK .u8 w' a' (((((([fb] ++ [0, 0, 0, 1, 8]) ++ [t0, t1, t2, t3, t4, t5, t6, t7]) ++ [8]) ++ [f0, f1, f2, f3, f4, f5, f6, f7]) ++ (putM tl ++ ks)) ++ [(16384 + n) / 256, (16384 + n) % 256]).length (((((([fb] ++ [0, 0, 0, 1, 8]) ++ [t0, t1, t2, t3, t4, t5, t6, t7]) ++ [8]) ++ [f0, f1, f2, f3, f4, f5, f6, f7]) ++ (putM tl ++ ks)) ++ [(16384 + n) / 256, (16384 + n) % 256]) ∧ (OwnRow w' w.heap.size a' cap') ∧ Below w.heap.size w w' := by
  have HWT := Lib.hid hwt; have HWFF := Lib.hid hwf; have HI := Lib.hid hI; have HA := Lib.hid hI.lt
  have hfw := first_w wd hwd
  have hf0 := first_l0 wd hwd
  have hf1 := (first_l1 wd hwd).1
  rw [hfb] at hf1
  have hfbw : (Lit.int .u8 fb).wf = true := by rw [← hfb]; exact wf_u8_of (by omega) (by omega)
  have hpl := putM_le tl
  have HFW : Hid (∀ x ∈ (((((([fb] ++ [0, 0, 0, 1, 8]) ++ [t0, t1, t2, t3, t4, t5, t6, t7]) ++ [8]) ++ [f0, f1, f2, f3, f4, f5, f6, f7]) ++ (putM tl ++ ks)) ++ [(16384 + n) / 256, (16384 + n) % 256]), (Lit.int .u8 x).wf = true) := Lib.hid (by
    intro x hx
    rcases List.mem_append.1 hx with hx | hx
    case' inr => (simp only [List.mem_cons, List.not_mem_nil, or_false] at hx; rcases hx with rfl | rfl <;> exact wf_u8_of (by omega) (by omega))
    rcases List.mem_append.1 hx with hx | hx
    case' inr => (rcases List.mem_append.1 hx with hx | hx; exact putM_wf _ (by omega) x hx; exact hI.2.1 x hx)
    rcases List.mem_append.1 hx with hx | hx
    case' inr => exact hwf x hx
    rcases List.mem_append.1 hx with hx | hx
    case' inr => (rw [List.mem_singleton] at hx; subst hx; decide)
    rcases List.mem_append.1 hx with hx | hx
    case' inr => exact hwt x hx
    rcases List.mem_append.1 hx with hx | hx
    case' inr => exact (by decide : ∀ y ∈ ([0, 0, 0, 1, 8] : List Int), (Lit.int .u8 y).wf = true) x hx
    rw [List.mem_singleton] at hx; subst hx; exact hfbw)
  have HKL := Lib.hid hI.1
  have hkl0 := hI.1
  obtain ⟨FB, hFB⟩ : ∃ FB, (((((([fb] ++ [0, 0, 0, 1, 8]) ++ [t0, t1, t2, t3, t4, t5, t6, t7]) ++ [8]) ++ [f0, f1, f2, f3, f4, f5, f6, f7]) ++ (putM tl ++ ks)) ++ [(16384 + n) / 256, (16384 + n) % 256]) = FB := ⟨_, rfl⟩
  have hFL : FB.length ≤ 140737488355328 := by rw [← hFB]; simp <;> omega
  rw [hFB] at HFW ⊢
  have HFB := Lib.hid hFB
  clear hwt hI hwf hFB hkl0
  go_enter Try.func49, Try.ntmps49
  go_upto_region 1 with fail
  have hbA := (Below.refl w.heap.size w).alloc (Nat.le_refl _) (.cells #[.int .i64 0, .int .u8 t0, .int .u8 t1, .int .u8 t2, .int .u8 t3, .int .u8 t4, .int .u8 t5, .int .u8 t6, .int .u8 t7, .int .u8 f0, .int .u8 f1, .int .u8 f2, .int .u8 f3, .int .u8 f4, .int .u8 f5, .int .u8 f6, .int .u8 f7, .slice a tl tc, .int .i64 wd, .bool p] 32)
  have HR := Lib.hid (heap_alloc_new w (.cells #[.int .i64 0, .int .u8 t0, .int .u8 t1, .int .u8 t2, .int .u8 t3, .int .u8 t4, .int .u8 t5, .int .u8 t6, .int .u8 t7, .int .u8 f0, .int .u8 f1, .int .u8 f2, .int .u8 f3, .int .u8 f4, .int .u8 f5, .int .u8 f6, .int .u8 f7, .slice a tl tc, .int .i64 wd, .bool p] 32))
  have HB := Lib.hid hbA
  generalize w.alloc (.cells #[.int .i64 0, .int .u8 t0, .int .u8 t1, .int .u8 t2, .int .u8 t3, .int .u8 t4, .int .u8 t5, .int .u8 t6, .int .u8 t7, .int .u8 f0, .int .u8 f1, .int .u8 f2, .int .u8 f3, .int .u8 f4, .int .u8 f5, .int .u8 f6, .int .u8 f7, .slice a tl tc, .int .i64 wd, .bool p] 32) = W at HR HB ⊢
  obtain ⟨g, hg⟩ : ∃ g, w.heap.size = g := ⟨_, rfl⟩
  rw [hg] at HR ⊢
  have HG := Lib.hid hg
  clear hg hbA
  go_wp2_with fail
  refine Calls.mono (new_any W) ?_
  rintro e w1 ⟨rfl, hW1, hb1⟩
  have hgl := lt_of_block HR.out
  have HR1 := Lib.hid (bl_row hb1 hgl HR.out); have HB1 := Lib.hid (bl_next HB.out HB.out.size hb1); have HW1 := Lib.hid hW1
  have HI1 := Lib.hid (((HI.out.below HB.out).below hb1))
  obtain ⟨pw, hpw⟩ : ∃ pw, W.heap.size = pw := ⟨_, rfl⟩
  rw [hpw] at HW1 hgl ⊢
  clear hb1 hW1 HR HB hpw
  have hgw : w.heap.size ≤ g := by have := HG.out; omega
  obtain ⟨c0, c1, c2, c3, c4, c5, c6, c7, c8, c9, c10, c11, c12, c13, c14, c15, c16, c17, c18, c19⟩ := row20 HR1.out
  go_wp2_with fail
  clear c0 c1 c2 c3 c4 c5 c6 c7 c8 c9 c10 c11 c12 c13 c14 c15 c16 c17 c18 c19
  try rw [hfb]
  clear hfw hf0 hf1 hfb
  refine Calls.mono (wbyte_any _ pw pw _ [] fb (by simp) HW1.out hfbw) ?_
  rintro e w2 ⟨v2, rfl, hW, hC, hv⟩
  have HI2 := Lib.hid (ints_ch HI1.out hC (fun h0 x hx => by have := HA.out h0 x hx; exact ⟨by omega, fun h => by have := own_base HW1.out.own _ h; omega⟩))
  have HR2 := Lib.hid (hC.row HR1.out (by omega) (fun h => by have := own_base HW1.out.own g h; omega))
  have HB2 := Lib.hid (hC.below HB1.out HB1.out.size (by omega) (fun k hk => by have := own_base HW1.out.own k hk; omega))
  have HW2 := Lib.hid hW
  clear hW hC hv HR1 HB1 HW1 HI1
  rw [List.nil_append] at HW2
  have hbx := (Below.refl w2.heap.size w2).alloc (Nat.le_refl _) (.cells #[.int .u8 0, .int .u8 0, .int .u8 0, .int .u8 1, .int .u8 8] 5)
  have HX2 := Lib.hid (heap_alloc_new w2 (.cells #[.int .u8 0, .int .u8 0, .int .u8 0, .int .u8 1, .int .u8 8] 5))
  have HR2' := Lib.hid (bl_row hbx (lt_of_block HR2.out) HR2.out); have HB2' := Lib.hid (bl_next HB2.out HB2.out.size hbx); have HW2' := Lib.hid (HW2.out.to hbx); have HI2' := Lib.hid (HI2.out.below hbx)
  clear hbx HR2 HB2 HW2 HI2
  go_wp2_with fail
  generalize w2.alloc (.cells #[.int .u8 0, .int .u8 0, .int .u8 0, .int .u8 1, .int .u8 8] 5) = w2x at HX2 HR2' HB2' HW2' HI2' ⊢
  have HR2 := HR2'; have HB2 := HB2'; have HW2 := HW2'; have HI2 := HI2'
  clear HR2' HB2' HW2' HI2'
  have HT2 := Lib.hid (ints_mid (off := 0) (n := 5) (ys := [0, 0, 0, 1, 8]) HX2.out rfl (by intro i hi; rcases (by omega : i = 0 ∨ i = 1 ∨ i = 2 ∨ i = 3 ∨ i = 4) with rfl | rfl | rfl | rfl | rfl <;> rfl) (by decide))
  refine Calls.mono (wraw_any _ pw pw _ [fb] _ 5 _ _ (by simp) HW2.out HT2.out) ?_
  rintro e w3 ⟨v3, rfl, hW, hC, hv⟩
  have HI3 := Lib.hid (ints_ch HI2.out hC (fun h0 x hx => by have := HA.out h0 x hx; exact ⟨by omega, fun h => by have := own_base HW2.out.own _ h; omega⟩))
  have HR3 := Lib.hid (hC.row HR2.out (by omega) (fun h => by have := own_base HW2.out.own g h; omega))
  have HB3 := Lib.hid (hC.below HB2.out HB2.out.size (by omega) (fun k hk => by have := own_base HW2.out.own k hk; omega))
  have HW3 := Lib.hid hW
  clear hW hC hv HR2 HB2 HW2 HI2
  clear HT2 HX2
  obtain ⟨c0, c1, c2, c3, c4, c5, c6, c7, c8, c9, c10, c11, c12, c13, c14, c15, c16, c17, c18, c19⟩ := row20 HR3.out
  go_wp2_with fail
  clear c0 c1 c2 c3 c4 c5 c6 c7 c8 c9 c10 c11 c12 c13 c14 c15 c16 c17 c18 c19
  have HT3 := Lib.hid (ints_mid (off := 1) (n := 8) (ys := [t0, t1, t2, t3, t4, t5, t6, t7]) HR3.out rfl (by intro i hi; rcases (by omega : i = 0 ∨ i = 1 ∨ i = 2 ∨ i = 3 ∨ i = 4 ∨ i = 5 ∨ i = 6 ∨ i = 7) with rfl | rfl | rfl | rfl | rfl | rfl | rfl | rfl <;> rfl) HWT.out)
  refine Calls.mono (wraw_any _ pw pw _ ([fb] ++ [0, 0, 0, 1, 8]) _ 8 _ _ (by simp) HW3.out HT3.out) ?_
  rintro e w4 ⟨v4, rfl, hW, hC, hv⟩
  have HI4 := Lib.hid (ints_ch HI3.out hC (fun h0 x hx => by have := HA.out h0 x hx; exact ⟨by omega, fun h => by have := own_base HW3.out.own _ h; omega⟩))
  have HR4 := Lib.hid (hC.row HR3.out (by omega) (fun h => by have := own_base HW3.out.own g h; omega))
  have HB4 := Lib.hid (hC.below HB3.out HB3.out.size (by omega) (fun k hk => by have := own_base HW3.out.own k hk; omega))
  have HW4 := Lib.hid hW
  clear hW hC hv HR3 HB3 HW3 HI3
  clear HT3
  go_wp2_with fail
  refine Calls.mono (wbyte_any _ pw pw _ (([fb] ++ [0, 0, 0, 1, 8]) ++ [t0, t1, t2, t3, t4, t5, t6, t7]) 8 (by simp) HW4.out (by decide)) ?_
  rintro e w5 ⟨v5, rfl, hW, hC, hv⟩
  have HI5 := Lib.hid (ints_ch HI4.out hC (fun h0 x hx => by have := HA.out h0 x hx; exact ⟨by omega, fun h => by have := own_base HW4.out.own _ h; omega⟩))
  have HR5 := Lib.hid (hC.row HR4.out (by omega) (fun h => by have := own_base HW4.out.own g h; omega))
  have HB5 := Lib.hid (hC.below HB4.out HB4.out.size (by omega) (fun k hk => by have := own_base HW4.out.own k hk; omega))
  have HW5 := Lib.hid hW
  clear hW hC hv HR4 HB4 HW4 HI4
  obtain ⟨c0, c1, c2, c3, c4, c5, c6, c7, c8, c9, c10, c11, c12, c13, c14, c15, c16, c17, c18, c19⟩ := row20 HR5.out
  go_wp2_with fail
  clear c0 c1 c2 c3 c4 c5 c6 c7 c8 c9 c10 c11 c12 c13 c14 c15 c16 c17 c18 c19
  have HT5 := Lib.hid (ints_mid (off := 9) (n := 8) (ys := [f0, f1, f2, f3, f4, f5, f6, f7]) HR5.out rfl (by intro i hi; rcases (by omega : i = 0 ∨ i = 1 ∨ i = 2 ∨ i = 3 ∨ i = 4 ∨ i = 5 ∨ i = 6 ∨ i = 7) with rfl | rfl | rfl | rfl | rfl | rfl | rfl | rfl <;> rfl) HWFF.out)
  refine Calls.mono (wraw_any _ pw pw _ ((([fb] ++ [0, 0, 0, 1, 8]) ++ [t0, t1, t2, t3, t4, t5, t6, t7]) ++ [8]) _ 8 _ _ (by simp) HW5.out HT5.out) ?_
  rintro e w6 ⟨v6, rfl, hW, hC, hv⟩
  have HI6 := Lib.hid (ints_ch HI5.out hC (fun h0 x hx => by have := HA.out h0 x hx; exact ⟨by omega, fun h => by have := own_base HW5.out.own _ h; omega⟩))
  have HR6 := Lib.hid (hC.row HR5.out (by omega) (fun h => by have := own_base HW5.out.own g h; omega))
  have HB6 := Lib.hid (hC.below HB5.out HB5.out.size (by omega) (fun k hk => by have := own_base HW5.out.own k hk; omega))
  have HW6 := Lib.hid hW
  clear hW hC hv HR5 HB5 HW5 HI5
  clear HT5
  obtain ⟨c0, c1, c2, c3, c4, c5, c6, c7, c8, c9, c10, c11, c12, c13, c14, c15, c16, c17, c18, c19⟩ := row20 HR6.out
  go_wp2_with fail
  clear c0 c1 c2 c3 c4 c5 c6 c7 c8 c9 c10 c11 c12 c13 c14 c15 c16 c17 c18 c19
  refine Calls.mono (wtext_any _ pw pw _ (((([fb] ++ [0, 0, 0, 1, 8]) ++ [t0, t1, t2, t3, t4, t5, t6, t7]) ++ [8]) ++ [f0, f1, f2, f3, f4, f5, f6, f7]) a tl tc ks (by simp; omega) HW6.out HI6.out (fun h0 x hx => by have := HA.out h0 x hx; exact ⟨by omega, fun h => by have := own_base HW6.out.own _ h; omega⟩)) ?_
  rintro e w7 ⟨v7, rfl, hW, hC, hv⟩
  have HI7 := Lib.hid (ints_ch HI6.out hC (fun h0 x hx => by have := HA.out h0 x hx; exact ⟨by omega, fun h => by have := own_base HW6.out.own _ h; omega⟩))
  have HR7 := Lib.hid (hC.row HR6.out (by omega) (fun h => by have := own_base HW6.out.own g h; omega))
  have HB7 := Lib.hid (hC.below HB6.out HB6.out.size (by omega) (fun k hk => by have := own_base HW6.out.own k hk; omega))
  have HW7 := Lib.hid hW
  clear hW hC hv HR6 HB6 HW6 HI6
  go_wp2_with fail
  refine Calls.mono (wtwo_any _ pw pw _ ((((([fb] ++ [0, 0, 0, 1, 8]) ++ [t0, t1, t2, t3, t4, t5, t6, t7]) ++ [8]) ++ [f0, f1, f2, f3, f4, f5, f6, f7]) ++ (putM tl ++ ks)) (16384 + n) (by simp <;> (have := HKL.out; omega)) HW7.out (by omega)) ?_
  rintro e w8 ⟨v8, rfl, hW, hC, hv⟩
  have HI8 := Lib.hid (ints_ch HI7.out hC (fun h0 x hx => by have := HA.out h0 x hx; exact ⟨by omega, fun h => by have := own_base HW7.out.own _ h; omega⟩))
  have HR8 := Lib.hid (hC.row HR7.out (by omega) (fun h => by have := own_base HW7.out.own g h; omega))
  have HB8 := Lib.hid (hC.below HB7.out HB7.out.size (by omega) (fun k hk => by have := own_base HW7.out.own k hk; omega))
  have HW8 := Lib.hid hW
  clear hW hC hv HR7 HB7 HW7 HI7
  rw [HFB.out] at HW8
  go_wp2_with fail
  refine Calls.mono (wdone_own _ pw pw _ FB hFL HFW.out HW8.out) ?_
  rintro e wz ⟨a4, cp4, rfl, h1, h2, h3, h4, h5⟩
  have HF := Lib.hid (bl_next HB8.out HB8.out.size h5)
  have hs3 := HB8.out.size
  clear HB8 HR8 HW8 HI8 h5
  go_wp2_with fail
  go_ret
  exact ⟨a4, cp4, rfl, h1, h2, h3, h4.low hs3, HF.out⟩

set_option maxRecDepth 100000 in
set_option maxHeartbeats 4000000 in
theorem hput_1 (w : World) (t0 t1 t2 t3 t4 t5 t6 t7 f0 f1 f2 f3 f4 f5 f6 f7 wd n fb : Int) (a : Option Addr) (tl tc : Nat) (p : Bool) (ks : List Int) (hI : IntsK .u8 w a tl ks) (htl : tl ≤ 32) (hn : 0 ≤ n ∧ n ≤ 16383) (hwd : 1 ≤ wd ∧ wd ≤ 4) (hwt : ∀ x ∈ [t0, t1, t2, t3, t4, t5, t6, t7], (Lit.int .u8 x).wf = true) (hwf : ∀ x ∈ [f0, f1, f2, f3, f4, f5, f6, f7], (Lit.int .u8 x).wf = true) (hfb : 207 + wd = fb) :
    Calls Try.prog 49 #[.agg #[.int .i64 1, .int .u8 t0, .int .u8 t1, .int .u8 t2, .int .u8 t3, .int .u8 t4, .int .u8 t5, .int .u8 t6, .int .u8 t7, .int .u8 f0, .int .u8 f1, .int .u8 f2, .int .u8 f3, .int .u8 f4, .int .u8 f5, .int .u8 f6, .int .u8 f7, .slice a tl tc, .int .i64 wd, .bool p], .int .i64 n] w fun e w' => ∃ a' cap', e = .returned (.slice a' ((((([fb] ++ [0, 0, 0, 1, 8]) ++ [t0, t1, t2, t3, t4, t5, t6, t7]) ++ [8]) ++ [f0, f1, f2, f3, f4, f5, f6, f7]) ++ [(16384 + n) / 256, (16384 + n) % 256]).length cap') ∧ ((((([fb] ++ [0, 0, 0, 1, 8]) ++ [t0, t1, t2, t3, t4, t5, t6, t7]) ++ [8]) ++ [f0, f1, f2, f3, f4, f5, f6, f7]) ++ [(16384 + n) / 256, (16384 + n) % 256]).length ≤ cap' ∧ cap' ≤ 9223372036854775807 ∧ IntsK .u8 w' a' ((((([fb] ++ [0, 0, 0, 1, 8]) ++ [t0, t1, t2, t3, t4, t5, t6, t7]) ++ [8]) ++ [f0, f1, f2, f3, f4, f5, f6, f7]) ++ [(16384 + n) / 256, (16384 + n) % 256]).length ((((([fb] ++ [0, 0, 0, 1, 8]) ++ [t0, t1, t2, t3, t4, t5, t6, t7]) ++ [8]) ++ [f0, f1, f2, f3, f4, f5, f6, f7]) ++ [(16384 + n) / 256, (16384 + n) % 256]) ∧ (OwnRow w' w.heap.size a' cap') ∧ Below w.heap.size w w' := by
  have HWT := Lib.hid hwt; have HWFF := Lib.hid hwf; have HI := Lib.hid hI; have HA := Lib.hid hI.lt
  have hfw := first_w wd hwd
  have hf0 := first_l0 wd hwd
  have hf1 := (first_l1 wd hwd).2
  skip
  have hfbw : (Lit.int .u8 fb).wf = true := by rw [← hfb]; exact wf_u8_of (by omega) (by omega)
  have hpl := putM_le tl
  have HFW : Hid (∀ x ∈ ((((([fb] ++ [0, 0, 0, 1, 8]) ++ [t0, t1, t2, t3, t4, t5, t6, t7]) ++ [8]) ++ [f0, f1, f2, f3, f4, f5, f6, f7]) ++ [(16384 + n) / 256, (16384 + n) % 256]), (Lit.int .u8 x).wf = true) := Lib.hid (by
    intro x hx
    rcases List.mem_append.1 hx with hx | hx
    case' inr => (simp only [List.mem_cons, List.not_mem_nil, or_false] at hx; rcases hx with rfl | rfl <;> exact wf_u8_of (by omega) (by omega))
    skip
    skip
    rcases List.mem_append.1 hx with hx | hx
    case' inr => exact hwf x hx
    rcases List.mem_append.1 hx with hx | hx
    case' inr => (rw [List.mem_singleton] at hx; subst hx; decide)
    rcases List.mem_append.1 hx with hx | hx
    case' inr => exact hwt x hx
    rcases List.mem_append.1 hx with hx | hx
    case' inr => exact (by decide : ∀ y ∈ ([0, 0, 0, 1, 8] : List Int), (Lit.int .u8 y).wf = true) x hx
    rw [List.mem_singleton] at hx; subst hx; exact hfbw)
  have HKL := Lib.hid hI.1
  have hkl0 := hI.1
  obtain ⟨FB, hFB⟩ : ∃ FB, ((((([fb] ++ [0, 0, 0, 1, 8]) ++ [t0, t1, t2, t3, t4, t5, t6, t7]) ++ [8]) ++ [f0, f1, f2, f3, f4, f5, f6, f7]) ++ [(16384 + n) / 256, (16384 + n) % 256]) = FB := ⟨_, rfl⟩
  have hFL : FB.length ≤ 140737488355328 := by rw [← hFB]; simp <;> omega
  rw [hFB] at HFW ⊢
  have HFB := Lib.hid hFB
  clear hwt hI hwf hFB hkl0
  go_enter Try.func49, Try.ntmps49
  go_upto_region 1 with fail
  have hbA := (Below.refl w.heap.size w).alloc (Nat.le_refl _) (.cells #[.int .i64 1, .int .u8 t0, .int .u8 t1, .int .u8 t2, .int .u8 t3, .int .u8 t4, .int .u8 t5, .int .u8 t6, .int .u8 t7, .int .u8 f0, .int .u8 f1, .int .u8 f2, .int .u8 f3, .int .u8 f4, .int .u8 f5, .int .u8 f6, .int .u8 f7, .slice a tl tc, .int .i64 wd, .bool p] 32)
  have HR := Lib.hid (heap_alloc_new w (.cells #[.int .i64 1, .int .u8 t0, .int .u8 t1, .int .u8 t2, .int .u8 t3, .int .u8 t4, .int .u8 t5, .int .u8 t6, .int .u8 t7, .int .u8 f0, .int .u8 f1, .int .u8 f2, .int .u8 f3, .int .u8 f4, .int .u8 f5, .int .u8 f6, .int .u8 f7, .slice a tl tc, .int .i64 wd, .bool p] 32))
  have HB := Lib.hid hbA
  generalize w.alloc (.cells #[.int .i64 1, .int .u8 t0, .int .u8 t1, .int .u8 t2, .int .u8 t3, .int .u8 t4, .int .u8 t5, .int .u8 t6, .int .u8 t7, .int .u8 f0, .int .u8 f1, .int .u8 f2, .int .u8 f3, .int .u8 f4, .int .u8 f5, .int .u8 f6, .int .u8 f7, .slice a tl tc, .int .i64 wd, .bool p] 32) = W at HR HB ⊢
  obtain ⟨g, hg⟩ : ∃ g, w.heap.size = g := ⟨_, rfl⟩
  rw [hg] at HR ⊢
  have HG := Lib.hid hg
  clear hg hbA
  go_wp2_with fail
  refine Calls.mono (new_any W) ?_
  rintro e w1 ⟨rfl, hW1, hb1⟩
  have hgl := lt_of_block HR.out
  have HR1 := Lib.hid (bl_row hb1 hgl HR.out); have HB1 := Lib.hid (bl_next HB.out HB.out.size hb1); have HW1 := Lib.hid hW1
  have HI1 := Lib.hid (((HI.out.below HB.out).below hb1))
  obtain ⟨pw, hpw⟩ : ∃ pw, W.heap.size = pw := ⟨_, rfl⟩
  rw [hpw] at HW1 hgl ⊢
  clear hb1 hW1 HR HB hpw
  have hgw : w.heap.size ≤ g := by have := HG.out; omega
  obtain ⟨c0, c1, c2, c3, c4, c5, c6, c7, c8, c9, c10, c11, c12, c13, c14, c15, c16, c17, c18, c19⟩ := row20 HR1.out
  go_wp2_with fail
  clear c0 c1 c2 c3 c4 c5 c6 c7 c8 c9 c10 c11 c12 c13 c14 c15 c16 c17 c18 c19
  try rw [hfb]
  clear hfw hf0 hf1 hfb
  refine Calls.mono (wbyte_any _ pw pw _ [] fb (by simp) HW1.out hfbw) ?_
  rintro e w2 ⟨v2, rfl, hW, hC, hv⟩
  have HI2 := Lib.hid (ints_ch HI1.out hC (fun h0 x hx => by have := HA.out h0 x hx; exact ⟨by omega, fun h => by have := own_base HW1.out.own _ h; omega⟩))
  have HR2 := Lib.hid (hC.row HR1.out (by omega) (fun h => by have := own_base HW1.out.own g h; omega))
  have HB2 := Lib.hid (hC.below HB1.out HB1.out.size (by omega) (fun k hk => by have := own_base HW1.out.own k hk; omega))
  have HW2 := Lib.hid hW
  clear hW hC hv HR1 HB1 HW1 HI1
  rw [List.nil_append] at HW2
  have hbx := (Below.refl w2.heap.size w2).alloc (Nat.le_refl _) (.cells #[.int .u8 0, .int .u8 0, .int .u8 0, .int .u8 1, .int .u8 8] 5)
  have HX2 := Lib.hid (heap_alloc_new w2 (.cells #[.int .u8 0, .int .u8 0, .int .u8 0, .int .u8 1, .int .u8 8] 5))
  have HR2' := Lib.hid (bl_row hbx (lt_of_block HR2.out) HR2.out); have HB2' := Lib.hid (bl_next HB2.out HB2.out.size hbx); have HW2' := Lib.hid (HW2.out.to hbx); have HI2' := Lib.hid (HI2.out.below hbx)
  clear hbx HR2 HB2 HW2 HI2
  go_wp2_with fail
  generalize w2.alloc (.cells #[.int .u8 0, .int .u8 0, .int .u8 0, .int .u8 1, .int .u8 8] 5) = w2x at HX2 HR2' HB2' HW2' HI2' ⊢
  have HR2 := HR2'; have HB2 := HB2'; have HW2 := HW2'; have HI2 := HI2'
  clear HR2' HB2' HW2' HI2'
  have HT2 := Lib.hid (ints_mid (off := 0) (n := 5) (ys := [0, 0, 0, 1, 8]) HX2.out rfl (by intro i hi; rcases (by omega : i = 0 ∨ i = 1 ∨ i = 2 ∨ i = 3 ∨ i = 4) with rfl | rfl | rfl | rfl | rfl <;> rfl) (by decide))
  refine Calls.mono (wraw_any _ pw pw _ [fb] _ 5 _ _ (by simp) HW2.out HT2.out) ?_
  rintro e w3 ⟨v3, rfl, hW, hC, hv⟩
  have HI3 := Lib.hid (ints_ch HI2.out hC (fun h0 x hx => by have := HA.out h0 x hx; exact ⟨by omega, fun h => by have := own_base HW2.out.own _ h; omega⟩))
  have HR3 := Lib.hid (hC.row HR2.out (by omega) (fun h => by have := own_base HW2.out.own g h; omega))
  have HB3 := Lib.hid (hC.below HB2.out HB2.out.size (by omega) (fun k hk => by have := own_base HW2.out.own k hk; omega))
  have HW3 := Lib.hid hW
  clear hW hC hv HR2 HB2 HW2 HI2
  clear HT2 HX2
  obtain ⟨c0, c1, c2, c3, c4, c5, c6, c7, c8, c9, c10, c11, c12, c13, c14, c15, c16, c17, c18, c19⟩ := row20 HR3.out
  go_wp2_with fail
  clear c0 c1 c2 c3 c4 c5 c6 c7 c8 c9 c10 c11 c12 c13 c14 c15 c16 c17 c18 c19
  have HT3 := Lib.hid (ints_mid (off := 1) (n := 8) (ys := [t0, t1, t2, t3, t4, t5, t6, t7]) HR3.out rfl (by intro i hi; rcases (by omega : i = 0 ∨ i = 1 ∨ i = 2 ∨ i = 3 ∨ i = 4 ∨ i = 5 ∨ i = 6 ∨ i = 7) with rfl | rfl | rfl | rfl | rfl | rfl | rfl | rfl <;> rfl) HWT.out)
  refine Calls.mono (wraw_any _ pw pw _ ([fb] ++ [0, 0, 0, 1, 8]) _ 8 _ _ (by simp) HW3.out HT3.out) ?_
  rintro e w4 ⟨v4, rfl, hW, hC, hv⟩
  have HI4 := Lib.hid (ints_ch HI3.out hC (fun h0 x hx => by have := HA.out h0 x hx; exact ⟨by omega, fun h => by have := own_base HW3.out.own _ h; omega⟩))
  have HR4 := Lib.hid (hC.row HR3.out (by omega) (fun h => by have := own_base HW3.out.own g h; omega))
  have HB4 := Lib.hid (hC.below HB3.out HB3.out.size (by omega) (fun k hk => by have := own_base HW3.out.own k hk; omega))
  have HW4 := Lib.hid hW
  clear hW hC hv HR3 HB3 HW3 HI3
  clear HT3
  go_wp2_with fail
  refine Calls.mono (wbyte_any _ pw pw _ (([fb] ++ [0, 0, 0, 1, 8]) ++ [t0, t1, t2, t3, t4, t5, t6, t7]) 8 (by simp) HW4.out (by decide)) ?_
  rintro e w5 ⟨v5, rfl, hW, hC, hv⟩
  have HI5 := Lib.hid (ints_ch HI4.out hC (fun h0 x hx => by have := HA.out h0 x hx; exact ⟨by omega, fun h => by have := own_base HW4.out.own _ h; omega⟩))
  have HR5 := Lib.hid (hC.row HR4.out (by omega) (fun h => by have := own_base HW4.out.own g h; omega))
  have HB5 := Lib.hid (hC.below HB4.out HB4.out.size (by omega) (fun k hk => by have := own_base HW4.out.own k hk; omega))
  have HW5 := Lib.hid hW
  clear hW hC hv HR4 HB4 HW4 HI4
  obtain ⟨c0, c1, c2, c3, c4, c5, c6, c7, c8, c9, c10, c11, c12, c13, c14, c15, c16, c17, c18, c19⟩ := row20 HR5.out
  go_wp2_with fail
  clear c0 c1 c2 c3 c4 c5 c6 c7 c8 c9 c10 c11 c12 c13 c14 c15 c16 c17 c18 c19
  have HT5 := Lib.hid (ints_mid (off := 9) (n := 8) (ys := [f0, f1, f2, f3, f4, f5, f6, f7]) HR5.out rfl (by intro i hi; rcases (by omega : i = 0 ∨ i = 1 ∨ i = 2 ∨ i = 3 ∨ i = 4 ∨ i = 5 ∨ i = 6 ∨ i = 7) with rfl | rfl | rfl | rfl | rfl | rfl | rfl | rfl <;> rfl) HWFF.out)
  refine Calls.mono (wraw_any _ pw pw _ ((([fb] ++ [0, 0, 0, 1, 8]) ++ [t0, t1, t2, t3, t4, t5, t6, t7]) ++ [8]) _ 8 _ _ (by simp) HW5.out HT5.out) ?_
  rintro e w6 ⟨v6, rfl, hW, hC, hv⟩
  have HI6 := Lib.hid (ints_ch HI5.out hC (fun h0 x hx => by have := HA.out h0 x hx; exact ⟨by omega, fun h => by have := own_base HW5.out.own _ h; omega⟩))
  have HR6 := Lib.hid (hC.row HR5.out (by omega) (fun h => by have := own_base HW5.out.own g h; omega))
  have HB6 := Lib.hid (hC.below HB5.out HB5.out.size (by omega) (fun k hk => by have := own_base HW5.out.own k hk; omega))
  have HW6 := Lib.hid hW
  clear hW hC hv HR5 HB5 HW5 HI5
  clear HT5
  obtain ⟨c0, c1, c2, c3, c4, c5, c6, c7, c8, c9, c10, c11, c12, c13, c14, c15, c16, c17, c18, c19⟩ := row20 HR6.out
  go_wp2_with fail
  clear c0 c1 c2 c3 c4 c5 c6 c7 c8 c9 c10 c11 c12 c13 c14 c15 c16 c17 c18 c19
  refine Calls.mono (wtwo_any _ pw pw _ (((([fb] ++ [0, 0, 0, 1, 8]) ++ [t0, t1, t2, t3, t4, t5, t6, t7]) ++ [8]) ++ [f0, f1, f2, f3, f4, f5, f6, f7]) (16384 + n) (by simp <;> (have := HKL.out; omega)) HW6.out (by omega)) ?_
  rintro e w7 ⟨v7, rfl, hW, hC, hv⟩
  have HI7 := Lib.hid (ints_ch HI6.out hC (fun h0 x hx => by have := HA.out h0 x hx; exact ⟨by omega, fun h => by have := own_base HW6.out.own _ h; omega⟩))
  have HR7 := Lib.hid (hC.row HR6.out (by omega) (fun h => by have := own_base HW6.out.own g h; omega))
  have HB7 := Lib.hid (hC.below HB6.out HB6.out.size (by omega) (fun k hk => by have := own_base HW6.out.own k hk; omega))
  have HW7 := Lib.hid hW
  clear hW hC hv HR6 HB6 HW6 HI6
  rw [HFB.out] at HW7
  go_wp2_with fail
  refine Calls.mono (wdone_own _ pw pw _ FB hFL HFW.out HW7.out) ?_
  rintro e wz ⟨a4, cp4, rfl, h1, h2, h3, h4, h5⟩
  have HF := Lib.hid (bl_next HB7.out HB7.out.size h5)
  have hs3 := HB7.out.size
  clear HB7 HR7 HW7 HI7 h5
  go_wp2_with fail
  go_ret
  exact ⟨a4, cp4, rfl, h1, h2, h3, h4.low hs3, HF.out⟩
theorem hput_any (w : World) (h : Hd) (a : Option Addr) (tc : Nat) (n : Int) (hk : h.ok) (hr : hrightP h) (hn : 0 ≤ n ∧ n ≤ 16383) (hI : IntsK .u8 w a h.k.length h.k) :
    Calls Try.prog 49 #[h.val a tc, .int .i64 n] w fun e w' => ∃ a' cap', e = .returned (.slice a' (encH h n).length cap') ∧ (encH h n).length ≤ cap' ∧ cap' ≤ 9223372036854775807 ∧ IntsK .u8 w' a' (encH h n).length (encH h n) ∧ (OwnRow w' w.heap.size a' cap') ∧ Below w.heap.size w w' := by
  obtain ⟨s, t, f, k, wd, p⟩ := h
  obtain ⟨t0, t1, t2, t3, t4, t5, t6, t7, rfl⟩ := len8 hk.lt
  obtain ⟨f0, f1, f2, f3, f4, f5, f6, f7, rfl⟩ := len8 hk.lf
  obtain ⟨h1, h4, h⟩ := hr
  simp only at h1 h4 h
  rcases h with ⟨rfl, hl, rfl⟩ | ⟨rfl, hl, rfl⟩ | ⟨rfl, hl, hz⟩
  · have e : encH ⟨0, [t0, t1, t2, t3, t4, t5, t6, t7], [f0, f1, f2, f3, f4, f5, f6, f7], k, wd, false⟩ n = (((((([191 + wd] ++ [0, 0, 0, 1, 8]) ++ [t0, t1, t2, t3, t4, t5, t6, t7]) ++ [8]) ++ [f0, f1, f2, f3, f4, f5, f6, f7]) ++ (putM k.length ++ k)) ++ [(16384 + n) / 256, (16384 + n) % 256]) := by
      simp [encH, firstM]
    rw [e]
    exact hput_0 w t0 t1 t2 t3 t4 t5 t6 t7 f0 f1 f2 f3 f4 f5 f6 f7 wd n (191 + wd) a k.length tc false k hI hl hn ⟨h1, h4⟩ hk.wt hk.wf rfl
  · have e : encH ⟨1, [t0, t1, t2, t3, t4, t5, t6, t7], [f0, f1, f2, f3, f4, f5, f6, f7], k, wd, false⟩ n = ((((([207 + wd] ++ [0, 0, 0, 1, 8]) ++ [t0, t1, t2, t3, t4, t5, t6, t7]) ++ [8]) ++ [f0, f1, f2, f3, f4, f5, f6, f7]) ++ [(16384 + n) / 256, (16384 + n) % 256]) := by
      simp [encH, firstM]
      try omega
    rw [e]
    exact hput_1 w t0 t1 t2 t3 t4 t5 t6 t7 f0 f1 f2 f3 f4 f5 f6 f7 wd n (207 + wd) a k.length tc false k hI (by omega) hn ⟨h1, h4⟩ hk.wt hk.wf rfl
  · have e : encH ⟨2, [t0, t1, t2, t3, t4, t5, t6, t7], [f0, f1, f2, f3, f4, f5, f6, f7], k, wd, p⟩ n = ((63 + wd + (if p then 4 else 0)) :: [t0, t1, t2, t3, t4, t5, t6, t7]) := by
      simp [encH, firstM]
    rw [e]
    exact hput_data w t0 t1 t2 t3 t4 t5 t6 t7 f0 f1 f2 f3 f4 f5 f6 f7 wd n a k.length tc p k hI ⟨h1, h4⟩ hk.wt
end Go.Proofs.Ythofbckkjcidmaa
