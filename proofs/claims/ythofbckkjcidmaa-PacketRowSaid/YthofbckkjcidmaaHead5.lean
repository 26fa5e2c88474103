/- heads: the reference's Encode. -/
import Derived.Test.YthofbckkjcidmaaHead4
namespace Go.Proofs.Ythofbckkjcidmaa
open Go.RowKit
set_option linter.unusedVariables false

section
variable {P : Program} {Q : Exit → Act → World → Prop}
theorem plan_b {l : List Oper} {k j : Nat} {p q : Plan} {S : World → Prop} {a : Act} {w : World}
    (h1 : wpOp P l.toArray Q k (fun a' w' => ∃ S' : World → Prop, (∀ x, S' x → S x) ∧ S' w' ∧ p.wp P l.toArray Q S' a' w') a w)
    (h2 : wpOp P l.toArray Q j (fun a' w' => ∃ S' : World → Prop, (∀ x, S' x → S x) ∧ S' w' ∧ q.wp P l.toArray Q S' a' w') a w) : (Plan.b k p j q).wp P l.toArray Q S a w := ⟨h1, h2⟩
theorem plan_half {l : List Oper} {k : Nat} {p : Plan} {S : World → Prop} {a : Act} {w : World} {o : Oper} (ho : l[k]? = some o) (hw : Region.wanted o (yielded l.toArray a.tmps) = true)
    (h : ∀ K' : Act → World → Prop, (∀ a' w', S w' ∧ p.wp P l.toArray Q S a' w' → K' a' w') → Oper.wp P o a w K' Q) : wpOp P l.toArray Q k (fun a' w' => ∃ S' : World → Prop, (∀ x, S' x → S x) ∧ S' w' ∧ p.wp P l.toArray Q S' a' w') a w :=
  wpOp_step (by simpa using ho) fun K' hK => by rw [if_pos hw]; exact h K' fun a' w' ⟨h2, h3⟩ => hK a' w' ⟨S, fun _ h => h, h2, h3⟩
end
theorem wp_append_bytes_at {o : Oper} {a : Act} {w : World} {K : Act → World → Prop} {Q : Exit → Act → World → Prop} (s x : Operand)
    (ho : o.op = .call { callee := .builtin .append, args := #[s, x], argTypes := #[23, 23] })
    (base n : Nat) (v : Value) (xs : List Int) (hs : a.eval s = v) (hown : w.ownsRow base 5 1 v n (xs.map (Value.int .u8))) (xa : Option Addr) (m c : Nat) (bs : List Int) (hx : a.eval x = .slice xa m c) (hI : IntsK .u8 w xa m bs)
    (hb : n + m ≤ 140737488355328) (hbase : base ≤ w.heap.size)
    (h : ∀ v' w', w'.ownsRow base 5 1 v' (n + m) ((xs ++ bs).map (Value.int .u8)) → w.grownBy w' v.ownBlock → (v'.ownBlock = v.ownBlock ∨ v'.ownBlock = some w.heap.size) → K (a.put o.dst v') w') : Oper.wp Try.prog o a w K Q := by
  obtain ⟨v', w', hr, h2, h3, h4⟩ := append_bytes_at w o.type base n v xs hown xa m c bs hI hb hbase
  unfold Oper.wp execOp
  simp only [ho, resolve, invoke, builtin, Sem.run_bind, Sem.run_pure, Result.andThen_ok, List.map_toArray, List.map_cons, List.map_nil, hs, hx, hr]
  exact h v' w' h2 h3 h4

set_option maxRecDepth 100000 in
set_option maxHeartbeats 4000000 in
theorem rencode_data (w : World) (t0 t1 t2 t3 t4 t5 t6 t7 f0 f1 f2 f3 f4 f5 f6 f7 wd n : Int) (a : Option Addr) (tl tc : Nat) (p : Bool) (hwd : 1 ≤ wd ∧ wd ≤ 4) (hwt : ∀ x ∈ [t0, t1, t2, t3, t4, t5, t6, t7], (Lit.int .u8 x).wf = true) :
    Calls Try.prog 38 #[.agg #[.int .i64 2, .int .u8 t0, .int .u8 t1, .int .u8 t2, .int .u8 t3, .int .u8 t4, .int .u8 t5, .int .u8 t6, .int .u8 t7, .int .u8 f0, .int .u8 f1, .int .u8 f2, .int .u8 f3, .int .u8 f4, .int .u8 f5, .int .u8 f6, .int .u8 f7, .slice a tl tc, .int .i64 wd, .bool p], .int .i64 n] w fun e w' => ∃ v, e = .returned v ∧ Below w.heap.size w w' ∧ w'.ownsRow w.heap.size 5 1 v 9 (((63 + wd + (if p then 4 else 0)) :: [t0, t1, t2, t3, t4, t5, t6, t7]).map (Value.int .u8)) := by
  have HWT := Lib.hid hwt
  clear hwt
  obtain ⟨fb, hfb⟩ : ∃ fb, 63 + wd + (if p then 4 else 0) = fb := ⟨_, rfl⟩
  have hfbb : 0 ≤ fb ∧ fb < 256 := by rw [← hfb]; cases p <;> simp <;> omega
  rw [hfb]
  go_enter Try.func38, Try.ntmps38
  go_upto_region 1 with fail
  have hbA := (Below.refl w.heap.size w).alloc (Nat.le_refl _) (.cells #[.int .i64 2, .int .u8 t0, .int .u8 t1, .int .u8 t2, .int .u8 t3, .int .u8 t4, .int .u8 t5, .int .u8 t6, .int .u8 t7, .int .u8 f0, .int .u8 f1, .int .u8 f2, .int .u8 f3, .int .u8 f4, .int .u8 f5, .int .u8 f6, .int .u8 f7, .slice a tl tc, .int .i64 wd, .bool p] 32)
  have HR := Lib.hid (heap_alloc_new w (.cells #[.int .i64 2, .int .u8 t0, .int .u8 t1, .int .u8 t2, .int .u8 t3, .int .u8 t4, .int .u8 t5, .int .u8 t6, .int .u8 t7, .int .u8 f0, .int .u8 f1, .int .u8 f2, .int .u8 f3, .int .u8 f4, .int .u8 f5, .int .u8 f6, .int .u8 f7, .slice a tl tc, .int .i64 wd, .bool p] 32))
  have HB := Lib.hid hbA
  generalize w.alloc (.cells #[.int .i64 2, .int .u8 t0, .int .u8 t1, .int .u8 t2, .int .u8 t3, .int .u8 t4, .int .u8 t5, .int .u8 t6, .int .u8 t7, .int .u8 f0, .int .u8 f1, .int .u8 f2, .int .u8 f3, .int .u8 f4, .int .u8 f5, .int .u8 f6, .int .u8 f7, .slice a tl tc, .int .i64 wd, .bool p] 32) = W at HR HB ⊢
  obtain ⟨g, hg⟩ : ∃ g, w.heap.size = g := ⟨_, rfl⟩
  rw [hg] at HR ⊢
  have HG := Lib.hid hg
  clear hg hbA
  have c0 := row_cell HR.out 0 _ rfl
  have c18 := row_cell HR.out 18 _ rfl
  have c19 := row_cell HR.out 19 _ rfl
  have hwg : w.heap.size ≤ g := by have := HG.out; omega
  cases p
  case' false => (have hfb : 64 + wd - 1 = fb := by simp at hfb; omega)
  case' true => (have hfb : 64 + wd - 1 + 4 = fb := by simp at hfb; omega)
  all_goals (
    go_upto_region 5 with fail
    clear c0 c18 c19
    (try rw [hfb])
    clear hfb
    have hbx := (Below.refl W.heap.size W).alloc (Nat.le_refl _) (.cells #[.int .u8 fb] 5)
    have HT := Lib.hid ((ints_mid (off := 1) (n := 8) (ys := [t0, t1, t2, t3, t4, t5, t6, t7]) HR.out rfl (by intro i hi; rcases (by omega : i = 0 ∨ i = 1 ∨ i = 2 ∨ i = 3 ∨ i = 4 ∨ i = 5 ∨ i = 6 ∨ i = 7) with rfl | rfl | rfl | rfl | rfl | rfl | rfl | rfl <;> rfl) HWT.out).below hbx)
    have HO := Lib.hid (own_of_row (n := 1) (base := w.heap.size) (xs := [fb].map (Value.int .u8)) (heap_alloc_new W (.cells #[.int .u8 fb] 5)) HB.out.size rfl (by unfold maxLen; omega))
    have HBx := Lib.hid (bl_next HB.out HB.out.size hbx)
    have hsx := HBx.out.size
    clear hbx
    go_wp2_with (first | (at_builtin; refine wpList_append_bytes rfl _ _ rfl w.heap.size 1 _ [fb] rfl HO.out _ 8 _ _ rfl HT.out (by omega) hsx ?_; intro v1 w1 hown hgrow; have HO1 := Lib.hid hown; have HB1 := Lib.hid (HBx.out.grown hgrow hsx (own_base HO.out)); clear hown hgrow) | fail)
    (try go_ret)
    exact ⟨_, rfl, HB1.out, HO1.out⟩)
theorem own_low {w : World} {base base' e size n : Nat} {v : Value} {xs : List Value} (h : w.ownsRow base e size v n xs) (hb : base' ≤ base) : w.ownsRow base' e size v n xs := by
  rcases h with ⟨h1, h2 | ⟨g, c, cs, r1, r2, r3⟩⟩
  · exact ⟨h1, .inl h2⟩
  · exact ⟨h1, .inr ⟨g, c, cs, r1, Nat.le_trans hb r2, r3⟩⟩

set_option maxRecDepth 100000 in
set_option maxHeartbeats 8000000 in
theorem rencode_long (w : World) (s t0 t1 t2 t3 t4 t5 t6 t7 f0 f1 f2 f3 f4 f5 f6 f7 wd n fb : Int) (a : Option Addr) (tl tc : Nat) (p : Bool) (ks : List Int) (hs : s = 0 ∧ tl ≤ 32 ∨ s = 1 ∧ tl = 0) (hwd : 1 ≤ wd ∧ wd ≤ 4) (hn : 0 ≤ n ∧ n ≤ 16383) (hfb : 192 + 16 * s + wd - 1 = fb) (hI : IntsK .u8 w a tl ks)
    (hwt : ∀ x ∈ [t0, t1, t2, t3, t4, t5, t6, t7], (Lit.int .u8 x).wf = true) (hwf : ∀ x ∈ [f0, f1, f2, f3, f4, f5, f6, f7], (Lit.int .u8 x).wf = true) :
    Calls Try.prog 38 #[.agg #[.int .i64 s, .int .u8 t0, .int .u8 t1, .int .u8 t2, .int .u8 t3, .int .u8 t4, .int .u8 t5, .int .u8 t6, .int .u8 t7, .int .u8 f0, .int .u8 f1, .int .u8 f2, .int .u8 f3, .int .u8 f4, .int .u8 f5, .int .u8 f6, .int .u8 f7, .slice a tl tc, .int .i64 wd, .bool p], .int .i64 n] w fun e w' => ∃ v, e = .returned v ∧ Below w.heap.size w w' ∧ w'.ownsRow w.heap.size 5 1 v (((([fb, 0, 0, 0, 1, 8] ++ [t0, t1, t2, t3, t4, t5, t6, t7]) ++ [8]) ++ [f0, f1, f2, f3, f4, f5, f6, f7]) ++ ((if s = 0 then putM tl ++ ks else []) ++ [(16384 + n) / 256, (16384 + n) % 256])).length ((((([fb, 0, 0, 0, 1, 8] ++ [t0, t1, t2, t3, t4, t5, t6, t7]) ++ [8]) ++ [f0, f1, f2, f3, f4, f5, f6, f7]) ++ ((if s = 0 then putM tl ++ ks else []) ++ [(16384 + n) / 256, (16384 + n) % 256])).map (Value.int .u8)) := by
  have HWT := Lib.hid hwt; have HWFF := Lib.hid hwf; have HI := Lib.hid hI; have HKL := Lib.hid hI.1
  have hfbb : 0 ≤ fb ∧ fb < 256 := by omega
  have HFBW := Lib.hid (wf_u8_of hfbb.1 hfbb.2)
  clear hwt hwf hI
  obtain ⟨X, hX⟩ : ∃ X, (([fb, 0, 0, 0, 1, 8] ++ [t0, t1, t2, t3, t4, t5, t6, t7]) ++ [8]) ++ [f0, f1, f2, f3, f4, f5, f6, f7] = X := ⟨_, rfl⟩
  have HXL : Hid (X.length = 23) := Lib.hid (by rw [← hX]; rfl)
  have HXW : Hid (∀ x ∈ X, (Lit.int .u8 x).wf = true) := Lib.hid (by
    rw [← hX]
    intro x hx
    rcases List.mem_append.1 hx with hx | hx
    case' inr => exact HWFF.out x hx
    rcases List.mem_append.1 hx with hx | hx
    case' inr => (rw [List.mem_singleton] at hx; subst hx; decide)
    rcases List.mem_append.1 hx with hx | hx
    case' inr => exact HWT.out x hx
    rcases List.mem_cons.1 hx with h | h
    · rw [h]; exact HFBW.out
    · exact (by decide : ∀ y ∈ ([0, 0, 0, 1, 8] : List Int), (Lit.int .u8 y).wf = true) x h)
  rw [hX]
  have HXX := Lib.hid hX
  clear hX
  obtain ⟨R, hR⟩ : ∃ R, X ++ ((if s = 0 then putM tl ++ ks else []) ++ [(16384 + n) / 256, (16384 + n) % 256]) = R := ⟨_, rfl⟩
  rw [hR]
  have HRR := Lib.hid hR
  clear hR
  go_enter Try.func38, Try.ntmps38
  go_upto_region 1 with fail
  have hbA := (Below.refl w.heap.size w).alloc (Nat.le_refl _) (.cells #[.int .i64 s, .int .u8 t0, .int .u8 t1, .int .u8 t2, .int .u8 t3, .int .u8 t4, .int .u8 t5, .int .u8 t6, .int .u8 t7, .int .u8 f0, .int .u8 f1, .int .u8 f2, .int .u8 f3, .int .u8 f4, .int .u8 f5, .int .u8 f6, .int .u8 f7, .slice a tl tc, .int .i64 wd, .bool p] 32)
  have HR := Lib.hid (heap_alloc_new w (.cells #[.int .i64 s, .int .u8 t0, .int .u8 t1, .int .u8 t2, .int .u8 t3, .int .u8 t4, .int .u8 t5, .int .u8 t6, .int .u8 t7, .int .u8 f0, .int .u8 f1, .int .u8 f2, .int .u8 f3, .int .u8 f4, .int .u8 f5, .int .u8 f6, .int .u8 f7, .slice a tl tc, .int .i64 wd, .bool p] 32))
  have HB := Lib.hid hbA
  generalize w.alloc (.cells #[.int .i64 s, .int .u8 t0, .int .u8 t1, .int .u8 t2, .int .u8 t3, .int .u8 t4, .int .u8 t5, .int .u8 t6, .int .u8 t7, .int .u8 f0, .int .u8 f1, .int .u8 f2, .int .u8 f3, .int .u8 f4, .int .u8 f5, .int .u8 f6, .int .u8 f7, .slice a tl tc, .int .i64 wd, .bool p] 32) = W at HR HB ⊢
  obtain ⟨g, hg⟩ : ∃ g, w.heap.size = g := ⟨_, rfl⟩
  rw [hg] at HR ⊢
  have HG := Lib.hid hg
  clear hg hbA
  have c0 := row_cell HR.out 0 _ rfl
  have c18 := row_cell HR.out 18 _ rfl
  have hwg : w.heap.size ≤ g := by have := HG.out; omega
  have hgl : g < W.heap.size := lt_of_block HR.out
  have HI1 := Lib.hid (HI.out.below HB.out)
  have hs2 : ¬ s = 2 := by omega
  go_upto_region 7 with fail
  clear c0 c18
  (try rw [hfb])
  clear hfb
  have HO := Lib.hid (own_below (own_of_row (n := 6) (base := W.heap.size) (xs := ([fb, 0, 0, 0, 1, 8] : List Int).map (Value.int .u8)) (heap_alloc_new W (.cells #[.int .u8 fb, .int .u8 0, .int .u8 0, .int .u8 0, .int .u8 1, .int .u8 8] 5)) (Nat.le_refl _) rfl (by unfold maxLen; omega)) (Below.refl _ _).drew)
  have hS0 := (Below.refl W.heap.size W).alloc (Nat.le_refl _) (.cells #[.int .u8 fb, .int .u8 0, .int .u8 0, .int .u8 0, .int .u8 1, .int .u8 8] 5)
  refine wp_plan (.t 0 (.t 1 (.t 2 (.t 6 (.t 7 (.b 3 (.u 4 (.u 5 (.u 8 (.t 9 .done)))) 4 (.u 3 (.u 5 (.u 8 (.t 9 .done)))))))))) (fun y => Below W.heap.size W y) (by kernel_rfl) (by kernel_rfl) (by kernel_rfl) (fun c a d v w h => by cases d <;> exact h) hS0.drew ?_
  have hS := hS0.drew
  clear hS0
  generalize (W.alloc (.cells #[.int .u8 fb, .int .u8 0, .int .u8 0, .int .u8 0, .int .u8 1, .int .u8 8] 5)).drew = Wa at hS HO ⊢
  haveI hne : Nonempty (In fun y => Below W.heap.size W y) := ⟨⟨W, Below.refl _ _⟩⟩
  repeat (refine plan_t (by rfl) ?_; (first | go_big_quiet_skip | (go_big_quiet_want; go_big_quiet_op; go_big_quiet_on)); refine wpQuiet_nil ?_)
  refine plan_b ?_ ?_
  · skip
    refine plan_half (by rfl) (by kernel_rfl) ?_
    intro K hK
    refine wp_append_bytes_at _ _ rfl W.heap.size 6 _ ([fb, 0, 0, 0, 1, 8]) rfl HO.out (some ⟨g, 1, none⟩) 8 8 [t0, t1, t2, t3, t4, t5, t6, t7] rfl (ints_mid (off := 1) (n := 8) (ys := [t0, t1, t2, t3, t4, t5, t6, t7]) (bl_row hS hgl HR.out) rfl (by intro i hi; rcases (by omega : i = 0 ∨ i = 1 ∨ i = 2 ∨ i = 3 ∨ i = 4 ∨ i = 5 ∨ i = 6 ∨ i = 7) with rfl | rfl | rfl | rfl | rfl | rfl | rfl | rfl <;> rfl) HWT.out) (by omega) hS.size ?_
    intro v3 Wr1 hown hgrow hor
    have hS2 := hS.grown hgrow hS.size (own_base HO.out)
    refine hK _ _ ⟨hS2, ?_⟩
    replace hS := hS2
    replace HO : Hid (Wr1.ownsRow W.heap.size 5 1 v3 14 (([fb, 0, 0, 0, 1, 8] ++ [t0, t1, t2, t3, t4, t5, t6, t7]).map (Value.int .u8))) := Lib.hid hown
    clear hS2 hown hgrow hor hK
    refine plan_us (by rfl) (by kernel_rfl) ?_
    intro K hK
    go_wp2_with fail
    have hal := (Below.refl Wr1.heap.size Wr1).alloc (Nat.le_refl _) (.cells #[.int .u8 8] 5)
    have hga := heap_alloc_new Wr1 (.cells #[.int .u8 8] 5)
    refine ⟨bl_next hS hS.size hal, ?_⟩
    have hne8 : ∀ k, (v3).ownBlock = some k → k < Wr1.heap.size := fun k hk => (HO.out.lt k hk).2
    replace HO := Lib.hid (own_below HO.out hal)
    replace hS := bl_next hS hS.size hal
    generalize Wr1.alloc (.cells #[.int .u8 8] 5) = Wr2 at hS hga HO ⊢
    generalize Wr1.heap.size = g8 at hga hne8 ⊢
    clear hal
    have H8 := Lib.hid hga
    clear hga
    refine plan_us (by rfl) (by kernel_rfl) ?_
    intro K hK
    refine wp_append_bytes_at _ _ rfl W.heap.size 14 _ ([fb, 0, 0, 0, 1, 8] ++ [t0, t1, t2, t3, t4, t5, t6, t7]) rfl HO.out (some ⟨g8, 0, none⟩) 1 1 [8] rfl (IntsK.of_row (zs := [8]) H8.out (by decide)) (by omega) hS.size ?_
    intro v5 Wr3 hown hgrow hor
    have hS2 := hS.grown hgrow hS.size (own_base HO.out)
    refine hK _ _ ⟨hS2, ?_⟩
    replace hS := hS2
    replace HO : Hid (Wr3.ownsRow W.heap.size 5 1 v5 15 ((([fb, 0, 0, 0, 1, 8] ++ [t0, t1, t2, t3, t4, t5, t6, t7]) ++ [8]).map (Value.int .u8))) := Lib.hid hown
    clear hS2 hown hgrow hor hK
    refine plan_us (by rfl) (by kernel_rfl) ?_
    intro K hK
    refine wp_append_bytes_at _ _ rfl W.heap.size 15 _ (([fb, 0, 0, 0, 1, 8] ++ [t0, t1, t2, t3, t4, t5, t6, t7]) ++ [8]) rfl HO.out (some ⟨g, 9, none⟩) 8 8 [f0, f1, f2, f3, f4, f5, f6, f7] rfl (ints_mid (off := 9) (n := 8) (ys := [f0, f1, f2, f3, f4, f5, f6, f7]) (bl_row hS hgl HR.out) rfl (by intro i hi; rcases (by omega : i = 0 ∨ i = 1 ∨ i = 2 ∨ i = 3 ∨ i = 4 ∨ i = 5 ∨ i = 6 ∨ i = 7) with rfl | rfl | rfl | rfl | rfl | rfl | rfl | rfl <;> rfl) HWFF.out) (by omega) hS.size ?_
    intro v8 Wr4 hown hgrow hor
    have hS2 := hS.grown hgrow hS.size (own_base HO.out)
    refine hK _ _ ⟨hS2, ?_⟩
    replace hS := hS2
    replace HO : Hid (Wr4.ownsRow W.heap.size 5 1 v8 23 (((([fb, 0, 0, 0, 1, 8] ++ [t0, t1, t2, t3, t4, t5, t6, t7]) ++ [8]) ++ [f0, f1, f2, f3, f4, f5, f6, f7]).map (Value.int .u8))) := Lib.hid hown
    clear hS2 hown hgrow hor hK
    simp only [Act.put, List.setIfInBounds_toArray, List.set_cons_succ, List.set_cons_zero]
    repeat (refine plan_t (by rfl) ?_; (first | go_big_quiet_skip | (go_big_quiet_want; go_big_quiet_op; go_big_quiet_on)); refine wpQuiet_nil ?_)
    clear hne
    show Exit.then _ _ _ _ _
    rw [HXX.out] at HO
    obtain ⟨bx, cpx, rfl, hcpx, hix, hlox⟩ := ints_of_own HO.out HXW.out
    have HIX := Lib.hid hix
    have HSS := Lib.hid hS
    have HRr := Lib.hid (bl_row hS hgl HR.out)
    have HIr := Lib.hid (HI1.out.below hS)
    clear hS HO hix hcpx hlox HR HI1 HWT HWFF H8 HFBW
    have c0 := row_cell HRr.out 0 _ rfl
    have c17 := row_cell HRr.out 17 _ rfl
    clear HRr
    rcases hs with ⟨rfl, htl⟩ | ⟨rfl, htl⟩
    · replace HRR : Hid (X ++ ((putM tl ++ ks) ++ [(16384 + n) / 256, (16384 + n) % 256]) = R) := Lib.hid (by have h := HRR.out; rw [if_pos rfl] at h; exact h)
      go_wp2_with fail
      refine Calls.mono (rwtext_any _ bx 23 cpx X a tl tc ks (by omega) HIX.out HIr.out) ?_
      rintro e wa ⟨va, rfl, hb, ho⟩
      clear c0 c17
      have HBa := Lib.hid (bl_next HSS.out HSS.out.size hb)
      have hYl : (X ++ (putM tl ++ ks)).length ≤ 63 := by simp only [List.length_append]; have := HKL.out; have := HXL.out; have := putM_le tl; omega
      obtain ⟨Y, hY⟩ : ∃ Y, X ++ (putM tl ++ ks) = Y := ⟨_, rfl⟩
      rw [hY] at ho hYl
      obtain ⟨by', cpy, rfl, hcpy, hiy, hloy⟩ := ints_of_own ho (by rw [← hY]; intro x hx; rcases List.mem_append.1 hx with h | h; exact HXW.out x h; rcases List.mem_append.1 h with h | h; exact putM_wf _ (by omega) x h; exact HIr.out.2.1 x h)
      have HIY := Lib.hid hiy; have HYY := Lib.hid hY
      clear hb ho hcpy hiy hloy hY HIX HIr
      go_wp2_with fail
      refine Calls.mono (rwtwo_any _ by' Y.length cpy Y (16384 + n) (by omega) HIY.out (by omega)) ?_
      rintro e wb ⟨vb, rfl, hb, ho⟩
      have HBb := Lib.hid (bl_next HBa.out HBa.out.size hb)
      have HOB := Lib.hid (own_low ho (Nat.le_trans HB.out.size HBa.out.size))
      clear hb ho HIY
      go_wp2_with fail
      (try go_ret)
      refine ⟨vb, rfl, bl_next HB.out HB.out.size HBb.out, ?_⟩
      rw [← HRR.out, ← List.append_assoc, HYY.out, List.length_append]
      exact HOB.out
    · replace HRR : Hid (X ++ [(16384 + n) / 256, (16384 + n) % 256] = R) := Lib.hid (by have h := HRR.out; rw [if_neg (by decide), List.nil_append] at h; exact h)
      go_wp2_with fail
      clear c0 c17
      refine Calls.mono (rwtwo_any _ bx 23 cpx X (16384 + n) (by omega) HIX.out (by omega)) ?_
      rintro e wb ⟨vb, rfl, hb, ho⟩
      have HBb := Lib.hid (bl_next HSS.out HSS.out.size hb)
      have HOB := Lib.hid (own_low ho (Nat.le_trans HB.out.size HSS.out.size))
      clear hb ho HIX
      go_wp2_with fail
      (try go_ret)
      refine ⟨vb, rfl, bl_next HB.out HB.out.size HBb.out, ?_⟩
      rw [← HRR.out, List.length_append, HXL.out]
      exact HOB.out
  · skip
    refine plan_half (by rfl) (by kernel_rfl) ?_
    intro K hK
    go_wp2_with fail
    have hal := (Below.refl Wa.heap.size Wa).alloc (Nat.le_refl _) (.cells #[.int .u8 8] 5)
    have hga := heap_alloc_new Wa (.cells #[.int .u8 8] 5)
    refine ⟨bl_next hS hS.size hal, ?_⟩
    have hne8 : ∀ k, (Value.slice (some ⟨W.heap.size, 0, none⟩) 6 6).ownBlock = some k → k < Wa.heap.size := fun k hk => (HO.out.lt k hk).2
    replace HO := Lib.hid (own_below HO.out hal)
    replace hS := bl_next hS hS.size hal
    generalize Wa.alloc (.cells #[.int .u8 8] 5) = Wr1 at hS hga HO ⊢
    generalize Wa.heap.size = g8 at hga hne8 ⊢
    clear hal
    have H8 := Lib.hid hga
    clear hga
    refine plan_us (by rfl) (by kernel_rfl) ?_
    intro K hK
    refine wp_append_bytes_at _ _ rfl W.heap.size 6 _ ([fb, 0, 0, 0, 1, 8]) rfl HO.out (some ⟨g, 1, none⟩) 8 8 [t0, t1, t2, t3, t4, t5, t6, t7] rfl (ints_mid (off := 1) (n := 8) (ys := [t0, t1, t2, t3, t4, t5, t6, t7]) (bl_row hS hgl HR.out) rfl (by intro i hi; rcases (by omega : i = 0 ∨ i = 1 ∨ i = 2 ∨ i = 3 ∨ i = 4 ∨ i = 5 ∨ i = 6 ∨ i = 7) with rfl | rfl | rfl | rfl | rfl | rfl | rfl | rfl <;> rfl) HWT.out) (by omega) hS.size ?_
    intro v3 Wr2 hown hgrow hor
    have hS2 := hS.grown hgrow hS.size (own_base HO.out)
    refine hK _ _ ⟨hS2, ?_⟩
    replace H8 := Lib.hid (grown_row hgrow (by intro e; have := hne8 _ e.symm; omega) H8.out)
    replace hS := hS2
    replace HO : Hid (Wr2.ownsRow W.heap.size 5 1 v3 14 (([fb, 0, 0, 0, 1, 8] ++ [t0, t1, t2, t3, t4, t5, t6, t7]).map (Value.int .u8))) := Lib.hid hown
    clear hS2 hown hgrow hor hK
    refine plan_us (by rfl) (by kernel_rfl) ?_
    intro K hK
    refine wp_append_bytes_at _ _ rfl W.heap.size 14 _ ([fb, 0, 0, 0, 1, 8] ++ [t0, t1, t2, t3, t4, t5, t6, t7]) rfl HO.out (some ⟨g8, 0, none⟩) 1 1 [8] rfl (IntsK.of_row (zs := [8]) H8.out (by decide)) (by omega) hS.size ?_
    intro v5 Wr3 hown hgrow hor
    have hS2 := hS.grown hgrow hS.size (own_base HO.out)
    refine hK _ _ ⟨hS2, ?_⟩
    replace hS := hS2
    replace HO : Hid (Wr3.ownsRow W.heap.size 5 1 v5 15 ((([fb, 0, 0, 0, 1, 8] ++ [t0, t1, t2, t3, t4, t5, t6, t7]) ++ [8]).map (Value.int .u8))) := Lib.hid hown
    clear hS2 hown hgrow hor hK
    refine plan_us (by rfl) (by kernel_rfl) ?_
    intro K hK
    refine wp_append_bytes_at _ _ rfl W.heap.size 15 _ (([fb, 0, 0, 0, 1, 8] ++ [t0, t1, t2, t3, t4, t5, t6, t7]) ++ [8]) rfl HO.out (some ⟨g, 9, none⟩) 8 8 [f0, f1, f2, f3, f4, f5, f6, f7] rfl (ints_mid (off := 9) (n := 8) (ys := [f0, f1, f2, f3, f4, f5, f6, f7]) (bl_row hS hgl HR.out) rfl (by intro i hi; rcases (by omega : i = 0 ∨ i = 1 ∨ i = 2 ∨ i = 3 ∨ i = 4 ∨ i = 5 ∨ i = 6 ∨ i = 7) with rfl | rfl | rfl | rfl | rfl | rfl | rfl | rfl <;> rfl) HWFF.out) (by omega) hS.size ?_
    intro v8 Wr4 hown hgrow hor
    have hS2 := hS.grown hgrow hS.size (own_base HO.out)
    refine hK _ _ ⟨hS2, ?_⟩
    replace hS := hS2
    replace HO : Hid (Wr4.ownsRow W.heap.size 5 1 v8 23 (((([fb, 0, 0, 0, 1, 8] ++ [t0, t1, t2, t3, t4, t5, t6, t7]) ++ [8]) ++ [f0, f1, f2, f3, f4, f5, f6, f7]).map (Value.int .u8))) := Lib.hid hown
    clear hS2 hown hgrow hor hK
    simp only [Act.put, List.setIfInBounds_toArray, List.set_cons_succ, List.set_cons_zero]
    repeat (refine plan_t (by rfl) ?_; (first | go_big_quiet_skip | (go_big_quiet_want; go_big_quiet_op; go_big_quiet_on)); refine wpQuiet_nil ?_)
    clear hne
    show Exit.then _ _ _ _ _
    rw [HXX.out] at HO
    obtain ⟨bx, cpx, rfl, hcpx, hix, hlox⟩ := ints_of_own HO.out HXW.out
    have HIX := Lib.hid hix
    have HSS := Lib.hid hS
    have HRr := Lib.hid (bl_row hS hgl HR.out)
    have HIr := Lib.hid (HI1.out.below hS)
    clear hS HO hix hcpx hlox HR HI1 HWT HWFF H8 HFBW
    have c0 := row_cell HRr.out 0 _ rfl
    have c17 := row_cell HRr.out 17 _ rfl
    clear HRr
    rcases hs with ⟨rfl, htl⟩ | ⟨rfl, htl⟩
    · replace HRR : Hid (X ++ ((putM tl ++ ks) ++ [(16384 + n) / 256, (16384 + n) % 256]) = R) := Lib.hid (by have h := HRR.out; rw [if_pos rfl] at h; exact h)
      go_wp2_with fail
      refine Calls.mono (rwtext_any _ bx 23 cpx X a tl tc ks (by omega) HIX.out HIr.out) ?_
      rintro e wa ⟨va, rfl, hb, ho⟩
      clear c0 c17
      have HBa := Lib.hid (bl_next HSS.out HSS.out.size hb)
      have hYl : (X ++ (putM tl ++ ks)).length ≤ 63 := by simp only [List.length_append]; have := HKL.out; have := HXL.out; have := putM_le tl; omega
      obtain ⟨Y, hY⟩ : ∃ Y, X ++ (putM tl ++ ks) = Y := ⟨_, rfl⟩
      rw [hY] at ho hYl
      obtain ⟨by', cpy, rfl, hcpy, hiy, hloy⟩ := ints_of_own ho (by rw [← hY]; intro x hx; rcases List.mem_append.1 hx with h | h; exact HXW.out x h; rcases List.mem_append.1 h with h | h; exact putM_wf _ (by omega) x h; exact HIr.out.2.1 x h)
      have HIY := Lib.hid hiy; have HYY := Lib.hid hY
      clear hb ho hcpy hiy hloy hY HIX HIr
      go_wp2_with fail
      refine Calls.mono (rwtwo_any _ by' Y.length cpy Y (16384 + n) (by omega) HIY.out (by omega)) ?_
      rintro e wb ⟨vb, rfl, hb, ho⟩
      have HBb := Lib.hid (bl_next HBa.out HBa.out.size hb)
      have HOB := Lib.hid (own_low ho (Nat.le_trans HB.out.size HBa.out.size))
      clear hb ho HIY
      go_wp2_with fail
      (try go_ret)
      refine ⟨vb, rfl, bl_next HB.out HB.out.size HBb.out, ?_⟩
      rw [← HRR.out, ← List.append_assoc, HYY.out, List.length_append]
      exact HOB.out
    · replace HRR : Hid (X ++ [(16384 + n) / 256, (16384 + n) % 256] = R) := Lib.hid (by have h := HRR.out; rw [if_neg (by decide), List.nil_append] at h; exact h)
      go_wp2_with fail
      clear c0 c17
      refine Calls.mono (rwtwo_any _ bx 23 cpx X (16384 + n) (by omega) HIX.out (by omega)) ?_
      rintro e wb ⟨vb, rfl, hb, ho⟩
      have HBb := Lib.hid (bl_next HSS.out HSS.out.size hb)
      have HOB := Lib.hid (own_low ho (Nat.le_trans HB.out.size HSS.out.size))
      clear hb ho HIX
      go_wp2_with fail
      (try go_ret)
      refine ⟨vb, rfl, bl_next HB.out HB.out.size HBb.out, ?_⟩
      rw [← HRR.out, List.length_append, HXL.out]
      exact HOB.out

theorem rencode_any (w : World) (h : Hd) (a : Option Addr) (tc : Nat) (n : Int) (hk : h.ok) (hr : hrightM h = true) (hn : 0 ≤ n ∧ n ≤ 16383) (hI : IntsK .u8 w a h.k.length h.k) :
    Calls Try.prog 38 #[h.val a tc, .int .i64 n] w fun e w' => ∃ v, e = .returned v ∧ Below w.heap.size w w' ∧ w'.ownsRow w.heap.size 5 1 v (encH h n).length ((encH h n).map (Value.int .u8)) := by
  have hp := (hrightM_eq h).1 hr
  obtain ⟨s, t, f, k, wd, p⟩ := h
  obtain ⟨t0, t1, t2, t3, t4, t5, t6, t7, rfl⟩ := len8 hk.lt
  obtain ⟨f0, f1, f2, f3, f4, f5, f6, f7, rfl⟩ := len8 hk.lf
  have hwt := hk.wt; have hwf := hk.wf
  have h1 := hp.1; have h2 := hp.2.1; have h3 := hp.2.2
  simp only at h1 h2 h3 hwt hwf hI
  by_cases hs : s = 2
  · subst hs
    exact rencode_data w t0 t1 t2 t3 t4 t5 t6 t7 f0 f1 f2 f3 f4 f5 f6 f7 wd n a k.length tc p ⟨h1, h2⟩ hwt
  · have e : encH ⟨s, [t0, t1, t2, t3, t4, t5, t6, t7], [f0, f1, f2, f3, f4, f5, f6, f7], k, wd, p⟩ n = (([192 + 16 * s + wd - 1, 0, 0, 0, 1, 8] ++ [t0, t1, t2, t3, t4, t5, t6, t7]) ++ [8]) ++ [f0, f1, f2, f3, f4, f5, f6, f7] ++ ((if s = 0 then putM k.length ++ k else []) ++ [(16384 + n) / 256, (16384 + n) % 256]) := by
      unfold encH firstM
      simp only
      rw [if_neg hs, if_neg hs, show 192 + 16 * s + wd - 1 = 191 + wd + 16 * s by omega]
      simp
    rw [e]
    exact rencode_long w s t0 t1 t2 t3 t4 t5 t6 t7 f0 f1 f2 f3 f4 f5 f6 f7 wd n _ a k.length tc p k (by rcases h3 with h | h | h; exact .inl ⟨h.1, h.2.1⟩; exact .inr ⟨h.1, h.2.1⟩; exact absurd h.1 hs) ⟨h1, h2⟩ hn rfl hI hwt hwf
end Go.Proofs.Ythofbckkjcidmaa
