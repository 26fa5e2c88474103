/- texts of the proof, laid together: FrmQ. -/
import Derived.Test.YtmbjepcbokbemaaU8
import Derived.Lib.Bytes
set_option linter.unusedVariables false
set_option linter.unusedSimpArgs false
set_option maxRecDepth 100000
set_option maxHeartbeats 16000000
namespace Go.Proofs.Ytmbjepcbokbemaa
open Go.RowKit
def sameF (f g : Fr) : Bool := decide (f.kind = g.kind) && (
 if f.kind = 2 then decide (f.de = g.de) && decide (f.rg = g.rg)
 else if f.kind = 4 then decide (f.st = g.st) && decide (f.co = g.co) && decide (f.fi = g.fi)
 else if f.kind = 5 then decide (f.st = g.st) && decide (f.co = g.co)
 else if f.kind = 6 then decide (f.of_ = g.of_) && decide (f.data = g.data)
 else if f.kind = 8 then decide (f.st = g.st) && decide (f.of_ = g.of_) && decide (f.data = g.data) && decide (f.fin = g.fin)
 else if f.kind = 16 ∨ f.kind = 18 ∨ f.kind = 20 then decide (f.li = g.li)
 else if f.kind = 17 then decide (f.st = g.st) && decide (f.li = g.li)
 else if f.kind = 24 then decide (f.se = g.se) && decide (f.li = g.li) && decide (f.cid = g.cid)
 else if f.kind = 25 then decide (f.se = g.se)
 else if f.kind = 26 ∨ f.kind = 27 then decide (f.cid = g.cid)
 else if f.kind = 28 then decide (f.co = g.co) && decide (f.data = g.data)
 else true)
theorem same_nrm (f : Fr) : sameF f (nrmF f) = true ∧ sameF (nrmF f) f = true := by
 unfold nrmF
 by_cases h2 : f.kind = 2
 ·
  simp [h2, sameF, zeroF]
 by_cases h4 : f.kind = 4
 ·
  simp [h4, sameF, zeroF]
 by_cases h5 : f.kind = 5
 ·
  simp [h5, sameF, zeroF]
 by_cases h6 : f.kind = 6
 ·
  simp [h6, sameF, zeroF]
 by_cases h8 : f.kind = 8
 ·
  simp [h8, sameF, zeroF]
 by_cases h16 : f.kind = 16 ∨ f.kind = 18 ∨ f.kind = 20
 ·
  rcases h16 with h | h | h <;> simp [h, sameF, zeroF]
 by_cases h17 : f.kind = 17
 ·
  simp [h17, sameF, zeroF]
 by_cases h24 : f.kind = 24
 ·
  simp [h24, sameF, zeroF]
 by_cases h25 : f.kind = 25
 ·
  simp [h25, sameF, zeroF]
 by_cases h26 : f.kind = 26 ∨ f.kind = 27
 ·
  rcases h26 with h | h <;> simp [h, sameF, zeroF]
 by_cases h28 : f.kind = 28
 ·
  simp [h28, sameF, zeroF]
 ·
  rw [if_neg h2, if_neg h4, if_neg h5, if_neg h6, if_neg h8, if_neg h16, if_neg h17, if_neg h24, if_neg h25, if_neg h26, if_neg h28]
  unfold sameF
  simp [h2, h4, h5, h6, h8, h17, h24, h25, h28, zeroF, not_or.1 h16, not_or.1 (not_or.1 h16).2, not_or.1 h26]
theorem bytesOf_injQ : ∀ (l m : List Int), (∀ x ∈ l, 0 ≤ x ∧ x ≤ 255) → (∀ x ∈ m, 0 ≤ x ∧ x ≤ 255) → (l.map fun x => UInt8.ofNat x.toNat) = (m.map fun x => UInt8.ofNat x.toNat) → l = m
 | [], [], _, _, _ => rfl
 | [], _ :: _, _, _, h => by simp at h
 | _ :: _, [], _, _, h => by simp at h
 | x :: l, y :: m, hl, hm, h => by
  simp only [List.map_cons, List.cons.injEq] at h
  obtain ⟨h1, h2⟩ := h
  have hx := hl x (by simp)
  have hy := hm y (by simp)
  have e1 := congrArg UInt8.toNat h1
  rw [UInt8.toNat_ofNat_of_lt' (by show x.toNat < 256; omega), UInt8.toNat_ofNat_of_lt' (by show y.toNat < 256; omega)] at e1
  rw [bytesOf_injQ l m (fun z hz => hl z (by simp [hz])) (fun z hz => hm z (by simp [hz])) h2, show x = y by omega]
theorem str_neQ (l m : List Int) (hl : ∀ x ∈ l, (Lit.int .u8 x).wf = true) (hm : ∀ x ∈ m, (Lit.int .u8 x).wf = true) (h : ¬ l = m) : ((strOfNums l).toList == (strOfNums m).toList) = false := by
 rw [Lib.strOfNums_toList, Lib.strOfNums_toList, beq_eq_false_iff_ne]
 exact fun e => h (bytesOf_injQ l m (fun x hx => bounds_u8 (hl x hx)) (fun x hx => bounds_u8 (hm x hx)) e)
def cidOk (c : List Int) : Prop := c.length = 8 ∧ ∀ x ∈ c, (Lit.int .u8 x).wf = true
section
variable {ops : Array Oper} {rest : List Oper} {o : Oper} {a : Act} {w : World} {Q : Exit → Act → World → Prop} {J : Act → World → Prop}
theorem guard_eql (w : World) (x y : Operand) (A B : Array Value) : (eqGuard .eql 37 x y (.agg A) (.agg B)).run Try.prog w = .ok () w := by kernel_rfl
theorem wp_eql_cid (x y : Operand) (t2 : TypeId) (ho : o.op = .binOp .eql 37 x y t2) (xs ys : List Int) (hx : a.eval x = .agg (xs.map (Value.int .u8)).toArray) (hy : a.eval y = .agg (ys.map (Value.int .u8)).toArray) (wx : cidOk xs) (wy : cidOk ys)
  (h : J (a.put o.dst (.bool (xs == ys))) w) : Oper.wp Try.prog o a w J Q := by
 unfold Oper.wp execOp
 simp only [ho, hx, hy, Sem.run_bind, Sem.run_pure, guard_eql, eql_bytes w 37 8 Try.underlying37 xs ys wx.1 wy.1 wx.2 wy.2, Result.andThen_ok]
 exact h
theorem wpList_eql_cid (hgd : o.guard = none) (x y : Operand) (t2 : TypeId) (ho : o.op = .binOp .eql 37 x y t2) (xs ys : List Int) (hx : a.eval x = .agg (xs.map (Value.int .u8)).toArray) (hy : a.eval y = .agg (ys.map (Value.int .u8)).toArray) (wx : cidOk xs) (wy : cidOk ys)
  (h : wpList Try.prog ops Q rest (a.put o.dst (.bool (xs == ys))) w) : wpList Try.prog ops Q (o :: rest) a w :=
 wpList_plain hgd fun J hK => wp_eql_cid x y t2 ho xs ys hx hy wx wy (hK _ _ h)
end
theorem wpList_eql_cid_g {ops : Array Oper} {rest : List Oper} {o : Oper} {a : Act} {w : World} {Q : Exit → Act → World → Prop} (hw : Region.wanted o (yielded ops a.tmps) = true) (x y : Operand) (t2 : TypeId) (ho : o.op = .binOp .eql 37 x y t2) (xs ys : List Int) (hx : a.eval x = .agg (xs.map (Value.int .u8)).toArray) (hy : a.eval y = .agg (ys.map (Value.int .u8)).toArray) (wx : cidOk xs) (wy : cidOk ys)
  (h : wpList Try.prog ops Q rest (a.put o.dst (.bool (xs == ys))) w) : wpList Try.prog ops Q (o :: rest) a w :=
 wpList_step fun K' hK => by rw [if_pos hw]; exact wp_eql_cid x y t2 ho xs ys hx hy wx wy (hK _ _ h)
theorem cells_cid (f : Fr) (dv rv : Value) : ∀ (j : Nat) (v : Value), (f.cid.map (Value.int .u8))[j]? = some v → (f.cells dv rv)[11 + j]? = some v := by
 intro j v h
 unfold Fr.cells
 rw [List.getElem?_append_right (by simp)]
 simpa using h
theorem rsame4_4 (w : World) (f g : Fr) (dv rv dw rw_ : Value) (hf : FrAt w f dv rv) (hg : FrAt w g dw rw_) (hk : f.kind = 4) (hkg : g.kind = 4) :
  Calls Try.prog 14 #[.agg (f.cells dv rv).toArray, .agg (g.cells dw rw_).toArray] w fun e w' => e = .returned (.bool (sameF f g)) ∧ Below w.heap.size w w' := by
 have hs : sameF f g = (decide (f.st = g.st) && decide (f.co = g.co) && decide (f.fi = g.fi)) := by unfold sameF; simp [hk, hkg]
 have Ha0 : Hid ((f.cells dv rv)[0]? = some (.int .i64 4)) := Qh (by rw [← hk]; rfl)
 have Ha_st : Hid ((f.cells dv rv)[1]? = some (.int .u64 f.st)) := Qh rfl
 have Ha_co : Hid ((f.cells dv rv)[6]? = some (.int .u64 f.co)) := Qh rfl
 have Ha_fi : Hid ((f.cells dv rv)[7]? = some (.int .u64 f.fi)) := Qh rfl
 have Hb0 : Hid ((g.cells dw rw_)[0]? = some (.int .i64 4)) := Qh (by rw [← hkg]; rfl)
 have Hb_st : Hid ((g.cells dw rw_)[1]? = some (.int .u64 g.st)) := Qh rfl
 have Hb_co : Hid ((g.cells dw rw_)[6]? = some (.int .u64 g.co)) := Qh rfl
 have Hb_fi : Hid ((g.cells dw rw_)[7]? = some (.int .u64 g.fi)) := Qh rfl
 obtain ⟨RA, hRA⟩ : ∃ R, f.cells dv rv = R := ⟨_, rfl⟩
 obtain ⟨RB, hRB⟩ : ∃ R, g.cells dw rw_ = R := ⟨_, rfl⟩
 simp only [hRA] at Ha0 Ha_st Ha_co Ha_fi
 simp only [hRB] at Hb0 Hb_st Hb_co Hb_fi
 rw [hRA, hRB, hs]
 clear hRA hRB hs hk hkg
 obtain ⟨st1, h1⟩ : ∃ y, f.st = y := ⟨_, rfl⟩
 obtain ⟨st2, h2⟩ : ∃ y, g.st = y := ⟨_, rfl⟩
 rw [h1] at Ha_st
 rw [h2] at Hb_st
 rw [h1, h2]
 clear h1 h2
 obtain ⟨co1, h1⟩ : ∃ y, f.co = y := ⟨_, rfl⟩
 obtain ⟨co2, h2⟩ : ∃ y, g.co = y := ⟨_, rfl⟩
 rw [h1] at Ha_co
 rw [h2] at Hb_co
 rw [h1, h2]
 clear h1 h2
 obtain ⟨fi1, h1⟩ : ∃ y, f.fi = y := ⟨_, rfl⟩
 obtain ⟨fi2, h2⟩ : ∃ y, g.fi = y := ⟨_, rfl⟩
 rw [h1] at Ha_fi
 rw [h2] at Hb_fi
 rw [h1, h2]
 clear h1 h2
 clear hf hg
 have HB := Qh (Below.refl w.heap.size w)
 go_enter Try.func14, Try.ntmps14
 go_upto_region 1 with fail
 change Code.wp _ _ _ _ ((w.alloc (.cells RA.toArray 39)).alloc (.cells RB.toArray 39))
 obtain ⟨ga, hg0⟩ : ∃ g, w.heap.size = g := ⟨_, rfl⟩
 try rw [hg0]
 have hb := (Below.refl w.heap.size w).alloc (Nat.le_refl _) (.cells RA.toArray 39)
 have hrw := heap_alloc_new w (.cells RA.toArray 39)
 have hsz : (w.alloc (.cells RA.toArray 39)).heap.size = ga + 1 := by simp [hg0]
 rw [hg0] at hrw
 replace HB := Qh (bl_next HB.out HB.out.size hb)
 have HA := Qh hrw
 clear hb hrw
 generalize w.alloc (.cells RA.toArray 39) = w1 at HB HA hsz ⊢
 have hg1 := hsz
 clear hsz
 clear hg0
 have hb := (Below.refl w1.heap.size w1).alloc (Nat.le_refl _) (.cells RB.toArray 39)
 have hrw := heap_alloc_new w1 (.cells RB.toArray 39)
 have hsz : (w1.alloc (.cells RB.toArray 39)).heap.size = ga + 1 + 1 := by simp [hg1]
 rw [hg1] at hrw
 replace HB := Qh (bl_next HB.out HB.out.size hb)
 replace HA := Qh (bl_row hb (lt_of_block HA.out) HA.out)
 have HG := Qh hrw
 clear hb hrw
 generalize w1.alloc (.cells RB.toArray 39) = w2 at HB HA HG hsz ⊢
 have hg2 := hsz
 clear hsz
 clear hg1
 obtain ⟨gb, hgg⟩ : ∃ g, ga + 1 = g := ⟨_, rfl⟩
 rw [hgg] at HG hg2 ⊢
 have HLTgb : Hid (ga < gb) := Qh (by omega)
 clear hgg
 clear hg2
 have ca0 := cell_row HA.out 0 _ Ha0.out; have cb0 := cell_row HG.out 0 _ Hb0.out
 have ca_st := cell_row HA.out 1 _ Ha_st.out; have cb_st := cell_row HG.out 1 _ Hb_st.out
 have ca_co := cell_row HA.out 6 _ Ha_co.out; have cb_co := cell_row HG.out 6 _ Hb_co.out
 have ca_fi := cell_row HA.out 7 _ Ha_fi.out; have cb_fi := cell_row HG.out 7 _ Hb_fi.out
 by_cases e_st : st1 = st2
 ·
  have E_st := Qh e_st
  have q_st : (st1 == st2) = true := by rw [e_st]; simp
  clear e_st
  by_cases e_co : co1 = co2
  ·
   have E_co := Qh e_co
   have q_co : (co1 == co2) = true := by rw [e_co]; simp
   clear e_co
   by_cases e_fi : fi1 = fi2
   ·
    have E_fi := Qh e_fi
    have q_fi : (fi1 == fi2) = true := by rw [e_fi]; simp
    clear e_fi
    have HS : Hid ((decide (st1 = st2) && decide (co1 = co2) && decide (fi1 = fi2)) = true) := Qh (by simp [E_st.out, E_co.out, E_fi.out])
    go_wp2_with fail
    go_ret
    exact ⟨by rw [HS.out]; rfl, HB.out⟩
   ·
    have HS : Hid ((decide (st1 = st2) && decide (co1 = co2) && decide (fi1 = fi2)) = false) := Qh (by simp [e_fi])
    have q_fi : (fi1 == fi2) = false := by simpa using e_fi
    clear e_fi
    go_wp2_with fail
    go_ret
    exact ⟨by rw [HS.out]; rfl, HB.out⟩
  ·
   have HS : Hid ((decide (st1 = st2) && decide (co1 = co2) && decide (fi1 = fi2)) = false) := Qh (by simp [e_co])
   have q_co : (co1 == co2) = false := by simpa using e_co
   clear e_co
   go_wp2_with fail
   go_ret
   exact ⟨by rw [HS.out]; rfl, HB.out⟩
 ·
  have HS : Hid ((decide (st1 = st2) && decide (co1 = co2) && decide (fi1 = fi2)) = false) := Qh (by simp [e_st])
  have q_st : (st1 == st2) = false := by simpa using e_st
  clear e_st
  go_wp2_with fail
  go_ret
  exact ⟨by rw [HS.out]; rfl, HB.out⟩
theorem rsame4_5 (w : World) (f g : Fr) (dv rv dw rw_ : Value) (hf : FrAt w f dv rv) (hg : FrAt w g dw rw_) (hk : f.kind = 5) (hkg : g.kind = 5) :
  Calls Try.prog 14 #[.agg (f.cells dv rv).toArray, .agg (g.cells dw rw_).toArray] w fun e w' => e = .returned (.bool (sameF f g)) ∧ Below w.heap.size w w' := by
 have hs : sameF f g = (decide (f.st = g.st) && decide (f.co = g.co)) := by unfold sameF; simp [hk, hkg]
 have Ha0 : Hid ((f.cells dv rv)[0]? = some (.int .i64 5)) := Qh (by rw [← hk]; rfl)
 have Ha_st : Hid ((f.cells dv rv)[1]? = some (.int .u64 f.st)) := Qh rfl
 have Ha_co : Hid ((f.cells dv rv)[6]? = some (.int .u64 f.co)) := Qh rfl
 have Hb0 : Hid ((g.cells dw rw_)[0]? = some (.int .i64 5)) := Qh (by rw [← hkg]; rfl)
 have Hb_st : Hid ((g.cells dw rw_)[1]? = some (.int .u64 g.st)) := Qh rfl
 have Hb_co : Hid ((g.cells dw rw_)[6]? = some (.int .u64 g.co)) := Qh rfl
 obtain ⟨RA, hRA⟩ : ∃ R, f.cells dv rv = R := ⟨_, rfl⟩
 obtain ⟨RB, hRB⟩ : ∃ R, g.cells dw rw_ = R := ⟨_, rfl⟩
 simp only [hRA] at Ha0 Ha_st Ha_co
 simp only [hRB] at Hb0 Hb_st Hb_co
 rw [hRA, hRB, hs]
 clear hRA hRB hs hk hkg
 obtain ⟨st1, h1⟩ : ∃ y, f.st = y := ⟨_, rfl⟩
 obtain ⟨st2, h2⟩ : ∃ y, g.st = y := ⟨_, rfl⟩
 rw [h1] at Ha_st
 rw [h2] at Hb_st
 rw [h1, h2]
 clear h1 h2
 obtain ⟨co1, h1⟩ : ∃ y, f.co = y := ⟨_, rfl⟩
 obtain ⟨co2, h2⟩ : ∃ y, g.co = y := ⟨_, rfl⟩
 rw [h1] at Ha_co
 rw [h2] at Hb_co
 rw [h1, h2]
 clear h1 h2
 clear hf hg
 have HB := Qh (Below.refl w.heap.size w)
 go_enter Try.func14, Try.ntmps14
 go_upto_region 1 with fail
 change Code.wp _ _ _ _ ((w.alloc (.cells RA.toArray 39)).alloc (.cells RB.toArray 39))
 obtain ⟨ga, hg0⟩ : ∃ g, w.heap.size = g := ⟨_, rfl⟩
 try rw [hg0]
 have hb := (Below.refl w.heap.size w).alloc (Nat.le_refl _) (.cells RA.toArray 39)
 have hrw := heap_alloc_new w (.cells RA.toArray 39)
 have hsz : (w.alloc (.cells RA.toArray 39)).heap.size = ga + 1 := by simp [hg0]
 rw [hg0] at hrw
 replace HB := Qh (bl_next HB.out HB.out.size hb)
 have HA := Qh hrw
 clear hb hrw
 generalize w.alloc (.cells RA.toArray 39) = w1 at HB HA hsz ⊢
 have hg1 := hsz
 clear hsz
 clear hg0
 have hb := (Below.refl w1.heap.size w1).alloc (Nat.le_refl _) (.cells RB.toArray 39)
 have hrw := heap_alloc_new w1 (.cells RB.toArray 39)
 have hsz : (w1.alloc (.cells RB.toArray 39)).heap.size = ga + 1 + 1 := by simp [hg1]
 rw [hg1] at hrw
 replace HB := Qh (bl_next HB.out HB.out.size hb)
 replace HA := Qh (bl_row hb (lt_of_block HA.out) HA.out)
 have HG := Qh hrw
 clear hb hrw
 generalize w1.alloc (.cells RB.toArray 39) = w2 at HB HA HG hsz ⊢
 have hg2 := hsz
 clear hsz
 clear hg1
 obtain ⟨gb, hgg⟩ : ∃ g, ga + 1 = g := ⟨_, rfl⟩
 rw [hgg] at HG hg2 ⊢
 have HLTgb : Hid (ga < gb) := Qh (by omega)
 clear hgg
 clear hg2
 have ca0 := cell_row HA.out 0 _ Ha0.out; have cb0 := cell_row HG.out 0 _ Hb0.out
 have ca_st := cell_row HA.out 1 _ Ha_st.out; have cb_st := cell_row HG.out 1 _ Hb_st.out
 have ca_co := cell_row HA.out 6 _ Ha_co.out; have cb_co := cell_row HG.out 6 _ Hb_co.out
 by_cases e_st : st1 = st2
 ·
  have E_st := Qh e_st
  have q_st : (st1 == st2) = true := by rw [e_st]; simp
  clear e_st
  by_cases e_co : co1 = co2
  ·
   have E_co := Qh e_co
   have q_co : (co1 == co2) = true := by rw [e_co]; simp
   clear e_co
   have HS : Hid ((decide (st1 = st2) && decide (co1 = co2)) = true) := Qh (by simp [E_st.out, E_co.out])
   go_wp2_with fail
   go_ret
   exact ⟨by rw [HS.out]; rfl, HB.out⟩
  ·
   have HS : Hid ((decide (st1 = st2) && decide (co1 = co2)) = false) := Qh (by simp [e_co])
   have q_co : (co1 == co2) = false := by simpa using e_co
   clear e_co
   go_wp2_with fail
   go_ret
   exact ⟨by rw [HS.out]; rfl, HB.out⟩
 ·
  have HS : Hid ((decide (st1 = st2) && decide (co1 = co2)) = false) := Qh (by simp [e_st])
  have q_st : (st1 == st2) = false := by simpa using e_st
  clear e_st
  go_wp2_with fail
  go_ret
  exact ⟨by rw [HS.out]; rfl, HB.out⟩
theorem rsame4_6 (w : World) (f g : Fr) (dv rv dw rw_ : Value) (hf : FrAt w f dv rv) (hg : FrAt w g dw rw_) (hk : f.kind = 6) (hkg : g.kind = 6) :
  Calls Try.prog 14 #[.agg (f.cells dv rv).toArray, .agg (g.cells dw rw_).toArray] w fun e w' => e = .returned (.bool (sameF f g)) ∧ Below w.heap.size w w' := by
 have hs : sameF f g = (decide (f.of_ = g.of_) && decide (f.data = g.data)) := by unfold sameF; simp [hk, hkg]
 obtain ⟨da, dn, dc, rfl, _, _, hd⟩ := hf.d
 obtain ⟨ea, en, ec, rfl, _, _, he⟩ := hg.d
 have HD := Qh hd; have HE := Qh he
 clear hd he
 have Ha0 : Hid ((f.cells (.slice da dn dc) rv)[0]? = some (.int .i64 6)) := Qh (by rw [← hk]; rfl)
 have Ha_of_ : Hid ((f.cells (.slice da dn dc) rv)[2]? = some (.int .u64 f.of_)) := Qh rfl
 have Ha_data : Hid ((f.cells (.slice da dn dc) rv)[3]? = some (.slice da dn dc)) := Qh rfl
 have Hb0 : Hid ((g.cells (.slice ea en ec) rw_)[0]? = some (.int .i64 6)) := Qh (by rw [← hkg]; rfl)
 have Hb_of_ : Hid ((g.cells (.slice ea en ec) rw_)[2]? = some (.int .u64 g.of_)) := Qh rfl
 have Hb_data : Hid ((g.cells (.slice ea en ec) rw_)[3]? = some (.slice ea en ec)) := Qh rfl
 obtain ⟨RA, hRA⟩ : ∃ R, f.cells (.slice da dn dc) rv = R := ⟨_, rfl⟩
 obtain ⟨RB, hRB⟩ : ∃ R, g.cells (.slice ea en ec) rw_ = R := ⟨_, rfl⟩
 simp only [hRA] at Ha0 Ha_of_ Ha_data
 simp only [hRB] at Hb0 Hb_of_ Hb_data
 rw [hRA, hRB, hs]
 clear hRA hRB hs hk hkg
 obtain ⟨of1, h1⟩ : ∃ y, f.of_ = y := ⟨_, rfl⟩
 obtain ⟨of2, h2⟩ : ∃ y, g.of_ = y := ⟨_, rfl⟩
 rw [h1] at Ha_of_
 rw [h2] at Hb_of_
 rw [h1, h2]
 clear h1 h2
 obtain ⟨data1, h1⟩ : ∃ y, f.data = y := ⟨_, rfl⟩
 obtain ⟨data2, h2⟩ : ∃ y, g.data = y := ⟨_, rfl⟩
 rw [h1] at HD
 rw [h2] at HE
 rw [h1, h2]
 clear h1 h2
 clear hf hg
 have HB := Qh (Below.refl w.heap.size w)
 go_enter Try.func14, Try.ntmps14
 go_upto_region 1 with fail
 change Code.wp _ _ _ _ ((w.alloc (.cells RA.toArray 39)).alloc (.cells RB.toArray 39))
 obtain ⟨ga, hg0⟩ : ∃ g, w.heap.size = g := ⟨_, rfl⟩
 try rw [hg0]
 have hb := (Below.refl w.heap.size w).alloc (Nat.le_refl _) (.cells RA.toArray 39)
 have hrw := heap_alloc_new w (.cells RA.toArray 39)
 have hsz : (w.alloc (.cells RA.toArray 39)).heap.size = ga + 1 := by simp [hg0]
 rw [hg0] at hrw
 replace HB := Qh (bl_next HB.out HB.out.size hb)
 replace HD := Qh (HD.out.below hb)
 replace HE := Qh (HE.out.below hb)
 have HA := Qh hrw
 clear hb hrw
 generalize w.alloc (.cells RA.toArray 39) = w1 at HB HD HE HA hsz ⊢
 have hg1 := hsz
 clear hsz
 clear hg0
 have hb := (Below.refl w1.heap.size w1).alloc (Nat.le_refl _) (.cells RB.toArray 39)
 have hrw := heap_alloc_new w1 (.cells RB.toArray 39)
 have hsz : (w1.alloc (.cells RB.toArray 39)).heap.size = ga + 1 + 1 := by simp [hg1]
 rw [hg1] at hrw
 replace HB := Qh (bl_next HB.out HB.out.size hb)
 replace HD := Qh (HD.out.below hb)
 replace HE := Qh (HE.out.below hb)
 replace HA := Qh (bl_row hb (lt_of_block HA.out) HA.out)
 have HG := Qh hrw
 clear hb hrw
 generalize w1.alloc (.cells RB.toArray 39) = w2 at HB HD HE HA HG hsz ⊢
 have hg2 := hsz
 clear hsz
 clear hg1
 obtain ⟨gb, hgg⟩ : ∃ g, ga + 1 = g := ⟨_, rfl⟩
 rw [hgg] at HG hg2 ⊢
 have HLTgb : Hid (ga < gb) := Qh (by omega)
 clear hgg
 clear hg2
 have ca0 := cell_row HA.out 0 _ Ha0.out; have cb0 := cell_row HG.out 0 _ Hb0.out
 have ca_of_ := cell_row HA.out 2 _ Ha_of_.out; have cb_of_ := cell_row HG.out 2 _ Hb_of_.out
 have ca_data := cell_row HA.out 3 _ Ha_data.out; have cb_data := cell_row HG.out 3 _ Hb_data.out
 have hc1 : (convert 25 9 (.slice da dn dc)).run Try.prog w2 = .ok (.string (strOfNums data1)) w2 := conv_ints _ 5 _ _ Try.underlying25 Try.underlying5 Try.underlying9 HD.out
 have hc2 : (convert 25 9 (.slice ea en ec)).run Try.prog w2 = .ok (.string (strOfNums data2)) w2 := conv_ints _ 5 _ _ Try.underlying25 Try.underlying5 Try.underlying9 HE.out
 by_cases e_of_ : of1 = of2
 ·
  have E_of_ := Qh e_of_
  have q_of_ : (of1 == of2) = true := by rw [e_of_]; simp
  clear e_of_
  by_cases e_data : data1 = data2
  ·
   have E_data := Qh e_data
   have q_data : ((strOfNums data1).toList == (strOfNums data2).toList) = true := by rw [e_data]; simp
   clear e_data
   have HS : Hid ((decide (of1 = of2) && decide (data1 = data2)) = true) := Qh (by simp [E_of_.out, E_data.out])
   go_wp2_with fail
   go_ret
   exact ⟨by rw [HS.out]; rfl, HB.out⟩
  ·
   have HS : Hid ((decide (of1 = of2) && decide (data1 = data2)) = false) := Qh (by simp [e_data])
   have q_data := str_neQ data1 data2 HD.out.2.1 HE.out.2.1 e_data
   clear e_data
   go_wp2_with fail
   go_ret
   exact ⟨by rw [HS.out]; rfl, HB.out⟩
 ·
  have HS : Hid ((decide (of1 = of2) && decide (data1 = data2)) = false) := Qh (by simp [e_of_])
  have q_of_ : (of1 == of2) = false := by simpa using e_of_
  clear e_of_
  go_wp2_with fail
  go_ret
  exact ⟨by rw [HS.out]; rfl, HB.out⟩
theorem rsame4_8 (w : World) (f g : Fr) (dv rv dw rw_ : Value) (hf : FrAt w f dv rv) (hg : FrAt w g dw rw_) (hk : f.kind = 8) (hkg : g.kind = 8) :
  Calls Try.prog 14 #[.agg (f.cells dv rv).toArray, .agg (g.cells dw rw_).toArray] w fun e w' => e = .returned (.bool (sameF f g)) ∧ Below w.heap.size w w' := by
 have hs : sameF f g = (decide (f.st = g.st) && decide (f.of_ = g.of_) && decide (f.data = g.data) && decide (f.fin = g.fin)) := by unfold sameF; simp [hk, hkg]
 obtain ⟨da, dn, dc, rfl, _, _, hd⟩ := hf.d
 obtain ⟨ea, en, ec, rfl, _, _, he⟩ := hg.d
 have HD := Qh hd; have HE := Qh he
 clear hd he
 have Ha0 : Hid ((f.cells (.slice da dn dc) rv)[0]? = some (.int .i64 8)) := Qh (by rw [← hk]; rfl)
 have Ha_st : Hid ((f.cells (.slice da dn dc) rv)[1]? = some (.int .u64 f.st)) := Qh rfl
 have Ha_of_ : Hid ((f.cells (.slice da dn dc) rv)[2]? = some (.int .u64 f.of_)) := Qh rfl
 have Ha_fin : Hid ((f.cells (.slice da dn dc) rv)[4]? = some (.bool f.fin)) := Qh rfl
 have Ha_data : Hid ((f.cells (.slice da dn dc) rv)[3]? = some (.slice da dn dc)) := Qh rfl
 have Hb0 : Hid ((g.cells (.slice ea en ec) rw_)[0]? = some (.int .i64 8)) := Qh (by rw [← hkg]; rfl)
 have Hb_st : Hid ((g.cells (.slice ea en ec) rw_)[1]? = some (.int .u64 g.st)) := Qh rfl
 have Hb_of_ : Hid ((g.cells (.slice ea en ec) rw_)[2]? = some (.int .u64 g.of_)) := Qh rfl
 have Hb_fin : Hid ((g.cells (.slice ea en ec) rw_)[4]? = some (.bool g.fin)) := Qh rfl
 have Hb_data : Hid ((g.cells (.slice ea en ec) rw_)[3]? = some (.slice ea en ec)) := Qh rfl
 obtain ⟨RA, hRA⟩ : ∃ R, f.cells (.slice da dn dc) rv = R := ⟨_, rfl⟩
 obtain ⟨RB, hRB⟩ : ∃ R, g.cells (.slice ea en ec) rw_ = R := ⟨_, rfl⟩
 simp only [hRA] at Ha0 Ha_st Ha_of_ Ha_data Ha_fin
 simp only [hRB] at Hb0 Hb_st Hb_of_ Hb_data Hb_fin
 rw [hRA, hRB, hs]
 clear hRA hRB hs hk hkg
 obtain ⟨st1, h1⟩ : ∃ y, f.st = y := ⟨_, rfl⟩
 obtain ⟨st2, h2⟩ : ∃ y, g.st = y := ⟨_, rfl⟩
 rw [h1] at Ha_st
 rw [h2] at Hb_st
 rw [h1, h2]
 clear h1 h2
 obtain ⟨of1, h1⟩ : ∃ y, f.of_ = y := ⟨_, rfl⟩
 obtain ⟨of2, h2⟩ : ∃ y, g.of_ = y := ⟨_, rfl⟩
 rw [h1] at Ha_of_
 rw [h2] at Hb_of_
 rw [h1, h2]
 clear h1 h2
 obtain ⟨data1, h1⟩ : ∃ y, f.data = y := ⟨_, rfl⟩
 obtain ⟨data2, h2⟩ : ∃ y, g.data = y := ⟨_, rfl⟩
 rw [h1] at HD
 rw [h2] at HE
 rw [h1, h2]
 clear h1 h2
 obtain ⟨fin1, h1⟩ : ∃ y, f.fin = y := ⟨_, rfl⟩
 obtain ⟨fin2, h2⟩ : ∃ y, g.fin = y := ⟨_, rfl⟩
 rw [h1] at Ha_fin
 rw [h2] at Hb_fin
 rw [h1, h2]
 clear h1 h2
 clear hf hg
 have HB := Qh (Below.refl w.heap.size w)
 go_enter Try.func14, Try.ntmps14
 go_upto_region 1 with fail
 change Code.wp _ _ _ _ ((w.alloc (.cells RA.toArray 39)).alloc (.cells RB.toArray 39))
 obtain ⟨ga, hg0⟩ : ∃ g, w.heap.size = g := ⟨_, rfl⟩
 try rw [hg0]
 have hb := (Below.refl w.heap.size w).alloc (Nat.le_refl _) (.cells RA.toArray 39)
 have hrw := heap_alloc_new w (.cells RA.toArray 39)
 have hsz : (w.alloc (.cells RA.toArray 39)).heap.size = ga + 1 := by simp [hg0]
 rw [hg0] at hrw
 replace HB := Qh (bl_next HB.out HB.out.size hb)
 replace HD := Qh (HD.out.below hb)
 replace HE := Qh (HE.out.below hb)
 have HA := Qh hrw
 clear hb hrw
 generalize w.alloc (.cells RA.toArray 39) = w1 at HB HD HE HA hsz ⊢
 have hg1 := hsz
 clear hsz
 clear hg0
 have hb := (Below.refl w1.heap.size w1).alloc (Nat.le_refl _) (.cells RB.toArray 39)
 have hrw := heap_alloc_new w1 (.cells RB.toArray 39)
 have hsz : (w1.alloc (.cells RB.toArray 39)).heap.size = ga + 1 + 1 := by simp [hg1]
 rw [hg1] at hrw
 replace HB := Qh (bl_next HB.out HB.out.size hb)
 replace HD := Qh (HD.out.below hb)
 replace HE := Qh (HE.out.below hb)
 replace HA := Qh (bl_row hb (lt_of_block HA.out) HA.out)
 have HG := Qh hrw
 clear hb hrw
 generalize w1.alloc (.cells RB.toArray 39) = w2 at HB HD HE HA HG hsz ⊢
 have hg2 := hsz
 clear hsz
 clear hg1
 obtain ⟨gb, hgg⟩ : ∃ g, ga + 1 = g := ⟨_, rfl⟩
 rw [hgg] at HG hg2 ⊢
 have HLTgb : Hid (ga < gb) := Qh (by omega)
 clear hgg
 clear hg2
 have ca0 := cell_row HA.out 0 _ Ha0.out; have cb0 := cell_row HG.out 0 _ Hb0.out
 have ca_st := cell_row HA.out 1 _ Ha_st.out; have cb_st := cell_row HG.out 1 _ Hb_st.out
 have ca_of_ := cell_row HA.out 2 _ Ha_of_.out; have cb_of_ := cell_row HG.out 2 _ Hb_of_.out
 have ca_data := cell_row HA.out 3 _ Ha_data.out; have cb_data := cell_row HG.out 3 _ Hb_data.out
 have ca_fin := cell_row HA.out 4 _ Ha_fin.out; have cb_fin := cell_row HG.out 4 _ Hb_fin.out
 have hc1 : (convert 25 9 (.slice da dn dc)).run Try.prog w2 = .ok (.string (strOfNums data1)) w2 := conv_ints _ 5 _ _ Try.underlying25 Try.underlying5 Try.underlying9 HD.out
 have hc2 : (convert 25 9 (.slice ea en ec)).run Try.prog w2 = .ok (.string (strOfNums data2)) w2 := conv_ints _ 5 _ _ Try.underlying25 Try.underlying5 Try.underlying9 HE.out
 by_cases e_st : st1 = st2
 ·
  have E_st := Qh e_st
  have q_st : (st1 == st2) = true := by rw [e_st]; simp
  clear e_st
  by_cases e_of_ : of1 = of2
  ·
   have E_of_ := Qh e_of_
   have q_of_ : (of1 == of2) = true := by rw [e_of_]; simp
   clear e_of_
   by_cases e_data : data1 = data2
   ·
    have E_data := Qh e_data
    have q_data : ((strOfNums data1).toList == (strOfNums data2).toList) = true := by rw [e_data]; simp
    clear e_data
    by_cases e_fin : fin1 = fin2
    ·
     have E_fin := Qh e_fin
     have q_fin : (fin1 == fin2) = true := by rw [e_fin]; cases fin2 <;> rfl
     clear e_fin
     have HS : Hid ((decide (st1 = st2) && decide (of1 = of2) && decide (data1 = data2) && decide (fin1 = fin2)) = true) := Qh (by simp [E_st.out, E_of_.out, E_data.out, E_fin.out])
     go_wp2_with fail
     go_ret
     exact ⟨by rw [HS.out]; rfl, HB.out⟩
    ·
     have HS : Hid ((decide (st1 = st2) && decide (of1 = of2) && decide (data1 = data2) && decide (fin1 = fin2)) = false) := Qh (by simp [e_fin])
     have q_fin : (fin1 == fin2) = false := by simpa using e_fin
     clear e_fin
     go_wp2_with fail
     go_ret
     exact ⟨by rw [HS.out]; rfl, HB.out⟩
   ·
    have HS : Hid ((decide (st1 = st2) && decide (of1 = of2) && decide (data1 = data2) && decide (fin1 = fin2)) = false) := Qh (by simp [e_data])
    have q_data := str_neQ data1 data2 HD.out.2.1 HE.out.2.1 e_data
    clear e_data
    go_wp2_with fail
    go_ret
    exact ⟨by rw [HS.out]; rfl, HB.out⟩
  ·
   have HS : Hid ((decide (st1 = st2) && decide (of1 = of2) && decide (data1 = data2) && decide (fin1 = fin2)) = false) := Qh (by simp [e_of_])
   have q_of_ : (of1 == of2) = false := by simpa using e_of_
   clear e_of_
   go_wp2_with fail
   go_ret
   exact ⟨by rw [HS.out]; rfl, HB.out⟩
 ·
  have HS : Hid ((decide (st1 = st2) && decide (of1 = of2) && decide (data1 = data2) && decide (fin1 = fin2)) = false) := Qh (by simp [e_st])
  have q_st : (st1 == st2) = false := by simpa using e_st
  clear e_st
  go_wp2_with fail
  go_ret
  exact ⟨by rw [HS.out]; rfl, HB.out⟩
theorem rsame4_16 (w : World) (f g : Fr) (dv rv dw rw_ : Value) (hf : FrAt w f dv rv) (hg : FrAt w g dw rw_) (hk : f.kind = 16) (hkg : g.kind = 16) :
  Calls Try.prog 14 #[.agg (f.cells dv rv).toArray, .agg (g.cells dw rw_).toArray] w fun e w' => e = .returned (.bool (sameF f g)) ∧ Below w.heap.size w w' := by
 have hs : sameF f g = (decide (f.li = g.li)) := by unfold sameF; simp [hk, hkg]
 have Ha0 : Hid ((f.cells dv rv)[0]? = some (.int .i64 16)) := Qh (by rw [← hk]; rfl)
 have Ha_li : Hid ((f.cells dv rv)[5]? = some (.int .u64 f.li)) := Qh rfl
 have Hb0 : Hid ((g.cells dw rw_)[0]? = some (.int .i64 16)) := Qh (by rw [← hkg]; rfl)
 have Hb_li : Hid ((g.cells dw rw_)[5]? = some (.int .u64 g.li)) := Qh rfl
 obtain ⟨RA, hRA⟩ : ∃ R, f.cells dv rv = R := ⟨_, rfl⟩
 obtain ⟨RB, hRB⟩ : ∃ R, g.cells dw rw_ = R := ⟨_, rfl⟩
 simp only [hRA] at Ha0 Ha_li
 simp only [hRB] at Hb0 Hb_li
 rw [hRA, hRB, hs]
 clear hRA hRB hs hk hkg
 obtain ⟨li1, h1⟩ : ∃ y, f.li = y := ⟨_, rfl⟩
 obtain ⟨li2, h2⟩ : ∃ y, g.li = y := ⟨_, rfl⟩
 rw [h1] at Ha_li
 rw [h2] at Hb_li
 rw [h1, h2]
 clear h1 h2
 clear hf hg
 have HB := Qh (Below.refl w.heap.size w)
 go_enter Try.func14, Try.ntmps14
 go_upto_region 1 with fail
 change Code.wp _ _ _ _ ((w.alloc (.cells RA.toArray 39)).alloc (.cells RB.toArray 39))
 obtain ⟨ga, hg0⟩ : ∃ g, w.heap.size = g := ⟨_, rfl⟩
 try rw [hg0]
 have hb := (Below.refl w.heap.size w).alloc (Nat.le_refl _) (.cells RA.toArray 39)
 have hrw := heap_alloc_new w (.cells RA.toArray 39)
 have hsz : (w.alloc (.cells RA.toArray 39)).heap.size = ga + 1 := by simp [hg0]
 rw [hg0] at hrw
 replace HB := Qh (bl_next HB.out HB.out.size hb)
 have HA := Qh hrw
 clear hb hrw
 generalize w.alloc (.cells RA.toArray 39) = w1 at HB HA hsz ⊢
 have hg1 := hsz
 clear hsz
 clear hg0
 have hb := (Below.refl w1.heap.size w1).alloc (Nat.le_refl _) (.cells RB.toArray 39)
 have hrw := heap_alloc_new w1 (.cells RB.toArray 39)
 have hsz : (w1.alloc (.cells RB.toArray 39)).heap.size = ga + 1 + 1 := by simp [hg1]
 rw [hg1] at hrw
 replace HB := Qh (bl_next HB.out HB.out.size hb)
 replace HA := Qh (bl_row hb (lt_of_block HA.out) HA.out)
 have HG := Qh hrw
 clear hb hrw
 generalize w1.alloc (.cells RB.toArray 39) = w2 at HB HA HG hsz ⊢
 have hg2 := hsz
 clear hsz
 clear hg1
 obtain ⟨gb, hgg⟩ : ∃ g, ga + 1 = g := ⟨_, rfl⟩
 rw [hgg] at HG hg2 ⊢
 have HLTgb : Hid (ga < gb) := Qh (by omega)
 clear hgg
 clear hg2
 have ca0 := cell_row HA.out 0 _ Ha0.out; have cb0 := cell_row HG.out 0 _ Hb0.out
 have ca_li := cell_row HA.out 5 _ Ha_li.out; have cb_li := cell_row HG.out 5 _ Hb_li.out
 by_cases e_li : li1 = li2
 ·
  have E_li := Qh e_li
  have q_li : (li1 == li2) = true := by rw [e_li]; simp
  clear e_li
  have HS : Hid ((decide (li1 = li2)) = true) := Qh (by simp [E_li.out])
  go_wp2_with fail
  go_ret
  exact ⟨by rw [HS.out]; rfl, HB.out⟩
 ·
  have HS : Hid ((decide (li1 = li2)) = false) := Qh (by simp [e_li])
  have q_li : (li1 == li2) = false := by simpa using e_li
  clear e_li
  go_wp2_with fail
  go_ret
  exact ⟨by rw [HS.out]; rfl, HB.out⟩
theorem rsame4_18 (w : World) (f g : Fr) (dv rv dw rw_ : Value) (hf : FrAt w f dv rv) (hg : FrAt w g dw rw_) (hk : f.kind = 18) (hkg : g.kind = 18) :
  Calls Try.prog 14 #[.agg (f.cells dv rv).toArray, .agg (g.cells dw rw_).toArray] w fun e w' => e = .returned (.bool (sameF f g)) ∧ Below w.heap.size w w' := by
 have hs : sameF f g = (decide (f.li = g.li)) := by unfold sameF; simp [hk, hkg]
 have Ha0 : Hid ((f.cells dv rv)[0]? = some (.int .i64 18)) := Qh (by rw [← hk]; rfl)
 have Ha_li : Hid ((f.cells dv rv)[5]? = some (.int .u64 f.li)) := Qh rfl
 have Hb0 : Hid ((g.cells dw rw_)[0]? = some (.int .i64 18)) := Qh (by rw [← hkg]; rfl)
 have Hb_li : Hid ((g.cells dw rw_)[5]? = some (.int .u64 g.li)) := Qh rfl
 obtain ⟨RA, hRA⟩ : ∃ R, f.cells dv rv = R := ⟨_, rfl⟩
 obtain ⟨RB, hRB⟩ : ∃ R, g.cells dw rw_ = R := ⟨_, rfl⟩
 simp only [hRA] at Ha0 Ha_li
 simp only [hRB] at Hb0 Hb_li
 rw [hRA, hRB, hs]
 clear hRA hRB hs hk hkg
 obtain ⟨li1, h1⟩ : ∃ y, f.li = y := ⟨_, rfl⟩
 obtain ⟨li2, h2⟩ : ∃ y, g.li = y := ⟨_, rfl⟩
 rw [h1] at Ha_li
 rw [h2] at Hb_li
 rw [h1, h2]
 clear h1 h2
 clear hf hg
 have HB := Qh (Below.refl w.heap.size w)
 go_enter Try.func14, Try.ntmps14
 go_upto_region 1 with fail
 change Code.wp _ _ _ _ ((w.alloc (.cells RA.toArray 39)).alloc (.cells RB.toArray 39))
 obtain ⟨ga, hg0⟩ : ∃ g, w.heap.size = g := ⟨_, rfl⟩
 try rw [hg0]
 have hb := (Below.refl w.heap.size w).alloc (Nat.le_refl _) (.cells RA.toArray 39)
 have hrw := heap_alloc_new w (.cells RA.toArray 39)
 have hsz : (w.alloc (.cells RA.toArray 39)).heap.size = ga + 1 := by simp [hg0]
 rw [hg0] at hrw
 replace HB := Qh (bl_next HB.out HB.out.size hb)
 have HA := Qh hrw
 clear hb hrw
 generalize w.alloc (.cells RA.toArray 39) = w1 at HB HA hsz ⊢
 have hg1 := hsz
 clear hsz
 clear hg0
 have hb := (Below.refl w1.heap.size w1).alloc (Nat.le_refl _) (.cells RB.toArray 39)
 have hrw := heap_alloc_new w1 (.cells RB.toArray 39)
 have hsz : (w1.alloc (.cells RB.toArray 39)).heap.size = ga + 1 + 1 := by simp [hg1]
 rw [hg1] at hrw
 replace HB := Qh (bl_next HB.out HB.out.size hb)
 replace HA := Qh (bl_row hb (lt_of_block HA.out) HA.out)
 have HG := Qh hrw
 clear hb hrw
 generalize w1.alloc (.cells RB.toArray 39) = w2 at HB HA HG hsz ⊢
 have hg2 := hsz
 clear hsz
 clear hg1
 obtain ⟨gb, hgg⟩ : ∃ g, ga + 1 = g := ⟨_, rfl⟩
 rw [hgg] at HG hg2 ⊢
 have HLTgb : Hid (ga < gb) := Qh (by omega)
 clear hgg
 clear hg2
 have ca0 := cell_row HA.out 0 _ Ha0.out; have cb0 := cell_row HG.out 0 _ Hb0.out
 have ca_li := cell_row HA.out 5 _ Ha_li.out; have cb_li := cell_row HG.out 5 _ Hb_li.out
 by_cases e_li : li1 = li2
 ·
  have E_li := Qh e_li
  have q_li : (li1 == li2) = true := by rw [e_li]; simp
  clear e_li
  have HS : Hid ((decide (li1 = li2)) = true) := Qh (by simp [E_li.out])
  go_wp2_with fail
  go_ret
  exact ⟨by rw [HS.out]; rfl, HB.out⟩
 ·
  have HS : Hid ((decide (li1 = li2)) = false) := Qh (by simp [e_li])
  have q_li : (li1 == li2) = false := by simpa using e_li
  clear e_li
  go_wp2_with fail
  go_ret
  exact ⟨by rw [HS.out]; rfl, HB.out⟩
theorem rsame4_20 (w : World) (f g : Fr) (dv rv dw rw_ : Value) (hf : FrAt w f dv rv) (hg : FrAt w g dw rw_) (hk : f.kind = 20) (hkg : g.kind = 20) :
  Calls Try.prog 14 #[.agg (f.cells dv rv).toArray, .agg (g.cells dw rw_).toArray] w fun e w' => e = .returned (.bool (sameF f g)) ∧ Below w.heap.size w w' := by
 have hs : sameF f g = (decide (f.li = g.li)) := by unfold sameF; simp [hk, hkg]
 have Ha0 : Hid ((f.cells dv rv)[0]? = some (.int .i64 20)) := Qh (by rw [← hk]; rfl)
 have Ha_li : Hid ((f.cells dv rv)[5]? = some (.int .u64 f.li)) := Qh rfl
 have Hb0 : Hid ((g.cells dw rw_)[0]? = some (.int .i64 20)) := Qh (by rw [← hkg]; rfl)
 have Hb_li : Hid ((g.cells dw rw_)[5]? = some (.int .u64 g.li)) := Qh rfl
 obtain ⟨RA, hRA⟩ : ∃ R, f.cells dv rv = R := ⟨_, rfl⟩
 obtain ⟨RB, hRB⟩ : ∃ R, g.cells dw rw_ = R := ⟨_, rfl⟩
 simp only [hRA] at Ha0 Ha_li
 simp only [hRB] at Hb0 Hb_li
 rw [hRA, hRB, hs]
 clear hRA hRB hs hk hkg
 obtain ⟨li1, h1⟩ : ∃ y, f.li = y := ⟨_, rfl⟩
 obtain ⟨li2, h2⟩ : ∃ y, g.li = y := ⟨_, rfl⟩
 rw [h1] at Ha_li
 rw [h2] at Hb_li
 rw [h1, h2]
 clear h1 h2
 clear hf hg
 have HB := Qh (Below.refl w.heap.size w)
 go_enter Try.func14, Try.ntmps14
 go_upto_region 1 with fail
 change Code.wp _ _ _ _ ((w.alloc (.cells RA.toArray 39)).alloc (.cells RB.toArray 39))
 obtain ⟨ga, hg0⟩ : ∃ g, w.heap.size = g := ⟨_, rfl⟩
 try rw [hg0]
 have hb := (Below.refl w.heap.size w).alloc (Nat.le_refl _) (.cells RA.toArray 39)
 have hrw := heap_alloc_new w (.cells RA.toArray 39)
 have hsz : (w.alloc (.cells RA.toArray 39)).heap.size = ga + 1 := by simp [hg0]
 rw [hg0] at hrw
 replace HB := Qh (bl_next HB.out HB.out.size hb)
 have HA := Qh hrw
 clear hb hrw
 generalize w.alloc (.cells RA.toArray 39) = w1 at HB HA hsz ⊢
 have hg1 := hsz
 clear hsz
 clear hg0
 have hb := (Below.refl w1.heap.size w1).alloc (Nat.le_refl _) (.cells RB.toArray 39)
 have hrw := heap_alloc_new w1 (.cells RB.toArray 39)
 have hsz : (w1.alloc (.cells RB.toArray 39)).heap.size = ga + 1 + 1 := by simp [hg1]
 rw [hg1] at hrw
 replace HB := Qh (bl_next HB.out HB.out.size hb)
 replace HA := Qh (bl_row hb (lt_of_block HA.out) HA.out)
 have HG := Qh hrw
 clear hb hrw
 generalize w1.alloc (.cells RB.toArray 39) = w2 at HB HA HG hsz ⊢
 have hg2 := hsz
 clear hsz
 clear hg1
 obtain ⟨gb, hgg⟩ : ∃ g, ga + 1 = g := ⟨_, rfl⟩
 rw [hgg] at HG hg2 ⊢
 have HLTgb : Hid (ga < gb) := Qh (by omega)
 clear hgg
 clear hg2
 have ca0 := cell_row HA.out 0 _ Ha0.out; have cb0 := cell_row HG.out 0 _ Hb0.out
 have ca_li := cell_row HA.out 5 _ Ha_li.out; have cb_li := cell_row HG.out 5 _ Hb_li.out
 by_cases e_li : li1 = li2
 ·
  have E_li := Qh e_li
  have q_li : (li1 == li2) = true := by rw [e_li]; simp
  clear e_li
  have HS : Hid ((decide (li1 = li2)) = true) := Qh (by simp [E_li.out])
  go_wp2_with fail
  go_ret
  exact ⟨by rw [HS.out]; rfl, HB.out⟩
 ·
  have HS : Hid ((decide (li1 = li2)) = false) := Qh (by simp [e_li])
  have q_li : (li1 == li2) = false := by simpa using e_li
  clear e_li
  go_wp2_with fail
  go_ret
  exact ⟨by rw [HS.out]; rfl, HB.out⟩
theorem rsame4_17 (w : World) (f g : Fr) (dv rv dw rw_ : Value) (hf : FrAt w f dv rv) (hg : FrAt w g dw rw_) (hk : f.kind = 17) (hkg : g.kind = 17) :
  Calls Try.prog 14 #[.agg (f.cells dv rv).toArray, .agg (g.cells dw rw_).toArray] w fun e w' => e = .returned (.bool (sameF f g)) ∧ Below w.heap.size w w' := by
 have hs : sameF f g = (decide (f.st = g.st) && decide (f.li = g.li)) := by unfold sameF; simp [hk, hkg]
 have Ha0 : Hid ((f.cells dv rv)[0]? = some (.int .i64 17)) := Qh (by rw [← hk]; rfl)
 have Ha_st : Hid ((f.cells dv rv)[1]? = some (.int .u64 f.st)) := Qh rfl
 have Ha_li : Hid ((f.cells dv rv)[5]? = some (.int .u64 f.li)) := Qh rfl
 have Hb0 : Hid ((g.cells dw rw_)[0]? = some (.int .i64 17)) := Qh (by rw [← hkg]; rfl)
 have Hb_st : Hid ((g.cells dw rw_)[1]? = some (.int .u64 g.st)) := Qh rfl
 have Hb_li : Hid ((g.cells dw rw_)[5]? = some (.int .u64 g.li)) := Qh rfl
 obtain ⟨RA, hRA⟩ : ∃ R, f.cells dv rv = R := ⟨_, rfl⟩
 obtain ⟨RB, hRB⟩ : ∃ R, g.cells dw rw_ = R := ⟨_, rfl⟩
 simp only [hRA] at Ha0 Ha_st Ha_li
 simp only [hRB] at Hb0 Hb_st Hb_li
 rw [hRA, hRB, hs]
 clear hRA hRB hs hk hkg
 obtain ⟨st1, h1⟩ : ∃ y, f.st = y := ⟨_, rfl⟩
 obtain ⟨st2, h2⟩ : ∃ y, g.st = y := ⟨_, rfl⟩
 rw [h1] at Ha_st
 rw [h2] at Hb_st
 rw [h1, h2]
 clear h1 h2
 obtain ⟨li1, h1⟩ : ∃ y, f.li = y := ⟨_, rfl⟩
 obtain ⟨li2, h2⟩ : ∃ y, g.li = y := ⟨_, rfl⟩
 rw [h1] at Ha_li
 rw [h2] at Hb_li
 rw [h1, h2]
 clear h1 h2
 clear hf hg
 have HB := Qh (Below.refl w.heap.size w)
 go_enter Try.func14, Try.ntmps14
 go_upto_region 1 with fail
 change Code.wp _ _ _ _ ((w.alloc (.cells RA.toArray 39)).alloc (.cells RB.toArray 39))
 obtain ⟨ga, hg0⟩ : ∃ g, w.heap.size = g := ⟨_, rfl⟩
 try rw [hg0]
 have hb := (Below.refl w.heap.size w).alloc (Nat.le_refl _) (.cells RA.toArray 39)
 have hrw := heap_alloc_new w (.cells RA.toArray 39)
 have hsz : (w.alloc (.cells RA.toArray 39)).heap.size = ga + 1 := by simp [hg0]
 rw [hg0] at hrw
 replace HB := Qh (bl_next HB.out HB.out.size hb)
 have HA := Qh hrw
 clear hb hrw
 generalize w.alloc (.cells RA.toArray 39) = w1 at HB HA hsz ⊢
 have hg1 := hsz
 clear hsz
 clear hg0
 have hb := (Below.refl w1.heap.size w1).alloc (Nat.le_refl _) (.cells RB.toArray 39)
 have hrw := heap_alloc_new w1 (.cells RB.toArray 39)
 have hsz : (w1.alloc (.cells RB.toArray 39)).heap.size = ga + 1 + 1 := by simp [hg1]
 rw [hg1] at hrw
 replace HB := Qh (bl_next HB.out HB.out.size hb)
 replace HA := Qh (bl_row hb (lt_of_block HA.out) HA.out)
 have HG := Qh hrw
 clear hb hrw
 generalize w1.alloc (.cells RB.toArray 39) = w2 at HB HA HG hsz ⊢
 have hg2 := hsz
 clear hsz
 clear hg1
 obtain ⟨gb, hgg⟩ : ∃ g, ga + 1 = g := ⟨_, rfl⟩
 rw [hgg] at HG hg2 ⊢
 have HLTgb : Hid (ga < gb) := Qh (by omega)
 clear hgg
 clear hg2
 have ca0 := cell_row HA.out 0 _ Ha0.out; have cb0 := cell_row HG.out 0 _ Hb0.out
 have ca_st := cell_row HA.out 1 _ Ha_st.out; have cb_st := cell_row HG.out 1 _ Hb_st.out
 have ca_li := cell_row HA.out 5 _ Ha_li.out; have cb_li := cell_row HG.out 5 _ Hb_li.out
 by_cases e_st : st1 = st2
 ·
  have E_st := Qh e_st
  have q_st : (st1 == st2) = true := by rw [e_st]; simp
  clear e_st
  by_cases e_li : li1 = li2
  ·
   have E_li := Qh e_li
   have q_li : (li1 == li2) = true := by rw [e_li]; simp
   clear e_li
   have HS : Hid ((decide (st1 = st2) && decide (li1 = li2)) = true) := Qh (by simp [E_st.out, E_li.out])
   go_wp2_with fail
   go_ret
   exact ⟨by rw [HS.out]; rfl, HB.out⟩
  ·
   have HS : Hid ((decide (st1 = st2) && decide (li1 = li2)) = false) := Qh (by simp [e_li])
   have q_li : (li1 == li2) = false := by simpa using e_li
   clear e_li
   go_wp2_with fail
   go_ret
   exact ⟨by rw [HS.out]; rfl, HB.out⟩
 ·
  have HS : Hid ((decide (st1 = st2) && decide (li1 = li2)) = false) := Qh (by simp [e_st])
  have q_st : (st1 == st2) = false := by simpa using e_st
  clear e_st
  go_wp2_with fail
  go_ret
  exact ⟨by rw [HS.out]; rfl, HB.out⟩
theorem rsame4_24 (w : World) (f g : Fr) (dv rv dw rw_ : Value) (hf : FrAt w f dv rv) (hg : FrAt w g dw rw_) (hk : f.kind = 24) (hkg : g.kind = 24) :
  Calls Try.prog 14 #[.agg (f.cells dv rv).toArray, .agg (g.cells dw rw_).toArray] w fun e w' => e = .returned (.bool (sameF f g)) ∧ Below w.heap.size w w' := by
 have hs : sameF f g = (decide (f.se = g.se) && decide (f.li = g.li) && decide (f.cid = g.cid)) := by unfold sameF; simp [hk, hkg]
 have Ha0 : Hid ((f.cells dv rv)[0]? = some (.int .i64 24)) := Qh (by rw [← hk]; rfl)
 have Ha_se : Hid ((f.cells dv rv)[8]? = some (.int .u64 f.se)) := Qh rfl
 have Ha_li : Hid ((f.cells dv rv)[5]? = some (.int .u64 f.li)) := Qh rfl
 have Ha_cid : Hid (∀ (j : Nat) (v : Value), (f.cid.map (Value.int .u8))[j]? = some v → (f.cells dv rv)[11 + j]? = some v) := Qh (cells_cid f dv rv)
 have Hb0 : Hid ((g.cells dw rw_)[0]? = some (.int .i64 24)) := Qh (by rw [← hkg]; rfl)
 have Hb_se : Hid ((g.cells dw rw_)[8]? = some (.int .u64 g.se)) := Qh rfl
 have Hb_li : Hid ((g.cells dw rw_)[5]? = some (.int .u64 g.li)) := Qh rfl
 have Hb_cid : Hid (∀ (j : Nat) (v : Value), (g.cid.map (Value.int .u8))[j]? = some v → (g.cells dw rw_)[11 + j]? = some v) := Qh (cells_cid g dw rw_)
 have HCA : Hid (cidOk f.cid) := Qh ⟨hf.wf.cidl, hf.wf.cid⟩
 have HCB : Hid (cidOk g.cid) := Qh ⟨hg.wf.cidl, hg.wf.cid⟩
 obtain ⟨RA, hRA⟩ : ∃ R, f.cells dv rv = R := ⟨_, rfl⟩
 obtain ⟨RB, hRB⟩ : ∃ R, g.cells dw rw_ = R := ⟨_, rfl⟩
 simp only [hRA] at Ha0 Ha_se Ha_li Ha_cid
 simp only [hRB] at Hb0 Hb_se Hb_li Hb_cid
 rw [hRA, hRB, hs]
 clear hRA hRB hs hk hkg
 obtain ⟨se1, h1⟩ : ∃ y, f.se = y := ⟨_, rfl⟩
 obtain ⟨se2, h2⟩ : ∃ y, g.se = y := ⟨_, rfl⟩
 rw [h1] at Ha_se
 rw [h2] at Hb_se
 rw [h1, h2]
 clear h1 h2
 obtain ⟨li1, h1⟩ : ∃ y, f.li = y := ⟨_, rfl⟩
 obtain ⟨li2, h2⟩ : ∃ y, g.li = y := ⟨_, rfl⟩
 rw [h1] at Ha_li
 rw [h2] at Hb_li
 rw [h1, h2]
 clear h1 h2
 obtain ⟨cid1, h1⟩ : ∃ y, f.cid = y := ⟨_, rfl⟩
 obtain ⟨cid2, h2⟩ : ∃ y, g.cid = y := ⟨_, rfl⟩
 rw [h1] at Ha_cid HCA
 rw [h2] at Hb_cid HCB
 rw [h1, h2]
 clear h1 h2
 clear hf hg
 have h18 : (cid1.map (Value.int .u8)).length = 8 := by simp [HCA.out.1]
 have h28 : (cid2.map (Value.int .u8)).length = 8 := by simp [HCB.out.1]
 obtain ⟨CX, hCX⟩ : ∃ C, cid1.map (Value.int .u8) = C := ⟨_, rfl⟩
 obtain ⟨CY, hCY⟩ : ∃ C, cid2.map (Value.int .u8) = C := ⟨_, rfl⟩
 rw [hCX] at h18 Ha_cid; rw [hCY] at h28 Hb_cid
 have HCX := Qh hCX; have HCY := Qh hCY; have H18 := Qh h18; have H28 := Qh h28
 clear hCX hCY h18 h28
 have HB := Qh (Below.refl w.heap.size w)
 go_enter Try.func14, Try.ntmps14
 go_upto_region 1 with fail
 change Code.wp _ _ _ _ ((w.alloc (.cells RA.toArray 39)).alloc (.cells RB.toArray 39))
 obtain ⟨ga, hg0⟩ : ∃ g, w.heap.size = g := ⟨_, rfl⟩
 try rw [hg0]
 have hb := (Below.refl w.heap.size w).alloc (Nat.le_refl _) (.cells RA.toArray 39)
 have hrw := heap_alloc_new w (.cells RA.toArray 39)
 have hsz : (w.alloc (.cells RA.toArray 39)).heap.size = ga + 1 := by simp [hg0]
 rw [hg0] at hrw
 replace HB := Qh (bl_next HB.out HB.out.size hb)
 have HA := Qh hrw
 clear hb hrw
 generalize w.alloc (.cells RA.toArray 39) = w1 at HB HA hsz ⊢
 have hg1 := hsz
 clear hsz
 clear hg0
 have hb := (Below.refl w1.heap.size w1).alloc (Nat.le_refl _) (.cells RB.toArray 39)
 have hrw := heap_alloc_new w1 (.cells RB.toArray 39)
 have hsz : (w1.alloc (.cells RB.toArray 39)).heap.size = ga + 1 + 1 := by simp [hg1]
 rw [hg1] at hrw
 replace HB := Qh (bl_next HB.out HB.out.size hb)
 replace HA := Qh (bl_row hb (lt_of_block HA.out) HA.out)
 have HG := Qh hrw
 clear hb hrw
 generalize w1.alloc (.cells RB.toArray 39) = w2 at HB HA HG hsz ⊢
 have hg2 := hsz
 clear hsz
 clear hg1
 obtain ⟨gb, hgg⟩ : ∃ g, ga + 1 = g := ⟨_, rfl⟩
 rw [hgg] at HG hg2 ⊢
 have HLTgb : Hid (ga < gb) := Qh (by omega)
 clear hgg
 clear hg2
 have ca0 := cell_row HA.out 0 _ Ha0.out; have cb0 := cell_row HG.out 0 _ Hb0.out
 have ca_se := cell_row HA.out 8 _ Ha_se.out; have cb_se := cell_row HG.out 8 _ Hb_se.out
 have ca_li := cell_row HA.out 5 _ Ha_li.out; have cb_li := cell_row HG.out 5 _ Hb_li.out
 have HRA := Qh (rng_row HA.out 11 _ Ha_cid.out); have HRB := Qh (rng_row HG.out 11 _ Hb_cid.out)
 by_cases e_se : se1 = se2
 ·
  have E_se := Qh e_se
  have q_se : (se1 == se2) = true := by rw [e_se]; simp
  clear e_se
  by_cases e_li : li1 = li2
  ·
   have E_li := Qh e_li
   have q_li : (li1 == li2) = true := by rw [e_li]; simp
   clear e_li
   by_cases e_cid : cid1 = cid2
   ·
    have E_cid := Qh e_cid
    have hcq : (cid1 == cid2) = true := by rw [e_cid]; simp
    clear e_cid
    have HS : Hid ((decide (se1 = se2) && decide (li1 = li2) && decide (cid1 = cid2)) = true) := Qh (by simp [E_se.out, E_li.out, E_cid.out])
    go_wp2_with (first | (refine wpList_load_g 37 _ rfl (by kernel_rfl) ga 11 rfl CX _ HRA.out Try.underlying37 rfl (by rw [H18.out]; rfl) ?_) | (refine wpList_load_g 37 _ rfl (by kernel_rfl) gb 11 rfl CY _ HRB.out Try.underlying37 rfl (by rw [H28.out]; rfl) ?_) | (refine wpList_eql_cid_g (by kernel_rfl) _ _ _ rfl cid1 cid2 (by rw [HCX.out]; rfl) (by rw [HCY.out]; rfl) HCA.out HCB.out ?_; rw [hcq]) | fail)
    go_ret
    exact ⟨by rw [HS.out]; rfl, HB.out⟩
   ·
    have HS : Hid ((decide (se1 = se2) && decide (li1 = li2) && decide (cid1 = cid2)) = false) := Qh (by simp [e_cid])
    have hcq : (cid1 == cid2) = false := by simpa using e_cid
    clear e_cid
    go_wp2_with (first | (refine wpList_load_g 37 _ rfl (by kernel_rfl) ga 11 rfl CX _ HRA.out Try.underlying37 rfl (by rw [H18.out]; rfl) ?_) | (refine wpList_load_g 37 _ rfl (by kernel_rfl) gb 11 rfl CY _ HRB.out Try.underlying37 rfl (by rw [H28.out]; rfl) ?_) | (refine wpList_eql_cid_g (by kernel_rfl) _ _ _ rfl cid1 cid2 (by rw [HCX.out]; rfl) (by rw [HCY.out]; rfl) HCA.out HCB.out ?_; rw [hcq]) | fail)
    go_ret
    exact ⟨by rw [HS.out]; rfl, HB.out⟩
  ·
   have HS : Hid ((decide (se1 = se2) && decide (li1 = li2) && decide (cid1 = cid2)) = false) := Qh (by simp [e_li])
   have q_li : (li1 == li2) = false := by simpa using e_li
   clear e_li
   go_wp2_with fail
   go_ret
   exact ⟨by rw [HS.out]; rfl, HB.out⟩
 ·
  have HS : Hid ((decide (se1 = se2) && decide (li1 = li2) && decide (cid1 = cid2)) = false) := Qh (by simp [e_se])
  have q_se : (se1 == se2) = false := by simpa using e_se
  clear e_se
  go_wp2_with fail
  go_ret
  exact ⟨by rw [HS.out]; rfl, HB.out⟩
theorem rsame4_25 (w : World) (f g : Fr) (dv rv dw rw_ : Value) (hf : FrAt w f dv rv) (hg : FrAt w g dw rw_) (hk : f.kind = 25) (hkg : g.kind = 25) :
  Calls Try.prog 14 #[.agg (f.cells dv rv).toArray, .agg (g.cells dw rw_).toArray] w fun e w' => e = .returned (.bool (sameF f g)) ∧ Below w.heap.size w w' := by
 have hs : sameF f g = (decide (f.se = g.se)) := by unfold sameF; simp [hk, hkg]
 have Ha0 : Hid ((f.cells dv rv)[0]? = some (.int .i64 25)) := Qh (by rw [← hk]; rfl)
 have Ha_se : Hid ((f.cells dv rv)[8]? = some (.int .u64 f.se)) := Qh rfl
 have Hb0 : Hid ((g.cells dw rw_)[0]? = some (.int .i64 25)) := Qh (by rw [← hkg]; rfl)
 have Hb_se : Hid ((g.cells dw rw_)[8]? = some (.int .u64 g.se)) := Qh rfl
 obtain ⟨RA, hRA⟩ : ∃ R, f.cells dv rv = R := ⟨_, rfl⟩
 obtain ⟨RB, hRB⟩ : ∃ R, g.cells dw rw_ = R := ⟨_, rfl⟩
 simp only [hRA] at Ha0 Ha_se
 simp only [hRB] at Hb0 Hb_se
 rw [hRA, hRB, hs]
 clear hRA hRB hs hk hkg
 obtain ⟨se1, h1⟩ : ∃ y, f.se = y := ⟨_, rfl⟩
 obtain ⟨se2, h2⟩ : ∃ y, g.se = y := ⟨_, rfl⟩
 rw [h1] at Ha_se
 rw [h2] at Hb_se
 rw [h1, h2]
 clear h1 h2
 clear hf hg
 have HB := Qh (Below.refl w.heap.size w)
 go_enter Try.func14, Try.ntmps14
 go_upto_region 1 with fail
 change Code.wp _ _ _ _ ((w.alloc (.cells RA.toArray 39)).alloc (.cells RB.toArray 39))
 obtain ⟨ga, hg0⟩ : ∃ g, w.heap.size = g := ⟨_, rfl⟩
 try rw [hg0]
 have hb := (Below.refl w.heap.size w).alloc (Nat.le_refl _) (.cells RA.toArray 39)
 have hrw := heap_alloc_new w (.cells RA.toArray 39)
 have hsz : (w.alloc (.cells RA.toArray 39)).heap.size = ga + 1 := by simp [hg0]
 rw [hg0] at hrw
 replace HB := Qh (bl_next HB.out HB.out.size hb)
 have HA := Qh hrw
 clear hb hrw
 generalize w.alloc (.cells RA.toArray 39) = w1 at HB HA hsz ⊢
 have hg1 := hsz
 clear hsz
 clear hg0
 have hb := (Below.refl w1.heap.size w1).alloc (Nat.le_refl _) (.cells RB.toArray 39)
 have hrw := heap_alloc_new w1 (.cells RB.toArray 39)
 have hsz : (w1.alloc (.cells RB.toArray 39)).heap.size = ga + 1 + 1 := by simp [hg1]
 rw [hg1] at hrw
 replace HB := Qh (bl_next HB.out HB.out.size hb)
 replace HA := Qh (bl_row hb (lt_of_block HA.out) HA.out)
 have HG := Qh hrw
 clear hb hrw
 generalize w1.alloc (.cells RB.toArray 39) = w2 at HB HA HG hsz ⊢
 have hg2 := hsz
 clear hsz
 clear hg1
 obtain ⟨gb, hgg⟩ : ∃ g, ga + 1 = g := ⟨_, rfl⟩
 rw [hgg] at HG hg2 ⊢
 have HLTgb : Hid (ga < gb) := Qh (by omega)
 clear hgg
 clear hg2
 have ca0 := cell_row HA.out 0 _ Ha0.out; have cb0 := cell_row HG.out 0 _ Hb0.out
 have ca_se := cell_row HA.out 8 _ Ha_se.out; have cb_se := cell_row HG.out 8 _ Hb_se.out
 by_cases e_se : se1 = se2
 ·
  have E_se := Qh e_se
  have q_se : (se1 == se2) = true := by rw [e_se]; simp
  clear e_se
  have HS : Hid ((decide (se1 = se2)) = true) := Qh (by simp [E_se.out])
  go_wp2_with fail
  go_ret
  exact ⟨by rw [HS.out]; rfl, HB.out⟩
 ·
  have HS : Hid ((decide (se1 = se2)) = false) := Qh (by simp [e_se])
  have q_se : (se1 == se2) = false := by simpa using e_se
  clear e_se
  go_wp2_with fail
  go_ret
  exact ⟨by rw [HS.out]; rfl, HB.out⟩
theorem rsame4_26 (w : World) (f g : Fr) (dv rv dw rw_ : Value) (hf : FrAt w f dv rv) (hg : FrAt w g dw rw_) (hk : f.kind = 26) (hkg : g.kind = 26) :
  Calls Try.prog 14 #[.agg (f.cells dv rv).toArray, .agg (g.cells dw rw_).toArray] w fun e w' => e = .returned (.bool (sameF f g)) ∧ Below w.heap.size w w' := by
 have hs : sameF f g = (decide (f.cid = g.cid)) := by unfold sameF; simp [hk, hkg]
 have Ha0 : Hid ((f.cells dv rv)[0]? = some (.int .i64 26)) := Qh (by rw [← hk]; rfl)
 have Ha_cid : Hid (∀ (j : Nat) (v : Value), (f.cid.map (Value.int .u8))[j]? = some v → (f.cells dv rv)[11 + j]? = some v) := Qh (cells_cid f dv rv)
 have Hb0 : Hid ((g.cells dw rw_)[0]? = some (.int .i64 26)) := Qh (by rw [← hkg]; rfl)
 have Hb_cid : Hid (∀ (j : Nat) (v : Value), (g.cid.map (Value.int .u8))[j]? = some v → (g.cells dw rw_)[11 + j]? = some v) := Qh (cells_cid g dw rw_)
 have HCA : Hid (cidOk f.cid) := Qh ⟨hf.wf.cidl, hf.wf.cid⟩
 have HCB : Hid (cidOk g.cid) := Qh ⟨hg.wf.cidl, hg.wf.cid⟩
 obtain ⟨RA, hRA⟩ : ∃ R, f.cells dv rv = R := ⟨_, rfl⟩
 obtain ⟨RB, hRB⟩ : ∃ R, g.cells dw rw_ = R := ⟨_, rfl⟩
 simp only [hRA] at Ha0 Ha_cid
 simp only [hRB] at Hb0 Hb_cid
 rw [hRA, hRB, hs]
 clear hRA hRB hs hk hkg
 obtain ⟨cid1, h1⟩ : ∃ y, f.cid = y := ⟨_, rfl⟩
 obtain ⟨cid2, h2⟩ : ∃ y, g.cid = y := ⟨_, rfl⟩
 rw [h1] at Ha_cid HCA
 rw [h2] at Hb_cid HCB
 rw [h1, h2]
 clear h1 h2
 clear hf hg
 have h18 : (cid1.map (Value.int .u8)).length = 8 := by simp [HCA.out.1]
 have h28 : (cid2.map (Value.int .u8)).length = 8 := by simp [HCB.out.1]
 obtain ⟨CX, hCX⟩ : ∃ C, cid1.map (Value.int .u8) = C := ⟨_, rfl⟩
 obtain ⟨CY, hCY⟩ : ∃ C, cid2.map (Value.int .u8) = C := ⟨_, rfl⟩
 rw [hCX] at h18 Ha_cid; rw [hCY] at h28 Hb_cid
 have HCX := Qh hCX; have HCY := Qh hCY; have H18 := Qh h18; have H28 := Qh h28
 clear hCX hCY h18 h28
 have HB := Qh (Below.refl w.heap.size w)
 go_enter Try.func14, Try.ntmps14
 go_upto_region 1 with fail
 change Code.wp _ _ _ _ ((w.alloc (.cells RA.toArray 39)).alloc (.cells RB.toArray 39))
 obtain ⟨ga, hg0⟩ : ∃ g, w.heap.size = g := ⟨_, rfl⟩
 try rw [hg0]
 have hb := (Below.refl w.heap.size w).alloc (Nat.le_refl _) (.cells RA.toArray 39)
 have hrw := heap_alloc_new w (.cells RA.toArray 39)
 have hsz : (w.alloc (.cells RA.toArray 39)).heap.size = ga + 1 := by simp [hg0]
 rw [hg0] at hrw
 replace HB := Qh (bl_next HB.out HB.out.size hb)
 have HA := Qh hrw
 clear hb hrw
 generalize w.alloc (.cells RA.toArray 39) = w1 at HB HA hsz ⊢
 have hg1 := hsz
 clear hsz
 clear hg0
 have hb := (Below.refl w1.heap.size w1).alloc (Nat.le_refl _) (.cells RB.toArray 39)
 have hrw := heap_alloc_new w1 (.cells RB.toArray 39)
 have hsz : (w1.alloc (.cells RB.toArray 39)).heap.size = ga + 1 + 1 := by simp [hg1]
 rw [hg1] at hrw
 replace HB := Qh (bl_next HB.out HB.out.size hb)
 replace HA := Qh (bl_row hb (lt_of_block HA.out) HA.out)
 have HG := Qh hrw
 clear hb hrw
 generalize w1.alloc (.cells RB.toArray 39) = w2 at HB HA HG hsz ⊢
 have hg2 := hsz
 clear hsz
 clear hg1
 obtain ⟨gb, hgg⟩ : ∃ g, ga + 1 = g := ⟨_, rfl⟩
 rw [hgg] at HG hg2 ⊢
 have HLTgb : Hid (ga < gb) := Qh (by omega)
 clear hgg
 clear hg2
 have ca0 := cell_row HA.out 0 _ Ha0.out; have cb0 := cell_row HG.out 0 _ Hb0.out
 have HRA := Qh (rng_row HA.out 11 _ Ha_cid.out); have HRB := Qh (rng_row HG.out 11 _ Hb_cid.out)
 by_cases e_cid : cid1 = cid2
 ·
  have E_cid := Qh e_cid
  have hcq : (cid1 == cid2) = true := by rw [e_cid]; simp
  clear e_cid
  have HS : Hid ((decide (cid1 = cid2)) = true) := Qh (by simp [E_cid.out])
  go_wp2_with (first | (refine wpList_load_mid rfl 37 _ rfl ga 11 rfl CX _ HRA.out Try.underlying37 rfl (by rw [H18.out]; rfl) ?_) | (refine wpList_load_mid rfl 37 _ rfl gb 11 rfl CY _ HRB.out Try.underlying37 rfl (by rw [H28.out]; rfl) ?_) | (refine wpList_eql_cid rfl _ _ _ rfl cid1 cid2 (by rw [HCX.out]; rfl) (by rw [HCY.out]; rfl) HCA.out HCB.out ?_; rw [hcq]) | fail)
  go_ret
  exact ⟨by rw [HS.out]; rfl, HB.out⟩
 ·
  have HS : Hid ((decide (cid1 = cid2)) = false) := Qh (by simp [e_cid])
  have hcq : (cid1 == cid2) = false := by simpa using e_cid
  clear e_cid
  go_wp2_with (first | (refine wpList_load_mid rfl 37 _ rfl ga 11 rfl CX _ HRA.out Try.underlying37 rfl (by rw [H18.out]; rfl) ?_) | (refine wpList_load_mid rfl 37 _ rfl gb 11 rfl CY _ HRB.out Try.underlying37 rfl (by rw [H28.out]; rfl) ?_) | (refine wpList_eql_cid rfl _ _ _ rfl cid1 cid2 (by rw [HCX.out]; rfl) (by rw [HCY.out]; rfl) HCA.out HCB.out ?_; rw [hcq]) | fail)
  go_ret
  exact ⟨by rw [HS.out]; rfl, HB.out⟩
theorem rsame4_27 (w : World) (f g : Fr) (dv rv dw rw_ : Value) (hf : FrAt w f dv rv) (hg : FrAt w g dw rw_) (hk : f.kind = 27) (hkg : g.kind = 27) :
  Calls Try.prog 14 #[.agg (f.cells dv rv).toArray, .agg (g.cells dw rw_).toArray] w fun e w' => e = .returned (.bool (sameF f g)) ∧ Below w.heap.size w w' := by
 have hs : sameF f g = (decide (f.cid = g.cid)) := by unfold sameF; simp [hk, hkg]
 have Ha0 : Hid ((f.cells dv rv)[0]? = some (.int .i64 27)) := Qh (by rw [← hk]; rfl)
 have Ha_cid : Hid (∀ (j : Nat) (v : Value), (f.cid.map (Value.int .u8))[j]? = some v → (f.cells dv rv)[11 + j]? = some v) := Qh (cells_cid f dv rv)
 have Hb0 : Hid ((g.cells dw rw_)[0]? = some (.int .i64 27)) := Qh (by rw [← hkg]; rfl)
 have Hb_cid : Hid (∀ (j : Nat) (v : Value), (g.cid.map (Value.int .u8))[j]? = some v → (g.cells dw rw_)[11 + j]? = some v) := Qh (cells_cid g dw rw_)
 have HCA : Hid (cidOk f.cid) := Qh ⟨hf.wf.cidl, hf.wf.cid⟩
 have HCB : Hid (cidOk g.cid) := Qh ⟨hg.wf.cidl, hg.wf.cid⟩
 obtain ⟨RA, hRA⟩ : ∃ R, f.cells dv rv = R := ⟨_, rfl⟩
 obtain ⟨RB, hRB⟩ : ∃ R, g.cells dw rw_ = R := ⟨_, rfl⟩
 simp only [hRA] at Ha0 Ha_cid
 simp only [hRB] at Hb0 Hb_cid
 rw [hRA, hRB, hs]
 clear hRA hRB hs hk hkg
 obtain ⟨cid1, h1⟩ : ∃ y, f.cid = y := ⟨_, rfl⟩
 obtain ⟨cid2, h2⟩ : ∃ y, g.cid = y := ⟨_, rfl⟩
 rw [h1] at Ha_cid HCA
 rw [h2] at Hb_cid HCB
 rw [h1, h2]
 clear h1 h2
 clear hf hg
 have h18 : (cid1.map (Value.int .u8)).length = 8 := by simp [HCA.out.1]
 have h28 : (cid2.map (Value.int .u8)).length = 8 := by simp [HCB.out.1]
 obtain ⟨CX, hCX⟩ : ∃ C, cid1.map (Value.int .u8) = C := ⟨_, rfl⟩
 obtain ⟨CY, hCY⟩ : ∃ C, cid2.map (Value.int .u8) = C := ⟨_, rfl⟩
 rw [hCX] at h18 Ha_cid; rw [hCY] at h28 Hb_cid
 have HCX := Qh hCX; have HCY := Qh hCY; have H18 := Qh h18; have H28 := Qh h28
 clear hCX hCY h18 h28
 have HB := Qh (Below.refl w.heap.size w)
 go_enter Try.func14, Try.ntmps14
 go_upto_region 1 with fail
 change Code.wp _ _ _ _ ((w.alloc (.cells RA.toArray 39)).alloc (.cells RB.toArray 39))
 obtain ⟨ga, hg0⟩ : ∃ g, w.heap.size = g := ⟨_, rfl⟩
 try rw [hg0]
 have hb := (Below.refl w.heap.size w).alloc (Nat.le_refl _) (.cells RA.toArray 39)
 have hrw := heap_alloc_new w (.cells RA.toArray 39)
 have hsz : (w.alloc (.cells RA.toArray 39)).heap.size = ga + 1 := by simp [hg0]
 rw [hg0] at hrw
 replace HB := Qh (bl_next HB.out HB.out.size hb)
 have HA := Qh hrw
 clear hb hrw
 generalize w.alloc (.cells RA.toArray 39) = w1 at HB HA hsz ⊢
 have hg1 := hsz
 clear hsz
 clear hg0
 have hb := (Below.refl w1.heap.size w1).alloc (Nat.le_refl _) (.cells RB.toArray 39)
 have hrw := heap_alloc_new w1 (.cells RB.toArray 39)
 have hsz : (w1.alloc (.cells RB.toArray 39)).heap.size = ga + 1 + 1 := by simp [hg1]
 rw [hg1] at hrw
 replace HB := Qh (bl_next HB.out HB.out.size hb)
 replace HA := Qh (bl_row hb (lt_of_block HA.out) HA.out)
 have HG := Qh hrw
 clear hb hrw
 generalize w1.alloc (.cells RB.toArray 39) = w2 at HB HA HG hsz ⊢
 have hg2 := hsz
 clear hsz
 clear hg1
 obtain ⟨gb, hgg⟩ : ∃ g, ga + 1 = g := ⟨_, rfl⟩
 rw [hgg] at HG hg2 ⊢
 have HLTgb : Hid (ga < gb) := Qh (by omega)
 clear hgg
 clear hg2
 have ca0 := cell_row HA.out 0 _ Ha0.out; have cb0 := cell_row HG.out 0 _ Hb0.out
 have HRA := Qh (rng_row HA.out 11 _ Ha_cid.out); have HRB := Qh (rng_row HG.out 11 _ Hb_cid.out)
 by_cases e_cid : cid1 = cid2
 ·
  have E_cid := Qh e_cid
  have hcq : (cid1 == cid2) = true := by rw [e_cid]; simp
  clear e_cid
  have HS : Hid ((decide (cid1 = cid2)) = true) := Qh (by simp [E_cid.out])
  go_wp2_with (first | (refine wpList_load_mid rfl 37 _ rfl ga 11 rfl CX _ HRA.out Try.underlying37 rfl (by rw [H18.out]; rfl) ?_) | (refine wpList_load_mid rfl 37 _ rfl gb 11 rfl CY _ HRB.out Try.underlying37 rfl (by rw [H28.out]; rfl) ?_) | (refine wpList_eql_cid rfl _ _ _ rfl cid1 cid2 (by rw [HCX.out]; rfl) (by rw [HCY.out]; rfl) HCA.out HCB.out ?_; rw [hcq]) | fail)
  go_ret
  exact ⟨by rw [HS.out]; rfl, HB.out⟩
 ·
  have HS : Hid ((decide (cid1 = cid2)) = false) := Qh (by simp [e_cid])
  have hcq : (cid1 == cid2) = false := by simpa using e_cid
  clear e_cid
  go_wp2_with (first | (refine wpList_load_mid rfl 37 _ rfl ga 11 rfl CX _ HRA.out Try.underlying37 rfl (by rw [H18.out]; rfl) ?_) | (refine wpList_load_mid rfl 37 _ rfl gb 11 rfl CY _ HRB.out Try.underlying37 rfl (by rw [H28.out]; rfl) ?_) | (refine wpList_eql_cid rfl _ _ _ rfl cid1 cid2 (by rw [HCX.out]; rfl) (by rw [HCY.out]; rfl) HCA.out HCB.out ?_; rw [hcq]) | fail)
  go_ret
  exact ⟨by rw [HS.out]; rfl, HB.out⟩
theorem rsame4_28 (w : World) (f g : Fr) (dv rv dw rw_ : Value) (hf : FrAt w f dv rv) (hg : FrAt w g dw rw_) (hk : f.kind = 28) (hkg : g.kind = 28) :
  Calls Try.prog 14 #[.agg (f.cells dv rv).toArray, .agg (g.cells dw rw_).toArray] w fun e w' => e = .returned (.bool (sameF f g)) ∧ Below w.heap.size w w' := by
 have hs : sameF f g = (decide (f.co = g.co) && decide (f.data = g.data)) := by unfold sameF; simp [hk, hkg]
 obtain ⟨da, dn, dc, rfl, _, _, hd⟩ := hf.d
 obtain ⟨ea, en, ec, rfl, _, _, he⟩ := hg.d
 have HD := Qh hd; have HE := Qh he
 clear hd he
 have Ha0 : Hid ((f.cells (.slice da dn dc) rv)[0]? = some (.int .i64 28)) := Qh (by rw [← hk]; rfl)
 have Ha_co : Hid ((f.cells (.slice da dn dc) rv)[6]? = some (.int .u64 f.co)) := Qh rfl
 have Ha_data : Hid ((f.cells (.slice da dn dc) rv)[3]? = some (.slice da dn dc)) := Qh rfl
 have Hb0 : Hid ((g.cells (.slice ea en ec) rw_)[0]? = some (.int .i64 28)) := Qh (by rw [← hkg]; rfl)
 have Hb_co : Hid ((g.cells (.slice ea en ec) rw_)[6]? = some (.int .u64 g.co)) := Qh rfl
 have Hb_data : Hid ((g.cells (.slice ea en ec) rw_)[3]? = some (.slice ea en ec)) := Qh rfl
 obtain ⟨RA, hRA⟩ : ∃ R, f.cells (.slice da dn dc) rv = R := ⟨_, rfl⟩
 obtain ⟨RB, hRB⟩ : ∃ R, g.cells (.slice ea en ec) rw_ = R := ⟨_, rfl⟩
 simp only [hRA] at Ha0 Ha_co Ha_data
 simp only [hRB] at Hb0 Hb_co Hb_data
 rw [hRA, hRB, hs]
 clear hRA hRB hs hk hkg
 obtain ⟨co1, h1⟩ : ∃ y, f.co = y := ⟨_, rfl⟩
 obtain ⟨co2, h2⟩ : ∃ y, g.co = y := ⟨_, rfl⟩
 rw [h1] at Ha_co
 rw [h2] at Hb_co
 rw [h1, h2]
 clear h1 h2
 obtain ⟨data1, h1⟩ : ∃ y, f.data = y := ⟨_, rfl⟩
 obtain ⟨data2, h2⟩ : ∃ y, g.data = y := ⟨_, rfl⟩
 rw [h1] at HD
 rw [h2] at HE
 rw [h1, h2]
 clear h1 h2
 clear hf hg
 have HB := Qh (Below.refl w.heap.size w)
 go_enter Try.func14, Try.ntmps14
 go_upto_region 1 with fail
 change Code.wp _ _ _ _ ((w.alloc (.cells RA.toArray 39)).alloc (.cells RB.toArray 39))
 obtain ⟨ga, hg0⟩ : ∃ g, w.heap.size = g := ⟨_, rfl⟩
 try rw [hg0]
 have hb := (Below.refl w.heap.size w).alloc (Nat.le_refl _) (.cells RA.toArray 39)
 have hrw := heap_alloc_new w (.cells RA.toArray 39)
 have hsz : (w.alloc (.cells RA.toArray 39)).heap.size = ga + 1 := by simp [hg0]
 rw [hg0] at hrw
 replace HB := Qh (bl_next HB.out HB.out.size hb)
 replace HD := Qh (HD.out.below hb)
 replace HE := Qh (HE.out.below hb)
 have HA := Qh hrw
 clear hb hrw
 generalize w.alloc (.cells RA.toArray 39) = w1 at HB HD HE HA hsz ⊢
 have hg1 := hsz
 clear hsz
 clear hg0
 have hb := (Below.refl w1.heap.size w1).alloc (Nat.le_refl _) (.cells RB.toArray 39)
 have hrw := heap_alloc_new w1 (.cells RB.toArray 39)
 have hsz : (w1.alloc (.cells RB.toArray 39)).heap.size = ga + 1 + 1 := by simp [hg1]
 rw [hg1] at hrw
 replace HB := Qh (bl_next HB.out HB.out.size hb)
 replace HD := Qh (HD.out.below hb)
 replace HE := Qh (HE.out.below hb)
 replace HA := Qh (bl_row hb (lt_of_block HA.out) HA.out)
 have HG := Qh hrw
 clear hb hrw
 generalize w1.alloc (.cells RB.toArray 39) = w2 at HB HD HE HA HG hsz ⊢
 have hg2 := hsz
 clear hsz
 clear hg1
 obtain ⟨gb, hgg⟩ : ∃ g, ga + 1 = g := ⟨_, rfl⟩
 rw [hgg] at HG hg2 ⊢
 have HLTgb : Hid (ga < gb) := Qh (by omega)
 clear hgg
 clear hg2
 have ca0 := cell_row HA.out 0 _ Ha0.out; have cb0 := cell_row HG.out 0 _ Hb0.out
 have ca_co := cell_row HA.out 6 _ Ha_co.out; have cb_co := cell_row HG.out 6 _ Hb_co.out
 have ca_data := cell_row HA.out 3 _ Ha_data.out; have cb_data := cell_row HG.out 3 _ Hb_data.out
 have hc1 : (convert 25 9 (.slice da dn dc)).run Try.prog w2 = .ok (.string (strOfNums data1)) w2 := conv_ints _ 5 _ _ Try.underlying25 Try.underlying5 Try.underlying9 HD.out
 have hc2 : (convert 25 9 (.slice ea en ec)).run Try.prog w2 = .ok (.string (strOfNums data2)) w2 := conv_ints _ 5 _ _ Try.underlying25 Try.underlying5 Try.underlying9 HE.out
 by_cases e_co : co1 = co2
 ·
  have E_co := Qh e_co
  have q_co : (co1 == co2) = true := by rw [e_co]; simp
  clear e_co
  by_cases e_data : data1 = data2
  ·
   have E_data := Qh e_data
   have q_data : ((strOfNums data1).toList == (strOfNums data2).toList) = true := by rw [e_data]; simp
   clear e_data
   have HS : Hid ((decide (co1 = co2) && decide (data1 = data2)) = true) := Qh (by simp [E_co.out, E_data.out])
   go_wp2_with fail
   go_ret
   exact ⟨by rw [HS.out]; rfl, HB.out⟩
  ·
   have HS : Hid ((decide (co1 = co2) && decide (data1 = data2)) = false) := Qh (by simp [e_data])
   have q_data := str_neQ data1 data2 HD.out.2.1 HE.out.2.1 e_data
   clear e_data
   go_wp2_with fail
   go_ret
   exact ⟨by rw [HS.out]; rfl, HB.out⟩
 ·
  have HS : Hid ((decide (co1 = co2) && decide (data1 = data2)) = false) := Qh (by simp [e_co])
  have q_co : (co1 == co2) = false := by simpa using e_co
  clear e_co
  go_wp2_with fail
  go_ret
  exact ⟨by rw [HS.out]; rfl, HB.out⟩
end Go.Proofs.Ytmbjepcbokbemaa
