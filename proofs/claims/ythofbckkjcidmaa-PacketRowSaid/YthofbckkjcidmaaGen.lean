/- what heads, frames, packets share: rows of cells, names, a copy into a row. -/
import Derived.Test.YthofbckkjcidmaaPutGet
import Derived.Test.YthofbckkjcidmaaOctW
import Derived.Test.YthofbckkjcidmaaOctR
import Derived.Test.YthofbckkjcidmaaRegion
import Derived.Test.YthofbckkjcidmaaArr
import Derived.Test.YthofbckkjcidmaaOpen
import Derived.Deep.MidRow
namespace Go.Proofs.Ythofbckkjcidmaa
open Go.RowKit
set_option linter.unusedVariables false

theorem len8 {xs : List Int} (h : xs.length = 8) : ∃ x0 x1 x2 x3 x4 x5 x6 x7, xs = [x0, x1, x2, x3, x4, x5, x6, x7] := by
  match xs, h with
  | [x0, x1, x2, x3, x4, x5, x6, x7], _ => exact ⟨x0, x1, x2, x3, x4, x5, x6, x7, rfl⟩
/-- a copy into a row that is known whole: nothing else turns. -/
theorem grown_setRow (w : World) (g : Nat) (cs : Array Value) : w.grownBy (w.setRow g cs) (some g) :=
  ⟨rfl, rfl, rfl, by simp [World.setRow], fun i _ hr => setRow_other w g i cs (by intro e; exact hr (by rw [e]))⟩
theorem wpList_copy_grown {P : Program} {w : World} {ops : Array Oper} {rest : List Oper} {o : Oper} {a : Act} {Q : Exit → Act → World → Prop} (hgd : o.guard = none) (d s : Operand) (dT sT : TypeId)
    (ho : o.op = .call { callee := .builtin .copy, args := #[d, s], argTypes := #[dT, sT] }) (elem : TypeId) (hu : P.underlying dT = some (.slice elem)) (hsz : (P.info? elem).map (·.size) = some 1)
    (dp sp : Option Addr) (dLen dCap sLen sCap : Nat) (hd : a.eval d = .slice dp dLen dCap) (hs : a.eval s = .slice sp sLen sCap)
    (g off : Nat) (cur : List Value) (t : TypeId) (hg : w.heap[g]? = some (.cells cur.toArray t (0, 0))) (cs : List Value) (hn : cs.length = Nat.min sLen dLen)
    (hpos : 0 < cs.length → dp = some ⟨g, off, none⟩ ∧ ∃ ad, sp = some ad ∧ ∀ j v, cs[j]? = some v → w.cell? (ad.add j) = some v)
    (hfit : off + cs.length ≤ cur.length) (h1 : ∀ v ∈ cs, v.oneCell' = true)
    (h : ∀ w', Hid (w'.heap[g]? = some (.cells (splice cur off cs).toArray t (0, 0))) → w.grownBy w' (some g) → wpList P ops Q rest (a.put o.dst (goInt cs.length)) w') :
    wpList P ops Q (o :: rest) a w := by
  by_cases h0 : cs.length = 0
  · obtain rfl : cs = [] := List.eq_nil_of_length_eq_zero h0
    refine wpList_copy_nothing hgd d s dT sT ho elem hu hsz dp sp dLen dCap sLen sCap hd hs (by simpa using hn.symm) ?_
    exact h w (Lib.hid (by simpa [splice] using hg)) (grown_refl _ _)
  · obtain ⟨rfl, ad, rfl, hsrc⟩ := hpos (by omega)
    refine wpList_copy_own hgd d s dT sT ho elem hu hsz g off dLen dCap ad sLen sCap hd hs cur.toArray t hg cs hn hsrc (by simpa using hfit) h1 ?_
    exact h _ (Lib.hid (by simpa [splice] using setRow_heap w g _ _ t _ hg)) (grown_setRow _ _ _)
set_option maxRecDepth 100000 in
theorem infoU8t : (Try.prog.info? 5).map (·.size) = some 1 := by kernel_rfl
theorem textM_len (bs : List Int) (bad : Bool) : (textM bs bad).2.1.length ≤ bs.length := by
  have hv : (varM bs bad).2.1.length ≤ bs.length := by unfold varM; split <;> simp
  unfold textM
  split
  · simp
  · unfold rdM
    split
    · simp
    · simp; omega
theorem textM_len1 (bs : List Int) (bad : Bool) : (textM bs bad).1.length ≤ bs.length := by
  have hv : (varM bs bad).2.1.length ≤ bs.length := by unfold varM; split <;> simp
  unfold textM
  split
  · simp
  · unfold rdM
    split
    · simp
    · simp; omega
theorem varM_lt (b : Int) (bs : List Int) : (varM (b :: bs) false).2.1.length ≤ bs.length := by
  unfold varM
  split
  · simp
  · rename_i h
    have : getS (b :: bs) ≠ 0 := fun e => h (.inr e)
    simp; omega
theorem Rd.beyond {W0 w w' : World} {L p B : Nat} {T : TypeId} {bs : List Int} {bad : Bool} (h : Rd W0 w L p T bs bad) (hb : Below B w w') (hp : p < B) (hB : B ≤ w.heap.size) : Rd W0 w' L p T bs bad :=
  h.ch (fun i h1 h2 => hb.block i (by have := h.lo; omega)) (hb.block p hp)
theorem sizeM_le (n : Int) : sizeM n ≤ 8 := by rcases sizeM_cases n with h | h | h | h | h <;> omega
theorem putM_le (n : Int) : (putM n).length ≤ 8 := by rw [putM_len]; exact sizeM_le n
theorem Ch.row {w w' : World} {p b : Nat} {q : Option Nat} {o : Obj} (h : Ch w w' p q) (hb : w.heap[b]? = some o) (h1 : b ≠ p) (h2 : q ≠ some b) : w'.heap[b]? = some o := (h.block b (lt_of_block hb) h1 h2).trans hb
theorem wpList_append_bytes_g {ops : Array Oper} {rest : List Oper} {o : Oper} {a : Act} {w : World} {Q : Exit → Act → World → Prop} (hw : Region.wanted o (yielded ops a.tmps) = true) (s x : Operand)
    (ho : o.op = .call { callee := .builtin .append, args := #[s, x], argTypes := #[23, 23] })
    (base n : Nat) (v : Value) (xs : List Int) (hs : a.eval s = v) (hown : w.ownsRow base 5 1 v n (xs.map (Value.int .u8))) (xa : Option Addr) (m c : Nat) (bs : List Int) (hx : a.eval x = .slice xa m c) (hI : IntsK .u8 w xa m bs)
    (hb : n + m ≤ 140737488355328) (hbase : base ≤ w.heap.size)
    (h : ∀ v' w', w'.ownsRow base 5 1 v' (n + m) ((xs ++ bs).map (Value.int .u8)) → w.grownBy w' v.ownBlock → wpList Try.prog ops Q rest (a.put o.dst v') w') : wpList Try.prog ops Q (o :: rest) a w := by
  refine wpList_step fun K hK => ?_
  rw [if_pos hw]
  obtain ⟨v', w', hr, h2, h3⟩ := append_bytes w o.type base n v xs hown xa m c bs hI hb hbase
  unfold Oper.wp execOp
  simp only [ho, resolve, invoke, builtin, Sem.run_bind, Sem.run_pure, Result.andThen_ok, List.map_toArray, List.map_cons, List.map_nil, hs, hx, hr]
  exact hK _ _ (h v' w' h2 h3)
theorem one_of_take {cs : List Value} {i : Nat} {v : Value} (h : (cs.drop i).take 1 = [v]) : cs[i]? = some v := by
  have h1 : ((cs.drop i).take 1)[0]? = some v := by rw [h]; rfl
  rw [List.getElem?_take_of_lt (by omega), List.getElem?_drop] at h1
  simpa using h1
theorem set8c {w : World} {b : Nat} {u0 u1 u2 u3 u4 u5 u6 u7 : Value} {t : TypeId} (h : w.heap[b]? = some (.cells #[u0, u1, u2, u3, u4, u5, u6, u7] t (0, 0))) (x0 x1 x2 x3 x4 x5 x6 x7 : Value) :
    At ((((((((w.setCell ⟨b, 0, none⟩ (x0)).setCell ⟨b, 1, none⟩ (x1)).setCell ⟨b, 2, none⟩ (x2)).setCell ⟨b, 3, none⟩ (x3)).setCell ⟨b, 4, none⟩ (x4)).setCell ⟨b, 5, none⟩ (x5)).setCell ⟨b, 6, none⟩ (x6)).setCell ⟨b, 7, none⟩ (x7)) b #[x0, x1, x2, x3, x4, x5, x6, x7] t w := by
  have h0 := At.base h
  have k0 : At _ b #[x0, u1, u2, u3, u4, u5, u6, u7] t w := (h0.set 0 x0).conv (by rfl)
  have k1 : At _ b #[x0, x1, u2, u3, u4, u5, u6, u7] t w := (k0.set 1 x1).conv (by rfl)
  have k2 : At _ b #[x0, x1, x2, u3, u4, u5, u6, u7] t w := (k1.set 2 x2).conv (by rfl)
  have k3 : At _ b #[x0, x1, x2, x3, u4, u5, u6, u7] t w := (k2.set 3 x3).conv (by rfl)
  have k4 : At _ b #[x0, x1, x2, x3, x4, u5, u6, u7] t w := (k3.set 4 x4).conv (by rfl)
  have k5 : At _ b #[x0, x1, x2, x3, x4, x5, u6, u7] t w := (k4.set 5 x5).conv (by rfl)
  have k6 : At _ b #[x0, x1, x2, x3, x4, x5, x6, u7] t w := (k5.set 6 x6).conv (by rfl)
  have k7 : At _ b #[x0, x1, x2, x3, x4, x5, x6, x7] t w := (k6.set 7 x7).conv (by rfl)
  exact k7
theorem row8 {w : World} {b : Nat} {u0 u1 u2 u3 u4 u5 u6 u7 : Value} {t : TypeId} (h : w.heap[b]? = some (.cells #[u0, u1, u2, u3, u4, u5, u6, u7] t (0, 0))) :
    w.cell? ⟨b, 0, none⟩ = some u0 ∧ w.cell? ⟨b, 1, none⟩ = some u1 ∧ w.cell? ⟨b, 2, none⟩ = some u2 ∧ w.cell? ⟨b, 3, none⟩ = some u3 ∧ w.cell? ⟨b, 4, none⟩ = some u4 ∧ w.cell? ⟨b, 5, none⟩ = some u5 ∧ w.cell? ⟨b, 6, none⟩ = some u6 ∧ w.cell? ⟨b, 7, none⟩ = some u7 :=
  ⟨row_cell h 0 _ rfl, row_cell h 1 _ rfl, row_cell h 2 _ rfl, row_cell h 3 _ rfl, row_cell h 4 _ rfl, row_cell h 5 _ rfl, row_cell h 6 _ rfl, row_cell h 7 _ rfl⟩
theorem free8 {w : World} {b : Nat} {cs : Array Value} {t : TypeId} (h : w.heap[b]? = some (.cells cs t (0, 0))) :
    w.frozen? ⟨b, 0, none⟩ = false ∧ w.frozen? ⟨b, 1, none⟩ = false ∧ w.frozen? ⟨b, 2, none⟩ = false ∧ w.frozen? ⟨b, 3, none⟩ = false ∧ w.frozen? ⟨b, 4, none⟩ = false ∧ w.frozen? ⟨b, 5, none⟩ = false ∧ w.frozen? ⟨b, 6, none⟩ = false ∧ w.frozen? ⟨b, 7, none⟩ = false :=
  ⟨row_free h 0, row_free h 1, row_free h 2, row_free h 3, row_free h 4, row_free h 5, row_free h 6, row_free h 7⟩
def cidM (n : Int) : List Int := [1, within n 0 1048576 % 5, 7, 0, 0, 0, 0, 0]
theorem cidM_wf (n : Int) : ∀ x ∈ cidM n, (Lit.int .u8 x).wf = true := by
  intro x hx
  simp only [cidM, List.mem_cons, List.not_mem_nil, or_false] at hx
  rcases hx with rfl | rfl | rfl | rfl | rfl | rfl | rfl | rfl
  case inr.inl => exact wf_u8_of (by omega) (by omega)
  all_goals decide
set_option maxRecDepth 100000 in
theorem kcid_any (w : World) (n : Int) (hn : -9223372036854775808 ≤ n ∧ n ≤ 9223372036854775807) : Makes Try.prog 24 #[.int .i64 n] w (.agg ((cidM n).map (Value.int .u8)).toArray) := by
  have hwi := within_in n 0 1048576 (by omega)
  have HW := Lib.hid (fun w => within_any w n 0 1048576 (by omega) (by omega) (by omega) hn)
  have HE : Hid ((cidM n).map (Value.int .u8) = [.int .u8 1, .int .u8 (within n 0 1048576 % 5), .int .u8 7, .int .u8 0, .int .u8 0, .int .u8 0, .int .u8 0, .int .u8 0]) := Lib.hid rfl
  obtain ⟨k, hk⟩ : ∃ k, within n 0 1048576 = k := ⟨_, rfl⟩
  rw [hk] at HW hwi HE
  clear hk
  go_enter Try.func24, Try.ntmps24
  go_wp2_with fail
  refine Calls.mono (HW.out _) ?_
  have hrow := heap_alloc_new w (.cells #[.int .u8 0, .int .u8 0, .int .u8 0, .int .u8 0, .int .u8 0, .int .u8 0, .int .u8 0, .int .u8 0] 30)
  have hbW := (Below.refl w.heap.size w).alloc (Nat.le_refl _) (.cells #[.int .u8 0, .int .u8 0, .int .u8 0, .int .u8 0, .int .u8 0, .int .u8 0, .int .u8 0, .int .u8 0] 30)
  generalize w.alloc (.cells #[.int .u8 0, .int .u8 0, .int .u8 0, .int .u8 0, .int .u8 0, .int .u8 0, .int .u8 0, .int .u8 0] 30) = W at hrow hbW ⊢
  rintro e w1 ⟨rfl, rfl⟩
  obtain ⟨g, hg⟩ : ∃ g, w.heap.size = g := ⟨_, rfl⟩
  rw [hg] at hrow ⊢
  have HG := Lib.hid hg
  clear hg
  obtain ⟨z0, z1, z2, z3, z4, z5, z6, z7⟩ := row8 hrow
  obtain ⟨f0, f1, f2, f3, f4, f5, f6, f7⟩ := free8 hrow
  have HR := Lib.hid hrow; have HB := Lib.hid hbW
  clear hrow hbW
  obtain ⟨x, hx⟩ : ∃ x, k % 5 = x := ⟨_, rfl⟩
  have hxb : 0 ≤ x ∧ x < 5 := by omega
  go_wp2_with fail
  simp only [hx]
  have hA := set8c HR.out (.int .u8 1) (.int .u8 x) (.int .u8 7) (.int .u8 0) (.int .u8 0) (.int .u8 0) (.int .u8 0) (.int .u8 0)
  generalize ((((((((W.setCell ⟨g, 0, none⟩ (.int .u8 1)).setCell ⟨g, 1, none⟩ (.int .u8 x)).setCell ⟨g, 2, none⟩ (.int .u8 7)).setCell ⟨g, 3, none⟩ (.int .u8 0)).setCell ⟨g, 4, none⟩ (.int .u8 0)).setCell ⟨g, 5, none⟩ (.int .u8 0)).setCell ⟨g, 6, none⟩ (.int .u8 0)).setCell ⟨g, 7, none⟩ (.int .u8 0)) = W9 at hA ⊢
  have hLZ : Below w.heap.size w W9 := HB.out.grown hA.rest HB.out.size (by intro k hk; injection hk with hk; have := HG.out; omega)
  obtain ⟨e0, e1, e2, e3, e4, e5, e6, e7⟩ := row8 hA.row
  rw [HE.out, hx]
  exact bodyPost_ret (v := .agg #[.int .u8 1, .int .u8 x, .int .u8 7, .int .u8 0, .int .u8 0, .int .u8 0, .int .u8 0, .int .u8 0]) (by simp [results, Try.results24, go_sem, e0, e1, e2, e3, e4, e5, e6, e7]) rfl ⟨rfl, hLZ⟩
theorem wp_append_bytes {o : Oper} {a : Act} {w : World} {K : Act → World → Prop} {Q : Exit → Act → World → Prop} (s x : Operand)
    (ho : o.op = .call { callee := .builtin .append, args := #[s, x], argTypes := #[23, 23] })
    (base n : Nat) (v : Value) (xs : List Int) (hs : a.eval s = v) (hown : w.ownsRow base 5 1 v n (xs.map (Value.int .u8))) (xa : Option Addr) (m c : Nat) (bs : List Int) (hx : a.eval x = .slice xa m c) (hI : IntsK .u8 w xa m bs)
    (hb : n + m ≤ 140737488355328) (hbase : base ≤ w.heap.size)
    (h : ∀ v' w', w'.ownsRow base 5 1 v' (n + m) ((xs ++ bs).map (Value.int .u8)) → w.grownBy w' v.ownBlock → K (a.put o.dst v') w') : Oper.wp Try.prog o a w K Q := by
  obtain ⟨v', w', hr, h2, h3⟩ := append_bytes w o.type base n v xs hown xa m c bs hI hb hbase
  unfold Oper.wp execOp
  simp only [ho, resolve, invoke, builtin, Sem.run_bind, Sem.run_pure, Result.andThen_ok, List.map_toArray, List.map_cons, List.map_nil, hs, hx, hr]
  exact h v' w' h2 h3
theorem IntsK.lt {k : IntKind} {w : World} {a : Option Addr} {len : Nat} {zs : List Int} (h : IntsK k w a len zs) (h0 : 0 < len) : ∀ x, a = some x → x.block < w.heap.size := by
  intro x hx
  rcases h.2.2 with h1 | ⟨b, off, rfl, hb, _⟩
  · omega
  · injection hx with hx; subst hx; exact hb
theorem IntsK.grownL {k : IntKind} {w w' : World} {a : Option Addr} {len : Nat} {zs : List Int} {r : Option Nat} (h : IntsK k w a len zs) (hb : w.grownBy w' r) (hr : 0 < len → ∀ x, a = some x → some x.block ≠ r) : IntsK k w' a len zs := by
  by_cases h0 : 0 < len
  · exact h.grown hb (hr h0)
  · obtain rfl : len = 0 := by omega
    exact ⟨h.1, h.2.1, .inl rfl⟩
theorem own_of_row {w : World} {base g e n : Nat} {xs : List Value} (h : w.heap[g]? = some (.cells xs.toArray e (0, 0))) (hb : base ≤ g) (hl : xs.length = n) (hm : n ≤ maxLen) : w.ownsRow base e 1 (.slice (some ⟨g, 0, none⟩) n n) n xs :=
  ⟨by rw [hl, Nat.mul_one], .inr ⟨g, n, xs.toArray, rfl, hb, h, Nat.le_refl _, hm, by simp [hl], by rw [Nat.mul_one, ← hl]; simp⟩⟩
theorem row20 {w : World} {b : Nat} {u0 u1 u2 u3 u4 u5 u6 u7 u8 u9 u10 u11 u12 u13 u14 u15 u16 u17 u18 u19 : Value} {t : TypeId} (h : w.heap[b]? = some (.cells #[u0, u1, u2, u3, u4, u5, u6, u7, u8, u9, u10, u11, u12, u13, u14, u15, u16, u17, u18, u19] t (0, 0))) :
    w.cell? ⟨b, 0, none⟩ = some u0 ∧ w.cell? ⟨b, 1, none⟩ = some u1 ∧ w.cell? ⟨b, 2, none⟩ = some u2 ∧ w.cell? ⟨b, 3, none⟩ = some u3 ∧ w.cell? ⟨b, 4, none⟩ = some u4 ∧ w.cell? ⟨b, 5, none⟩ = some u5 ∧ w.cell? ⟨b, 6, none⟩ = some u6 ∧ w.cell? ⟨b, 7, none⟩ = some u7 ∧ w.cell? ⟨b, 8, none⟩ = some u8 ∧ w.cell? ⟨b, 9, none⟩ = some u9 ∧ w.cell? ⟨b, 10, none⟩ = some u10 ∧ w.cell? ⟨b, 11, none⟩ = some u11 ∧ w.cell? ⟨b, 12, none⟩ = some u12 ∧ w.cell? ⟨b, 13, none⟩ = some u13 ∧ w.cell? ⟨b, 14, none⟩ = some u14 ∧ w.cell? ⟨b, 15, none⟩ = some u15 ∧ w.cell? ⟨b, 16, none⟩ = some u16 ∧ w.cell? ⟨b, 17, none⟩ = some u17 ∧ w.cell? ⟨b, 18, none⟩ = some u18 ∧ w.cell? ⟨b, 19, none⟩ = some u19 :=
  ⟨row_cell h 0 _ rfl, row_cell h 1 _ rfl, row_cell h 2 _ rfl, row_cell h 3 _ rfl, row_cell h 4 _ rfl, row_cell h 5 _ rfl, row_cell h 6 _ rfl, row_cell h 7 _ rfl, row_cell h 8 _ rfl, row_cell h 9 _ rfl, row_cell h 10 _ rfl, row_cell h 11 _ rfl, row_cell h 12 _ rfl, row_cell h 13 _ rfl, row_cell h 14 _ rfl, row_cell h 15 _ rfl, row_cell h 16 _ rfl, row_cell h 17 _ rfl, row_cell h 18 _ rfl, row_cell h 19 _ rfl⟩
theorem free20 {w : World} {b : Nat} {cs : Array Value} {t : TypeId} (h : w.heap[b]? = some (.cells cs t (0, 0))) :
    w.frozen? ⟨b, 0, none⟩ = false ∧ w.frozen? ⟨b, 1, none⟩ = false ∧ w.frozen? ⟨b, 2, none⟩ = false ∧ w.frozen? ⟨b, 3, none⟩ = false ∧ w.frozen? ⟨b, 4, none⟩ = false ∧ w.frozen? ⟨b, 5, none⟩ = false ∧ w.frozen? ⟨b, 6, none⟩ = false ∧ w.frozen? ⟨b, 7, none⟩ = false ∧ w.frozen? ⟨b, 8, none⟩ = false ∧ w.frozen? ⟨b, 9, none⟩ = false ∧ w.frozen? ⟨b, 10, none⟩ = false ∧ w.frozen? ⟨b, 11, none⟩ = false ∧ w.frozen? ⟨b, 12, none⟩ = false ∧ w.frozen? ⟨b, 13, none⟩ = false ∧ w.frozen? ⟨b, 14, none⟩ = false ∧ w.frozen? ⟨b, 15, none⟩ = false ∧ w.frozen? ⟨b, 16, none⟩ = false ∧ w.frozen? ⟨b, 17, none⟩ = false ∧ w.frozen? ⟨b, 18, none⟩ = false ∧ w.frozen? ⟨b, 19, none⟩ = false :=
  ⟨row_free h 0, row_free h 1, row_free h 2, row_free h 3, row_free h 4, row_free h 5, row_free h 6, row_free h 7, row_free h 8, row_free h 9, row_free h 10, row_free h 11, row_free h 12, row_free h 13, row_free h 14, row_free h 15, row_free h 16, row_free h 17, row_free h 18, row_free h 19⟩
theorem set20 {w : World} {b : Nat} {u0 u1 u2 u3 u4 u5 u6 u7 u8 u9 u10 u11 u12 u13 u14 u15 u16 u17 u18 u19 : Value} {t : TypeId} (h : w.heap[b]? = some (.cells #[u0, u1, u2, u3, u4, u5, u6, u7, u8, u9, u10, u11, u12, u13, u14, u15, u16, u17, u18, u19] t (0, 0))) (x0 x1 x2 x3 x4 x5 x6 x7 x8 x9 x10 x11 x12 x13 x14 x15 x16 x17 x18 x19 : Value) :
    At ((((((((((((((((((((w.setCell ⟨b, 0, none⟩ x0).setCell ⟨b, 1, none⟩ x1).setCell ⟨b, 2, none⟩ x2).setCell ⟨b, 3, none⟩ x3).setCell ⟨b, 4, none⟩ x4).setCell ⟨b, 5, none⟩ x5).setCell ⟨b, 6, none⟩ x6).setCell ⟨b, 7, none⟩ x7).setCell ⟨b, 8, none⟩ x8).setCell ⟨b, 9, none⟩ x9).setCell ⟨b, 10, none⟩ x10).setCell ⟨b, 11, none⟩ x11).setCell ⟨b, 12, none⟩ x12).setCell ⟨b, 13, none⟩ x13).setCell ⟨b, 14, none⟩ x14).setCell ⟨b, 15, none⟩ x15).setCell ⟨b, 16, none⟩ x16).setCell ⟨b, 17, none⟩ x17).setCell ⟨b, 18, none⟩ x18).setCell ⟨b, 19, none⟩ x19) b #[x0, x1, x2, x3, x4, x5, x6, x7, x8, x9, x10, x11, x12, x13, x14, x15, x16, x17, x18, x19] t w := by
  have h0 := At.base h
  have k0 : At _ b #[x0, u1, u2, u3, u4, u5, u6, u7, u8, u9, u10, u11, u12, u13, u14, u15, u16, u17, u18, u19] t w := (h0.set 0 x0).conv (by rfl)
  have k1 : At _ b #[x0, x1, u2, u3, u4, u5, u6, u7, u8, u9, u10, u11, u12, u13, u14, u15, u16, u17, u18, u19] t w := (k0.set 1 x1).conv (by rfl)
  have k2 : At _ b #[x0, x1, x2, u3, u4, u5, u6, u7, u8, u9, u10, u11, u12, u13, u14, u15, u16, u17, u18, u19] t w := (k1.set 2 x2).conv (by rfl)
  have k3 : At _ b #[x0, x1, x2, x3, u4, u5, u6, u7, u8, u9, u10, u11, u12, u13, u14, u15, u16, u17, u18, u19] t w := (k2.set 3 x3).conv (by rfl)
  have k4 : At _ b #[x0, x1, x2, x3, x4, u5, u6, u7, u8, u9, u10, u11, u12, u13, u14, u15, u16, u17, u18, u19] t w := (k3.set 4 x4).conv (by rfl)
  have k5 : At _ b #[x0, x1, x2, x3, x4, x5, u6, u7, u8, u9, u10, u11, u12, u13, u14, u15, u16, u17, u18, u19] t w := (k4.set 5 x5).conv (by rfl)
  have k6 : At _ b #[x0, x1, x2, x3, x4, x5, x6, u7, u8, u9, u10, u11, u12, u13, u14, u15, u16, u17, u18, u19] t w := (k5.set 6 x6).conv (by rfl)
  have k7 : At _ b #[x0, x1, x2, x3, x4, x5, x6, x7, u8, u9, u10, u11, u12, u13, u14, u15, u16, u17, u18, u19] t w := (k6.set 7 x7).conv (by rfl)
  have k8 : At _ b #[x0, x1, x2, x3, x4, x5, x6, x7, x8, u9, u10, u11, u12, u13, u14, u15, u16, u17, u18, u19] t w := (k7.set 8 x8).conv (by rfl)
  have k9 : At _ b #[x0, x1, x2, x3, x4, x5, x6, x7, x8, x9, u10, u11, u12, u13, u14, u15, u16, u17, u18, u19] t w := (k8.set 9 x9).conv (by rfl)
  have k10 : At _ b #[x0, x1, x2, x3, x4, x5, x6, x7, x8, x9, x10, u11, u12, u13, u14, u15, u16, u17, u18, u19] t w := (k9.set 10 x10).conv (by rfl)
  have k11 : At _ b #[x0, x1, x2, x3, x4, x5, x6, x7, x8, x9, x10, x11, u12, u13, u14, u15, u16, u17, u18, u19] t w := (k10.set 11 x11).conv (by rfl)
  have k12 : At _ b #[x0, x1, x2, x3, x4, x5, x6, x7, x8, x9, x10, x11, x12, u13, u14, u15, u16, u17, u18, u19] t w := (k11.set 12 x12).conv (by rfl)
  have k13 : At _ b #[x0, x1, x2, x3, x4, x5, x6, x7, x8, x9, x10, x11, x12, x13, u14, u15, u16, u17, u18, u19] t w := (k12.set 13 x13).conv (by rfl)
  have k14 : At _ b #[x0, x1, x2, x3, x4, x5, x6, x7, x8, x9, x10, x11, x12, x13, x14, u15, u16, u17, u18, u19] t w := (k13.set 14 x14).conv (by rfl)
  have k15 : At _ b #[x0, x1, x2, x3, x4, x5, x6, x7, x8, x9, x10, x11, x12, x13, x14, x15, u16, u17, u18, u19] t w := (k14.set 15 x15).conv (by rfl)
  have k16 : At _ b #[x0, x1, x2, x3, x4, x5, x6, x7, x8, x9, x10, x11, x12, x13, x14, x15, x16, u17, u18, u19] t w := (k15.set 16 x16).conv (by rfl)
  have k17 : At _ b #[x0, x1, x2, x3, x4, x5, x6, x7, x8, x9, x10, x11, x12, x13, x14, x15, x16, x17, u18, u19] t w := (k16.set 17 x17).conv (by rfl)
  have k18 : At _ b #[x0, x1, x2, x3, x4, x5, x6, x7, x8, x9, x10, x11, x12, x13, x14, x15, x16, x17, x18, u19] t w := (k17.set 18 x18).conv (by rfl)
  have k19 : At _ b #[x0, x1, x2, x3, x4, x5, x6, x7, x8, x9, x10, x11, x12, x13, x14, x15, x16, x17, x18, x19] t w := (k18.set 19 x19).conv (by rfl)
  exact k19
end Go.Proofs.Ythofbckkjcidmaa
