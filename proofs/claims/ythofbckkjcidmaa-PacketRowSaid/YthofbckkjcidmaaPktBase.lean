/- what packets need beside the heads' contracts: rows read and stored, the arguments opened. -/
import Derived.Test.YthofbckkjcidmaaHead12
import Derived.Test.YthofbckkjcidmaaZero
namespace Go.Proofs.Ythofbckkjcidmaa
open Go.RowKit Go.WideShapes Go.ChangeShapes
set_option linter.unusedVariables false

section
variable {P : Program} {Q : Exit → Act → World → Prop}
theorem plan_t_load {l : List Oper} {k : Nat} {p : Plan} {S : World → Prop} {a : Act} {w : World} {o : Oper} (ho : l[k]? = some o) (hw : Region.wanted o (yielded l.toArray a.tmps) = true) (ty : TypeId) (x : Operand) (hop : o.op = .load ty x)
    (g off : Nat) (hx : a.eval x = .pointer (some ⟨g, off, none⟩)) (cs : List Value) (d : TypeDesc) (hS : ∀ w, S w → w.rangeAt g off cs) (hu : P.underlying ty = some d) (hd : d.isRow = true) (hi : (P.info? ty).map (·.size) = some cs.length)
    (h : p.wp P l.toArray Q S (a.put o.dst (.agg cs.toArray)) w) : (Plan.t k p).wp P l.toArray Q S a w := by
  refine ⟨o, by simpa using ho, wpQuiet_step fun K hK => ?_⟩
  rw [if_pos hw]
  refine ⟨.agg cs.toArray, fun y hy => ?_, hK _ (wpQuiet_nil h)⟩
  obtain ⟨s, rfl⟩ := hy
  unfold Oper.quietAt execOp
  simp only [hop, hx, Instr.loadAt, Instr.sureAddr, Sem.run_bind, Sem.run_pure, Result.andThen_ok, run_loadVar_mid s.w g off ty cs d (hS s.w s.h) hu hd hi]
  exact ⟨rfl, rfl⟩
end
theorem wpList_load_g {P : Program} {ops : Array Oper} {rest : List Oper} {op : Oper} {a : Act} {w : World} {Q : Exit → Act → World → Prop} (ty : TypeId) (x : Operand) (ho : op.op = .load ty x) (hw : Region.wanted op (yielded ops a.tmps) = true)
    (b o : Nat) (hx : a.eval x = .pointer (some ⟨b, o, none⟩)) (cs : List Value) (d : TypeDesc) (hc : w.rangeAt b o cs)
    (hu : P.underlying ty = some d) (hd : d.isRow = true) (hi : (P.info? ty).map (·.size) = some cs.length)
    (h : wpList P ops Q rest (a.put op.dst (.agg cs.toArray)) w) : wpList P ops Q (op :: rest) a w :=
  wpList_step fun K hK => by rw [if_pos hw]; exact wp_load_mid ty x ho b o hx cs d hc hu hd hi (hK _ _ h)
theorem rngL {w : World} {g : Nat} {t : TypeId} {cs : List Value} (h : w.heap[g]? = some (.cells cs.toArray t (0, 0))) : w.rangeAt g 0 cs :=
  fun j v hv => by rw [Nat.zero_add]; exact row_cell h j v (by simpa using hv)
theorem encH_len (h : Hd) (n : Int) : (encH h n).length = (encH h 20).length := by unfold encH; split <;> simp
theorem encH_le (h : Hd) (hk : h.ok) (hl : h.k.length ≤ 900) : (encH h 20).length ≤ 1000 := by
  have h1 := hk.lt; have h2 := hk.lf; have h3 := putM_le h.k.length
  unfold encH
  split
  · simp [h1]
  · split
    · simp only [List.length_append, List.length_cons, List.length_nil, h1, h2]; omega
    · simp [h1, h2]
theorem encH_wf (h : Hd) (hk : h.ok) (hr : hrightP h) (n : Int) (hn : 0 ≤ n ∧ n ≤ 16383) : ∀ x ∈ encH h n, (Lit.int .u8 x).wf = true := by
  have h1 := hr.1; have h2 := hr.2.1
  have hf : (Lit.int .u8 (firstM h)).wf = true := by
    unfold firstM
    split
    · cases h.p <;> exact wf_u8_of (by simp <;> omega) (by simp <;> omega)
    · rename_i hs
      rcases hr.2.2 with h3 | h3 | h3
      · exact wf_u8_of (by omega) (by omega)
      · exact wf_u8_of (by omega) (by omega)
      · exact absurd h3.1 hs
  intro x hx
  unfold encH at hx
  split at hx
  · rcases List.mem_cons.1 hx with h | h
    · rw [h]; exact hf
    · exact hk.wt x h
  · rcases List.mem_append.1 hx with hx | hx
    · rcases List.mem_cons.1 hx with h | h
      · rw [h]; exact hf
      · exact (by decide : ∀ y ∈ ([0, 0, 0, 1, 8] : List Int), (Lit.int .u8 y).wf = true) x h
    · rcases List.mem_append.1 hx with hx | hx
      · exact hk.wt x hx
      · rcases List.mem_append.1 hx with hx | hx
        · rw [List.mem_singleton] at hx; subst hx; decide
        · rcases List.mem_append.1 hx with hx | hx
          · exact hk.wf x hx
          · rcases List.mem_append.1 hx with hx | hx
            · split at hx
              · rename_i hs0
                have hkl : h.k.length ≤ 32 := by rcases hr.2.2 with h | h | h <;> omega
                rcases List.mem_append.1 hx with hx | hx
                · exact putM_wf _ (by omega) x hx
                · exact hk.wk x hx
              · cases hx
            · simp only [List.mem_cons, List.not_mem_nil, or_false] at hx
              rcases hx with rfl | rfl <;> exact wf_u8_of (by omega) (by omega)
theorem rd_wf {bs : List Int} {bad : Bool} {n : Int} (h : ∀ x ∈ bs, (Lit.int .u8 x).wf = true) : (∀ x ∈ (rdM bs bad n).1, (Lit.int .u8 x).wf = true) ∧ (∀ x ∈ (rdM bs bad n).2.1, (Lit.int .u8 x).wf = true) := by
  unfold rdM
  split
  · simp
  · exact ⟨fun x hx => h x (List.mem_of_mem_take hx), fun x hx => h x (List.mem_of_mem_drop hx)⟩
theorem name_wf {bs : List Int} {bad : Bool} (h : ∀ x ∈ bs, (Lit.int .u8 x).wf = true) : (∀ x ∈ (nameM bs bad).2.1, (Lit.int .u8 x).wf = true) ∧ (∀ x ∈ (nameM bs bad).2.2.1, (Lit.int .u8 x).wf = true) := by
  have h1 : ∀ x ∈ (byteM bs bad).2.1, (Lit.int .u8 x).wf = true := (rd_wf h).2
  exact rd_wf h1
theorem parM_wf {bs : List Int} {r : Hd × Nat × Nat} (hw : ∀ x ∈ bs, (Lit.int .u8 x).wf = true) (h : parM bs = some r) : (∀ x ∈ r.1.t, (Lit.int .u8 x).wf = true) ∧ (∀ x ∈ r.1.f, (Lit.int .u8 x).wf = true) := by
  have hw2 : ∀ x ∈ (byteM bs false).2.1, (Lit.int .u8 x).wf = true := (rd_wf hw).2
  unfold parM at h
  simp only at h
  split at h
  · cases h
  · split at h
    · split at h
      · cases h
      · injection h with h
        subst h
        exact ⟨(rd_wf hw2).1, (by decide : ∀ x ∈ z8, (Lit.int .u8 x).wf = true)⟩
    · split at h
      · cases h
      · rename_i g hg
        split at h
        · cases h
        · injection h with h
          subst h
          unfold lgM at hg
          simp only at hg
          split at hg
          · injection hg with hg
            subst hg
            have h1 := (rd_wf (bad := (byteM bs false).2.2) (n := 4) hw2).2
            have h2 := name_wf (bad := (rdM (byteM bs false).2.1 (byteM bs false).2.2 4).2.2) h1
            exact ⟨h2.1, (name_wf h2.2).1⟩
          · cases hg
theorem same_any (w : World) (h : Hd) (a b : Option Addr) (tc uc : Nat) (ht : h.t.length = 8) (hf : h.f.length = 8) (hIa : IntsK .u8 w a h.k.length h.k) (hIb : IntsK .u8 w b h.k.length h.k) (hwt : ∀ x ∈ h.t, (Lit.int .u8 x).wf = true) (hwf : ∀ x ∈ h.f, (Lit.int .u8 x).wf = true) :
    Makes Try.prog 13 #[.agg (h.row a tc).toArray, .agg (h.row b uc).toArray] w (.bool true) := by
  obtain ⟨s, t, f, k, wd, p⟩ := h
  obtain ⟨t0, t1, t2, t3, t4, t5, t6, t7, rfl⟩ := len8 ht
  obtain ⟨f0, f1, f2, f3, f4, f5, f6, f7, rfl⟩ := len8 hf
  exact same_core w s t0 t1 t2 t3 t4 t5 t6 t7 f0 f1 f2 f3 f4 f5 f6 f7 wd a b k.length tc uc p k hIa hIb hwt hwf
theorem row_cidf (h : Hd) (a : Option Addr) (tc : Nat) (ht : h.t.length = 8) (hf : h.f.length = 8) (j : Nat) (v : Value) (hv : (h.f.map (Value.int .u8))[j]? = some v) : (h.row a tc)[9 + j]? = some v := by
  unfold Hd.row
  have hj : j < 8 := by have := lt_of_get hv; rw [List.length_map] at this; omega
  rw [List.getElem?_append_right (by rw [List.length_singleton]; omega), List.length_singleton, show 9 + j - 1 = 8 + j by omega, List.getElem?_append_right (by rw [List.length_map]; omega), List.length_map, ht, show 8 + j - 8 = j by omega, List.getElem?_append_left (by rw [List.length_map]; omega)]
  exact hv
theorem row_17 (h : Hd) (a : Option Addr) (tc : Nat) (ht : h.t.length = 8) (hf : h.f.length = 8) : (h.row a tc)[17]? = some (.slice a h.k.length tc) ∧ (h.row a tc)[18]? = some (.int .i64 h.w) := by
  unfold Hd.row
  constructor
  all_goals
    rw [List.getElem?_append_right (by simp), List.getElem?_append_right (by simp [ht]), List.getElem?_append_right (by simp [ht, hf])]
    simp [ht, hf]
theorem row_0 (h : Hd) (a : Option Addr) (tc : Nat) : (h.row a tc)[0]? = some (.int .i64 h.s) := rfl
theorem cell_row {w : World} {g : Nat} {cs : List Value} {t : TypeId} (h : w.heap[g]? = some (.cells cs.toArray t (0, 0))) (i : Nat) (v : Value) (hv : cs[i]? = some v) : w.cell? ⟨g, i, none⟩ = some v := row_cell h i v (by rw [List.getElem?_toArray]; exact hv)
theorem rng_row {w : World} {g : Nat} {cs : List Value} {t : TypeId} (h : w.heap[g]? = some (.cells cs.toArray t (0, 0))) (off : Nat) (C : List Value) (hv : ∀ (j : Nat) (v : Value), C[j]? = some v → cs[off + j]? = some v) : w.rangeAt g off C :=
  fun j v hj => cell_row h _ v (hv j v hj)
theorem parse_none (w : World) (a : Option Addr) (len cap : Nat) (bs : List Int) (hlen : len ≤ 1000000000000) (hI : IntsK .u8 w a len bs) (hp : parM bs = none) :
    Makes Try.prog 35 #[.slice a len cap] w (.tuple #[.agg rowZ.toArray, .int .i64 0, .int .i64 0, .int .i64 12]) := by
  refine Calls.mono (parse_any w a len cap bs hlen hI) ?_
  rintro e w' ⟨hb, ⟨_, h⟩ | ⟨h, at', en, a', tc, h1, _⟩⟩
  · exact ⟨h, hb⟩
  · rw [hp] at h1; cases h1
set_option maxRecDepth 100000 in
theorem bytes_open {H : Type} {enc : TypeId × Value → H} {w : World} {base : Nat} {spare : Nat → Bool} {held : Bool} {fuel : Nat} {cs : List Value} {x : DataW H × List MemPlace}
    (hx : DataW.trod enc Try.prog w base spare held fuel 23 cs = some x) : ∃ a len cap bs, cs = [.slice a len cap] ∧ len ≤ cap ∧ cap ≤ 9223372036854775807 ∧ IntsK .u8 w a len bs := by
  rcases Go.ChangeShapes.open_ints Try.underlying23 Try.underlying5 (by kernel_rfl) hx with ⟨hcs, _⟩ | ⟨y, l, c, zs, hcs, _, hl, hm, hz, _, hcell, hwz⟩
  · exact ⟨none, 0, 0, [], hcs, Nat.le_refl _, by omega, IntsK.nil _ _ _⟩
  · have hzl : l ≤ zs.length := by rw [hz]; split <;> omega
    exact ⟨some y, l, c, zs.take l, hcs, hl, by unfold maxLen at hm; omega, IntsK.of_cells hzl rfl hcell hwz⟩
theorem take_drop_at {α : Type} {cs : List α} {i n k : Nat} {r : List α} (h : (cs.drop i).take n = r) (hk : k < n) : cs[i + k]? = r[k]? := by
  rw [← h, List.getElem?_take_of_lt hk, List.getElem?_drop]
structure HX where
  s : Int
  t : Int
  f : Int
  w : Int
  a : Option Addr
  tl : Nat
  tc : Nat
  k : List Int
  p : Bool
def HX.row (q : HX) : List Value := [.int .i64 q.s, .int .i64 q.t, .int .i64 q.f, .int .i64 q.w, .slice q.a q.tl q.tc, .bool q.p]
def HX.val (q : HX) : Value := .agg q.row.toArray
structure HX.ok (w : World) (q : HX) : Prop where
  bs : -9223372036854775808 ≤ q.s ∧ q.s ≤ 9223372036854775807
  bt : -9223372036854775808 ≤ q.t ∧ q.t ≤ 9223372036854775807
  bf : -9223372036854775808 ≤ q.f ∧ q.f ≤ 9223372036854775807
  bw : -9223372036854775808 ≤ q.w ∧ q.w ≤ 9223372036854775807
  le : q.tl ≤ q.tc
  max : q.tc ≤ 9223372036854775807
  ints : IntsK .u8 w q.a q.tl q.k
set_option maxRecDepth 100000 in
theorem hx_open {H : Type} {enc : TypeId × Value → H} {w : World} {base b0 : Nat} {r : Reach} {spare : Nat → Bool} {held : Bool} {v : Value} {d : DataW H} {p : List MemPlace}
    (hv : Value.okWide Try.prog w r b0 25 v) (h : DataW.Trod enc Try.prog w base spare held 25 v d p) : ∃ q : HX, v = q.val ∧ q.ok w := by
  simp only [Value.okWide, Try.underlying25] at hv
  obtain ⟨cs, rfl, _, _⟩ := hv
  obtain ⟨fuel, hf⟩ := h
  simp only [Value.cells] at hf
  obtain ⟨hl, m, hfs⟩ := trod_fields Try.underlying25 hf
  obtain ⟨y0, h0⟩ := hfs 0 _ rfl
  obtain ⟨y1, h1⟩ := hfs 1 _ rfl
  obtain ⟨y2, h2⟩ := hfs 2 _ rfl
  obtain ⟨y3, h3⟩ := hfs 3 _ rfl
  obtain ⟨y4, h4⟩ := hfs 4 _ rfl
  obtain ⟨y5, h5⟩ := hfs 5 _ rfl
  obtain ⟨s, hs, _, ws⟩ := DataW.trod_int Try.underlying3 h0
  obtain ⟨t, ht, _, wt⟩ := DataW.trod_int Try.underlying3 h1
  obtain ⟨f, hf', _, wf⟩ := DataW.trod_int Try.underlying3 h2
  obtain ⟨wd, hw, _, ww⟩ := DataW.trod_int Try.underlying3 h3
  obtain ⟨a, tl, tc, ks, hk, hle, hmx, hi⟩ := bytes_open h4
  obtain ⟨ph, hp, _⟩ := DataW.trod_bool Try.underlying4 h5
  have hl6 : cs.toList.length = 6 := hl.trans (by kernel_rfl)
  have g0 := one_of_take (i := 0) hs
  have g1 := one_of_take (i := 1) ht
  have g2 := one_of_take (i := 2) hf'
  have g3 := one_of_take (i := 3) hw
  have g4 := one_of_take (i := 4) hk
  have g5 := one_of_take (i := 5) hp
  refine ⟨⟨s, t, f, wd, a, tl, tc, ks, ph⟩, ?_, ⟨bdI64 ws, bdI64 wt, bdI64 wf, bdI64 ww, hle, hmx, hi⟩⟩
  have e : cs.toList = (⟨s, t, f, wd, a, tl, tc, ks, ph⟩ : HX).row := by
    apply List.ext_getElem?
    intro i
    by_cases hi : i < 6
    · rcases (by omega : i = 0 ∨ i = 1 ∨ i = 2 ∨ i = 3 ∨ i = 4 ∨ i = 5) with rfl | rfl | rfl | rfl | rfl | rfl
      · exact g0
      · exact g1
      · exact g2
      · exact g3
      · exact g4
      · exact g5
    · rw [List.getElem?_eq_none (by omega), List.getElem?_eq_none (by simp [HX.row]; omega)]
  show Value.agg cs = Value.agg _
  rw [← e]
set_option maxRecDepth 100000 in
theorem rawh_open {H : Type} {enc : TypeId × Value → H} {w : World} {base b0 : Nat} {r : Reach} {spare : Nat → Bool} {held : Bool} {v : Value} {d : DataW H} {p : List MemPlace}
    (hv : Value.okWide Try.prog w r b0 32 v) (h : DataW.Trod enc Try.prog w base spare held 32 v d p) : ∃ q : Hd × Option Addr × Nat, v = q.1.val q.2.1 q.2.2 ∧ q.1.ok ∧ IntsK .u8 w q.2.1 q.1.k.length q.1.k ∧ q.1.k.length ≤ q.2.2 ∧ q.2.2 ≤ 9223372036854775807 := by
  simp only [Value.okWide, Try.underlying32] at hv
  obtain ⟨cs, rfl, _, _⟩ := hv
  obtain ⟨fuel, hf⟩ := h
  simp only [Value.cells] at hf
  obtain ⟨hl, m, hfs⟩ := trod_fields Try.underlying32 hf
  obtain ⟨y0, h0⟩ := hfs 0 _ rfl
  obtain ⟨y1, h1⟩ := hfs 1 _ rfl
  obtain ⟨y2, h2⟩ := hfs 2 _ rfl
  obtain ⟨y3, h3⟩ := hfs 3 _ rfl
  obtain ⟨y4, h4⟩ := hfs 4 _ rfl
  obtain ⟨y5, h5⟩ := hfs 5 _ rfl
  obtain ⟨s, hs, _, ws⟩ := DataW.trod_int Try.underlying3 h0
  obtain ⟨t, htl, wt, ht⟩ := trod_ints_arr Try.underlying30 Try.underlying5 (by kernel_rfl) (by kernel_rfl) h1
  obtain ⟨f, hfl, wf, hf'⟩ := trod_ints_arr Try.underlying30 Try.underlying5 (by kernel_rfl) (by kernel_rfl) h2
  obtain ⟨a, tl, tc, ks, hk, hle, hmx, hi⟩ := bytes_open h3
  obtain ⟨wd, hw, _, ww⟩ := DataW.trod_int Try.underlying3 h4
  obtain ⟨ph, hp, _⟩ := DataW.trod_bool Try.underlying4 h5
  have hl20 : cs.toList.length = 20 := hl.trans (by kernel_rfl)
  obtain rfl : tl = ks.length := hi.1.symm
  have g0 := one_of_take (i := 0) hs
  have g17 := one_of_take (i := 17) hk
  have g18 := one_of_take (i := 18) hw
  have g19 := one_of_take (i := 19) hp
  have gt : ∀ j, j < 8 → cs.toList[1 + j]? = (t.map (Value.int .u8))[j]? := fun j hj => take_drop_at (i := 1) (n := 8) (k := j) ht hj
  have gf : ∀ j, j < 8 → cs.toList[9 + j]? = (f.map (Value.int .u8))[j]? := fun j hj => take_drop_at (i := 9) (n := 8) (k := j) hf' hj
  refine ⟨(⟨s, t, f, ks, wd, ph⟩, a, tc), ?_, ⟨ws, ww, htl, hfl, wt, wf, hi.2.1⟩, hi, hle, hmx⟩
  have e : cs.toList = (⟨s, t, f, ks, wd, ph⟩ : Hd).row a tc := by
    apply List.ext_getElem?
    intro i
    have hlen := row_len ⟨s, t, f, ks, wd, ph⟩ a tc htl hfl
    by_cases hi : i < 20
    · by_cases h0 : i = 0
      · subst h0; exact g0
      · by_cases h1 : i < 9
        · obtain ⟨j, rfl⟩ : ∃ j, i = 1 + j := ⟨i - 1, by omega⟩
          have hj : j < (t.map (Value.int .u8)).length := by rw [List.length_map]; omega
          rw [gt j (by omega), row_cid ⟨s, t, f, ks, wd, ph⟩ a tc htl j _ (List.getElem?_eq_getElem hj), List.getElem?_eq_getElem hj]
        · by_cases h2 : i < 17
          · obtain ⟨j, rfl⟩ : ∃ j, i = 9 + j := ⟨i - 9, by omega⟩
            have hj : j < (f.map (Value.int .u8)).length := by rw [List.length_map]; omega
            rw [gf j (by omega), row_cidf ⟨s, t, f, ks, wd, ph⟩ a tc htl hfl j _ (List.getElem?_eq_getElem hj), List.getElem?_eq_getElem hj]
          · rcases (by omega : i = 17 ∨ i = 18 ∨ i = 19) with rfl | rfl | rfl
            · rw [(row_17 ⟨s, t, f, ks, wd, ph⟩ a tc htl hfl).1]; exact g17
            · rw [(row_17 ⟨s, t, f, ks, wd, ph⟩ a tc htl hfl).2]; exact g18
            · rw [g19]
              unfold Hd.row
              rw [List.getElem?_append_right (by simp), List.getElem?_append_right (by simp [htl]), List.getElem?_append_right (by simp [htl, hfl])]
              simp [htl, hfl]
    · rw [List.getElem?_eq_none (by omega), List.getElem?_eq_none (by omega)]
  show Value.agg cs = Value.agg _
  rw [← e]
theorem andnot64 (f : Int) (h : 0 ≤ f ∧ f ≤ 255) : bits .andNot .u8 f 64 / 64 % 2 = 0 := by
  have h2 : ∀ k : Fin 256, bits .andNot .u8 ((k.val : Nat) : Int) 64 / 64 % 2 = 0 := by decide +kernel
  have h3 := h2 ⟨f.toNat, by omega⟩
  simp only [Int.toNat_of_nonneg h.1] at h3
  exact h3
theorem set_wf {xs : List Int} (h : ∀ x ∈ xs, (Lit.int .u8 x).wf = true) (i : Nat) (y : Int) (hy : (Lit.int .u8 y).wf = true) : ∀ x ∈ xs.set i y, (Lit.int .u8 x).wf = true := by
  intro x hx
  rcases List.mem_or_eq_of_mem_set hx with h' | h'
  · exact h x h'
  · rw [h']; exact hy
theorem zeros_wf {xs : List Int} (h : ∀ x ∈ xs, (Lit.int .u8 x).wf = true) (k : Nat) : ∀ x ∈ xs ++ List.replicate k 0, (Lit.int .u8 x).wf = true := by
  intro x hx
  rw [List.mem_append] at hx
  rcases hx with hx | hx
  · exact h x hx
  · rw [(List.mem_replicate.1 hx).2]; decide
theorem IntsK.setOther {k : IntKind} {w : World} {a : Option Addr} {len : Nat} {zs : List Int} (h : IntsK k w a len zs) {p : Addr} {x : Value} (hp : w.cell? p = some x) (hx : ∀ n, x ≠ .int k n) (u : Value) : IntsK k (w.setCell p u) a len zs := by
  refine ⟨h.1, h.2.1, ?_⟩
  rcases h.2.2 with h0 | ⟨b, off, ha, hb, hc⟩
  · exact .inl h0
  · refine .inr ⟨b, off, ha, by simpa using hb, fun i hi => ?_⟩
    rw [World.cell?_setCell_other]
    · exact hc i hi
    · intro e
      rw [e, hc i hi] at hp
      injection hp with hp
      exact hx _ hp.symm
theorem own_capm {w : World} {base e n size : Nat} {v : Value} {xs : List Value} (h : w.ownsRow base e size v n xs) : ∀ b l c, v = .slice b l c → c ≤ 9223372036854775807 := by
  intro b l c hv
  rcases h.2 with ⟨h1, _⟩ | ⟨g, cap, cur, h1, hg, hrow, hn, hc, hsz, htk⟩
  · rw [h1] at hv; injection hv with h1 h2 h3; omega
  · rw [h1] at hv; injection hv with h1 h2 h3; subst h3; unfold maxLen at hc; omega
theorem bdU8 {n : Int} (h : (Lit.int .u8 n).wf = true) : 0 ≤ n ∧ n ≤ 255 := by
  simp [Lit.wf, IntKind.min, IntKind.max, IntKind.signed, IntKind.bits] at h; omega
theorem row_set17 (h : Hd) (a : Option Addr) (tc m : Nat) (ht : h.t.length = 8) (hf : h.f.length = 8) : (h.row a tc).set 17 (.slice a (min h.k.length m) tc) = ({ h with k := h.k.take m } : Hd).row a tc := by
  obtain ⟨s, t, f, k, wd, p⟩ := h
  obtain ⟨t0, t1, t2, t3, t4, t5, t6, t7, rfl⟩ := len8 ht
  obtain ⟨f0, f1, f2, f3, f4, f5, f6, f7, rfl⟩ := len8 hf
  simp [Hd.row, Nat.min_comm]
end Go.Proofs.Ythofbckkjcidmaa
