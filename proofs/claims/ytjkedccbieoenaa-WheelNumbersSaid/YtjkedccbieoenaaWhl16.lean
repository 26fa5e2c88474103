/- wheel: Go: rows of ids; what the loop keeps. -/
import Derived.Test.YtjkedccbieoenaaWhl15
import Derived.Deep.AppendSrc
namespace Go.Proofs.Ytjkedccbieoenaa
open Go.RowKit
set_option linter.unusedVariables false
set_option linter.unusedSimpArgs false

set_option maxRecDepth 100000 in
theorem infoI : (Try.prog.info? 3).map (fun i => (i.zero, i.size, i.bytes)) = some (some (.int .i64 0), 1, 8) := by kernel_rfl
theorem append_int (w : World) (ty : TypeId) (base n : Nat) (v : Value) (xs : List Int) (hown : w.ownsRow base 3 1 v n (xs.map (Value.int .i64))) (xa : Option Addr) (m c : Nat) (bs : List Int) (hI : IntsK .i64 w xa m bs)
    (hb : n + m ≤ 1000000) (hbase : base ≤ w.heap.size) :
    ∃ v' w', (Builtin.append_ #[23, 23] ty #[v, .slice xa m c]).run Try.prog w = .ok v' w' ∧ w'.ownsRow base 3 1 v' (n + m) ((xs ++ bs).map (Value.int .i64)) ∧ w.grownBy w' v.ownBlock ∧ (v'.ownBlock = v.ownBlock ∨ v'.ownBlock = some w.heap.size) := by
  obtain ⟨i0, hi, hz0, hz1, hz2⟩ := info_parts infoI
  have hlen := hI.1
  cases xa with
  | none =>
    have hm : m = 0 := by
      rcases hI.2.2 with h | ⟨b, off, h, _⟩
      · exact h
      · cases h
    subst hm
    obtain rfl : bs = [] := List.eq_nil_of_length_eq_zero hlen
    have hsrc : Src Try.prog i0.size 23 (.slice none 0 c) 0 [] w := Src.ofNil w Try.underlying23 c
    obtain ⟨b, l, cp, rfl, hle⟩ : ∃ b l cp, v = .slice b l cp ∧ l ≤ cp := by
      rcases hown.2 with ⟨rfl, rfl⟩ | ⟨g, cap, cur, rfl, hg, hrow, hn, hc, hsz, htk⟩
      · exact ⟨_, _, _, rfl, Nat.le_refl _⟩
      · exact ⟨_, _, _, rfl, hn⟩
    exact ⟨_, w, run_append_nothing w 23 23 ty 3 i0 Try.underlying23 hi b l cp hle _ hsrc, by simpa using hown, grown_refl _ _, .inl rfl⟩
  | some ad =>
    have hnews : ∀ j u, (bs.map (Value.int .i64))[j]? = some u → w.cell? (ad.add j) = some u := by
      by_cases h0 : 0 < m
      · obtain ⟨ad', e, _, h⟩ := hI.src h0
        injection e with e; subst e; exact h
      · intro j u hu
        have : bs = [] := List.eq_nil_of_length_eq_zero (by omega)
        subst this
        simp at hu
    obtain ⟨v', w', h1, h2, h3, _, h4⟩ := run_append_own_at (P := Try.prog) w base 23 ty 3 i0 _ 1 8 Try.underlying23 hi hz0 hz1 hz2 rfl (by omega) v n _ hown ad m c (bs.map (Value.int .i64)) (by rw [List.length_map]; omega) hnews (fun u hu => by obtain ⟨x, _, rfl⟩ := List.mem_map.1 hu; rfl) (by unfold maxLen; omega) (by omega) hbase
    exact ⟨v', w', h1, by rw [List.map_append]; exact h2, h3, h4⟩
theorem wpList_append_int {ops : Array Oper} {rest : List Oper} {o : Oper} {a : Act} {w : World} {Q : Exit → Act → World → Prop} (hgd : o.guard = none) (s x : Operand) (ho : o.op = .call { callee := .builtin .append, args := #[s, x], argTypes := #[23, 23] })
    (base n : Nat) (v : Value) (xs : List Int) (hs : a.eval s = v) (hown : w.ownsRow base 3 1 v n (xs.map (Value.int .i64))) (xa : Option Addr) (m c : Nat) (bs : List Int) (hx : a.eval x = .slice xa m c) (hI : IntsK .i64 w xa m bs) (hb : n + m ≤ 1000000) (hbase : base ≤ w.heap.size)
    (h : ∀ v' w', w'.ownsRow base 3 1 v' (n + m) ((xs ++ bs).map (Value.int .i64)) → w.grownBy w' v.ownBlock → (v'.ownBlock = v.ownBlock ∨ v'.ownBlock = some w.heap.size) → wpList Try.prog ops Q rest (a.put o.dst v') w') : wpList Try.prog ops Q (o :: rest) a w := by
  refine wpList_plain hgd fun K hK => ?_
  obtain ⟨v', w', hr, h2, h3, h4⟩ := append_int w o.type base n v xs hown xa m c bs hI hb hbase
  unfold Oper.wp execOp
  simp only [ho, resolve, invoke, builtin, Sem.run_bind, Sem.run_pure, Result.andThen_ok, List.map_toArray, List.map_cons, List.map_nil, hs, hx, hr]
  exact hK _ _ (h v' w' h2 h3 h4)
theorem ints_madeI (w : World) (x : Int) (hx : (Lit.int .i64 x).wf = true) : IntsK .i64 (w.alloc (.cells #[.int .i64 x] 3)) (some ⟨w.heap.size, 0, none⟩) 1 [x] :=
  IntsK.of_row (zs := [x]) (heap_alloc_new w _) (fun n hn => by rw [List.mem_singleton.1 hn]; exact hx)

theorem wh_empty {w : World} {p b : Nat} {now : Int} (hr : w.heap[p]? = some (.cells (whCells now nilRows b).toArray 50 (0, 0))) (hm : w.ownsMap (H := Unit) Try.prog 3 (plainElem Try.prog 2) b 0 (.map [])) (hn : 0 ≤ now ∧ now ≤ 1099511627776) : WhAt w p [p, b] now [] nilRows b 0 := by
  have hnil : ∀ (j : Nat) (v : Value), nilRows[j]? = some v → v = .slice none 0 0 := fun j v hv => nilRows_mem (List.mem_of_getElem? hv)
  refine ⟨⟨hr, nilRows_len, fun j v hv => ?_, fun i j u v g _ hu _ hg => ?_, fun v hv g hg => ?_, by simp, by simp, ?_, hn, fun x hx => (by cases hx), fun g hg => ?_⟩, ⟨_, hm, MapOf.nil⟩, by simp⟩
  · rw [hnil j v hv]; exact World.ownsRow_nil _ _ _ _
  · rw [no_own u (hnil i u hu)] at hg; cases hg
  · rw [no_own v (nilRows_mem hv)] at hg; cases hg
  · obtain ⟨es, c, hb, _⟩ := hm; exact ⟨es, c, hb⟩
  · simp only [List.mem_cons, List.not_mem_nil, or_false] at hg
    rcases hg with rfl | rfl
    · exact lt_of_block hr
    · exact hm.lt
def duM (now : Int) (x : Tm) : Bool := decide (x.2 ≤ now)
def ndM (now : Int) (x : Tm) : Bool := decide (¬ x.2 ≤ now)
def duL (now : Int) (S : List Tm) : List Int := (S.filter (duM now)).map Prod.fst
theorem duL_yes {now : Int} {S : List Tm} {k : Nat} {x : Tm} (hx : S[k]? = some x) (h : x.2 ≤ now) : duL now (S.take (k + 1)) = duL now (S.take k) ++ [x.1] ∧ (S.take (k + 1)).filter (ndM now) = (S.take k).filter (ndM now) := by
  have hk := (List.getElem?_eq_some_iff.1 hx)
  rw [List.take_succ_eq_append_getElem hk.1, hk.2]
  unfold duL
  rw [List.filter_append, List.filter_append, List.filter_cons_of_pos (by simpa [duM] using h), List.filter_cons_of_neg (by simpa [ndM] using h)]
  simp
theorem duL_no {now : Int} {S : List Tm} {k : Nat} {x : Tm} (hx : S[k]? = some x) (h : ¬ x.2 ≤ now) : duL now (S.take (k + 1)) = duL now (S.take k) ∧ (S.take (k + 1)).filter (ndM now) = (S.take k).filter (ndM now) ++ [x] := by
  have hk := (List.getElem?_eq_some_iff.1 hx)
  rw [List.take_succ_eq_append_getElem hk.1, hk.2]
  unfold duL
  rw [List.filter_append, List.filter_append, List.filter_cons_of_neg (by simpa [duM] using h), List.filter_cons_of_pos (by simpa [ndM] using h)]
  simp
theorem duL_len (now : Int) (S : List Tm) : (duL now S).length ≤ S.length := by
  unfold duL; rw [List.length_map]; exact List.length_filter_le _ _
/-- what Go's loop keeps. -/
structure GoS (w : World) (p : Nat) (M : List Nat) (now : Int) (S : List Tm) (a0 : Option Addr) (k : Nat) (u : Value) (wr : World) : Prop where
  wh : ∃ Mk vs b n, WhAt wr p Mk now ((S.take k).filter (ndM now)) vs b n ∧ n ≤ k ∧ (∀ g ∈ Mk, g ∈ M ∨ w.heap.size ≤ g) ∧ (∀ x, a0 = some x → x.block ∉ Mk) ∧ (∀ g, u.ownBlock = some g → g ∉ Mk)
  out : wr.ownsRow 0 3 1 u (duL now (S.take k)).length ((duL now (S.take k)).map (Value.int .i64))
  tm : Tms wr a0 S.length S
  off : Off M w wr
  ub : ∀ g, u.ownBlock = some g → w.heap.size ≤ g ∧ ∀ x, a0 = some x → x.block ≠ g
section
variable {w wr y : World} {p : Nat} {M : List Nat} {now : Int} {S : List Tm} {a0 : Option Addr} {k : Nat} {u u' : Value} {x : Tm}
theorem GoS.below (h : GoS w p M now S a0 k u wr) (hb : Below wr.heap.size wr y) : GoS w p M now S a0 k u y := by
  obtain ⟨Mk, vs, b, n, hw, rest⟩ := h.wh
  exact ⟨⟨Mk, vs, b, n, hw.below hb, rest⟩, own_below h.out hb, h.tm.below hb, h.off.next hb, h.ub⟩
theorem GoS.tlt (h : GoS w p M now S a0 k u wr) (hk : k < S.length) : ∀ x, a0 = some x → x.block < wr.heap.size := by
  intro x hx
  rcases h.tm.2.2 with h0 | ⟨b, off, e, hb, _⟩
  · omega
  · rw [hx] at e; injection e with e; rw [e]; exact hb
theorem GoS.push (h : GoS w p M now S a0 k u wr) (hx : S[k]? = some x) (hd : x.2 ≤ now) (ho : y.ownsRow 0 3 1 u' ((duL now (S.take k)).length + 1) ((duL now (S.take k) ++ [x.1]).map (Value.int .i64))) (hg : wr.grownBy y u.ownBlock) (hor : u'.ownBlock = u.ownBlock ∨ u'.ownBlock = some wr.heap.size) : GoS w p M now S a0 (k + 1) u' y := by
  obtain ⟨Mk, vs, b, n, hw, hn, h1, h2, h3⟩ := h.wh
  have hk := (List.getElem?_eq_some_iff.1 hx).1
  have e := duL_yes hx hd
  have hO : Off (blkV u) wr y := Off.of_grown hg (fun g hg => blkV_mem.2 hg)
  refine ⟨⟨Mk, vs, b, n, by rw [e.2]; exact hw.off hO (fun g hg => h3 g (blkV_mem.1 hg)), by omega, h1, h2, fun g hg => ?_⟩, by rw [e.1, List.length_append]; exact ho, h.tm.off hO (fun z hz hm => (h.ub _ (blkV_mem.1 hm)).2 z hz rfl), h.off.trans hO (fun g hg => .inr (h.ub g (blkV_mem.1 hg)).1), fun g hg => ?_⟩
  · rcases hor with h4 | h4
    · rw [h4] at hg; exact h3 g hg
    · rw [h4] at hg; injection hg with hg; intro hm; have := hw.rs.lt g hm; omega
  · rcases hor with h4 | h4
    · rw [h4] at hg; exact h.ub g hg
    · rw [h4] at hg; injection hg with hg
      exact ⟨by rw [← hg]; exact h.off.size, fun z hz => by have := h.tlt hk z hz; omega⟩
theorem GoS.put (h : GoS w p M now S a0 k u wr) (hx : S[k]? = some x) (hd : ¬ x.2 ≤ now) {Mk : List Nat} {n : Nat} (hR : WhR wr p Mk now ((S.take k).filter (ndM now) ++ [x]) (n + 1) y) (hn : n ≤ k) (h1 : ∀ g ∈ Mk, g ∈ M ∨ w.heap.size ≤ g) (h2 : ∀ x, a0 = some x → x.block ∉ Mk) (h3 : ∀ g, u.ownBlock = some g → g ∉ Mk) : GoS w p M now S a0 (k + 1) u y := by
  obtain ⟨M2, vs, b, hw, hO, hM2⟩ := hR
  have hk := (List.getElem?_eq_some_iff.1 hx).1
  have e := duL_no hx hd
  refine ⟨⟨M2, vs, b, n + 1, by rw [e.2]; exact hw, by omega, fun g hg => ?_, fun z hz hm => ?_, fun g hg hm => ?_⟩, by rw [e.1]; exact own_off h.out hO (fun g hg => h3 g hg), h.tm.off hO h2, h.off.trans hO h1, h.ub⟩
  · rcases hM2 g hg with h4 | h4
    · exact h1 g h4
    · exact .inr (Nat.le_trans h.off.size h4)
  · rcases hM2 _ hm with h4 | h4
    · exact h2 z hz h4
    · have := h.tlt hk z hz; omega
  · rcases hM2 _ hm with h4 | h4
    · exact h3 g hg h4
    · have := (h.out.lt g hg).2; omega
end
end Go.Proofs.Ytjkedccbieoenaa
