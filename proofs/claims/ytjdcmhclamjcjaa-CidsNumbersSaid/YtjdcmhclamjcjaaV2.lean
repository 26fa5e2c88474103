/- texts of the proof, laid together: Cid, Cid2, Cid3, Bar, Hm, Cid8. -/
import Derived.Test.YtjdcmhclamjcjaaV1
import Derived.Maps.Keyed
import Derived.DeepKeys4
namespace Go.Proofs.Ytjdcmhclamjcjaa
open Go.RowKit
set_option linter.unusedVariables false
set_option linter.unusedSimpArgs false

abbrev Nm := Int × List Int
abbrev Z8 : List Int := [0, 0, 0, 0, 0, 0, 0, 0]
def cidOk (c : List Int) : Prop := c.length = 8 ∧ ∀ x ∈ c, (Lit.int .u8 x).wf = true
def cidV (c : List Int) : Value := .agg (c.map (Value.int .u8)).toArray
def nmK : RK Nm := ⟨9, fun x => .int .u64 x.1 :: x.2.map (Value.int .u8), fun x => U64 x.1 ∧ cidOk x.2, by omega, by omega, fun x h => by simp [h.2.1], fun x _ v hv => by
  rcases List.mem_cons.1 hv with rfl | hv
  · rfl
  · obtain ⟨y, _, rfl⟩ := List.mem_map.1 hv; rfl⟩
def cdK : RK (List Int) := ⟨8, fun c => c.map (Value.int .u8), cidOk, by omega, by omega, fun x h => by simp [h.1], fun x _ v hv => by
  obtain ⟨y, _, rfl⟩ := List.mem_map.1 hv; rfl⟩
theorem z8_ok : cidOk Z8 := ⟨rfl, by intro x hx; simp at hx; subst hx; rfl⟩
theorem bytes_ok (n : Int) : cidOk (bytesM n) := ⟨rfl, wf_bytes n⟩
/-- names that an end issued. -/
structure OwnAt (OT NT : TypeId) (w : World) (p : Nat) (B : List Nat) (L : List Nm) (nx sd : Int) : Prop where
  ex : ∃ a c, w.heap[p]? = some (.cells [.slice a L.length c, .int .u64 nx, .int .u64 sd].toArray OT (0, 0)) ∧ w.ownsRow 0 NT 9 (.slice a L.length c) L.length (nmK.flat L) ∧ (∀ x, a = some x → x.block ∈ B)
  pm : p ∈ B
  lt : ∀ g ∈ B, g < w.heap.size
  ok : ∀ x ∈ L, nmK.ok x
  nx : 0 ≤ nx ∧ nx ≤ 4611686018427387904
  sd : U64 sd
  len : L.length ≤ 4
theorem OwnAt.off {OT NT : TypeId} {w y : World} {p : Nat} {B M : List Nat} {L : List Nm} {nx sd : Int} (h : OwnAt OT NT w p B L nx sd) (ho : Off M w y) (hd : ∀ g ∈ B, g ∉ M) : OwnAt OT NT y p B L nx sd := by
  obtain ⟨a, c, h1, h2, h3⟩ := h.ex
  exact ⟨⟨a, c, ho.row h1 (hd p h.pm), own_off h2 ho (fun g hg => by
    cases a with
    | none => simp [Value.ownBlock] at hg
    | some x => simp [Value.ownBlock] at hg; subst hg; exact hd _ (h3 x rfl)), h3⟩, h.pm, fun g hg => Nat.lt_of_lt_of_le (h.lt g hg) ho.size, h.ok, h.nx, h.sd, h.len⟩
theorem OwnAt.below {OT NT : TypeId} {w y : World} {p : Nat} {B : List Nat} {L : List Nm} {nx sd : Int} (h : OwnAt OT NT w p B L nx sd) (hb : Below w.heap.size w y) : OwnAt OT NT y p B L nx sd :=
  h.off (M := []) (Off.of_below hb) (fun g _ hg => by cases hg)
/-- a name taken out. -/
def retM : List Nm → Int → Option (Nm × List Nm)
  | [], _ => none
  | x :: l, s => if x.1 = s then some (x, l) else (retM l s).map fun y => (y.1, x :: y.2)
theorem retM_some : ∀ {l1 : List Nm} {x : Nm} {l2 : List Nm} {s : Int}, (∀ y ∈ l1, y.1 ≠ s) → x.1 = s → retM (l1 ++ x :: l2) s = some (x, l1 ++ l2)
  | [], x, l2, s, _, h => by simp [retM, h]
  | y :: l1, x, l2, s, h, hx => by
    have := retM_some (l1 := l1) (x := x) (l2 := l2) (fun z hz => h z (List.mem_cons_of_mem _ hz)) hx
    simp only [List.cons_append, retM]
    rw [if_neg (h y (List.mem_cons_self ..)), this]; rfl
theorem retM_none : ∀ {l : List Nm} {s : Int}, (∀ y ∈ l, y.1 ≠ s) → retM l s = none
  | [], s, _ => rfl
  | y :: l, s, h => by
    simp only [retM]
    rw [if_neg (h y (List.mem_cons_self ..)), retM_none (fun z hz => h z (List.mem_cons_of_mem _ hz))]; rfl
def issF (nx : Int) (c : List Int) : Fr := ⟨24, 0, 0, [], false, 0, 0, 0, nx, 0, [], c⟩
abbrev NILV : Value := .slice none 0 0
/-- what Issue tells. -/
def IssR (OT NT : TypeId) (w : World) (p : Nat) (B : List Nat) (L : List Nm) (nx sd : Int) (e : Ending) (w' : World) : Prop :=
  ∃ N, UpdO B w w' N ∧ ((4 ≤ L.length ∧ e = .returned (.tuple #[.agg ((zeroF 0).cells NILV NILV).toArray, .bool false]) ∧ OwnAt OT NT w' p N L nx sd) ∨
    (L.length < 4 ∧ e = .returned (.tuple #[.agg ((issF nx (bytesM (nextM sd))).cells NILV NILV).toArray, .bool true]) ∧ OwnAt OT NT w' p N (L ++ [(nx, bytesM (nextM sd))]) (nx + 1) (nextM sd)))
/-- what Retire tells. -/
def RetR (OT NT : TypeId) (w : World) (p : Nat) (B : List Nat) (L : List Nm) (nx sd s : Int) (e : Ending) (w' : World) : Prop :=
  ∃ N, UpdO B w w' N ∧ ((retM L s = none ∧ e = .returned (.tuple #[cidV Z8, .int .i64 22]) ∧ OwnAt OT NT w' p N L nx sd) ∨
    (∃ x l, retM L s = some (x, l) ∧ ((L.length = 1 ∧ e = .returned (.tuple #[cidV Z8, .int .i64 24]) ∧ OwnAt OT NT w' p N L nx sd) ∨
      (L.length ≠ 1 ∧ e = .returned (.tuple #[cidV x.2, .int .i64 0]) ∧ OwnAt OT NT w' p N l nx sd))))
set_option maxRecDepth 100000 in
theorem nmT : RT nmK 65 66 (.agg #[.int .u64 0, .int .u8 0, .int .u8 0, .int .u8 0, .int .u8 0, .int .u8 0, .int .u8 0, .int .u8 0, .int .u8 0]) 16 := ⟨Try.underlying66, by kernel_rfl, rfl, by omega⟩
set_option maxRecDepth 100000 in
theorem rnmT : RT nmK 75 76 (.agg #[.int .u64 0, .int .u8 0, .int .u8 0, .int .u8 0, .int .u8 0, .int .u8 0, .int .u8 0, .int .u8 0, .int .u8 0]) 16 := ⟨Try.underlying76, by kernel_rfl, rfl, by omega⟩
set_option maxRecDepth 100000 in
theorem cdT : RT cdK 38 61 (.agg #[.int .u8 0, .int .u8 0, .int .u8 0, .int .u8 0, .int .u8 0, .int .u8 0, .int .u8 0, .int .u8 0]) 8 := ⟨Try.underlying61, by kernel_rfl, rfl, by omega⟩
section
variable {ops : Array Oper} {rest : List Oper} {o : Oper} {a : Act} {w : World} {Q : Exit → Act → World → Prop} {J : Act → World → Prop}
set_option maxRecDepth 100000 in
theorem guard_eql (w : World) (x y : Operand) (A B : Array Value) : (eqGuard .eql 38 x y (.agg A) (.agg B)).run Try.prog w = .ok () w := by kernel_rfl
set_option maxRecDepth 100000 in
theorem guard_neq (w : World) (x y : Operand) (A B : Array Value) : (eqGuard .neq 38 x y (.agg A) (.agg B)).run Try.prog w = .ok () w := by kernel_rfl
set_option maxRecDepth 100000 in
theorem wp_eql_cid (x y : Operand) (t2 : TypeId) (ho : o.op = .binOp .eql 38 x y t2) (xs ys : List Int) (hx : a.eval x = .agg (xs.map (Value.int .u8)).toArray) (hy : a.eval y = .agg (ys.map (Value.int .u8)).toArray) (wx : cidOk xs) (wy : cidOk ys)
    (h : J (a.put o.dst (.bool (xs == ys))) w) : Oper.wp Try.prog o a w J Q := by
  unfold Oper.wp execOp
  simp only [ho, hx, hy, Sem.run_bind, Sem.run_pure, guard_eql, eql_bytes w 38 8 Try.underlying38 xs ys wx.1 wy.1 wx.2 wy.2, Result.andThen_ok]
  exact h
set_option maxRecDepth 100000 in
theorem wp_neq_cid (x y : Operand) (t2 : TypeId) (ho : o.op = .binOp .neq 38 x y t2) (xs ys : List Int) (hx : a.eval x = .agg (xs.map (Value.int .u8)).toArray) (hy : a.eval y = .agg (ys.map (Value.int .u8)).toArray) (wx : cidOk xs) (wy : cidOk ys)
    (h : J (a.put o.dst (.bool (!(xs == ys)))) w) : Oper.wp Try.prog o a w J Q := by
  unfold Oper.wp execOp
  simp only [ho, hx, hy, Sem.run_bind, Sem.run_pure, guard_neq, neq_bytes w 38 8 Try.underlying38 xs ys wx.1 wy.1 wx.2 wy.2, Result.andThen_ok]
  exact h
theorem wpList_eql_cid (hgd : o.guard = none) (x y : Operand) (t2 : TypeId) (ho : o.op = .binOp .eql 38 x y t2) (xs ys : List Int) (hx : a.eval x = .agg (xs.map (Value.int .u8)).toArray) (hy : a.eval y = .agg (ys.map (Value.int .u8)).toArray) (wx : cidOk xs) (wy : cidOk ys)
    (h : wpList Try.prog ops Q rest (a.put o.dst (.bool (xs == ys))) w) : wpList Try.prog ops Q (o :: rest) a w :=
  wpList_plain hgd fun J hK => wp_eql_cid x y t2 ho xs ys hx hy wx wy (hK _ _ h)
theorem wpList_neq_cid (hgd : o.guard = none) (x y : Operand) (t2 : TypeId) (ho : o.op = .binOp .neq 38 x y t2) (xs ys : List Int) (hx : a.eval x = .agg (xs.map (Value.int .u8)).toArray) (hy : a.eval y = .agg (ys.map (Value.int .u8)).toArray) (wx : cidOk xs) (wy : cidOk ys)
    (h : wpList Try.prog ops Q rest (a.put o.dst (.bool (!(xs == ys)))) w) : wpList Try.prog ops Q (o :: rest) a w :=
  wpList_plain hgd fun J hK => wp_neq_cid x y t2 ho xs ys hx hy wx wy (hK _ _ h)
/-- in a region that draws its order, or under a guard that holds. -/
theorem wpList_neq_cid_g (hw : Region.wanted o (yielded ops a.tmps) = true) (x y : Operand) (t2 : TypeId) (ho : o.op = .binOp .neq 38 x y t2) (xs ys : List Int) (hx : a.eval x = .agg (xs.map (Value.int .u8)).toArray) (hy : a.eval y = .agg (ys.map (Value.int .u8)).toArray) (wx : cidOk xs) (wy : cidOk ys)
    (h : wpList Try.prog ops Q rest (a.put o.dst (.bool (!(xs == ys)))) w) : wpList Try.prog ops Q (o :: rest) a w :=
  wpList_step fun J hK => by rw [if_pos hw]; exact wp_neq_cid x y t2 ho xs ys hx hy wx wy (hK _ _ h)
end
theorem nm_tail {x : Nm} {R : List Value} (h : nmK.enc x = R) : ∀ (j : Nat) (v : Value), (x.2.map (Value.int .u8))[j]? = some v → R[1 + j]? = some v := by
  subst h; intro j v hv; rw [Nat.add_comm]; exact hv
theorem nm_head {x : Nm} {R : List Value} (h : nmK.enc x = R) : R[0]? = some (.int .u64 x.1) := by subst h; rfl
theorem any_step {L : List Nm} {i : Nat} {x : Nm} {c : List Int} (hx : L[i]? = some x) (h : (L.take i).any (fun x => x.2 == c) = false) (hq : (x.2 == c) = false) : (L.take (i + 1)).any (fun x => x.2 == c) = false := by
  have hl := lt_of_get hx
  rw [List.take_succ_eq_append_getElem hl, List.any_append, h]
  have : L[i] = x := by have := List.getElem?_eq_getElem hl; rw [hx] at this; injection this with this; exact this.symm
  simp [this, hq]
theorem take_snd' {α : Type} {L : List α} {i : Nat} {x : α} (hx : L[i]? = some x) : L.take (i + 1) = L.take i ++ [x] := by
  have hl := lt_of_get hx
  rw [List.take_succ_eq_append_getElem hl]
  have : L[i] = x := by have := List.getElem?_eq_getElem hl; rw [hx] at this; injection this with this; exact this.symm
  rw [this]
section
variable {Q : Exit → Act → World → Prop}
set_option maxRecDepth 100000 in
theorem plan_t_neq_cid {l : List Oper} {k : Nat} {p : Plan} {S : World → Prop} {a : Act} {w : World} {o : Oper} (ho : l[k]? = some o) (hw : Region.wanted o (yielded l.toArray a.tmps) = true) (x y : Operand) (t2 : TypeId) (hop : o.op = .binOp .neq 38 x y t2)
    (xs ys : List Int) (hx : a.eval x = .agg (xs.map (Value.int .u8)).toArray) (hy : a.eval y = .agg (ys.map (Value.int .u8)).toArray) (wx : cidOk xs) (wy : cidOk ys)
    (h : p.wp Try.prog l.toArray Q S (a.put o.dst (.bool (!(xs == ys)))) w) : (Plan.t k p).wp Try.prog l.toArray Q S a w := by
  refine ⟨o, by simpa using ho, wpQuiet_step fun K hK => ?_⟩
  rw [if_pos hw]
  refine ⟨.bool (!(xs == ys)), fun y hy2 => ?_, hK _ (wpQuiet_nil h)⟩
  unfold Oper.quietAt execOp
  simp only [hop, hx, hy, Sem.run_bind, Sem.run_pure, Result.andThen_ok, guard_neq, neq_bytes y 38 8 Try.underlying38 xs ys wx.1 wy.1 wx.2 wy.2]
  exact ⟨rfl, rfl⟩
end
section
variable {Q : Exit → Act → World → Prop}
set_option maxRecDepth 100000 in
theorem plan_t_eql_cid {l : List Oper} {k : Nat} {p : Plan} {S : World → Prop} {a : Act} {w : World} {o : Oper} (ho : l[k]? = some o) (hw : Region.wanted o (yielded l.toArray a.tmps) = true) (x y : Operand) (t2 : TypeId) (hop : o.op = .binOp .eql 38 x y t2)
    (xs ys : List Int) (hx : a.eval x = .agg (xs.map (Value.int .u8)).toArray) (hy : a.eval y = .agg (ys.map (Value.int .u8)).toArray) (wx : cidOk xs) (wy : cidOk ys)
    (h : p.wp Try.prog l.toArray Q S (a.put o.dst (.bool ((xs == ys)))) w) : (Plan.t k p).wp Try.prog l.toArray Q S a w := by
  refine ⟨o, by simpa using ho, wpQuiet_step fun K hK => ?_⟩
  rw [if_pos hw]
  refine ⟨.bool ((xs == ys)), fun y hy2 => ?_, hK _ (wpQuiet_nil h)⟩
  unfold Oper.quietAt execOp
  simp only [hop, hx, hy, Sem.run_bind, Sem.run_pure, Result.andThen_ok, guard_eql, eql_bytes y 38 8 Try.underlying38 xs ys wx.1 wy.1 wx.2 wy.2]
  exact ⟨rfl, rfl⟩
end
theorem row_ne {w : World} {a b : Nat} {ca cb : Array Value} {ta tb : TypeId} {fa fb : Nat × Nat} (h1 : w.heap[a]? = some (.cells ca ta fa)) (h2 : w.heap[b]? = some (.cells cb tb fb)) (hne : ta ≠ tb) : some a ≠ some b := by
  intro e; injection e with e; subst e; rw [h1] at h2; injection h2 with h2; injection h2 with _ h2; exact hne h2
theorem own_ne {w : World} {B e s n g : Nat} {t : TypeId} {v : Value} {xs : List Value} {cs : Array Value} {fr : Nat × Nat} (h1 : w.ownsRow B e s v n xs) (h2 : w.heap[g]? = some (.cells cs t fr)) (hne : e ≠ t) : v.ownBlock ≠ some g := by
  intro he
  rcases h1.2 with ⟨rfl, _⟩ | ⟨g2, cap2, cur2, rfl, _, hg2, _⟩
  · simp [Value.ownBlock] at he
  · simp only [Value.ownBlock, Option.some.injEq] at he
    subst he
    rw [h2] at hg2
    injection hg2 with hg2
    injection hg2 with _ ht
    exact hne ht.symm
theorem own_grown {w y : World} {B e s n : Nat} {v : Value} {xs : List Value} {r : Option Nat} (h1 : w.ownsRow B e s v n xs) (hg : w.grownBy y r) (hne : ∀ g, v.ownBlock = some g → some g ≠ r) : y.ownsRow B e s v n xs := by
  refine ⟨h1.1, ?_⟩
  rcases h1.2 with ⟨rfl, rfl⟩ | ⟨g, cap, cur, rfl, hb, hrow, hn, hc, hsz, htk⟩
  · exact .inl ⟨rfl, rfl⟩
  · exact .inr ⟨g, cap, cur, rfl, hb, (hg.block g (lt_of_block hrow) (hne g rfl)).trans hrow, hn, hc, hsz, htk⟩
theorem row_setL {w : World} {p : Nat} {R : List Value} {t : TypeId} (h : w.heap[p]? = some (.cells R.toArray t (0, 0))) (k : Nat) (v : Value) : (w.setCell ⟨p, k, none⟩ v).heap[p]? = some (.cells (R.set k v).toArray t (0, 0)) := by
  have h2 := ((At.base h).set k v).row
  rw [List.setIfInBounds_toArray] at h2
  exact h2
theorem Off.fresh {M : List Nat} {w y z : World} {g : Nat} (h : Off M w y) (hg : y.grownBy z (some g)) (hw : w.heap.size ≤ g) : Off M w z :=
  h.trans (N := [g]) (Off.of_grown hg (fun k hk => by injection hk with hk; subst hk; simp)) (fun x hx => .inr (by rw [List.mem_singleton.1 hx]; exact hw))
theorem Off.own {M : List Nat} {w y z : World} {g : Nat} (h : Off M w y) (hg : y.grownBy z (some g)) (hM : g ∈ M) : Off M w z :=
  h.trans (N := [g]) (Off.of_grown hg (fun k hk => by injection hk with hk; subst hk; simp)) (fun x hx => .inl (by rw [List.mem_singleton.1 hx]; exact hM))
theorem own_block_in {a : Option Addr} {n c : Nat} {B : List Nat} (h : ∀ x, a = some x → x.block ∈ B) : ∀ g, (Value.slice a n c).ownBlock = some g → g ∈ B := by
  intro g hg
  cases a with
  | none => simp [Value.ownBlock] at hg
  | some x => simp [Value.ownBlock] at hg; subst hg; exact h x rfl
theorem own_lt {w : World} {B e s n c g : Nat} {xs : List Value} {a : Option Addr} (h : w.ownsRow B e s (.slice a n c) n xs) (ha : a = some ⟨g, 0, none⟩) : g < w.heap.size := by
  subst ha
  rcases h.2 with ⟨e, _⟩ | ⟨g2, cap, cur, e, _, hrow, _⟩
  · cases e
  · injection e with e; injection e with e; injection e with e; subst e; exact lt_of_block hrow
def blkS (a : Option Addr) : List Nat := match a with
  | none => []
  | some x => [x.block]
theorem blkS_mem {a : Option Addr} {g : Nat} : g ∈ blkS a ↔ ∃ x, a = some x ∧ x.block = g := by
  unfold blkS; split
  · simp
  · simp [eq_comm]
theorem wf_next_u (n : Int) : U64 (nextM n) := bdU64 (wf_next n)
theorem bytes8 (n : Int) : ∃ b0 b1 b2 b3 b4 b5 b6 b7, bytesM n = [b0, b1, b2, b3, b4, b5, b6, b7] := ⟨_, _, _, _, _, _, _, _, rfl⟩
theorem Off.freshS {M : List Nat} {w y z : World} {a : Option Addr} {n c : Nat} (h : Off M w y) (hg : y.grownBy z (Value.slice a n c).ownBlock) (hw : ∀ x, a = some x → w.heap.size ≤ x.block) : Off M w z := by
  cases a with
  | none => exact h.next (below_of_none hg)
  | some x => exact h.fresh hg (hw x rfl)
/-- a loop's own thing: a load of a whole thing, a block of its own, the thing laid into it. -/
theorem below_boxed {w y : World} {cs : Array Value} {t : TypeId} (hg : (w.alloc (.cells cs t)).grownBy y (some w.heap.size)) : Below w.heap.size w y :=
  ((Below.refl w.heap.size w).alloc (Nat.le_refl _) (.cells cs t)).grown hg (by simp) (by intro k hk; injection hk with hk; omega)
end Go.Proofs.Ytjdcmhclamjcjaa
namespace Go.Proofs.Ytjdcmhclamjcjaa
open Go.RowKit
set_option linter.unusedVariables false
set_option linter.unusedSimpArgs false

set_option maxRecDepth 100000 in
set_option maxHeartbeats 8000000 in
theorem new_any (w : World) (c : List Int) (sd : Int) (hc : cidOk c) (hs : U64 sd) :
    Calls Try.prog 8 #[cidV c, .int .u64 sd] w fun e w' => ∃ p B, e = .returned (.pointer (some ⟨p, 0, none⟩)) ∧ Below w.heap.size w w' ∧ OwnAt 68 65 w' p B [(0, c)] 1 sd ∧ ∀ g ∈ B, w.heap.size ≤ g := by
  obtain ⟨c0, c1, c2, c3, c4, c5, c6, c7, rfl⟩ := Kc.len8 hc.1
  have HC := Lib.hid hc; have HS := Lib.hid hs
  clear hc hs
  simp only [cidV, List.map_cons, List.map_nil]
  go_enter Try.func8, Try.ntmps8
  go_wp2_with fail
  go_ret
  have h1 := (Below.refl w.heap.size w).alloc (Nat.le_refl _) (.cells ([.int .u8 c0, .int .u8 c1, .int .u8 c2, .int .u8 c3, .int .u8 c4, .int .u8 c5, .int .u8 c6, .int .u8 c7] : List Value).toArray 38)
  have h2 := h1.alloc h1.size (.cells (nmK.flat [(0, [c0, c1, c2, c3, c4, c5, c6, c7])]).toArray 65)
  have h3 := h2.alloc h2.size (.cells ([.slice (some ⟨w.heap.size + 1, 0, none⟩) 1 1, .int .u64 1, .int .u64 sd] : List Value).toArray 68)
  have s1 : (w.alloc (.cells ([.int .u8 c0, .int .u8 c1, .int .u8 c2, .int .u8 c3, .int .u8 c4, .int .u8 c5, .int .u8 c6, .int .u8 c7] : List Value).toArray 38)).heap.size = w.heap.size + 1 := by simp
  have s2 : ((w.alloc (.cells ([.int .u8 c0, .int .u8 c1, .int .u8 c2, .int .u8 c3, .int .u8 c4, .int .u8 c5, .int .u8 c6, .int .u8 c7] : List Value).toArray 38)).alloc (.cells (nmK.flat [(0, [c0, c1, c2, c3, c4, c5, c6, c7])]).toArray 65)).heap.size = w.heap.size + 2 := by simp
  have r2 := heap_alloc_new (w.alloc (.cells ([.int .u8 c0, .int .u8 c1, .int .u8 c2, .int .u8 c3, .int .u8 c4, .int .u8 c5, .int .u8 c6, .int .u8 c7] : List Value).toArray 38)) (.cells (nmK.flat [(0, [c0, c1, c2, c3, c4, c5, c6, c7])]).toArray 65)
  have r3 := heap_alloc_new ((w.alloc (.cells ([.int .u8 c0, .int .u8 c1, .int .u8 c2, .int .u8 c3, .int .u8 c4, .int .u8 c5, .int .u8 c6, .int .u8 c7] : List Value).toArray 38)).alloc (.cells (nmK.flat [(0, [c0, c1, c2, c3, c4, c5, c6, c7])]).toArray 65)) (.cells ([.slice (some ⟨w.heap.size + 1, 0, none⟩) 1 1, .int .u64 1, .int .u64 sd] : List Value).toArray 68)
  rw [s1] at r2; rw [s2] at r3
  have r2' := bl_row ((Below.refl _ ((w.alloc (.cells ([.int .u8 c0, .int .u8 c1, .int .u8 c2, .int .u8 c3, .int .u8 c4, .int .u8 c5, .int .u8 c6, .int .u8 c7] : List Value).toArray 38)).alloc (.cells (nmK.flat [(0, [c0, c1, c2, c3, c4, c5, c6, c7])]).toArray 65))).alloc (Nat.le_refl _) (.cells ([.slice (some ⟨w.heap.size + 1, 0, none⟩) 1 1, .int .u64 1, .int .u64 sd] : List Value).toArray 68)) (by rw [s2]; omega) r2
  have hok : ∀ x ∈ [((0 : Int), [c0, c1, c2, c3, c4, c5, c6, c7])], nmK.ok x := fun x hx => by rw [List.mem_singleton.1 hx]; exact ⟨⟨Int.le_refl 0, (by decide : (0 : Int) < 18446744073709551616)⟩, HC.out⟩
  have hown : (((w.alloc (.cells ([.int .u8 c0, .int .u8 c1, .int .u8 c2, .int .u8 c3, .int .u8 c4, .int .u8 c5, .int .u8 c6, .int .u8 c7] : List Value).toArray 38)).alloc (.cells (nmK.flat [(0, [c0, c1, c2, c3, c4, c5, c6, c7])]).toArray 65)).alloc (.cells ([.slice (some ⟨w.heap.size + 1, 0, none⟩) 1 1, .int .u64 1, .int .u64 sd] : List Value).toArray 68)).ownsRow 0 65 9 (.slice (some ⟨w.heap.size + 1, 0, none⟩) 1 1) 1 (nmK.flat [(0, [c0, c1, c2, c3, c4, c5, c6, c7])]) :=
    ⟨rfl, .inr ⟨_, 1, (nmK.flat [(0, [c0, c1, c2, c3, c4, c5, c6, c7])]).toArray, rfl, Nat.zero_le _, r2', Nat.le_refl _, by unfold maxLen; omega, rfl, rfl⟩⟩
  exact ⟨w.heap.size + 2, [w.heap.size + 2, w.heap.size + 1], rfl, h3, ⟨⟨_, _, r3, hown, fun x hx => by injection hx with hx; subst hx; simp⟩, by simp, fun g hg => by simp at hg ⊢; omega, hok, by omega, HS.out, by simp⟩, fun g hg => by simp at hg; omega⟩
set_option maxRecDepth 100000 in
set_option maxHeartbeats 8000000 in
theorem rnew_any (w : World) (c : List Int) (sd : Int) (hc : cidOk c) (hs : U64 sd) :
    Calls Try.prog 10 #[cidV c, .int .u64 sd] w fun e w' => ∃ p B, e = .returned (.pointer (some ⟨p, 0, none⟩)) ∧ Below w.heap.size w w' ∧ OwnAt 78 75 w' p B [(0, c)] 1 sd ∧ ∀ g ∈ B, w.heap.size ≤ g := by
  obtain ⟨c0, c1, c2, c3, c4, c5, c6, c7, rfl⟩ := Kc.len8 hc.1
  have HC := Lib.hid hc; have HS := Lib.hid hs
  clear hc hs
  simp only [cidV, List.map_cons, List.map_nil]
  go_enter Try.func10, Try.ntmps10
  go_wp2_with fail
  go_ret
  have h1 := (Below.refl w.heap.size w).alloc (Nat.le_refl _) (.cells ([.int .u8 c0, .int .u8 c1, .int .u8 c2, .int .u8 c3, .int .u8 c4, .int .u8 c5, .int .u8 c6, .int .u8 c7] : List Value).toArray 38)
  have h2 := h1.alloc h1.size (.cells (nmK.flat [(0, [c0, c1, c2, c3, c4, c5, c6, c7])]).toArray 75)
  have h3 := h2.alloc h2.size (.cells ([.slice (some ⟨w.heap.size + 1, 0, none⟩) 1 1, .int .u64 1, .int .u64 sd] : List Value).toArray 78)
  have s1 : (w.alloc (.cells ([.int .u8 c0, .int .u8 c1, .int .u8 c2, .int .u8 c3, .int .u8 c4, .int .u8 c5, .int .u8 c6, .int .u8 c7] : List Value).toArray 38)).heap.size = w.heap.size + 1 := by simp
  have s2 : ((w.alloc (.cells ([.int .u8 c0, .int .u8 c1, .int .u8 c2, .int .u8 c3, .int .u8 c4, .int .u8 c5, .int .u8 c6, .int .u8 c7] : List Value).toArray 38)).alloc (.cells (nmK.flat [(0, [c0, c1, c2, c3, c4, c5, c6, c7])]).toArray 75)).heap.size = w.heap.size + 2 := by simp
  have r2 := heap_alloc_new (w.alloc (.cells ([.int .u8 c0, .int .u8 c1, .int .u8 c2, .int .u8 c3, .int .u8 c4, .int .u8 c5, .int .u8 c6, .int .u8 c7] : List Value).toArray 38)) (.cells (nmK.flat [(0, [c0, c1, c2, c3, c4, c5, c6, c7])]).toArray 75)
  have r3 := heap_alloc_new ((w.alloc (.cells ([.int .u8 c0, .int .u8 c1, .int .u8 c2, .int .u8 c3, .int .u8 c4, .int .u8 c5, .int .u8 c6, .int .u8 c7] : List Value).toArray 38)).alloc (.cells (nmK.flat [(0, [c0, c1, c2, c3, c4, c5, c6, c7])]).toArray 75)) (.cells ([.slice (some ⟨w.heap.size + 1, 0, none⟩) 1 1, .int .u64 1, .int .u64 sd] : List Value).toArray 78)
  rw [s1] at r2; rw [s2] at r3
  have r2' := bl_row ((Below.refl _ ((w.alloc (.cells ([.int .u8 c0, .int .u8 c1, .int .u8 c2, .int .u8 c3, .int .u8 c4, .int .u8 c5, .int .u8 c6, .int .u8 c7] : List Value).toArray 38)).alloc (.cells (nmK.flat [(0, [c0, c1, c2, c3, c4, c5, c6, c7])]).toArray 75))).alloc (Nat.le_refl _) (.cells ([.slice (some ⟨w.heap.size + 1, 0, none⟩) 1 1, .int .u64 1, .int .u64 sd] : List Value).toArray 78)) (by rw [s2]; omega) r2
  have hok : ∀ x ∈ [((0 : Int), [c0, c1, c2, c3, c4, c5, c6, c7])], nmK.ok x := fun x hx => by rw [List.mem_singleton.1 hx]; exact ⟨⟨Int.le_refl 0, (by decide : (0 : Int) < 18446744073709551616)⟩, HC.out⟩
  have hown : (((w.alloc (.cells ([.int .u8 c0, .int .u8 c1, .int .u8 c2, .int .u8 c3, .int .u8 c4, .int .u8 c5, .int .u8 c6, .int .u8 c7] : List Value).toArray 38)).alloc (.cells (nmK.flat [(0, [c0, c1, c2, c3, c4, c5, c6, c7])]).toArray 75)).alloc (.cells ([.slice (some ⟨w.heap.size + 1, 0, none⟩) 1 1, .int .u64 1, .int .u64 sd] : List Value).toArray 78)).ownsRow 0 75 9 (.slice (some ⟨w.heap.size + 1, 0, none⟩) 1 1) 1 (nmK.flat [(0, [c0, c1, c2, c3, c4, c5, c6, c7])]) :=
    ⟨rfl, .inr ⟨_, 1, (nmK.flat [(0, [c0, c1, c2, c3, c4, c5, c6, c7])]).toArray, rfl, Nat.zero_le _, r2', Nat.le_refl _, by unfold maxLen; omega, rfl, rfl⟩⟩
  exact ⟨w.heap.size + 2, [w.heap.size + 2, w.heap.size + 1], rfl, h3, ⟨⟨_, _, r3, hown, fun x hx => by injection hx with hx; subst hx; simp⟩, by simp, fun g hg => by simp at hg ⊢; omega, hok, by omega, HS.out, by simp⟩, fun g hg => by simp at hg; omega⟩
set_option maxRecDepth 100000 in
set_option maxHeartbeats 8000000 in
theorem has_any (w : World) (p : Nat) (B : List Nat) (L : List Nm) (nx sd : Int) (h : OwnAt 68 65 w p B L nx sd) (c : List Int) (hc : cidOk c) :
    Makes Try.prog 28 #[.pointer (some ⟨p, 0, none⟩), cidV c] w (.bool (L.any fun x => x.2 == c)) := by
  have HC := Lib.hid hc
  obtain ⟨a, cp, hrow, hown, hblk⟩ := h.ex
  have HRK := Lib.hid (RK.At.of_own hown h.ok)
  have HROW := Lib.hid hrow
  have hL := h.len
  clear hrow hown hblk h
  obtain ⟨n, hn⟩ : ∃ n, L.length = n := ⟨_, rfl⟩
  have HN := Lib.hid hn
  rw [hn] at HRK HROW hL
  clear hn
  have HCL : Hid ((c.map (Value.int .u8)).length = 8) := Lib.hid (by simp [HC.out.1])
  obtain ⟨R, hR⟩ : ∃ R, c.map (Value.int .u8) = R := ⟨_, rfl⟩
  have HRE := Lib.hid hR
  have HRO : Hid (∀ v ∈ R, v.oneCell' = true) := Lib.hid (by rw [← HRE.out]; exact cdK.one c HC.out)
  simp only [cidV]
  rw [hR] at HCL ⊢
  clear hR hc
  go_enter Try.func28, Try.ntmps28
  have HB := Lib.hid (Below.refl w.heap.size w)
  go_upto_region 1 with fail
  change Code.wp _ _ _ _ (w.alloc (.cells R.toArray 38))
  have hb := (Below.refl w.heap.size w).alloc (Nat.le_refl _) (.cells R.toArray 38)
  replace HROW := Lib.hid (bl_row hb (lt_of_block HROW.out) HROW.out)
  replace HRK := Lib.hid (HRK.out.below hb)
  replace HB := Lib.hid (bl_next HB.out HB.out.size hb)
  have HCB := Lib.hid (heap_alloc_new w (.cells R.toArray 38))
  clear hb
  generalize w.alloc (.cells R.toArray 38) = w1 at HROW HRK HB HCB ⊢
  obtain ⟨gc, hg⟩ : ∃ g, w.heap.size = g := ⟨_, rfl⟩
  rw [hg] at HCB ⊢
  clear hg
  have c0 := row_cell HROW.out 0 _ rfl
  go_wp2_with fail
  clear c0 HROW
  go_loopw [12] (fun s wr => ∃ (i : Nat), s = .int .i64 i ∧ i ≤ n ∧ Hid (Below w.heap.size w wr) ∧ Hid (Below w1.heap.size w1 wr) ∧ Hid ((L.take i).any (fun x => x.2 == c) = false)) (fun s _ => n - (intOf s).toNat)
  case atStart => exact ⟨0, rfl, by omega, HB, Lib.hid (Below.refl _ _), Lib.hid rfl⟩
  case round =>
    obtain ⟨i, rfl, hi, HB2, HB3, HA⟩ := hrel
    by_cases hlt : i < n
    · skip
      obtain ⟨ab, ao, x, rfl, _, hx, hok, hrg⟩ := (HRK.out.below HB3.out).at hlt
      have HX := Lib.hid hx; have HOK := Lib.hid hok; have HRG := Lib.hid hrg; have HCB2 := Lib.hid (bl_row HB3.out (lt_of_block HCB.out) HCB.out)
      clear hx hok hrg
      have hl9 := nmK.len x HOK.out; have ho9 := nmK.one x HOK.out
      obtain ⟨RX, hRX⟩ : ∃ R, nmK.enc x = R := ⟨_, rfl⟩
      have HRX := Lib.hid hRX
      rw [hRX] at hl9 ho9
      rw [hRX] at HRG
      have HL9 : Hid (RX.length = 9) := Lib.hid hl9; have HO9 := Lib.hid ho9
      clear hl9 ho9 hRX
      go_upto_region 4 with (first | (refine wpList_load_mid rfl 65 _ rfl ab (ao + i * 9) rfl RX _ (HRG.out) Try.underlying65 rfl (by rw [HL9.out]; rfl) ?_) | (refine wpList_store_row rfl 65 _ _ rfl wr.heap.size rfl RX [.int .u64 0, .int .u8 0, .int .u8 0, .int .u8 0, .int .u8 0, .int .u8 0, .int .u8 0, .int .u8 0, .int .u8 0] rfl 65 (heap_alloc_new _ _) (by rw [HL9.out]; rfl) (by rw [HL9.out]; rfl) HO9.out ?_; intro w5 hr5 hg5) | fail)
      have hb5 := below_boxed hg5
      clear hg5
      have hrg5 := rng_row hr5 1 _ (nm_tail HRX.out)
      have hcl : (x.2.map (Value.int .u8)).length = 8 := by simp [HOK.out.2.1]
      obtain ⟨CX, hCX⟩ : ∃ C, x.2.map (Value.int .u8) = C := ⟨_, rfl⟩
      have HCX := Lib.hid hCX
      rw [hCX] at hrg5 hcl
      have HCXL := Lib.hid hcl; have HRG5 := Lib.hid hrg5
      clear hcl hrg5 hCX
      have HB5 := Lib.hid (bl_next HB2.out HB2.out.size hb5); have HC5 := Lib.hid (bl_next HB3.out HB3.out.size hb5); have HCB5 := Lib.hid (bl_row hb5 (lt_of_block HCB2.out) HCB2.out)
      clear hb5 hr5 HB2 HB3 HCB2
      obtain ⟨g5, hg5⟩ : ∃ g, wr.heap.size = g := ⟨_, rfl⟩
      rw [hg5] at HRG5 ⊢
      clear hg5
      try simp only [Act.put]
      cases hq : (x.2 == c)
      · skip
        have HQ := Lib.hid hq
        clear hq
        go_wp2_with (first | (refine wpList_load_mid rfl 38 _ rfl g5 (1) rfl CX _ (HRG5.out) Try.underlying38 rfl (by rw [HCXL.out]; rfl) ?_) | (refine wpList_load_mid rfl 38 _ rfl gc (0) rfl R _ (rngL HCB5.out) Try.underlying38 rfl (by rw [HCL.out]; rfl) ?_) | (refine wpList_eql_cid rfl _ _ _ rfl x.2 c (by rw [HCX.out]; rfl) (by rw [HRE.out]; rfl) HOK.out.2 HC.out ?_; rw [HQ.out]) | fail)
        go_roundw
        case rel => exact ⟨i + 1, by go_num, by omega, HB5, HC5, Lib.hid (any_step HX.out HA.out HQ.out)⟩
        case measure => simp [intOf]; omega
      · skip
        have HQ := Lib.hid hq
        clear hq
        go_wp2_with (first | (refine wpList_load_mid rfl 38 _ rfl g5 (1) rfl CX _ (HRG5.out) Try.underlying38 rfl (by rw [HCXL.out]; rfl) ?_) | (refine wpList_load_mid rfl 38 _ rfl gc (0) rfl R _ (rngL HCB5.out) Try.underlying38 rfl (by rw [HCL.out]; rfl) ?_) | (refine wpList_eql_cid rfl _ _ _ rfl x.2 c (by rw [HCX.out]; rfl) (by rw [HRE.out]; rfl) HOK.out.2 HC.out ?_; rw [HQ.out]) | fail)
        go_ret
        refine ⟨?_, HB5.out⟩
        have : (L.any fun x => x.2 == c) = true := List.any_eq_true.2 ⟨x, List.mem_of_getElem? HX.out, HQ.out⟩
        rw [this]; rfl
    · obtain rfl : i = n := by omega
      have ha := HA.out
      rw [List.take_of_length_le (by rw [HN.out]; exact Nat.le_refl _)] at ha
      have HA2 := Lib.hid ha
      clear ha
      go_wp2_with fail
      go_ret
      exact ⟨by rw [HA2.out]; rfl, HB2.out⟩
end Go.Proofs.Ytjdcmhclamjcjaa
namespace Go.Proofs.Ytjdcmhclamjcjaa
open Go.RowKit
set_option linter.unusedVariables false
set_option linter.unusedSimpArgs false

set_option maxRecDepth 100000 in
set_option maxHeartbeats 8000000 in
theorem all_any (w : World) (p : Nat) (B : List Nat) (L : List Nm) (nx sd : Int) (h : OwnAt 68 65 w p B L nx sd) :
    Calls Try.prog 29 #[.pointer (some ⟨p, 0, none⟩)] w fun e w' => ∃ a n c, e = .returned (.slice a n c) ∧ n ≤ c ∧ c ≤ 9223372036854775807 ∧ cdK.At w' a n (L.map Prod.snd) ∧ Below w.heap.size w w' := by
  obtain ⟨a, cp, hrow, hown, hblk⟩ := h.ex
  have HRK := Lib.hid (RK.At.of_own hown h.ok)
  have HROW := Lib.hid hrow
  have hL := h.len
  clear hrow hown hblk h
  obtain ⟨n, hn⟩ : ∃ n, L.length = n := ⟨_, rfl⟩
  have HN := Lib.hid hn
  rw [hn] at HRK HROW hL
  clear hn
  go_enter Try.func29, Try.ntmps29
  have c0 := row_cell HROW.out 0 _ rfl
  go_wp2_with fail
  clear c0 HROW
  have HO0 : Hid (w.ownsRow w.heap.size 38 8 (.slice none 0 0) 0 (cdK.flat (([] : List Nm).map Prod.snd))) := Lib.hid ⟨rfl, .inl ⟨rfl, rfl⟩⟩
  go_loopw [3, 11] (fun s3 s wr => ∃ (i cq : Nat) (b : Option Addr), s3 = .slice b i cq ∧ s = .int .i64 i ∧ i ≤ n ∧ Hid (Below w.heap.size w wr) ∧ Hid (wr.ownsRow w.heap.size 38 8 (.slice b i cq) i (cdK.flat ((L.take i).map Prod.snd)))) (fun _ s _ => n - (intOf s).toNat)
  case atStart => exact ⟨0, 0, none, rfl, rfl, by omega, Lib.hid (Below.refl _ _), HO0⟩
  case round =>
    clear HO0
    obtain ⟨i, cq, b, rfl, rfl, hi, HB2, HO⟩ := hrel
    have HB3 := HB2
    by_cases hlt : i < n
    · skip
      obtain ⟨ab, ao, x, rfl, _, hx, hok, hrg⟩ := (HRK.out.below HB3.out).at hlt
      have HX := Lib.hid hx; have HOK := Lib.hid hok; have HRG := Lib.hid hrg
      clear hx hok hrg
      have hl9 := nmK.len x HOK.out; have ho9 := nmK.one x HOK.out
      obtain ⟨RX, hRX⟩ : ∃ R, nmK.enc x = R := ⟨_, rfl⟩
      have HRX := Lib.hid hRX
      rw [hRX] at hl9 ho9
      rw [hRX] at HRG
      have HL9 : Hid (RX.length = 9) := Lib.hid hl9; have HO9 := Lib.hid ho9
      clear hl9 ho9 hRX
      go_upto_region 5 with (first | (refine wpList_load_mid rfl 65 _ rfl ab (ao + i * 9) rfl RX _ (HRG.out) Try.underlying65 rfl (by rw [HL9.out]; rfl) ?_) | (refine wpList_store_row rfl 65 _ _ rfl wr.heap.size rfl RX [.int .u64 0, .int .u8 0, .int .u8 0, .int .u8 0, .int .u8 0, .int .u8 0, .int .u8 0, .int .u8 0, .int .u8 0] rfl 65 (heap_alloc_new _ _) (by rw [HL9.out]; rfl) (by rw [HL9.out]; rfl) HO9.out ?_; intro w5 hr5 hg5) | fail)
      have hb5 := below_boxed hg5
      clear hg5
      have hrg5 := rng_row hr5 1 _ (nm_tail HRX.out)
      have hcl : (x.2.map (Value.int .u8)).length = 8 := by simp [HOK.out.2.1]
      obtain ⟨CX, hCX⟩ : ∃ C, x.2.map (Value.int .u8) = C := ⟨_, rfl⟩
      have HCX := Lib.hid hCX
      rw [hCX] at hrg5 hcl
      have HCXL := Lib.hid hcl; have HRG5 := Lib.hid hrg5
      clear hcl hrg5 hCX
      have HB5 := Lib.hid (bl_next HB2.out HB2.out.size hb5)
      have HO5 := Lib.hid (own_below HO.out hb5)
      clear hb5 hr5 HB2 HO
      obtain ⟨g5, hg5⟩ : ∃ g, wr.heap.size = g := ⟨_, rfl⟩
      rw [hg5] at HRG5 ⊢
      clear hg5
      try simp only [Act.put]
      go_wp2_with (first | (refine wpList_load_mid rfl 38 _ rfl g5 (1) rfl CX _ (HRG5.out) Try.underlying38 rfl (by rw [HCXL.out]; rfl) ?_) | (refine wpList_build_rk cdT rfl _ rfl x.2 HOK.out.2 (by show Value.agg _ = _; rw [← HCX.out]; rfl) ?_) | (at_builtin; refine wpList_append_rk cdT rfl _ _ rfl w.heap.size i (.slice b i cq) ((L.take i).map Prod.snd) rfl (own_below HO5.out ((Below.refl _ _).alloc (Nat.le_refl _) _)) _ 1 1 [x.2] rfl (RK.At.of_row (K := cdK) (t := 38) (l := [x.2]) (heap_alloc_new _ _) (fun y hy => by rw [List.mem_singleton.1 hy]; exact HOK.out.2)) (by omega) (HB5.out.alloc HB5.out.size _).size ?_; intro v' w' hown hgrow _; obtain ⟨b2, c2, rfl, _⟩ := sl_own hown; have HO6 := Lib.hid hown; have HB6 := Lib.hid ((HB5.out.alloc HB5.out.size _).grown hgrow (HB5.out.alloc HB5.out.size _).size (own_base HO5.out)); clear hown hgrow) | fail)
      go_roundw
      case rel => exact ⟨i + 1, c2, b2, rfl, by go_num, by omega, HB6, Lib.hid (by rw [take_snd' HX.out, List.map_append]; exact HO6.out)⟩
      case measure => simp [intOf]; omega
    · obtain rfl : i = n := by omega
      have ha := HO.out
      rw [List.take_of_length_le (by rw [HN.out]; exact Nat.le_refl _)] at ha
      have HA2 := Lib.hid ha
      clear ha
      have HKO := Lib.hid HRK.out.2.1
      go_wp2_with fail
      go_ret
      obtain ⟨_, _, e0, h1, h2⟩ := sl_own HA2.out
      injection e0 with e0 e1 e2; subst e2
      exact ⟨_, _, _, rfl, h1, h2, RK.At.of_own HA2.out (fun y hy => by obtain ⟨z, hz, rfl⟩ := List.mem_map.1 hy; exact (HKO.out z hz).2), HB2.out⟩
set_option maxRecDepth 100000 in
set_option maxHeartbeats 8000000 in
theorem names_any (w : World) (a : Option Addr) (n cp : Nat) (L : List Nm) (h : nmK.At w a n L) (hL : n ≤ 1000) :
    Calls Try.prog 48 #[.slice a n cp] w fun e w' => ∃ a n c, e = .returned (.slice a n c) ∧ n ≤ c ∧ c ≤ 9223372036854775807 ∧ cdK.At w' a n (L.map Prod.snd) ∧ Below w.heap.size w w' := by
  have HRK := Lib.hid h
  have HN : Hid (L.length = n) := Lib.hid h.1.symm
  clear h
  go_enter Try.func48, Try.ntmps48
  go_wp2_with fail
  have HO0 : Hid (w.ownsRow w.heap.size 38 8 (.slice none 0 0) 0 (cdK.flat (([] : List Nm).map Prod.snd))) := Lib.hid ⟨rfl, .inl ⟨rfl, rfl⟩⟩
  go_loopw [3, 4] (fun s3 s wr => ∃ (i cq : Nat) (b : Option Addr), s3 = .slice b i cq ∧ s = .int .i64 i ∧ i ≤ n ∧ Hid (Below w.heap.size w wr) ∧ Hid (wr.ownsRow w.heap.size 38 8 (.slice b i cq) i (cdK.flat ((L.take i).map Prod.snd)))) (fun _ s _ => n - (intOf s).toNat)
  case atStart => exact ⟨0, 0, none, rfl, rfl, by omega, Lib.hid (Below.refl _ _), HO0⟩
  case round =>
    clear HO0
    obtain ⟨i, cq, b, rfl, rfl, hi, HB2, HO⟩ := hrel
    by_cases hlt : i < n
    · skip
      obtain ⟨ab, ao, x, rfl, _, hx, hok, hrg⟩ := (HRK.out.below HB2.out).at hlt
      have HX := Lib.hid hx; have HOK := Lib.hid hok
      have hrg5 : wr.rangeAt ab (ao + i * 9 + 1) (x.2.map (Value.int .u8)) := fun j v hv => by rw [Nat.add_assoc]; exact hrg (1 + j) v (nm_tail rfl j v hv)
      have hcl : (x.2.map (Value.int .u8)).length = 8 := by simp [HOK.out.2.1]
      obtain ⟨CX, hCX⟩ : ∃ C, x.2.map (Value.int .u8) = C := ⟨_, rfl⟩
      have HCX := Lib.hid hCX
      rw [hCX] at hrg5 hcl
      have HCXL := Lib.hid hcl; have HRG5 := Lib.hid hrg5
      clear hcl hrg5 hCX hx hok hrg
      go_wp2_with (first | (refine wpList_load_mid rfl 38 _ rfl ab (ao + i * 9 + 1) rfl CX _ (HRG5.out) Try.underlying38 rfl (by rw [HCXL.out]; rfl) ?_) | (refine wpList_build_rk cdT rfl _ rfl x.2 HOK.out.2 (by show Value.agg _ = _; rw [← HCX.out]; rfl) ?_) | (at_builtin; refine wpList_append_rk cdT rfl _ _ rfl w.heap.size i (.slice b i cq) ((L.take i).map Prod.snd) rfl (own_below HO.out ((Below.refl _ _).alloc (Nat.le_refl _) _)) _ 1 1 [x.2] rfl (RK.At.of_row (K := cdK) (t := 38) (l := [x.2]) (heap_alloc_new _ _) (fun y hy => by rw [List.mem_singleton.1 hy]; exact HOK.out.2)) (by omega) (HB2.out.alloc HB2.out.size _).size ?_; intro v' w' hown hgrow _; obtain ⟨b2, c2, rfl, _⟩ := sl_own hown; have HO6 := Lib.hid hown; have HB6 := Lib.hid ((HB2.out.alloc HB2.out.size _).grown hgrow (HB2.out.alloc HB2.out.size _).size (own_base HO.out)); clear hown hgrow) | fail)
      go_roundw
      case rel => exact ⟨i + 1, c2, b2, rfl, by go_num, by omega, HB6, Lib.hid (by rw [take_snd' HX.out, List.map_append]; exact HO6.out)⟩
      case measure => simp [intOf]; omega
    · obtain rfl : i = n := by omega
      have ha := HO.out
      rw [List.take_of_length_le (by rw [HN.out]; exact Nat.le_refl _)] at ha
      have HA2 := Lib.hid ha
      clear ha
      have HKO := Lib.hid HRK.out.2.1
      go_wp2_with fail
      go_ret
      obtain ⟨_, _, e0, h1, h2⟩ := sl_own HA2.out
      injection e0 with e0 e1 e2; subst e2
      exact ⟨_, _, _, rfl, h1, h2, RK.At.of_own HA2.out (fun y hy => by obtain ⟨z, hz, rfl⟩ := List.mem_map.1 hy; exact (HKO.out z hz).2), HB2.out⟩
set_option maxRecDepth 100000 in
set_option maxHeartbeats 8000000 in
theorem same20_any (w : World) (a b : Option Addr) (n m cp cq : Nat) (L : List (List Int)) (h : cdK.At w a n L) (h2 : cdK.At w b m L) (hL : n ≤ 1000) :
    Makes Try.prog 47 #[.slice a n cp, .slice b m cq] w (.bool true) := by
  obtain rfl : n = m := h.1.trans h2.1.symm
  have HA := Lib.hid h; have HBB := Lib.hid h2
  clear h h2
  go_enter Try.func47, Try.ntmps47
  go_wp2_with fail
  go_loopw [5] (fun s wr => ∃ (i : Nat), s = .int .i64 i ∧ i ≤ n ∧ Hid (Below w.heap.size w wr)) (fun s _ => n - (intOf s).toNat)
  case atStart => exact ⟨0, rfl, by omega, Lib.hid (Below.refl _ _)⟩
  case round =>
    obtain ⟨i, rfl, hi, HB2⟩ := hrel
    by_cases hlt : i < n
    · skip
      obtain ⟨ab, ao, x, rfl, _, hx, hok, hrg⟩ := (HA.out.below HB2.out).at hlt
      obtain ⟨bb, bo, y, rfl, _, hy, _, hrh⟩ := (HBB.out.below HB2.out).at hlt
      obtain rfl : x = y := Option.some.inj (hx.symm.trans hy)
      clear hx hy
      have HOK := Lib.hid hok
      have hcl : (x.map (Value.int .u8)).length = 8 := by simp [hok.1]
      replace hrg : wr.rangeAt ab (ao + i * 8) (x.map (Value.int .u8)) := hrg; replace hrh : wr.rangeAt bb (bo + i * 8) (x.map (Value.int .u8)) := hrh
      obtain ⟨CX, hCX⟩ : ∃ C, x.map (Value.int .u8) = C := ⟨_, rfl⟩
      have HCX := Lib.hid hCX
      rw [hCX] at hrg hrh hcl
      clear hok hCX
      go_upto_region 6 with fail
      refine wp_plan (.t 0 (.t 1 (.t 2 (.t 3 (.t 4 (.t 5 (.t 6 (.t 7 (.t 8 .done))))))))) (fun y => y.rangeAt ab (ao + i * 8) CX ∧ y.rangeAt bb (bo + i * 8) CX) (by kernel_rfl) (by kernel_rfl) (by kernel_rfl) (fun c a d v w h => by cases d <;> exact h) ⟨hrg, hrh⟩ ?_
      haveI hne : Nonempty (In (fun y => y.rangeAt ab (ao + i * 8) CX ∧ y.rangeAt bb (bo + i * 8) CX)) := ⟨⟨wr, ⟨hrg, hrh⟩⟩⟩
      repeat (first | (refine plan_t_load (by rfl) (by kernel_rfl) 38 _ rfl ab (ao + i * 8) rfl CX _ (fun y hy => hy.1) Try.underlying38 rfl (by rw [hcl]; rfl) ?_; simp only [Act.put, List.setIfInBounds_toArray, List.set_cons_succ, List.set_cons_zero]) | (refine plan_t_load (by rfl) (by kernel_rfl) 38 _ rfl bb (bo + i * 8) rfl CX _ (fun y hy => hy.2) Try.underlying38 rfl (by rw [hcl]; rfl) ?_; simp only [Act.put, List.setIfInBounds_toArray, List.set_cons_succ, List.set_cons_zero]) | (refine plan_t_neq_cid (by rfl) (by kernel_rfl) _ _ _ rfl x x (by rw [HCX.out]; rfl) (by rw [HCX.out]; rfl) HOK.out HOK.out ?_; simp only [Act.put, List.setIfInBounds_toArray, List.set_cons_succ, List.set_cons_zero]; simp only [beq_self_eq_true, Bool.not_true]) | (refine plan_t (by rfl) ?_; (first | go_big_quiet_skip | (go_big_quiet_want; go_big_quiet_op; go_big_quiet_on)); refine wpQuiet_nil ?_))
      clear hne
      show Exit.then _ _ _ _ _
      have hdr := bl_next HB2.out HB2.out.size (Below.refl wr.heap.size wr).drew
      have HB4 := Lib.hid hdr
      clear hdr hrg hrh
      generalize wr.drew = w4 at HB4 ⊢
      go_wp2_with fail
      go_roundw
      case rel => exact ⟨i + 1, by go_num, by omega, HB4⟩
      case measure => simp [intOf]; omega
    · obtain rfl : i = n := by omega
      go_wp2_with fail
      go_ret
      exact ⟨rfl, HB2.out⟩
end Go.Proofs.Ytjdcmhclamjcjaa
namespace Go.Proofs.Ytjdcmhclamjcjaa
open Go.RowKit
set_option linter.unusedVariables false
set_option linter.unusedSimpArgs false

section
variable {P : Program} {ops : Array Oper} {Q : Exit → Act → World → Prop} {md : Region.Mode}
def barQ (Q : Exit → Act → World → Prop) (R : Act → World → Prop) : Exit → Act → World → Prop
  | .normal, a, w => R a w
  | e, a, w => Q e a w
theorem operWp_barQ {R : Act → World → Prop} {o : Oper} {a : Act} {w : World} {K : Act → World → Prop} (h : o.wp P a w K (barQ Q R)) : o.wp P a w K Q := by
  unfold Oper.wp at *
  generalize (execOp a.eval o).run P w = r at *
  cases r with
  | ok n w' =>
    cases n <;> simp only [Oper.upon] at h ⊢ <;>
      first
        | exact h
        | exact Calls.mono h (fun e w'' he => by cases e <;> exact he)
  | halt x w' => cases x <;> simp only [Oper.upon] at h ⊢ <;> exact h
theorem wpOp_barQ {R : Act → World → Prop} {i : Nat} {a : Act} {w : World} {K : Act → World → Prop} (h : wpOp P ops (barQ Q R) i K a w) : wpOp P ops Q i K a w := by
  unfold wpOp at *
  split
  · simpa [*] using h
  · rename_i o ho
    simp only [ho] at h
    split
    · rename_i hw; simp only [hw, if_true] at h; exact h.imp operWp_barQ id
    · rename_i hw; simp only [hw] at h; exact h
def wpAnyB (P : Program) (md : Region.Mode) (ops : Array Oper) (Q : Exit → Act → World → Prop) (L : Array Bool) (R : Act → World → Prop) : Nat → Array Bool → (World → Prop) → Act → World → Prop
  | 0, listed, _, a, w => listed = L ∧ R a w
  | fuel + 1, listed, S, a, w => Region.ready md ops listed ≠ [] ∧
    ∀ i ∈ Region.ready md ops listed, wpOp P ops Q i (fun a' w' => ∃ S' : World → Prop, (∀ x, S' x → S x) ∧ S' w' ∧ wpAnyB P md ops Q L R fuel (listed.setIfInBounds i true) S' a' w') a w
theorem wpAny_of_B {L : Array Bool} {R : Act → World → Prop} {r : Nat} (hR : ∀ a w, R a w → wpAny P md ops Q r L a w) :
    ∀ (fuel : Nat) (listed : Array Bool) (S : World → Prop) (a : Act) (w : World), wpAnyB P md ops Q L R fuel listed S a w → wpAny P md ops Q (fuel + r) listed a w
  | 0, _, _, _, _, h => by rw [h.1, Nat.zero_add]; exact hR _ _ h.2
  | fuel + 1, listed, S, a, w, h => by
    rw [show fuel + 1 + r = (fuel + r) + 1 by omega]
    exact ⟨fun h0 => absurd h0 h.1, fun i hi => wpOp_mono (fun a' w' ⟨S', _, _, h'⟩ => wpAny_of_B hR fuel _ S' a' w' h') (h.2 i hi)⟩
/-- all that stands from m on waits for each that stands ahead. -/
def barred (md : Region.Mode) (ops : Array Oper) (m : Nat) : Bool :=
  (List.range ops.size).all fun j => decide (j < m) || (List.range m).all fun i => ((ops[j]?).map fun o => o.after.any fun e => Region.binds md e && e.on == i).getD true
def firsts (m n : Nat) : Array Bool := (List.replicate m true ++ List.replicate (n - m) false).toArray
theorem barred_spec {m : Nat} (h : barred md ops m = true) {j : Nat} {o : Oper} (hj : ops[j]? = some o) (hm : m ≤ j) {i : Nat} (hi : i < m) : ∃ e ∈ o.after, Region.binds md e = true ∧ e.on = i := by
  have hlt : j < ops.size := (Array.getElem?_eq_some_iff.1 hj).1
  have h1 := List.all_eq_true.1 h j (List.mem_range.2 hlt)
  rw [Bool.or_eq_true] at h1
  rcases h1 with h1 | h1
  · have := of_decide_eq_true h1; omega
  · have h2 := List.all_eq_true.1 h1 i (List.mem_range.2 hi)
    rw [hj] at h2
    simp only [Option.map_some, Option.getD_some] at h2
    rw [Array.any_eq_true] at h2
    obtain ⟨x, hx, hb⟩ := h2
    rw [Bool.and_eq_true] at hb
    exact ⟨o.after[x], Array.getElem_mem hx, hb.1, by simpa using hb.2⟩
theorem wpAnyB_first {m : Nat} {R : Act → World → Prop} (hbar : barred md ops m = true) {i : Nat} {oi : Oper} {v : Value} (him : i < m) (hi : ops[i]? = some oi) (hsel : ∀ (j : Nat) (o : Oper) cs b, ops[j]? = some o → o.op ≠ .select cs b)
    (hQ : ∀ c a w, Q (.panic c) (a.put oi.dst v) w → Q (.panic c) a w) :
    ∀ (fuel : Nat) (listed : Array Bool) (S : World → Prop) (a : Act) (w : World),
      (∀ j oj, ops[j]? = some oj → j ≠ i → listed.getD j true = false → (∀ e ∈ oj.after, Region.binds md e = true → e.on ≠ i) → oi.apart ops oj = true) →
      i ∈ Region.ready md ops listed → YieldsIf P ops S oi v a → S w →
      wpAnyB P md ops Q (firsts m ops.size) R fuel (listed.setIfInBounds i true) S (a.put oi.dst v) w → wpAnyB P md ops Q (firsts m ops.size) R (fuel + 1) listed S a w := by
  intro fuel
  induction fuel with
  | zero =>
    intro listed S a w _ hr hy hS H
    refine ⟨fun h => (by rw [h] at hr; cases hr), fun j hj => ?_⟩
    by_cases hji : j = i
    · subst hji; exact hy.wpOp hi hS ⟨S, fun _ h => h, hS, H⟩
    · have h1 := (mem_ready.1 (ready_mono hj hji)).1
      rw [H.1] at h1
      obtain ⟨hjun, oj, hoj, hall⟩ := mem_ready.1 hj
      have hjm : m ≤ j := by
        rcases Nat.lt_or_ge j m with h2 | h2
        · exfalso
          have hsz : j < ops.size := (Array.getElem?_eq_some_iff.1 hoj).1
          have : (firsts m ops.size).getD j true = true := by
            unfold firsts
            simp [Array.getD_eq_getD_getElem?, List.getElem?_append, h2]
          rw [this] at h1; cases h1
        · exact h2
      obtain ⟨e, he, hb, heq⟩ := barred_spec hbar hoj hjm him
      have h3 := hall e he hb
      have h0 := (mem_ready.1 hr).1
      rw [heq] at h3
      rcases Nat.lt_or_ge i listed.size with h' | h'
      · simp [h'] at h0 h3; rw [h0] at h3; cases h3
      · simp [Array.getElem?_eq_none h'] at h3
  | succ fuel ih =>
    intro listed S a w hfree hr hy hS H
    refine ⟨fun h => (by rw [h] at hr; cases hr), fun j hj => ?_⟩
    by_cases hji : j = i
    · subst hji; exact hy.wpOp hi hS ⟨S, fun _ h => h, hS, H⟩
    · have h1 := H.2 j (ready_mono hj hji)
      obtain ⟨hjun, oj, hoj, hall⟩ := mem_ready.1 hj
      have hnot : ∀ e ∈ oj.after, Region.binds md e = true → e.on ≠ i := fun e he hb heq => by
        have h1 := hall e he hb
        have h0 := (mem_ready.1 hr).1
        rw [heq] at h1
        rcases Nat.lt_or_ge i listed.size with h' | h'
        · simp [h'] at h0 h1; rw [h0] at h1; cases h1
        · simp [Array.getElem?_eq_none h'] at h1
      have h2 := wpOp_putIf hoj (hfree j oj hoj hji hjun hnot) (fun cs b => hsel i oi cs b hi) (fun cs b => hsel j oj cs b hoj) hQ hy h1
      have hfree' : ∀ k ok, ops[k]? = some ok → k ≠ i → (listed.setIfInBounds j true).getD k true = false →
          (∀ e ∈ ok.after, Region.binds md e = true → e.on ≠ i) → oi.apart ops ok = true := fun k ok hk hki hun hno => by
        refine hfree k ok hk hki ?_ hno
        by_cases hjk : j = k
        · subst hjk; exact hjun
        · rw [getD_set_ne true hjk] at hun; exact hun
      refine wpOp_mono (fun a' w' h3 => ?_) h2
      obtain ⟨h4, S', hsub, hS', h5⟩ := h3
      refine ⟨S', hsub, hS', ih (listed.setIfInBounds j true) S' a' w' hfree' (ready_mono hr (Ne.symm hji)) (YieldsIf.less h4 hsub) hS' ?_⟩
      rw [Array.setIfInBounds_comm _ _ hji]
      exact h5
/-- a plan of the first m. -/
def Plan.okB (md : Region.Mode) (ops : Array Oper) (m : Nat) : Plan → Nat → Array Bool → Bool
  | .done, 0, l => l == firsts m ops.size
  | .done, _ + 1, _ => false
  | .t _ _, 0, _ => false
  | .t k p, n + 1, l => decide (k < m) && (Region.ready md ops l).contains k && Region.free md ops l k && ((ops[k]?).map isVal).getD false && p.okB md ops m n (l.setIfInBounds k true)
  | .u _ _, 0, _ => false
  | .u k p, n + 1, l => Region.ready md ops l == [k] && p.okB md ops m n (l.setIfInBounds k true)
  | .b _ _ _ _, 0, _ => false
  | .b k p j q, n + 1, l => Region.ready md ops l == [k, j] && p.okB md ops m n (l.setIfInBounds k true) && q.okB md ops m n (l.setIfInBounds j true)
theorem wpAnyB_of_plan {m : Nat} {R : Act → World → Prop} (hbar : barred md ops m = true) (hs : Region.noSelect ops = true) (hQ : ∀ c a d v w, Q (.panic c) (a.put d v) w → Q (.panic c) a w) :
    ∀ (p : Plan) (n : Nat) (l : Array Bool) (S : World → Prop) (a : Act) (w : World), p.okB md ops m n l = true → S w → p.wp P ops (barQ Q R) S a w → wpAnyB P md ops Q (firsts m ops.size) R n l S a w := by
  intro p
  induction p with
  | done =>
    intro n l S a w hok hS h
    cases n with
    | zero => exact ⟨by simpa [Plan.okB] using hok, h⟩
    | succ n => simp [Plan.okB] at hok
  | t k p ih =>
    intro n l S a w hok hS h
    cases n with
    | zero => simp [Plan.okB] at hok
    | succ n =>
      simp only [Plan.okB, Bool.and_eq_true, decide_eq_true_eq] at hok
      obtain ⟨⟨⟨⟨h0, h1⟩, h2⟩, h3⟩, h4⟩ := hok
      obtain ⟨o, ho, hq⟩ := h
      rw [ho] at h3
      obtain ⟨v, hy, hk⟩ := yieldsIf_of_quiet (by simpa using h3) hS hq
      exact wpAnyB_first hbar h0 ho (Region.noSelect_spec hs) (fun c a w => hQ c a _ _ w) n l S a w (Region.free_spec ho h2) (by simpa using h1) hy hS (ih n _ S _ w h4 hS hk)
  | u k p ih =>
    intro n l S a w hok hS h
    cases n with
    | zero => simp [Plan.okB] at hok
    | succ n =>
      simp only [Plan.okB, Bool.and_eq_true] at hok
      obtain ⟨h1, h4⟩ := hok
      have hr : Region.ready md ops l = [k] := by simpa using h1
      refine ⟨fun h0 => (by rw [hr] at h0; cases h0), fun i hi => ?_⟩
      rw [hr] at hi
      obtain rfl : i = k := by simpa using hi
      exact wpOp_mono (fun a' w' ⟨S', h5, h6, h7⟩ => ⟨S', h5, h6, ih n _ S' a' w' h4 h6 h7⟩) (wpOp_barQ h)
  | b k p j q ihp ihq =>
    intro n l S a w hok hS h
    cases n with
    | zero => simp [Plan.okB] at hok
    | succ n =>
      simp only [Plan.okB, Bool.and_eq_true] at hok
      obtain ⟨⟨h1, h4⟩, h4'⟩ := hok
      have hr : Region.ready md ops l = [k, j] := by simpa using h1
      refine ⟨fun h0 => (by rw [hr] at h0; cases h0), fun i hi => ?_⟩
      rw [hr] at hi
      rcases (by simpa using hi : i = k ∨ i = j) with rfl | rfl
      · exact wpOp_mono (fun a' w' ⟨S', h5, h6, h7⟩ => ⟨S', h5, h6, ihp n _ S' a' w' h4 h6 h7⟩) (wpOp_barQ h.1)
      · exact wpOp_mono (fun a' w' ⟨S', h5, h6, h7⟩ => ⟨S', h5, h6, ihq n _ S' a' w' h4' h6 h7⟩) (wpOp_barQ h.2)
/-- what stands behind the place: a plan of its own, with a class of its own. -/
def Second (P : Program) (l : List Oper) (m : Nat) (Q : Exit → Act → World → Prop) (p : Plan) (a : Act) (w : World) : Prop := ∃ S : World → Prop, S w ∧ p.wp P l.toArray Q S a w
/-- A REGION THAT DRAWS, BY TWO PLANS. -/
theorem wp_plan2 {id : Nat} {l : List Oper} {a : Act} {w : World} (m : Nat) (p q : Plan) (S : World → Prop) (hm : P.follows .mixedOrders = true) (hs : Region.noSelect l.toArray = true)
    (hok : (barred .any l.toArray m && p.okB .any l.toArray m m (Array.replicate l.length false) && q.ok .any l.toArray (l.length - m) (firsts m l.length) && decide (m ≤ l.length)) = true) (hQ : ∀ c a d v w, Q (.panic c) (a.put d v) w → Q (.panic c) a w) (hS : S w.drew)
    (h : p.wp P l.toArray (barQ Q (Second P l m Q q)) S a w.drew) : (Code.region id l.toArray true).wp P Q a w := by
  simp only [Bool.and_eq_true, decide_eq_true_eq] at hok
  obtain ⟨⟨⟨h1, h2⟩, h3⟩, h4⟩ := hok
  have hb := wpAnyB_of_plan (P := P) (R := Second P l m Q q) h1 hs hQ p m (Array.replicate l.length false) S a w.drew (by simpa using h2) hS h
  have ha := wpAny_of_B (r := l.length - m) (fun a' w' ⟨S', hS', hp⟩ => wpAny_of_G _ _ S' _ _ (by
    have := wpAnyG_of_plan (P := P) (md := .any) hs hQ q (l.length - m) (firsts m l.length) S' a' w' h3 hS' hp
    simpa using this)) m _ S a w.drew hb
  rw [show m + (l.length - m) = l.length by omega] at ha
  exact wp_region_any hm (by simpa using ha)
end
end Go.Proofs.Ytjdcmhclamjcjaa
namespace Go.Proofs.Ytjdcmhclamjcjaa
open Go.RowKit
open Go.Maps (Keyed)
set_option linter.unusedVariables false
set_option linter.unusedSimpArgs false

section
variable {P : Program} {k : TypeId}
/-- entries that are the function f. -/
structure HMes (P : Program) (k : TypeId) (es : Array MapEntry) (clock : Nat) (f : Value → Option Value) : Prop where
  keys : ∀ e ∈ es.toList, ∃ l, keyOf P k e.key = some l
  upto : ∀ e ∈ es.toList, f e.key = some e.val
  of : ∀ key v, f key = some v → ∃ e ∈ es.toList, e.key = key
  nd : (es.toList.map (·.key)).Nodup
  bn : (es.toList.map (·.born)).Nodup
  bc : ∀ e ∈ es.toList, e.born < clock
def HM (P : Program) (k : TypeId) (w : World) (b n : Nat) (f : Value → Option Value) : Prop := ∃ es clock, w.heap[b]? = some (.map es clock) ∧ es.size ≤ n ∧ HMes P k es clock f
noncomputable def updF (f : Value → Option Value) (key v : Value) : Value → Option Value := fun x => open Classical in if x = key then some v else f x
theorem updF_same (f : Value → Option Value) (key v : Value) : updF f key v key = some v := by simp [updF]
theorem updF_other (f : Value → Option Value) {key x : Value} (v : Value) (h : x ≠ key) : updF f key v x = f x := by simp [updF, h]
theorem HMes.find {es : Array MapEntry} {clock : Nat} {f : Value → Option Value} (h : HMes P k es clock f) (K : Keyed P k) (w : World) {key : Value} {kl : Lit} (hk : keyOf P k key = some kl) :
    ((Instr.findKey k key es.toList).run P w = .ok none w ∧ f key = none) ∨ ∃ j e, (Instr.findKey k key es.toList).run P w = .ok (some (j, e.val)) w ∧ es[j]? = some e ∧ e.key = key ∧ f key = some e.val := by
  rcases K.find w hk es.toList h.keys with ⟨h1, h2⟩ | ⟨j, e, h1, h2, h3⟩
  · refine .inl ⟨h1, ?_⟩
    cases hf : f key with
    | none => rfl
    | some v =>
      obtain ⟨e, he, hek⟩ := h.of key v hf
      exact absurd hek (h2 e he)
  · refine .inr ⟨j, e, h1, by simpa using h2, h3, ?_⟩
    rw [← h3]; exact h.upto e (List.mem_of_getElem? h2)
theorem HMes.push {es : Array MapEntry} {clock : Nat} {f : Value → Option Value} (h : HMes P k es clock f) {key : Value} {kl : Lit} (hk : keyOf P k key = some kl) (hf : f key = none) (v : Value) :
    HMes P k (es.push ⟨key, v, clock⟩) (clock + 1) (updF f key v) := by
  have hne : ∀ e ∈ es.toList, e.key ≠ key := fun e he e1 => by have := h.upto e he; rw [e1, hf] at this; cases this
  refine ⟨fun e he => ?_, fun e he => ?_, fun x u hx => ?_, ?_, ?_, fun e he => ?_⟩
  · simp only [Array.toList_push, List.mem_append, List.mem_singleton] at he
    rcases he with he | rfl
    · exact h.keys e he
    · exact ⟨_, hk⟩
  · simp only [Array.toList_push, List.mem_append, List.mem_singleton] at he
    rcases he with he | rfl
    · rw [updF_other f v (hne e he)]; exact h.upto e he
    · exact updF_same _ _ _
  · by_cases e : x = key
    · exact ⟨⟨key, v, clock⟩, by simp, e.symm⟩
    · rw [updF_other f v e] at hx
      obtain ⟨y, hy, hyk⟩ := h.of x u hx
      exact ⟨y, by simp only [Array.toList_push]; exact List.mem_append_left _ hy, hyk⟩
  · simp only [Array.toList_push, List.map_append, List.map_cons, List.map_nil]
    refine List.nodup_append.2 ⟨h.nd, by simp, fun a ha c hc e => ?_⟩
    obtain ⟨y, hy, rfl⟩ := List.mem_map.1 ha
    exact hne y hy (e.trans (List.mem_singleton.1 hc))
  · simp only [Array.toList_push, List.map_append, List.map_cons, List.map_nil]
    refine List.nodup_append.2 ⟨h.bn, by simp, fun a ha c hc e => ?_⟩
    obtain ⟨y, hy, rfl⟩ := List.mem_map.1 ha
    have := h.bc y hy
    have := List.mem_singleton.1 hc
    omega
  · simp only [Array.toList_push, List.mem_append, List.mem_singleton] at he
    rcases he with he | rfl
    · exact Nat.lt_succ_of_lt (h.bc e he)
    · exact Nat.lt_succ_self _
theorem modify_toList {es : Array MapEntry} {j : Nat} {e : MapEntry} (hj : es[j]? = some e) (g : MapEntry → MapEntry) : (es.modify j g).toList = es.toList.set j (g e) := by
  apply List.ext_getElem?
  intro i
  rw [Array.toList_modify, List.getElem?_modify, List.getElem?_set]
  have hl : j < es.toList.length := by have := (Array.getElem?_eq_some_iff.1 hj).1; simpa using this
  have hj2 : es.toList[j]? = some e := by simpa using hj
  by_cases hij : j = i
  · subst hij; have : j < es.size := by simpa using hl
    have hje := (Array.getElem?_eq_some_iff.1 hj).2
    simp [hj2, hl, this, hje]
  · simp [hij]
theorem HMes.modify {es : Array MapEntry} {clock : Nat} {f : Value → Option Value} (h : HMes P k es clock f) {key : Value} {j : Nat} {e : MapEntry} (hj : es[j]? = some e) (hek : e.key = key) (v : Value) :
    HMes P k (es.modify j (fun x => { x with key := key, val := v })) clock (updF f key v) := by
  have hl := modify_toList hj (fun x => { x with key := key, val := v })
  have hj2 : es.toList[j]? = some e := by simpa using hj
  have hjl : j < es.toList.length := (List.getElem?_eq_some_iff.1 hj2).1
  have hjs : j < es.size := by simpa using hjl
  have hje : es[j] = e := (Array.getElem?_eq_some_iff.1 hj).2
  have hmk : (es.toList.set j { e with key := key, val := v }).map (·.key) = es.toList.map (·.key) := by
    apply List.ext_getElem?
    intro i
    rw [List.getElem?_map, List.getElem?_set, List.getElem?_map]
    by_cases hij : j = i
    · subst hij; simp [hj2, hjl, hek, hjs, hje]
    · simp [hij]
  have hmb : (es.toList.set j { e with key := key, val := v }).map (·.born) = es.toList.map (·.born) := by
    apply List.ext_getElem?
    intro i
    rw [List.getElem?_map, List.getElem?_set, List.getElem?_map]
    by_cases hij : j = i
    · subst hij; simp [hj2, hjl, hjs, hje]
    · simp [hij]
  have who : ∀ x ∈ es.toList.set j { e with key := key, val := v }, x = { e with key := key, val := v } ∨ (x ∈ es.toList ∧ x.key ≠ key) := by
    intro x hx
    obtain ⟨i, hi, hix⟩ := List.getElem_of_mem hx
    rw [List.getElem_set] at hix
    split at hix
    · exact .inl hix.symm
    · rename_i hne
      have hi' : i < es.toList.length := by simpa using hi
      refine .inr ⟨hix ▸ List.getElem_mem hi', fun hk => hne ?_⟩
      have h1 : (es.toList.map (·.key))[j]? = some key := by rw [List.getElem?_map, hj2]; simp [hek]
      have h2 : (es.toList.map (·.key))[i]? = some key := by rw [List.getElem?_map, List.getElem?_eq_getElem hi', hix]; simp [hk]
      exact (List.getElem?_inj (by simpa using hjl) h.nd).1 (h1.trans h2.symm)
  refine ⟨fun x hx => ?_, fun x hx => ?_, fun x u hx => ?_, by rw [hl, hmk]; exact h.nd, by rw [hl, hmb]; exact h.bn, fun x hx => ?_⟩
  · rw [hl] at hx
    rcases who x hx with rfl | ⟨hx, _⟩
    · obtain ⟨l, hl⟩ := h.keys e (List.mem_of_getElem? hj2); rw [hek] at hl; exact ⟨l, hl⟩
    · exact h.keys x hx
  · rw [hl] at hx
    rcases who x hx with rfl | ⟨hx, hne⟩
    · exact updF_same _ _ _
    · rw [updF_other f v hne]; exact h.upto x hx
  · rw [hl]
    by_cases e1 : x = key
    · exact ⟨{ e with key := key, val := v }, List.mem_of_getElem? (i := j) (by rw [List.getElem?_set]; simp [hjl, hjs, hje]), e1.symm⟩
    · rw [updF_other f v e1] at hx
      obtain ⟨y, hy, hyk⟩ := h.of x u hx
      obtain ⟨i, hi, hiy⟩ := List.getElem_of_mem hy
      refine ⟨y, List.mem_of_getElem? (i := i) ?_, hyk⟩
      rw [List.getElem?_set, if_neg (fun hji => ?_), List.getElem?_eq_getElem hi, hiy]
      subst hji
      have : y = e := by have := List.getElem?_eq_getElem hi; rw [hj2] at this; injection this with this; rw [← hiy]; exact this.symm
      exact e1 (by rw [← hyk, this, hek])
  · rw [hl] at hx
    rcases who x hx with rfl | ⟨hx, _⟩
    · exact h.bc e (List.mem_of_getElem? hj2)
    · exact h.bc x hx
end
section
variable {k : TypeId} {w y : World} {b n : Nat} {f : Value → Option Value}
theorem run_obj {P : Program} {es : Array MapEntry} {clock : Nat} (h : w.heap[b]? = some (.map es clock)) : (getObj b).run P w = .ok (.map es clock) w := MapKept.run_getObj_map h
theorem HM.lt (h : HM Try.prog k w b n f) : b < w.heap.size := by obtain ⟨es, c, hb, _⟩ := h; exact (Array.getElem?_eq_some_iff.1 hb).1
theorem HM.kept (h : HM Try.prog k w b n f) (hk : y.heap[b]? = w.heap[b]?) : HM Try.prog k y b n f := by obtain ⟨es, c, hb, r⟩ := h; exact ⟨es, c, hk.trans hb, r⟩
theorem HM.below (h : HM Try.prog k w b n f) (hb : Below w.heap.size w y) : HM Try.prog k y b n f := h.kept (hb.block b h.lt)
theorem HM.grown {r : Option Nat} (h : HM Try.prog k w b n f) (hg : w.grownBy y r) (hr : some b ≠ r) : HM Try.prog k y b n f := h.kept (hg.block b h.lt hr)
theorem HM.mono {m : Nat} (h : HM Try.prog k w b n f) (hm : n ≤ m) : HM Try.prog k w b m f := by obtain ⟨es, c, hb, hs, r⟩ := h; exact ⟨es, c, hb, Nat.le_trans hs hm, r⟩
theorem HM.made (w : World) (k : TypeId) : HM Try.prog k (w.alloc (.map #[] 0)) w.heap.size 0 (fun _ => none) :=
  ⟨#[], 0, heap_alloc_new _ _, Nat.le_refl _, ⟨by simp, by simp, by simp, by simp, by simp, by simp⟩⟩
theorem HM.look {t e : TypeId} (h : HM Try.prog k w b n f) (K : Keyed Try.prog k) (ht : Try.prog.underlying t = some (.map k e)) {z : Value} (hz : (zeroValue e).run Try.prog w = .ok z w) {key : Value} {kl : Lit} (hk : keyOf Try.prog k key = some kl) (c : Bool) :
    (Instr.lookup t (.map (some b)) key c).run Try.prog w = .ok (if c then .tuple #[(f key).getD z, .bool (f key).isSome] else (f key).getD z) w := by
  obtain ⟨es, cl, hb, hs, hm⟩ := h
  rcases hm.find K w hk with ⟨h1, h2⟩ | ⟨j, e0, h1, h2, h3, h4⟩
  · simp [Instr.lookup, run_underlying ht, MapKept.run_getObj_map hb, K.check w _ hk, h1, h2, hz, Result.andThen]
  · simp [Instr.lookup, run_underlying ht, MapKept.run_getObj_map hb, K.check w _ hk, h1, h4, Result.andThen]
theorem put_block {es : Array MapEntry} {clock : Nat} (h : w.heap[b]? = some (.map es clock)) (es2 : Array MapEntry) (c2 : Nat) :
    ∃ y, (setObj b (.map es2 c2)).run Try.prog w = .ok () y ∧ y.heap[b]? = some (.map es2 c2) ∧ w.grownBy y (some b) :=
  ⟨_, MapKept.run_setObj_map _ h, ChangeMaps.heap_setBlock_same h _, ⟨rfl, rfl, rfl, by simp [ChangeMaps.setBlock], fun i _ hi => ChangeMaps.heap_setBlock_other h _ (fun e => hi (by rw [e]))⟩⟩
theorem HM.update {t e : TypeId} (h : HM Try.prog k w b n f) (K : Keyed Try.prog k) (ht : Try.prog.underlying t = some (.map k e)) {key : Value} {kl : Lit} (hk : keyOf Try.prog k key = some kl) (v : Value) :
    ∃ y, (Instr.mapUpdate t (.map (some b)) key v).run Try.prog w = .ok () y ∧ HM Try.prog k y b (n + 1) (updF f key v) ∧ w.grownBy y (some b) := by
  obtain ⟨es, cl, hb, hs, hm⟩ := h
  rcases hm.find K w hk with ⟨h1, h2⟩ | ⟨j, e0, h1, h2, h3, h4⟩
  · obtain ⟨y, hy, hyb, hg⟩ := put_block hb (es.push ⟨key, v, cl⟩) (cl + 1)
    exact ⟨y, by simp [Instr.mapUpdate, run_underlying ht, MapKept.run_getObj_map hb, K.check w false hk, h1, hy, Result.andThen], ⟨_, _, hyb, by simp; omega, hm.push hk h2 v⟩, hg⟩
  · obtain ⟨y, hy, hyb, hg⟩ := put_block hb (es.modify j (fun x => { x with key := key, val := v })) cl
    exact ⟨y, by simp [Instr.mapUpdate, run_underlying ht, MapKept.run_getObj_map hb, K.check w false hk, h1, h2, h3, K.stays w hk, hy, Result.andThen], ⟨_, _, hyb, by simp; omega, hm.modify h2 h3 v⟩, hg⟩
/-- .. with an entry that was asked for. -/
def HMs (k : TypeId) (w : World) (b n : Nat) (f : Value → Option Value) (key : Value) (st : Nat) : Prop := ∃ es clock, w.heap[b]? = some (.map es clock) ∧ es.size ≤ n ∧ HMes Try.prog k es clock f ∧ ∃ (j : Nat) (e : MapEntry), es[j]? = some e ∧ e.key = key ∧ e.born = st
theorem HM.entry {t e : TypeId} (h : HM Try.prog k w b n f) (K : Keyed Try.prog k) (ht : Try.prog.underlying t = some (.map k e)) {z : Value} (hz : (zeroValue e).run Try.prog w = .ok z w) {key : Value} {kl : Lit} (hk : keyOf Try.prog k key = some kl) :
    ∃ (v : Value) (st : Nat) (y : World), (Instr.mapEntry t (.map (some b)) key).run Try.prog w = .ok (.tuple #[v, goInt st]) y ∧ HMs k y b (n + 1) (updF f key ((f key).getD z)) key st ∧ w.grownBy y (some b) := by
  obtain ⟨es, cl, hb, hs, hm⟩ := h
  rcases hm.find K w hk with ⟨h1, h2⟩ | ⟨j, e0, h1, h2, h3, h4⟩
  · obtain ⟨y, hy, hyb, hg⟩ := put_block hb (es.push ⟨key, z, cl⟩) (cl + 1)
    refine ⟨z, cl, y, by simp [Instr.mapEntry, run_underlying ht, MapKept.run_getObj_map hb, K.check w false hk, h1, hz, hy, Result.andThen], ⟨_, _, hyb, by simp; omega, ?_, es.size, ⟨key, z, cl⟩, by simp, rfl, rfl⟩, hg⟩
    rw [h2]; exact hm.push hk h2 z
  · obtain ⟨y, hy, hyb, hg⟩ := put_block hb (es.modify j (fun x => { x with key := key })) cl
    have e1 : es.modify j (fun x => { x with key := key }) = es.modify j (fun x => { x with key := key, val := e0.val }) := by
      apply Array.ext'
      rw [modify_toList h2, modify_toList h2]
    refine ⟨e0.val, e0.born, y, by simp [Instr.mapEntry, run_underlying ht, MapKept.run_getObj_map hb, K.check w false hk, h1, h2, h3, K.stays w hk, hy, Result.andThen], ⟨_, _, hyb, by simp; omega, ?_, j, { e0 with key := key }, ?_, rfl, rfl⟩, hg⟩
    · rw [h4, e1]; exact hm.modify h2 h3 e0.val
    · have := modify_toList h2 (fun x => { x with key := key })
      have hj2 : es.toList[j]? = some e0 := by simpa using h2
      rw [← Array.getElem?_toList, this, List.getElem?_set]
      simp; have := (List.getElem?_eq_some_iff.1 hj2).1; simpa using this
theorem HMs.store {t : TypeId} {key : Value} {st : Nat} (h : HMs k w b n f key st) (v : Value) :
    ∃ y, (Instr.entryStore t (.map (some b)) (goInt st) v).run Try.prog w = .ok () y ∧ HM Try.prog k y b n (updF f key v) ∧ w.grownBy y (some b) := by
  obtain ⟨es, cl, hb, hs, hm, j, e0, h2, h3, h4⟩ := h
  have hj2 : es.toList[j]? = some e0 := by simpa using h2
  have hidx : es.findIdx? (fun e => ((e.born : Nat) : Int) == ((st : Nat) : Int)) = some j := by
    rw [Array.findIdx?_eq_some_iff_getElem]
    have hjs := (Array.getElem?_eq_some_iff.1 h2).1
    have hje := (Array.getElem?_eq_some_iff.1 h2).2
    refine ⟨hjs, by simp [hje, h4], fun i hij => ?_⟩
    simp only [Bool.not_eq_true, beq_eq_false_iff_ne, ne_eq, Int.natCast_inj]
    intro e
    have a1 : (es.toList.map (·.born))[i]? = some st := by rw [List.getElem?_map, List.getElem?_eq_getElem (by simp; omega)]; simp [e]
    have a2 : (es.toList.map (·.born))[j]? = some st := by rw [List.getElem?_map, hj2]; simp [h4]
    have := (List.getElem?_inj (by simp; omega) hm.bn).1 (a1.trans a2.symm)
    omega
  obtain ⟨y, hy, hyb, hg⟩ := put_block hb (es.modify j (fun x => { x with val := v })) cl
  have e1 : es.modify j (fun x => { x with val := v }) = es.modify j (fun x => { x with key := key, val := v }) := by
    apply Array.ext'
    rw [modify_toList h2, modify_toList h2, ← h3]
  exact ⟨y, by simp [Instr.entryStore, MapKept.run_getObj_map hb, asInt, asIntOf, goInt, hidx, hy, Result.andThen], ⟨_, _, hyb, by simpa using hs, by rw [e1]; exact hm.modify h2 h3 v⟩, hg⟩
end
end Go.Proofs.Ytjdcmhclamjcjaa
namespace Go.Proofs.Ytjdcmhclamjcjaa
open Go.RowKit
open Go.Maps (Keyed)
set_option linter.unusedVariables false
set_option linter.unusedSimpArgs false

structure Th where
  L : List Nm
  came : List Nm
  due : List Int
  was : List Int
  now : Nm
/-- a number in its place. -/
def dueM : List Int → Int → List Int
  | [], s => [s]
  | d :: l, s => if d < s then d :: dueM l s else if d = s then d :: l else s :: d :: l
def insM : List Nm → Nm → List Nm
  | [], x => [x]
  | y :: l, x => if y.1 < x.1 then y :: insM l x else x :: y :: l
def lookN (C : List Nm) (s : Int) : Option (List Int) := (C.find? fun x => decide (x.1 = s)).map Prod.snd
def lookS (C : List Nm) (c : List Int) : Option Int := (C.find? fun x => decide (x.2 = c)).map Prod.fst
/-- names that go. -/
def dropM (S : Th) (is : Nm → Bool) : Th :=
  let L := S.L.filter fun x => !is x
  let was := S.was ++ (S.L.filter is).map Prod.fst
  ⟨L, S.came, (S.L.filter is).foldl (fun d x => dueM d x.1) S.due, was, if S.now.1 ∈ was ∧ 0 < L.length then L.headD S.now else S.now⟩
theorem own_one {α : Type} (K : RK α) (w : World) (E : TypeId) (x : α) (hx : K.ok x) : (w.alloc (.cells (K.flat [x]).toArray E)).ownsRow 0 E K.N (.slice (some ⟨w.heap.size, 0, none⟩) 1 1) 1 (K.flat [x]) := by
  have hl := K.flat_len [x] (fun z hz => by rw [List.mem_singleton.1 hz]; exact hx)
  have hl2 : (K.flat [x]).length = 1 * K.N := hl
  exact ⟨hl2, .inr ⟨_, 1, (K.flat [x]).toArray, rfl, Nat.zero_le _, heap_alloc_new _ _, Nat.le_refl _, by unfold maxLen; omega, by rw [List.size_toArray]; exact hl2, by rw [← hl2]; exact List.take_length⟩⟩
theorem insM_at : ∀ {l1 l2 : List Nm} {x : Nm}, (∀ y ∈ l1, y.1 < x.1) → (∀ y, l2.head? = some y → ¬ y.1 < x.1) → insM (l1 ++ l2) x = l1 ++ x :: l2
  | [], [], x, _, _ => rfl
  | [], y :: l2, x, _, h => by
    have := h y rfl
    simp only [List.nil_append, insM]; rw [if_neg this]
  | y :: l1, l2, x, h, h2 => by
    have := h y (List.mem_cons_self ..)
    simp only [List.cons_append, insM]; rw [if_pos this, insM_at (fun z hz => h z (List.mem_cons_of_mem _ hz)) h2]
theorem insM_len (l : List Nm) (x : Nm) : (insM l x).length = l.length + 1 := by
  induction l with
  | nil => rfl
  | cons y l ih => simp only [insM]; split <;> simp [ih]
theorem insM_mem : ∀ {l : List Nm} {x z : Nm}, z ∈ insM l x ↔ z = x ∨ z ∈ l
  | [], x, z => by simp [insM]
  | y :: l, x, z => by
    have ih := insM_mem (l := l) (x := x) (z := z)
    simp only [insM]; split
    · simp only [List.mem_cons, ih]; constructor <;> (intro h; rcases h with h | h | h <;> simp [h])
    · simp [List.mem_cons]
theorem lookN_snoc {C : List Nm} {x : Nm} (h : ∀ y ∈ C, y.1 ≠ x.1) (s : Int) : lookN (C ++ [x]) s = if s = x.1 then some x.2 else lookN C s := by
  unfold lookN
  rw [List.find?_append]
  by_cases e : s = x.1
  · have : C.find? (fun y => decide (y.1 = s)) = none := by
      rw [List.find?_eq_none]; intro y hy; simp; rw [e]; exact h y hy
    rw [this, if_pos e]; simp [e]
  · rw [if_neg e]
    cases hf : C.find? (fun y => decide (y.1 = s)) with
    | none => simp [Ne.symm e]
    | some y => simp
theorem lookS_snoc {C : List Nm} {x : Nm} (h : ∀ y ∈ C, y.2 ≠ x.2) (c : List Int) : lookS (C ++ [x]) c = if c = x.2 then some x.1 else lookS C c := by
  unfold lookS
  rw [List.find?_append]
  by_cases e : c = x.2
  · have : C.find? (fun y => decide (y.2 = c)) = none := by
      rw [List.find?_eq_none]; intro y hy; simp; rw [e]; exact h y hy
    rw [this, if_pos e]; simp [e]
  · rw [if_neg e]
    cases hf : C.find? (fun y => decide (y.2 = c)) with
    | none => simp [Ne.symm e]
    | some y => simp
abbrev U64T : TypeId := 24
abbrev CIDT : TypeId := 38
theorem keyU : Keyed Try.prog U64T := Maps.int_keyed Try.underlying24
theorem keyUof {s : Int} (h : U64 s) : keyOf Try.prog U64T (.int .u64 s) = some (.int .u64 s) := Maps.keyOf_int_mk Try.underlying24 (wf_u64r h.1 h.2)
set_option maxRecDepth 100000 in
theorem keyC : Keyed Try.prog CIDT := Keyed.of_law (deep_law_laid (by kernel_rfl) (m := 2) (by omega) (of_decide_eq_true (by kernel_rfl)) (by kernel_rfl) (by kernel_rfl))
set_option maxRecDepth 100000 in
theorem zeroC (w : World) : (zeroValue CIDT).run Try.prog w = .ok (cidV Z8) w := by kernel_rfl
set_option maxRecDepth 100000 in
theorem zeroU (w : World) : (zeroValue U64T).run Try.prog w = .ok (.int .u64 0) w := by kernel_rfl
set_option maxRecDepth 100000 in
theorem zeroB (w : World) : (zeroValue 4).run Try.prog w = .ok (.bool false) w := by kernel_rfl
theorem cidV_inj {c d : List Int} (h : cidV c = cidV d) : c = d := by
  unfold cidV at h
  injection h with h
  have h2 : c.map (Value.int .u8) = d.map (Value.int .u8) := by simpa using h
  exact (List.map_inj_right (f := Value.int .u8) (by intro a b hab; injection hab)).1 h2
def NF (f : Value → Option Value) (C : List Nm) : Prop := ∀ s, U64 s → f (.int .u64 s) = (lookN C s).map cidV
def SF (f : Value → Option Value) (C : List Nm) : Prop := ∀ c, cidOk c → f (cidV c) = (lookS C c).map (Value.int .u64)
def GF (f : Value → Option Value) (was : List Int) : Prop := ∀ s, U64 s → f (.int .u64 s) = if s ∈ was then some (.bool true) else none
theorem NF.put {f : Value → Option Value} {C : List Nm} (h : NF f C) {x : Nm} (hx : ∀ y ∈ C, y.1 ≠ x.1) : NF (updF f (.int .u64 x.1) (cidV x.2)) (C ++ [x]) := fun s hs => by
  rw [lookN_snoc hx]
  by_cases e : s = x.1
  · subst e; rw [updF_same, if_pos rfl]; rfl
  · rw [updF_other _ _ (by intro h2; injection h2 with _ h2; exact e h2), if_neg e]; exact h s hs
theorem SF.put {f : Value → Option Value} {C : List Nm} (h : SF f C) {x : Nm} (hx : ∀ y ∈ C, y.2 ≠ x.2) : SF (updF f (cidV x.2) (.int .u64 x.1)) (C ++ [x]) := fun c hc => by
  rw [lookS_snoc hx]
  by_cases e : c = x.2
  · subst e; rw [updF_same, if_pos rfl]; rfl
  · rw [updF_other _ _ (fun h2 => e (cidV_inj h2)), if_neg e]; exact h c hc
theorem GF.put {f : Value → Option Value} {was : List Int} (h : GF f was) (s : Int) : GF (updF f (.int .u64 s) (.bool true)) (was ++ [s]) := fun t ht => by
  by_cases e : t = s
  · subst e; rw [updF_same, if_pos (by simp)]
  · rw [updF_other _ _ (by intro h2; injection h2 with _ h2; exact e h2), h t ht]; simp [e]
theorem key_u8 (d : Nat) {n : Int} (h : (Lit.int .u8 n).wf = true) : Try.prog.keyLits (d + 1) 5 [.int .u8 n] = some [.int .u8 n] := by
  simp [Program.keyLits, Try.underlying5, h]
set_option maxRecDepth 100000 in
theorem cellsU8 : Try.prog.cellsOf 5 = 1 := by kernel_rfl
set_option maxRecDepth 100000 in
theorem cellsCid : Try.prog.cellsOf CIDT = 8 := by kernel_rfl
set_option maxRecDepth 100000 in
theorem keyTCid : Try.prog.keyType CIDT = true := by kernel_rfl
set_option maxRecDepth 100000 in
theorem key_cid {c : List Int} (hc : cidOk c) : ∃ kl, keyOf Try.prog CIDT (cidV c) = some kl := by
  obtain ⟨c0, c1, c2, c3, c4, c5, c6, c7, rfl⟩ := Kc.len8 hc.1
  have w0 := hc.2 c0 (by simp); have w1 := hc.2 c1 (by simp); have w2 := hc.2 c2 (by simp); have w3 := hc.2 c3 (by simp)
  have w4 := hc.2 c4 (by simp); have w5 := hc.2 c5 (by simp); have w6 := hc.2 c6 (by simp); have w7 := hc.2 c7 (by simp)
  obtain ⟨d, hd⟩ : ∃ d, Try.prog.types.size = d + 1 := ⟨Try.prog.types.size - 1, by have h0 : 0 < Try.prog.types.size := of_decide_eq_true (by kernel_rfl); omega⟩
  have hf : (cidV [c0, c1, c2, c3, c4, c5, c6, c7]).formed Try.prog CIDT = true := by
    simp [cidV, Value.formed, Try.underlying38, cellsCid]
  have hr : List.range 8 = [0, 1, 2, 3, 4, 5, 6, 7] := rfl
  have hl : Try.prog.keyLits (Try.prog.types.size + 1) CIDT (cidV [c0, c1, c2, c3, c4, c5, c6, c7]).cells.toList = some [.int .u8 c0, .int .u8 c1, .int .u8 c2, .int .u8 c3, .int .u8 c4, .int .u8 c5, .int .u8 c6, .int .u8 c7] := by
    rw [hd]
    unfold Program.keyLits
    simp only [Try.underlying38, cidV, Value.cells, cellsCid, cellsU8, hr, List.map_cons, List.map_nil, List.length_cons, List.length_nil, List.mapM_cons, List.mapM_nil, Nat.mul_one, List.drop, List.take, key_u8 d w0, key_u8 d w1, key_u8 d w2, key_u8 d w3, key_u8 d w4, key_u8 d w5, key_u8 d w6, key_u8 d w7]
    try rfl
  unfold keyOf
  rw [Try.underlying38]
  simp only [keyTCid, hf, hl, Bool.and_true, if_true, Option.map_some]
  exact ⟨_, rfl⟩
def u64K : RK Int := ⟨1, fun x => [.int .u64 x], U64, by omega, by omega, fun _ _ => rfl, fun x _ v hv => u64_one hv⟩
set_option maxRecDepth 100000 in
theorem u64T : RT u64K 24 26 (.int .u64 0) 8 := ⟨Try.underlying26, by kernel_rfl, rfl, by omega⟩
theorem dueM_at : ∀ {l1 l2 : List Int} {s : Int}, (∀ d ∈ l1, d < s) → (∀ d, l2.head? = some d → s < d) → dueM (l1 ++ l2) s = l1 ++ s :: l2
  | [], [], s, _, _ => rfl
  | [], d :: l2, s, _, h => by
    have := h d rfl
    simp only [List.nil_append, dueM]; rw [if_neg (by omega), if_neg (by omega)]
  | d :: l1, l2, s, h, h2 => by
    have := h d (List.mem_cons_self ..)
    simp only [List.cons_append, dueM]; rw [if_pos this, dueM_at (fun x hx => h x (List.mem_cons_of_mem _ hx)) h2]
theorem dueM_in : ∀ {l1 l2 : List Int} {s : Int}, (∀ d ∈ l1, d < s) → dueM (l1 ++ s :: l2) s = l1 ++ s :: l2
  | [], l2, s, _ => by simp [dueM]
  | d :: l1, l2, s, h => by
    have := h d (List.mem_cons_self ..)
    simp only [List.cons_append, dueM]; rw [if_pos this, dueM_in (fun x hx => h x (List.mem_cons_of_mem _ hx))]
theorem dueM_len : ∀ (l : List Int) (s : Int), (dueM l s).length ≤ l.length + 1
  | [], s => by simp [dueM]
  | d :: l, s => by
    have := dueM_len l s
    simp only [dueM]; split
    · simp; omega
    · split <;> simp
theorem dueM_mem : ∀ {l : List Int} {s x : Int}, x ∈ dueM l s ↔ x = s ∨ x ∈ l
  | [], s, x => by simp [dueM]
  | d :: l, s, x => by
    have ih := dueM_mem (l := l) (s := s) (x := x)
    simp only [dueM]; split
    · simp only [List.mem_cons, ih]; constructor <;> (intro h; rcases h with h | h | h <;> simp [h])
    · split
      · rename_i h; subst h; simp only [List.mem_cons]; constructor
        · intro h; exact .inr h
        · intro h; rcases h with h | h; exact .inl h; exact h
      · simp [List.mem_cons]
theorem dueM_sorted : ∀ {l : List Int} {s : Int}, l.Pairwise (· < ·) → (dueM l s).Pairwise (· < ·)
  | [], s, _ => by simp [dueM]
  | d :: l, s, h => by
    obtain ⟨h1, h2⟩ := List.pairwise_cons.1 h
    simp only [dueM]; split
    · rename_i hd
      exact List.pairwise_cons.2 ⟨fun x hx => by rcases dueM_mem.1 hx with e | e; omega; exact h1 x e, dueM_sorted h2⟩
    · split
      · exact h
      · refine List.pairwise_cons.2 ⟨fun x hx => ?_, h⟩
        rcases List.mem_cons.1 hx with e | e
        · omega
        · have := h1 x e; omega
abbrev THT : TypeId := 73
def thRow (lv : Value) (bn bs : Nat) (now : Nm) (bg : Nat) (rv : Value) : List Value := [lv, .map (some bn), .map (some bs)] ++ nmK.enc now ++ [.map (some bg), rv]
/-- names that the other end issued, in memory. -/
structure ThAt (w : World) (p : Nat) (B : List Nat) (N : Nat) (S : Th) (la ra : Option Addr) (lc rc bn bs bg : Nat) : Prop where
  row : w.heap[p]? = some (.cells (thRow (.slice la S.L.length lc) bn bs S.now bg (.slice ra S.due.length rc)).toArray THT (0, 0))
  l : nmK.At w la S.L.length S.L
  r : u64K.At w ra S.due.length S.due
  lc : S.L.length ≤ lc ∧ lc ≤ 9223372036854775807
  rc : S.due.length ≤ rc ∧ rc ≤ 9223372036854775807
  nm : ∃ n f, HM Try.prog U64T w bn n f ∧ NF f S.came
  sq : ∃ n f, HM Try.prog CIDT w bs n f ∧ SF f S.came
  gn : ∃ n f, HM Try.prog U64T w bg n f ∧ GF f S.was
  ne : bn ≠ bs ∧ bn ≠ bg ∧ bs ≠ bg
  now : nmK.ok S.now
  pm : p ∈ B
  bm : bn ∈ B ∧ bs ∈ B ∧ bg ∈ B
  la : ∀ x, la = some x → x.block ∈ B ∧ x.block ≠ p ∧ ∃ b o, x = ⟨b, o, none⟩
  ra : ∀ x, ra = some x → x.block ∈ B ∧ x.block ≠ p ∧ ∃ b o, x = ⟨b, o, none⟩
  lt : ∀ g ∈ B, g < w.heap.size
  len : S.L.length ≤ N ∧ S.due.length ≤ N
theorem HM.off {k : TypeId} {w y : World} {b n : Nat} {f : Value → Option Value} {M : List Nat} (h : HM Try.prog k w b n f) (ho : Off M w y) (hb : b ∉ M) : HM Try.prog k y b n f := h.kept (ho.block b h.lt hb)
section
variable {w y : World} {p N : Nat} {B M : List Nat} {S : Th} {la ra : Option Addr} {lc rc bn bs bg : Nat}
theorem ThAt.off (h : ThAt w p B N S la ra lc rc bn bs bg) (ho : Off M w y) (hd : ∀ g ∈ B, g ∉ M) : ThAt y p B N S la ra lc rc bn bs bg := by
  obtain ⟨nn, fn, hn, hn2⟩ := h.nm; obtain ⟨ns, fs, hs, hs2⟩ := h.sq; obtain ⟨ng, fg, hg, hg2⟩ := h.gn
  exact ⟨ho.row h.row (hd _ h.pm), ho.rk h.l (fun x hx => hd _ (h.la x hx).1), ho.rk h.r (fun x hx => hd _ (h.ra x hx).1), h.lc, h.rc, ⟨nn, fn, hn.off ho (hd _ h.bm.1), hn2⟩, ⟨ns, fs, hs.off ho (hd _ h.bm.2.1), hs2⟩, ⟨ng, fg, hg.off ho (hd _ h.bm.2.2), hg2⟩,
    h.ne, h.now, h.pm, h.bm, h.la, h.ra, fun g hg => Nat.lt_of_lt_of_le (h.lt g hg) ho.size, h.len⟩
theorem ThAt.below (h : ThAt w p B N S la ra lc rc bn bs bg) (hb : Below w.heap.size w y) : ThAt y p B N S la ra lc rc bn bs bg := h.off (M := []) (Off.of_below hb) (fun g _ hg => by cases hg)
theorem ThAt.mono (h : ThAt w p B N S la ra lc rc bn bs bg) {N2 : Nat} (hN : N ≤ N2 := by omega) : ThAt w p B N2 S la ra lc rc bn bs bg :=
  ⟨h.row, h.l, h.r, h.lc, h.rc, h.nm, h.sq, h.gn, h.ne, h.now, h.pm, h.bm, h.la, h.ra, h.lt, Nat.le_trans h.len.1 hN, Nat.le_trans h.len.2 hN⟩
theorem thRow_cells (lv rv : Value) (bn bs bg : Nat) (s : Int) (c0 c1 c2 c3 c4 c5 c6 c7 : Int) : thRow lv bn bs (s, [c0, c1, c2, c3, c4, c5, c6, c7]) bg rv =
    [lv, .map (some bn), .map (some bs), .int .u64 s, .int .u8 c0, .int .u8 c1, .int .u8 c2, .int .u8 c3, .int .u8 c4, .int .u8 c5, .int .u8 c6, .int .u8 c7, .map (some bg), rv] := rfl
theorem thRow_len {lv rv : Value} {bn bs bg : Nat} {now : Nm} (h : nmK.ok now) : (thRow lv bn bs now bg rv).length = 14 := by
  have := nmK.len now h
  have e : nmK.N = 9 := rfl
  simp [thRow, this, e]
theorem thRow_l (lv rv : Value) (bn bs bg : Nat) (now : Nm) : (thRow lv bn bs now bg rv)[0]? = some lv := rfl
theorem thRow_n (lv rv : Value) (bn bs bg : Nat) (now : Nm) : (thRow lv bn bs now bg rv)[1]? = some (.map (some bn)) := rfl
theorem thRow_s (lv rv : Value) (bn bs bg : Nat) (now : Nm) : (thRow lv bn bs now bg rv)[2]? = some (.map (some bs)) := rfl
theorem thRow_w (lv rv : Value) (bn bs bg : Nat) (now : Nm) : (thRow lv bn bs now bg rv)[3]? = some (.int .u64 now.1) := rfl
theorem thRow_now (lv rv : Value) (bn bs bg : Nat) (now : Nm) (j : Nat) (v : Value) (h : (nmK.enc now)[j]? = some v) : (thRow lv bn bs now bg rv)[3 + j]? = some v := by
  unfold thRow
  rw [List.append_assoc, List.getElem?_append_right (by simp), List.getElem?_append_left (by have := lt_of_get h; simpa using this)]
  simpa using h
theorem thRow_g {now : Nm} (lv rv : Value) (bn bs bg : Nat) (h : nmK.ok now) : (thRow lv bn bs now bg rv)[12]? = some (.map (some bg)) := by
  have := nmK.len now h
  have e : nmK.N = 9 := rfl
  unfold thRow
  rw [List.getElem?_append_right (by simp [this, e])]; simp [this, e]
theorem thRow_r {now : Nm} (lv rv : Value) (bn bs bg : Nat) (h : nmK.ok now) : (thRow lv bn bs now bg rv)[13]? = some rv := by
  have := nmK.len now h
  have e : nmK.N = 9 := rfl
  unfold thRow
  rw [List.getElem?_append_right (by simp [this, e])]; simp [this, e]
theorem thRow_setl (lv rv lv2 : Value) (bn bs bg : Nat) (now : Nm) : (thRow lv bn bs now bg rv).set 0 lv2 = thRow lv2 bn bs now bg rv := rfl
theorem thRow_setr {now : Nm} (lv rv rv2 : Value) (bn bs bg : Nat) (h : nmK.ok now) : (thRow lv bn bs now bg rv).set 13 rv2 = thRow lv bn bs now bg rv2 := by
  have := nmK.len now h
  have e : nmK.N = 9 := rfl
  unfold thRow
  rw [List.set_append_right _ _ (by simp [this, e])]
  simp [this, e]
end
theorem Off.wide {M N : List Nat} {w y : World} (h : Off N w y) (hN : ∀ x ∈ N, x ∈ M) : Off M w y := ⟨h.os, h.tape, h.output, h.size, fun i hi hm => h.block i hi (fun hn => hm (hN i hn))⟩
theorem hm_ne {k : TypeId} {w : World} {b n p : Nat} {f : Value → Option Value} {cs : Array Value} {t : TypeId} {fr : Nat × Nat} (h : HM Try.prog k w b n f) (hp : w.heap[p]? = some (.cells cs t fr)) : b ≠ p := by
  intro e; subst e; obtain ⟨es, c, hb, _⟩ := h; rw [hb] at hp; cases hp
theorem own_ltS {w : World} {B e s n c : Nat} {xs : List Value} {x : Addr} (h : w.ownsRow B e s (.slice (some x) n c) n xs) {a : Option Addr} (ha : a = some x) : x.block < w.heap.size := by
  rcases h.2 with ⟨e, _⟩ | ⟨g2, cap, cur, e, _, hrow, _⟩
  · cases e
  · injection e with e; injection e with e; rw [e]; exact lt_of_block hrow
theorem UpdO.grownF {B N : List Nat} {w y z : World} {a : Option Addr} {n c : Nat} (h : UpdO B w y N) (hg : y.grownBy z (Value.slice a n c).ownBlock) (ha : ∀ x, a = some x → w.heap.size ≤ x.block) : UpdO B w z N := ⟨h.off.freshS hg ha, h.new⟩
theorem map_nocell {w : World} {b o : Nat} {es : Array MapEntry} {c : Nat} (h : w.heap[b]? = some (.map es c)) : w.cell? ⟨b, o, none⟩ = none := by simp [World.cell?, h]
theorem rk_maps {α : Type} {K : RK α} {w y : World} {M : List Nat} {a : Option Addr} {n : Nat} {l : List α} (ho : Off M w y) (hM : ∀ g ∈ M, ∃ es c, w.heap[g]? = some (.map es c)) (h : K.At w a n l) : K.At y a n l := by
  rcases Nat.eq_zero_or_pos n with h0 | h0
  · exact ⟨h.1, h.2.1, .inl h0⟩
  · refine ho.rk h (fun x hx hm => ?_)
    obtain ⟨b, off, z, e, hlt, hz, hok, hr⟩ := h.at h0
    rw [e] at hx; injection hx with hx; subst hx
    obtain ⟨es, c, hb⟩ := hM _ hm
    have hl := K.len z hok
    have hp := K.pos
    have h9 := hr 0 _ (List.getElem?_eq_getElem (by omega))
    rw [map_nocell hb] at h9; cases h9
theorem hm_map {k : TypeId} {w : World} {b n : Nat} {f : Value → Option Value} (h : HM Try.prog k w b n f) : ∃ es c, w.heap[b]? = some (.map es c) := by obtain ⟨es, c, hb, _⟩ := h; exact ⟨es, c, hb⟩
/-- its list, its numbers, its present name are other ones now; the maps are as they were. -/
theorem ThAt.turn {w y : World} {p N N' : Nat} {B B' : List Nat} {S : Th} {la ra la' ra' : Option Addr} {lc rc bn bs bg lc' rc' : Nat} {L' : List Nm} {due' : List Int} {now' : Nm} (h : ThAt w p B N S la ra lc rc bn bs bg) (ho : Off [p] w y)
    (hrow : y.heap[p]? = some (.cells (thRow (.slice la' L'.length lc') bn bs now' bg (.slice ra' due'.length rc')).toArray THT (0, 0)))
    (hl : nmK.At y la' L'.length L') (hr : u64K.At y ra' due'.length due') (hlc : L'.length ≤ lc' ∧ lc' ≤ 9223372036854775807) (hrc : due'.length ≤ rc' ∧ rc' ≤ 9223372036854775807) (hnow : nmK.ok now')
    (hB : ∀ g ∈ B, g ∈ B') (hB2 : ∀ g ∈ B', g < y.heap.size) (hla : ∀ x, la' = some x → x.block ∈ B' ∧ x.block ≠ p ∧ ∃ b o, x = ⟨b, o, none⟩) (hra : ∀ x, ra' = some x → x.block ∈ B' ∧ x.block ≠ p ∧ ∃ b o, x = ⟨b, o, none⟩)
    (hN : L'.length ≤ N' ∧ due'.length ≤ N') : ThAt y p B' N' ⟨L', S.came, due', S.was, now'⟩ la' ra' lc' rc' bn bs bg := by
  obtain ⟨nn, fn, hn, hn2⟩ := h.nm; obtain ⟨ns, fs, hs, hs2⟩ := h.sq; obtain ⟨ng, fg, hg, hg2⟩ := h.gn
  exact ⟨hrow, hl, hr, hlc, hrc, ⟨nn, fn, hn.off ho (by simpa using hm_ne hn h.row), hn2⟩, ⟨ns, fs, hs.off ho (by simpa using hm_ne hs h.row), hs2⟩, ⟨ng, fg, hg.off ho (by simpa using hm_ne hg h.row), hg2⟩, h.ne, hnow, hB _ h.pm, ⟨hB _ h.bm.1, hB _ h.bm.2.1, hB _ h.bm.2.2⟩, hla, hra, hB2, hN⟩
theorem ThAt.l_off {w y : World} {p N : Nat} {B : List Nat} {S : Th} {la ra : Option Addr} {lc rc bn bs bg : Nat} (h : ThAt w p B N S la ra lc rc bn bs bg) (ho : Off [p] w y) : nmK.At y la S.L.length S.L := ho.rk h.l (fun x hx => by simpa using (h.la x hx).2.1)
theorem ThAt.r_off {w y : World} {p N : Nat} {B : List Nat} {S : Th} {la ra : Option Addr} {lc rc bn bs bg : Nat} (h : ThAt w p B N S la ra lc rc bn bs bg) (ho : Off [p] w y) : u64K.At y ra S.due.length S.due := ho.rk h.r (fun x hx => by simpa using (h.ra x hx).2.1)
/-- what an operation on names of the other end leaves. -/
def ThU (w : World) (p : Nat) (B : List Nat) (bn bs bg : Nat) (w' : World) (N' : Nat) (S' : Th) : Prop :=
  ∃ B' la' ra' lc' rc', UpdO B w w' B' ∧ ThAt w' p B' N' S' la' ra' lc' rc' bn bs bg
/-- .. its list as it was. -/
def ThR (w : World) (p : Nat) (B : List Nat) (la : Option Addr) (lc bn bs bg : Nat) (w' : World) (N' : Nat) (S' : Th) : Prop :=
  ∃ B' ra' rc', UpdO B w w' B' ∧ ThAt w' p B' N' S' la ra' lc rc' bn bs bg
theorem u64_cell {w : World} {ab ao i : Nat} {d : Int} (h : w.rangeAt ab (ao + i * u64K.N) (u64K.enc d)) : w.cell? ⟨ab, ao + i, none⟩ = some (.int .u64 d) := by
  have h9 := h 0 (.int .u64 d) rfl
  rwa [show ao + i * u64K.N + 0 = ao + i by show ao + i * 1 + 0 = _; omega] at h9
end Go.Proofs.Ytjdcmhclamjcjaa
