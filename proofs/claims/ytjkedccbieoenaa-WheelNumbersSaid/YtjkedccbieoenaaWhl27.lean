/- wheel: play: a wheel and the law's list. -/
import Derived.Test.YtjkedccbieoenaaWhl26
namespace Go.Proofs.Ytjkedccbieoenaa
open Go.RowKit
set_option linter.unusedVariables false
set_option linter.unusedSimpArgs false

/-- a wheel above a base, and the law's list of what it holds, in a block of its own. -/
def PlX (bse : Nat) (w : World) (p : Nat) (now : Int) (T : List Tm) (n : Nat) (v : Value) (m : List Tm) : Prop :=
  ∃ M vs b, WhAt w p M now T vs b n ∧ (∀ q ∈ M, bse ≤ q) ∧ bse ≤ w.heap.size ∧ ∃ a cap, v = .slice a m.length cap ∧ m.length ≤ cap ∧ cap ≤ 9223372036854775807 ∧ Tms w a m.length m ∧ ∀ x, a = some x → x.block ∉ M ∧ x.block < w.heap.size
/-- and a row of ids beside it. -/
def PlY (bse : Nat) (w : World) (p : Nat) (now : Int) (T : List Tm) (n : Nat) (v : Value) (m : List Tm) (xa : Option Addr) (xn : Nat) (xs : List Int) : Prop :=
  ∃ M vs b, WhAt w p M now T vs b n ∧ (∀ q ∈ M, bse ≤ q) ∧ bse ≤ w.heap.size ∧ (∃ a cap, v = .slice a m.length cap ∧ m.length ≤ cap ∧ cap ≤ 9223372036854775807 ∧ Tms w a m.length m ∧ ∀ x, a = some x → x.block ∉ M ∧ x.block < w.heap.size) ∧
    IntsK .i64 w xa xn xs ∧ ∀ x, xa = some x → x.block ∉ M
theorem ints_offP {k : IntKind} {w y : World} {M : List Nat} {a : Option Addr} {n : Nat} {xs : List Int} (h : IntsK k w a n xs) (ho : Off M w y) (ha : ∀ x, a = some x → x.block ∉ M) : IntsK k y a n xs := by
  refine ⟨h.1, h.2.1, ?_⟩
  rcases h.2.2 with h0 | ⟨b, off, rfl, hb, hc⟩
  · exact .inl h0
  · have hm := ha _ rfl
    refine .inr ⟨b, off, rfl, Nat.lt_of_lt_of_le hb ho.size, fun i hi => ?_⟩
    have h2 := hc i hi
    unfold World.cell? at h2 ⊢
    rw [ho.block b hb hm]; exact h2
section
variable {bse : Nat} {w y : World} {p n : Nat} {now : Int} {T m : List Tm} {v : Value}
theorem pl_core {M : List Nat} (h1 : ∀ q ∈ M, bse ≤ q) (h2 : bse ≤ w.heap.size) (h3 : ∃ a cap, v = .slice a m.length cap ∧ m.length ≤ cap ∧ cap ≤ 9223372036854775807 ∧ Tms w a m.length m ∧ ∀ x, a = some x → x.block ∉ M ∧ x.block < w.heap.size)
    {M2 : List Nat} {v2 : List Value} {b2 n2 : Nat} {nw2 : Int} {T2 : List Tm} (hA2 : WhAt y p M2 nw2 T2 v2 b2 n2) (hO : Off M w y) (hM2 : ∀ q ∈ M2, q ∈ M ∨ w.heap.size ≤ q) : PlX bse y p nw2 T2 n2 v m ∧ Below bse w y := by
  obtain ⟨a, cap, e, hle, hcm, htm, hx⟩ := h3
  refine ⟨⟨M2, v2, b2, hA2, fun q hq => ?_, Nat.le_trans h2 hO.size, a, cap, e, hle, hcm, htm.off hO (fun x hxa => (hx x hxa).1), fun x hxa => ⟨fun hm => ?_, Nat.lt_of_lt_of_le (hx x hxa).2 hO.size⟩⟩, hO.below h2 h1⟩
  · rcases hM2 q hq with h | h
    · exact h1 q h
    · omega
  · rcases hM2 _ hm with h | h
    · exact (hx x hxa).1 h
    · have := (hx x hxa).2; omega
theorem PlX.below (h : PlX bse w p now T n v m) (hb : Below w.heap.size w y) : PlX bse y p now T n v m := by
  obtain ⟨M, vs, b, hw, h1, h2, a, cap, e, hle, hcm, htm, hx⟩ := h
  exact ⟨M, vs, b, hw.below hb, h1, Nat.le_trans h2 hb.size, a, cap, e, hle, hcm, htm.below hb, fun x hxa => ⟨(hx x hxa).1, Nat.lt_of_lt_of_le (hx x hxa).2 hb.size⟩⟩
theorem PlX.new (h : PlX bse w p now T n v m) (hb : Below w.heap.size w y) {m2 : List Tm} {v2 : Value} (hR : TsR w.heap.size y m2 v2) : PlX bse y p now T n v2 m2 := by
  obtain ⟨M, vs, b, hw, h1, h2, _⟩ := h
  obtain ⟨a, cap, e, hle, hcm, htm, hx⟩ := hR
  exact ⟨M, vs, b, hw.below hb, h1, Nat.le_trans h2 hb.size, a, cap, e, hle, hcm, htm, fun x hxa => ⟨fun hm => by have := hw.rs.lt _ hm; have := (hx x hxa).1; omega, (hx x hxa).2⟩⟩
theorem PlX.nd (h : PlX bse w p now T n v m) : (T.map Prod.fst).Nodup := by obtain ⟨M, vs, b, hw, _⟩ := h; exact hw.nd
theorem PlX.ok (h : PlX bse w p now T n v m) : ∀ x ∈ T, tmwf x ∧ 0 ≤ x.2 ∧ x.2 ≤ 1125899906842624 := by obtain ⟨M, vs, b, hw, _⟩ := h; exact hw.rs.ok
theorem PlX.now0 (h : PlX bse w p now T n v m) : 0 ≤ now ∧ now ≤ 1099511627776 := by obtain ⟨M, vs, b, hw, _⟩ := h; exact hw.rs.now0
theorem PlX.lst (h : PlX bse w p now T n v m) : ∃ a cap, v = .slice a m.length cap ∧ m.length ≤ cap ∧ cap ≤ 9223372036854775807 ∧ Tms w a m.length m := by
  obtain ⟨M, vs, b, hw, h1, h2, a, cap, e, hle, hcm, htm, hx⟩ := h; exact ⟨a, cap, e, hle, hcm, htm⟩
theorem PlX.set (h : PlX bse w p now T n v m) (id t : Int) (hid : (Lit.int .i64 id).wf = true) (ht : 0 ≤ t ∧ t ≤ 1125899906842624) (hn : n ≤ 100000) (hT : T.length ≤ 100000) :
    Calls Try.prog 10 #[.pointer (some ⟨p, 0, none⟩), .int .i64 id, .int .i64 t] w fun e w' => e = .returned (.bool true) ∧ PlX bse w' p now (dropT T id ++ [(id, dueM now t)]) (n + 1) v m ∧ Below bse w w' := by
  obtain ⟨M, vs, b, hw, h1, h2, h3⟩ := h
  refine (set_any w p M now T vs b n hw id t hid ht hn hT).mono fun e w' ⟨he, M2, vs2, b2, hw2, ho, hm⟩ => ?_
  exact ⟨he, pl_core h1 h2 h3 hw2 ho hm⟩
theorem PlX.drop (h : PlX bse w p now T n v m) (id : Int) (hid : (Lit.int .i64 id).wf = true) (hT : T.length ≤ 100000) :
    Calls Try.prog 15 #[.pointer (some ⟨p, 0, none⟩), .int .i64 id] w fun e w' => e = .returned (.bool (decide (id ∈ T.map Prod.fst))) ∧ PlX bse w' p now (dropT T id) n v m ∧ Below bse w w' := by
  obtain ⟨M, vs, b, hw, h1, h2, h3⟩ := h
  refine (drop_any w p M now T vs b n hw id hid hT).mono fun e w' ⟨he, M2, vs2, b2, hw2, ho, hm⟩ => ?_
  exact ⟨he, pl_core h1 h2 h3 hw2 ho hm⟩
theorem PlX.at (h : PlX bse w p now T n v m) (x : Tm) (hx : x ∈ T) : Calls Try.prog 30 #[.pointer (some ⟨p, 0, none⟩), .int .i64 x.1] w fun e w' => e = .returned (.tuple #[.int .i64 x.2, .bool true]) ∧ w = w' := by
  obtain ⟨M, vs, b, hw, _⟩ := h
  exact at_any w p M now T vs b n hw x hx
theorem PlX.len (h : PlX bse w p now T n v m) : Calls Try.prog 13 #[.pointer (some ⟨p, 0, none⟩)] w fun e w' => e = .returned (.int .i64 (T.length : Nat)) ∧ w = w' := by
  obtain ⟨M, vs, b, hw, _⟩ := h
  exact len_any w p M now T vs b n hw
theorem PlX.clock (h : PlX bse w p now T n v m) : Calls Try.prog 31 #[.pointer (some ⟨p, 0, none⟩)] w fun e w' => e = .returned (.int .i64 now) ∧ w = w' := by
  obtain ⟨M, vs, b, hw, _⟩ := h
  exact now_any w p M now T vs b n hw
theorem PlX.next (h : PlX bse w p now T n v m) (hT : T.length ≤ 1000) : Calls Try.prog 16 #[.pointer (some ⟨p, 0, none⟩)] w fun e w' => ∃ a s, e = .returned (.tuple #[.int .i64 a, .bool s]) ∧ Below w.heap.size w w' ∧ LeastOf (T.map Prod.snd) a s := by
  obtain ⟨M, vs, b, hw, _⟩ := h
  exact next_any w p M now T vs b n hw hT
theorem PlX.withX (h : PlX bse w p now T n v m) (hb : Below w.heap.size w y) {m2 : List Tm} {v2 : Value} (hR : TsR w.heap.size y m2 v2) {xa : Option Addr} {xn : Nat} {xs : List Int} (hI : IntsK .i64 y xa xn xs) (hf : ∀ x, xa = some x → w.heap.size ≤ x.block) : PlY bse y p now T n v2 m2 xa xn xs := by
  obtain ⟨M, vs, b, hw, h1, h2, _⟩ := h
  obtain ⟨a, cap, e, hle, hcm, htm, hx⟩ := hR
  exact ⟨M, vs, b, hw.below hb, h1, Nat.le_trans h2 hb.size, ⟨a, cap, e, hle, hcm, htm, fun x hxa => ⟨fun hm => by have := hw.rs.lt _ hm; have := (hx x hxa).1; omega, (hx x hxa).2⟩⟩, hI, fun x hxa hm => by have := hw.rs.lt _ hm; have := hf x hxa; omega⟩
theorem PlY.go {xa : Option Addr} {xn : Nat} {xs : List Int} (h : PlY bse w p now T n v m xa xn xs) (t : Int) (hT : T.length ≤ 1000) :
    Calls Try.prog 11 #[.pointer (some ⟨p, 0, none⟩), .int .i64 t] w fun e w' => ∃ a cap S n2, e = .returned (.slice a (duL (goN now t) S).length cap) ∧ IntsK .i64 w' a (duL (goN now t) S).length (duL (goN now t) S) ∧ S.Perm T ∧ S.Pairwise (fun x y => leT x y = true) ∧
      n2 ≤ T.length ∧ IntsK .i64 w' xa xn xs ∧ PlX bse w' p (goN now t) (S.filter (ndM (goN now t))) n2 v m ∧ Below bse w w' := by
  obtain ⟨M, vs, b, hw, h1, h2, h3, hI, hx⟩ := h
  refine (go_any w p M now T vs b n hw t hT).mono fun e w' hg => ?_
  obtain ⟨a, cap, S, he, hi, _, _, hp, hss, M2, vs2, b2, n2, hw2, hn2, ho, hm, _⟩ := hg
  exact ⟨a, cap, S, n2, he, hi, hp, hss, hn2, ints_offP hI ho hx, pl_core h1 h2 h3 hw2 ho hm⟩
end
theorem PlX.start (w : World) (t : Int) : Calls Try.prog 8 #[.int .i64 t] w fun e w' => ∃ p, e = .returned (.pointer (some ⟨p, 0, none⟩)) ∧ Below w.heap.size w w' ∧ PlX w.heap.size w' p (clampN t) [] 0 (.slice none 0 0) [] :=
  (new_any w t).mono fun e w' ⟨p, b, he, hb, hp, hbb, hw⟩ => ⟨p, he, hb, _, _, _, hw, (fun g hg => by rcases List.mem_cons.1 hg with h | h; omega; rw [List.mem_singleton.1 h]; exact hbb), hb.size, none, 0, rfl, Nat.le_refl _, by omega, Tms.nil _ _, fun x hx => by cases hx⟩
/-- what went off is what is due in the law's list. -/
theorem due_same {S T m N0 : List Tm} {now : Int} (hp : S.Perm T) (hm : m.Perm T) (hs : S.Pairwise (fun x y => leT x y = true)) (h0 : N0.Perm (m.filter (duM now))) (h1 : N0.Pairwise (fun x y => leT x y = true)) :
    duL now S = N0.map Prod.fst ∧ (m.filter (ndM now)).Perm (S.filter (ndM now)) := by
  have e : S.filter (duM now) = N0 := sorted_unique (((hp.trans hm.symm).filter _).trans h0.symm) (hs.filter _) h1
  exact ⟨by unfold duL; rw [e], (hm.trans hp.symm).filter _⟩
theorem dropT_perm {m T : List Tm} (h : m.Perm T) (id : Int) : (dropT m id).Perm (dropT T id) := h.filter _
end Go.Proofs.Ytjkedccbieoenaa
