/- contracts of package rtt, of its reference, and of narthexbook.Within -/
import Derived.Test.YtiekmmcjlhbeoaaRows
import Derived.WalkKit
import Derived.ProofKit
import Derived.Deep.QuietTactic
import Derived.BigQuiet
import Derived.Lib.Hide
namespace Go.Proofs.Ytiekmmcjlhbeoaa
open Go.RowKit
set_option linter.unusedVariables false

/-- block b of w is a row of cells, and of what was there in w0 nothing but block b has turned. -/
structure At (w : World) (b : Nat) (cs : Array Value) (t : TypeId) (w0 : World) : Prop where
  row : w.heap[b]? = some (.cells cs t (0, 0))
  rest : w0.grownBy w (some b)

theorem grown_refl (w : World) (r : Option Nat) : w.grownBy w r := ⟨rfl, rfl, rfl, Nat.le_refl _, fun _ _ _ => rfl⟩
theorem grown_trans {a b c : World} {r : Option Nat} (h : a.grownBy b r) (k : b.grownBy c r) : a.grownBy c r :=
  ⟨k.os.trans h.os, k.tape.trans h.tape, k.output.trans h.output, Nat.le_trans h.size k.size,
   fun i hi hr => (k.block i (Nat.lt_of_lt_of_le hi h.size) hr).trans (h.block i hi hr)⟩
theorem grown_of_none {a b : World} {r : Option Nat} (h : a.grownBy b none) : a.grownBy b r :=
  ⟨h.os, h.tape, h.output, h.size, fun i hi _ => h.block i hi (by simp)⟩
theorem grown_drewN (w : World) (n : Nat) (r : Option Nat) : w.grownBy (w.drewN n) r := ⟨rfl, rfl, rfl, Nat.le_refl _, fun _ _ _ => rfl⟩
theorem grown_setCell (w : World) (b i : Nat) (u : Value) : w.grownBy (w.setCell ⟨b, i, none⟩ u) (some b) :=
  ⟨rfl, rfl, rfl, by simp, fun k hk hr => Below.heap_setCell _ _ _ _ (fun e => hr (by simp [e]))⟩
theorem At.base {w : World} {b : Nat} {cs : Array Value} {t : TypeId} (h : w.heap[b]? = some (.cells cs t (0, 0))) : At w b cs t w := ⟨h, grown_refl _ _⟩
theorem At.set {w w0 : World} {b : Nat} {cs : Array Value} {t : TypeId} (h : At w b cs t w0) (i : Nat) (u : Value) : At (w.setCell ⟨b, i, none⟩ u) b (cs.setIfInBounds i u) t w0 :=
  ⟨heap_setCell_same _ _ _ _ _ _ h.row, grown_trans h.rest (grown_setCell _ _ _ _)⟩
theorem At.drewN {w w0 : World} {b : Nat} {cs : Array Value} {t : TypeId} (h : At w b cs t w0) (n : Nat) : At (w.drewN n) b cs t w0 :=
  ⟨h.row, grown_trans h.rest (grown_drewN _ _ _)⟩
theorem At.conv {w w0 : World} {b : Nat} {cs cs' : Array Value} {t : TypeId} (h : At w b cs t w0) (e : cs = cs') : At w b cs' t w0 := e ▸ h

theorem ret_int {k : IntKind} {a b : Int} (h : a = b) : Ending.returned (.int k a) = .returned (.int k b) := by rw [h]
/-- A call that only reads: it hands back v, and draws. -/
def Quiet (P : Program) (f : FuncId) (args : Array Value) (w : World) (v : Value) : Prop :=
  Calls P f args w fun e w' => e = .returned v ∧ ∃ n, w' = w.drewN n
theorem Quiet.same {P : Program} {f : FuncId} {args : Array Value} {w : World} {v : Value} (h : Calls P f args w fun e w' => e = .returned v ∧ w' = w) : Quiet P f args w v :=
  h.mono fun _ _ ⟨he, hw⟩ => ⟨he, 0, hw⟩
theorem Quiet.in1 {P : Program} {f : FuncId} {args : Array Value} {w : World} {n : Nat} {v : Value} (h : Quiet P f args (w.drewN n) v) :
    Calls P f args (w.drewN n) fun e w'' => e = .returned v ∧ ∃ m, w'' = w.drewN m :=
  Calls.mono h fun _ _ ⟨he, m, hm⟩ => ⟨he, n + m, by rw [hm, World.drewN_drewN]⟩
theorem Quiet.in2 {P : Program} {f : FuncId} {args : Array Value} {w : World} {a n : Nat} {v : Value} (h : Quiet P f args (w.drewN (a + n)) v) :
    Calls P f args (w.drewN (a + n)) fun e w'' => e = .returned v ∧ ∃ m, w'' = w.drewN (a + m) :=
  Calls.mono h fun _ _ ⟨he, m, hm⟩ => ⟨he, n + m, by rw [hm, World.drewN_drewN, Nat.add_assoc]⟩

/-- w' is w with one block more. -/
structure Fresh (w w' : World) (o : Obj) : Prop where
  row : w'.heap[w.heap.size]? = some o
  size : w'.heap.size = w.heap.size + 1
  below : Below w.heap.size w w'
theorem Fresh.of_alloc (w : World) (o : Obj) : Fresh w (w.alloc o) o := ⟨heap_alloc_new _ _, by simp, (Below.refl _ _).alloc (Nat.le_refl _) _⟩

theorem bl_drewN {B : Nat} {a w : World} (h : Below B a w) (n : Nat) : Below B a (w.drewN n) := ⟨h.os, h.tape, h.output, h.size, h.block⟩
theorem bl_row {B : Nat} {a w : World} (h : Below B a w) {b : Nat} {o : Obj} (hb : b < B) (e : a.heap[b]? = some o) : w.heap[b]? = some o := (h.block b hb).trans e
theorem bl_cell {B : Nat} {a w : World} (h : Below B a w) {p : Addr} {v : Value} (hb : p.block < B) (e : a.cell? p = some v) : w.cell? p = some v := (h.cell hb).trans e
theorem grown_row {a w : World} {r : Option Nat} (h : a.grownBy w r) {b : Nat} {o : Obj} (hr : some b ≠ r) (e : a.heap[b]? = some o) : w.heap[b]? = some o :=
  (h.block b (lt_of_block e) hr).trans e
/-- A slice of len integers of kind k, zs, that came in, or was made: it lies below the heap's end. -/
def IntsK (k : IntKind) (w : World) (a : Option Addr) (len : Nat) (zs : List Int) : Prop :=
  zs.length = len ∧ (∀ n ∈ zs, (Lit.int k n).wf = true) ∧
    (len = 0 ∨ ∃ b off, a = some ⟨b, off, none⟩ ∧ b < w.heap.size ∧ ∀ i, i < len → w.cell? ⟨b, off + i, none⟩ = some (.int k (zs.getD i 0)))
theorem IntsK.nil (k : IntKind) (w : World) (a : Option Addr) : IntsK k w a 0 [] := ⟨rfl, by simp, .inl rfl⟩
theorem IntsK.of_cells {k : IntKind} {w : World} {x : Addr} {len cap : Nat} {zs : List Int} (hl : len ≤ cap) (hz : zs.length = cap)
    (hc : ∀ i, i < zs.length → w.cell? (x.add i) = some (.int k (zs.getD i 0))) (hw : ∀ n ∈ zs, (Lit.int k n).wf = true) : IntsK k w (some x) len (zs.take len) := by
  refine ⟨by simp; omega, fun n hn => hw n (List.mem_of_mem_take hn), ?_⟩
  by_cases h0 : len = 0
  · exact .inl h0
  · obtain ⟨b, off, spot⟩ := x
    have hc0 := hc 0 (by omega)
    have hspot : spot = none := by simpa [Addr.add] using World.cell?_spot hc0
    subst hspot
    refine .inr ⟨b, off, rfl, ?_, fun i hi => ?_⟩
    · have := block_lt_of_cell hc0
      simpa [Addr.add] using this
    · have h := hc i (by omega)
      have e : (⟨b, off, none⟩ : Addr).add i = ⟨b, off + i, none⟩ := by
        by_cases hi0 : i = 0
        · subst hi0; rfl
        · simp [Addr.add, hi0]
      rw [e] at h
      rw [h]
      simp [List.getD_eq_getElem?_getD, hi]

/-- A slice of len int64s, zs, that came in, or was made: it lies below the heap's end. -/
def Ints (w : World) (a : Option Addr) (len : Nat) (zs : List Int) : Prop :=
  len = 0 ∨ ∃ b off, a = some ⟨b, off, none⟩ ∧ b < w.heap.size ∧ ∀ i, i < len → w.cell? ⟨b, off + i, none⟩ = some (.int .i64 (zs.getD i 0))

def Est (w : World) (b : Nat) (s v l : Int) (h : Bool) : Prop :=
  w.heap[b]? = some (.cells #[.int .i64 s, .int .i64 v, .int .i64 l, .bool h] 35 (0, 0))

def ct (t : Int) : Int := if t < 0 then 0 else if 4096 < t then 4096 else t
def sS (h : Bool) (s t : Int) : Int := if h then (7 * s + t) / 8 else t
def sV (h : Bool) (s v t : Int) : Int := if h then (3 * v + (if s - t < t - s then t - s else s - t)) / 4 else t / 2
def sL (h : Bool) (l t : Int) : Int := if h then (if t < l then t else l) else t

set_option maxHeartbeats 1000000 in
theorem sample_any (w : World) (b : Nat) (s v l t : Int) (h : Bool) (hs : 0 ≤ s ∧ s ≤ 4096) (hv : 0 ≤ v ∧ v ≤ 4096) (hE : Est w b s v l h) :
    Calls Try.prog 8 #[.pointer (some ⟨b, 0, none⟩), .int .i64 t] w fun e w' =>
    e = .returned (.tuple #[]) ∧ At w' b #[.int .i64 (sS h s (ct t)), .int .i64 (sV h s v (ct t)), .int .i64 (sL h l (ct t)), .bool true] 35 w := by
  have c0 : w.cell? ⟨b, 0, none⟩ = some (.int .i64 s) := by rw [cell_of_row _ _ _ _ _ _ hE]; rfl
  have c1 : w.cell? ⟨b, 1, none⟩ = some (.int .i64 v) := by rw [cell_of_row _ _ _ _ _ _ hE]; rfl
  have c2 : w.cell? ⟨b, 2, none⟩ = some (.int .i64 l) := by rw [cell_of_row _ _ _ _ _ _ hE]; rfl
  have c3 : w.cell? ⟨b, 3, none⟩ = some (.bool h) := by rw [cell_of_row _ _ _ _ _ _ hE]; rfl
  have f0 : w.frozen? ⟨b, 0, none⟩ = false := frozen_of_row _ _ _ _ _ hE
  have f1 : w.frozen? ⟨b, 1, none⟩ = false := frozen_of_row _ _ _ _ _ hE
  have f2 : w.frozen? ⟨b, 2, none⟩ = false := frozen_of_row _ _ _ _ _ hE
  have f3 : w.frozen? ⟨b, 3, none⟩ = false := frozen_of_row _ _ _ _ _ hE
  have HE := Lib.hid (At.base hE); clear hE
  obtain ⟨m, hm⟩ : ∃ m, (if 4096 < t then 4096 else t) = m := ⟨_, rfl⟩
  obtain ⟨c, hc⟩ : ∃ c, (if 0 < m then m else 0) = c := ⟨_, rfl⟩
  have hct : ct t = c := by rw [← hc, ← hm]; unfold ct; (repeat' split) <;> omega
  have hc1 : 0 ≤ c ∧ c ≤ 4096 := by rw [← hct]; unfold ct; (repeat' split) <;> omega
  rw [hct]; clear hct
  obtain ⟨l', hl⟩ : ∃ l', (if c < l then c else l) = l' := ⟨_, rfl⟩
  obtain ⟨d, hd⟩ : ∃ d, (if s - c < c - s then c - s else s - c) = d := ⟨_, rfl⟩
  have hd1 : 0 ≤ d ∧ d ≤ 4096 := by rw [← hd]; split <;> omega
  have e1 : sS h s c = if h then (7 * s + c) / 8 else c := rfl
  have e2 : sV h s v c = if h then (3 * v + d) / 4 else c / 2 := by rw [← hd]; rfl
  have e3 : sL h l c = if h then l' else c := by rw [← hl]; rfl
  rw [e1, e2, e3]; clear e1 e2 e3
  cases h
  · go_enter Try.func8, Try.ntmps8
    go_wp2
    refine bodyPost_ret (results_none rfl _ _ _) rfl ?_
    refine ⟨rfl, ?_⟩
    apply At.conv
    · repeat (first | exact HE.out | apply At.set | apply At.drewN)
    · rfl
  · go_enter Try.func8, Try.ntmps8
    go_wp2
    go_quiet (fail)
    go_wp2
    go_end0
    refine ⟨rfl, ?_⟩
    apply At.conv
    · repeat (first | exact HE.out | apply At.set | apply At.drewN)
    · rfl

theorem new_any (w : World) : Calls Try.prog 7 #[] w fun e w' =>
    e = .returned (.pointer (some ⟨w.heap.size, 0, none⟩)) ∧ Fresh w w' (.cells #[.int .i64 10, .int .i64 5, .int .i64 0, .bool false] 35) := by
  go_enter Try.func7, Try.ntmps7
  go_wp2
  go_ret
  exact ⟨rfl, Fresh.of_alloc _ _⟩

theorem rnew_any (w : World) : Calls Try.prog 16 #[] w fun e w' =>
    e = .returned (.pointer (some ⟨w.heap.size, 0, none⟩)) ∧ Fresh w w' (.cells #[.int .i64 10, .int .i64 5, .int .i64 0, .bool false] 41) := by
  go_enter Try.func16, Try.ntmps16
  go_wp2
  go_ret
  exact ⟨rfl, Fresh.of_alloc _ _⟩

theorem least_any (w : World) (b : Nat) (l : Int) (h : Bool) (c2 : w.cell? ⟨b, 2, none⟩ = some (.int .i64 l)) (c3 : w.cell? ⟨b, 3, none⟩ = some (.bool h)) :
    Quiet Try.prog 13 #[.pointer (some ⟨b, 0, none⟩)] w (.tuple #[.int .i64 l, .bool h]) := by
  go_enter Try.func13, Try.ntmps13
  go_wp2
  go_quiet (fail)
  go_wp2
  go_ret2
  exact ⟨rfl, _, rfl⟩

theorem smoothed_any (w : World) (b : Nat) (s : Int) (c0 : w.cell? ⟨b, 0, none⟩ = some (.int .i64 s)) :
    Quiet Try.prog 14 #[.pointer (some ⟨b, 0, none⟩)] w (.int .i64 s) := by
  refine Quiet.same ?_
  go_enter Try.func14, Try.ntmps14
  go_wp2
  go_ret
  exact ⟨rfl, rfl⟩

theorem var_any (w : World) (b : Nat) (v : Int) (c1 : w.cell? ⟨b, 1, none⟩ = some (.int .i64 v)) :
    Quiet Try.prog 15 #[.pointer (some ⟨b, 0, none⟩)] w (.int .i64 v) := by
  refine Quiet.same ?_
  go_enter Try.func15, Try.ntmps15
  go_wp2
  go_ret
  exact ⟨rfl, rfl⟩

def ck (k : Int) : Int := if k < 0 then 0 else if 6 < k then 6 else k
def perM (s v k : Int) : Int := (s + (if 4 * v < 1 then 1 else 4 * v) + 2) * 2 ^ (ck k).toNat
theorem ck_le (k : Int) : 0 ≤ ck k ∧ ck k ≤ 6 := by
  unfold ck; repeat' split
  all_goals omega

theorem pow_le (k : Nat) (h : k ≤ 6) : (1 : Int) ≤ 2 ^ k ∧ (2 : Int) ^ k ≤ 64 := by
  have : k = 0 ∨ k = 1 ∨ k = 2 ∨ k = 3 ∨ k = 4 ∨ k = 5 ∨ k = 6 := by omega
  rcases this with rfl | rfl | rfl | rfl | rfl | rfl | rfl <;> decide

theorem mul_pow_in (x : Int) (k : Nat) (hx : 0 ≤ x ∧ x ≤ 20482) (h : k ≤ 6) : 0 ≤ x * 2 ^ k ∧ x * 2 ^ k < 2097152 := by
  have : k = 0 ∨ k = 1 ∨ k = 2 ∨ k = 3 ∨ k = 4 ∨ k = 5 ∨ k = 6 := by omega
  rcases this with rfl | rfl | rfl | rfl | rfl | rfl | rfl <;> omega

theorem period_any (w : World) (b : Nat) (s v k : Int) (hs : 0 ≤ s ∧ s ≤ 4096) (hv : 0 ≤ v ∧ v ≤ 4096)
    (c0 : w.cell? ⟨b, 0, none⟩ = some (.int .i64 s)) (c1 : w.cell? ⟨b, 1, none⟩ = some (.int .i64 v)) :
    Quiet Try.prog 9 #[.pointer (some ⟨b, 0, none⟩), .int .i64 k] w (.int .i64 (perM s v k)) := by
  obtain ⟨m, hm⟩ : ∃ m, (if 6 < k then 6 else k) = m := ⟨_, rfl⟩
  obtain ⟨c, hc⟩ : ∃ c, (if 0 < m then m else 0) = c := ⟨_, rfl⟩
  obtain ⟨x, hx⟩ : ∃ x, (if 4 * v < 1 then 1 else 4 * v) = x := ⟨_, rfl⟩
  have hx1 : 0 ≤ x ∧ x ≤ 16384 := by rw [← hx]; split <;> omega
  have hct : ck k = c := by rw [← hc, ← hm]; unfold ck; (repeat' split) <;> omega
  have hc1 : 0 ≤ c ∧ c ≤ 6 := by have := ck_le k; omega
  have e1 : perM s v k = (s + x + 2) * 2 ^ c.toNat := by rw [← hct, ← hx]; rfl
  have hw := mul_pow_in (s + x + 2) c.toNat (by omega) (by omega)
  have E1 := Lib.hid e1; clear e1 hct
  go_enter Try.func9, Try.ntmps9
  go_wp2
  go_quiet (fail)
  go_wp2
  go_ret
  refine ⟨?_, _, rfl⟩
  rw [E1.out]; rfl

theorem rperiod_any (w : World) (b : Nat) (s v k : Int) (hs : 0 ≤ s ∧ s ≤ 4096) (hv : 0 ≤ v ∧ v ≤ 4096)
    (c0 : w.cell? ⟨b, 0, none⟩ = some (.int .i64 s)) (c1 : w.cell? ⟨b, 1, none⟩ = some (.int .i64 v)) :
    Quiet Try.prog 19 #[.pointer (some ⟨b, 0, none⟩), .int .i64 k] w (.int .i64 (perM s v k)) := by
  obtain ⟨m, hm⟩ : ∃ m, (if 6 < k then 6 else k) = m := ⟨_, rfl⟩
  obtain ⟨c, hc⟩ : ∃ c, (if m < 0 then 0 else m) = c := ⟨_, rfl⟩
  obtain ⟨x, hx⟩ : ∃ x, (if 4 * v < 1 then 1 else 4 * v) = x := ⟨_, rfl⟩
  have hx1 : 0 ≤ x ∧ x ≤ 16384 := by rw [← hx]; split <;> omega
  have hct : ck k = c := by rw [← hc, ← hm]; unfold ck; (repeat' split) <;> omega
  have hc1 : 0 ≤ c ∧ c ≤ 6 := by have := ck_le k; omega
  have e1 : perM s v k = (s + x + 2) * 2 ^ c.toNat := by rw [← hct, ← hx]; rfl
  have E1 := Lib.hid e1; clear e1 hct
  go_enter Try.func19, Try.ntmps19
  go_wp2
  go_quiet (fail)
  go_wp2
  go_loop [5, 6] (fun i p => ∃ j : Nat, j ≤ c.toNat ∧ i = .int .i64 ((c.toNat - j : Nat) : Int) ∧ p = .int .i64 ((s + x + 2) * 2 ^ j)) (fun i _ => (intOf i).toNat)
  case atStart => exact ⟨0, Nat.zero_le _, by congr 1; omega, by simp⟩
  case round =>
    obtain ⟨j, hj, rfl, rfl⟩ := hrel
    have hb := mul_pow_in (s + x + 2) j (by omega) (by omega)
    by_cases hlt : j < c.toNat
    · have hb2 := mul_pow_in (s + x + 2) (j + 1) (by omega) (by omega)
      go_wp2
      go_round
      case rel => exact ⟨j + 1, by omega, by congr 1; omega, by congr 1; rw [Int.pow_succ, Int.mul_comm 2, Int.mul_assoc]⟩
      case measure => simp [intOf]; omega
    · go_wp2
      go_ret
      refine ⟨?_, _, rfl⟩
      obtain rfl : j = c.toNat := by omega
      rw [E1.out]; rfl

set_option maxHeartbeats 1000000 in
theorem rsample_any (w : World) (b : Nat) (s v l t : Int) (h : Bool) (hs : 0 ≤ s ∧ s ≤ 4096) (hv : 0 ≤ v ∧ v ≤ 4096) (hE : w.heap[b]? = some (.cells #[.int .i64 s, .int .i64 v, .int .i64 l, .bool h] 41 (0, 0))) :
    Calls Try.prog 17 #[.pointer (some ⟨b, 0, none⟩), .int .i64 t] w fun e w' =>
    e = .returned (.tuple #[]) ∧ At w' b #[.int .i64 (sS h s (ct t)), .int .i64 (sV h s v (ct t)), .int .i64 (sL h l (ct t)), .bool true] 41 w := by
  have c0 : w.cell? ⟨b, 0, none⟩ = some (.int .i64 s) := by rw [cell_of_row _ _ _ _ _ _ hE]; rfl
  have c1 : w.cell? ⟨b, 1, none⟩ = some (.int .i64 v) := by rw [cell_of_row _ _ _ _ _ _ hE]; rfl
  have c2 : w.cell? ⟨b, 2, none⟩ = some (.int .i64 l) := by rw [cell_of_row _ _ _ _ _ _ hE]; rfl
  have c3 : w.cell? ⟨b, 3, none⟩ = some (.bool h) := by rw [cell_of_row _ _ _ _ _ _ hE]; rfl
  have f0 : w.frozen? ⟨b, 0, none⟩ = false := frozen_of_row _ _ _ _ _ hE
  have f1 : w.frozen? ⟨b, 1, none⟩ = false := frozen_of_row _ _ _ _ _ hE
  have f2 : w.frozen? ⟨b, 2, none⟩ = false := frozen_of_row _ _ _ _ _ hE
  have f3 : w.frozen? ⟨b, 3, none⟩ = false := frozen_of_row _ _ _ _ _ hE
  have HE := Lib.hid (At.base hE); clear hE
  obtain ⟨m, hm⟩ : ∃ m, (if 4096 < t then 4096 else t) = m := ⟨_, rfl⟩
  obtain ⟨c, hc⟩ : ∃ c, (if m < 0 then 0 else m) = c := ⟨_, rfl⟩
  have hct : ct t = c := by rw [← hc, ← hm]; unfold ct; (repeat' split) <;> omega
  have hc1 : 0 ≤ c ∧ c ≤ 4096 := by rw [← hct]; unfold ct; (repeat' split) <;> omega
  rw [hct]; clear hct
  obtain ⟨l', hl⟩ : ∃ l', (if c < l then c else l) = l' := ⟨_, rfl⟩
  have e3 : sL h l c = if h then l' else c := by rw [← hl]; rfl
  rw [e3]; clear e3
  cases h
  · go_enter Try.func17, Try.ntmps17
    go_wp2
    refine bodyPost_ret (results_none rfl _ _ _) rfl ?_
    refine ⟨rfl, ?_⟩
    apply At.conv
    · repeat (first | exact HE.out | apply At.set | apply At.drewN)
    · rfl
  · by_cases hd : s - c < 0
    all_goals
      have e2 : (if s - c < c - s then c - s else s - c) = (if s - c < 0 then -(s - c) else s - c) := by (repeat' split) <;> omega
      have E2 := Lib.hid e2; clear e2
      go_enter Try.func17, Try.ntmps17
      go_wp2
      go_end0
      refine ⟨rfl, ?_⟩
      apply At.conv
      · repeat (first | exact HE.out | apply At.set | apply At.drewN)
      · unfold sV; rw [E2.out]; simp [sS]; (try split) <;> omega


theorem period_row (w : World) (b : Nat) (s v k : Int) (c : Value) (d : Value) (hs : 0 ≤ s ∧ s ≤ 4096) (hv : 0 ≤ v ∧ v ≤ 4096)
    (hb : w.heap[b]? = some (.cells #[.int .i64 s, .int .i64 v, c, d] 35 (0, 0))) : Quiet Try.prog 9 #[.pointer (some ⟨b, 0, none⟩), .int .i64 k] w (.int .i64 (perM s v k)) :=
  period_any w b s v k hs hv (by rw [cell_of_row _ _ _ _ _ _ hb]; rfl) (by rw [cell_of_row _ _ _ _ _ _ hb]; rfl)
theorem var_row (w : World) (b : Nat) (s v c d : Value) (hb : w.heap[b]? = some (.cells #[s, v, c, d] 35 (0, 0))) (n : Int) (hv : v = .int .i64 n) : Quiet Try.prog 15 #[.pointer (some ⟨b, 0, none⟩)] w v := by
  subst hv; exact var_any w b n (by rw [cell_of_row _ _ _ _ _ _ hb]; rfl)
theorem smoothed_row (w : World) (b : Nat) (s v c d : Value) (hb : w.heap[b]? = some (.cells #[s, v, c, d] 35 (0, 0))) (n : Int) (hv : s = .int .i64 n) : Quiet Try.prog 14 #[.pointer (some ⟨b, 0, none⟩)] w s := by
  subst hv; exact smoothed_any w b n (by rw [cell_of_row _ _ _ _ _ _ hb]; rfl)
theorem least_row (w : World) (b : Nat) (s v : Value) (l : Int) (h : Bool) (hb : w.heap[b]? = some (.cells #[s, v, .int .i64 l, .bool h] 35 (0, 0))) : Quiet Try.prog 13 #[.pointer (some ⟨b, 0, none⟩)] w (.tuple #[.int .i64 l, .bool h]) :=
  least_any w b l h (by rw [cell_of_row _ _ _ _ _ _ hb]; rfl) (by rw [cell_of_row _ _ _ _ _ _ hb]; rfl)
end Go.Proofs.Ytiekmmcjlhbeoaa
