/- hello: the plain model of a side; how it lies in memory. -/
import Derived.Test.YtlpajohhnngbmaaPrm8
import Derived.Test.YtlpajohhnngbmaaLock
import Derived.Test.YtlpajohhnngbmaaLit
import Derived.Test.YtlpajohhnngbmaaFull
namespace Go.Proofs.Ytlpajohhnngbmaa
open Go.RowKit
set_option linter.unusedVariables false

structure Sd where
  asks : Bool
  psk : Int
  o0 : List Int
  o1 : List Int
  i0 : List Int
  i1 : List Int
  h0 : Bool
  h1 : Bool
  sh : Int
  knows : Bool
  done : Bool
  th : Pm
  code : Int
def msgM (k : Int) (b : List Int) : List Int := [k, (b.length : Int) / 256, (b.length : Int) % 256] ++ b
def labM (asker : Bool) : List Int := if asker then [99, 108, 105, 101, 110, 116] else [115, 101, 114, 118, 101, 114]
def finM (sh : Int) (asker : Bool) : List Int := bytesM (keyedM sh (labM asker))
def greetM (s : Sd) (b : List Int) : Sd × Int :=
  if b.length < 11 then (s, 8)
  else if (decF (b.drop 11)).2 = false then (s, 8)
  else if s.asks = true then ({ s with th := (decF (b.drop 11)).1, knows := true, sh := keyedM s.psk (s.o0 ++ b) }, 0)
  else ({ s with th := (decF (b.drop 11)).1, knows := true, o0 := s.o1, sh := keyedM s.psk (b ++ s.o1), o1 := msgM 20 (finM (keyedM s.psk (b ++ s.o1)) false) }, 0)
def endedM (s : Sd) (b : List Int) : Sd × Int :=
  if b.drop 3 = finM s.sh (!s.asks) then ({ s with done := true, o1 := if s.asks = true then msgM 20 (finM s.sh true) else s.o1 }, 0) else (s, 40)
/-- the message's length, whether all of it is there, a code. -/
def sizeHM (sp : Bool) (knows : Bool) (b : List Int) : Nat × Bool × Int :=
  if 0 < b.length ∧ (b.getD 0 0 ≠ (if sp then 20 else 1) ∨ (sp = true ∧ knows = false)) then (0, false, 10)
  else if b.length < 3 then (0, false, 0)
  else if b.getD 1 0 * 256 + b.getD 2 0 > 200 then (0, false, 10)
  else (3 + (b.getD 1 0 * 256 + b.getD 2 0).toNat, decide (3 + (b.getD 1 0 * 256 + b.getD 2 0).toNat ≤ b.length), 0)
/-- a whole message is taken. -/
def wholeMsgM (s : Sd) (sp : Bool) (n : Nat) (l : List Int) : Sd × Int :=
  let r := if sp then endedM s (l.take n) else greetM s (l.take n)
  if r.2 = 0 ∧ n < l.length then (r.1, 10) else r
def putIn (s : Sd) (sp : Bool) (l : List Int) : Sd := if sp then { s with i1 := l } else { s with i0 := l }
def heardM (s : Sd) (sp : Bool) : Sd := if sp then { s with h1 := true } else { s with h0 := true }
def inM (s : Sd) (sp : Bool) : List Int := if sp then s.i1 else s.i0
def feedM (s : Sd) (sp : Int) (b : List Int) : Sd × Int :=
  if sp < 0 ∨ 2 ≤ sp then (s, 10)
  else if (if sp = 1 then s.h1 else s.h0) = true then (s, 10)
  else
    let l := inM s (decide (sp = 1)) ++ b
    let s1 := putIn s (decide (sp = 1)) l
    let z := sizeHM (decide (sp = 1)) s.knows l
    if z.2.2 ≠ 0 ∨ z.2.1 = false then (s1, z.2.2) else wholeMsgM (heardM s1 (decide (sp = 1))) (decide (sp = 1)) z.1 l
def FeedM (s : Sd) (sp : Int) (b : List Int) : Sd × Int :=
  if s.code = 0 ∧ 0 < b.length then ({ (feedM s sp b).1 with code := (feedM s sp b).2 }, (feedM s sp b).2) else (s, s.code)

/-! in memory -/
def sdRow (s : Sd) (v0 v1 u0 u1 : Value) : List Value :=
  [.bool s.asks, .int .u64 s.psk, v0, v1, u0, u1, .bool s.h0, .bool s.h1, .int .u64 s.sh, .bool s.knows, .bool s.done] ++ (s.th.row ++ [.int .i64 s.code])
theorem pm_len {p : Pm} (h : p.f.length = 8) : p.row.length = 12 := by simp [Pm.row, h]
theorem sdRow_len (s : Sd) (v0 v1 u0 u1 : Value) (h : s.th.f.length = 8) : (sdRow s v0 v1 u0 u1).length = 24 := by
  unfold sdRow; rw [List.length_append, List.length_append, pm_len h]; rfl
theorem sdRow_code (s : Sd) (v0 v1 u0 u1 : Value) (h : s.th.f.length = 8) : (sdRow s v0 v1 u0 u1)[23]? = some (.int .i64 s.code) := by
  unfold sdRow
  rw [List.getElem?_append_right (by simp), List.getElem?_append_right (by rw [pm_len h]; simp), pm_len h]
  rfl
theorem sdRow_setcode (s : Sd) (v0 v1 u0 u1 : Value) (h : s.th.f.length = 8) (c : Int) : (sdRow s v0 v1 u0 u1).set 23 (.int .i64 c) = sdRow { s with code := c } v0 v1 u0 u1 := by
  unfold sdRow
  rw [List.set_append_right _ _ (by simp), List.set_append_right _ _ (by rw [pm_len h]; simp), pm_len h]
  rfl
/-- what is as it was: all but the blocks M. -/
structure Off (M : List Nat) (w y : World) : Prop where
  os : y.os = w.os
  tape : y.tape = w.tape
  output : y.output = w.output
  size : w.heap.size ≤ y.heap.size
  block : ∀ i, i < w.heap.size → i ∉ M → y.heap[i]? = w.heap[i]?
theorem Off.refl (M : List Nat) (w : World) : Off M w w := ⟨rfl, rfl, rfl, Nat.le_refl _, fun _ _ _ => rfl⟩
theorem Off.of_below {M : List Nat} {w y : World} (h : Below w.heap.size w y) : Off M w y := ⟨h.os, h.tape, h.output, h.size, fun i hi _ => h.block i hi⟩
theorem Off.trans {M N : List Nat} {w y z : World} (h : Off M w y) (k : Off N y z) (hN : ∀ x ∈ N, x ∈ M ∨ w.heap.size ≤ x) : Off M w z :=
  ⟨k.os.trans h.os, k.tape.trans h.tape, k.output.trans h.output, Nat.le_trans h.size k.size, fun i hi hm => (k.block i (Nat.lt_of_lt_of_le hi h.size) (fun hn => by rcases hN i hn with h1 | h1; exact hm h1; omega)).trans (h.block i hi hm)⟩
theorem Off.below {M : List Nat} {B : Nat} {w y : World} (h : Off M w y) (hB : B ≤ w.heap.size) (hM : ∀ x ∈ M, B ≤ x) : Below B w y :=
  ⟨h.os, h.tape, h.output, h.size, fun i hi => h.block i (by omega) (fun hm => by have := hM i hm; omega)⟩
theorem IntsK.off {k : IntKind} {w y : World} {M : List Nat} {a : Option Addr} {n : Nat} {xs : List Int} (h : IntsK k w a n xs) (ho : Off M w y) (ha : 0 < n → ∀ x, a = some x → x.block ∉ M) : IntsK k y a n xs := by
  refine ⟨h.1, h.2.1, ?_⟩
  rcases h.2.2 with h0 | ⟨b, off, rfl, hb, hc⟩
  · exact .inl h0
  · by_cases hn : 0 < n
    · have hm := ha hn _ rfl
      refine .inr ⟨b, off, rfl, Nat.lt_of_lt_of_le hb ho.size, fun i hi => ?_⟩
      rw [← hc i hi]
      simp only [World.cell?, ho.block b hb hm]
    · exact .inl (by omega)
theorem own_off {w y : World} {M : List Nat} {B e n s : Nat} {v : Value} {xs : List Value} (h : w.ownsRow B e s v n xs) (ho : Off M w y) (hm : ∀ g, v.ownBlock = some g → g ∉ M) : y.ownsRow B e s v n xs :=
  own_ch h fun k hk hlt => ho.block k hlt (hm k hk)
/-- a side, in its block p: blocks of M are written, those of K are not. -/
structure SdAt (w : World) (p : Nat) (M K : List Nat) (s : Sd) (a0 a1 b0 b1 : Option Addr) (c0 c1 d0 d1 : Nat) : Prop where
  row : w.heap[p]? = some (.cells (sdRow s (.slice a0 s.o0.length c0) (.slice a1 s.o1.length c1) (.slice b0 s.i0.length d0) (.slice b1 s.i1.length d1)).toArray 69 (0, 0))
  ok : s.th.ok
  wsh : (Lit.int .u64 s.sh).wf = true
  t0 : IntsK .u8 w a0 s.o0.length s.o0
  t1 : IntsK .u8 w a1 s.o1.length s.o1
  n0 : s.o0.length ≤ 1000
  n1 : s.o1.length ≤ 1000
  k0 : ∀ x, a0 = some x → x.block ∈ K
  k1 : ∀ x, a1 = some x → x.block ∈ K
  j0 : w.ownsRow 0 5 1 (.slice b0 s.i0.length d0) s.i0.length (s.i0.map (Value.int .u8))
  j1 : w.ownsRow 0 5 1 (.slice b1 s.i1.length d1) s.i1.length (s.i1.map (Value.int .u8))
  w0 : ∀ x ∈ s.i0, (Lit.int .u8 x).wf = true
  w1 : ∀ x ∈ s.i1, (Lit.int .u8 x).wf = true
  m0 : ∀ x, b0 = some x → x.block ∈ M
  m1 : ∀ x, b1 = some x → x.block ∈ M
  ne : ∀ x y, b0 = some x → b1 = some y → x.block ≠ y.block
  pm : p ∈ M
  lt : ∀ x, x ∈ M ∨ x ∈ K → x < w.heap.size
  dis : ∀ x ∈ K, x ∉ M
section
variable {w y : World} {p : Nat} {M K N : List Nat} {s : Sd} {a0 a1 b0 b1 : Option Addr} {c0 c1 d0 d1 : Nat}
theorem own_blk {a : Option Addr} {n c : Nat} {g : Nat} (h : (Value.slice a n c).ownBlock = some g) : ∃ x, a = some x ∧ x.block = g := by
  cases a with
  | none => cases h
  | some x => exact ⟨x, rfl, by injection h⟩
theorem SdAt.off (h : SdAt w p M K s a0 a1 b0 b1 c0 c1 d0 d1) (ho : Off N w y) (hM : ∀ x ∈ N, x ∉ M) (hK : ∀ x ∈ N, x ∉ K) : SdAt y p M K s a0 a1 b0 b1 c0 c1 d0 d1 := by
  have hM' : ∀ x ∈ M, x ∉ N := fun x hx hn => hM x hn hx
  have hK' : ∀ x ∈ K, x ∉ N := fun x hx hn => hK x hn hx
  exact ⟨(ho.block p (h.lt p (.inl h.pm)) (hM' p h.pm)).trans h.row, h.ok, h.wsh, h.t0.off ho (fun _ x hx => hK' _ (h.k0 x hx)), h.t1.off ho (fun _ x hx => hK' _ (h.k1 x hx)), h.n0, h.n1, h.k0, h.k1,
    own_off h.j0 ho (fun g hg => by obtain ⟨x, hx, rfl⟩ := own_blk hg; exact hM' _ (h.m0 x hx)), own_off h.j1 ho (fun g hg => by obtain ⟨x, hx, rfl⟩ := own_blk hg; exact hM' _ (h.m1 x hx)),
    h.w0, h.w1, h.m0, h.m1, h.ne, h.pm, fun x hx => Nat.lt_of_lt_of_le (h.lt x hx) ho.size, h.dis⟩
theorem SdAt.below (h : SdAt w p M K s a0 a1 b0 b1 c0 c1 d0 d1) (hb : Below w.heap.size w y) : SdAt y p M K s a0 a1 b0 b1 c0 c1 d0 d1 :=
  h.off (N := []) (Off.of_below hb) (fun x hx => by cases hx) (fun x hx => by cases hx)
end
end Go.Proofs.Ytlpajohhnngbmaa
