/- texts of the proof, laid together: Base, Book, Own, Grow, MixM, Low, Bits, Get, GetR, Oct, Oct2, Oct3, Put, PutGet. -/
import Derived.Test.YtmbjepcbokbemaaRows
import Derived.WalkKit
import Derived.ProofKit
import Derived.OpenShut
import Derived.Deep.QuietTactic
import Derived.BigQuiet
import Derived.Lib.Hide
import Derived.WalkSpells
import Derived.Laws.BytesArg
import Derived.Laws.CopyOwn
import Derived.Deep.AppendSrc
import Derived.Deep.Upon
import Derived.Laws.BitsAllLaws
import Derived.Deep.DeepCutAuto
import Derived.Deep.CutBlock
set_option linter.unusedVariables false
set_option linter.unusedSimpArgs false
set_option maxRecDepth 100000
set_option maxHeartbeats 16000000
namespace Go.Proofs.Ytmbjepcbokbemaa
theorem Qh {p : Prop} (h : p) : Go.RowKit.Hid p := h
open Go.RowKit
theorem grown_refl (w : World) (r : Option Nat) : w.grownBy w r := ⟨rfl, rfl, rfl, Nat.le_refl _, fun _ _ _ => rfl⟩
theorem grown_trans {a b c : World} {r : Option Nat} (h : a.grownBy b r) (k : b.grownBy c r) : a.grownBy c r :=
 ⟨k.os.trans h.os, k.tape.trans h.tape, k.output.trans h.output, Nat.le_trans h.size k.size,
  fun i hi hr => (k.block i (Nat.lt_of_lt_of_le hi h.size) hr).trans (h.block i hi hr)⟩
theorem grown_drewN (w : World) (n : Nat) (r : Option Nat) : w.grownBy (w.drewN n) r := ⟨rfl, rfl, rfl, Nat.le_refl _, fun _ _ _ => rfl⟩
theorem grown_drew (w : World) (r : Option Nat) : w.grownBy w.drew r := ⟨rfl, rfl, rfl, Nat.le_refl _, fun _ _ _ => rfl⟩
theorem grown_setCell (w : World) (b i : Nat) (u : Value) : w.grownBy (w.setCell ⟨b, i, none⟩ u) (some b) :=
 ⟨rfl, rfl, rfl, by simp, fun k hk hr => Below.heap_setCell _ _ _ _ (fun e => hr (by simp [e]))⟩
theorem grown_below {w w' : World} (h : Below w.heap.size w w') (r : Option Nat) : w.grownBy w' r := ⟨h.os, h.tape, h.output, h.size, fun i hi _ => h.block i hi⟩
theorem grown_alloc (w : World) (o : Obj) (r : Option Nat) : w.grownBy (w.alloc o) r := grown_below ((Below.refl _ _).alloc (Nat.le_refl _) _) r
theorem bl_row {B : Nat} {a w : World} (h : Below B a w) {b : Nat} {o : Obj} (hb : b < B) (e : a.heap[b]? = some o) : w.heap[b]? = some o := (h.block b hb).trans e
theorem bl_cell {B : Nat} {a w : World} (h : Below B a w) {p : Addr} {v : Value} (hb : p.block < B) (e : a.cell? p = some v) : w.cell? p = some v := (h.cell hb).trans e
theorem bl_next {B : Nat} {a w w' : World} (h : Below B a w) (hB : B ≤ w.heap.size) (k : Below w.heap.size w w') : Below B a w' := h.trans (k.mono hB)
theorem grown_row {a w : World} {r : Option Nat} (h : a.grownBy w r) {b : Nat} {o : Obj} (hr : some b ≠ r) (e : a.heap[b]? = some o) : w.heap[b]? = some o :=
 (h.block b (lt_of_block e) hr).trans e
structure At (w : World) (b : Nat) (cs : Array Value) (t : TypeId) (w0 : World) : Prop where
 row : w.heap[b]? = some (.cells cs t (0, 0))
 rest : w0.grownBy w (some b)
theorem At.base {w : World} {b : Nat} {cs : Array Value} {t : TypeId} (h : w.heap[b]? = some (.cells cs t (0, 0))) : At w b cs t w := ⟨h, grown_refl _ _⟩
theorem At.set {w w0 : World} {b : Nat} {cs : Array Value} {t : TypeId} (h : At w b cs t w0) (i : Nat) (u : Value) : At (w.setCell ⟨b, i, none⟩ u) b (cs.setIfInBounds i u) t w0 :=
 ⟨heap_setCell_same _ _ _ _ _ _ h.row, grown_trans h.rest (grown_setCell _ _ _ _)⟩
theorem At.drewN {w w0 : World} {b : Nat} {cs : Array Value} {t : TypeId} (h : At w b cs t w0) (n : Nat) : At (w.drewN n) b cs t w0 :=
 ⟨h.row, grown_trans h.rest (grown_drewN _ _ _)⟩
theorem At.alloc {w w0 : World} {b : Nat} {cs : Array Value} {t : TypeId} (h : At w b cs t w0) (o : Obj) : At (w.alloc o) b cs t w0 :=
 ⟨grown_row (grown_alloc w o none) (by simp) h.row, grown_trans h.rest (grown_alloc _ _ _)⟩
theorem At.conv {w w0 : World} {b : Nat} {cs cs' : Array Value} {t : TypeId} (h : At w b cs t w0) (e : cs = cs') : At w b cs' t w0 := e ▸ h
theorem At.cell {w w0 : World} {b : Nat} {cs : Array Value} {t : TypeId} (h : At w b cs t w0) (i : Nat) (v : Value) (hv : cs[i]? = some v) : w.cell? ⟨b, i, none⟩ = some v := by
 rw [cell_of_row _ _ _ _ _ _ h.row]; exact hv
theorem row_cell {w : World} {b : Nat} {cs : Array Value} {t : TypeId} (h : w.heap[b]? = some (.cells cs t (0, 0))) (i : Nat) (v : Value) (hv : cs[i]? = some v) : w.cell? ⟨b, i, none⟩ = some v := by
 rw [cell_of_row _ _ _ _ _ _ h]; exact hv
theorem row_free {w : World} {b : Nat} {cs : Array Value} {t : TypeId} (h : w.heap[b]? = some (.cells cs t (0, 0))) (i : Nat) : w.frozen? ⟨b, i, none⟩ = false := frozen_of_row _ _ _ _ _ h
structure Fresh (w w' : World) (o : Obj) : Prop where
 row : w'.heap[w.heap.size]? = some o
 size : w'.heap.size = w.heap.size + 1
 below : Below w.heap.size w w'
def Quiet (P : Program) (f : FuncId) (args : Array Value) (w : World) (v : Value) : Prop :=
 Calls P f args w fun e w' => e = .returned v ∧ ∃ n, w' = w.drewN n
theorem Quiet.same {P : Program} {f : FuncId} {args : Array Value} {w : World} {v : Value} (h : Calls P f args w fun e w' => e = .returned v ∧ w' = w) : Quiet P f args w v :=
 h.mono fun _ _ ⟨he, hw⟩ => ⟨he, 0, hw⟩
def Makes (P : Program) (f : FuncId) (args : Array Value) (w : World) (v : Value) : Prop :=
 Calls P f args w fun e w' => e = .returned v ∧ Below w.heap.size w w'
def IntsK (k : IntKind) (w : World) (a : Option Addr) (len : Nat) (zs : List Int) : Prop :=
 zs.length = len ∧ (∀ n ∈ zs, (Lit.int k n).wf = true) ∧
   (len = 0 ∨ ∃ b off, a = some ⟨b, off, none⟩ ∧ b < w.heap.size ∧ ∀ i, i < len → w.cell? ⟨b, off + i, none⟩ = some (.int k (zs.getD i 0)))
theorem IntsK.nil (k : IntKind) (w : World) (a : Option Addr) : IntsK k w a 0 [] := ⟨rfl, by simp, .inl rfl⟩
theorem IntsK.below {k : IntKind} {w w' : World} {a : Option Addr} {len : Nat} {zs : List Int} (h : IntsK k w a len zs) (hb : Below w.heap.size w w') : IntsK k w' a len zs := by
 refine ⟨h.1, h.2.1, ?_⟩
 rcases h.2.2 with h0 | ⟨b, off, rfl, hbl, hc⟩
 ·
   exact .inl h0
 ·
   exact .inr ⟨b, off, rfl, Nat.lt_of_lt_of_le hbl hb.size, fun i hi => bl_cell hb (p := ⟨b, off + i, none⟩) hbl (hc i hi)⟩
theorem IntsK.grown {k : IntKind} {w w' : World} {a : Option Addr} {len : Nat} {zs : List Int} {r : Option Nat} (h : IntsK k w a len zs) (hb : w.grownBy w' r) (hr : ∀ x, a = some x → some x.block ≠ r) : IntsK k w' a len zs := by
 refine ⟨h.1, h.2.1, ?_⟩
 rcases h.2.2 with h0 | ⟨b, off, rfl, hbl, hc⟩
 ·
   exact .inl h0
 ·
   exact .inr ⟨b, off, rfl, Nat.lt_of_lt_of_le hbl hb.size, fun i hi => hb.cell (hc i hi) (by have := hr ⟨b, off, none⟩ rfl; exact this)⟩
theorem IntsK.at {k : IntKind} {w w' : World} {a : Option Addr} {len : Nat} {zs : List Int} (h : IntsK k w a len zs) (hb : Below w.heap.size w w') {j : Nat} (hj : j < len) :
   ∃ b off x, a = some ⟨b, off, none⟩ ∧ b < w.heap.size ∧ x = zs.getD j 0 ∧ (Lit.int k x).wf = true ∧ w'.cell? ⟨b, off + j, none⟩ = some (.int k x) := by
 rcases h.2.2 with h0 | ⟨b, off, rfl, hbl, hc⟩
 ·
   omega
 ·
   refine ⟨b, off, _, rfl, hbl, rfl, h.2.1 _ ?_, bl_cell hb (p := ⟨b, off + j, none⟩) hbl (hc j hj)⟩
   have hj' : j < zs.length := by rw [h.1]; exact hj
   rw [List.getD_eq_getElem?_getD, List.getElem?_eq_getElem hj']
   exact List.getElem_mem hj'
theorem add_none (b off j : Nat) : (⟨b, off, none⟩ : Addr).add j = ⟨b, off + j, none⟩ := by
 by_cases hi0 : j = 0
 ·
   subst hi0; rfl
 ·
   simp [Addr.add, hi0]
theorem lt_of_get {α : Type} {l : List α} {j : Nat} {v : α} (h : l[j]? = some v) : j < l.length := by
 rcases Nat.lt_or_ge j l.length with h3 | h3
 ·
   exact h3
 ·
   rw [List.getElem?_eq_none h3] at h; cases h
theorem IntsK.src {k : IntKind} {w : World} {a : Option Addr} {len : Nat} {zs : List Int} (h : IntsK k w a len zs) (h0 : 0 < len) :
   ∃ ad, a = some ad ∧ ad.block < w.heap.size ∧ ∀ j v, (zs.map (Value.int k))[j]? = some v → w.cell? (ad.add j) = some v := by
 rcases h.2.2 with h1 | ⟨b, off, rfl, hbl, hc⟩
 ·
   omega
 ·
   refine ⟨_, rfl, hbl, fun j v hj => ?_⟩
   have hj1 : j < zs.length := by simpa using lt_of_get hj
   have e1 := hc j (by rw [← h.1]; exact hj1)
   rw [List.getElem?_map, List.getElem?_eq_getElem hj1] at hj
   rw [List.getD_eq_getElem?_getD, List.getElem?_eq_getElem hj1] at e1
   injection hj with hj; subst hj
   rw [add_none]; exact e1
theorem ints_one {k : IntKind} {zs : List Int} : ∀ v ∈ zs.map (Value.int k), v.oneCell' = true := by
 intro v hv; simp at hv; obtain ⟨x, _, rfl⟩ := hv; rfl
theorem conv_ints {P : Program} {w : World} {a : Option Addr} {len : Nat} {bs : List Int} (src e dst cap : Nat) (hs : P.underlying src = some (.slice e)) (he : P.underlying e = some (.int .u8)) (hd : P.underlying dst = some .string)
   (h : IntsK .u8 w a len bs) : (convert src dst (.slice a len cap)).run P w = .ok (.string (strOfNums bs)) w := by
 rcases h.2.2 with h0 | ⟨b, off, rfl, hbl, hc⟩
 ·
   have hb : bs = [] := List.eq_nil_of_length_eq_zero (h.1.trans h0)
   subst hb; subst h0
   cases a with
   | none => exact run_convert_bytes_nil w src e hs he 0 cap dst hd
   | some ad =>
    have hl : (loadCells ad 0).run P w = .ok (([] : List Int).map (Value.int .u8)).toArray w := by
     have := run_loadCells_list (P := P) w ad [] (fun j v hj => by simp at hj)
     simpa using this
    rw [run_convert_bytes_string w src dst e _ 0 cap hs he hd, run_bytesToString w ad 0 cap [] hl]; rfl
 ·
   exact run_convert_bytes_arg w src e hs he b off len cap bs h.1 hc dst hd
theorem IntsK.of_row {k : IntKind} {w : World} {b : Nat} {zs : List Int} {t : TypeId} (h : w.heap[b]? = some (.cells (zs.map (Value.int k)).toArray t (0, 0))) (hw : ∀ n ∈ zs, (Lit.int k n).wf = true) :
   IntsK k w (some ⟨b, 0, none⟩) zs.length zs := by
 refine ⟨rfl, hw, .inr ⟨b, 0, rfl, lt_of_block h, fun i hi => ?_⟩⟩
 rw [cell_of_row _ _ _ _ _ _ h]
 simp [hi, List.getD_eq_getElem?_getD]
theorem IntsK.pre {k : IntKind} {w : World} {a : Option Addr} {len : Nat} {zs : List Int} (h : IntsK k w a len zs) (n : Nat) (hn : n ≤ len) : IntsK k w a n (zs.take n) := by
 refine ⟨by rw [List.length_take, h.1]; omega, fun x hx => h.2.1 x (List.mem_of_mem_take hx), ?_⟩
 rcases h.2.2 with h0 | ⟨b, off, rfl, hbl, hc⟩
 ·
   exact .inl (by omega)
 ·
   refine .inr ⟨b, off, rfl, hbl, fun i hi => ?_⟩
   rw [hc i (by omega)]
   simp [List.getD_eq_getElem?_getD, hi]
theorem IntsK.suf {k : IntKind} {w : World} {b off : Nat} {len : Nat} {zs : List Int} (h : IntsK k w (some ⟨b, off, none⟩) len zs) (n : Nat) (hn : n ≤ len) : IntsK k w (some ⟨b, off + n, none⟩) (len - n) (zs.drop n) := by
 refine ⟨by rw [List.length_drop, h.1], fun x hx => h.2.1 x (List.mem_of_mem_drop hx), ?_⟩
 rcases h.2.2 with h0 | ⟨b', off', e, hbl, hc⟩
 ·
   exact .inl (by omega)
 ·
   injection e with e; injection e with e1 e2; subst e1; subst e2
   refine .inr ⟨b, off + n, rfl, hbl, fun i hi => ?_⟩
   rw [Nat.add_assoc, hc (n + i) (by omega)]
   simp [List.getD_eq_getElem?_getD]
theorem own_base {w : World} {base e size n : Nat} {v : Value} {xs : List Value} (h : w.ownsRow base e size v n xs) : ∀ k, v.ownBlock = some k → base ≤ k := by
 intro k hk
 rcases h.2 with ⟨rfl, rfl⟩ | ⟨g, cap, cur, rfl, hg, _⟩
 ·
   simp [Value.ownBlock] at hk
 ·
   simp [Value.ownBlock] at hk; omega
theorem ints_of_own {k : IntKind} {w : World} {base e : Nat} {v : Value} {n : Nat} {ys : List Int} (h : w.ownsRow base e 1 v n (ys.map (Value.int k))) (hy : ∀ n ∈ ys, (Lit.int k n).wf = true) :
   ∃ a cap, v = .slice a n cap ∧ n ≤ cap ∧ IntsK k w a n ys ∧ (∀ x, a = some x → base ≤ x.block) := by
 have hl : ys.length = n := by have := h.1; simpa using this
 rcases h.2 with ⟨rfl, rfl⟩ | ⟨g, cap, cur, rfl, hg, hh, hn, hc, hcs, ht⟩
 ·
   exact ⟨none, 0, rfl, Nat.le_refl _, ⟨hl, hy, .inl rfl⟩, by simp⟩
 ·
   refine ⟨_, cap, rfl, hn, ⟨hl, hy, .inr ⟨g, 0, rfl, lt_of_block hh, fun i hi => ?_⟩⟩, by rintro x ⟨⟩; exact hg⟩
   rw [cell_of_row _ _ _ _ _ _ hh]
   have e : (ys.map (Value.int k))[i]? = some (.int k (ys.getD i 0)) := by
    rw [List.getElem?_map, List.getElem?_eq_getElem (by omega), List.getD_eq_getElem?_getD, List.getElem?_eq_getElem (by omega)]; rfl
   rw [← ht, List.getElem?_take, if_pos (by omega)] at e
   simpa using e
end Go.Proofs.Ytmbjepcbokbemaa
namespace Go.Proofs.Ytmbjepcbokbemaa
open Go.RowKit
def within (n lo hi : Int) : Int := if lo ≤ n ∧ n ≤ hi then n else lo + n % (hi - lo + 1)
theorem IntsK.take {k : IntKind} {w : World} {a : Option Addr} {len : Nat} {zs : List Int} (h : IntsK k w a len zs) (n : Nat) (hn : n ≤ len) : IntsK k w a n (zs.take n) := by
 refine ⟨by rw [List.length_take, h.1]; omega, fun x hx => h.2.1 x (List.mem_of_mem_take hx), ?_⟩
 rcases h.2.2 with h0 | ⟨b, off, rfl, hbl, hc⟩
 ·
   exact .inl (by omega)
 ·
   refine .inr ⟨b, off, rfl, hbl, fun i hi => ?_⟩
   rw [hc i (by omega)]
   simp [List.getD_eq_getElem?_getD, hi]
theorem infoU8 : (Try.prog.info? 5).map (fun i => (i.zero, i.size, i.bytes)) = some (some (.int .u8 0), 1, 1) := by kernel_rfl
end Go.Proofs.Ytmbjepcbokbemaa
namespace Go.Proofs.Ytmbjepcbokbemaa
open Go.RowKit
theorem own_below {w w' : World} {base e size n : Nat} {v : Value} {xs : List Value} (h : w.ownsRow base e size v n xs) (hb : Below w.heap.size w w') : w'.ownsRow base e size v n xs := by
 refine ⟨h.1, ?_⟩
 rcases h.2 with ⟨rfl, rfl⟩ | ⟨g, cap, cur, rfl, hg, hrow, hn, hc, hsz, htk⟩
 ·
   exact .inl ⟨rfl, rfl⟩
 ·
   exact .inr ⟨g, cap, cur, rfl, hg, bl_row hb (lt_of_block hrow) hrow, hn, hc, hsz, htk⟩
theorem bdU64 {n : Int} (h : (Lit.int .u64 n).wf = true) : 0 ≤ n ∧ n < 18446744073709551616 := by
 simp [Lit.wf, IntKind.min, IntKind.max, IntKind.signed, IntKind.bits] at h; omega
end Go.Proofs.Ytmbjepcbokbemaa
namespace Go.Proofs.Ytmbjepcbokbemaa
open Go.RowKit
theorem append_bytes (w : World) (ty : TypeId) (base n : Nat) (v : Value) (xs : List Int) (hown : w.ownsRow base 5 1 v n (xs.map (Value.int .u8))) (xa : Option Addr) (m c : Nat) (bs : List Int) (hI : IntsK .u8 w xa m bs)
   (hb : n + m ≤ 140737488355328) (hbase : base ≤ w.heap.size) :
   ∃ v' w', (Builtin.append_ #[25, 25] ty #[v, .slice xa m c]).run Try.prog w = .ok v' w' ∧ w'.ownsRow base 5 1 v' (n + m) ((xs ++ bs).map (Value.int .u8)) ∧ w.grownBy w' v.ownBlock := by
 obtain ⟨i0, hi, hz0, hz1, hz2⟩ := info_parts infoU8
 have hlen := hI.1
 cases xa with
 | none =>
   have hm : m = 0 := by
    rcases hI.2.2 with h | ⟨b, off, h, _⟩
    ·
     exact h
    ·
     cases h
   subst hm
   obtain rfl : bs = [] := List.eq_nil_of_length_eq_zero hlen
   have hsrc : Src Try.prog i0.size 25 (.slice none 0 c) 0 [] w := Src.ofNil w Try.underlying25 c
   obtain ⟨b, l, cp, rfl, hle⟩ : ∃ b l cp, v = .slice b l cp ∧ l ≤ cp := by
    rcases hown.2 with ⟨rfl, rfl⟩ | ⟨g, cap, cur, rfl, hg, hrow, hn, hc, hsz, htk⟩
    ·
     exact ⟨_, _, _, rfl, Nat.le_refl _⟩
    ·
     exact ⟨_, _, _, rfl, hn⟩
   exact ⟨_, w, run_append_nothing w 25 25 ty 5 i0 Try.underlying25 hi b l cp hle _ hsrc, by simpa using hown, grown_refl _ _⟩
 | some ad =>
   have hnews : ∀ j u, (bs.map (Value.int .u8))[j]? = some u → w.cell? (ad.add j) = some u := by
    by_cases h0 : 0 < m
    ·
     obtain ⟨ad', e, _, h⟩ := hI.src h0
     injection e with e; subst e; exact h
    ·
     intro j u hu
     have := lt_of_get hu
     simp at this; omega
   obtain ⟨v', w', hr, h2, h3, h4⟩ := run_append_own (P := Try.prog) w base 25 ty 5 i0 (.int .u8 0) 1 1 Try.underlying25 hi hz0 hz1 hz2 rfl (by decide) v n _ hown ad m c (bs.map (Value.int .u8)) (by simp [hlen]) hnews ints_one (by unfold maxLen; omega) (by omega) hbase
   exact ⟨v', w', hr, by rw [List.map_append]; exact h2, h3⟩
theorem wpList_append_bytes {ops : Array Oper} {rest : List Oper} {o : Oper} {a : Act} {w : World} {Q : Exit → Act → World → Prop} (hgd : o.guard = none) (s x : Operand)
   (ho : o.op = .call { callee := .builtin .append, args := #[s, x], argTypes := #[25, 25] })
   (base n : Nat) (v : Value) (xs : List Int) (hs : a.eval s = v) (hown : w.ownsRow base 5 1 v n (xs.map (Value.int .u8))) (xa : Option Addr) (m c : Nat) (bs : List Int) (hx : a.eval x = .slice xa m c) (hI : IntsK .u8 w xa m bs)
   (hb : n + m ≤ 140737488355328) (hbase : base ≤ w.heap.size)
   (h : ∀ v' w', w'.ownsRow base 5 1 v' (n + m) ((xs ++ bs).map (Value.int .u8)) → w.grownBy w' v.ownBlock → wpList Try.prog ops Q rest (a.put o.dst v') w') : wpList Try.prog ops Q (o :: rest) a w := by
 refine wpList_plain hgd fun K hK => ?_
 obtain ⟨v', w', hr, h2, h3⟩ := append_bytes w o.type base n v xs hown xa m c bs hI hb hbase
 unfold Oper.wp execOp
 simp only [ho, resolve, invoke, builtin, Sem.run_bind, Sem.run_pure, Result.andThen_ok, List.map_toArray, List.map_cons, List.map_nil, hs, hx, hr]
 exact hK _ _ (h v' w' h2 h3)
theorem own_slice {w : World} {base e n : Nat} {v : Value} {xs : List Value} {size : Nat} (h : w.ownsRow base e size v n xs) : ∃ b cp, v = .slice b n cp ∧ n ≤ cp := by
 rcases h.2 with ⟨rfl, rfl⟩ | ⟨g, cap, cur, rfl, hg, hrow, hn, hc, hsz, htk⟩
 ·
   exact ⟨_, _, rfl, Nat.le_refl _⟩
 ·
   exact ⟨_, _, rfl, hn⟩
theorem ints_made (w : World) (x : Int) (hx : (Lit.int .u8 x).wf = true) : IntsK .u8 (w.alloc (.cells #[.int .u8 x] 5)) (some ⟨w.heap.size, 0, none⟩) 1 [x] := by
 have h := IntsK.of_row (k := .u8) (zs := [x]) (heap_alloc_new w (.cells #[.int .u8 x] 5)) (by simpa using hx)
 exact h
theorem own_set {w : World} {base e n : Nat} {b : Option Addr} {cp : Nat} {xs : List Value} (h : w.ownsRow base e 1 (.slice b n cp) n xs) (hb : Below base w w) {i : Nat} (hi : i < n) (u : Value) (hu : u.oneCell' = true) :
   ∃ g, b = some ⟨g, 0, none⟩ ∧ base ≤ g ∧ g < w.heap.size ∧ w.frozen? ⟨g, i, none⟩ = false ∧ (∀ j v, xs[j]? = some v → w.cell? ⟨g, j, none⟩ = some v) ∧ (w.setCell ⟨g, i, none⟩ u).ownsRow base e 1 (.slice b n cp) n (xs.set i u) := by
 rcases h.2 with ⟨h1, h2⟩ | ⟨g, cap, cur, e1, hg, hrow, hn, hc, hsz, htk⟩
 ·
   injection h1; omega
 ·
   injection e1 with e1 e2 e3
   subst e1; subst e3
   refine ⟨g, rfl, hg, lt_of_block hrow, frozen_of_row _ _ _ _ _ hrow, fun j v hv => ?_, ?_⟩
   ·
    rw [cell_of_row _ _ _ _ _ _ hrow]
    have hj : j < n * 1 := by have := lt_of_get hv; rw [h.1] at this; exact this
    rw [← htk, List.getElem?_take_of_lt hj] at hv
    simpa using hv
   ·
    refine ⟨by rw [List.length_set]; exact h.1, .inr ⟨g, cp, cur.setIfInBounds i u, rfl, hg, heap_setCell_same _ _ _ _ _ _ hrow, hn, hc, by simpa using hsz, ?_⟩⟩
    rw [← htk]
    simp [List.take_set]
theorem own_put {w : World} {base e n g : Nat} {cp : Nat} {xs : List Value} (h : w.ownsRow base e 1 (.slice (some ⟨g, 0, none⟩) n cp) n xs) {i : Nat} (hi : i < n) (u : Value) (hu : u.oneCell' = true) :
   (w.setCell ⟨g, i, none⟩ u).ownsRow base e 1 (.slice (some ⟨g, 0, none⟩) n cp) n (xs.set i u) := by
 obtain ⟨g', e', _, _, _, _, ho⟩ := own_set h (Below.refl _ _) hi u hu
 injection e' with e'; injection e' with e'; subst e'; exact ho
end Go.Proofs.Ytmbjepcbokbemaa
namespace Go.Proofs.Ytmbjepcbokbemaa
open Go.RowKit
def rotM (n k : Int) : Int := bits .or .u64 (IntKind.u64.wrap (n * 2 ^ (k % 64).toNat)) (n / 2 ^ (64 - k % 64).toNat)
def endM (h : Int) : Int :=
 bits .xor .u64 (IntKind.u64.wrap (bits .xor .u64 h (h / 536870912) * 13787848793156543929)) (IntKind.u64.wrap (bits .xor .u64 h (h / 536870912) * 13787848793156543929) / 4294967296)
def stepM (h c : Int) : Int := rotM (IntKind.u64.wrap (bits .xor .u64 h c * 1099511628211)) 23
def startM (key : Int) (len : Nat) : Int := IntKind.u64.wrap (bits .xor .u64 key 11400714819323198485 + len)
def keyedM (key : Int) (bs : List Int) : Int := endM (bs.foldl stepM (startM key bs.length))
def nextM (n : Int) : Int := endM (IntKind.u64.wrap (n + 11400714819323198485))
def bytesM (n : Int) : List Int :=
 [n / 72057594037927936 % 256, n / 281474976710656 % 256, n / 1099511627776 % 256, n / 4294967296 % 256, n / 16777216 % 256, n / 65536 % 256, n / 256 % 256, n % 256]
def numStep (n c : Int) : Int := bits .or .u64 (IntKind.u64.wrap (n * 256)) c
def numberM (bs : List Int) : Int := bs.foldl numStep 0
theorem wf_u8_of {n : Int} (h0 : 0 ≤ n) (h1 : n < 256) : (Lit.int .u8 n).wf = true := by
 simp [Lit.wf, IntKind.min, IntKind.max, IntKind.signed, IntKind.bits]; omega
theorem numStep_add {n c : Int} (h0 : 0 ≤ n) (h1 : n < 72057594037927936) (c0 : 0 ≤ c) (c1 : c < 256) : numStep n c = n * 256 + c := by
 unfold numStep
 rw [IntWalk.u64_in _ ⟨by omega, by omega⟩, u64_or _ _ (by omega) (by omega) c0 (by omega)]
 have hj := nat_join 8 (n * 256).toNat c.toNat (by omega) (by omega)
 rw [hj]; omega
end Go.Proofs.Ytmbjepcbokbemaa
namespace Go.Proofs.Ytmbjepcbokbemaa
open Go.RowKit
def lowM (n k : Int) : Int := if k < 1 then 0 else if 64 ≤ k then n else n % 2 ^ k.toNat
theorem pow_pos2 (k : Nat) : (0 : Int) < 2 ^ k := Int.pow_pos (by decide)
theorem pow_le_of {a b : Nat} (h : a ≤ b) : (2 : Int) ^ a ≤ 2 ^ b := by
 have h2 : (2 : Nat) ^ a ≤ 2 ^ b := Nat.pow_le_pow_right (by decide) h
 exact_mod_cast h2
theorem and_mask (n : Int) (k : Nat) (h0 : 0 ≤ n) (h1 : n < 18446744073709551616) (hk : k < 64) : bits .and .u64 n (2 ^ k - 1) = n % 2 ^ k := by
 have hp := pow_pos2 k
 have hq : (2 : Int) ^ k ≤ 2 ^ 63 := pow_le_of (by omega)
 have hq' : (2 : Int) ^ 63 = 9223372036854775808 := by decide
 rw [u64_and _ _ h0 h1 (by omega) (by omega)]
 have e : ((2 : Int) ^ k - 1).toNat = 2 ^ k - 1 := by
   have : ((2 : Int) ^ k) = ((2 ^ k : Nat) : Int) := by simp
   rw [this]; omega
 rw [e, Nat.and_two_pow_sub_one_eq_mod]
 have e2 : ((2 ^ k : Nat) : Int) = (2 : Int) ^ k := by simp
 rw [Int.natCast_emod, e2]
 congr 1
 omega
theorem low_any (w : World) (n k : Int) (hn : 0 ≤ n ∧ n < 18446744073709551616) : Calls Try.prog 76 #[.int .u64 n, .int .i64 k] w fun e w' => e = .returned (.int .u64 (lowM n k)) ∧ w' = w := by
 go_enter Try.func76, Try.ntmps76
 by_cases h1 : k < 1
 ·
   go_wp2
   go_ret
   exact ⟨by simp [lowM, h1], rfl⟩
 ·
   by_cases h2 : 64 ≤ k
   ·
    go_wp2
    go_ret
    exact ⟨by simp [lowM, h2]; omega, rfl⟩
   ·
    have hp := pow_pos2 k.toNat
    have hq : (2 : Int) ^ k.toNat ≤ 2 ^ 63 := pow_le_of (by omega)
    have e1 : IntKind.u64.wrap (2 ^ k.toNat) = 2 ^ k.toNat := IntWalk.u64_in _ ⟨by omega, by omega⟩
    have e2 : IntKind.u64.wrap (2 ^ k.toNat - 1) = 2 ^ k.toNat - 1 := IntWalk.u64_in _ ⟨by omega, by omega⟩
    have e3 := and_mask n k.toNat hn.1 hn.2 (by omega)
    have e4 : lowM n k = n % 2 ^ k.toNat := by simp only [lowM]; rw [if_neg (by omega), if_neg (by omega)]
    have E := Qh (e4.trans e3.symm); have E1 := Qh e1; have E2 := Qh e2
    clear hp hq e1 e2 e3 e4
    go_wp2_with fail
    go_ret
    exact ⟨by rw [E.out, E1.out, E2.out]; rfl, rfl⟩
def smallM (n : Int) : Int :=
 if n % 5 = 0 then n / 5 % 20 else if n % 5 = 1 then [63, 64, 16383, 16384, 1073741823, 1073741824, 4611686018427387903, 0].getD (n / 5 % 8).toNat 0 else n % 4611686018427387904
end Go.Proofs.Ytmbjepcbokbemaa
namespace Go.Proofs.Ytmbjepcbokbemaa
open Go.RowKit
def sizeM (n : Int) : Nat := if n < 64 then 1 else if n < 16384 then 2 else if n < 1073741824 then 4 else if n ≤ 4611686018427387903 then 8 else 0
theorem wrap_u64 (n : Int) : IntKind.u64.wrap n = n % 18446744073709551616 := by simp [IntKind.wrap, IntKind.bits, IntKind.signed]
theorem size_any (w : World) (n : Int) : Calls Try.prog 81 #[.int .u64 n] w fun e w' => e = .returned (.int .i64 (sizeM n)) ∧ w' = w := by
 by_cases h1 : n < 64
 ·
   have E : Hid (sizeM n = 1) := Qh (if_pos h1)
   go_enter Try.func81, Try.ntmps81
   go_wp2_with fail
   go_ret
   exact ⟨by rw [E.out]; rfl, rfl⟩
 ·
   by_cases h2 : n < 16384
   ·
    have E : Hid (sizeM n = 2) := Qh ((if_neg h1).trans (if_pos h2))
    go_enter Try.func81, Try.ntmps81
    go_wp2_with fail
    go_ret
    exact ⟨by rw [E.out]; rfl, rfl⟩
   ·
    by_cases h3 : n < 1073741824
    ·
     have E : Hid (sizeM n = 4) := Qh ((if_neg h1).trans ((if_neg h2).trans (if_pos h3)))
     go_enter Try.func81, Try.ntmps81
     go_wp2_with fail
     go_ret
     exact ⟨by rw [E.out]; rfl, rfl⟩
    ·
     by_cases h4 : n ≤ 4611686018427387903
     ·
      have E : Hid (sizeM n = 8) := Qh ((if_neg h1).trans ((if_neg h2).trans ((if_neg h3).trans (if_pos h4))))
      go_enter Try.func81, Try.ntmps81
      go_wp2_with fail
      go_ret
      exact ⟨by rw [E.out]; rfl, rfl⟩
     ·
      have E : Hid (sizeM n = 0) := Qh ((if_neg h1).trans ((if_neg h2).trans ((if_neg h3).trans (if_neg h4))))
      go_enter Try.func81, Try.ntmps81
      go_wp2_with fail
      go_ret
      exact ⟨by rw [E.out]; rfl, rfl⟩
theorem rsize_any (w : World) (n : Int) : Calls Try.prog 78 #[.int .u64 n] w fun e w' => e = .returned (.int .i64 (sizeM n)) ∧ w' = w := by
 by_cases h1 : n < 64
 ·
   have E : Hid (sizeM n = 1) := Qh (if_pos h1)
   go_enter Try.func78, Try.ntmps78
   go_wp2_with fail
   go_ret
   exact ⟨by rw [E.out]; rfl, rfl⟩
 ·
   by_cases h2 : n < 16384
   ·
    have E : Hid (sizeM n = 2) := Qh ((if_neg h1).trans (if_pos h2))
    go_enter Try.func78, Try.ntmps78
    go_wp2_with fail
    go_ret
    exact ⟨by rw [E.out]; rfl, rfl⟩
   ·
    by_cases h3 : n < 1073741824
    ·
     have E : Hid (sizeM n = 4) := Qh ((if_neg h1).trans ((if_neg h2).trans (if_pos h3)))
     go_enter Try.func78, Try.ntmps78
     go_wp2_with fail
     go_ret
     exact ⟨by rw [E.out]; rfl, rfl⟩
    ·
     by_cases h4 : n ≤ 4611686018427387903
     ·
      have E : Hid (sizeM n = 8) := Qh ((if_neg h1).trans ((if_neg h2).trans ((if_neg h3).trans (if_pos h4))))
      go_enter Try.func78, Try.ntmps78
      go_wp2_with fail
      go_ret
      exact ⟨by rw [E.out]; rfl, rfl⟩
     ·
      have E : Hid (sizeM n = 0) := Qh ((if_neg h1).trans ((if_neg h2).trans ((if_neg h3).trans (if_neg h4))))
      go_enter Try.func78, Try.ntmps78
      go_wp2_with fail
      go_ret
      exact ⟨by rw [E.out]; rfl, rfl⟩
def extM (n k : Int) : Int :=
 if k < 1 then 0 else if 64 ≤ k then IntKind.i64.wrap n else if n % 2 ^ k.toNat < 2 ^ (k - 1).toNat then n % 2 ^ k.toNat else n % 2 ^ k.toNat - 2 ^ k.toNat
def zigM (n : Int) : Int := if n < 0 then -n * 2 - 1 else n * 2
def zagM (n : Int) : Int := if n % 2 = 1 then -(n / 2) - 1 else n / 2
def clampK (k : Int) : Int := if k < 1 then 1 else if 64 ≤ k then 64 else k
def clampM (n k : Int) : Int := if 2 ^ (clampK k - 1).toNat ≤ n then 2 ^ (clampK k - 1).toNat - 1 else if n < -(2 ^ (clampK k - 1).toNat) then -(2 ^ (clampK k - 1).toNat) else n
end Go.Proofs.Ytmbjepcbokbemaa
namespace Go.Proofs.Ytmbjepcbokbemaa
open Go.RowKit
def valM (init : Int) (l : List Int) : Int := l.foldl (fun n c => n * 256 + c) init
theorem valM_cons (i b : Int) (l : List Int) : valM i (b :: l) = valM (i * 256 + b) l := rfl
theorem valM_snoc (i : Int) (l : List Int) (x : Int) : valM i (l ++ [x]) = valM i l * 256 + x := by simp [valM, List.foldl_append]
theorem valM_in (i : Int) (hi : 0 ≤ i) : ∀ (l : List Int), (∀ x ∈ l, 0 ≤ x ∧ x ≤ 255) → i * 256 ^ l.length ≤ valM i l ∧ valM i l + 1 ≤ (i + 1) * 256 ^ l.length
 | [], _ => by simp [valM]
 | b :: l, h => by
   have hb := h b (by simp)
   have ih := valM_in (i * 256 + b) (by omega) l (fun x hx => h x (by simp [hx]))
   rw [valM_cons, List.length_cons, Int.pow_succ]
   have hp : (0 : Int) < 256 ^ l.length := Int.pow_pos (by decide)
   obtain ⟨P, eP⟩ : ∃ P : Int, 256 ^ l.length = P := ⟨_, rfl⟩
   rw [eP] at ih hp ⊢
   have h1 : i * (P * 256) ≤ (i * 256 + b) * P := by
    rw [Int.add_mul, Int.mul_comm P 256, ← Int.mul_assoc]; have := Int.mul_nonneg hb.1 (show 0 ≤ P by omega); omega
   have h2 : (i * 256 + b + 1) * P ≤ (i + 1) * (P * 256) := by
    rw [Int.mul_comm P 256, ← Int.mul_assoc]
    exact Int.mul_le_mul_of_nonneg_right (by omega) (by omega)
   omega
theorem valM_shift (i : Int) : ∀ (l : List Int), valM i l = i * 256 ^ l.length + valM 0 l
 | [] => by simp [valM]
 | b :: l => by
   rw [valM_cons, valM_cons, valM_shift (i * 256 + b) l, valM_shift (0 * 256 + b) l, List.length_cons, Int.pow_succ, Int.add_mul, Int.mul_comm (256 ^ l.length) 256, ← Int.mul_assoc]
   simp; omega
def szM (b : Int) : Nat := if b / 64 = 0 then 1 else if b / 64 = 1 then 2 else if b / 64 = 2 then 4 else 8
def getN (bs : List Int) : Int := match bs with | [] => 0 | b :: t => if (b :: t).length < szM b then 0 else valM (b % 64) (t.take (szM b - 1))
def getS (bs : List Int) : Nat := match bs with | [] => 0 | b :: t => if (b :: t).length < szM b then 0 else szM b
theorem szM_cases {b : Int} (h : 0 ≤ b ∧ b ≤ 255) : (b / 64 = 0 ∧ szM b = 1) ∨ (b / 64 = 1 ∧ szM b = 2) ∨ (b / 64 = 2 ∧ szM b = 4) ∨ (b / 64 = 3 ∧ szM b = 8) := by
 unfold szM; (repeat' split) <;> omega
theorem get_law {b : Int} {t : List Int} (hb : 0 ≤ b ∧ b ≤ 255) (ht : ∀ x ∈ t, 0 ≤ x ∧ x ≤ 255) (hl : szM b ≤ t.length + 1) : lowM (valM 0 ((b :: t).take (szM b))) (8 * szM b - 2) = valM (b % 64) (t.take (szM b - 1)) := by
 have h0 : (b :: t).take (szM b) = b :: t.take (szM b - 1) := by
   rcases szM_cases hb with ⟨_, e⟩ | ⟨_, e⟩ | ⟨_, e⟩ | ⟨_, e⟩ <;> rw [e] <;> rfl
 rw [h0, valM_cons]
 have hl2 : (t.take (szM b - 1)).length = szM b - 1 := by rw [List.length_take]; omega
 have hin := valM_in 0 (by omega) (t.take (szM b - 1)) (fun x hx => ht x (List.mem_of_mem_take hx))
 rw [valM_shift (0 * 256 + b), valM_shift (b % 64), hl2]
 rw [hl2] at hin
 rcases szM_cases hb with ⟨_, e⟩ | ⟨_, e⟩ | ⟨_, e⟩ | ⟨_, e⟩ <;> rw [e] at hin ⊢ <;> simp [lowM] at hin ⊢ <;> omega
set_option maxRecDepth 10000 in
theorem get_any (w : World) (a : Option Addr) (len cap : Nat) (bs : List Int) (hlen : len ≤ 140737488355328) (hcap : len ≤ cap) (hI : IntsK .u8 w a len bs) :
   Calls Try.prog 60 #[.slice a len cap] w fun e w' => e = .returned (.tuple #[.int .u64 (getN bs), .int .i64 (getS bs)]) ∧ w' = w := by
 have hl := hI.1
 have HI := Qh hI
 cases bs with
 | nil =>
   simp at hl; subst hl
   go_enter Try.func60, Try.ntmps60
   go_wp2_with fail
   go_ret2
   exact ⟨rfl, rfl⟩
 | cons b t =>
   have hb : 0 ≤ b ∧ b ≤ 255 := bounds_u8 (hI.2.1 b (by simp))
   have ht : ∀ x ∈ t, 0 ≤ x ∧ x ≤ 255 := fun x hx => bounds_u8 (hI.2.1 x (by simp [hx]))
   rcases hI.2.2 with h0 | ⟨ba, off, rfl, hbl, hc⟩
   ·
    simp at hl; omega
   ·
    have hlen1 : 1 ≤ len := by simp at hl; omega
    have hc0 : w.cell? ⟨ba, off, none⟩ = some (.int .u8 b) := by have := hc 0 (by omega); simpa using this
    have HC := Qh hc
    clear hc hI
    have hss := szM_cases hb
    have hsh : wrap64 (2 ^ (b / 64).toNat) = (szM b : Int) := by
     rcases hss with ⟨h, e⟩ | ⟨h, e⟩ | ⟨h, e⟩ | ⟨h, e⟩ <;> rw [h, e] <;> decide +kernel
    have hlaw := get_law hb ht
    have hgN : getN (b :: t) = if len < szM b then 0 else valM (b % 64) (t.take (szM b - 1)) := by rw [← hl]; rfl
    have hgS : getS (b :: t) = if len < szM b then 0 else szM b := by rw [← hl]; rfl
    have hall : ∀ x ∈ b :: t, 0 ≤ x ∧ x ≤ 255 := fun x hx => bounds_u8 (HI.out.2.1 x hx)
    obtain ⟨s, es⟩ : ∃ s, szM b = s := ⟨_, rfl⟩
    rw [es] at hss hsh hlaw hgN hgS
    have HSH := Qh hsh; have HGN := Qh hgN; have HGS := Qh hgS; have HLAW := Qh hlaw; have HALL := Qh hall
    have hl2 : (b :: t).length = len := hl
    have hs8 : 1 ≤ s ∧ s ≤ 8 := by omega
    clear hsh hgN hgS hlaw es hss hall
    have hlt1 : t.length + 1 = len := by rw [← hl]; rfl
    clear hl ht
    obtain ⟨bs, ebs⟩ : ∃ bs, b :: t = bs := ⟨_, rfl⟩
    rw [ebs] at HGN HGS HI hl2 HALL HLAW HC ⊢
    clear ebs
    go_enter Try.func60, Try.ntmps60
    go_upto_region 4 with fail
    rw [HSH.out]
    by_cases hls : len < s
    ·
     have E1 := HGN.out; have E2 := HGS.out
     rw [if_pos hls] at E1 E2
     have E1 := Qh E1; have E2 := Qh E2
     go_wp2_with fail
     go_ret2
     exact ⟨by rw [E1.out, E2.out]; rfl, rfl⟩
    ·
     have E1 := HGN.out; have E2 := HGS.out
     rw [if_neg hls] at E1 E2
     have E1 := Qh E1; have E2 := Qh E2
     clear HGN HGS hc0
     generalize ((len : Int) == 0) = q10
     go_wp2_with fail
     go_loop [5, 24] (fun s5 s24 => ∃ j : Nat, s24 = .int .i64 j ∧ j ≤ s ∧ s5 = .int .u64 (valM 0 (bs.take j))) (fun _ s24 => s - (intOf s24).toNat)
     case atStart => exact ⟨0, rfl, by omega, rfl⟩
     case round =>
      obtain ⟨j, rfl, hj, rfl⟩ := hrel
      by_cases hlt : j < s
      ·
       obtain ⟨ba', off', x, e, _, hx, hwx, hcx⟩ := HI.out.at (Below.refl _ _) (j := j) (by omega)
       injection e with e; injection e with e1 e2 e3; subst e1; subst e2; clear e3
       have hx2 := bounds_u8 hwx
       have hin := valM_in 0 (by omega) (bs.take j) (fun x hx => HALL.out x (List.mem_of_mem_take hx))
       have hlj : (bs.take j).length = j := by rw [List.length_take, hl2]; omega
       rw [hlj] at hin
       have hp7 : (256 : Int) ^ j ≤ 256 ^ 7 := by
        have h2 : (256 : Nat) ^ j ≤ 256 ^ 7 := Nat.pow_le_pow_right (by decide) (by omega)
        exact_mod_cast h2
       rw [show (256 : Int) ^ 7 = 72057594037927936 from by decide] at hp7
       have hsn : valM 0 (bs.take (j + 1)) = valM 0 (bs.take j) * 256 + x := by
        rw [List.take_succ_eq_append_getElem (by omega), valM_snoc, hx, List.getD_eq_getElem?_getD, List.getElem?_eq_getElem (by omega)]; rfl
       obtain ⟨acc, eacc⟩ : ∃ acc, valM 0 (bs.take j) = acc := ⟨_, rfl⟩
       rw [eacc] at hin hsn ⊢
       have hna : bits .or .u64 (IntKind.u64.wrap (acc * 256)) x = acc * 256 + x := numStep_add (by omega) (by omega) hx2.1 (by omega)
       have hw : IntKind.u64.wrap (acc * 256) = acc * 256 := IntWalk.u64_in _ ⟨by omega, by omega⟩
       have HNA := Qh hna; have HSN := Qh hsn; have HW := Qh hw
       clear hwx hx hna hsn eacc hin hp7 hw
       go_wp2_with fail
       rw [HNA.out]
       go_round
       case rel => exact ⟨j + 1, by go_num, by omega, by rw [HSN.out]⟩
       case measure => simp [intOf]; omega
      ·
       obtain rfl : j = s := by omega
       have hin := valM_in 0 (by omega) (bs.take j) (fun x hx => HALL.out x (List.mem_of_mem_take hx))
       have hlj : (bs.take j).length = j := by rw [List.length_take, hl2]; omega
       rw [hlj] at hin
       have hp7 : (256 : Int) ^ j ≤ 256 ^ 8 := by
        have h2 : (256 : Nat) ^ j ≤ 256 ^ 8 := Nat.pow_le_pow_right (by decide) (by omega)
        exact_mod_cast h2
       rw [show (256 : Int) ^ 8 = 18446744073709551616 from by decide] at hp7
       have hbd : 0 ≤ valM 0 (bs.take j) ∧ valM 0 (bs.take j) < 18446744073709551616 := by omega
       clear hin hp7
       go_wp2_with fail
       refine Calls.mono (low_any _ _ (8 * j - 2) hbd) ?_
       rintro e w' ⟨rfl, rfl⟩
       rw [HLAW.out (by omega)]
       go_wp2_with fail
       go_ret2
       exact ⟨by rw [E1.out, E2.out]; rfl, rfl⟩
end Go.Proofs.Ytmbjepcbokbemaa
namespace Go.Proofs.Ytmbjepcbokbemaa
open Go.RowKit
theorem pow_le8 (j k : Nat) (h : j ≤ k) : (256 : Int) ^ j ≤ 256 ^ k := by
 have h2 : (256 : Nat) ^ j ≤ 256 ^ k := Nat.pow_le_pow_right (by decide) h
 have h3 : ((256 ^ j : Nat) : Int) ≤ ((256 ^ k : Nat) : Int) := Int.ofNat_le.2 h2
 simpa using h3
set_option maxRecDepth 10000 in
theorem rget_any (w : World) (a : Option Addr) (len cap : Nat) (bs : List Int) (hlen : len ≤ 140737488355328) (hcap : len ≤ cap) (hI : IntsK .u8 w a len bs) :
   Calls Try.prog 79 #[.slice a len cap] w fun e w' => e = .returned (.tuple #[.int .u64 (getN bs), .int .i64 (getS bs)]) ∧ w' = w := by
 have hl := hI.1
 have HI := Qh hI
 cases bs with
 | nil =>
   simp at hl; subst hl
   go_enter Try.func79, Try.ntmps79
   go_wp2_with fail
   go_ret2
   exact ⟨rfl, rfl⟩
 | cons b t =>
   have hb : 0 ≤ b ∧ b ≤ 255 := bounds_u8 (hI.2.1 b (by simp))
   have ht : ∀ x ∈ t, 0 ≤ x ∧ x ≤ 255 := fun x hx => bounds_u8 (hI.2.1 x (by simp [hx]))
   rcases hI.2.2 with h0 | ⟨ba, off, rfl, hbl, hc⟩
   ·
    simp at hl; omega
   ·
    have hlen1 : 1 ≤ len := by simp at hl; omega
    have hc0 : w.cell? ⟨ba, off, none⟩ = some (.int .u8 b) := by have := hc 0 (by omega); simpa using this
    have hss := szM_cases hb
    have hsh : wrap64 (2 ^ (b / 64).toNat) = (szM b : Int) := by
     rcases hss with ⟨h, e⟩ | ⟨h, e⟩ | ⟨h, e⟩ | ⟨h, e⟩ <;> rw [h, e] <;> decide +kernel
    have hgN : getN (b :: t) = if len < szM b then 0 else valM (b % 64) (t.take (szM b - 1)) := by rw [← hl]; rfl
    have hgS : getS (b :: t) = if len < szM b then 0 else szM b := by rw [← hl]; rfl
    have hand : bits .and .u8 b 63 = b % 64 := by
     rw [u8_and _ _ hb.1 (by omega) (by omega) (by omega), show (63 : Int).toNat = 63 from rfl, nat_mask6]; omega
    have hcj : ∀ j, 1 ≤ j → j < len → ∃ x, t[j - 1]? = some x ∧ 0 ≤ x ∧ x ≤ 255 ∧ w.cell? ⟨ba, off + j, none⟩ = some (.int .u8 x) := fun j h1 h2 => by
     have h3 : j - 1 < t.length := by simp at hl; omega
     refine ⟨t[j - 1], List.getElem?_eq_getElem h3, (ht _ (List.getElem_mem h3)).1, (ht _ (List.getElem_mem h3)).2, ?_⟩
     have h4 := hc j h2
     obtain ⟨j', rfl⟩ : ∃ j', j = j' + 1 := ⟨j - 1, by omega⟩
     rw [List.getD_cons_succ, List.getD_eq_getElem?_getD, List.getElem?_eq_getElem (by omega)] at h4
     exact h4
    obtain ⟨s, es⟩ : ∃ s, szM b = s := ⟨_, rfl⟩
    rw [es] at hss hsh hgN hgS
    have HSH := Qh hsh; have HGN := Qh hgN; have HGS := Qh hgS; have HT := Qh ht; have HCJ := Qh hcj; have HAND := Qh hand
    have hlt1 : t.length + 1 = len := by rw [← hl]; rfl
    have hs8 : 1 ≤ s ∧ s ≤ 8 := by omega
    clear hsh hgN hgS es hss hc hcj ht hI HI hl hand
    obtain ⟨bs, ebs⟩ : ∃ bs, b :: t = bs := ⟨_, rfl⟩
    rw [ebs] at HGN HGS ⊢
    clear ebs
    go_enter Try.func79, Try.ntmps79
    go_upto_region 4 with fail
    rw [HSH.out]
    by_cases hls : len < s
    ·
     have E1 := HGN.out; have E2 := HGS.out
     rw [if_pos hls] at E1 E2
     replace E1 := Qh E1; replace E2 := Qh E2
     go_wp2_with fail
     go_ret2
     exact ⟨by rw [E1.out, E2.out]; rfl, rfl⟩
    ·
     have E1 := HGN.out; have E2 := HGS.out
     rw [if_neg hls] at E1 E2
     replace E1 := Qh E1; replace E2 := Qh E2
     clear HGN HGS
     generalize ((len : Int) == 0) = q9
     go_wp2_with fail
     obtain ⟨i0, ei0⟩ : ∃ i0, b % 64 = i0 := ⟨_, rfl⟩
     have hi0 : 0 ≤ i0 ∧ i0 ≤ 63 := by omega
     rw [ei0] at E1 ⊢
     clear HAND ei0 hc0
     go_loop [5, 6] (fun s5 s6 => ∃ j : Nat, s6 = .int .i64 j ∧ 1 ≤ j ∧ j ≤ s ∧ s5 = .int .u64 (valM i0 (t.take (j - 1)))) (fun _ s6 => s - (intOf s6).toNat)
     case atStart => exact ⟨1, rfl, by omega, by omega, rfl⟩
     case round =>
      obtain ⟨j, rfl, hj1, hj, rfl⟩ := hrel
      by_cases hlt : j < s
      ·
       obtain ⟨x, hx, hx0, hx1, hcx⟩ := HCJ.out j hj1 (by omega)
       have hin := valM_in i0 (by omega) (t.take (j - 1)) (fun x hx => HT.out x (List.mem_of_mem_take hx))
       have hlj : (t.take (j - 1)).length = j - 1 := by rw [List.length_take]; omega
       rw [hlj] at hin
       have hp := pow_le8 (j - 1) 6 (by omega)
       rw [show (256 : Int) ^ 6 = 281474976710656 from by decide] at hp
       have hp0 : (0 : Int) < 256 ^ (j - 1) := Int.pow_pos (by decide)
       have hub : (i0 + 1) * 256 ^ (j - 1) ≤ 64 * 281474976710656 := Int.mul_le_mul (by omega) hp (by omega) (by omega)
       have hlb : 0 ≤ i0 * 256 ^ (j - 1) := Int.mul_nonneg (by omega) (by omega)
       have hsn : valM i0 (t.take (j + 1 - 1)) = valM i0 (t.take (j - 1)) * 256 + x := by
        rw [show j + 1 - 1 = (j - 1) + 1 by omega, List.take_add_one, hx, ← valM_snoc]; rfl
       obtain ⟨acc, eacc⟩ : ∃ acc, valM i0 (t.take (j - 1)) = acc := ⟨_, rfl⟩
       rw [eacc] at hin hsn ⊢
       have hna : bits .or .u64 (IntKind.u64.wrap (acc * 256)) x = acc * 256 + x := numStep_add (by omega) (by omega) hx0 (by omega)
       have HNA := Qh hna; have HSN := Qh hsn
       clear hx hna hsn eacc hin hp hub hlb hp0
       go_wp2_with fail
       rw [HNA.out]
       go_round
       case rel => exact ⟨j + 1, by go_num, by omega, by omega, by rw [HSN.out]⟩
       case measure => simp [intOf]; omega
      ·
       obtain rfl : j = s := by omega
       go_wp2_with fail
       go_ret2
       exact ⟨by rw [E1.out, E2.out]; rfl, rfl⟩
end Go.Proofs.Ytmbjepcbokbemaa
namespace Go.Proofs.Ytmbjepcbokbemaa
open Go.RowKit
def rdM (bs : List Int) (bad : Bool) (n : Int) : List Int × List Int × Bool :=
 if bad = true ∨ n < 0 ∨ (bs.length : Int) < n then ([], [], true) else (bs.take n.toNat, bs.drop n.toNat, false)
theorem rdM_bad {bs : List Int} {bad : Bool} {n : Int} (h : bad = true ∨ n < 0 ∨ (bs.length : Int) < n) : rdM bs bad n = ([], [], true) := if_pos h
theorem rdM_ok {bs : List Int} {n : Nat} (h : n ≤ bs.length) : rdM bs false n = (bs.take n, bs.drop n, false) := by
 unfold rdM; rw [if_neg (by simp; omega), Int.toNat_natCast]
def byteM (bs : List Int) (bad : Bool) : Int × List Int × Bool := ((rdM bs bad 1).1.headD 0, (rdM bs bad 1).2)
def twoM (bs : List Int) (bad : Bool) : Int × List Int × Bool := ((rdM bs bad 2).1.headD 0 * 256 + (rdM bs bad 2).1.getD 1 0, (rdM bs bad 2).2)
def varM (bs : List Int) (bad : Bool) : Int × List Int × Bool := if bad = true ∨ getS bs = 0 then (0, [], true) else (getN bs, bs.drop (getS bs), false)
def textM (bs : List Int) (bad : Bool) : List Int × List Int × Bool :=
 if ((varM bs bad).2.1.length : Int) < (varM bs bad).1 then ([], [], true) else rdM (varM bs bad).2.1 (varM bs bad).2.2 (varM bs bad).1
structure Rd (W0 w : World) (L p : Nat) (T : TypeId) (bs : List Int) (bad : Bool) : Prop where
 lo : W0.heap.size ≤ p
 mid : ∀ i, L ≤ i → i < W0.heap.size → w.heap[i]? = W0.heap[i]?
 small : bs.length ≤ 140737488355328
 ex : ∃ a n cap, w.heap[p]? = some (.cells #[.slice a n cap, .bool bad] T (0, 0)) ∧ n ≤ cap ∧ cap ≤ 9223372036854775807 ∧ IntsK .u8 W0 a n bs ∧ ∀ x, a = some x → L ≤ x.block
theorem Rd.lt {W0 w : World} {L p : Nat} {T : TypeId} {bs : List Int} {bad : Bool} (h : Rd W0 w L p T bs bad) : p < w.heap.size := by
 obtain ⟨a, n, cap, hr, _⟩ := h.ex; exact lt_of_block hr
theorem Rd.size {W0 w : World} {L p : Nat} {T : TypeId} {bs : List Int} {bad : Bool} (h : Rd W0 w L p T bs bad) : W0.heap.size ≤ w.heap.size := by have := h.lt; have := h.lo; omega
theorem Rd.ch {W0 w w' : World} {L p : Nat} {T : TypeId} {bs : List Int} {bad : Bool} (h : Rd W0 w L p T bs bad) (hm : ∀ i, L ≤ i → i < W0.heap.size → w'.heap[i]? = w.heap[i]?) (hp : w'.heap[p]? = w.heap[p]?) : Rd W0 w' L p T bs bad := by
 obtain ⟨a, n, cap, hr, h1, h2, h3, h4⟩ := h.ex
 exact ⟨h.lo, fun i h5 h6 => (hm i h5 h6).trans (h.mid i h5 h6), h.small, a, n, cap, hp.trans hr, h1, h2, h3, h4⟩
theorem Rd.to {W0 w w' : World} {L p : Nat} {T : TypeId} {bs : List Int} {bad : Bool} (h : Rd W0 w L p T bs bad) (hb : Below w.heap.size w w') : Rd W0 w' L p T bs bad :=
 h.ch (fun i _ hi => hb.block i (by have := h.size; omega)) (hb.block p h.lt)
theorem Rd.set {W0 w : World} {L p : Nat} {T : TypeId} {bs : List Int} {bad : Bool} (h : Rd W0 w L p T bs bad) {a : Option Addr} {n cap : Nat} {bad' : Bool} {bs' : List Int} {w' : World} (hg : w.grownBy w' (some p))
   (hr : w'.heap[p]? = some (.cells #[.slice a n cap, .bool bad'] T (0, 0))) (h1 : n ≤ cap) (h2 : cap ≤ 9223372036854775807) (h4 : bs'.length ≤ bs.length) (h3 : IntsK .u8 W0 a n bs') (h5 : ∀ x, a = some x → L ≤ x.block) : Rd W0 w' L p T bs' bad' :=
 ⟨h.lo, fun i hi1 hi2 => (hg.block i (by have := h.size; omega) (by intro e; injection e with e; have := h.lo; omega)).trans (h.mid i hi1 hi2), Nat.le_trans h4 h.small, a, n, cap, hr, h1, h2, h3, h5⟩
theorem Rd.ints {W0 w : World} {L p : Nat} {T : TypeId} {bs : List Int} {bad : Bool} (h : Rd W0 w L p T bs bad) {a : Option Addr} {n : Nat} (h3 : IntsK .u8 W0 a n bs) (h4 : ∀ x, a = some x → L ≤ x.block) : IntsK .u8 w a n bs := by
 refine ⟨h3.1, h3.2.1, ?_⟩
 rcases h3.2.2 with h0 | ⟨b, off, rfl, hbl, hc⟩
 ·
   exact .inl h0
 ·
   have hm := h.mid b (h4 _ rfl) hbl
   refine .inr ⟨b, off, rfl, Nat.lt_of_lt_of_le hbl h.size, fun i hi => ?_⟩
   have h5 := hc i hi
   unfold World.cell? at h5 ⊢
   simp only at h5 ⊢
   rw [hm]; exact h5
theorem IntsK.rest {W : World} {a : Option Addr} {len : Nat} {zs : List Int} (h : IntsK .u8 W a len zs) (n : Nat) (hn : n ≤ len) (b : Option Addr) (hb : n < len → ∃ x off, a = some ⟨x, off, none⟩ ∧ b = some ⟨x, off + n, none⟩) : IntsK .u8 W b (len - n) (zs.drop n) := by
 by_cases hlt : n < len
 ·
   obtain ⟨x, off, rfl, rfl⟩ := hb hlt
   exact h.suf n hn
 ·
   refine ⟨by rw [List.length_drop, h.1], fun x hx => h.2.1 x (List.mem_of_mem_drop hx), .inl (by omega)⟩
theorem low_rest {L : Nat} {a : Option Addr} (h : ∀ x, a = some x → L ≤ x.block) {m : Nat} : ∀ x, a.map (fun x => x.add m) = some x → L ≤ x.block := by
 intro x hx
 cases a with
 | none => simp at hx
 | some y =>
   simp at hx; subst hx
   have := h y rfl
   unfold Addr.add; split <;> exact this
end Go.Proofs.Ytmbjepcbokbemaa
namespace Go.Proofs.Ytmbjepcbokbemaa
open Go.RowKit
theorem clone_any (w : World) (a : Option Addr) (len cap : Nat) (bs : List Int) (hlen : len ≤ 140737488355328) (hI : IntsK .u8 w a len bs) :
   Calls Try.prog 49 #[.slice a len cap] w fun e w' => ∃ v, e = .returned v ∧ Below w.heap.size w w' ∧ w'.ownsRow w.heap.size 5 1 v len (bs.map (Value.int .u8)) := by
 have HI := Qh hI; clear hI
 cases a with
 | none =>
   have hl : len = 0 := by
    rcases HI.out.2.2 with h | ⟨b, off, h, _⟩
    ·
     exact h
    ·
     cases h
   subst hl
   obtain rfl : bs = [] := List.eq_nil_of_length_eq_zero HI.out.1
   go_enter Try.func49, Try.ntmps49
   have hq : (binOp .eql 25 (.slice none 0 cap) (.slice none 0 0)).run Try.prog w = .ok (.bool true) w := by kernel_rfl
   go_wp2_with fail
   go_ret
   exact ⟨_, rfl, Below.refl _ _, World.ownsRow_nil _ _ _ _⟩
 | some ad =>
   have hq : (binOp .eql 25 (.slice (some ad) len cap) (.slice none 0 0)).run Try.prog w = .ok (.bool false) w := by kernel_rfl
   go_enter Try.func49, Try.ntmps49
   go_wp2_with (first | (at_builtin; refine wpList_append_bytes rfl _ _ rfl w.heap.size 0 (.slice (some ⟨w.heap.size, 0, none⟩) 0 0) [] rfl (World.ownsRow_made _ _ _ (Nat.le_refl _) (by unfold maxLen; omega) (by rfl)) _ _ _ _ rfl (HI.out.below ((Below.refl _ _).alloc (Nat.le_refl _) _)) (by omega) (by simp) ?_; intro v1 w1 hown1 hgrow1; have HO := Qh hown1; have HL := Qh (((Below.refl w.heap.size w).alloc (Nat.le_refl _) _).grown hgrow1 (by simp) (by intro k hk; simp [Value.ownBlock] at hk; omega)); clear hown1 hgrow1) | fail)
   go_ret
   exact ⟨_, rfl, HL.out, by simpa using HO.out⟩
theorem fail_any (W0 w : World) (L p : Nat) (bs : List Int) (bad : Bool) (h : Rd W0 w L p 97 bs bad) :
   Calls Try.prog 61 #[.pointer (some ⟨p, 0, none⟩)] w fun e w' => e = .returned (.tuple #[]) ∧ Rd W0 w' L p 97 [] true ∧ w.grownBy w' (some p) := by
 obtain ⟨a, n, cap, hr, h1, h2, h3, h4⟩ := h.ex
 have c0 : w.cell? ⟨p, 0, none⟩ = some (.slice a n cap) := row_cell hr 0 _ rfl
 have c1 : w.cell? ⟨p, 1, none⟩ = some (.bool bad) := row_cell hr 1 _ rfl
 have f0 := row_free hr 0
 have f1 := row_free hr 1
 have hA := ((At.base hr).set 0 (.slice none 0 0)).set 1 (.bool true)
 have HA := Qh hA; have HR := Qh h
 clear hA h hr
 go_enter Try.func61, Try.ntmps61
 go_wp2_with fail
 go_end0
 exact ⟨rfl, HR.out.set HA.out.rest HA.out.row (Nat.le_refl _) (by omega) (by simp) (IntsK.nil _ _ _) (by simp), HA.out.rest⟩
theorem raw_any (W0 w : World) (L p : Nat) (bs : List Int) (bad : Bool) (n : Int) (hn : -9223372036854775808 ≤ n ∧ n ≤ 9223372036854775807) (h : Rd W0 w L p 97 bs bad) :
   Calls Try.prog 63 #[.pointer (some ⟨p, 0, none⟩), .int .i64 n] w fun e w' => ∃ a m cap, e = .returned (.slice a m cap) ∧ m ≤ cap ∧ IntsK .u8 w' a m (rdM bs bad n).1 ∧ Rd W0 w' L p 97 (rdM bs bad n).2.1 (rdM bs bad n).2.2 ∧ w.grownBy w' (some p) ∧ (∀ x, a = some x → w.heap.size ≤ x.block) := by
 obtain ⟨a, len, cap, hr, h1, h2, h3, h4⟩ := h.ex
 have c0 : w.cell? ⟨p, 0, none⟩ = some (.slice a len cap) := row_cell hr 0 _ rfl
 have c1 : w.cell? ⟨p, 1, none⟩ = some (.bool bad) := row_cell hr 1 _ rfl
 have hl := h3.1
 have hsm := h.small
 have HR := Qh h; have H3 := Qh h3
 clear h h3
 by_cases hb : bad = true ∨ n < 0 ∨ (bs.length : Int) < n
 ·
   have HM := Qh (rdM_bad hb)
   have HF := Qh (fail_any W0 w L p bs bad HR.out)
   clear hr
   rw [hl] at hb
   have hb2 : bad = true ∨ (bad = false ∧ n < 0) ∨ (bad = false ∧ ¬ n < 0 ∧ (len : Int) < n) := by cases bad <;> simp at hb ⊢; omega
   clear hb
   go_enter Try.func63, Try.ntmps63
   rcases hb2 with rfl | ⟨rfl, h⟩ | ⟨rfl, h, h'⟩
   all_goals
    go_wp2_with fail
    refine Calls.mono HF.out ?_
    rintro e w' ⟨rfl, hR, hg⟩
    have HR2 := Qh hR; have HG := Qh hg
    clear hR hg
    go_wp2_with fail
    go_ret
    refine ⟨none, 0, 0, rfl, Nat.le_refl _, ?_, ?_, HG.out, by simp⟩
    ·
     rw [HM.out]; exact IntsK.nil _ _ _
    ·
     rw [HM.out]; exact HR2.out
 ·
   have hb1 : bad = false := by cases bad <;> simp_all
   subst hb1
   obtain ⟨m, rfl⟩ : ∃ m : Nat, n = m := ⟨n.toNat, by omega⟩
   have hm : m ≤ len := by omega
   have HM := Qh (rdM_ok (bs := bs) (n := m) (by omega))
   clear hb
   go_enter Try.func63, Try.ntmps63
   go_wp2_with fail
   have hw := (HR.out.ints H3.out h4).pre m hm
   refine Calls.mono (clone_any w a m cap _ (by omega) hw) ?_
   rintro e w' ⟨v, rfl, hbw, ho⟩
   obtain ⟨a1, cap1, rfl, hc1, hi1, hlow⟩ := ints_of_own ho hw.2.1
   have hrow := bl_row hbw (lt_of_block hr) hr
   have c0' : w'.cell? ⟨p, 0, none⟩ = some (.slice a len cap) := row_cell hrow 0 _ rfl
   have f0 := row_free hrow 0
   have HROW := Qh hrow; have HI1 := Qh hi1; have HB := Qh hbw
   clear hrow hi1 ho hw hbw hr c0
   have hpa : ∀ x, a1 = some x → some x.block ≠ some p := fun x hx => by
    have h := hlow x hx
    have h2 := HR.out.lt
    simp; omega
   by_cases hlt : m < len
   ·
    rcases H3.out.2.2 with h0 | ⟨ba, off, rfl, _, _⟩
    ·
     omega
    ·
     go_wp2_with fail
     go_ret
     refine ⟨_, _, _, rfl, hc1, ?_, ?_, grown_trans (grown_below HB.out _) (grown_setCell _ _ _ _), hlow⟩
     ·
      rw [HM.out]; exact HI1.out.grown (grown_setCell _ _ _ _) hpa
     ·
      rw [HM.out]
      exact HR.out.set (grown_trans (grown_below HB.out _) (grown_setCell _ _ _ _)) ((At.base HROW.out).set 0 _).row (by omega) (by omega) (by simp) (H3.out.rest m hm _ fun _ => ⟨ba, off, rfl, rfl⟩) (fun x hx => by injection hx with hx; subst hx; exact h4 ⟨ba, off, none⟩ rfl)
   ·
    obtain rfl : m = len := by omega
    go_wp2_with fail
    all_goals
     go_ret
     refine ⟨_, _, _, rfl, hc1, ?_, ?_, grown_trans (grown_below HB.out _) (grown_setCell _ _ _ _), hlow⟩
     ·
      rw [HM.out]; exact HI1.out.grown (grown_setCell _ _ _ _) hpa
     ·
      rw [HM.out]
      exact HR.out.set (grown_trans (grown_below HB.out _) (grown_setCell _ _ _ _)) ((At.base HROW.out).set 0 _).row (by omega) (by omega) (by simp) (by rw [show (bs.take m, bs.drop m, false).2.1 = [] from List.drop_of_length_le (by omega)]; exact IntsK.nil _ _ _) (by first | exact h4 | exact low_rest h4)
end Go.Proofs.Ytmbjepcbokbemaa
namespace Go.Proofs.Ytmbjepcbokbemaa
open Go.RowKit
theorem rdM_len (bs : List Int) (bad : Bool) (n : Nat) : (rdM bs bad n).1 = [] ∨ (rdM bs bad n).1.length = n := by
 unfold rdM; split
 ·
   exact .inl rfl
 ·
   right; simp; omega
theorem byte_any (W0 w : World) (L p : Nat) (bs : List Int) (bad : Bool) (h : Rd W0 w L p 97 bs bad) :
   Calls Try.prog 65 #[.pointer (some ⟨p, 0, none⟩)] w fun e w' => e = .returned (.int .u8 (byteM bs bad).1) ∧ Rd W0 w' L p 97 (byteM bs bad).2.1 (byteM bs bad).2.2 ∧ w.grownBy w' (some p) := by
 have HRAW := Qh (raw_any W0 w L p bs bad 1 (by omega) h)
 have hlen := rdM_len bs bad 1
 have hb : byteM bs bad = ((rdM bs bad 1).1.headD 0, (rdM bs bad 1).2) := rfl
 rw [hb]
 clear hb h
 have e1 : rdM bs bad ((1 : Nat) : Int) = rdM bs bad 1 := rfl
 rw [e1] at hlen
 obtain ⟨⟨r, bs', bad'⟩, hr⟩ : ∃ r, rdM bs bad 1 = r := ⟨_, rfl⟩
 rw [hr] at HRAW hlen ⊢
 clear e1 hr
 go_enter Try.func65, Try.ntmps65
 go_wp2_with fail
 refine Calls.mono HRAW.out ?_
 rintro e w' ⟨a, m, cap, rfl, hmc, hi, hR, hg, _⟩
 have HR := Qh hR; have HG := Qh hg
 have hml : r.length = m := hi.1
 clear hR hg HRAW
 rcases hlen with rfl | hlen
 ·
   obtain rfl : m = 0 := by simpa using hml.symm
   go_wp2_with fail
   refine wp_loop_rounds 2 ?_
   repeat any_goals (rw [rounds_succ]; go_wp2_with fail)
   go_ret
   exact ⟨rfl, HR.out, HG.out⟩
 ·
   obtain ⟨x, rfl⟩ : ∃ x, r = [x] := by
    match r, hlen with
    | [x], _ => exact ⟨x, rfl⟩
   ·
    obtain rfl : m = 1 := by simpa using hml.symm
    obtain ⟨b, off, y, rfl, _, hy, _, hc⟩ := hi.at (Below.refl _ _) (j := 0) (by omega)
    obtain rfl : y = x := by rw [hy]; rfl
    have hc0 : w'.cell? ⟨b, off, none⟩ = some (.int .u8 y) := by simpa using hc
    clear hc hi hml hlen hy
    go_wp2_with fail
    refine wp_loop_rounds 2 ?_
    repeat any_goals (rw [rounds_succ]; go_wp2_with fail)
    go_ret
    exact ⟨rfl, HR.out, HG.out⟩
theorem getS_le (bs : List Int) : getS bs ≤ bs.length := by
 cases bs with
 | nil => exact Nat.le_refl _
 | cons b t =>
   show (if (b :: t).length < szM b then 0 else szM b) ≤ _
   split <;> omega
theorem var_any (W0 w : World) (L p : Nat) (bs : List Int) (bad : Bool) (h : Rd W0 w L p 97 bs bad) :
   Calls Try.prog 32 #[.pointer (some ⟨p, 0, none⟩)] w fun e w' => e = .returned (.int .u64 (varM bs bad).1) ∧ Rd W0 w' L p 97 (varM bs bad).2.1 (varM bs bad).2.2 ∧ w.grownBy w' (some p) := by
 obtain ⟨a, len, cap, hr, h1, h2, h3, h4⟩ := h.ex
 have c0 : w.cell? ⟨p, 0, none⟩ = some (.slice a len cap) := row_cell hr 0 _ rfl
 have c1 : w.cell? ⟨p, 1, none⟩ = some (.bool bad) := row_cell hr 1 _ rfl
 have f0 := row_free hr 0
 have hl := h3.1
 have hsm := h.small
 have HR := Qh h; have H3 := Qh h3; have HROW := Qh hr
 clear h h3 hr
 have hgs : getS bs ≤ bs.length := getS_le bs
 go_enter Try.func32, Try.ntmps32
 go_wp2_with fail
 refine Calls.mono (get_any w a len cap bs (by omega) h1 (HR.out.ints H3.out h4)) ?_
 rintro e w' ⟨rfl, rfl⟩
 by_cases hb : bad = true ∨ getS bs = 0
 ·
   have HM : Hid (varM bs bad = (0, [], true)) := Qh (if_pos hb)
   have HF := Qh (fail_any W0 w' L p bs bad HR.out)
   have hb2 : bad = true ∨ (bad = false ∧ getS bs = 0) := by cases bad <;> simp at hb ⊢; exact hb
   clear hb f0
   rcases hb2 with rfl | ⟨rfl, h⟩
   ·
    go_wp2_with fail
    refine Calls.mono HF.out ?_
    rintro e w' ⟨rfl, hR, hg⟩
    have HR2 := Qh hR; have HG := Qh hg
    clear hR hg
    go_wp2_with fail
    go_ret
    exact ⟨by rw [HM.out]; rfl, by rw [HM.out]; exact HR2.out, HG.out⟩
   ·
    rw [h]
    go_wp2_with fail
    refine Calls.mono HF.out ?_
    rintro e w' ⟨rfl, hR, hg⟩
    have HR2 := Qh hR; have HG := Qh hg
    clear hR hg
    go_wp2_with fail
    go_ret
    exact ⟨by rw [HM.out]; rfl, by rw [HM.out]; exact HR2.out, HG.out⟩
 ·
   have hb1 : bad = false := by cases bad <;> simp_all
   subst hb1
   have HM : Hid (varM bs false = (getN bs, bs.drop (getS bs), false)) := Qh (if_neg hb)
   obtain ⟨s, es⟩ : ∃ s, getS bs = s := ⟨_, rfl⟩
   rw [es] at hgs HM ⊢
   have hs0 : s ≠ 0 := by rw [← es]; simp at hb; exact hb
   clear es hb
   have hsl : s ≤ len := by omega
   by_cases hlt : s < len
   ·
    rcases H3.out.2.2 with h0 | ⟨ba, off, rfl, _, _⟩
    ·
     omega
    ·
     go_wp2_with fail
     go_ret
     refine ⟨by rw [HM.out]; rfl, ?_, grown_setCell _ _ _ _⟩
     rw [HM.out]
     exact HR.out.set (grown_setCell _ _ _ _) ((At.base HROW.out).set 0 _).row (by omega) (by omega) (by simp) (H3.out.rest s hsl _ fun _ => ⟨ba, off, rfl, rfl⟩) (fun x hx => by injection hx with hx; subst hx; exact h4 ⟨ba, off, none⟩ rfl)
   ·
    obtain rfl : s = len := by omega
    go_wp2_with fail
    all_goals
     go_ret
     refine ⟨by rw [HM.out]; rfl, ?_, grown_setCell _ _ _ _⟩
     rw [HM.out]
     exact HR.out.set (grown_setCell _ _ _ _) ((At.base HROW.out).set 0 _).row (by omega) (by omega) (by simp) (by rw [show (getN bs, bs.drop s, false).2.1 = [] from List.drop_of_length_le (by omega)]; exact IntsK.nil _ _ _) (by first | exact h4 | exact low_rest h4)
theorem left_any (W0 w : World) (L p : Nat) (bs : List Int) (bad : Bool) (h : Rd W0 w L p 97 bs bad) :
   Calls Try.prog 36 #[.pointer (some ⟨p, 0, none⟩)] w fun e w' => e = .returned (.int .i64 bs.length) ∧ w' = w := by
 obtain ⟨a, len, cap, hr, h1, h2, h3, h4⟩ := h.ex
 have c0 : w.cell? ⟨p, 0, none⟩ = some (.slice a len cap) := row_cell hr 0 _ rfl
 have HL := Qh h3.1
 clear h h3 hr
 go_enter Try.func36, Try.ntmps36
 go_wp2_with fail
 go_ret
 exact ⟨by rw [HL.out]; rfl, rfl⟩
theorem bad_any (W0 w : World) (L p : Nat) (bs : List Int) (bad : Bool) (h : Rd W0 w L p 97 bs bad) :
   Calls Try.prog 35 #[.pointer (some ⟨p, 0, none⟩)] w fun e w' => e = .returned (.bool bad) ∧ w' = w := by
 obtain ⟨a, len, cap, hr, h1, h2, h3, h4⟩ := h.ex
 have c1 : w.cell? ⟨p, 1, none⟩ = some (.bool bad) := row_cell hr 1 _ rfl
 clear h h3 hr
 go_enter Try.func35, Try.ntmps35
 go_wp2_with fail
 go_ret
 exact ⟨rfl, rfl⟩
theorem getN_in (bs : List Int) (h : ∀ x ∈ bs, 0 ≤ x ∧ x ≤ 255) : 0 ≤ getN bs ∧ getN bs ≤ 4611686018427387903 := by
 cases bs with
 | nil => exact ⟨by decide, by decide⟩
 | cons b t =>
   show 0 ≤ (if (b :: t).length < szM b then 0 else valM (b % 64) (t.take (szM b - 1))) ∧ (if (b :: t).length < szM b then 0 else valM (b % 64) (t.take (szM b - 1))) ≤ 4611686018427387903
   split
   ·
    omega
   ·
    have hb := h b (by simp)
    have hin := valM_in (b % 64) (by omega) (t.take (szM b - 1)) (fun x hx => h x (by simp [List.mem_of_mem_take hx]))
    have hlt : (t.take (szM b - 1)).length ≤ 7 := by
     have := szM_cases hb
     rw [List.length_take]; omega
    have hp := pow_le8 _ 7 hlt
    rw [show (256 : Int) ^ 7 = 72057594037927936 from by decide] at hp
    obtain ⟨P, eP⟩ : ∃ P : Int, 256 ^ (t.take (szM b - 1)).length = P := ⟨_, rfl⟩
    have hP : 0 < P := by rw [← eP]; exact Int.pow_pos (by decide)
    rw [eP] at hin hp
    have h1 : (b % 64 + 1) * P ≤ 64 * 72057594037927936 := Int.mul_le_mul (by omega) hp (by omega) (by omega)
    have h2 : 0 ≤ b % 64 * P := Int.mul_nonneg (by omega) (by omega)
    omega
theorem varM_in (bs : List Int) (bad : Bool) (h : ∀ x ∈ bs, 0 ≤ x ∧ x ≤ 255) : 0 ≤ (varM bs bad).1 ∧ (varM bs bad).1 ≤ 4611686018427387903 := by
 unfold varM; split
 ·
   exact ⟨by decide, by decide⟩
 ·
   exact getN_in bs h
theorem Rd.bytes {W0 w : World} {L p : Nat} {T : TypeId} {bs : List Int} {bad : Bool} (h : Rd W0 w L p T bs bad) : ∀ x ∈ bs, 0 ≤ x ∧ x ≤ 255 := by
 obtain ⟨a, len, cap, hr, h1, h2, h3, h4⟩ := h.ex
 exact fun x hx => bounds_u8 (h3.2.1 x hx)
theorem own_cap {w : World} {base e n size : Nat} {v : Value} {xs : List Value} (h : w.ownsRow base e size v n xs) : ∀ b l c, v = .slice b l c → c ≤ 9223372036854775807 := by
 intro b l c e
 rcases h.2 with ⟨rfl, rfl⟩ | ⟨g, cap, cur, rfl, hg, hrow, hn, hc, hsz, htk⟩
 ·
   injection e with e1 e2 e3; omega
 ·
   injection e with e1 e2 e3; subst e3; unfold maxLen at hc; omega
theorem of_any (w : World) (a : Option Addr) (len cap : Nat) (bs : List Int) (hlen : len ≤ 1000000000000) (hI : IntsK .u8 w a len bs) :
   Calls Try.prog 31 #[.slice a len cap] w fun e w' => ∃ W0 p, e = .returned (.pointer (some ⟨p, 0, none⟩)) ∧ Rd W0 w' w.heap.size p 97 bs false ∧ Below w.heap.size w W0 ∧ Below W0.heap.size W0 w' := by
 have HI := Qh hI; clear hI
 go_enter Try.func31, Try.ntmps31
 go_wp2_with fail
 refine Calls.mono (clone_any w a len cap bs (by omega) HI.out) ?_
 rintro e w' ⟨v, rfl, hb, ho⟩
 have hcm := own_cap ho
 obtain ⟨a1, cap1, rfl, hc1, hi1, hlow⟩ := ints_of_own ho HI.out.2.1
 replace hcm := hcm _ _ _ rfl
 have HB := Qh hb; have HI1 := Qh hi1
 clear hb ho hi1
 go_wp2_with fail
 go_ret
 have h1 : len ≤ 140737488355328 := by omega
 refine ⟨w', _, rfl, ⟨Nat.le_refl _, fun i _ hi => ((Below.refl _ _).alloc (Nat.le_refl _) _).block i hi, by rw [HI.out.1]; exact h1, a1, len, cap1, heap_alloc_new _ _, hc1, hcm, HI1.out, hlow⟩, HB.out, (Below.refl _ _).alloc (Nat.le_refl _) _⟩
end Go.Proofs.Ytmbjepcbokbemaa
namespace Go.Proofs.Ytmbjepcbokbemaa
open Go.RowKit
def rawM (n : Int) (s : Nat) : Nat → List Int
 | 0 => []
 | j + 1 => rawM n s j ++ [n / 2 ^ (8 * (s - 1 - j)) % 256]
def putM (n : Int) : List Int :=
 match sizeM n with
 | 1 => [n]
 | 2 => [n / 256 + 64, n % 256]
 | 4 => [n / 16777216 + 128, n / 65536 % 256, n / 256 % 256, n % 256]
 | 8 => [n / 72057594037927936 + 192, n / 281474976710656 % 256, n / 1099511627776 % 256, n / 4294967296 % 256, n / 16777216 % 256, n / 65536 % 256, n / 256 % 256, n % 256]
 | _ => []
theorem sizeM_cases (n : Int) : (n < 64 ∧ sizeM n = 1) ∨ (64 ≤ n ∧ n < 16384 ∧ sizeM n = 2) ∨ (16384 ≤ n ∧ n < 1073741824 ∧ sizeM n = 4) ∨ (1073741824 ≤ n ∧ n ≤ 4611686018427387903 ∧ sizeM n = 8) ∨ (4611686018427387903 < n ∧ sizeM n = 0) := by
 unfold sizeM; (repeat' split) <;> omega
theorem putM_len (n : Int) : (putM n).length = sizeM n := by
 rcases sizeM_cases n with ⟨_, h⟩ | ⟨_, _, h⟩ | ⟨_, _, h⟩ | ⟨_, _, h⟩ | ⟨_, h⟩ <;> simp [putM, h]
theorem putM_wf (n : Int) (h : 0 ≤ n) : ∀ x ∈ putM n, (Lit.int .u8 x).wf = true := by
 intro x hx
 have hb : 0 ≤ x ∧ x < 256 := by
   rcases sizeM_cases n with ⟨h1, e⟩ | ⟨h0, h1, e⟩ | ⟨h0, h1, e⟩ | ⟨h0, h1, e⟩ | ⟨_, e⟩ <;> simp only [putM, e, List.mem_cons, List.not_mem_nil, or_false] at hx <;> omega
 exact wf_u8_of hb.1 hb.2
theorem wf_u8_mod (x : Int) : (Lit.int .u8 (x % 256)).wf = true := wf_u8_of (Int.emod_nonneg _ (by decide)) (Int.emod_lt_of_pos _ (by decide))
theorem put_any (w : World) (a : Option Addr) (len cap : Nat) (bs : List Int) (n : Int) (hn : 0 ≤ n ∧ n < 18446744073709551616) (hlen : len + 8 ≤ 140737488355328) (hI : IntsK .u8 w a len bs) :
   Calls Try.prog 75 #[.slice a len cap, .int .u64 n] w fun e w' => ∃ v, e = .returned (.tuple #[v, .bool (decide (sizeM n ≠ 0))]) ∧ Below w.heap.size w w' ∧
    w'.ownsRow w.heap.size 5 1 v (len + sizeM n) ((bs ++ putM n).map (Value.int .u8)) := by
 have HI := Qh hI; clear hI
 go_enter Try.func75, Try.ntmps75
 go_wp2_with (first | (at_builtin; refine wpList_append_bytes rfl _ _ rfl w.heap.size 0 (.slice none 0 0) [] rfl (World.ownsRow_nil _ _ _ _) _ _ _ _ rfl HI.out (by omega) (Nat.le_refl _) ?_; intro v1 w1 hown1 hgrow1; have HO := Qh hown1; have HL := Qh ((Below.refl w.heap.size w).grown hgrow1 (Nat.le_refl _) (by intro k hk; simp [Value.ownBlock] at hk)); clear hown1 hgrow1) | fail)
 refine Calls.mono (size_any _ n) ?_
 rintro e w' ⟨rfl, rfl⟩
 have hsz := sizeM_cases n
 obtain ⟨s, es⟩ : ∃ s, sizeM n = s := ⟨_, rfl⟩
 have hputl := putM_len n
 rw [es] at hputl hsz ⊢
 have ES := Qh es
 by_cases hs0 : s = 0
 ·
   subst hs0
   have E0 : Hid (putM n = []) := Qh (List.eq_nil_of_length_eq_zero hputl)
   go_wp2_with fail
   go_ret2
   exact ⟨v1, by rw [ES.out]; rfl, HL.out, by rw [ES.out, E0.out]; simpa using HO.out⟩
 ·
   have hs8 : s ≤ 8 := by omega
   have HO0 : Hid (w'.ownsRow w.heap.size 5 1 v1 (len + 0) ((bs ++ rawM n s 0).map (Value.int .u8))) := Qh (by simpa [rawM] using HO.out)
   have hl : bs.length = len := HI.out.1
   clear HO es
   obtain ⟨b1, cp1, rfl, _⟩ := own_slice HO0.out
   go_upto_region 6 with fail
   go_wp2_with fail
   generalize ((s : Int) == 0) = q16
   go_loopw [6, 9] (fun s6 s9 wr => ∃ (j : Nat) (k : Int), s9 = .int .i64 k ∧ k + j + 1 = s ∧ j ≤ s ∧ Hid (Below w.heap.size w wr) ∧ Hid (wr.ownsRow w.heap.size 5 1 s6 (len + j) ((bs ++ rawM n s j).map (Value.int .u8)))) (fun _ s9 _ => ((intOf s9) + 1).toNat)
   case atStart => exact ⟨0, _, rfl, by omega, by omega, HL, HO0⟩
   case round =>
    clear HO0 HL
    obtain ⟨j, k, rfl, hk, hj, HL, HO⟩ := hrel
    obtain ⟨b2, cp2, rfl, _⟩ := own_slice HO.out
    by_cases hk0 : 0 ≤ k
    ·
     have hx : n / 2 ^ (8 * k).toNat % 256 = n / 2 ^ (8 * (s - 1 - j)) % 256 := by rw [show (8 * k).toNat = 8 * (s - 1 - j) by omega]
     have HX := Qh hx; clear hx
     have hm := HL.out.size
     go_wp2_with (first | (at_builtin; refine wpList_append_bytes rfl _ _ rfl w.heap.size _ _ _ rfl (own_below HO.out ((Below.refl _ _).alloc (Nat.le_refl _) _)) _ _ _ _ rfl (ints_made _ _ (wf_u8_mod _)) (by omega) (by simp; omega) ?_; intro v3 w3 hown3 hgrow3; have HO3 := Qh hown3; have HL3 := Qh ((HL.out.alloc HL.out.size _).grown hgrow3 (by simp; omega) (own_base HO.out)); clear hown3 hgrow3) | fail)
     have HO4 : Hid (w3.ownsRow w.heap.size 5 1 v3 (len + (j + 1)) ((bs ++ rawM n s (j + 1)).map (Value.int .u8))) := Qh (by
      have h := HO3.out
      rw [HX.out, List.append_assoc] at h
      exact h)
     clear HO3 HO HL hm
     go_roundw
     case rel => exact ⟨j + 1, k - 1, rfl, by omega, by omega, HL3, HO4⟩
     case measure => simp [intOf]; omega
    ·
     obtain rfl : k = -1 := by omega
     obtain rfl : j = s := by omega
     go_upto_region 10 with fail
     have HT : Hid ((bs ++ rawM n j j)[len]? = some (n / 2 ^ (8 * (j - 1)) % 256)) := Qh (by
      rw [List.getElem?_append_right (by omega), hl, Nat.sub_self]
      rcases hsz with ⟨_, rfl⟩ | ⟨_, _, rfl⟩ | ⟨_, _, rfl⟩ | ⟨_, _, rfl⟩ | ⟨_, rfl⟩ <;> simp [rawM] at hs0 ⊢)
     obtain ⟨g, rfl, hg, hgl, hfz, hcells, _⟩ := own_set HO.out (Below.refl _ _) (i := len) (by omega) (.int .u8 0) rfl
     have hc : wr.cell? ⟨g, len, none⟩ = some (.int .u8 (n / 2 ^ (8 * (j - 1)) % 256)) := hcells _ _ (by rw [List.getElem?_map, HT.out]; rfl)
     clear hcells
     have hset : ∀ (zs : List Int) (y : Int), ((bs ++ zs).map (Value.int .u8)).set len (.int .u8 y) = (bs ++ zs.set 0 y).map (Value.int .u8) := fun zs y => by
      rw [List.map_append, List.map_append, List.set_append_right _ _ (by simp; omega)]
      simp [hl]
     have HS := Qh hset; clear hset
     rcases hsz with ⟨h1, rfl⟩ | ⟨h0, h1, rfl⟩ | ⟨h0, h1, rfl⟩ | ⟨h0, h1, rfl⟩ | ⟨_, rfl⟩
     ·
      go_wp2_with fail
      refine wp_loop_rounds 5 ?_
      repeat any_goals (rw [rounds_succ]; go_wp2_with fail)
      go_ret2
      refine ⟨_, by rw [ES.out]; rfl, HL.out, ?_⟩
      have h := HO.out
      rw [show rawM n 1 1 = putM n by simp [putM, ES.out, rawM]; omega] at h
      rw [ES.out]; exact h
     ·
      simp only [Nat.reduceMul, Nat.reduceSub] at hc
      go_wp2_with fail
      refine wp_loop_rounds 5 ?_
      repeat any_goals (rw [rounds_succ]; go_wp2_with fail)
      go_ret2
      refine ⟨_, by rw [ES.out]; rfl, HL.out.setCell (p := ⟨g, len, none⟩) hg _, ?_⟩
      have h := own_put HO.out (i := len) (by omega) (.int .u8 (n / 256 % 256 + 64)) rfl
      rw [HS.out, show (rawM n 2 2).set 0 (n / 256 % 256 + 64) = putM n by simp [putM, ES.out, rawM]; omega] at h
      rw [ES.out]; exact h
     ·
      simp only [Nat.reduceMul, Nat.reduceSub] at hc
      go_wp2_with fail
      refine wp_loop_rounds 5 ?_
      repeat any_goals (rw [rounds_succ]; go_wp2_with fail)
      go_ret2
      refine ⟨_, by rw [ES.out]; rfl, (HL.out.setCell (p := ⟨g, len, none⟩) hg _).setCell (p := ⟨g, len, none⟩) hg _, ?_⟩
      have h := own_put (own_put HO.out (i := len) (by omega) (.int .u8 (n / 16777216 % 256 + 64)) rfl) (i := len) (by omega) (.int .u8 (n / 16777216 % 256 + 64 + 64)) rfl
      rw [HS.out, HS.out, show ((rawM n 4 4).set 0 (n / 16777216 % 256 + 64)).set 0 (n / 16777216 % 256 + 64 + 64) = putM n by simp [putM, ES.out, rawM]; omega] at h
      rw [ES.out]; exact h
     ·
      simp only [Nat.reduceMul, Nat.reduceSub] at hc
      go_wp2_with fail
      refine wp_loop_rounds 5 ?_
      repeat any_goals (rw [rounds_succ]; go_wp2_with fail)
      go_ret2
      refine ⟨_, by rw [ES.out]; rfl, ((HL.out.setCell (p := ⟨g, len, none⟩) hg _).setCell (p := ⟨g, len, none⟩) hg _).setCell (p := ⟨g, len, none⟩) hg _, ?_⟩
      have h := own_put (own_put (own_put HO.out (i := len) (by omega) (.int .u8 (n / 72057594037927936 % 256 + 64)) rfl) (i := len) (by omega) (.int .u8 (n / 72057594037927936 % 256 + 64 + 64)) rfl) (i := len) (by omega) (.int .u8 (n / 72057594037927936 % 256 + 64 + 64 + 64)) rfl
      rw [HS.out, HS.out, HS.out, show (((rawM n 8 8).set 0 (n / 72057594037927936 % 256 + 64)).set 0 (n / 72057594037927936 % 256 + 64 + 64)).set 0 (n / 72057594037927936 % 256 + 64 + 64 + 64) = putM n by simp [putM, ES.out, rawM]; omega] at h
      rw [ES.out]; exact h
     ·
      exact absurd rfl hs0
end Go.Proofs.Ytmbjepcbokbemaa
namespace Go.Proofs.Ytmbjepcbokbemaa
open Go.RowKit
end Go.Proofs.Ytmbjepcbokbemaa
