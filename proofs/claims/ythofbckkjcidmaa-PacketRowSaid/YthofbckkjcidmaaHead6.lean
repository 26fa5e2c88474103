/- heads: takeName. -/
import Derived.Test.YthofbckkjcidmaaHead5
namespace Go.Proofs.Ythofbckkjcidmaa
open Go.RowKit
set_option linter.unusedVariables false

theorem wp_copy_grown {P : Program} {w : World} {o : Oper} {a : Act} {K : Act → World → Prop} {Q : Exit → Act → World → Prop} (d s : Operand) (dT sT : TypeId)
    (ho : o.op = .call { callee := .builtin .copy, args := #[d, s], argTypes := #[dT, sT] }) (elem : TypeId) (hu : P.underlying dT = some (.slice elem)) (hsz : (P.info? elem).map (·.size) = some 1)
    (dp sp : Option Addr) (dLen dCap sLen sCap : Nat) (hd : a.eval d = .slice dp dLen dCap) (hs : a.eval s = .slice sp sLen sCap)
    (g off : Nat) (cur : List Value) (t : TypeId) (hg : w.heap[g]? = some (.cells cur.toArray t (0, 0))) (cs : List Value) (hn : cs.length = Nat.min sLen dLen)
    (hpos : 0 < cs.length → dp = some ⟨g, off, none⟩ ∧ ∃ ad, sp = some ad ∧ ∀ j v, cs[j]? = some v → w.cell? (ad.add j) = some v)
    (hfit : off + cs.length ≤ cur.length) (h1 : ∀ v ∈ cs, v.oneCell' = true)
    (h : ∀ w', w'.heap[g]? = some (.cells (splice cur off cs).toArray t (0, 0)) → w.grownBy w' (some g) → K (a.put o.dst (goInt cs.length)) w') :
    Oper.wp P o a w K Q := by
  by_cases h0 : cs.length = 0
  · obtain rfl : cs = [] := List.eq_nil_of_length_eq_zero h0
    have hrun := run_copy_none (P := P) w dT sT o.type elem dp sp dLen dCap sLen sCap hu hsz (by simpa using hn.symm)
    unfold Oper.wp
    simp [execOp, ho, resolve, invoke, builtin, hd, hs, hrun, Result.andThen]
    exact h w (by simpa [splice] using hg) (grown_refl _ _)
  · obtain ⟨rfl, ad, rfl, hsrc⟩ := hpos (by omega)
    have hrun := run_copy_row (P := P) w dT sT o.type elem g off dLen dCap ad sLen sCap cur.toArray t cs hu hsz hg hn hsrc (by simpa using hfit) h1
    unfold Oper.wp
    simp [execOp, ho, resolve, invoke, builtin, hd, hs, hrun, Result.andThen]
    exact h _ (by simpa [splice] using setRow_heap w g _ _ t _ hg) (grown_setRow _ _ _)
theorem rdM_len1 (bs : List Int) (bad : Bool) (n : Nat) : (rdM bs bad n).1.length ≤ n := by
  unfold rdM; split
  · simp
  · simp; omega
/-- a row of bytes, copied over. -/
theorem ints_copy {w : World} {a : Option Addr} {m : Nat} {xs : List Int} (h : IntsK .u8 w a m xs) (n : Nat) (hm : m ≤ n) :
    (xs.map (Value.int .u8)).length = Nat.min m n ∧ (0 < (xs.map (Value.int .u8)).length → ∃ ad, a = some ad ∧ ∀ j v, (xs.map (Value.int .u8))[j]? = some v → w.cell? (ad.add j) = some v) := by
  have hl := h.1
  refine ⟨by rw [List.length_map, hl]; exact (Nat.min_eq_left hm).symm, fun h0 => ?_⟩
  obtain ⟨ad, e, _, h2⟩ := h.src (by rw [List.length_map, hl] at h0; exact h0)
  exact ⟨ad, e, h2⟩
theorem Rd.grownG {W0 w w' : World} {L p g : Nat} {T : TypeId} {bs : List Int} {bad : Bool} (h : Rd W0 w L p T bs bad) (hg : w.grownBy w' (some g)) (h1 : g ≠ p) (h2 : W0.heap.size ≤ g) : Rd W0 w' L p T bs bad :=
  h.ch (fun i _ hi => hg.block i (by have := h.size; omega) (by intro e; injection e with e; omega)) (hg.block p h.lt (by intro e; injection e with e; exact h1 e.symm))
theorem Ch.refl (w : World) (p : Nat) (q : Option Nat) : Ch w w p q := ⟨rfl, rfl, rfl, Nat.le_refl _, fun _ _ _ _ => rfl⟩
theorem Ch.byP {w w' w2 : World} {p : Nat} {q : Option Nat} (h : Ch w w' p q) (hg : w'.grownBy w2 (some p)) : Ch w w2 p q :=
  ⟨hg.os.trans h.os, hg.tape.trans h.tape, hg.output.trans h.output, Nat.le_trans h.size hg.size, fun i hi h1 h2 => (hg.block i (Nat.lt_of_lt_of_le hi h.size) (by intro e; injection e with e; exact h1 e)).trans (h.block i hi h1 h2)⟩
theorem Ch.byQ {w w' w2 : World} {p g : Nat} (h : Ch w w' p (some g)) (hg : w'.grownBy w2 (some g)) : Ch w w2 p (some g) :=
  ⟨hg.os.trans h.os, hg.tape.trans h.tape, hg.output.trans h.output, Nat.le_trans h.size hg.size, fun i hi h1 h2 => (hg.block i (Nat.lt_of_lt_of_le hi h.size) (by intro e; exact h2 e.symm)).trans (h.block i hi h1 h2)⟩
theorem Ch.byB {w w' w2 : World} {p : Nat} {q : Option Nat} (h : Ch w w' p q) (hb : Below w'.heap.size w' w2) : Ch w w2 p q :=
  ⟨hb.os.trans h.os, hb.tape.trans h.tape, hb.output.trans h.output, Nat.le_trans h.size hb.size, fun i hi h1 h2 => (hb.block i (Nat.lt_of_lt_of_le hi h.size)).trans (h.block i hi h1 h2)⟩
theorem Ch.both {w w' w2 : World} {p : Nat} {q : Option Nat} (h : Ch w w' p q) (k : Ch w' w2 p q) : Ch w w2 p q :=
  ⟨k.os.trans h.os, k.tape.trans h.tape, k.output.trans h.output, Nat.le_trans h.size k.size, fun i hi h1 h2 => (k.block i (Nat.lt_of_lt_of_le hi h.size) h1 h2).trans (h.block i hi h1 h2)⟩
theorem int_beq (x y : Int) : (x == y) = decide (x = y) := by rw [Bool.eq_iff_iff]; simp

set_option maxRecDepth 100000 in
set_option maxHeartbeats 2000000 in
theorem takeName_any (W0 w : World) (L p g off : Nat) (bs : List Int) (bad : Bool) (cur : List Value) (hoff : off + 8 ≤ cur.length) (hr : w.heap[g]? = some (.cells cur.toArray 32 (0, 0))) (hgp : g ≠ p) (hgW : W0.heap.size ≤ g) (h : Rd W0 w L p 121 bs bad) :
    Calls Try.prog 84 #[.pointer (some ⟨p, 0, none⟩), .pointer (some ⟨g, off, none⟩)] w fun e w' => e = .returned (.bool (nameM bs bad).1) ∧ Rd W0 w' L p 121 (nameM bs bad).2.2.1 (nameM bs bad).2.2.2 ∧
      w'.heap[g]? = some (.cells (splice cur off ((nameM bs bad).2.1.map (Value.int .u8))).toArray 32 (0, 0)) ∧ Ch w w' p (some g) := by
  have HRD := Lib.hid h; have HR := Lib.hid hr
  unfold nameM
  obtain ⟨⟨x1, x2, x3⟩, hx⟩ : ∃ r, byteM bs bad = r := ⟨_, rfl⟩
  obtain ⟨⟨y1, y2, y3⟩, hy⟩ : ∃ r, rdM x2 x3 8 = r := ⟨_, rfl⟩
  have hyl := rdM_len1 x2 x3 8
  rw [show ((8 : Nat) : Int) = 8 from rfl, hy] at hyl
  simp only [hx, hy] at hyl ⊢
  have HX := Lib.hid hx; have HY := Lib.hid hy; have HYL := Lib.hid hyl
  clear h hr hx hy hyl
  go_enter Try.func84, Try.ntmps84
  go_wp2_with fail
  have hb := byte_any W0 w L p bs bad HRD.out
  rw [HX.out] at hb
  refine Calls.mono hb ?_
  clear hb
  rintro e w1 ⟨rfl, hR, hg1⟩
  have HR1 := Lib.hid (grown_row hg1 (by intro e; injection e with e; exact hgp e) HR.out)
  have HC1 := Lib.hid ((Ch.refl w p (some g)).byP hg1)
  have HRD1 := Lib.hid hR
  clear hR hg1 HR HRD
  go_upto_region 2 with fail
  refine wp_plan (.t 0 (.t 1 (.t 2 (.t 3 (.u 4 (.u 5 .done)))))) (fun y => True) (by kernel_rfl) (by kernel_rfl) (by kernel_rfl) (fun c a d v w h => by cases d <;> exact h) trivial ?_
  haveI hne : Nonempty (In fun y => True) := ⟨⟨w1, trivial⟩⟩
  have HC2 := Lib.hid (HC1.out.byP (grown_drew w1 (some p)))
  have HRD2 := Lib.hid (HRD1.out.to (Below.refl _ _).drew)
  have HR2 : Hid (w1.drew.heap[g]? = some (.cells cur.toArray 32 (0, 0))) := HR1
  clear HC1 HRD1 HR1
  generalize w1.drew = wa at HC2 HRD2 HR2 ⊢
  repeat (refine plan_t (by rfl) ?_; (first | go_big_quiet_skip | (go_big_quiet_want; go_big_quiet_op; go_big_quiet_on)); refine wpQuiet_nil ?_)
  refine plan_us (by rfl) (by kernel_rfl) ?_
  intro K hK
  go_wp2_with fail
  have hb := raw_any W0 wa L p x2 x3 8 (by omega) HRD2.out
  rw [HY.out] at hb
  refine Calls.mono hb ?_
  clear hb
  rintro e w2 ⟨a, m, cap, rfl, hm, hI, hR, hg1, hlo⟩
  have HR3 := Lib.hid (grown_row hg1 (by intro e; injection e with e; exact hgp e) HR2.out)
  have HC3 := Lib.hid (HC2.out.byP hg1)
  have HRD3 := Lib.hid hR
  have hm8 : m ≤ 8 := by have h1 : y1.length = m := hI.1; have := HYL.out; omega
  have HCP := Lib.hid (ints_copy hI 8 hm8)
  have HFIT : Hid (off + (y1.map (Value.int .u8)).length ≤ cur.length) := Lib.hid (by rw [List.length_map]; have := HYL.out; omega)
  clear hR hg1 hI hlo HR2 HC2 HRD2
  go_wp2_with fail
  refine ⟨trivial, ?_⟩
  refine plan_us (by rfl) (by kernel_rfl) ?_
  intro K hK
  refine wp_copy_grown _ _ 23 23 rfl 5 Try.underlying23 infoU8t _ _ _ _ _ _ rfl rfl g off cur 32 HR3.out (y1.map (Value.int .u8)) HCP.out.1 (fun h => ⟨rfl, HCP.out.2 h⟩) HFIT.out ints_one ?_
  intro w3 HR4 hg2
  have HRD4 := Lib.hid (HRD3.out.grownG hg2 hgp hgW)
  have HC4 := Lib.hid (HC3.out.byQ hg2)
  replace HR4 := Lib.hid HR4
  refine hK _ _ ⟨trivial, ?_⟩
  clear hK hg2 hne HCP HFIT
  show Exit.then _ _ _ _ _
  simp only [Act.put, List.setIfInBounds_toArray, List.set_cons_succ, List.set_cons_zero]
  go_wp2_with fail
  go_ret
  exact ⟨by show Ending.returned (.bool (x1 == 8)) = _; rw [int_beq], HRD4.out, HR4.out, HC4.out⟩
end Go.Proofs.Ythofbckkjcidmaa
