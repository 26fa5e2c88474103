/- params: contracts of number, take. -/
import Derived.Test.YtlpajohhnngbmaaPrm2
namespace Go.Proofs.Ytlpajohhnngbmaa
open Go.RowKit
set_option linter.unusedVariables false

def numOk (x : List Int) : Bool := !(varM x false).2.2 && decide ((varM x false).2.1.length = 0)
set_option maxRecDepth 100000 in
theorem pnumber_any (w : World) (a : Option Addr) (len cap : Nat) (bs : List Int) (hlen : len ≤ 1000000000000) (hI : IntsK .u8 w a len bs) :
    Calls Try.prog 84 #[.slice a len cap] w fun e w' => e = .returned (.tuple #[.int .u64 (varM bs false).1, .bool (numOk bs)]) ∧ Below w.heap.size w w' := by
  have HI := Lib.hid hI; clear hI
  go_enter Try.func84, Try.ntmps84
  go_wp2_with fail
  refine Calls.mono (of_any w a len cap bs hlen HI.out) ?_
  rintro e w1 ⟨W0, p, rfl, hR, hb0, hb1⟩
  have HB1 := Lib.hid (bl_next hb0 hb0.size hb1)
  have hp : w.heap.size ≤ p := Nat.le_trans hb0.size hR.lo
  have HR := Lib.hid hR
  clear hb0 hb1 hR
  go_wp2_with fail
  refine Calls.mono (var_any _ _ _ _ _ _ HR.out) ?_
  rintro e w2 ⟨rfl, hR2, hg2⟩
  have HB2 := Lib.hid (HB1.out.grown hg2 HB1.out.size (by intro k hk; injection hk with hk; omega))
  have HN : Hid (numOk bs = (!(varM bs false).2.2 && decide ((varM bs false).2.1.length = 0))) := Lib.hid rfl
  have HR2 := Lib.hid hR2
  clear hR2 hg2 HR HB1
  obtain ⟨⟨n, bs', bad'⟩, hv⟩ : ∃ r, varM bs false = r := ⟨_, rfl⟩
  have HV : Hid ((varM bs false).1 = n) := Lib.hid (congrArg Prod.fst hv)
  rw [hv] at HN HR2 ⊢
  simp only at HN HR2 ⊢
  clear hv
  go_wp2_with fail
  refine Calls.mono (bad_any _ _ _ _ _ _ HR2.out) ?_
  rintro e w3 ⟨rfl, rfl⟩
  cases bad' with
  | true =>
    go_wp2_with fail
    go_ret2
    exact ⟨by rw [HN.out, HV.out]; rfl, HB2.out⟩
  | false =>
    go_wp2_with fail
    refine Calls.mono (left_any _ _ _ _ _ _ HR2.out) ?_
    rintro e w3 ⟨rfl, rfl⟩
    cases bs' with
    | nil =>
      go_wp2_with fail
      go_ret2
      exact ⟨by rw [HN.out, HV.out]; rfl, HB2.out⟩
    | cons c t =>
      have hb : ((((c :: t).length : Nat) : Int) == 0) = false := by
        rw [beq_eq_false_iff_ne]; simp; omega
      generalize hL : (c :: t).length = L at *
      have HL := Lib.hid hL
      clear hL
      go_wp2_with fail
      go_ret2
      exact ⟨by rw [HN.out, HV.out, ← HL.out]; simp, HB2.out⟩

/-- a copy into a row that is known whole: nothing else turns. -/
theorem grown_setRow (w : World) (g : Nat) (cs : Array Value) : w.grownBy (w.setRow g cs) (some g) :=
  ⟨rfl, rfl, rfl, by simp [World.setRow], fun i _ hr => setRow_other w g i cs (by intro e; exact hr (by rw [e]))⟩
theorem wpList_copy_grown {P : Program} {w : World} {ops : Array Oper} {rest : List Oper} {o : Oper} {a : Act} {Q : Exit → Act → World → Prop} (hgd : o.guard = none) (d s : Operand) (dT sT : TypeId)
    (ho : o.op = .call { callee := .builtin .copy, args := #[d, s], argTypes := #[dT, sT] }) (elem : TypeId) (hu : P.underlying dT = some (.slice elem)) (hsz : (P.info? elem).map (·.size) = some 1)
    (dp sp : Option Addr) (dLen dCap sLen sCap : Nat) (hd : a.eval d = .slice dp dLen dCap) (hs : a.eval s = .slice sp sLen sCap)
    (g off : Nat) (cur : List Value) (t : TypeId) (hg : w.heap[g]? = some (.cells cur.toArray t (0, 0))) (cs : List Value) (hn : cs.length = Nat.min sLen dLen)
    (hpos : 0 < cs.length → dp = some ⟨g, off, none⟩ ∧ ∃ ad, sp = some ad ∧ ∀ j v, cs[j]? = some v → w.cell? (ad.add j) = some v)
    (hfit : off + cs.length ≤ cur.length) (h1 : ∀ v ∈ cs, v.oneCell' = true)
    (h : ∀ w', Hid (w'.heap[g]? = some (.cells (splice cur off cs).toArray t (0, 0))) → w.grownBy w' (some g) → wpList P ops Q rest (a.put o.dst (goInt cs.length)) w') :
    wpList P ops Q (o :: rest) a w := by
  by_cases h0 : cs.length = 0
  · obtain rfl : cs = [] := List.eq_nil_of_length_eq_zero h0
    refine wpList_copy_nothing hgd d s dT sT ho elem hu hsz dp sp dLen dCap sLen sCap hd hs (by simpa using hn.symm) ?_
    exact h w (Lib.hid (by simpa [splice] using hg)) (grown_refl _ _)
  · obtain ⟨rfl, ad, rfl, hsrc⟩ := hpos (by omega)
    refine wpList_copy_own hgd d s dT sT ho elem hu hsz g off dLen dCap ad sLen sCap hd hs cur.toArray t hg cs hn hsrc (by simpa using hfit) h1 ?_
    exact h _ (Lib.hid (by simpa [splice] using setRow_heap w g _ _ t _ hg)) (grown_setRow _ _ _)

def takeM (p : Pm) (id : Int) (x : List Int) : Pm × Bool :=
  if id = 0 then ({ p with f := splice p.f 0 (x.take 8) }, decide (x.length = 8))
  else if id = 1 then ({ p with i := (varM x false).1 }, numOk x)
  else if id = 4 then ({ p with d := (varM x false).1 }, numOk x)
  else if id = 5 then ({ p with s := (varM x false).1 }, numOk x)
  else if id = 8 then ({ p with m := (varM x false).1 }, numOk x)
  else (p, true)
theorem row_splice (p : Pm) (cs : List Int) : splice p.row 4 (cs.map (Value.int .u8)) = { p with f := splice p.f 0 cs }.row := by
  unfold Pm.row splice
  simp [List.map_drop]
  rw [Nat.add_comm]; rfl
set_option maxRecDepth 100000 in
theorem infoU8t : (Try.prog.info? 5).map (·.size) = some 1 := by kernel_rfl

set_option maxRecDepth 100000 in
set_option maxHeartbeats 1000000 in
theorem take_any (w : World) (g : Nat) (p : Pm) (id : Int) (a : Option Addr) (len cap : Nat) (bs : List Int) (hlen : len ≤ 1000000000000) (hI : IntsK .u8 w a len bs) (hl : p.f.length = 8) (hr : w.heap[g]? = some (.cells p.row.toArray 26 (0, 0))) :
    Calls Try.prog 73 #[.pointer (some ⟨g, 0, none⟩), .int .u64 id, .slice a len cap] w fun e w' => e = .returned (.bool (takeM p id bs).2) ∧ w'.heap[g]? = some (.cells (takeM p id bs).1.row.toArray 26 (0, 0)) ∧ w.grownBy w' (some g) := by
  have HI := Lib.hid hI; have HR := Lib.hid hr; have HLF := Lib.hid hl
  have hlb := hI.1
  clear hI hr hl
  go_enter Try.func73, Try.ntmps73
  go_wp2_with fail
  refine Calls.mono (pnumber_any w a len cap bs hlen HI.out) ?_
  rintro e w1 ⟨rfl, hb1⟩
  have HI1 := Lib.hid (HI.out.below hb1)
  have HR1 := Lib.hid (bl_row hb1 (lt_of_block HR.out) HR.out)
  have HG1 := Lib.hid (grown_below hb1 (some g))
  clear hb1 HI HR
  obtain ⟨n, hn⟩ : ∃ n, (varM bs false).1 = n := ⟨_, rfl⟩
  obtain ⟨k, hk⟩ : ∃ k, numOk bs = k := ⟨_, rfl⟩
  have HN := Lib.hid hn; have HK := Lib.hid hk
  rw [hn, hk]
  clear hn hk
  by_cases h0 : id = 0
  · subst h0
    obtain ⟨cs, hcs⟩ : ∃ cs, bs.take 8 = cs := ⟨_, rfl⟩
    have hcl : (cs.map (Value.int .u8)).length = Nat.min len 8 := by rw [← hcs, List.length_map, List.length_take, hlb]; exact Nat.min_comm _ _
    have hpos : 0 < (cs.map (Value.int .u8)).length → ∃ ad, a = some ad ∧ ∀ j v, (cs.map (Value.int .u8))[j]? = some v → w1.cell? (ad.add j) = some v := by
      intro h
      have h3 : 0 < len := by rw [hcl] at h; exact Nat.lt_of_lt_of_le h (Nat.min_le_left _ _)
      obtain ⟨ad, e, _, h2⟩ := HI1.out.src h3
      refine ⟨ad, e, fun j v hv => h2 j v ?_⟩
      rw [← hcs, List.map_take] at hv
      by_cases hj : j < 8
      · rw [List.getElem?_take_of_lt hj] at hv; exact hv
      · rw [List.getElem?_eq_none (by rw [List.length_take]; omega)] at hv; cases hv
    have hfit : 4 + (cs.map (Value.int .u8)).length ≤ p.row.length := by
      rw [hcl]; have h8 : Nat.min len 8 ≤ 8 := Nat.min_le_right len 8; simp [Pm.row, HLF.out]; omega
    have HC := Lib.hid (And.intro hcl (And.intro hpos hfit))
    have HCS := Lib.hid hcs
    clear hcl hpos hfit hcs
    go_wp2_with (first
      | (with_reducible refine wpList_copy_grown rfl _ _ 31 31 rfl 5 Try.underlying31 infoU8t _ _ _ _ _ _ rfl rfl g 4 p.row 26 HR1.out (cs.map (Value.int .u8)) HC.out.1 (fun h => ⟨rfl, HC.out.2.1 h⟩) HC.out.2.2 ints_one ?_; intro w2 HR2 hg2; have HG2 := Lib.hid (grown_trans HG1.out hg2); clear hg2)
      | fail)
    go_ret
    have hd : decide (bs.length = 8) = decide (len = 8) := by rw [hlb]
    rw [show takeM p 0 bs = ({ p with f := splice p.f 0 cs }, decide (len = 8)) by unfold takeM; rw [if_pos rfl, HCS.out, hd], ← row_splice]
    have he : ((len : Int) == 8) = decide (len = 8) := by rw [Bool.eq_iff_iff]; simp; omega
    refine ⟨?_, HR2.out, HG2.out⟩
    show Ending.returned (.bool ((len : Int) == 8)) = _
    rw [he]
  have b0 : (id == 0) = false := by simpa using h0
  by_cases h1 : id = 1
  · subst h1
    have f := row_free HR1.out 0
    have c : w1.cell? ⟨g, 0, none⟩ = some (.int .u64 p.i) := row_cell HR1.out 0 _ rfl
    have hA := ((At.base HR1.out).set 0 (.int .u64 n)).conv (cs' := { p with i := n }.row.toArray) (by simp [Pm.row])
    have HA := Lib.hid hA
    clear hA
    go_wp2_with fail
    go_ret
    rw [show takeM p 1 bs = ({ p with i := n }, k) by simp [takeM, HN.out, HK.out]]
    exact ⟨rfl, HA.out.row, grown_trans HG1.out HA.out.rest⟩
  have b1 : (id == 1) = false := by simpa using h1
  by_cases h4 : id = 4
  · subst h4
    have f := row_free HR1.out 1
    have c : w1.cell? ⟨g, 1, none⟩ = some (.int .u64 p.d) := row_cell HR1.out 1 _ rfl
    have hA := ((At.base HR1.out).set 1 (.int .u64 n)).conv (cs' := { p with d := n }.row.toArray) (by simp [Pm.row])
    have HA := Lib.hid hA
    clear hA
    go_wp2_with fail
    go_ret
    rw [show takeM p 4 bs = ({ p with d := n }, k) by simp [takeM, HN.out, HK.out]]
    exact ⟨rfl, HA.out.row, grown_trans HG1.out HA.out.rest⟩
  have b4 : (id == 4) = false := by simpa using h4
  by_cases h5 : id = 5
  · subst h5
    have f := row_free HR1.out 2
    have c : w1.cell? ⟨g, 2, none⟩ = some (.int .u64 p.s) := row_cell HR1.out 2 _ rfl
    have hA := ((At.base HR1.out).set 2 (.int .u64 n)).conv (cs' := { p with s := n }.row.toArray) (by simp [Pm.row])
    have HA := Lib.hid hA
    clear hA
    go_wp2_with fail
    go_ret
    rw [show takeM p 5 bs = ({ p with s := n }, k) by simp [takeM, HN.out, HK.out]]
    exact ⟨rfl, HA.out.row, grown_trans HG1.out HA.out.rest⟩
  have b5 : (id == 5) = false := by simpa using h5
  by_cases h8 : id = 8
  · subst h8
    have f := row_free HR1.out 3
    have c : w1.cell? ⟨g, 3, none⟩ = some (.int .u64 p.m) := row_cell HR1.out 3 _ rfl
    have hA := ((At.base HR1.out).set 3 (.int .u64 n)).conv (cs' := { p with m := n }.row.toArray) (by simp [Pm.row])
    have HA := Lib.hid hA
    clear hA
    go_wp2_with fail
    go_ret
    rw [show takeM p 8 bs = ({ p with m := n }, k) by simp [takeM, HN.out, HK.out]]
    exact ⟨rfl, HA.out.row, grown_trans HG1.out HA.out.rest⟩
  have b8 : (id == 8) = false := by simpa using h8
  have ht : takeM p id bs = (p, true) := by simp [takeM, h0, h1, h4, h5, h8]
  have HT := Lib.hid ht
  clear ht h0 h1 h4 h5 h8
  go_wp2_with fail
  go_ret
  rw [HT.out]
  exact ⟨rfl, HR1.out, HG1.out⟩
end Go.Proofs.Ytlpajohhnngbmaa
