/- demux: the table in memory; find. -/
import Derived.Test.YtpngjokjjpdboaaDmx2
import Derived.Test.YtpngjokjjpdboaaLow
import Derived.Test.YtpngjokjjpdboaaMix
import Derived.Test.YtpngjokjjpdboaaRowst
import Derived.Test.YtpngjokjjpdboaaArr
import Derived.Deep.DeepCutAuto
import Derived.Deep.CutBlock
namespace Go.Proofs.Ytpngjokjjpdboaa
open Go.RowKit
set_option linter.unusedVariables false

def Pl.row (p : Pl) : List Value := p.c.map (Value.int .u8) ++ [.int .i64 p.n, .bool p.u]
def tRow (l : List Pl) : List Value := l.flatMap Pl.row
structure Pl.ok (p : Pl) : Prop where
  len : p.c.length = 8
  wf : ∀ x ∈ p.c, (Lit.int .u8 x).wf = true
  bn : -9223372036854775808 ≤ p.n ∧ p.n ≤ 9223372036854775807
theorem Pl.row_len {p : Pl} (h : p.ok) : p.row.length = 10 := by simp [Pl.row, h.len]
theorem Pl.row_one (p : Pl) : ∀ v ∈ p.row, v.oneCell' = true := by
  intro v hv
  simp only [Pl.row, List.mem_append, List.mem_cons, List.not_mem_nil, or_false] at hv
  rcases hv with hv | rfl | rfl
  · exact ints_one v hv
  · rfl
  · rfl
theorem tRow_len : ∀ {l : List Pl}, (∀ p ∈ l, p.ok) → (tRow l).length = l.length * 10
  | [], _ => rfl
  | p :: l, h => by
    have ih := tRow_len (l := l) (fun q hq => h q (List.mem_cons_of_mem _ hq))
    simp only [tRow, List.flatMap_cons, List.length_append, List.length_cons] at ih ⊢
    rw [Pl.row_len (h p (List.mem_cons_self ..)), ih]; omega
theorem tRow_get : ∀ {l : List Pl}, (∀ p ∈ l, p.ok) → ∀ {q : Nat} {p : Pl}, l[q]? = some p → ∀ (j : Nat) (v : Value), p.row[j]? = some v → (tRow l)[q * 10 + j]? = some v
  | [], _, q, p, hq, _, _, _ => by cases hq
  | x :: l, h, 0, p, hq, j, v, hv => by
    injection hq with hq; subst hq
    simp only [tRow, List.flatMap_cons, Nat.zero_mul, Nat.zero_add]
    rw [List.getElem?_append_left (lt_of_get hv)]; exact hv
  | x :: l, h, q + 1, p, hq, j, v, hv => by
    have ih := tRow_get (l := l) (fun q hq => h q (List.mem_cons_of_mem _ hq)) (q := q) (p := p) (by simpa using hq) j v hv
    have hl := Pl.row_len (h x (List.mem_cons_self ..))
    simp only [tRow, List.flatMap_cons] at ih ⊢
    rw [List.getElem?_append_right (by omega), hl, show (q + 1) * 10 + j - 10 = q * 10 + j by omega]
    exact ih
theorem tRow_set {l : List Pl} (h : ∀ p ∈ l, p.ok) {q : Nat} {p x : Pl} (hq : l[q]? = some p) : tRow l = tRow (l.take q) ++ (p.row ++ tRow (l.drop (q + 1))) ∧ tRow (l.set q x) = tRow (l.take q) ++ (x.row ++ tRow (l.drop (q + 1))) ∧ (tRow (l.take q)).length = q * 10 := by
  have hlt := lt_of_get hq
  have e : l = l.take q ++ (p :: l.drop (q + 1)) := by
    rw [List.getElem?_eq_getElem hlt] at hq; injection hq with hq
    rw [← hq, ← List.drop_eq_getElem_cons hlt, List.take_append_drop]
  have e2 : l.set q x = l.take q ++ (x :: l.drop (q + 1)) := by rw [List.set_eq_take_append_cons_drop, if_pos hlt]
  refine ⟨?_, ?_, ?_⟩
  · conv => lhs; rw [e]
    simp [tRow, List.flatMap_append]
  · rw [e2]; simp [tRow, List.flatMap_append]
  · rw [tRow_len (fun p hp => h p (List.mem_of_mem_take hp)), List.length_take]; omega
theorem pl_cell {l : List Pl} (h : ∀ p ∈ l, p.ok) {w : World} {g : Nat} {t : TypeId} (hr : w.heap[g]? = some (.cells (tRow l).toArray t (0, 0))) {q : Nat} {p : Pl} (hq : l[q]? = some p) :
    w.rangeAt g (q * 10) (p.c.map (Value.int .u8)) ∧ w.cell? ⟨g, q * 10 + 8, none⟩ = some (.int .i64 p.n) ∧ w.cell? ⟨g, q * 10 + 9, none⟩ = some (.bool p.u) := by
  have hp := h p (List.mem_of_getElem? hq)
  refine ⟨fun j v hv => ?_, ?_, ?_⟩
  · exact cell_row hr _ v (tRow_get h hq j v (by unfold Pl.row; rw [List.getElem?_append_left (lt_of_get hv)]; exact hv))
  · refine cell_row hr _ _ (tRow_get h hq 8 _ ?_)
    unfold Pl.row
    rw [List.getElem?_append_right (by rw [List.length_map, hp.len]; omega), List.length_map, hp.len]; rfl
  · refine cell_row hr _ _ (tRow_get h hq 9 _ ?_)
    unfold Pl.row
    rw [List.getElem?_append_right (by rw [List.length_map, hp.len]; omega), List.length_map, hp.len]; rfl
theorem eqin_two (w : World) (d t n : Nat) (ht : Try.prog.underlying t = some (.array n 5)) (xs ys : List Int) (hx : xs.length = n) (hy : ys.length = n) (wx : ∀ x ∈ xs, (Lit.int .u8 x).wf = true) (wy : ∀ x ∈ ys, (Lit.int .u8 x).wf = true) :
    (Op.equalIn (d + 2) t (.agg (xs.map (Value.int .u8)).toArray) (.agg (ys.map (Value.int .u8)).toArray)).run Try.prog w = .ok (xs == ys) w := by
  have h := run_equalIn_bytes (P := Try.prog) w d t 5 n ht Try.underlying5 sizeU8 (xs.map toU) (ys.map toU) (by simp [hx]) (by simp [hy])
  rw [map_toU wx, map_toU wy, toU_inj wx wy] at h
  exact h
def homeM (c : List Int) : Nat := (keyedM 0 c).toNat
/-- a table in memory: its struct at p, its places at g. -/
structure Tab (w : World) (N : Nat) (l : List Pl) (p g : Nat) : Prop where
  inv : TInv homeM N l
  pls : ∀ x ∈ l, x.ok
  pow : ∃ k, 3 ≤ k ∧ k ≤ 12 ∧ N = 2 ^ k
  ne : g ≠ p
  row : w.heap[g]? = some (.cells (tRow l).toArray 58 (0, 0))
  box : w.heap[p]? = some (.cells #[.slice (some ⟨g, 0, none⟩) N N, .int .i64 (l.countP (·.u) : Nat)] 52 (0, 0))
theorem Tab.below {w w' : World} {N : Nat} {l : List Pl} {p g : Nat} (h : Tab w N l p g) (hb : Below w.heap.size w w') : Tab w' N l p g :=
  ⟨h.inv, h.pls, h.pow, h.ne, bl_row hb (lt_of_block h.row) h.row, bl_row hb (lt_of_block h.box) h.box⟩
theorem keyed_u64 (k : Int) (bs : List Int) : 0 ≤ keyedM k bs ∧ keyedM k bs < 18446744073709551616 := by
  have h := wf_keyed k bs
  simp [Lit.wf, IntKind.min, IntKind.max, IntKind.signed, IntKind.bits] at h; omega
theorem mask_home {N : Nat} (hp : ∃ k, 3 ≤ k ∧ k ≤ 12 ∧ N = 2 ^ k) (n : Int) (h : 0 ≤ n ∧ n < 18446744073709551616) : bits .and .u64 n ((N : Int) - 1) = ((n.toNat % N : Nat) : Int) := by
  obtain ⟨k, h3, h12, rfl⟩ := hp
  have := and_mask n k h.1 h.2 (by omega)
  rw [show (((2 ^ k : Nat) : Int)) = (2 : Int) ^ k by simp, this]
  have e : n = ((n.toNat : Nat) : Int) := by omega
  conv => lhs; rw [e]
  simp
theorem pow_bd {N : Nat} (hp : ∃ k, 3 ≤ k ∧ k ≤ 12 ∧ N = 2 ^ k) : 8 ≤ N ∧ N ≤ 4096 := by
  obtain ⟨k, h3, h12, rfl⟩ := hp
  have h1 : 2 ^ 3 ≤ 2 ^ k := Nat.pow_le_pow_right (by omega) h3
  have h2 : 2 ^ k ≤ 2 ^ 12 := Nat.pow_le_pow_right (by omega) h12
  omega
theorem ps_succ {N : Nat} (h : 8 ≤ N) (c : List Int) (i : Nat) : (ps homeM N c i + 1) % N = ps homeM N c (i + 1) := by
  unfold ps; rw [Nat.mod_add_mod, Nat.add_assoc]

def FindR (N : Nat) (l : List Pl) (c : List Int) (w : World) (e : Ending) (w' : World) : Prop :=
  Below w.heap.size w w' ∧ ∃ i x, Stop homeM N l c i x ∧ e = .returned (.tuple #[.int .i64 (ps homeM N c i : Nat), .int .i64 ((i : Int) + 1)])
set_option maxRecDepth 100000 in
set_option maxHeartbeats 4000000 in
theorem find_any (w : World) (N : Nat) (l : List Pl) (p g : Nat) (c : List Int) (hT : Tab w N l p g) (hc : c.length = 8) (hcw : ∀ x ∈ c, (Lit.int .u8 x).wf = true) :
    Calls Try.prog 22 #[.pointer (some ⟨p, 0, none⟩), .agg (c.map (Value.int .u8)).toArray] w (FindR N l c w) := by
  have hN := pow_bd hT.pow
  have HT := Lib.hid hT
  obtain ⟨i0, x0, hs0⟩ := hT.inv.find c
  have HS := Lib.hid hs0
  have HCL := Lib.hid hc; have HCW := Lib.hid hcw
  have HCLV : Hid ((c.map (Value.int .u8)).length = 8) := Lib.hid (by rw [List.length_map, hc])
  have hkb := keyed_u64 0 c
  have HMK := Lib.hid (mask_home hT.pow)
  have HI0 := Lib.hid hs0.lt
  clear hT hs0 hc hcw
  obtain ⟨C, hC⟩ : ∃ C, c.map (Value.int .u8) = C := ⟨_, rfl⟩
  rw [hC] at HCLV ⊢
  have HC := Lib.hid hC
  clear hC
  go_enter Try.func22, Try.ntmps22
  have HB := Lib.hid (Below.refl w.heap.size w)
  go_upto_region 1 with fail
  have hb := (Below.refl w.heap.size w).alloc (Nat.le_refl _) (.cells C.toArray 30)
  replace HB := Lib.hid (bl_next HB.out HB.out.size hb)
  have HGC := Lib.hid (heap_alloc_new w (.cells C.toArray 30))
  clear hb
  generalize w.alloc (.cells C.toArray 30) = w1 at HB HGC ⊢
  obtain ⟨gc, hg⟩ : ∃ g, w.heap.size = g := ⟨_, rfl⟩
  rw [hg] at HGC ⊢
  clear hg
  replace HT := Lib.hid (HT.out.below HB.out)
  have c0 := row_cell HT.out.box 0 _ rfl
  have c1 := row_cell HT.out.box 1 _ rfl
  go_upto_region 2 with fail
  clear c0 c1
  have hI : IntsK .u8 w1 (some ⟨gc, 0, none⟩) 8 c := by
    have h := IntsK.of_row (k := .u8) (zs := c) (by rw [HC.out]; exact HGC.out) HCW.out
    rw [HCL.out] at h; exact h
  go_wp2_with fail
  refine Calls.mono ((sum_any _ _ 8 8 c (by omega) hI).makes) ?_
  rintro e w2 ⟨rfl, hb⟩
  replace HB := Lib.hid (bl_next HB.out HB.out.size hb)
  replace HGC := Lib.hid (bl_row hb (lt_of_block HGC.out) HGC.out)
  replace HT := Lib.hid (HT.out.below hb)
  clear hb hI
  have hm : bits .and .u64 (keyedM 0 c) ((N : Int) - 1) = ((ps homeM N c 0 : Nat) : Int) := by rw [HMK.out _ hkb]; unfold ps homeM; rw [Nat.add_zero]
  have hp0 := ps_lt (hm := homeM) hN.1 c 0
  obtain ⟨q0, hq0⟩ : ∃ q, ps homeM N c 0 = q := ⟨_, rfl⟩
  rw [hq0] at hm hp0
  have HQ0 := Lib.hid hq0
  clear hq0 hkb
  go_wp2_with fail
  clear hm
  go_loopw [7, 8] (fun at' k wr => ∃ i : Nat, at' = .int .i64 (ps homeM N c i : Nat) ∧ k = .int .i64 ((i : Int) + 1) ∧ i ≤ i0 ∧ Hid (Below w.heap.size w wr) ∧ Hid (Tab wr N l p g) ∧ Hid (wr.heap[gc]? = some (.cells C.toArray 30 (0, 0)))) (fun _ k _ => (i0 + 1 - (intOf k).toNat))
  case atStart => exact ⟨0, by rw [HQ0.out], by rfl, by omega, HB, HT, HGC⟩
  case round =>
    clear HB HT HGC HQ0 hp0
    obtain ⟨i, rfl, rfl, hi, HB, HT, HGC⟩ := hrel
    have hi4 : i < 4096 := by have := HI0.out; omega
    by_cases hlt : i < i0
    · skip
      obtain ⟨x, hxg, hxu, hxc⟩ := HS.out.before i hlt
      have hxe : (x.c == c) = false := by simpa using hxc
      clear hxc
      have hx := pl_cell HT.out.pls HT.out.row hxg
      have hxo := HT.out.pls _ (List.mem_of_getElem? hxg)
      have hgl := lt_of_block HT.out.row; have hpl := lt_of_block HT.out.box; have hcl := lt_of_block HGC.out
      have hqN := ps_lt (hm := homeM) hN.1 c i
      obtain ⟨q, hq⟩ : ∃ q, ps homeM N c i = q := ⟨_, rfl⟩
      rw [hq] at hx hqN hxg ⊢
      have HQI := Lib.hid hq
      have HXG := Lib.hid hxg
      have HXO := Lib.hid hxo
      clear hq hxg hxo
      have f0 : ∀ t : In (fun y => Below wr.heap.size wr y), t.w.cell? ⟨p, 0, none⟩ = some (.slice (some ⟨g, 0, none⟩) N N) := fun t => bl_cell t.h hpl (row_cell HT.out.box 0 _ rfl)
      have f9 : ∀ t : In (fun y => Below wr.heap.size wr y), t.w.cell? ⟨g, q * 10 + 9, none⟩ = some (.bool true) := fun t => bl_cell t.h hgl (by rw [hx.2.2]; exact congrArg _ (congrArg _ hxu))
      have HR8 : Hid (∀ y, Below wr.heap.size wr y → y.rangeAt g (q * 10) (x.c.map (Value.int .u8))) := Lib.hid fun y hy j v hv => bl_cell (p := ⟨g, q * 10 + j, none⟩) hy hgl (hx.1 j v hv)
      have HRC : Hid (∀ y, Below wr.heap.size wr y → y.rangeAt gc 0 C) := Lib.hid fun y hy => rngL (bl_row hy hcl HGC.out)
      have HXL : Hid ((x.c.map (Value.int .u8)).length = 8) := Lib.hid (by rw [List.length_map, HXO.out.len])
      have HEQ : Hid (∀ y, (Op.equalIn 10000 30 (.agg (x.c.map (Value.int .u8)).toArray) (.agg C.toArray)).run Try.prog y = .ok false y) := Lib.hid fun y => by
        have h := eqin_bytes y 30 8 Try.underlying30 x.c c HXO.out.len HCL.out HXO.out.wf HCW.out
        rw [HC.out] at h; rw [h, hxe]
      obtain ⟨XC, hXC⟩ : ∃ XC, x.c.map (Value.int .u8) = XC := ⟨_, rfl⟩
      rw [hXC] at HR8 HXL HEQ
      clear hXC hx hxu hxe hgl hpl hcl
      have feq : ∀ t : In (fun y => Below wr.heap.size wr y), (Op.equalIn 10000 30 (.agg XC.toArray) (.agg C.toArray)).run Try.prog t.w = .ok false t.w := fun t => HEQ.out t.w
      skip
      go_upto_region 4 with fail
      refine wp_plan (.t 0 (.t 1 (.t 2 (.t 3 (.t 4 (.t 5 (.t 6 (.t 7 (.t 8 (.t 9 (.t 10 (.t 11 (.t 12 (.t 13 (.t 14 (.t 15 (.t 16 (.t 17 (.t 18 (.t 19 .done)))))))))))))))))))) (fun y => Below wr.heap.size wr y) (by kernel_rfl) (by kernel_rfl) (by kernel_rfl) (fun c a d v w h => by cases d <;> exact h) (Below.refl _ _).drew ?_
      have hS : Below wr.heap.size wr wr.drew := (Below.refl _ _).drew
      generalize wr.drew = Wa at hS ⊢
      haveI hne : Nonempty (In fun y => Below wr.heap.size wr y) := ⟨⟨wr, Below.refl _ _⟩⟩
      repeat (first | (refine plan_t_load (by rfl) (by kernel_rfl) 30 _ rfl g (q * 10) rfl XC _ (fun y hy => HR8.out y hy) Try.underlying30 rfl (by rw [HXL.out]; rfl) ?_; simp only [Act.put, List.setIfInBounds_toArray, List.set_cons_succ, List.set_cons_zero]) | (refine plan_t_load (by rfl) (by kernel_rfl) 30 _ rfl gc 0 rfl C _ (fun y hy => HRC.out y hy) Try.underlying30 rfl (by rw [HCLV.out]; rfl) ?_; simp only [Act.put, List.setIfInBounds_toArray, List.set_cons_succ, List.set_cons_zero]) | (refine plan_t (by rfl) ?_; (first | go_big_quiet_skip | (go_big_quiet_want; go_big_quiet_op; go_big_quiet_on)); refine wpQuiet_nil ?_))
      clear f0 f9 feq
      replace HB := Lib.hid (bl_next HB.out HB.out.size hS); replace HT := Lib.hid (HT.out.below hS); replace HGC := Lib.hid (bl_row hS (lt_of_block HGC.out) HGC.out)
      clear hS
      clear hne
      show Exit.then _ _ _ _ _
      have hm : bits .and .u64 ((q : Int) + 1) ((N : Int) - 1) = ((ps homeM N c (i + 1) : Nat) : Int) := by
        rw [HMK.out _ (by omega), ← ps_succ hN.1, HQI.out]
        congr 1
      have hp1 := ps_lt (hm := homeM) hN.1 c (i + 1)
      obtain ⟨q1, hq1⟩ : ∃ q, ps homeM N c (i + 1) = q := ⟨_, rfl⟩
      rw [hq1] at hm hp1
      have HQ1 := Lib.hid hq1
      clear hq1
      go_wp2_with fail
      clear hm
      go_roundw
      case rel => exact ⟨i + 1, by rw [HQ1.out], by go_num, by omega, HB, HT, HGC⟩
      case measure => simp [intOf]; omega
    · obtain rfl : i = i0 := by omega
      have HST := HS.out.stop
      cases hu : x0.u with
      | false =>
        obtain ⟨x, hxx⟩ : ∃ x, x = x0 := ⟨_, rfl⟩
        have HXE := Lib.hid hxx
        have hxg : l[ps homeM N c i]? = some x := by rw [hxx]; exact HS.out.at'
        have hxu : x.u = false := by rw [hxx]; exact hu
        obtain ⟨eb, hxe⟩ : ∃ eb, (x.c == c) = eb := ⟨_, rfl⟩
        clear hu HST hxx
        have hx := pl_cell HT.out.pls HT.out.row hxg
        have hxo := HT.out.pls _ (List.mem_of_getElem? hxg)
        have hgl := lt_of_block HT.out.row; have hpl := lt_of_block HT.out.box; have hcl := lt_of_block HGC.out
        have hqN := ps_lt (hm := homeM) hN.1 c i
        obtain ⟨q, hq⟩ : ∃ q, ps homeM N c i = q := ⟨_, rfl⟩
        rw [hq] at hx hqN hxg ⊢
        have HQI := Lib.hid hq
        have HXG := Lib.hid hxg
        have HXO := Lib.hid hxo
        clear hq hxg hxo
        have f0 : ∀ t : In (fun y => Below wr.heap.size wr y), t.w.cell? ⟨p, 0, none⟩ = some (.slice (some ⟨g, 0, none⟩) N N) := fun t => bl_cell t.h hpl (row_cell HT.out.box 0 _ rfl)
        have f9 : ∀ t : In (fun y => Below wr.heap.size wr y), t.w.cell? ⟨g, q * 10 + 9, none⟩ = some (.bool false) := fun t => bl_cell t.h hgl (by rw [hx.2.2]; exact congrArg _ (congrArg _ hxu))
        have HR8 : Hid (∀ y, Below wr.heap.size wr y → y.rangeAt g (q * 10) (x.c.map (Value.int .u8))) := Lib.hid fun y hy j v hv => bl_cell (p := ⟨g, q * 10 + j, none⟩) hy hgl (hx.1 j v hv)
        have HRC : Hid (∀ y, Below wr.heap.size wr y → y.rangeAt gc 0 C) := Lib.hid fun y hy => rngL (bl_row hy hcl HGC.out)
        have HXL : Hid ((x.c.map (Value.int .u8)).length = 8) := Lib.hid (by rw [List.length_map, HXO.out.len])
        have HEQ : Hid (∀ y, (Op.equalIn 10000 30 (.agg (x.c.map (Value.int .u8)).toArray) (.agg C.toArray)).run Try.prog y = .ok eb y) := Lib.hid fun y => by
          have h := eqin_bytes y 30 8 Try.underlying30 x.c c HXO.out.len HCL.out HXO.out.wf HCW.out
          rw [HC.out] at h; rw [h, hxe]
        obtain ⟨XC, hXC⟩ : ∃ XC, x.c.map (Value.int .u8) = XC := ⟨_, rfl⟩
        rw [hXC] at HR8 HXL HEQ
        clear hXC hx hxu hxe hgl hpl hcl
        have feq : ∀ t : In (fun y => Below wr.heap.size wr y), (Op.equalIn 10000 30 (.agg XC.toArray) (.agg C.toArray)).run Try.prog t.w = .ok eb t.w := fun t => HEQ.out t.w
        skip
        go_upto_region 4 with fail
        refine wp_plan (.t 0 (.t 1 (.t 2 (.t 3 (.t 4 (.t 5 (.t 6 (.t 7 (.t 8 (.t 9 (.t 10 (.t 11 (.t 12 (.t 13 (.t 14 (.t 15 (.t 16 (.t 17 (.t 18 (.t 19 .done)))))))))))))))))))) (fun y => Below wr.heap.size wr y) (by kernel_rfl) (by kernel_rfl) (by kernel_rfl) (fun c a d v w h => by cases d <;> exact h) (Below.refl _ _).drew ?_
        have hS : Below wr.heap.size wr wr.drew := (Below.refl _ _).drew
        generalize wr.drew = Wa at hS ⊢
        haveI hne : Nonempty (In fun y => Below wr.heap.size wr y) := ⟨⟨wr, Below.refl _ _⟩⟩
        repeat (refine plan_t (by rfl) ?_; (first | go_big_quiet_skip | (go_big_quiet_want; go_big_quiet_op; go_big_quiet_on)); refine wpQuiet_nil ?_)
        clear f0 f9 feq
        replace HB := Lib.hid (bl_next HB.out HB.out.size hS); replace HT := Lib.hid (HT.out.below hS); replace HGC := Lib.hid (bl_row hS (lt_of_block HGC.out) HGC.out)
        clear hS
        clear hne
        show Exit.then _ _ _ _ _
        go_wp2_with fail
        go_ret2
        exact ⟨HB.out, i, x, by rw [HXE.out]; exact HS.out, by rw [HQI.out]; rfl⟩
      | true =>
        obtain ⟨x, hxx⟩ : ∃ x, x = x0 := ⟨_, rfl⟩
        have HXE := Lib.hid hxx
        have hxg : l[ps homeM N c i]? = some x := by rw [hxx]; exact HS.out.at'
        have hxu : x.u = true := by rw [hxx]; exact hu
        have hxe : (x.c == c) = true := by rw [hxx]; rcases HST with h | h; (rw [hu] at h; cases h); simpa using h
        clear hu HST hxx
        have hx := pl_cell HT.out.pls HT.out.row hxg
        have hxo := HT.out.pls _ (List.mem_of_getElem? hxg)
        have hgl := lt_of_block HT.out.row; have hpl := lt_of_block HT.out.box; have hcl := lt_of_block HGC.out
        have hqN := ps_lt (hm := homeM) hN.1 c i
        obtain ⟨q, hq⟩ : ∃ q, ps homeM N c i = q := ⟨_, rfl⟩
        rw [hq] at hx hqN hxg ⊢
        have HQI := Lib.hid hq
        have HXG := Lib.hid hxg
        have HXO := Lib.hid hxo
        clear hq hxg hxo
        have f0 : ∀ t : In (fun y => Below wr.heap.size wr y), t.w.cell? ⟨p, 0, none⟩ = some (.slice (some ⟨g, 0, none⟩) N N) := fun t => bl_cell t.h hpl (row_cell HT.out.box 0 _ rfl)
        have f9 : ∀ t : In (fun y => Below wr.heap.size wr y), t.w.cell? ⟨g, q * 10 + 9, none⟩ = some (.bool true) := fun t => bl_cell t.h hgl (by rw [hx.2.2]; exact congrArg _ (congrArg _ hxu))
        have HR8 : Hid (∀ y, Below wr.heap.size wr y → y.rangeAt g (q * 10) (x.c.map (Value.int .u8))) := Lib.hid fun y hy j v hv => bl_cell (p := ⟨g, q * 10 + j, none⟩) hy hgl (hx.1 j v hv)
        have HRC : Hid (∀ y, Below wr.heap.size wr y → y.rangeAt gc 0 C) := Lib.hid fun y hy => rngL (bl_row hy hcl HGC.out)
        have HXL : Hid ((x.c.map (Value.int .u8)).length = 8) := Lib.hid (by rw [List.length_map, HXO.out.len])
        have HEQ : Hid (∀ y, (Op.equalIn 10000 30 (.agg (x.c.map (Value.int .u8)).toArray) (.agg C.toArray)).run Try.prog y = .ok true y) := Lib.hid fun y => by
          have h := eqin_bytes y 30 8 Try.underlying30 x.c c HXO.out.len HCL.out HXO.out.wf HCW.out
          rw [HC.out] at h; rw [h, hxe]
        obtain ⟨XC, hXC⟩ : ∃ XC, x.c.map (Value.int .u8) = XC := ⟨_, rfl⟩
        rw [hXC] at HR8 HXL HEQ
        clear hXC hx hxu hxe hgl hpl hcl
        have feq : ∀ t : In (fun y => Below wr.heap.size wr y), (Op.equalIn 10000 30 (.agg XC.toArray) (.agg C.toArray)).run Try.prog t.w = .ok true t.w := fun t => HEQ.out t.w
        skip
        go_upto_region 4 with fail
        refine wp_plan (.t 0 (.t 1 (.t 2 (.t 3 (.t 4 (.t 5 (.t 6 (.t 7 (.t 8 (.t 9 (.t 10 (.t 11 (.t 12 (.t 13 (.t 14 (.t 15 (.t 16 (.t 17 (.t 18 (.t 19 .done)))))))))))))))))))) (fun y => Below wr.heap.size wr y) (by kernel_rfl) (by kernel_rfl) (by kernel_rfl) (fun c a d v w h => by cases d <;> exact h) (Below.refl _ _).drew ?_
        have hS : Below wr.heap.size wr wr.drew := (Below.refl _ _).drew
        generalize wr.drew = Wa at hS ⊢
        haveI hne : Nonempty (In fun y => Below wr.heap.size wr y) := ⟨⟨wr, Below.refl _ _⟩⟩
        repeat (first | (refine plan_t_load (by rfl) (by kernel_rfl) 30 _ rfl g (q * 10) rfl XC _ (fun y hy => HR8.out y hy) Try.underlying30 rfl (by rw [HXL.out]; rfl) ?_; simp only [Act.put, List.setIfInBounds_toArray, List.set_cons_succ, List.set_cons_zero]) | (refine plan_t_load (by rfl) (by kernel_rfl) 30 _ rfl gc 0 rfl C _ (fun y hy => HRC.out y hy) Try.underlying30 rfl (by rw [HCLV.out]; rfl) ?_; simp only [Act.put, List.setIfInBounds_toArray, List.set_cons_succ, List.set_cons_zero]) | (refine plan_t (by rfl) ?_; (first | go_big_quiet_skip | (go_big_quiet_want; go_big_quiet_op; go_big_quiet_on)); refine wpQuiet_nil ?_))
        clear f0 f9 feq
        replace HB := Lib.hid (bl_next HB.out HB.out.size hS); replace HT := Lib.hid (HT.out.below hS); replace HGC := Lib.hid (bl_row hS (lt_of_block HGC.out) HGC.out)
        clear hS
        clear hne
        show Exit.then _ _ _ _ _
        go_wp2_with fail
        go_ret2
        exact ⟨HB.out, i, x, by rw [HXE.out]; exact HS.out, by rw [HQI.out]; rfl⟩
end Go.Proofs.Ytpngjokjjpdboaa
