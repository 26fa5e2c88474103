/- demux: DemuxHomes. -/
import Derived.Test.YtpngjokjjpdboaaDmx9
import Derived.Test.YtpngjokjjpdboaaBook
import Derived.Test.YtpngjokjjpdboaaCopyr
namespace Go.Proofs.Ytpngjokjjpdboaa
open Go.RowKit
set_option linter.unusedVariables false

def takRow (l : List Pl) : List Value := l.map fun p => .bool p.u
theorem takRow_get {l : List Pl} {q : Nat} {x : Pl} (h : l[q]? = some x) : (takRow l)[q]? = some (.bool x.u) := by
  unfold takRow; rw [List.getElem?_map, h]; rfl
theorem takRow_set (l : List Pl) (q : Nat) (x : Pl) : (takRow l).set q (.bool x.u) = takRow (l.set q x) := by
  unfold takRow; rw [List.map_set]
set_option maxRecDepth 100000 in
theorem infoBool : (Try.prog.info? 4).map (fun i => (i.zero, i.size, i.bytes)) = some (some (.bool false), 1, 1) := by kernel_rfl
/-- a name whose home is free. -/
theorem stop_home {N : Nat} {l : List Pl} (h : TInv homeM N l) (c : List Int) {x : Pl} (hx : l[ps homeM N c 0]? = some x) (hs : x.u = false ∨ x.c = c) : Stop homeM N l c 0 x :=
  ⟨by have := h.pos; omega, hx, hs, fun j hj => by omega⟩
theorem home_int (N : Nat) (c : List Int) : ((ps homeM N c 0 : Nat) : Int) = keyedM 0 c % N := by
  have := keyed_u64 0 c
  unfold ps homeM
  rw [Nat.add_zero, Int.natCast_emod, Int.toNat_of_nonneg this.1]
theorem put_home (w : World) (N : Nat) (l : List Pl) (p g : Nat) (c : List Int) (n : Int) (hT : Tab w N l p g) (hc : c.length = 8) (hcw : ∀ x ∈ c, (Lit.int .u8 x).wf = true) (hn : -9223372036854775808 ≤ n ∧ n ≤ 9223372036854775807) {x : Pl} (hx : l[ps homeM N c 0]? = some x) (hu : x.u = false) (hr : l.countP (·.u) < N / 2) :
    Calls Try.prog 13 #[.pointer (some ⟨p, 0, none⟩), .agg (c.map (Value.int .u8)).toArray, .int .i64 n] w fun e w' => e = .returned (.bool true) ∧ Two w w' p g ∧ Tab w' N (l.set (ps homeM N c 0) ⟨c, n, true⟩) p g := by
  refine Calls.mono (put_any w N l p g c n hn hT hc hcw) ?_
  rintro e w' ⟨h2, i, y, hs, hcase⟩
  obtain ⟨rfl, rfl⟩ := hs.uniq (stop_home hT.inv c hx (.inl hu))
  rcases hcase with ⟨_, hf, _⟩ | ⟨_, he, hT'⟩
  · have := hT.inv.pos; omega
  · exact ⟨he, h2, hT'⟩
theorem probes_home (w : World) (N : Nat) (l : List Pl) (p g : Nat) (c : List Int) (hT : Tab w N l p g) (hc : c.length = 8) (hcw : ∀ x ∈ c, (Lit.int .u8 x).wf = true) {x : Pl} (hx : l[ps homeM N c 0]? = some x) (hu : x.c = c) :
    Calls Try.prog 14 #[.pointer (some ⟨p, 0, none⟩), .agg (c.map (Value.int .u8)).toArray] w fun e w' => e = .returned (.int .i64 1) ∧ Below w.heap.size w w' := by
  refine Calls.mono (probes_any w N l p g c hT hc hcw) ?_
  rintro e w' ⟨hb, i, y, hs, rfl⟩
  obtain ⟨rfl, rfl⟩ := hs.uniq (stop_home hT.inv c hx (.inr hu))
  exact ⟨rfl, hb⟩

theorem Tab.grownX {w w' : World} {N p g b : Nat} {l : List Pl} (hT : Tab w N l p g) (hg : w.grownBy w' (some b)) (h1 : b ≠ p) (h2 : b ≠ g) : Tab w' N l p g :=
  ⟨hT.inv, hT.pls, hT.pow, hT.ne, grown_row hg (by intro e; injection e with e; exact h2 e.symm) hT.row, grown_row hg (by intro e; injection e with e; exact h1 e.symm) hT.box⟩
set_option maxRecDepth 100000 in
set_option maxHeartbeats 8000000 in
theorem homes23_any (w : World) (a : Option Addr) (L cap : Nat) (xs : List Int) (size : Int) (hL : L ≤ 9223372036854775807) (hI : IntsK .u64 w a L xs) (hsz : -9223372036854775808 ≤ size ∧ size ≤ 9223372036854775807) :
    Makes Try.prog 3 #[.slice a L cap, .int .i64 size] w (.bool true) := by
  obtain ⟨i0, hi, hz0, hz1, hz2⟩ := info_parts infoBool
  have HBI := Lib.hid hi; have HZ0 := Lib.hid hz0; have HZ1 := Lib.hid hz1; have HZ2 := Lib.hid hz2
  have HI := Lib.hid hI
  have hwi := within_in size 0 200 (by omega)
  have HWI := Lib.hid (fun w => within_any w size 0 200 (by omega) (by omega) (by omega) hsz)
  generalize within size 0 200 = n at hwi HWI
  have HNW := Lib.hid (fun w => mnew_any w n (by omega))
  have HTN := Lib.hid (fun w => tnew_any w n (by omega))
  obtain ⟨N, hN⟩ : ∃ N, plc n = N := ⟨_, rfl⟩
  clear hI hi hz0 hz1 hz2 hsz HNW
  go_enter Try.func3, Try.ntmps3
  go_wp2_with fail
  refine Calls.mono (HWI.out _) ?_
  rintro e wq ⟨rfl, rfl⟩
  go_wp2_with fail
  refine Calls.mono (HTN.out _) ?_
  rintro e w1 ⟨hb, p, g, rfl, hp, hg, hT⟩
  rw [hN] at hT
  have hNb := pow_bd hT.pow
  have HB := Lib.hid hb; have HT := Lib.hid hT; have HP := Lib.hid hp; have HG := Lib.hid hg
  clear hb hT hp hg hN HTN HWI hwi
  go_wp2_with fail
  refine Calls.mono (tplaces_any _ N _ p g HT.out) ?_
  rintro e wq ⟨rfl, rfl⟩
  go_wp2_with fail
  refine Calls.mono (tplaces_any _ N _ p g HT.out) ?_
  rintro e wq ⟨rfl, rfl⟩
  have HBY : Hid (i0.bytes * N ≤ 281474976710656) := Lib.hid (by rw [HZ2.out]; omega)
  go_wp2_with (first | (at_make; refine wpList_make_full _ rfl _ _ 28 rfl w1.heap.size 4 i0 (.bool false) 1 Try.underlying28 HBI.out HZ0.out HZ1.out .i64 .i64 _ _ N rfl rfl rfl rfl HBY.out (by unfold maxLen; omega) (Nat.le_refl _) ?_; intro w2 hown hgr; have hrow := own_fullS hown; rw [show (Value.bool false).cells = #[Value.bool false] from rfl, toList_madeCells_one, Nat.mul_one] at hrow; have HTK := Lib.hid hrow; have HL := Lib.hid (below_of_none hgr); clear hrow hown hgr) | fail)
  have HTK2 : Hid (w2.heap[w1.heap.size]? = some (.cells (takRow (List.replicate N zPl)).toArray 4 (0, 0))) := Lib.hid (by rw [show takRow (List.replicate N zPl) = List.replicate N (.bool false) by simp [takRow, zPl]]; exact HTK.out)
  have hpl := lt_of_block HT.out.box; have hgl := lt_of_block HT.out.row
  have HTP : Hid (w1.heap.size ≠ p ∧ w1.heap.size ≠ g) := Lib.hid (by omega)
  have HTW := Lib.hid HB.out.size
  replace HB := Lib.hid (bl_next HB.out HB.out.size HL.out); replace HT := Lib.hid (HT.out.below HL.out)
  generalize w1.heap.size = gt at HTK2 HTP HTW ⊢
  clear HL HTK HBI HZ0 HZ1 HZ2 HBY hpl hgl
  go_loopw [8] (fun s wr => ∃ (i : Nat) (l : List Pl), s = .int .i64 i ∧ i ≤ 30 ∧ Hid (Below w.heap.size w wr) ∧ Hid (Tab wr N l p g) ∧ Hid (wr.heap[gt]? = some (.cells (takRow l).toArray 4 (0, 0)))) (fun s _ => 30 - (intOf s).toNat)
  case atStart => exact ⟨0, _, rfl, by omega, HB, HT, HTK2⟩
  case round =>
    clear HB HT HTK2
    obtain ⟨i, l, rfl, hi, HB, HT, HTK⟩ := hrel
    obtain ⟨cn, hcn⟩ : ∃ cn, l.countP (·.u) = cn := ⟨_, rfl⟩
    have HCN := Lib.hid hcn
    have HLEN := Lib.hid (tlen_any wr N l p g HT.out)
    have hrm := HT.out.inv.room
    rw [hcn] at HLEN hrm
    have HPL := Lib.hid (tplaces_any wr N l p g HT.out)
    clear hcn
    by_cases hlt : i < L ∧ i < 30
    · obtain ⟨h1, h2⟩ := hlt
      go_wp2_with fail
      refine Calls.mono HLEN.out ?_
      rintro e wq ⟨rfl, rfl⟩
      go_wp2_with fail
      refine Calls.mono HPL.out ?_
      rintro e wq ⟨rfl, rfl⟩
      by_cases hh : cn < N / 2
      · rcases HI.out.2.2 with h0 | ⟨lb, lo, rfl, hlb, hlc⟩
        · omega
        obtain ⟨x, hx⟩ : ∃ x, xs[i]? = some x := ⟨_, List.getElem?_eq_getElem (by rw [HI.out.1]; exact h1)⟩
        have hxb : 0 ≤ x ∧ x < 18446744073709551616 := bdU64 (HI.out.2.1 x (List.mem_of_getElem? hx))
        have cl : wr.cell? ⟨lb, lo + i, none⟩ = some (.int .u64 x) := bl_cell HB.out hlb (by rw [hlc i h1, List.getD_eq_getElem?_getD, hx]; rfl)
        have HLB := Lib.hid (Nat.lt_of_lt_of_le hlb HB.out.size)
        have HCL0 : Hid (∀ y, Below wr.heap.size wr y → y.cell? ⟨lb, lo + i, none⟩ = some (.int .u64 x)) := Lib.hid fun y hy => bl_cell hy (Nat.lt_of_lt_of_le hlb HB.out.size) cl
        have HLT : Hid (p < wr.heap.size ∧ g < wr.heap.size ∧ gt < wr.heap.size) := Lib.hid ⟨lt_of_block HT.out.box, lt_of_block HT.out.row, lt_of_block HTK.out⟩
        have HGCW0 := Lib.hid HB.out.size
        clear hlb hlc hx
        go_upto_region 10 with fail
        replace HCN := Lib.hid HCN.out
        clear HLEN HPL
        have hbX := (Below.refl wr.heap.size wr).alloc (Nat.le_refl _) (.cells #[.int .u8 0, .int .u8 0, .int .u8 0, .int .u8 0, .int .u8 0, .int .u8 0, .int .u8 0, .int .u8 0] 30)
        have HCLX := Lib.hid (HCL0.out _ hbX)
        clear hbX
        have hb := (Below.refl wr.heap.size wr).alloc (Nat.le_refl _) (.cells #[.int .u8 0, .int .u8 0, .int .u8 0, .int .u8 0, .int .u8 0, .int .u8 0, .int .u8 0, .int .u8 0] 30)
        replace HB := Lib.hid (bl_next HB.out HB.out.size hb)
        replace HTK := Lib.hid (bl_row hb (lt_of_block HTK.out) HTK.out)
        replace HT := Lib.hid (HT.out.below hb)
        have HGC := Lib.hid (heap_alloc_new wr (.cells #[.int .u8 0, .int .u8 0, .int .u8 0, .int .u8 0, .int .u8 0, .int .u8 0, .int .u8 0, .int .u8 0] 30))
        clear hb
        generalize wr.alloc (.cells #[.int .u8 0, .int .u8 0, .int .u8 0, .int .u8 0, .int .u8 0, .int .u8 0, .int .u8 0, .int .u8 0] 30) = w1 at HB HT HTK HGC HCLX ⊢
        obtain ⟨gc, hg⟩ : ∃ g, wr.heap.size = g := ⟨_, rfl⟩
        rw [hg] at HGC ⊢
        have HGCE := Lib.hid hg
        clear hg
        have HNC : Hid (gc ≠ p ∧ gc ≠ g ∧ gc ≠ gt ∧ gc ≠ lb) := Lib.hid (by have e := HGCE.out; have b1 := HLT.out; have b2 := HLB.out; omega)
        skip
        have clc : w1.cell? ⟨lb, lo + i, none⟩ = some (.int .u64 x) := HCLX.out
        have f0 : ∀ t : In (fun y => w1.grownBy y (some gc)), t.w.cell? ⟨lb, lo + i, none⟩ = some (.int .u64 x) := fun t => t.h.cell clc (by intro e; injection e with e; exact HNC.out.2.2.2 e.symm)
        clear clc
        refine wp_plan (.t 0 (.t 1 (.t 2 (.t 3 (.t 4 (.u 5 (.u 6 .done))))))) (fun y => w1.grownBy y (some gc)) (by kernel_rfl) (by kernel_rfl) (by kernel_rfl) (fun c a d v w h => by cases d <;> exact h) (grown_drew _ _) ?_
        have hS : w1.grownBy w1.drew (some gc) := grown_drew _ _
        have hD : Below w1.heap.size w1 w1.drew := (Below.refl _ _).drew
        replace HB := Lib.hid (bl_next HB.out HB.out.size hD)
        replace HTK := Lib.hid (bl_row hD (lt_of_block HTK.out) HTK.out)
        replace HGC := Lib.hid (bl_row hD (lt_of_block HGC.out) HGC.out)
        replace HT := Lib.hid (HT.out.below hD)
        generalize w1.drew = Wa at hS hD HB HT HTK HGC ⊢
        haveI hne : Nonempty (In (fun y => w1.grownBy y (some gc))) := ⟨⟨w1, grown_refl _ _⟩⟩
        repeat (refine plan_t (by rfl) ?_; (first | go_big_quiet_skip | (go_big_quiet_want; go_big_quiet_op; go_big_quiet_on)); refine wpQuiet_nil ?_)
        clear f0 hD
        refine plan_us (by rfl) (by kernel_rfl) ?_
        intro K hK
        go_wp2_with fail
        refine Calls.mono (rbytes_any Wa x) ?_
        rintro e Wb ⟨rfl, hfr⟩
        have hb := hfr.below
        have hfrow := hfr.row
        replace HB := Lib.hid (bl_next HB.out HB.out.size hb)
        replace HTK := Lib.hid (bl_row hb (lt_of_block HTK.out) HTK.out)
        replace HGC := Lib.hid (bl_row hb (lt_of_block HGC.out) HGC.out)
        replace HT := Lib.hid (HT.out.below hb)
        have hS2 := grown_trans hS (grown_below hb (some gc))
        skip
        clear hS hfr hb
        obtain ⟨gb, hgb⟩ : ∃ gb, Wa.heap.size = gb := ⟨_, rfl⟩
        rw [hgb] at hfrow ⊢
        clear hgb
        go_wp2_with fail
        refine ⟨hS2, ?_⟩
        refine plan_us (by rfl) (by kernel_rfl) ?_
        intro K2 hK2
        refine wp_copy_grown _ _ 31 31 rfl 5 Try.underlying31 infoU8t _ _ _ _ _ _ rfl rfl gc 0 [.int .u8 0, .int .u8 0, .int .u8 0, .int .u8 0, .int .u8 0, .int .u8 0, .int .u8 0, .int .u8 0] 30 HGC.out ((bytesM x).map (Value.int .u8)) rfl (fun _ => ⟨rfl, _, rfl, fun j v hv => ?_⟩) (by simp [bytesM]) ints_one ?_
        · rw [show (⟨gb, 0, none⟩ : Addr).add j = ⟨gb, j, none⟩ by rw [add_none, Nat.zero_add]]; exact row_cell hfrow j v (by rw [List.getElem?_toArray]; exact hv)
        intro Wc hrow hgr
        have hrow2 : Wc.heap[gc]? = some (.cells ((bytesM x).map (Value.int .u8)).toArray 30 (0, 0)) := hrow
        replace HB := Lib.hid (HB.out.grown hgr HB.out.size (by intro k hk; injection hk with hk; have := HGCE.out; have := HGCW0.out; omega))
        replace HT := Lib.hid (Tab.grownX HT.out hgr HNC.out.1 HNC.out.2.1)
        replace HTK := Lib.hid (grown_row hgr (by intro e; injection e with e; exact HNC.out.2.2.1 e.symm) HTK.out)
        replace HGC := Lib.hid hrow2
        refine hK2 _ _ ⟨grown_trans hS2 hgr, ?_⟩
        clear hK2 hS2 hgr hrow hrow2 hfrow hne
        show Exit.then _ _ _ _ _
        simp only [Act.put, List.setIfInBounds_toArray, List.set_cons_succ, List.set_cons_zero]
        have hI8 := IntsK.of_row (k := .u8) (zs := bytesM x) HGC.out (wf_bytes x)
        have HCW := Lib.hid (wf_bytes x)
        rw [show (bytesM x).length = 8 from rfl] at hI8
        have HKY := Lib.hid ((rkeyed_any Wc 0 _ 8 8 (bytesM x) (by omega) hI8).makes)
        clear hI8
        have HCL8 : Hid ((bytesM x).length = 8) := Lib.hid rfl
        have hku := keyed_u64 0 (bytesM x)
        have hhi := home_int N (bytesM x)
        have hpl := ps_lt (hm := homeM) hNb.1 (bytesM x) 0
        obtain ⟨c, hc⟩ : ∃ c, bytesM x = c := ⟨_, rfl⟩
        rw [hc] at HGC HCW HKY HCL8 hku hhi hpl
        clear hc
        obtain ⟨h, hh0⟩ : ∃ h, ps homeM N c 0 = h := ⟨_, rfl⟩
        rw [hh0] at hhi hpl
        have HHM := Lib.hid hh0
        clear hh0
        obtain ⟨y, hy⟩ : ∃ y, l[h]? = some y := ⟨_, List.getElem?_eq_getElem (by rw [HT.out.inv.len]; exact hpl)⟩
        have HY := Lib.hid hy
        obtain ⟨ky, hky⟩ : ∃ k, keyedM 0 c = k := ⟨_, rfl⟩
        rw [hky] at HKY hku hhi
        clear hky hy
        go_wp2_with fail
        refine Calls.mono HKY.out ?_
        rintro e w2 ⟨rfl, hb⟩
        replace HB := Lib.hid (bl_next HB.out HB.out.size hb)
        replace HTK := Lib.hid (bl_row hb (lt_of_block HTK.out) HTK.out)
        replace HGC := Lib.hid (bl_row hb (lt_of_block HGC.out) HGC.out)
        replace HT := Lib.hid (HT.out.below hb)
        clear hb HKY
        have hrem : ky % (N : Int) = (h : Int) := hhi.symm
        clear hhi
        have ct := cell_row HTK.out h _ (takRow_get HY.out)
        have zt := row_free HTK.out h
        obtain ⟨yu, hyu⟩ : ∃ u, y.u = u := ⟨_, rfl⟩
        rw [hyu] at ct
        have HYU := Lib.hid hyu
        clear hyu
        cases yu with
        | true =>
          go_wp2_with fail
          clear hrem ct zt
          go_roundw
          case rel => exact ⟨i + 1, l, by go_num, by omega, HB, HT, HTK⟩
          case measure => simp [intOf]; omega
        | false =>
          go_upto_region 14 with fail
          clear hrem ct zt
          have hgr := grown_setCell w2 gt h (.bool true)
          have htk := heap_setCell_same w2 gt h _ _ (.bool true) HTK.out
          rw [List.setIfInBounds_toArray, show Value.bool true = .bool (Pl.mk c i true).u from rfl, takRow_set l h ⟨c, i, true⟩] at htk
          replace HTK := Lib.hid htk
          replace HB := Lib.hid (HB.out.setCell (p := ⟨gt, h, none⟩) HTW.out (.bool true))
          replace HT := Lib.hid (Tab.grownX HT.out hgr HTP.out.1 HTP.out.2)
          replace HGC := Lib.hid (grown_row hgr (by intro e; injection e with e; exact HNC.out.2.2.1 e) HGC.out)
          have hk1 := takRow_set l h ⟨c, i, true⟩
          generalize w2.setCell ⟨gt, h, none⟩ (.bool true) = w3 at HTK HB HT HGC ⊢
          clear htk hgr hk1
          obtain ⟨C, hC⟩ : ∃ C, c.map (Value.int .u8) = C := ⟨_, rfl⟩
          have HCL : Hid (C.length = 8) := Lib.hid (by rw [← hC, List.length_map, HCL8.out])
          rw [hC] at HGC
          have HPU := Lib.hid (put_home w3 N l p g c i HT.out HCL8.out HCW.out (by omega) (by rw [HHM.out]; exact HY.out) HYU.out (by rw [HCN.out]; exact hh))
          rw [HHM.out, hC] at HPU
          clear HT
          go_wp2_with (first | (refine wpList_load_mid rfl 30 _ rfl gc 0 rfl C _ (rngL HGC.out) Try.underlying30 rfl (by rw [HCL.out]; rfl) ?_) | fail)
          refine Calls.mono HPU.out ?_
          rintro e w4 ⟨rfl, h2t, hT4⟩
          replace HB := Lib.hid (Two.low HB.out HB.out.size h2t HP.out HG.out)
          replace HTK := Lib.hid (h2t.row HTK.out HTP.out.1 HTP.out.2)
          replace HGC := Lib.hid (h2t.row HGC.out HNC.out.1 HNC.out.2.1)
          have HT := Lib.hid hT4
          clear h2t hT4 HPU
          have hys : (l.set h ⟨c, i, true⟩)[h]? = some ⟨c, i, true⟩ := List.getElem?_set_self (by rw [← HT.out.inv.len, List.length_set] at hpl; exact hpl)
          have HPR := Lib.hid (probes_home w4 N _ p g c HT.out HCL8.out HCW.out (by rw [HHM.out]; exact hys) rfl)
          rw [hC] at HPR
          clear hys
          go_wp2_with (first | (refine wpList_load_g 30 _ rfl (by kernel_rfl) gc 0 rfl C _ (rngL HGC.out) Try.underlying30 rfl (by rw [HCL.out]; rfl) ?_) | (refine wpList_load_mid rfl 30 _ rfl gc 0 rfl C _ (rngL HGC.out) Try.underlying30 rfl (by rw [HCL.out]; rfl) ?_) | fail)
          refine Calls.mono HPR.out ?_
          rintro e w5 ⟨rfl, hb⟩
          replace HB := Lib.hid (bl_next HB.out HB.out.size hb)
          replace HTK := Lib.hid (bl_row hb (lt_of_block HTK.out) HTK.out)
          replace HGC := Lib.hid (bl_row hb (lt_of_block HGC.out) HGC.out)
          replace HT := Lib.hid (HT.out.below hb)
          clear hb HPR
          go_wp2_with fail
          go_roundw
          case rel => exact ⟨i + 1, _, by go_num, by omega, HB, HT, HTK⟩
          case measure => simp [intOf]; omega
      · clear HI
        go_wp2_with fail
        refine Calls.mono (known23_any _) ?_
        rintro e wk ⟨rfl, hb⟩
        replace HB := Lib.hid (bl_next HB.out HB.out.size hb)
        clear hb
        go_wp2_with fail
        go_ret
        exact ⟨rfl, HB.out⟩
    · by_cases h1 : i < L
      · have h2 : ¬ i < 30 := by omega
        go_wp2_with fail
        refine Calls.mono (known23_any _) ?_
        rintro e wk ⟨rfl, hb⟩
        replace HB := Lib.hid (bl_next HB.out HB.out.size hb)
        clear hb
        go_wp2_with fail
        go_ret
        exact ⟨rfl, HB.out⟩
      · go_wp2_with fail
        refine Calls.mono (known23_any _) ?_
        rintro e wk ⟨rfl, hb⟩
        replace HB := Lib.hid (bl_next HB.out HB.out.size hb)
        clear hb
        go_wp2_with fail
        go_ret
        exact ⟨rfl, HB.out⟩
end Go.Proofs.Ytpngjokjjpdboaa
