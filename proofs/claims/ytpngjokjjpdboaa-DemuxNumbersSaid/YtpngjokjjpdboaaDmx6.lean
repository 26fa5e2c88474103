/- demux: without. -/
import Derived.Test.YtpngjokjjpdboaaDmx5
namespace Go.Proofs.Ytpngjokjjpdboaa
open Go.RowKit
set_option linter.unusedVariables false

theorem Two.same {w w' : World} {p g g' : Nat} (h : Two w w' p g) (hg : w.heap.size ≤ g) : Two w w' p g' := ⟨h.os, h.tape, h.output, h.size, fun i hi h1 _ => h.block i hi h1 (by omega)⟩
set_option maxRecDepth 100000 in
set_option maxHeartbeats 8000000 in
theorem without_drop (w : World) (N : Nat) (l : List Pl) (p g : Nat) (cap : Nat) (keep : Pl → Bool) (hT : Tab w N l p g) (hcl : cap < w.heap.size) (hcp : cap ≠ p) 
    (HF : Hid (∀ (w1 : World) (x : Pl), x.ok → w1.heap[cap]? = w.heap[cap]? → Calls Try.prog 24 #[.agg x.row.toArray, .pointer (some ⟨cap, 0, none⟩)] w1 fun e w' => e = .returned (.bool (!keep x)) ∧ Below w1.heap.size w1 w')) :
    Calls Try.prog 23 #[.pointer (some ⟨p, 0, none⟩), .func (.func 24) #[] #[.pointer (some ⟨cap, 0, none⟩)]] w fun e w' => e = .returned (.tuple #[]) ∧ Two w w' p g ∧ ∃ g' T, w.heap.size ≤ g' ∧ Tab w' N T p g' ∧ Reb homeM N keep l T N := by
  obtain ⟨i0, hi, hz0, hz1, hz2⟩ := info_parts infoPlace
  have HI := Lib.hid hi; have HZ0 := Lib.hid hz0; have HZ1 := Lib.hid hz1; have HZ2 := Lib.hid hz2
  have HT := Lib.hid hT; have HCL := Lib.hid hcl; have HCP := Lib.hid hcp
  have hN := pow_bd hT.pow
  clear hi hz0 hz1 hz2 hT hcl hcp
  have k0 := row_cell HT.out.box 0 _ rfl
  go_enter Try.func23, Try.ntmps23
  have HBY : Hid (i0.bytes * N ≤ 281474976710656) := Lib.hid (by rw [HZ2.out]; omega)
  go_upto_region 1 with fail
  clear k0
  go_upto_region 2 with (first | (at_make; refine wpList_make_full _ rfl _ _ 50 rfl w.heap.size 58 i0 (.agg zPC) 10 Try.underlying50 HI.out HZ0.out HZ1.out .i64 .i64 _ _ N rfl rfl rfl rfl HBY.out (by unfold maxLen; omega) (Nat.le_refl _) ?_; intro w1 hown hgr; have hrow := own_fullS hown; rw [show (Value.agg zPC).cells = zPC from rfl, made_places] at hrow; have HROW := Lib.hid hrow; have HL := Lib.hid (below_of_none hgr); have HSZ := Lib.hid (lt_of_block hrow); have HBX := Lib.hid (bl_row HL.out (lt_of_block HT.out.box) HT.out.box); have k0 := row_cell HBX.out 0 _ rfl; have k1 := row_cell HBX.out 1 _ rfl; have z0 := row_free HBX.out 0; have z1 := row_free HBX.out 1; clear hrow hown hgr) | fail)
  clear k0 k1 z0 z1
  have hpl := lt_of_block HT.out.box; have hgl := lt_of_block HT.out.row
  obtain ⟨gn, hgn⟩ : ∃ gn, w.heap.size = gn := ⟨_, rfl⟩
  have hA := ((At.base HBX.out).set 0 (.slice (some ⟨gn, 0, none⟩) N N)).set 1 (.int .i64 0)
  rw [hgn] at HROW hpl hgl ⊢
  have HB2 : Hid (((w1.setCell ⟨p, 0, none⟩ (.slice (some ⟨gn, 0, none⟩) N N)).setCell ⟨p, 1, none⟩ (.int .i64 0)).heap[p]? = some (Obj.cells #[.slice (some ⟨gn, 0, none⟩) N N, .int .i64 ((List.replicate N zPl).countP (·.u) : Nat)] 52 (0, 0))) := Lib.hid (by have h := hA.row; rw [show (List.replicate N zPl).countP (·.u) = 0 by rw [List.countP_eq_zero]; intro p hp; rw [(List.mem_replicate.1 hp).2]; decide]; exact h)
  have HR2 := Lib.hid (grown_row hA.rest (by intro e; injection e with e; omega) HROW.out)
  have HO2 := Lib.hid (grown_row hA.rest (by intro e; injection e with e; exact HT.out.ne e) (bl_row HL.out (by rw [hgn]; exact hgl) HT.out.row))
  have HTW := Lib.hid ((Two.of (p := p) (g := gn) HL.out).trans (Two.gp hA.rest))
  generalize (w1.setCell ⟨p, 0, none⟩ (.slice (some ⟨gn, 0, none⟩) N N)).setCell ⟨p, 1, none⟩ (.int .i64 0) = w2 at HB2 HR2 HO2 HTW ⊢
  have HT2 : Hid (Tab w2 N (List.replicate N zPl) p gn) := Lib.hid ⟨TInv.new N hN.1, fun p hp => by rw [(List.mem_replicate.1 hp).2]; exact zPl_ok, HT.out.pow, by omega, HR2.out, HB2.out⟩
  have HINV := Lib.hid HT.out.inv; have HPLS := Lib.hid HT.out.pls; have HGN := Lib.hid hgn
  have HRB : Hid (Reb homeM N keep l (List.replicate N zPl) 0) := Lib.hid (Reb.start hN.1)
  have HGL := Lib.hid hgl; have HPL := Lib.hid hpl; have HNE := Lib.hid HT.out.ne
  clear hA HROW HL HSZ HBX HB2 HR2 hgn hgl hpl HT HBY HI HZ0 HZ1 HZ2
  go_wp2_with fail
  go_loopw [22] (fun s wr => ∃ (k : Nat) (T : List Pl), s = .int .i64 k ∧ k ≤ N ∧ Hid (Two w wr p gn) ∧ Hid (Tab wr N T p gn) ∧ Hid (Reb homeM N keep l T k) ∧ Hid (wr.heap[g]? = some (.cells (tRow l).toArray 58 (0, 0)))) (fun s _ => N - (intOf s).toNat)
  case atStart => exact ⟨0, _, rfl, by omega, HTW, HT2, HRB, HO2⟩
  case round =>
    clear HTW HT2 HRB HO2
    obtain ⟨k, T, rfl, hk, HTW, HT2, HRB, HO2⟩ := hrel
    by_cases hlt : k < N
    · skip
      obtain ⟨x, hlk⟩ : ∃ x, l[k]? = some x := ⟨_, List.getElem?_eq_getElem (by rw [HINV.out.len]; exact hlt)⟩
      have HXO := Lib.hid (HPLS.out x (List.mem_of_getElem? hlk))
      have HLK := Lib.hid hlk
      have HRT := Lib.hid (rng_row HO2.out (k * 10) x.row (tRow_get HPLS.out hlk))
      clear hlk
      have HL1 := Lib.hid (Pl.row_len HXO.out); have HO1 := Lib.hid x.row_one
      have HX8 : Hid (x.row[8]? = some (.int .i64 x.n) ∧ x.row[9]? = some (.bool x.u)) := Lib.hid (by constructor <;> (unfold Pl.row; rw [List.getElem?_append_right (by rw [List.length_map, HXO.out.len]; omega), List.length_map, HXO.out.len]; rfl))
      have HXC : Hid (∀ (j : Nat) (v : Value), (x.c.map (Value.int .u8))[j]? = some v → x.row[0 + j]? = some v) := Lib.hid (fun j v hv => by unfold Pl.row; rw [Nat.zero_add, List.getElem?_append_left (lt_of_get hv)]; exact hv)
      have HFX := Lib.hid (fun w1 h => HF.out w1 x HXO.out h)
      have HPU := Lib.hid (fun w1 T hT => put_any w1 N T p gn x.c x.n HXO.out.bn hT HXO.out.len HXO.out.wf)
      obtain ⟨XC, hXC⟩ : ∃ XC, x.c.map (Value.int .u8) = XC := ⟨_, rfl⟩
      rw [hXC] at HXC HPU
      have HXCL : Hid (XC.length = 8) := Lib.hid (by rw [← hXC, List.length_map, HXO.out.len])
      clear hXC
      obtain ⟨R, hR⟩ : ∃ R, x.row = R := ⟨_, rfl⟩
      rw [hR] at HRT HL1 HO1 HX8 HXC HFX
      clear hR
      have hcn : cap ≠ gn := by have := HCL.out; have := HGN.out; omega
      have HCN := Lib.hid hcn
      clear hcn
      have HXU := Lib.hid (Eq.refl x.u)
      obtain ⟨xu, hxu⟩ : ∃ xu, x.u = xu := ⟨_, rfl⟩
      rw [hxu] at HX8
      replace HXU := Lib.hid hxu
      clear hxu
      go_upto_region 5 with (first | (refine wpList_load_mid rfl 58 _ rfl g (k * 10) rfl R _ HRT.out Try.underlying58 rfl (by rw [HL1.out]; rfl) ?_) | (refine wpList_store_row rfl 58 _ _ rfl _ rfl R [.int .u8 0, .int .u8 0, .int .u8 0, .int .u8 0, .int .u8 0, .int .u8 0, .int .u8 0, .int .u8 0, .int .i64 0, .bool false] rfl 58 (heap_alloc_new _ _) (by rw [HL1.out]; rfl) (by rw [HL1.out]; rfl) HO1.out ?_; intro w1 hr hg) | fail)
      have hal := (Below.refl wr.heap.size wr).alloc (Nat.le_refl _) (.cells ([.int .u8 0, .int .u8 0, .int .u8 0, .int .u8 0, .int .u8 0, .int .u8 0, .int .u8 0, .int .u8 0, .int .i64 0, .bool false]).toArray 58)
      have hb : Below wr.heap.size wr w1 := hal.grown hg hal.size (by intro k hk; injection hk with hk; omega)
      replace HO2 := Lib.hid (bl_row hb (lt_of_block HO2.out) HO2.out)
      replace HTW := Lib.hid (HTW.out.trans (Two.of hb))
      replace HT2 := Lib.hid (HT2.out.below hb)
      have HGX := Lib.hid (hr)
      clear hr hg hal hb
      obtain ⟨gx, hg⟩ : ∃ g, wr.heap.size = g := ⟨_, rfl⟩
      rw [hg] at HGX ⊢
      clear hg
      have k8 := cell_row HGX.out 8 _ HX8.out.1
      have k9 := cell_row HGX.out 9 _ HX8.out.2
      cases xu with
      | false =>
        go_wp2_with fail
        go_roundw
        case rel => exact ⟨k + 1, T, by go_num, by omega, HTW, HT2, Lib.hid (Reb.skip HRB.out HLK.out (by rw [HXU.out]; rfl)), HO2⟩
        case measure => simp [intOf]; omega
      | true =>
        go_wp2_with (first | (refine wpList_load_g 58 _ rfl (by kernel_rfl) gx 0 rfl R _ (rngL HGX.out) Try.underlying58 rfl (by rw [HL1.out]; rfl) ?_) | fail)
        refine Calls.mono (HFX.out _ (by rw [HTW.out.block cap HCL.out HCP.out HCN.out])) ?_
        rintro e w2 ⟨rfl, hb⟩
        replace HO2 := Lib.hid (bl_row hb (lt_of_block HO2.out) HO2.out)
        replace HGX := Lib.hid (bl_row hb (lt_of_block HGX.out) HGX.out)
        replace HTW := Lib.hid (HTW.out.trans (Two.of hb))
        replace HT2 := Lib.hid (HT2.out.below hb)
        clear hb
        obtain ⟨kx, hkx⟩ : ∃ kx, keep x = kx := ⟨_, rfl⟩
        rw [hkx]
        have HKX := Lib.hid hkx
        clear hkx k8 k9
        cases kx with
        | false =>
          go_wp2_with fail
          go_roundw
          case rel => exact ⟨k + 1, T, by go_num, by omega, HTW, HT2, Lib.hid (Reb.skip HRB.out HLK.out (by rw [HXU.out, HKX.out]; rfl)), HO2⟩
          case measure => simp [intOf]; omega
        | true =>
          have k8 := cell_row HGX.out 8 _ HX8.out.1
          have HRX := Lib.hid (rng_row HGX.out 0 XC HXC.out)
          go_wp2_with (first | (refine wpList_load_mid rfl 30 _ rfl gx 0 rfl XC _ HRX.out Try.underlying30 rfl (by rw [HXCL.out]; rfl) ?_) | fail)
          refine Calls.mono (HPU.out _ _ HT2.out) ?_
          rintro e w3 ⟨htw, i, y, hst, hcase⟩
          have hput := Reb.put HINV.out HRB.out HLK.out (by rw [HXU.out, HKX.out]; rfl) hst
          rcases hcase with ⟨h1, h2, h3, h4⟩ | ⟨h1, rfl, hT3⟩
          · exfalso; have := hput.2.1; omega
          have HTW3 := Lib.hid (HTW.out.trans htw)
          have HO3 := Lib.hid (htw.row HO2.out HNE.out (by have := HGL.out; omega))
          have HT3 := Lib.hid hT3
          have HRB3 := Lib.hid hput.2.2
          clear k8 HRX hput htw hst h1 hT3 HTW HO2 HT2 HRB
          go_wp2_with fail
          go_roundw
          case rel => exact ⟨k + 1, _, by go_num, by omega, HTW3, HT3, HRB3, HO3⟩
          case measure => simp [intOf]; omega
    · obtain rfl : k = N := by omega
      go_wp2_with fail
      exact bodyPost_end (v := .tuple #[]) (by kernel_rfl) rfl ⟨rfl, HTW.out.same (by rw [HGN.out]; exact Nat.le_refl _), gn, T, by rw [HGN.out]; exact Nat.le_refl _, HT2.out, HRB.out⟩
set_option maxRecDepth 100000 in
set_option maxHeartbeats 8000000 in
theorem without_all (w : World) (N : Nat) (l : List Pl) (p g : Nat) (cap : Nat) (keep : Pl → Bool) (hT : Tab w N l p g) (hcl : cap < w.heap.size) (hcp : cap ≠ p) 
    (HF : Hid (∀ (w1 : World) (x : Pl), x.ok → w1.heap[cap]? = w.heap[cap]? → Calls Try.prog 25 #[.agg x.row.toArray, .pointer (some ⟨cap, 0, none⟩)] w1 fun e w' => e = .returned (.bool (!keep x)) ∧ Below w1.heap.size w1 w')) :
    Calls Try.prog 23 #[.pointer (some ⟨p, 0, none⟩), .func (.func 25) #[] #[.pointer (some ⟨cap, 0, none⟩)]] w fun e w' => e = .returned (.tuple #[]) ∧ Two w w' p g ∧ ∃ g' T, w.heap.size ≤ g' ∧ Tab w' N T p g' ∧ Reb homeM N keep l T N := by
  obtain ⟨i0, hi, hz0, hz1, hz2⟩ := info_parts infoPlace
  have HI := Lib.hid hi; have HZ0 := Lib.hid hz0; have HZ1 := Lib.hid hz1; have HZ2 := Lib.hid hz2
  have HT := Lib.hid hT; have HCL := Lib.hid hcl; have HCP := Lib.hid hcp
  have hN := pow_bd hT.pow
  clear hi hz0 hz1 hz2 hT hcl hcp
  have k0 := row_cell HT.out.box 0 _ rfl
  go_enter Try.func23, Try.ntmps23
  have HBY : Hid (i0.bytes * N ≤ 281474976710656) := Lib.hid (by rw [HZ2.out]; omega)
  go_upto_region 1 with fail
  clear k0
  go_upto_region 2 with (first | (at_make; refine wpList_make_full _ rfl _ _ 50 rfl w.heap.size 58 i0 (.agg zPC) 10 Try.underlying50 HI.out HZ0.out HZ1.out .i64 .i64 _ _ N rfl rfl rfl rfl HBY.out (by unfold maxLen; omega) (Nat.le_refl _) ?_; intro w1 hown hgr; have hrow := own_fullS hown; rw [show (Value.agg zPC).cells = zPC from rfl, made_places] at hrow; have HROW := Lib.hid hrow; have HL := Lib.hid (below_of_none hgr); have HSZ := Lib.hid (lt_of_block hrow); have HBX := Lib.hid (bl_row HL.out (lt_of_block HT.out.box) HT.out.box); have k0 := row_cell HBX.out 0 _ rfl; have k1 := row_cell HBX.out 1 _ rfl; have z0 := row_free HBX.out 0; have z1 := row_free HBX.out 1; clear hrow hown hgr) | fail)
  clear k0 k1 z0 z1
  have hpl := lt_of_block HT.out.box; have hgl := lt_of_block HT.out.row
  obtain ⟨gn, hgn⟩ : ∃ gn, w.heap.size = gn := ⟨_, rfl⟩
  have hA := ((At.base HBX.out).set 0 (.slice (some ⟨gn, 0, none⟩) N N)).set 1 (.int .i64 0)
  rw [hgn] at HROW hpl hgl ⊢
  have HB2 : Hid (((w1.setCell ⟨p, 0, none⟩ (.slice (some ⟨gn, 0, none⟩) N N)).setCell ⟨p, 1, none⟩ (.int .i64 0)).heap[p]? = some (Obj.cells #[.slice (some ⟨gn, 0, none⟩) N N, .int .i64 ((List.replicate N zPl).countP (·.u) : Nat)] 52 (0, 0))) := Lib.hid (by have h := hA.row; rw [show (List.replicate N zPl).countP (·.u) = 0 by rw [List.countP_eq_zero]; intro p hp; rw [(List.mem_replicate.1 hp).2]; decide]; exact h)
  have HR2 := Lib.hid (grown_row hA.rest (by intro e; injection e with e; omega) HROW.out)
  have HO2 := Lib.hid (grown_row hA.rest (by intro e; injection e with e; exact HT.out.ne e) (bl_row HL.out (by rw [hgn]; exact hgl) HT.out.row))
  have HTW := Lib.hid ((Two.of (p := p) (g := gn) HL.out).trans (Two.gp hA.rest))
  generalize (w1.setCell ⟨p, 0, none⟩ (.slice (some ⟨gn, 0, none⟩) N N)).setCell ⟨p, 1, none⟩ (.int .i64 0) = w2 at HB2 HR2 HO2 HTW ⊢
  have HT2 : Hid (Tab w2 N (List.replicate N zPl) p gn) := Lib.hid ⟨TInv.new N hN.1, fun p hp => by rw [(List.mem_replicate.1 hp).2]; exact zPl_ok, HT.out.pow, by omega, HR2.out, HB2.out⟩
  have HINV := Lib.hid HT.out.inv; have HPLS := Lib.hid HT.out.pls; have HGN := Lib.hid hgn
  have HRB : Hid (Reb homeM N keep l (List.replicate N zPl) 0) := Lib.hid (Reb.start hN.1)
  have HGL := Lib.hid hgl; have HPL := Lib.hid hpl; have HNE := Lib.hid HT.out.ne
  clear hA HROW HL HSZ HBX HB2 HR2 hgn hgl hpl HT HBY HI HZ0 HZ1 HZ2
  go_wp2_with fail
  go_loopw [22] (fun s wr => ∃ (k : Nat) (T : List Pl), s = .int .i64 k ∧ k ≤ N ∧ Hid (Two w wr p gn) ∧ Hid (Tab wr N T p gn) ∧ Hid (Reb homeM N keep l T k) ∧ Hid (wr.heap[g]? = some (.cells (tRow l).toArray 58 (0, 0)))) (fun s _ => N - (intOf s).toNat)
  case atStart => exact ⟨0, _, rfl, by omega, HTW, HT2, HRB, HO2⟩
  case round =>
    clear HTW HT2 HRB HO2
    obtain ⟨k, T, rfl, hk, HTW, HT2, HRB, HO2⟩ := hrel
    by_cases hlt : k < N
    · skip
      obtain ⟨x, hlk⟩ : ∃ x, l[k]? = some x := ⟨_, List.getElem?_eq_getElem (by rw [HINV.out.len]; exact hlt)⟩
      have HXO := Lib.hid (HPLS.out x (List.mem_of_getElem? hlk))
      have HLK := Lib.hid hlk
      have HRT := Lib.hid (rng_row HO2.out (k * 10) x.row (tRow_get HPLS.out hlk))
      clear hlk
      have HL1 := Lib.hid (Pl.row_len HXO.out); have HO1 := Lib.hid x.row_one
      have HX8 : Hid (x.row[8]? = some (.int .i64 x.n) ∧ x.row[9]? = some (.bool x.u)) := Lib.hid (by constructor <;> (unfold Pl.row; rw [List.getElem?_append_right (by rw [List.length_map, HXO.out.len]; omega), List.length_map, HXO.out.len]; rfl))
      have HXC : Hid (∀ (j : Nat) (v : Value), (x.c.map (Value.int .u8))[j]? = some v → x.row[0 + j]? = some v) := Lib.hid (fun j v hv => by unfold Pl.row; rw [Nat.zero_add, List.getElem?_append_left (lt_of_get hv)]; exact hv)
      have HFX := Lib.hid (fun w1 h => HF.out w1 x HXO.out h)
      have HPU := Lib.hid (fun w1 T hT => put_any w1 N T p gn x.c x.n HXO.out.bn hT HXO.out.len HXO.out.wf)
      obtain ⟨XC, hXC⟩ : ∃ XC, x.c.map (Value.int .u8) = XC := ⟨_, rfl⟩
      rw [hXC] at HXC HPU
      have HXCL : Hid (XC.length = 8) := Lib.hid (by rw [← hXC, List.length_map, HXO.out.len])
      clear hXC
      obtain ⟨R, hR⟩ : ∃ R, x.row = R := ⟨_, rfl⟩
      rw [hR] at HRT HL1 HO1 HX8 HXC HFX
      clear hR
      have hcn : cap ≠ gn := by have := HCL.out; have := HGN.out; omega
      have HCN := Lib.hid hcn
      clear hcn
      have HXU := Lib.hid (Eq.refl x.u)
      obtain ⟨xu, hxu⟩ : ∃ xu, x.u = xu := ⟨_, rfl⟩
      rw [hxu] at HX8
      replace HXU := Lib.hid hxu
      clear hxu
      go_upto_region 5 with (first | (refine wpList_load_mid rfl 58 _ rfl g (k * 10) rfl R _ HRT.out Try.underlying58 rfl (by rw [HL1.out]; rfl) ?_) | (refine wpList_store_row rfl 58 _ _ rfl _ rfl R [.int .u8 0, .int .u8 0, .int .u8 0, .int .u8 0, .int .u8 0, .int .u8 0, .int .u8 0, .int .u8 0, .int .i64 0, .bool false] rfl 58 (heap_alloc_new _ _) (by rw [HL1.out]; rfl) (by rw [HL1.out]; rfl) HO1.out ?_; intro w1 hr hg) | fail)
      have hal := (Below.refl wr.heap.size wr).alloc (Nat.le_refl _) (.cells ([.int .u8 0, .int .u8 0, .int .u8 0, .int .u8 0, .int .u8 0, .int .u8 0, .int .u8 0, .int .u8 0, .int .i64 0, .bool false]).toArray 58)
      have hb : Below wr.heap.size wr w1 := hal.grown hg hal.size (by intro k hk; injection hk with hk; omega)
      replace HO2 := Lib.hid (bl_row hb (lt_of_block HO2.out) HO2.out)
      replace HTW := Lib.hid (HTW.out.trans (Two.of hb))
      replace HT2 := Lib.hid (HT2.out.below hb)
      have HGX := Lib.hid (hr)
      clear hr hg hal hb
      obtain ⟨gx, hg⟩ : ∃ g, wr.heap.size = g := ⟨_, rfl⟩
      rw [hg] at HGX ⊢
      clear hg
      have k8 := cell_row HGX.out 8 _ HX8.out.1
      have k9 := cell_row HGX.out 9 _ HX8.out.2
      cases xu with
      | false =>
        go_wp2_with fail
        go_roundw
        case rel => exact ⟨k + 1, T, by go_num, by omega, HTW, HT2, Lib.hid (Reb.skip HRB.out HLK.out (by rw [HXU.out]; rfl)), HO2⟩
        case measure => simp [intOf]; omega
      | true =>
        go_wp2_with (first | (refine wpList_load_g 58 _ rfl (by kernel_rfl) gx 0 rfl R _ (rngL HGX.out) Try.underlying58 rfl (by rw [HL1.out]; rfl) ?_) | fail)
        refine Calls.mono (HFX.out _ (by rw [HTW.out.block cap HCL.out HCP.out HCN.out])) ?_
        rintro e w2 ⟨rfl, hb⟩
        replace HO2 := Lib.hid (bl_row hb (lt_of_block HO2.out) HO2.out)
        replace HGX := Lib.hid (bl_row hb (lt_of_block HGX.out) HGX.out)
        replace HTW := Lib.hid (HTW.out.trans (Two.of hb))
        replace HT2 := Lib.hid (HT2.out.below hb)
        clear hb
        obtain ⟨kx, hkx⟩ : ∃ kx, keep x = kx := ⟨_, rfl⟩
        rw [hkx]
        have HKX := Lib.hid hkx
        clear hkx k8 k9
        cases kx with
        | false =>
          go_wp2_with fail
          go_roundw
          case rel => exact ⟨k + 1, T, by go_num, by omega, HTW, HT2, Lib.hid (Reb.skip HRB.out HLK.out (by rw [HXU.out, HKX.out]; rfl)), HO2⟩
          case measure => simp [intOf]; omega
        | true =>
          have k8 := cell_row HGX.out 8 _ HX8.out.1
          have HRX := Lib.hid (rng_row HGX.out 0 XC HXC.out)
          go_wp2_with (first | (refine wpList_load_mid rfl 30 _ rfl gx 0 rfl XC _ HRX.out Try.underlying30 rfl (by rw [HXCL.out]; rfl) ?_) | fail)
          refine Calls.mono (HPU.out _ _ HT2.out) ?_
          rintro e w3 ⟨htw, i, y, hst, hcase⟩
          have hput := Reb.put HINV.out HRB.out HLK.out (by rw [HXU.out, HKX.out]; rfl) hst
          rcases hcase with ⟨h1, h2, h3, h4⟩ | ⟨h1, rfl, hT3⟩
          · exfalso; have := hput.2.1; omega
          have HTW3 := Lib.hid (HTW.out.trans htw)
          have HO3 := Lib.hid (htw.row HO2.out HNE.out (by have := HGL.out; omega))
          have HT3 := Lib.hid hT3
          have HRB3 := Lib.hid hput.2.2
          clear k8 HRX hput htw hst h1 hT3 HTW HO2 HT2 HRB
          go_wp2_with fail
          go_roundw
          case rel => exact ⟨k + 1, _, by go_num, by omega, HTW3, HT3, HRB3, HO3⟩
          case measure => simp [intOf]; omega
    · obtain rfl : k = N := by omega
      go_wp2_with fail
      exact bodyPost_end (v := .tuple #[]) (by kernel_rfl) rfl ⟨rfl, HTW.out.same (by rw [HGN.out]; exact Nat.le_refl _), gn, T, by rw [HGN.out]; exact Nat.le_refl _, HT2.out, HRB.out⟩
end Go.Proofs.Ytpngjokjjpdboaa
