/- demux: Drop, DropAll. -/
import Derived.Test.YtpngjokjjpdboaaDmx6
namespace Go.Proofs.Ytpngjokjjpdboaa
open Go.RowKit
set_option linter.unusedVariables false

set_option maxRecDepth 100000 in
set_option maxHeartbeats 2000000 in
theorem drop1_any (w : World) (x : Pl) (c : List Int) (gc : Nat) (hx : x.ok) (hc : c.length = 8) (hcw : ∀ x ∈ c, (Lit.int .u8 x).wf = true) (hrow : w.heap[gc]? = some (.cells (c.map (Value.int .u8)).toArray 30 (0, 0))) :
    Calls Try.prog 24 #[.agg x.row.toArray, .pointer (some ⟨gc, 0, none⟩)] w fun e w' => e = .returned (.bool (x.c == c)) ∧ Below w.heap.size w w' := by
  have HXL := Lib.hid (Pl.row_len hx)
  have HXC : Hid (∀ (j : Nat) (v : Value), (x.c.map (Value.int .u8))[j]? = some v → x.row[0 + j]? = some v) := Lib.hid (fun j v hv => by unfold Pl.row; rw [Nat.zero_add, List.getElem?_append_left (lt_of_get hv)]; exact hv)
  have HEQ := Lib.hid (fun y => eqin_bytes y 30 8 Try.underlying30 x.c c hx.len hc hx.wf hcw)
  have HL1 : Hid ((x.c.map (Value.int .u8)).length = 8) := Lib.hid (by rw [List.length_map, hx.len])
  have HL2 : Hid ((c.map (Value.int .u8)).length = 8) := Lib.hid (by rw [List.length_map, hc])
  have HGC := Lib.hid hrow
  obtain ⟨b, hb⟩ : ∃ b, (x.c == c) = b := ⟨_, rfl⟩
  rw [hb] at HEQ ⊢
  obtain ⟨XC, hXC⟩ : ∃ XC, x.c.map (Value.int .u8) = XC := ⟨_, rfl⟩
  obtain ⟨C, hC⟩ : ∃ C, c.map (Value.int .u8) = C := ⟨_, rfl⟩
  obtain ⟨R, hR⟩ : ∃ R, x.row = R := ⟨_, rfl⟩
  rw [hXC] at HXC HEQ HL1; rw [hC] at HEQ HL2 HGC; rw [hR] at HXC HXL ⊢
  clear hb hXC hC hR hx hc hcw hrow
  have HB := Lib.hid (Below.refl w.heap.size w)
  go_enter Try.func24, Try.ntmps24
  go_upto_region 1 with fail
  have hb := (Below.refl w.heap.size w).alloc (Nat.le_refl _) (.cells R.toArray 58)
  replace HB := Lib.hid (bl_next HB.out HB.out.size hb)
  replace HGC := Lib.hid (bl_row hb (lt_of_block HGC.out) HGC.out)
  have HGX := Lib.hid (heap_alloc_new w (.cells R.toArray 58))
  clear hb
  generalize w.alloc (.cells R.toArray 58) = w1 at HB HGC HGX ⊢
  obtain ⟨gx, hg⟩ : ∃ g, w.heap.size = g := ⟨_, rfl⟩
  rw [hg] at HGX ⊢
  clear hg
  have HRX := Lib.hid (rng_row HGX.out 0 XC HXC.out)
  have heq := HEQ.out w1
  go_wp2_with (first | (refine wpList_load_mid rfl 30 _ rfl gx 0 rfl XC _ HRX.out Try.underlying30 rfl (by rw [HL1.out]; rfl) ?_) | (refine wpList_load_mid rfl 30 _ rfl gc 0 rfl C _ (rngL HGC.out) Try.underlying30 rfl (by rw [HL2.out]; rfl) ?_) | fail)
  go_ret
  exact ⟨rfl, HB.out⟩
set_option maxRecDepth 100000 in
theorem dropall1_any (w : World) (x : Pl) (n' : Int) (gc : Nat) (hx : x.ok) (hrow : w.cell? ⟨gc, 0, none⟩ = some (.int .i64 n')) :
    Calls Try.prog 25 #[.agg x.row.toArray, .pointer (some ⟨gc, 0, none⟩)] w fun e w' => e = .returned (.bool (x.n == n')) ∧ Below w.heap.size w w' := by
  have HX8 : Hid (x.row[8]? = some (.int .i64 x.n)) := Lib.hid (by unfold Pl.row; rw [List.getElem?_append_right (by rw [List.length_map, hx.len]; omega), List.length_map, hx.len]; rfl)
  have hlt := block_lt_of_cell hrow
  simp only at hlt
  obtain ⟨R, hR⟩ : ∃ R, x.row = R := ⟨_, rfl⟩
  rw [hR] at HX8 ⊢
  obtain ⟨m, hm⟩ : ∃ m, x.n = m := ⟨_, rfl⟩
  rw [hm] at HX8 ⊢
  clear hR hx hm
  have HB := Lib.hid (Below.refl w.heap.size w)
  have HC := Lib.hid hrow; have HLT := Lib.hid hlt
  clear hrow hlt
  go_enter Try.func25, Try.ntmps25
  go_upto_region 1 with fail
  have hb := (Below.refl w.heap.size w).alloc (Nat.le_refl _) (.cells R.toArray 58)
  replace HB := Lib.hid (bl_next HB.out HB.out.size hb)
  have HGX := Lib.hid (heap_alloc_new w (.cells R.toArray 58))
  clear hb
  generalize w.alloc (.cells R.toArray 58) = w1 at HB HGX ⊢
  obtain ⟨gx, hg⟩ : ∃ g, w.heap.size = g := ⟨_, rfl⟩
  rw [hg] at HGX ⊢
  clear hg
  have k8 := cell_row HGX.out 8 _ HX8.out
  have kc := bl_cell HB.out HLT.out HC.out
  go_wp2
  go_ret
  exact ⟨rfl, HB.out⟩
def DropR (N : Nat) (l : List Pl) (p g : Nat) (c : List Int) (w : World) (e : Ending) (w' : World) : Prop :=
  Two w w' p g ∧ (((∀ n, ¬ Has l c n) ∧ e = .returned (.bool false) ∧ Tab w' N l p g) ∨
    ((∃ n, Has l c n) ∧ e = .returned (.bool true) ∧ ∃ g' T, w.heap.size ≤ g' ∧ Tab w' N T p g' ∧ ∀ c' n', Has T c' n' ↔ Has l c' n' ∧ c' ≠ c))
set_option maxRecDepth 100000 in
set_option maxHeartbeats 4000000 in
theorem drop_any (w : World) (N : Nat) (l : List Pl) (p g : Nat) (c : List Int) (hT : Tab w N l p g) (hc : c.length = 8) (hcw : ∀ x ∈ c, (Lit.int .u8 x).wf = true) :
    Calls Try.prog 16 #[.pointer (some ⟨p, 0, none⟩), .agg (c.map (Value.int .u8)).toArray] w (DropR N l p g c w) := by
  have HGW := Lib.hid (lt_of_block hT.row); have HPW2 := Lib.hid (lt_of_block hT.box)
  have HFI := Lib.hid (fun w hT => find_any w N l p g c hT hc hcw)
  have HT := Lib.hid hT
  have HCL : Hid ((c.map (Value.int .u8)).length = 8) := Lib.hid (by rw [List.length_map, hc])
  have hN := pow_bd hT.pow
  have HCC := Lib.hid hc; have HCW := Lib.hid hcw
  have HCO : Hid (∀ v ∈ c.map (Value.int .u8), v.oneCell' = true) := Lib.hid ints_one
  obtain ⟨C, hC⟩ : ∃ C, c.map (Value.int .u8) = C := ⟨_, rfl⟩
  rw [hC] at HFI HCL HCO ⊢
  have HC := Lib.hid hC
  clear hT hc hcw hC
  have HB := Lib.hid (Below.refl w.heap.size w)
  go_enter Try.func16, Try.ntmps16
  go_upto_region 1 with fail
  have hb := (Below.refl w.heap.size w).alloc (Nat.le_refl _) (.cells C.toArray 30)
  replace HB := Lib.hid (bl_next HB.out HB.out.size hb)
  replace HT := Lib.hid (HT.out.below hb)
  have HGC := Lib.hid (heap_alloc_new w (.cells C.toArray 30))
  clear hb
  generalize w.alloc (.cells C.toArray 30) = w1 at HB HT HGC ⊢
  obtain ⟨gc, hg⟩ : ∃ g, w.heap.size = g := ⟨_, rfl⟩
  rw [hg] at HGC ⊢
  have HGE := Lib.hid hg
  clear hg
  go_wp2_with (first | (refine wpList_load_mid rfl 30 _ rfl gc 0 rfl C _ (rngL HGC.out) Try.underlying30 rfl (by rw [HCL.out]; rfl) ?_) | fail)
  refine Calls.mono (HFI.out _ HT.out) ?_
  rintro e w2 ⟨hb, i, x, hs, rfl⟩
  clear HFI
  replace HB := Lib.hid (bl_next HB.out HB.out.size hb)
  replace HGC := Lib.hid (bl_row hb (lt_of_block HGC.out) HGC.out)
  replace HT := Lib.hid (HT.out.below hb)
  clear hb
  have HS := Lib.hid hs
  have hi := hs.lt
  clear hs
  have hx := pl_cell HT.out.pls HT.out.row HS.out.at'
  have k0 := row_cell HT.out.box 0 _ rfl
  have k9 := hx.2.2
  have hqN := ps_lt (hm := homeM) hN.1 c i
  obtain ⟨xu, hxe⟩ : ∃ xu, x.u = xu := ⟨_, rfl⟩
  rw [hxe] at k9
  have HXU := Lib.hid hxe
  obtain ⟨q, hq⟩ : ∃ q, ps homeM N c i = q := ⟨_, rfl⟩
  rw [hq] at hqN k9 ⊢
  have HQI := Lib.hid hq
  clear hq hx hxe
  cases xu with
  | false =>
    go_wp2_with fail
    go_ret
    exact ⟨Two.of HB.out, .inl ⟨(Stop.none HT.out.inv HS.out HXU.out).2, rfl, HT.out⟩⟩
  | true =>
    have HUS := Lib.hid (Stop.used HT.out.inv HS.out HXU.out)
    have HIV := Lib.hid HT.out.inv
    have HWO := Lib.hid (without_drop w2 N l p g gc (fun x => !(x.c == c)) HT.out (lt_of_block HGC.out) (by have := HPW2.out; have := HGE.out; omega) (Lib.hid fun w1 x hx hh => by
      have h1 := drop1_any w1 x c gc hx HCC.out HCW.out (by rw [hh, HC.out]; exact HGC.out)
      simpa using h1))
    go_wp2_with fail
    clear k0 k9
    refine Calls.mono HWO.out ?_
    rintro e wz ⟨rfl, htw, g', T, hg', hT2, hRB⟩
    have hall := Reb.all HIV.out hRB
    have hHas : ∀ c' n', Has T c' n' ↔ Has l c' n' ∧ c' ≠ c := fun c' n' => by rw [hall.2.1]; simp
    have HF : Hid (DropR N l p g c w (.returned (.bool true)) wz) := Lib.hid ⟨(Two.of HB.out).trans htw, .inr ⟨⟨_, HUS.out.2.1⟩, rfl, g', T, Nat.le_trans HB.out.size hg', hT2, hHas⟩⟩
    clear htw hT2 hRB hall hHas hg'
    go_wp2_with fail
    go_ret
    exact HF.out
def DropAllR (N : Nat) (l : List Pl) (p g : Nat) (n' : Int) (w : World) (e : Ending) (w' : World) : Prop :=
  Two w w' p g ∧ ∃ g' T, w.heap.size ≤ g' ∧ e = .returned (.int .i64 ((l.countP (·.u) : Nat) - (T.countP (·.u) : Nat))) ∧ Tab w' N T p g' ∧ ∀ c m, Has T c m ↔ Has l c m ∧ m ≠ n'
set_option maxRecDepth 100000 in
set_option maxHeartbeats 4000000 in
theorem dropall_any (w : World) (N : Nat) (l : List Pl) (p g : Nat) (n' : Int) (hT : Tab w N l p g) :
    Calls Try.prog 18 #[.pointer (some ⟨p, 0, none⟩), .int .i64 n'] w (DropAllR N l p g n' w) := by
  have HPW := Lib.hid (lt_of_block hT.box)
  have HT := Lib.hid hT
  have hN := pow_bd hT.pow
  have hroom := hT.inv.room
  clear hT
  have HB := Lib.hid (Below.refl w.heap.size w)
  go_enter Try.func18, Try.ntmps18
  go_upto_region 1 with fail
  have hb := (Below.refl w.heap.size w).alloc (Nat.le_refl _) (.cells #[.int .i64 n'] 3)
  replace HB := Lib.hid (bl_next HB.out HB.out.size hb)
  replace HT := Lib.hid (HT.out.below hb)
  have HGC := Lib.hid (heap_alloc_new w (.cells #[.int .i64 n'] 3))
  clear hb
  generalize w.alloc (.cells #[.int .i64 n'] 3) = w1 at HB HT HGC ⊢
  obtain ⟨gc, hg⟩ : ∃ g, w.heap.size = g := ⟨_, rfl⟩
  rw [hg] at HGC ⊢
  have HGE := Lib.hid hg
  clear hg
  have k1 : w1.cell? ⟨p, 1, none⟩ = some (.int .i64 (l.countP (·.u) : Nat)) := row_cell HT.out.box 1 _ rfl
  obtain ⟨cn, hcn⟩ : ∃ cn, l.countP (·.u) = cn := ⟨_, rfl⟩
  rw [hcn] at k1 hroom
  have HCN := Lib.hid hcn
  clear hcn
  have HIV := Lib.hid HT.out.inv
  have HWO := Lib.hid (without_all w1 N l p g gc (fun x => !(x.n == n')) HT.out (lt_of_block HGC.out) (by have := HPW.out; have := HGE.out; omega) (Lib.hid fun w1 x hx hh => by
    have h1 := dropall1_any w1 x n' gc hx (row_cell (by rw [hh]; exact HGC.out) 0 _ rfl)
    simpa using h1))
  go_wp2_with fail
  clear k1
  refine Calls.mono HWO.out ?_
  rintro e wz ⟨rfl, htw, g', T, hg', hT2, hRB⟩
  have hall := Reb.all HIV.out hRB
  have hHas : ∀ c' m, Has T c' m ↔ Has l c' m ∧ m ≠ n' := fun c' m => by rw [hall.2.1]; simp
  have hr2 := hT2.inv.room
  have k1 : wz.cell? ⟨p, 1, none⟩ = some (.int .i64 (T.countP (·.u) : Nat)) := row_cell hT2.box 1 _ rfl
  have HF : Hid (∀ v, v = ((cn : Int) - (T.countP (·.u) : Nat)) → DropAllR N l p g n' w (.returned (.int .i64 v)) wz) := Lib.hid fun v hv => ⟨(Two.of HB.out).trans htw, g', T, Nat.le_trans HB.out.size hg', by rw [hv, HCN.out], hT2, hHas⟩
  clear htw hT2 hRB hall hHas hg'
  obtain ⟨ct, hct⟩ : ∃ ct, T.countP (·.u) = ct := ⟨_, rfl⟩
  rw [hct] at k1 hr2 HF
  clear hct
  go_wp2_with fail
  go_ret
  exact HF.out _ rfl
end Go.Proofs.Ytpngjokjjpdboaa
