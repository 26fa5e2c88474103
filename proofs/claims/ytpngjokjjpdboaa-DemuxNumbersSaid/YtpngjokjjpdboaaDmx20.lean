/- demux: DemuxNumbers. -/
import Derived.Test.YtpngjokjjpdboaaDmx19
namespace Go.Proofs.Ytpngjokjjpdboaa
open Go.RowKit
set_option linter.unusedVariables false

def kndM (j : Nat) : Int := ([0, 0, 0, 0, 3, 0, 0, 4, 0, 0] : List Int).getD (j % 10) 0
def aRow (j : Nat) : List Value := askRow (kndM j) ((j : Int) * 7) j [(j : Int), 1, 0, 0, 0, 0, 0, 0]
def aRows (i : Nat) : List Value := (List.range i).flatMap aRow
theorem aRow_len (j : Nat) : (aRow j).length = 11 := rfl
theorem aRows_succ (i : Nat) : aRows (i + 1) = aRows i ++ aRow i := by unfold aRows; rw [List.range_succ, List.flatMap_append]; simp
theorem aRows_len : ∀ i, (aRows i).length = i * 11
  | 0 => rfl
  | i + 1 => by rw [aRows_succ, List.length_append, aRows_len i, aRow_len]; omega
theorem aRows_get : ∀ {i j : Nat}, j < i → ∀ (t : Nat) (v : Value), (aRow j)[t]? = some v → (aRows i)[j * 11 + t]? = some v
  | 0, _, h, _, _, _ => by omega
  | i + 1, j, h, t, v, hv => by
    rw [aRows_succ]
    have hl := aRows_len i
    have ht := lt_of_get hv
    rw [aRow_len] at ht
    by_cases hj : j < i
    · rw [List.getElem?_append_left (by omega)]; exact aRows_get hj t v hv
    · obtain rfl : j = i := by omega
      rw [List.getElem?_append_right (by omega), hl, show j * 11 + t - j * 11 = t by omega]; exact hv
set_option maxRecDepth 100000 in
theorem infoAsk : (Try.prog.info? 47).map (fun i => (i.zero, i.size, i.bytes)) = some (some (.agg #[.int .i64 0, .int .i64 0, .int .i64 0, .int .u8 0, .int .u8 0, .int .u8 0, .int .u8 0, .int .u8 0, .int .u8 0, .int .u8 0, .int .u8 0]), 11, 32) := by kernel_rfl

theorem kndM_wf (j : Nat) : (Lit.int .i64 (kndM j)).wf = true := by
  have h10 : j % 10 < 10 := by omega
  unfold kndM
  generalize j % 10 = q at h10
  match q, h10 with
  | 0, _ => decide
  | 1, _ => decide
  | 2, _ => decide
  | 3, _ => decide
  | 4, _ => decide
  | 5, _ => decide
  | 6, _ => decide
  | 7, _ => decide
  | 8, _ => decide
  | 9, _ => decide
theorem wf_i64_of {n : Int} (h : -9223372036854775808 ≤ n ∧ n ≤ 9223372036854775807) : (Lit.int .i64 n).wf = true := by
  simp [Lit.wf, IntKind.min, IntKind.max, IntKind.signed, IntKind.bits]; omega
theorem asks_own {w : World} {B : Nat} {v : Value} (h : w.ownsRow B 47 11 v 100 (aRows 100)) : ∃ a cap, v = .slice a 100 cap ∧ Asks w a 100 := by
  obtain ⟨a, cap, rfl, _⟩ := own_sl h
  refine ⟨a, cap, rfl, ?_⟩
  obtain ⟨_, _, _, h1 | ⟨b, h1, _, hb, hc⟩⟩ := own_addr h
  · omega
  · refine .inr ⟨b, 0, h1, hb, fun j hj => ⟨kndM j, (j : Int) * 7, j, [(j : Int), 1, 0, 0, 0, 0, 0, 0], kndM_wf j, wf_i64_of (by omega), wf_i64_of (by omega), rfl, ?_, fun i u hu => ?_⟩⟩
    · intro x hx
      simp only [List.mem_cons, List.not_mem_nil, or_false] at hx
      rcases hx with rfl | rfl | rfl | rfl | rfl | rfl | rfl | rfl
      · exact wf_u8_of (by omega) (by omega)
      all_goals decide
    · rw [Nat.zero_add]; exact hc _ _ (aRows_get hj i u hu)
def szM : List Int := [-1, 0, 8, 9, 16, 40, 4096, 5000]
set_option maxRecDepth 100000 in
set_option maxHeartbeats 8000000 in
theorem numbers23_any (w : World) : Makes Try.prog 5 #[] w (.bool true) := by
  have HB := Lib.hid (Below.refl w.heap.size w)
  have HO : Hid (w.ownsRow w.heap.size 47 11 (.slice none 0 0) 0 (aRows 0)) := Lib.hid (World.ownsRow_nil _ _ _ _)
  go_enter Try.func5, Try.ntmps5
  go_wp2_with fail
  go_loopw [1, 2] (fun v s wr => ∃ i : Nat, s = .int .i64 i ∧ i ≤ 100 ∧ Hid (Below w.heap.size w wr) ∧ Hid (wr.ownsRow w.heap.size 47 11 v i (aRows i))) (fun _ s _ => 100 - (intOf s).toNat)
  case atStart => exact ⟨0, rfl, by omega, HB, HO⟩
  case round =>
    clear HB HO
    obtain ⟨i, rfl, hi, HB, HO⟩ := hrel
    by_cases hlt : i < 100
    · have hc : ∀ w : World, (w.alloc (.cells #[.int .i64 0, .int .i64 0, .int .i64 0, .int .i64 0, .int .i64 3, .int .i64 0, .int .i64 0, .int .i64 4, .int .i64 0, .int .i64 0] 3)).cell? ⟨w.heap.size, i % 10, none⟩ = some (.int .i64 (kndM i)) := fun w => by
        rw [cell_of_row _ _ _ _ _ _ (heap_alloc_new _ _)]
        have h10 : i % 10 < 10 := by omega
        unfold kndM
        generalize i % 10 = q at h10
        match q, h10 with
        | 0, _ => rfl
        | 1, _ => rfl
        | 2, _ => rfl
        | 3, _ => rfl
        | 4, _ => rfl
        | 5, _ => rfl
        | 6, _ => rfl
        | 7, _ => rfl
        | 8, _ => rfl
        | 9, _ => rfl
      have HCX := Lib.hid hc
      have HRS := Lib.hid (aRows_succ i)
      have HAR : Hid (aRow i = askRow (kndM i) ((i : Int) * 7) i [(i : Int), 1, 0, 0, 0, 0, 0, 0]) := Lib.hid rfl
      generalize kndM i = kd at HCX HAR
      clear hc
      have hcw := HCX.out wr
      have HB1 := Lib.hid ((Below.refl wr.heap.size wr).alloc (Nat.le_refl _) (.cells #[.int .i64 0, .int .i64 0, .int .i64 0, .int .i64 0, .int .i64 3, .int .i64 0, .int .i64 0, .int .i64 4, .int .i64 0, .int .i64 0] 3))
      have HO1 := Lib.hid (own_below HO.out HB1.out)
      have hsz0 := HB.out.size
      have hsz1 : w.heap.size ≤ (wr.alloc (.cells #[.int .i64 0, .int .i64 0, .int .i64 0, .int .i64 0, .int .i64 3, .int .i64 0, .int .i64 0, .int .i64 4, .int .i64 0, .int .i64 0] 3)).heap.size := Nat.le_trans HB.out.size HB1.out.size
      have HNEWS := Lib.hid (fun (W : World) j v (hj : (askRow kd ((i : Int) * 7) i [(i : Int), 1, 0, 0, 0, 0, 0, 0])[j]? = some v) => (show (W.alloc (.cells #[.int .i64 kd, .int .i64 ((i : Int) * 7), .int .i64 i, .int .u8 i, .int .u8 1, .int .u8 0, .int .u8 0, .int .u8 0, .int .u8 0, .int .u8 0, .int .u8 0] 47)).cell? ((⟨W.heap.size, 0, none⟩ : Addr).add j) = some v from by
        rw [add_none, Nat.zero_add, cell_of_row _ _ _ _ _ _ (heap_alloc_new _ _), List.getElem?_toArray]; exact hj))
      obtain ⟨i0, hi0, hz0, hz1, hz2⟩ := info_parts infoAsk
      have HI0 := Lib.hid hi0; have HZ0 := Lib.hid hz0; have HZ1 := Lib.hid hz1; have HZ2 := Lib.hid hz2
      clear hi0 hz0 hz1 hz2
      have HSZ := Lib.hid (show (wr.alloc (.cells #[.int .i64 0, .int .i64 0, .int .i64 0, .int .i64 0, .int .i64 3, .int .i64 0, .int .i64 0, .int .i64 4, .int .i64 0, .int .i64 0] 3)).heap.size = wr.heap.size + 1 by simp)
      have HNW := Lib.hid (fun j v hj => HNEWS.out (wr.alloc (.cells #[.int .i64 0, .int .i64 0, .int .i64 0, .int .i64 0, .int .i64 3, .int .i64 0, .int .i64 0, .int .i64 4, .int .i64 0, .int .i64 0] 3)) j v hj)
      rw [HSZ.out] at HNW
      clear HNEWS
      go_wp2_with (at_builtin; refine wpList_append_own _ rfl _ _ 45 rfl w.heap.size 47 i0 _ 11 32 Try.underlying45 HI0.out HZ0.out HZ1.out HZ2.out rfl (by decide) _ _ _ rfl (own_below HO1.out ((Below.refl _ _).alloc (Nat.le_refl _) _)) ⟨wr.heap.size + 1, 0, none⟩ 1 1 (askRow kd ((i : Int) * 7) i [(i : Int), 1, 0, 0, 0, 0, 0, 0]) rfl rfl HNW.out (by simp [askRow, Value.oneCell']) (by unfold maxLen; omega) (by omega) (by simp; omega) ?_; intro v' w1 hown' hgrow _; have HO2 := Lib.hid hown'; have HG2 := Lib.hid hgrow; clear hown' hgrow)
      have hnb : ∀ k, u1.ownBlock = some k → w.heap.size ≤ k := own_base HO1.out
      have HB2 := Lib.hid ((((HB.out.alloc hsz0 (.cells #[.int .i64 0, .int .i64 0, .int .i64 0, .int .i64 0, .int .i64 3, .int .i64 0, .int .i64 0, .int .i64 4, .int .i64 0, .int .i64 0] 3)).alloc (by simp; omega) (.cells #[.int .i64 kd, .int .i64 ((i : Int) * 7), .int .i64 i, .int .u8 i, .int .u8 1, .int .u8 0, .int .u8 0, .int .u8 0, .int .u8 0, .int .u8 0, .int .u8 0] 47))).grown HG2.out (by simp; omega) hnb)
      have HO3 : Hid (w1.ownsRow w.heap.size 47 11 v' (i + 1) (aRows (i + 1))) := Lib.hid (by rw [HRS.out, HAR.out]; exact HO2.out)
      exact ⟨⟨i + 1, by go_num, by omega, HB2, HO3⟩, by simp [intOf]; omega⟩
    · have HOX := Lib.hid HO.out
      rw [show i = 100 by omega] at HOX
      obtain ⟨a, cap, rfl, hA⟩ := asks_own HOX.out
      have HA := Lib.hid hA
      have HLT := Lib.hid HB.out.size
      clear hA HO HOX
      go_upto_region 7 with fail
      change Code.wp _ _ _ _ (wr.alloc (.cells (szM.map (Value.int .i64)).toArray 3))
      have hb := (Below.refl wr.heap.size wr).alloc (Nat.le_refl _) (.cells (szM.map (Value.int .i64)).toArray 3)
      have HSR := Lib.hid (heap_alloc_new wr (.cells (szM.map (Value.int .i64)).toArray 3))
      replace HB := Lib.hid (bl_next HB.out HB.out.size hb); replace HA := Lib.hid (HA.out.below hb)
      clear hb
      generalize wr.alloc (.cells (szM.map (Value.int .i64)).toArray 3) = w1 at HSR HB HA ⊢
      generalize wr.heap.size = gs at HSR HLT ⊢
      go_loopw [26] (fun s wx => ∃ k : Nat, s = .int .i64 k ∧ k ≤ 8 ∧ Hid (Below w.heap.size w wx) ∧ Hid (Asks wx a 100) ∧ Hid (wx.heap[gs]? = some (.cells (szM.map (Value.int .i64)).toArray 3 (0, 0)))) (fun s _ => 8 - (intOf s).toNat)
      case atStart => exact ⟨0, rfl, by omega, HB, HA, HSR⟩
      case round =>
        clear HB HA HSR hi hlt
        obtain ⟨k, rfl, hk, HB, HA, HSR⟩ := hrel
        by_cases hlt : k < 8
        · obtain ⟨z, hz, hzb⟩ : ∃ z, szM[k]? = some z ∧ -9223372036854775808 ≤ z ∧ z ≤ 9223372036854775807 := by
            match k, hlt with
            | 0, _ => exact ⟨_, rfl, by decide⟩
            | 1, _ => exact ⟨_, rfl, by decide⟩
            | 2, _ => exact ⟨_, rfl, by decide⟩
            | 3, _ => exact ⟨_, rfl, by decide⟩
            | 4, _ => exact ⟨_, rfl, by decide⟩
            | 5, _ => exact ⟨_, rfl, by decide⟩
            | 6, _ => exact ⟨_, rfl, by decide⟩
            | 7, _ => exact ⟨_, rfl, by decide⟩
          have cz := cell_row HSR.out k (.int .i64 z) (by rw [List.getElem?_map, hz]; rfl)
          have HPL := Lib.hid (play_any wr z a 100 cap (by omega) HA.out hzb)
          clear hz hzb
          go_wp2_with fail
          refine Calls.mono HPL.out ?_
          clear HPL cz
          rintro e w2 ⟨rfl, hb⟩
          replace HB := Lib.hid (bl_next HB.out HB.out.size hb); replace HA := Lib.hid (HA.out.below hb); replace HSR := Lib.hid (bl_row hb (lt_of_block HSR.out) HSR.out)
          clear hb
          go_wp2_with fail
          go_roundw
          case rel => exact ⟨k + 1, by go_num, by omega, HB, HA, HSR⟩
          case measure => simp [intOf]; omega
        · go_wp2_with fail
          refine Calls.mono (known23_any _) ?_
          rintro e w2 ⟨rfl, hb⟩
          replace HB := Lib.hid (bl_next HB.out HB.out.size hb)
          clear hb
          go_wp2_with fail
          go_ret
          exact ⟨rfl, HB.out⟩
end Go.Proofs.Ytpngjokjjpdboaa
