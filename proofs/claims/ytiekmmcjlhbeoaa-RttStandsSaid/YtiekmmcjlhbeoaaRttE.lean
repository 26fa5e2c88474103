/- the walk of RttTells -/
import Derived.Test.YtiekmmcjlhbeoaaRttD
import Derived.OpenShut
import Derived.WalkSpells
namespace Go.Proofs.Ytiekmmcjlhbeoaa
open Go.RowKit
set_option linter.unusedVariables false

theorem info2 : (Try.prog.info? 2).map (fun i => (i.zero, i.size, i.bytes)) = some (some (.int .i64 0), 1, 8) := by kernel_rfl

/-- a row of int64s that the call owns is a slice of them. -/
theorem ints_of_own {w : World} {base : Nat} {v : Value} {n : Nat} {ys : List Int} (h : w.ownsRow base 2 1 v n (ys.map (Value.int .i64))) :
    ∃ a cap, v = .slice a n cap ∧ Ints w a n ys := by
  have hl : ys.length = n := by have := h.1; simpa using this
  rcases h.2 with ⟨rfl, rfl⟩ | ⟨g, cap, cur, rfl, hg, hh, hn, hc, hcs, ht⟩
  · exact ⟨none, 0, rfl, .inl rfl⟩
  · refine ⟨_, cap, rfl, .inr ⟨g, 0, rfl, lt_of_block hh, fun i hi => ?_⟩⟩
    rw [cell_of_row _ _ _ _ _ _ hh]
    have e : (ys.map (Value.int .i64))[i]? = some (.int .i64 (ys.getD i 0)) := by
      rw [List.getElem?_map, List.getElem?_eq_getElem (by omega), List.getD_eq_getElem?_getD, List.getElem?_eq_getElem (by omega)]; rfl
    rw [← ht, List.getElem?_take, if_pos (by omega)] at e
    simpa using e

theorem own_base {w : World} {base e size n : Nat} {v : Value} {xs : List Value} (h : w.ownsRow base e size v n xs) : ∀ k, v.ownBlock = some k → base ≤ k := by
  intro k hk
  rcases h.2 with ⟨rfl, rfl⟩ | ⟨g, cap, cur, rfl, hg, _⟩
  · simp [Value.ownBlock] at hk
  · simp [Value.ownBlock] at hk; omega

set_option maxHeartbeats 1000000 in
theorem tells_walk (w : World) (a : Option Addr) (len cap : Nat) (zs : List Int) (k : Int) (hlen : len * 8 ≤ 140737488351232)
    (hz : Ints w a len zs) (hzw : ∀ j, -9223372036854775808 ≤ zs.getD j 0 ∧ zs.getD j 0 ≤ 9223372036854775807) :
    Calls Try.prog 5 #[.slice a len cap, .int .i64 k] w fun e w' => e = .returned (.bool true) ∧ Below w.heap.size w w' := by
  have HZW := Lib.hid hzw; clear hzw
  have HZ := Lib.hid hz; clear hz
  obtain ⟨i0, hi, hz0, hz1, hz2⟩ := info_parts info2
  have HI := Lib.hid hi; have HZ0 := Lib.hid hz0; have HZ1 := Lib.hid hz1; have HZ2 := Lib.hid hz2
  clear hi hz0 hz1 hz2
  go_enter Try.func5, Try.ntmps5
  go_wp2_with fail
  go_loopw [5, 6] (fun v i wr => ∃ (j : Nat) (ys : List Int), i = .int .i64 j ∧ j ≤ len ∧ Hid (Below w.heap.size w wr) ∧ Hid (wr.ownsRow w.heap.size 2 1 v j (ys.map (Value.int .i64)))) (fun _ i _ => len - (intOf i).toNat)
  case atStart => exact ⟨0, [], rfl, by omega, Lib.hid (Below.refl _ _), Lib.hid ⟨by simp, .inl ⟨rfl, rfl⟩⟩⟩
  case round =>
    obtain ⟨j, ys, rfl, hj, HL, HO⟩ := hrel
    by_cases hlt : j < len
    · rcases HZ.out with h0 | ⟨b, off, rfl, hbl, hcell⟩
      · omega
      obtain ⟨x0, hx0, hc0⟩ := ints_cell HL.out hbl hcell j hlt
      have hx0w := HZW.out j
      rw [← hx0] at hx0w
      clear hcell hx0
      have hx := within_in x0 0 300 (by omega)
      obtain ⟨x, ex⟩ : ∃ x, within x0 0 300 = x := ⟨_, rfl⟩
      rw [ex] at hx
      have EX := Lib.hid ex; clear ex
      go_wp2_with fail
      refine Calls.mono (within_any _ x0 0 300 (by omega) (by omega) (by omega) hx0w) ?_
      rintro e w' ⟨rfl, rfl⟩
      rw [EX.out]
      have hsz : w.heap.size ≤ wr.heap.size + 1 := Nat.le_succ_of_le HL.out.size
      go_wp2_with (at_builtin; refine wpList_append_own _ rfl _ _ 22 rfl w.heap.size 2 i0 (.int .i64 0) 1 8 Try.underlying22 HI.out HZ0.out HZ1.out HZ2.out rfl (by decide) _ _ _ rfl (HO.out.alloc _) ⟨wr.heap.size, 0, none⟩ 1 1 [.int .i64 x] rfl rfl (by exact cell_one_new _ _ _) (by simp [Value.oneCell']) (by unfold maxLen; omega) (by omega) (by simpa using hsz) ?_; intro v' w1 hown' hgrow _; have HO1 := Lib.hid hown'; have HG1 := Lib.hid hgrow; clear hown' hgrow)
      have hnb : ∀ k, u5.ownBlock = some k → w.heap.size ≤ k := own_base HO.out
      have HL1 := Lib.hid ((HL.out.alloc HL.out.size _).grown HG1.out (by simpa using hsz) hnb)
      have HO2 : Hid (w1.ownsRow w.heap.size 2 1 v' (j + 1) ((ys ++ [x]).map (Value.int .i64))) := by
        have := HO1.out; rw [List.map_append]; exact Lib.hid this
      clear HG1 HO1 HO HL hnb hsz
      go_roundw
      case rel => exact ⟨j + 1, ys ++ [x], by go_num, by omega, HL1, HO2⟩
      case measure => simp [intOf]; omega
    · obtain ⟨a2, cap2, rfl, hi2⟩ := ints_of_own HO.out
      obtain rfl : j = len := by omega
      clear HO
      have HI2 := Lib.hid hi2; clear hi2
      have hsz := HL.out.size
      have hzr : Ints wr a j zs := by
        rcases HZ.out with h0 | ⟨b, off, rfl, hbl, hcell⟩
        · exact .inl h0
        · exact .inr ⟨b, off, rfl, by omega, fun i hi => bl_cell HL.out (p := ⟨b, off + i, none⟩) hbl (hcell i hi)⟩
      have HZR := Lib.hid hzr; clear hzr
      go_wp2_with fail
      refine Calls.mono (play_any _ a j cap zs k (by omega) HZR.out) ?_
      rintro e w2 ⟨rfl, hb2⟩
      have hI3 : Ints w2 a2 j ys := by
        rcases HI2.out with h0 | ⟨b, off, rfl, hbl, hcell⟩
        · exact .inl h0
        · exact .inr ⟨b, off, rfl, Nat.lt_of_lt_of_le hbl hb2.size, fun i hi => bl_cell hb2 (p := ⟨b, off + i, none⟩) hbl (hcell i hi)⟩
      have HI3 := Lib.hid hI3
      have HB2 := Lib.hid hb2
      clear hI3 hb2
      go_wp2_with fail
      refine Calls.mono (play_any _ a2 j cap2 ys k (by omega) HI3.out) ?_
      rintro e w3 ⟨rfl, hb3⟩
      have HB3 := Lib.hid hb3
      clear hb3
      go_wp2_with fail
      refine Calls.mono (known_any _) ?_
      rintro e w4 ⟨rfl, hb4⟩
      have HB4 := Lib.hid hb4
      clear hb4
      go_wp2_with fail
      go_ret
      exact ⟨rfl, HL.out.trans ((HB2.out.trans (HB3.out.trans (HB4.out.mono HB3.out.size) |>.mono HB2.out.size)).mono hsz)⟩

theorem ints_of {w : World} {a : Option Addr} {len : Nat} {zs : List Int} (h : IntsK .i64 w a len zs) : Ints w a len zs := h.2.2
theorem ints_wf {w : World} {a : Option Addr} {len : Nat} {zs : List Int} (h : IntsK .i64 w a len zs) (j : Nat) : -9223372036854775808 ≤ zs.getD j 0 ∧ zs.getD j 0 ≤ 9223372036854775807 := by
  rw [List.getD_eq_getElem?_getD]; exact range_i64 h.2.1 j
end Go.Proofs.Ytiekmmcjlhbeoaa
