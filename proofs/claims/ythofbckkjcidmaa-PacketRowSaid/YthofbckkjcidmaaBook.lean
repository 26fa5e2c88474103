/- contracts of narthexbook and narthexkeep: Within, Cut, Roomy, Same, Intact at bytes. -/
import Derived.Test.YthofbckkjcidmaaBase
import Derived.Laws.CopyOwn
namespace Go.Proofs.Ythofbckkjcidmaa
open Go.RowKit
set_option linter.unusedVariables false

def within (n lo hi : Int) : Int := if lo ≤ n ∧ n ≤ hi then n else lo + n % (hi - lo + 1)
theorem within_in (n lo hi : Int) (h : lo ≤ hi) : lo ≤ within n lo hi ∧ within n lo hi ≤ hi := by
  unfold within
  split
  · omega
  · have := Int.emod_nonneg n (show hi - lo + 1 ≠ 0 by omega)
    have := Int.emod_lt_of_pos n (show 0 < hi - lo + 1 by omega)
    omega
theorem tmod_emod (n d : Int) (hd : 0 < d) : (if n.tmod d < 0 then n.tmod d + d else n.tmod d) = n % d := by
  rcases Int.lt_or_le n 0 with h | h
  · by_cases hz : n.tmod d = 0
    · rw [hz]; simp
      have : d ∣ n := Int.dvd_of_tmod_eq_zero hz
      exact (Int.emod_eq_zero_of_dvd this).symm
    · have hn : n.tmod d < 0 := by
        have h2 := Int.neg_tmod n d
        have h3 := Int.tmod_nonneg d (show 0 ≤ -n by omega)
        omega
      rw [if_pos hn]
      have e := Int.tmod_add_mul_tdiv n d
      have hl : -d < n.tmod d := by
        have := Int.lt_tmod_of_pos n hd
        omega
      have : (n.tmod d + d) % d = n % d := by
        rw [Int.add_emod_right]
        conv => rhs; rw [← e]
        simp
      rw [← this, Int.emod_eq_of_lt (by omega) (by omega)]
  · rw [Int.tmod_eq_emod_of_nonneg h, if_neg]
    have := Int.emod_nonneg n (show d ≠ 0 by omega)
    omega

set_option maxRecDepth 100000 in
set_option maxHeartbeats 400000 in
theorem within_any (w : World) (n lo hi : Int) (h : lo ≤ hi) (hlo : -1125899906842624 ≤ lo) (hhi : hi ≤ 1125899906842624) (hn : -9223372036854775808 ≤ n ∧ n ≤ 9223372036854775807) :
    Calls Try.prog 22 #[.int .i64 n, .int .i64 lo, .int .i64 hi] w fun e w' => e = .returned (.int .i64 (within n lo hi)) ∧ w = w' := by
  by_cases h1 : lo ≤ n ∧ n ≤ hi
  · have e : within n lo hi = n := by unfold within; rw [if_pos h1]
    have E := Lib.hid e; clear e
    obtain ⟨h1, h2⟩ := h1
    go_enter Try.func22, Try.ntmps22
    go_wp2
    go_ret
    exact ⟨by rw [E.out]; rfl, rfl⟩
  · have hm := tmod_emod n (hi - lo + 1) (by omega)
    have hb1 := Int.tmod_lt_of_pos n (show 0 < hi - lo + 1 by omega)
    have hb2 := Int.lt_tmod_of_pos n (show 0 < hi - lo + 1 by omega)
    obtain ⟨r, hr⟩ : ∃ r, n.tmod (hi - lo + 1) = r := ⟨_, rfl⟩
    rw [hr] at hm hb1 hb2
    have e : within n lo hi = lo + (if r < 0 then r + (hi - lo + 1) else r) := by unfold within; rw [if_neg h1, hm]
    have E := Lib.hid e; clear e hm
    by_cases hlt : r < 0
    all_goals
      by_cases h3 : lo ≤ n
      · have h4 : hi < n := by omega
        clear h1
        go_enter Try.func22, Try.ntmps22
        go_wp2
        go_ret
        refine ⟨ret_int ?_, rfl⟩
        rw [E.out]
        first | (rw [if_pos hlt]; omega) | (rw [if_neg (by omega)])
      · clear h1
        go_enter Try.func22, Try.ntmps22
        go_wp2
        go_ret
        refine ⟨ret_int ?_, rfl⟩
        rw [E.out]
        first | (rw [if_pos hlt]; omega) | (rw [if_neg (by omega)])
theorem IntsK.take {k : IntKind} {w : World} {a : Option Addr} {len : Nat} {zs : List Int} (h : IntsK k w a len zs) (n : Nat) (hn : n ≤ len) : IntsK k w a n (zs.take n) := by
  refine ⟨by rw [List.length_take, h.1]; omega, fun x hx => h.2.1 x (List.mem_of_mem_take hx), ?_⟩
  rcases h.2.2 with h0 | ⟨b, off, rfl, hbl, hc⟩
  · exact .inl (by omega)
  · refine .inr ⟨b, off, rfl, hbl, fun i hi => ?_⟩
    rw [hc i (by omega)]
    simp [List.getD_eq_getElem?_getD, hi]
set_option maxRecDepth 100000 in
theorem cut_any (w : World) (a : Option Addr) (len cap : Nat) (n : Nat) (hl : len ≤ cap) (hc : cap ≤ 9223372036854775807) :
    Calls Try.prog 9 #[.slice a len cap, .int .i64 n] w fun e w' => e = .returned (.slice a (min len n) cap) ∧ w = w' := by
  by_cases h : n < len
  · have e : min len n = n := by omega
    have E := Lib.hid e; clear e
    go_enter Try.func9, Try.ntmps9
    go_wp2
    go_ret
    exact ⟨by rw [E.out]; rfl, rfl⟩
  · have e : min len n = len := by omega
    have E := Lib.hid e; clear e
    go_enter Try.func9, Try.ntmps9
    go_wp2
    go_ret
    exact ⟨by rw [E.out]; rfl, rfl⟩
set_option maxRecDepth 100000 in
theorem infoU8 : (Try.prog.info? 5).map (fun i => (i.zero, i.size, i.bytes)) = some (some (.int .u8 0), 1, 1) := by kernel_rfl
set_option maxRecDepth 100000 in
theorem infoU8s : (Try.prog.info? 5).map (·.size) = some 1 := by kernel_rfl
theorem own_full {w : World} {base e g n : Nat} {xs : List Value} (h : w.ownsRow base e 1 (.slice (some ⟨g, 0, none⟩) n n) n xs) : w.heap[g]? = some (.cells xs.toArray e (0, 0)) := by
  rcases h.2 with ⟨h1, _⟩ | ⟨g', cap, cur, hv, hg, hh, hn, hc, hcs, ht⟩
  · cases h1
  · injection hv with h1 h2 h3
    injection h1 with h1
    injection h1 with h1
    subst h1; subst h3
    rw [hh, ← ht]
    rw [List.take_of_length_le (by simp; omega)]
set_option maxHeartbeats 1000000 in
set_option maxRecDepth 100000 in
theorem roomy_any (w : World) (a : Option Addr) (len cap : Nat) (bs : List Int) (m : Int) (hlen : len ≤ 1000000) (hb : IntsK .u8 w a len bs) :
    Calls Try.prog 20 #[.slice a len cap, .int .u8 m] w fun e w' => e = .returned (.slice (some ⟨w.heap.size, 0, none⟩) (len + 80) (len + 80)) ∧
      w'.heap[w.heap.size]? = some (.cells ((bs ++ List.replicate 80 m).map (Value.int .u8)).toArray 5 (0, 0)) ∧ Below w.heap.size w w' := by
  have HB := Lib.hid hb; clear hb
  obtain ⟨i0, hi, hz0, hz1, hz2⟩ := info_parts infoU8
  have hz2' : i0.bytes * (len + 80) ≤ 281474976710656 := by rw [hz2]; omega
  have HI := Lib.hid hi; have HZ0 := Lib.hid hz0; have HZ1 := Lib.hid hz1; have HZ2 := Lib.hid hz2'
  clear hi hz0 hz1 hz2 hz2'
  go_enter Try.func20, Try.ntmps20
  go_wp2_with (first
    | (at_make; refine wpList_make_full _ rfl _ _ 23 rfl w.heap.size 5 i0 (.int .u8 0) 1 Try.underlying23 HI.out HZ0.out HZ1.out .i64 .i64 _ _ (len + 80) rfl rfl (by omega) (by omega) HZ2.out (by unfold maxLen; omega) (by exact Nat.le_refl _) ?_; intro w1 hown hgrow; have HO := Lib.hid hown; have HG := Lib.hid hgrow; clear hown hgrow)
    | (with_reducible refine wpList_copy_splice rfl _ _ 23 23 rfl 5 Try.underlying23 infoU8s _ _ _ _ _ _ rfl rfl w.heap.size 0 (List.replicate (len + 80) (Value.int .u8 0)) 5 ?hg (bs.map (Value.int .u8)) ?hn ?hpos ?hfit ?h1 w.heap.size w ?hb (Nat.le_refl _) ?_))
  case hg =>
    rw [own_full HO.out, show (Value.int .u8 0).cells = #[Value.int .u8 0] from rfl, toList_madeCells_one, Nat.mul_one]
  case hn => rw [List.length_map, HB.out.1]; simp
  case hpos =>
    intro h0
    obtain ⟨ad, rfl, hbl, hc⟩ := HB.out.src (by have := HB.out.1; omega)
    exact ⟨ad, rfl, fun j x hj => HG.out.cell (hc j _ (by rw [List.getElem?_map, hj]; rfl)) (by simp)⟩
  case hfit => have := HB.out.1; simp; omega
  case h1 => exact ints_one
  case hb => exact below_of_none HG.out
  intro w2 hrow hbel
  have hl := HB.out.1
  have e0 : splice (List.replicate (len + 80) (Value.int .u8 0)) 0 (bs.map (Value.int .u8)) = (bs ++ List.replicate 0 m).map (Value.int .u8) ++ List.replicate 80 (Value.int .u8 0) := by
    unfold splice; simp [hl]
  have HR : Hid (w2.heap[w.heap.size]? = some (.cells ((bs ++ List.replicate 0 m).map (Value.int .u8) ++ List.replicate 80 (Value.int .u8 0)).toArray 5 (0, 0))) := by
    rw [← e0]; exact hrow
  have HL := Lib.hid hbel
  have HLEN := Lib.hid hl
  clear hrow e0 hl hbel HO HG
  go_wp2_with fail
  go_loopw [6] (fun i wr => ∃ t : Nat, i = .int .i64 ((len + t : Nat) : Int) ∧ t ≤ 80 ∧ Hid (Below w.heap.size w wr) ∧
    Hid (wr.heap[w.heap.size]? = some (.cells ((bs ++ List.replicate t m).map (Value.int .u8) ++ List.replicate (80 - t) (Value.int .u8 0)).toArray 5 (0, 0)))) (fun i _ => len + 80 - (intOf i).toNat)
  case atStart => exact ⟨0, rfl, by omega, HL, HR⟩
  case round =>
    obtain ⟨t, rfl, ht, HL, HR⟩ := hrel
    by_cases hlt : t < 80
    · have hA : ((bs ++ List.replicate t m).map (Value.int .u8)).length = len + t := by simp [HLEN.out]
      have hc : wr.cell? ⟨w.heap.size, len + t, none⟩ = some (.int .u8 0) := by
        rw [cell_of_row _ _ _ _ _ _ HR.out]
        rw [List.getElem?_toArray, List.getElem?_append_right (by omega), hA, Nat.sub_self, List.getElem?_replicate, if_pos (by omega)]
      have hf : wr.frozen? ⟨w.heap.size, len + t, none⟩ = false := row_free HR.out _
      have HA := Lib.hid hA; clear hA
      go_wp2_with fail
      go_roundw
      case rel =>
        refine ⟨t + 1, by go_num, by omega, Lib.hid (HL.out.setCell (Nat.le_refl _) _), ?_⟩
        have h2 := heap_setCell_same wr w.heap.size (len + t) _ _ (.int .u8 m) HR.out
        rw [List.setIfInBounds_toArray, ← HA.out, show 80 - t = (80 - (t + 1)) + 1 from by omega, set_zero] at h2
        rw [HA.out] at h2
        refine Lib.hid (h2.trans ?_)
        simp [List.replicate_succ']
      case measure => simp [intOf]; omega
    · obtain rfl : t = 80 := by omega
      go_wp2_with fail
      go_ret
      exact ⟨rfl, by have := HR.out; simpa using this, HL.out⟩
set_option maxRecDepth 100000 in
set_option maxHeartbeats 400000 in
theorem same_byte (w : World) (a b : Option Addr) (len cap cap' : Nat) (bs : List Int) (hlen : len ≤ 9223372036854775807) (ha : IntsK .u8 w a len bs) (hb : IntsK .u8 w b len bs) :
    Quiet Try.prog 46 #[.slice a len cap, .slice b len cap'] w (.bool true) := by
  have HA := Lib.hid ha; have HB := Lib.hid hb; clear ha hb
  go_enter Try.func46, Try.ntmps46
  go_wp2_with fail
  go_loopw [5] (fun i wr => ∃ (j n : Nat), i = .int .i64 j ∧ j ≤ len ∧ Hid (wr = w.drewN n)) (fun i _ => len - (intOf i).toNat)
  case atStart => exact ⟨0, 0, rfl, by omega, Lib.hid rfl⟩
  case round =>
    obtain ⟨j, n, rfl, hj, hwr⟩ := hrel
    obtain rfl := hwr.out
    by_cases hlt : j < len
    · obtain ⟨b1, off1, x, rfl, hbl, hx, hwx, hc⟩ := HA.out.at (Below.refl _ _) hlt
      obtain ⟨b2, off2, y, rfl, hbl2, hy, hwy, hc2⟩ := HB.out.at (Below.refl _ _) hlt
      rw [← hx] at hy
      subst hy
      clear hx
      have hc3 : (w.drewN n).cell? ⟨b1, off1 + j, none⟩ = some (.int .u8 y) := hc
      have hc4 : (w.drewN n).cell? ⟨b2, off2 + j, none⟩ = some (.int .u8 y) := hc2
      go_wp2_with fail
      go_quiet (fail)
      go_wp2_with fail
      go_roundw
      case rel => exact ⟨j + 1, _, by go_num, by omega, Lib.hid (by first | rfl | rw [World.drewN_drewN])⟩
      case measure => simp [intOf]; omega
    · go_wp2_with fail
      go_ret
      exact ⟨rfl, n, rfl⟩
set_option maxRecDepth 100000 in
set_option maxHeartbeats 400000 in
theorem intact_byte (w : World) (a b : Option Addr) (len cap cap' : Nat) (bs : List Int) (m : Int) (hlen : len ≤ 1000000) (hcap : len + 80 ≤ cap) (hc : cap ≤ 9223372036854775807)
    (ha : IntsK .u8 w a (len + 80) (bs ++ List.replicate 80 m)) (hb : IntsK .u8 w b len bs) :
    Quiet Try.prog 21 #[.slice a (len + 80) cap, .slice b len cap', .int .u8 m] w (.bool true) := by
  have ha2 : IntsK .u8 w a len bs := by
    have h := ha.take len (by omega)
    rwa [List.take_append_of_le_length (by rw [hb.1]; exact Nat.le_refl _), List.take_of_length_le (by rw [hb.1]; exact Nat.le_refl _)] at h
  have HS := Lib.hid (fun n => same_byte (w.drewN n) a b len cap cap' bs (by omega) ha2 hb)
  have hm : ∀ j, j < 80 → (bs ++ List.replicate 80 m).getD (len + j) 0 = m := by
    intro j hj
    rw [List.getD_eq_getElem?_getD, List.getElem?_append_right (by rw [hb.1]; omega), hb.1, List.getElem?_replicate, if_pos (by omega)]; rfl
  have HM := Lib.hid hm
  have HA := Lib.hid ha; clear ha ha2 hb hm
  go_enter Try.func21, Try.ntmps21
  go_wp2_with fail
  refine Calls.mono (HS.out 0) ?_
  rintro e w' ⟨rfl, n0, rfl⟩
  go_wp2_with fail
  go_loopw [7] (fun i wr => ∃ (j n : Nat), i = .int .i64 ((len + j : Nat) : Int) ∧ j ≤ 80 ∧ Hid (wr = w.drewN n)) (fun i _ => len + 80 - (intOf i).toNat)
  case atStart => exact ⟨0, _, rfl, by omega, Lib.hid (by first | rfl | rw [World.drewN_drewN])⟩
  case round =>
    obtain ⟨j, n, rfl, hj, hwr⟩ := hrel
    obtain rfl := hwr.out
    by_cases hlt : j < 80
    · obtain ⟨b1, off1, x, rfl, hbl, hx, hwx, hc⟩ := HA.out.at (Below.refl _ _) (j := len + j) (by omega)
      rw [HM.out j hlt] at hx
      subst hx
      have hc3 : (w.drewN n).cell? ⟨b1, off1 + (len + j), none⟩ = some (.int .u8 x) := hc
      go_wp2_with fail
      go_roundw
      case rel => exact ⟨j + 1, _, by go_num, by omega, Lib.hid rfl⟩
      case measure => simp [intOf]; omega
    · obtain rfl : j = 80 := by omega
      go_wp2_with fail
      go_ret
      exact ⟨rfl, n, rfl⟩
end Go.Proofs.Ythofbckkjcidmaa
