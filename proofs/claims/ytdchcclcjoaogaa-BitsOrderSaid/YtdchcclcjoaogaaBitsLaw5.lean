/- chapter 1's walks: BitsOrder -/
import Derived.Test.YtdchcclcjoaogaaBitsLaw3
import Derived.Lib.Bytes
namespace Go.Proofs.Ytdchcclcjoaogaa
open Go.RowKit
set_option linter.unusedVariables false

def numsLess : List Int → List Int → Bool
  | _, [] => false
  | [], _ :: _ => true
  | a :: x, b :: y => decide (a < b) || (decide (a = b) && numsLess x y)
theorem less_map : ∀ (l m : List Int), (∀ x ∈ l, 0 ≤ x ∧ x ≤ 255) → (∀ x ∈ m, 0 ≤ x ∧ x ≤ 255) → Op.bytesLess (l.map fun n => UInt8.ofNat n.toNat) (m.map fun n => UInt8.ofNat n.toNat) = numsLess l m
  | l, [], _, _ => by cases l <;> rfl
  | [], _ :: _, _, _ => rfl
  | a :: l, b :: m, hl, hm => by
    have ha := hl a (by simp)
    have hb := hm b (by simp)
    have ih := less_map l m (fun x hx => hl x (by simp [hx])) (fun x hx => hm x (by simp [hx]))
    simp only [List.map_cons, Op.bytesLess, numsLess, ih]
    have e1 : (UInt8.ofNat a.toNat < UInt8.ofNat b.toNat) ↔ a < b := by
      rw [UInt8.lt_iff_toNat_lt, UInt8.toNat_ofNat', UInt8.toNat_ofNat', Nat.mod_eq_of_lt (by omega), Nat.mod_eq_of_lt (by omega)]; omega
    have e2 : (UInt8.ofNat a.toNat == UInt8.ofNat b.toNat) = decide (a = b) := by
      rw [Bool.eq_iff_iff]
      simp only [beq_iff_eq, decide_eq_true_eq]
      rw [← UInt8.toNat_inj, UInt8.toNat_ofNat', UInt8.toNat_ofNat', Nat.mod_eq_of_lt (by omega), Nat.mod_eq_of_lt (by omega)]; omega
    rw [e2, decide_eq_decide.2 e1]
theorem less_nums (l m : List Int) (hl : ∀ x ∈ l, 0 ≤ x ∧ x ≤ 255) (hm : ∀ x ∈ m, 0 ≤ x ∧ x ≤ 255) : Op.bytesLess (strOfNums l).toList (strOfNums m).toList = numsLess l m := by
  rw [← less_map l m hl hm, Lib.strOfNums_toList, Lib.strOfNums_toList]
  rfl
theorem lss_nums (w : World) (l m : List Int) (hl : ∀ x ∈ l, 0 ≤ x ∧ x ≤ 255) (hm : ∀ x ∈ m, 0 ≤ x ∧ x ≤ 255) :
    (binOp .lss 9 (.string (strOfNums l)) (.string (strOfNums m))).run Try.prog w = .ok (.bool (numsLess l m)) w := by
  simp [binOp, Op.stringOp]
  rw [← less_map l m hl hm, Lib.strOfNums_toList, Lib.strOfNums_toList]
  rfl
/-- of one length: the order of the numbers -/
theorem less_val : ∀ (l m : List Int), l.length = m.length → (∀ x ∈ l, 0 ≤ x ∧ x ≤ 255) → (∀ x ∈ m, 0 ≤ x ∧ x ≤ 255) → numsLess l m = decide (valM 0 l < valM 0 m)
  | [], [], _, _, _ => by simp [numsLess, valM]
  | a :: l, b :: m, h, hl, hm => by
    simp only [List.length_cons, Nat.add_right_cancel_iff] at h
    have ih := less_val l m h (fun x hx => hl x (by simp [hx])) (fun x hx => hm x (by simp [hx]))
    have i1 := valM_in 0 (by omega) l (fun x hx => hl x (by simp [hx]))
    have i2 := valM_in 0 (by omega) m (fun x hx => hm x (by simp [hx]))
    simp only [numsLess, ih]
    rw [valM_cons, valM_cons, valM_shift (0 * 256 + a), valM_shift (0 * 256 + b), h]
    rw [h] at i1
    obtain ⟨P, eP⟩ : ∃ P : Int, 256 ^ m.length = P := ⟨_, rfl⟩
    rw [eP] at i1 i2 ⊢
    simp only [Int.zero_mul, Int.zero_add, Int.one_mul] at i1 i2 ⊢
    rw [Bool.eq_iff_iff]
    simp only [Bool.or_eq_true, Bool.and_eq_true, decide_eq_true_eq]
    rcases Int.lt_trichotomy a b with hab | hab | hab
    · have h3 : (a + 1) * P ≤ b * P := Int.mul_le_mul_of_nonneg_right (by omega) (by omega)
      rw [Int.add_mul] at h3
      constructor
      · intro _; omega
      · intro _; left; exact hab
    · subst hab
      constructor
      · rintro (h | ⟨_, h⟩) <;> omega
      · intro h; right; exact ⟨rfl, by omega⟩
    · have h3 : (b + 1) * P ≤ a * P := Int.mul_le_mul_of_nonneg_right (by omega) (by omega)
      rw [Int.add_mul] at h3
      constructor
      · rintro (h | ⟨h, _⟩) <;> omega
      · intro h; omega
theorem put_bytes {x : Int} (h : 0 ≤ x) : ∀ y ∈ putM x, 0 ≤ y ∧ y ≤ 255 := fun y hy => bounds_u8 (putM_wf x h y hy)
theorem put_val {x : Int} (h : 0 ≤ x ∧ x ≤ 4611686018427387903) : valM 0 (putM x) = x + (if sizeM x = 1 then 0 else if sizeM x = 2 then 16384 else if sizeM x = 4 then 2147483648 else 13835058055282163712) := by
  rcases sizeM_cases x with ⟨h1, e⟩ | ⟨h0, h1, e⟩ | ⟨h0, h1, e⟩ | ⟨h0, h1, e⟩ | ⟨h0, e⟩
  · simp only [putM, e, valM, List.foldl, reduceIte]; omega
  · simp only [putM, e, valM, List.foldl, reduceIte]; simp; omega
  · simp only [putM, e, valM, List.foldl, reduceIte]; simp; omega
  · simp only [putM, e, valM, List.foldl]; simp; omega
  · omega
theorem put_less {x y : Int} (hx : 0 ≤ x ∧ x ≤ 4611686018427387903) (hy : 0 ≤ y ∧ y ≤ 4611686018427387903) : numsLess (putM x) (putM y) = decide (x < y) := by
  by_cases hs : sizeM x = sizeM y
  · rw [less_val _ _ (by rw [putM_len, putM_len, hs]) (put_bytes hx.1) (put_bytes hy.1), put_val hx, put_val hy, hs]
    rw [decide_eq_decide]; omega
  · obtain ⟨a, l, e1, s1, l1, _⟩ := put_head hx
    obtain ⟨b, m, e2, s2, l2, _⟩ := put_head hy
    have ha := put_bytes hx.1 a (by rw [e1]; simp)
    have hb := put_bytes hy.1 b (by rw [e2]; simp)
    have ca := szM_cases ha
    have cb := szM_cases hb
    have cx := sizeM_cases x
    have cy := sizeM_cases y
    rw [e1, e2]
    simp only [numsLess]
    rw [Bool.eq_iff_iff]
    simp only [Bool.or_eq_true, Bool.and_eq_true, decide_eq_true_eq]
    constructor
    · rintro (h | ⟨h, _⟩)
      · omega
      · exfalso; apply hs; rw [← s1, ← s2, h]
    · intro h; left; omega
theorem size_mono {x y : Int} (h : x ≤ y) (hy : y ≤ 4611686018427387903) : sizeM x ≤ sizeM y := by
  have cx := sizeM_cases x
  have cy := sizeM_cases y
  omega

set_option maxHeartbeats 2000000 in
theorem order1_any (w : World) (a b : Int) (ha : 0 ≤ a ∧ a < 18446744073709551616) (hb : 0 ≤ b ∧ b < 18446744073709551616) :
    Makes Try.prog 4 #[.int .u64 a, .int .u64 b] w (.bool true) := by
  have hx := smallM_in a
  have hy := smallM_in b
  have HSA := Lib.hid (fun w => small_any w a ha)
  have HSB := Lib.hid (fun w => small_any w b hb)
  obtain ⟨x, ex⟩ : ∃ x, smallM a = x := ⟨_, rfl⟩
  obtain ⟨y, ey⟩ : ∃ y, smallM b = y := ⟨_, rfl⟩
  rw [ex] at hx HSA
  rw [ey] at hy HSB
  clear ex ey
  have hs1 : 1 ≤ sizeM x ∧ sizeM x ≤ 8 := by have := sizeM_cases x; omega
  have hs2 : 1 ≤ sizeM y ∧ sizeM y ≤ 8 := by have := sizeM_cases y; omega
  have hless := put_less hx hy
  have hbx := put_bytes hx.1
  have hby := put_bytes hy.1
  have HLSS := Lib.hid (less_nums _ _ hbx hby)
  rw [hless] at HLSS
  have hmono : x ≤ y → sizeM x ≤ sizeM y := fun h => size_mono h hy.2
  have hgp := get_put hx (putM y)
  have hgp2 := get_put hy []
  rw [List.append_nil] at hgp2
  have hwx := putM_wf x hx.1
  have hwy := putM_wf y hy.1
  have hlx := putM_len x
  have hly := putM_len y
  have HPX := Lib.hid (fun w => put_any w none 0 0 [] x ⟨hx.1, by omega⟩ (by omega) (IntsK.nil _ _ _))
  have HPY := Lib.hid (fun w => put_any w none 0 0 [] y ⟨hy.1, by omega⟩ (by omega) (IntsK.nil _ _ _))
  have HP2 : Hid (∀ (w : World) (a : Option Addr) (cap : Nat), IntsK .u8 w a (sizeM x) (putM x) → _) := Lib.hid (fun w a cap h => put_any w a (sizeM x) cap (putM x) y ⟨hy.1, by omega⟩ (by omega) h)
  obtain ⟨s, es⟩ : ∃ s, sizeM x = s := ⟨_, rfl⟩
  obtain ⟨r, er⟩ : ∃ r, sizeM y = r := ⟨_, rfl⟩
  obtain ⟨l, el⟩ : ∃ l, putM x = l := ⟨_, rfl⟩
  obtain ⟨m, em⟩ : ∃ m, putM y = m := ⟨_, rfl⟩
  rw [es] at hs1 hmono hgp hlx HPX HP2
  rw [er] at hs2 hmono hgp2 hly HPY HP2
  rw [el] at HLSS hgp hwx hlx HPX HP2
  rw [em] at HLSS hgp hgp2 hwy hly HPY HP2
  have HGP := Lib.hid hgp; have HGP2 := Lib.hid hgp2; have HWX := Lib.hid hwx; have HWY := Lib.hid hwy
  clear hgp hgp2 hwx hwy es er el em hless hbx hby
  go_enter Try.func4, Try.ntmps4
  go_wp2_with fail
  refine Calls.mono (HSA.out _) ?_
  rintro e w1 ⟨rfl, h1⟩
  have H1 := Lib.hid h1; clear h1
  go_wp2_with fail
  refine Calls.mono (HSB.out _) ?_
  rintro e w2 ⟨rfl, h2⟩
  have H2 := Lib.hid (bl_next H1.out H1.out.size h2); clear h2
  go_wp2_with fail
  refine Calls.mono (HPX.out _) ?_
  rintro e w3 ⟨v, rfl, h3, ho⟩
  rw [show decide (s ≠ 0) = true from by simp; omega]
  rw [List.nil_append, Nat.zero_add] at ho
  obtain ⟨a1, cap1, rfl, hc1, hi1, _⟩ := ints_of_own ho HWX.out
  have HI1 := Lib.hid hi1; have H3 := Lib.hid (bl_next H2.out H2.out.size h3); clear hi1 h3 ho
  go_wp2_with fail
  refine Calls.mono (HPY.out _) ?_
  rintro e w4 ⟨v, rfl, h4, ho⟩
  rw [show decide (r ≠ 0) = true from by simp; omega]
  rw [List.nil_append, Nat.zero_add] at ho
  obtain ⟨a2, cap2, rfl, hc2, hi2, _⟩ := ints_of_own ho HWY.out
  have hconv1 : (convert 31 9 (.slice a1 s cap1)).run Try.prog w4 = .ok (.string (strOfNums l)) w4 := conv_ints _ 5 _ _ Try.underlying31 Try.underlying5 Try.underlying9 (HI1.out.below h4)
  have hconv2 : (convert 31 9 (.slice a2 r cap2)).run Try.prog w4 = .ok (.string (strOfNums m)) w4 := conv_ints _ 5 _ _ Try.underlying31 Try.underlying5 Try.underlying9 hi2
  have HI1b := Lib.hid (HI1.out.below h4)
  have H4 := Lib.hid (bl_next H3.out H3.out.size h4); clear hi2 h4 ho
  by_cases hxy : x < y
  · have hbl : Op.bytesLess (strOfNums l).toList (strOfNums m).toList = true := by rw [HLSS.out]; simpa using hxy
    go_upto_region 6 with fail
    clear hbl hconv1 hconv2
    go_wp2_with fail
    refine Calls.mono (HP2.out _ _ _ HI1b.out) ?_
    rintro e w5 ⟨v, rfl, h5, ho⟩
    rw [show decide (r ≠ 0) = true from by simp; omega]
    have hwl : ∀ z ∈ l ++ m, (Lit.int .u8 z).wf = true := fun z hz => (List.mem_append.1 hz).elim (HWX.out z) (HWY.out z)
    obtain ⟨a3, cap3, rfl, hc3, hi3, _⟩ := ints_of_own ho hwl
    have HI3 := Lib.hid hi3
    have H5 := Lib.hid (bl_next H4.out H4.out.size h5); clear hi3 h5 ho hwl
    go_wp2_with fail
    refine Calls.mono (get_any _ a3 (s + r) cap3 _ (by omega) (by omega) HI3.out) ?_
    rintro e w6 ⟨rfl, rfl⟩
    rw [HGP.out.1, HGP.out.2]
    rcases HI3.out.2.2 with h0 | ⟨ba, off, rfl, hbl3, _⟩
    · omega
    have hsuf := HI3.out.suf s (by omega)
    rw [show s + r - s = r by omega, List.drop_append_of_le_length (by omega), List.drop_of_length_le (by omega), List.nil_append] at hsuf
    have HSUF := Lib.hid hsuf; clear hsuf
    go_wp2_with fail
    refine Calls.mono (get_any _ _ r _ _ (by omega) (by omega) HSUF.out) ?_
    rintro e w7 ⟨rfl, rfl⟩
    rw [HGP2.out.1, HGP2.out.2]
    go_wp2_with fail
    refine Calls.mono (known1_any _) ?_
    rintro e w8 ⟨rfl, h8⟩
    have H8 := Lib.hid (bl_next H5.out H5.out.size h8); clear h8
    go_wp2_with fail
    go_ret
    exact ⟨rfl, H8.out⟩
  · have hbl : Op.bytesLess (strOfNums l).toList (strOfNums m).toList = false := by rw [HLSS.out]; simpa using hxy
    by_cases hxy2 : x ≤ y
    · have hsr := hmono hxy2
      go_upto_region 6 with fail
      clear hbl hconv1 hconv2
      go_wp2_with fail
      refine Calls.mono (HP2.out _ _ _ HI1b.out) ?_
      rintro e w5 ⟨v, rfl, h5, ho⟩
      rw [show decide (r ≠ 0) = true from by simp; omega]
      have hwl : ∀ z ∈ l ++ m, (Lit.int .u8 z).wf = true := fun z hz => (List.mem_append.1 hz).elim (HWX.out z) (HWY.out z)
      obtain ⟨a3, cap3, rfl, hc3, hi3, _⟩ := ints_of_own ho hwl
      have HI3 := Lib.hid hi3
      have H5 := Lib.hid (bl_next H4.out H4.out.size h5); clear hi3 h5 ho hwl
      go_wp2_with fail
      refine Calls.mono (get_any _ a3 (s + r) cap3 _ (by omega) (by omega) HI3.out) ?_
      rintro e w6 ⟨rfl, rfl⟩
      rw [HGP.out.1, HGP.out.2]
      rcases HI3.out.2.2 with h0 | ⟨ba, off, rfl, hbl3, _⟩
      · omega
      have hsuf := HI3.out.suf s (by omega)
      rw [show s + r - s = r by omega, List.drop_append_of_le_length (by omega), List.drop_of_length_le (by omega), List.nil_append] at hsuf
      have HSUF := Lib.hid hsuf; clear hsuf
      go_wp2_with fail
      refine Calls.mono (get_any _ _ r _ _ (by omega) (by omega) HSUF.out) ?_
      rintro e w7 ⟨rfl, rfl⟩
      rw [HGP2.out.1, HGP2.out.2]
      go_wp2_with fail
      refine Calls.mono (known1_any _) ?_
      rintro e w8 ⟨rfl, h8⟩
      have H8 := Lib.hid (bl_next H5.out H5.out.size h8); clear h8
      go_wp2_with fail
      go_ret
      exact ⟨rfl, H8.out⟩
    · skip
      go_upto_region 6 with fail
      clear hbl hconv1 hconv2
      go_wp2_with fail
      refine Calls.mono (HP2.out _ _ _ HI1b.out) ?_
      rintro e w5 ⟨v, rfl, h5, ho⟩
      rw [show decide (r ≠ 0) = true from by simp; omega]
      have hwl : ∀ z ∈ l ++ m, (Lit.int .u8 z).wf = true := fun z hz => (List.mem_append.1 hz).elim (HWX.out z) (HWY.out z)
      obtain ⟨a3, cap3, rfl, hc3, hi3, _⟩ := ints_of_own ho hwl
      have HI3 := Lib.hid hi3
      have H5 := Lib.hid (bl_next H4.out H4.out.size h5); clear hi3 h5 ho hwl
      go_wp2_with fail
      refine Calls.mono (get_any _ a3 (s + r) cap3 _ (by omega) (by omega) HI3.out) ?_
      rintro e w6 ⟨rfl, rfl⟩
      rw [HGP.out.1, HGP.out.2]
      rcases HI3.out.2.2 with h0 | ⟨ba, off, rfl, hbl3, _⟩
      · omega
      have hsuf := HI3.out.suf s (by omega)
      rw [show s + r - s = r by omega, List.drop_append_of_le_length (by omega), List.drop_of_length_le (by omega), List.nil_append] at hsuf
      have HSUF := Lib.hid hsuf; clear hsuf
      go_wp2_with fail
      refine Calls.mono (get_any _ _ r _ _ (by omega) (by omega) HSUF.out) ?_
      rintro e w7 ⟨rfl, rfl⟩
      rw [HGP2.out.1, HGP2.out.2]
      go_wp2_with fail
      refine Calls.mono (known1_any _) ?_
      rintro e w8 ⟨rfl, h8⟩
      have H8 := Lib.hid (bl_next H5.out H5.out.size h8); clear h8
      go_wp2_with fail
      go_ret
      exact ⟨rfl, H8.out⟩
end Go.Proofs.Ytdchcclcjoaogaa
