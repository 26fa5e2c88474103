/- chapter 1's walks: BitsBack -/
import Derived.Test.YtdchcclcjoaogaaBitsLaw2
namespace Go.Proofs.Ytdchcclcjoaogaa
open Go.RowKit
set_option linter.unusedVariables false

theorem or_add (x y : Int) (i : Nat) (hx : x % 2 ^ i = 0) (h0 : 0 ≤ x) (h1 : x < 18446744073709551616) (h2 : 0 ≤ y) (h3 : y < 2 ^ i) (h4 : y < 18446744073709551616) : bits .or .u64 x y = x + y := by
  rw [u64_or _ _ h0 h1 h2 h4]
  have e : ((2 ^ i : Nat) : Int) = (2 : Int) ^ i := by simp
  rw [nat_join i x.toNat y.toNat (by
    have h6 : ((x.toNat : Int)) % ((2 ^ i : Nat) : Int) = 0 := by rw [Int.toNat_of_nonneg h0, e]; exact hx
    exact_mod_cast h6) (by
    have h7 : ((y.toNat : Int)) < ((2 ^ i : Nat) : Int) := by rw [Int.toNat_of_nonneg h2, e]; exact h3
    exact_mod_cast h7)]
  omega
/-- one turn, in numbers -/
theorem rot_num (n : Int) (j : Nat) (hj : j < 64) (hn : 0 ≤ n ∧ n < 18446744073709551616) : rotM n j = 2 ^ j * (n % 2 ^ (64 - j)) + n / 2 ^ (64 - j) := by
  have hP := pow_pos2 j
  have hQ := pow_pos2 (64 - j)
  have hPQ := pow_split j (64 - j) (by omega)
  unfold rotM
  rw [show ((j : Int) % 64).toNat = j by omega, show (64 - (j : Int) % 64).toNat = 64 - j by omega, wrap_u64, ← hPQ, Int.mul_comm n, Int.mul_emod_mul_of_pos _ _ hP]
  have y0 := Int.emod_nonneg n (show (2 : Int) ^ (64 - j) ≠ 0 by omega)
  have y1 := Int.emod_lt_of_pos n hQ
  have a0 : 0 ≤ n / 2 ^ (64 - j) := Int.ediv_nonneg hn.1 (by omega)
  have a1 : n / 2 ^ (64 - j) < 2 ^ j := Int.ediv_lt_of_lt_mul hQ (by rw [hPQ]; exact hn.2)
  obtain ⟨P, eP⟩ : ∃ P : Int, 2 ^ j = P := ⟨_, rfl⟩
  obtain ⟨Q, eQ⟩ : ∃ Q : Int, 2 ^ (64 - j) = Q := ⟨_, rfl⟩
  obtain ⟨y, ey⟩ : ∃ y, n % 2 ^ (64 - j) = y := ⟨_, rfl⟩
  obtain ⟨a, ea⟩ : ∃ a, n / 2 ^ (64 - j) = a := ⟨_, rfl⟩
  rw [ey] at y0 y1 ⊢; rw [ea] at a0 a1 ⊢
  have h4 : 2 ^ j * (y + 1) ≤ (2 : Int) ^ j * 2 ^ (64 - j) := Int.mul_le_mul_of_nonneg_left (by omega) (by omega)
  have h5 : 0 ≤ 2 ^ j * y := Int.mul_nonneg (by omega) y0
  rw [hPQ, Int.mul_add] at h4
  have hP64 : (2 : Int) ^ j ≤ 2 ^ 63 := pow_le_of (by omega)
  rw [show (2 : Int) ^ 63 = 9223372036854775808 from by decide] at hP64
  exact or_add _ _ j (Int.mul_emod_right _ _) h5 (by omega) a0 a1 (by omega)
theorem rot_in (n k : Int) : 0 ≤ rotM n k ∧ rotM n k < 18446744073709551616 := u64_bounds (wf_rot n k)
theorem rot_back (n : Int) (j : Int) (hj : 0 ≤ j ∧ j ≤ 63) (hn : 0 ≤ n ∧ n < 18446744073709551616) : rotM (rotM n j) (-j) = n := by
  obtain ⟨i, rfl⟩ : ∃ i : Nat, j = i := ⟨j.toNat, by omega⟩
  have hr := rot_in n i
  have h1 := rot_num n i (by omega) hn
  by_cases h0 : i = 0
  · subst h0
    have h2 := rot_num (rotM n ((0 : Nat) : Int)) 0 (by omega) hr
    have e : rotM (rotM n ((0 : Nat) : Int)) (-((0 : Nat) : Int)) = rotM (rotM n ((0 : Nat) : Int)) ((0 : Nat) : Int) := rfl
    rw [e, h2, h1]
    simp only [Nat.sub_zero, Int.pow_zero, show (2 : Int) ^ 64 = 18446744073709551616 from by decide]
    omega
  · have e : rotM (rotM n i) (-(i : Int)) = rotM (rotM n i) ((64 - i : Nat) : Int) := by
      unfold rotM
      rw [show (-(i : Int)) % 64 = ((64 - i : Nat) : Int) % 64 by omega]
    have h2 := rot_num (rotM n i) (64 - i) (by omega) hr
    rw [e, h2, h1, show 64 - (64 - i) = i by omega]
    have hP := pow_pos2 i
    have hQ := pow_pos2 (64 - i)
    have hPQ := pow_split i (64 - i) (by omega)
    have a0 : 0 ≤ n / 2 ^ (64 - i) := Int.ediv_nonneg hn.1 (by omega)
    have a1 : n / 2 ^ (64 - i) < 2 ^ i := Int.ediv_lt_of_lt_mul hQ (by rw [hPQ]; exact hn.2)
    rw [Int.add_comm (2 ^ i * _), Int.add_mul_emod_self_left, Int.add_mul_ediv_left _ _ (by omega), Int.emod_eq_of_lt a0 a1, Int.ediv_eq_zero_of_lt a0 a1, Int.zero_add]
    exact Int.mul_ediv_add_emod n _

theorem zag_zig (m : Int) : zagM (zigM m) = m := by unfold zagM zigM; (repeat' split) <;> omega
theorem zig_zag (n : Int) (h : 0 ≤ n) : zigM (zagM n) = n := by unfold zagM zigM; (repeat' split) <;> omega
theorem zig_in (m : Int) (h : -9223372036854775808 ≤ m ∧ m ≤ 9223372036854775807) : 0 ≤ zigM m ∧ zigM m < 18446744073709551616 := by unfold zigM; split <;> omega
theorem zag_in (n : Int) (h : 0 ≤ n ∧ n < 18446744073709551616) : -9223372036854775808 ≤ zagM n ∧ zagM n ≤ 9223372036854775807 := by unfold zagM; split <;> omega

theorem put_head {x : Int} (h : 0 ≤ x ∧ x ≤ 4611686018427387903) : ∃ b t, putM x = b :: t ∧ szM b = sizeM x ∧ t.length + 1 = sizeM x ∧ valM (b % 64) t = x := by
  rcases sizeM_cases x with ⟨h1, e⟩ | ⟨h0, h1, e⟩ | ⟨h0, h1, e⟩ | ⟨h0, h1, e⟩ | ⟨h0, e⟩
  · refine ⟨_, _, by simp only [putM, e]; rfl, ?_, by rw [e]; rfl, ?_⟩
    · rw [e]; unfold szM; (repeat' split) <;> omega
    · simp only [valM, List.foldl]; omega
  · refine ⟨_, _, by simp only [putM, e]; rfl, ?_, by rw [e]; rfl, ?_⟩
    · rw [e]; unfold szM; (repeat' split) <;> omega
    · simp only [valM, List.foldl]; omega
  · refine ⟨_, _, by simp only [putM, e]; rfl, ?_, by rw [e]; rfl, ?_⟩
    · rw [e]; unfold szM; (repeat' split) <;> omega
    · simp only [valM, List.foldl]; omega
  · refine ⟨_, _, by simp only [putM, e]; rfl, ?_, by rw [e]; rfl, ?_⟩
    · rw [e]; unfold szM; (repeat' split) <;> omega
    · simp only [valM, List.foldl]; omega
  · omega
theorem get_put {x : Int} (h : 0 ≤ x ∧ x ≤ 4611686018427387903) (more : List Int) : getN (putM x ++ more) = x ∧ getS (putM x ++ more) = sizeM x := by
  obtain ⟨b, t, e, hs, hl, hv⟩ := put_head h
  rw [e, List.cons_append]
  have hlen : ¬ (b :: (t ++ more)).length < szM b := by simp only [List.length_cons, List.length_append]; omega
  unfold getN getS
  simp only [if_neg hlen]
  refine ⟨?_, hs⟩
  rw [hs, ← hl, Nat.add_sub_cancel, List.take_append_of_le_length (Nat.le_refl _), List.take_of_length_le (Nat.le_refl _), hv]
theorem get_cut {x : Int} (h : 0 ≤ x ∧ x ≤ 4611686018427387903) {j : Nat} (hj : j < sizeM x) : getS ((putM x).take j) = 0 := by
  obtain ⟨b, t, e, hs, hl, hv⟩ := put_head h
  rw [e]
  cases j with
  | zero => rfl
  | succ j =>
    rw [List.take_succ_cons]
    show (if (b :: List.take j t).length < szM b then 0 else szM b) = 0
    rw [if_pos]
    simp only [List.length_cons, List.length_take]
    omega

set_option maxHeartbeats 1000000 in
theorem back1_any (w : World) (n k cut : Int) (a : Option Addr) (len cap : Nat) (bs : List Int) (hlen : len ≤ cap) (hcap : cap ≤ 9223372036854775807) (hn : 0 ≤ n ∧ n < 18446744073709551616) (hk : -9223372036854775808 ≤ k ∧ k ≤ 9223372036854775807)
    (hcut : -9223372036854775808 ≤ cut ∧ cut ≤ 9223372036854775807) (hb : IntsK .u8 w a len bs) :
    Makes Try.prog 7 #[.int .u64 n, .int .i64 k, .slice a len cap, .int .i64 cut] w (.bool true) := by
  have hx := smallM_in n
  have HS := Lib.hid (fun w => small_any w n hn)
  obtain ⟨x, ex⟩ : ∃ x, smallM n = x := ⟨_, rfl⟩
  rw [ex] at hx HS
  clear ex
  have hs1 : 1 ≤ sizeM x ∧ sizeM x ≤ 8 := by have := sizeM_cases x; omega
  obtain ⟨m, hm, hm1, hm2⟩ : ∃ m, min len 20 = m ∧ m ≤ 20 ∧ m ≤ len := ⟨_, rfl, by omega, by omega⟩
  have HB := Lib.hid (hb.pre m hm2); clear hb
  have HCUT := Lib.hid (fun w => cut_any w a len cap 20 hlen hcap)
  rw [hm] at HCUT
  clear hm
  have HSIZE := Lib.hid (fun w => size_any w x)
  have hgp := get_put hx (bs.take m)
  have HWF := Lib.hid (putM_wf x hx.1)
  have hgc : ∀ j, j < sizeM x → getS ((putM x).take j) = 0 := fun j hj => get_cut hx hj
  have hpl := putM_len x
  have HPUT := Lib.hid (fun w => put_any w none 0 0 [] x ⟨hx.1, by omega⟩ (by omega) (IntsK.nil _ _ _))
  obtain ⟨s, es⟩ : ∃ s, sizeM x = s := ⟨_, rfl⟩
  obtain ⟨l, el⟩ : ∃ l, putM x = l := ⟨_, rfl⟩
  rw [es] at hs1 HSIZE hgp hgc hpl HPUT
  rw [el] at hgp HWF hgc hpl HPUT
  have HGP := Lib.hid hgp; have HGC := Lib.hid hgc
  clear hgp hgc es el
  go_enter Try.func7, Try.ntmps7
  go_wp2_with fail
  refine Calls.mono (HS.out _) ?_
  rintro e w1 ⟨rfl, h1⟩
  have H1 := Lib.hid h1; clear h1
  go_wp2_with fail
  refine Calls.mono (HPUT.out _) ?_
  rintro e w2 ⟨v, rfl, h2, ho⟩
  rw [show decide (s ≠ 0) = true from by simp; omega]
  rw [List.nil_append, Nat.zero_add] at ho
  obtain ⟨a1, cap1, rfl, hc1, hi1, _⟩ := ints_of_own ho HWF.out
  have HI1 := Lib.hid hi1; have H2 := Lib.hid (bl_next H1.out H1.out.size h2); clear hi1 h2 ho
  go_wp2_with fail
  refine Calls.mono (HSIZE.out _) ?_
  rintro e w' ⟨rfl, rfl⟩
  have hs0 : s ≠ 0 := by omega
  go_wp2_with (first | (at_builtin; refine wpList_append_bytes rfl _ _ rfl w'.heap.size 0 (.slice (some ⟨w'.heap.size, 0, none⟩) 0 0) [] rfl (World.ownsRow_made _ _ _ (Nat.le_refl _) (by unfold maxLen; omega) (by rfl)) _ _ _ _ rfl (HI1.out.below ((Below.refl _ _).alloc (Nat.le_refl _) _)) (by omega) (by simp) ?_; intro v1 w3 hown1 hgrow1; have HO := Lib.hid hown1; have HL := Lib.hid (((Below.refl w'.heap.size w').alloc (Nat.le_refl _) _).grown hgrow1 (by simp) (by intro k hk; simp [Value.ownBlock] at hk; omega)); clear hown1 hgrow1) | fail)
  refine Calls.mono (HCUT.out _) ?_
  rintro e w4 ⟨rfl, rfl⟩
  have HB3 : Hid (IntsK .u8 w3 a m (bs.take m)) := Lib.hid ((HB.out.below H2.out).below HL.out)
  have hsz3 := HL.out.size
  go_wp2_with (first | (at_builtin; refine wpList_append_bytes rfl _ _ rfl w'.heap.size _ _ _ rfl HO.out _ _ _ _ rfl HB3.out (by omega) hsz3 ?_; intro v2 w4 hown1 hgrow1; have HO4 := Lib.hid hown1; have HL4 := Lib.hid (HL.out.grown hgrow1 hsz3 (own_base HO.out)); clear hown1 hgrow1) | fail)
  have hwf4 : ∀ y ∈ ([] ++ l) ++ bs.take m, (Lit.int .u8 y).wf = true := by
    intro y hy
    rcases List.mem_append.1 hy with h | h
    · exact HWF.out y h
    · exact HB.out.2.1 y h
  obtain ⟨a4, cap4, rfl, hc4, hi4, _⟩ := ints_of_own HO4.out hwf4
  rw [List.nil_append] at hi4
  have HI4 := Lib.hid hi4
  clear hi4 HO4 HO HL hwf4 HB3 hsz3
  refine Calls.mono (get_any _ a4 _ cap4 _ (by omega) hc4 HI4.out) ?_
  rintro e w5 ⟨rfl, rfl⟩
  rw [HGP.out.1, HGP.out.2]
  go_wp2_with fail
  refine Calls.mono (within_any _ cut 0 (s - 1) (by omega) (by omega) (by omega) hcut) ?_
  rintro e w5' ⟨rfl, rfl⟩
  have hj := within_in cut 0 (s - 1) (by omega)
  obtain ⟨j, ej⟩ : ∃ j : Nat, within cut 0 (s - 1) = j := ⟨(within cut 0 (s - 1)).toNat, by omega⟩
  rw [ej] at hj ⊢
  clear ej
  have HI5 := Lib.hid (((HI1.out.below HL4.out).pre j (by omega)))
  go_wp2_with fail
  refine Calls.mono (get_any _ a1 j cap1 _ (by omega) (by omega) HI5.out) ?_
  rintro e w6 ⟨rfl, rfl⟩
  rw [HGC.out j (by omega)]
  go_wp2_with fail
  refine Calls.mono (within_any _ k 0 63 (by omega) (by omega) (by omega) hk) ?_
  rintro e w5' ⟨rfl, rfl⟩
  have hjj := within_in k 0 63 (by omega)
  obtain ⟨q, eq⟩ : ∃ q, within k 0 63 = q := ⟨_, rfl⟩
  rw [eq] at hjj ⊢
  clear eq
  have hwb := w64_bounds n
  go_wp2_with fail
  refine Calls.mono (zig_any _ (wrap64 n) hwb) ?_
  rintro e w7 ⟨rfl, rfl⟩
  go_wp2_with fail
  refine Calls.mono (zag_any _ _ (zig_in _ hwb)) ?_
  rintro e w7 ⟨rfl, rfl⟩
  rw [zag_zig]
  go_wp2_with fail
  refine Calls.mono (zag_any _ n hn) ?_
  rintro e w7 ⟨rfl, rfl⟩
  go_wp2_with fail
  refine Calls.mono (zig_any _ _ (zag_in n hn)) ?_
  rintro e w7 ⟨rfl, rfl⟩
  rw [zig_zag n hn.1]
  go_wp2_with fail
  refine Calls.mono (rot_any _ n q) ?_
  rintro e w7 ⟨rfl, n1, rfl⟩
  go_wp2_with fail
  refine Calls.mono (rot_any _ _ (-q)) ?_
  rintro e w7 ⟨rfl, n2, rfl⟩
  rw [rot_back n q hjj hn]
  go_wp2_with fail
  refine Calls.mono (known1_any _) ?_
  rintro e w8 ⟨rfl, h8⟩
  have H8 := Lib.hid h8; clear h8
  go_wp2_with fail
  go_ret
  exact ⟨rfl, H2.out.trans ((bl_next (bl_drewN HL4.out _) (by simpa using HL4.out.size) H8.out).mono H2.out.size)⟩
end Go.Proofs.Ytdchcclcjoaogaa
