/- the plain law of lock: turned twice is nothing; what is sealed is opened. -/
import Derived.Test.YtgjfhfjlegkhbaaLock8
namespace Go.Proofs.Ytgjfhfjlegkhbaa
open Go.RowKit
set_option linter.unusedVariables false

theorem xor8_nat (a b : Nat) (ha : a < 256) (hb : b < 256) : bits .xor .u8 (a : Int) (b : Int) = ((a ^^^ b : Nat) : Int) := by
  have hx : a ^^^ b < 2 ^ 8 := Nat.xor_lt_two_pow (by omega) (by omega)
  have h1 : (BitVec.ofInt 8 (a : Int)).toNat = a := by
    rw [BitVec.ofInt_natCast, BitVec.toNat_ofNat]; exact Nat.mod_eq_of_lt (by omega)
  have h2 : (BitVec.ofInt 8 (b : Int)).toNat = b := by
    rw [BitVec.ofInt_natCast, BitVec.toNat_ofNat]; exact Nat.mod_eq_of_lt (by omega)
  show IntKind.u8.wrap ((BitVec.ofInt 8 (a : Int) ^^^ BitVec.ofInt 8 (b : Int)).toNat : Int) = _
  rw [BitVec.toNat_xor, h1, h2]
  simp [IntKind.wrap, IntKind.bits, IntKind.signed]
  omega
theorem u8_nat {x : Int} (h : (Lit.int .u8 x).wf = true) : ∃ a : Nat, x = a ∧ a < 256 := by
  have := bounds_u8 h
  exact ⟨x.toNat, by omega, by omega⟩
theorem xor8_back {x k : Int} (hx : (Lit.int .u8 x).wf = true) (hk : (Lit.int .u8 k).wf = true) : bits .xor .u8 (bits .xor .u8 x k) k = x := by
  obtain ⟨a, rfl, ha⟩ := u8_nat hx
  obtain ⟨b, rfl, hb⟩ := u8_nat hk
  have hxl : a ^^^ b < 2 ^ 8 := Nat.xor_lt_two_pow (by omega) (by omega)
  rw [xor8_nat a b ha hb, xor8_nat _ b (by omega) hb, Nat.xor_assoc, Nat.xor_self, Nat.xor_zero]
theorem xor8_both {x y k : Int} (hx : (Lit.int .u8 x).wf = true) (hy : (Lit.int .u8 y).wf = true) (hk : (Lit.int .u8 k).wf = true) : bits .xor .u8 (bits .xor .u8 x k) (bits .xor .u8 y k) = bits .xor .u8 x y := by
  obtain ⟨a, rfl, ha⟩ := u8_nat hx
  obtain ⟨b, rfl, hb⟩ := u8_nat hy
  obtain ⟨c, rfl, hc⟩ := u8_nat hk
  have h1 : a ^^^ c < 2 ^ 8 := Nat.xor_lt_two_pow (by omega) (by omega)
  have h2 : b ^^^ c < 2 ^ 8 := Nat.xor_lt_two_pow (by omega) (by omega)
  rw [xor8_nat a c ha hc, xor8_nat b c hb hc, xor8_nat _ _ (by omega) (by omega), xor8_nat a b ha hb]
  congr 1
  rw [Nat.xor_comm b c, Nat.xor_assoc, ← Nat.xor_assoc c c b, Nat.xor_self, Nat.zero_xor]

theorem mixM_hit (key n : Int) (bs : List Int) : ∀ j i, i < j → i < bs.length → (mixM key n bs j)[i]? = some (turnAt key n bs i)
  | 0, i, h, _ => by omega
  | j + 1, i, h, hl => by
    simp only [mixM]
    by_cases e : j = i
    · subst e; rw [List.getElem?_set_self (by rw [mixM_len]; exact hl)]
    · rw [List.getElem?_set_ne e, mixM_hit key n bs j i (by omega) hl]
theorem turnedM_at (key n : Int) (bs : List Int) (i : Nat) (h : i < bs.length) : (turnedM key n bs)[i]? = some (turnAt key n bs i) := mixM_hit _ _ _ _ _ h h
theorem keyAt_wf (key n : Int) (i : Nat) : (Lit.int .u8 ((keyRow key n (i / 8)).getD (i % 8) 0)).wf = true := by
  have hl := keyRow_len key n (i / 8)
  rw [List.getD_eq_getElem?_getD, List.getElem?_eq_getElem (by omega)]
  exact keyRow_wf key n (i / 8) _ (List.getElem_mem _)
theorem getD_wf (bs : List Int) (h : ∀ x ∈ bs, (Lit.int .u8 x).wf = true) (i : Nat) (hi : i < bs.length) : (Lit.int .u8 (bs.getD i 0)).wf = true := by
  rw [List.getD_eq_getElem?_getD, List.getElem?_eq_getElem hi]
  exact h _ (List.getElem_mem _)
theorem turnedM_back (key n : Int) (bs : List Int) (h : ∀ x ∈ bs, (Lit.int .u8 x).wf = true) : turnedM key n (turnedM key n bs) = bs := by
  refine List.ext_getElem? fun i => ?_
  by_cases hi : i < bs.length
  · rw [turnedM_at _ _ _ i (by rw [turnedM_len]; exact hi)]
    have e : (turnedM key n bs).getD i 0 = turnAt key n bs i := by rw [List.getD_eq_getElem?_getD, turnedM_at _ _ _ i hi]; rfl
    unfold turnAt
    rw [e, show turnAt key n bs i = bits .xor .u8 (bs.getD i 0) ((keyRow key n (i / 8)).getD (i % 8) 0) from rfl, xor8_back (getD_wf bs h i hi) (keyAt_wf key n i), List.getD_eq_getElem?_getD, List.getElem?_eq_getElem hi]
    rfl
  · rw [List.getElem?_eq_none (by rw [turnedM_len, turnedM_len]; omega), List.getElem?_eq_none (by omega)]
theorem turnedM_take (key n : Int) (bs : List Int) (k : Nat) : turnedM key n (bs.take k) = (turnedM key n bs).take k := by
  refine List.ext_getElem? fun i => ?_
  by_cases hi : i < bs.length ∧ i < k
  · rw [turnedM_at _ _ _ i (by rw [List.length_take]; omega), List.getElem?_take_of_lt hi.2, turnedM_at _ _ _ i hi.1]
    have e : (bs.take k).getD i 0 = bs.getD i 0 := by rw [List.getD_eq_getElem?_getD, List.getElem?_take_of_lt hi.2, List.getD_eq_getElem?_getD]
    unfold turnAt
    rw [e]
  · rw [List.getElem?_eq_none (by rw [turnedM_len, List.length_take]; omega), List.getElem?_eq_none (by rw [List.length_take, turnedM_len]; omega)]
theorem turned_both (key n : Int) (a b : List Int) (ha : ∀ x ∈ a, (Lit.int .u8 x).wf = true) (hb : ∀ x ∈ b, (Lit.int .u8 x).wf = true) (i : Nat) (hia : i < a.length) (hib : i < b.length) :
    bits .xor .u8 (turnAt key n a i) (turnAt key n b i) = bits .xor .u8 (a.getD i 0) (b.getD i 0) :=
  xor8_both (getD_wf a ha i hia) (getD_wf b hb i hib) (keyAt_wf key n i)
theorem sealM_at (key n : Int) (head body : List Int) (i : Nat) (h : i < body.length) : (sealM key n head body)[i]? = some (turnAt key n body i) := by
  unfold sealM
  rw [List.getElem?_append_left (by rw [turnedM_len]; exact h), turnedM_at _ _ _ i h]
theorem sealM_take (key n : Int) (head body : List Int) (k : Nat) (h : k ≤ body.length) : (sealM key n head body).take k = turnedM key n (body.take k) := by
  unfold sealM
  rw [List.take_append_of_le_length (by rw [turnedM_len]; exact h), turnedM_take]
theorem open_seal (key n : Int) (head body : List Int) (h : ∀ x ∈ body, (Lit.int .u8 x).wf = true) : openM key n head (sealM key n head body) = (body, true) := by
  have hl := sealM_len key n head body
  have ht : (sealM key n head body).take body.length = turnedM key n body := by rw [sealM_take _ _ _ _ _ (Nat.le_refl _), List.take_length]
  have hd : (sealM key n head body).drop body.length = tagM key n head (turnedM key n body) := by
    unfold sealM
    rw [List.drop_append_of_le_length (by rw [turnedM_len]; exact Nat.le_refl _), List.drop_of_length_le (by rw [turnedM_len]; exact Nat.le_refl _), List.nil_append]
  unfold openM
  rw [if_neg (by omega), hl, show body.length + 8 - 8 = body.length by omega, ht, hd, if_pos rfl, turnedM_back _ _ _ h]
theorem open_short (key n : Int) (head s : List Int) (h : s.length < 8) : openM key n head s = ([], false) := by unfold openM; rw [if_pos h]
end Go.Proofs.Ytgjfhfjlegkhbaa
