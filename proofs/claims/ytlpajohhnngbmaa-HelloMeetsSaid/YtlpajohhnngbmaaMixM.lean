/- plain functions on numbers: bits turned, numbers out of bytes. -/
import Derived.Test.YtlpajohhnngbmaaBase
import Derived.Laws.BitsAllLaws
namespace Go.Proofs.Ytlpajohhnngbmaa
open Go.RowKit
set_option linter.unusedVariables false

def rotM (n k : Int) : Int := bits .or .u64 (IntKind.u64.wrap (n * 2 ^ (k % 64).toNat)) (n / 2 ^ (64 - k % 64).toNat)
def endM (h : Int) : Int :=
  bits .xor .u64 (IntKind.u64.wrap (bits .xor .u64 h (h / 536870912) * 13787848793156543929)) (IntKind.u64.wrap (bits .xor .u64 h (h / 536870912) * 13787848793156543929) / 4294967296)
def stepM (h c : Int) : Int := rotM (IntKind.u64.wrap (bits .xor .u64 h c * 1099511628211)) 23
def startM (key : Int) (len : Nat) : Int := IntKind.u64.wrap (bits .xor .u64 key 11400714819323198485 + len)
def keyedM (key : Int) (bs : List Int) : Int := endM (bs.foldl stepM (startM key bs.length))
def nextM (n : Int) : Int := endM (IntKind.u64.wrap (n + 11400714819323198485))
def bytesM (n : Int) : List Int :=
  [n / 72057594037927936 % 256, n / 281474976710656 % 256, n / 1099511627776 % 256, n / 4294967296 % 256, n / 16777216 % 256, n / 65536 % 256, n / 256 % 256, n % 256]
def numStep (n c : Int) : Int := bits .or .u64 (IntKind.u64.wrap (n * 256)) c
def numberM (bs : List Int) : Int := bs.foldl numStep 0

theorem and63 (k : Int) : bits .and .i64 k 63 = k % 64 := by
  show IntKind.i64.wrap ((BitVec.ofInt 64 k &&& BitVec.ofInt 64 63).toNat : Int) = _
  have h1 : (BitVec.ofInt 64 k &&& BitVec.ofInt 64 63).toNat = (BitVec.ofInt 64 k).toNat % 64 := by
    rw [BitVec.toNat_and]; exact Nat.and_two_pow_sub_one_eq_mod _ 6
  rw [h1, BitVec.toNat_ofInt]
  have h2 := Int.emod_nonneg k (show (64 : Int) ≠ 0 by omega)
  have h3 := Int.emod_lt_of_pos k (show (0 : Int) < 64 by omega)
  rw [IntKind.wrap_i64]
  have h4 : ((k % ((2 ^ 64 : Nat) : Int)).toNat : Int) = k % 18446744073709551616 := by
    rw [Int.toNat_of_nonneg (Int.emod_nonneg _ (by decide))]; rfl
  omega
theorem wf_u64_of {n : Int} (h0 : 0 ≤ n) (h1 : n < 18446744073709551616) : (Lit.int .u64 n).wf = true := by
  simp [Lit.wf, IntKind.min, IntKind.max, IntKind.signed, IntKind.bits]; omega
theorem wf_rot (n k : Int) : (Lit.int .u64 (rotM n k)).wf = true := wf_bits _ _ _ _
theorem wf_end (n : Int) : (Lit.int .u64 (endM n)).wf = true := wf_bits _ _ _ _
theorem wf_step (h c : Int) : (Lit.int .u64 (stepM h c)).wf = true := wf_rot _ _
theorem wf_start (k : Int) (n : Nat) : (Lit.int .u64 (startM k n)).wf = true := wf_wrap _ _
theorem wf_keyed (k : Int) (bs : List Int) : (Lit.int .u64 (keyedM k bs)).wf = true := wf_end _
theorem wf_next (n : Int) : (Lit.int .u64 (nextM n)).wf = true := wf_end _
theorem wf_u8_of {n : Int} (h0 : 0 ≤ n) (h1 : n < 256) : (Lit.int .u8 n).wf = true := by
  simp [Lit.wf, IntKind.min, IntKind.max, IntKind.signed, IntKind.bits]; omega
theorem wf_bytes (n : Int) : ∀ x ∈ bytesM n, (Lit.int .u8 x).wf = true := by
  intro x hx
  have h : ∃ y : Int, x = y % 256 := by
    simp [bytesM] at hx
    rcases hx with rfl | rfl | rfl | rfl | rfl | rfl | rfl | rfl <;> exact ⟨_, rfl⟩
  obtain ⟨y, rfl⟩ := h
  exact wf_u8_of (Int.emod_nonneg _ (by decide)) (Int.emod_lt_of_pos _ (by decide))
theorem foldl_take {f : Int → Int → Int} {s : Int} {l : List Int} {j : Nat} (h : j < l.length) : (l.take (j + 1)).foldl f s = f ((l.take j).foldl f s) (l.getD j 0) := by
  rw [List.take_succ_eq_append_getElem h, List.foldl_append, List.getD_eq_getElem?_getD, List.getElem?_eq_getElem h]; rfl

theorem numStep_add {n c : Int} (h0 : 0 ≤ n) (h1 : n < 72057594037927936) (c0 : 0 ≤ c) (c1 : c < 256) : numStep n c = n * 256 + c := by
  unfold numStep
  rw [IntWalk.u64_in _ ⟨by omega, by omega⟩, u64_or _ _ (by omega) (by omega) c0 (by omega)]
  have hj := nat_join 8 (n * 256).toNat c.toNat (by omega) (by omega)
  rw [hj]; omega
theorem num8 (x0 x1 x2 x3 x4 x5 x6 x7 : Int) (h : ∀ x ∈ [x0, x1, x2, x3, x4, x5, x6, x7], 0 ≤ x ∧ x ≤ 255) :
    numberM [x0, x1, x2, x3, x4, x5, x6, x7] = ((((((x0 * 256 + x1) * 256 + x2) * 256 + x3) * 256 + x4) * 256 + x5) * 256 + x6) * 256 + x7 := by
  have h0 := h x0 (by simp)
  have h1 := h x1 (by simp)
  have h2 := h x2 (by simp)
  have h3 := h x3 (by simp)
  have h4 := h x4 (by simp)
  have h5 := h x5 (by simp)
  have h6 := h x6 (by simp)
  have h7 := h x7 (by simp)
  simp only [numberM, List.foldl]
  rw [numStep_add (by omega) (by omega) h0.1 (by omega), Int.zero_mul, Int.zero_add]
  rw [numStep_add (n := x0) (by omega) (by omega) h1.1 (by omega)]
  rw [numStep_add (n := x0 * 256 + x1) (by omega) (by omega) h2.1 (by omega)]
  rw [numStep_add (c := x3) (by omega) (by omega) h3.1 (by omega)]
  rw [numStep_add (c := x4) (by omega) (by omega) h4.1 (by omega)]
  rw [numStep_add (c := x5) (by omega) (by omega) h5.1 (by omega)]
  rw [numStep_add (c := x6) (by omega) (by omega) h6.1 (by omega)]
  rw [numStep_add (c := x7) (by omega) (by omega) h7.1 (by omega)]
theorem number_bytes (n : Int) (hw : (Lit.int .u64 n).wf = true) : numberM (bytesM n) = n := by
  have hb : 0 ≤ n ∧ n < 18446744073709551616 := by
    have h := hw
    simp [Lit.wf, IntKind.min, IntKind.max, IntKind.signed, IntKind.bits] at h; omega
  have h := num8 (n / 72057594037927936 % 256) (n / 281474976710656 % 256) (n / 1099511627776 % 256) (n / 4294967296 % 256) (n / 16777216 % 256) (n / 65536 % 256) (n / 256 % 256) (n % 256)
    (by intro x hx; have := bounds_u8 (wf_bytes n x (by simpa [bytesM] using hx)); omega)
  have e2 : n / 65536 = n / 256 / 256 := by omega
  have e3 : n / 16777216 = n / 65536 / 256 := by omega
  have e4 : n / 4294967296 = n / 16777216 / 256 := by omega
  have e5 : n / 1099511627776 = n / 4294967296 / 256 := by omega
  have e6 : n / 281474976710656 = n / 1099511627776 / 256 := by omega
  have e7 : n / 72057594037927936 = n / 281474976710656 / 256 := by omega
  have e8 : 0 ≤ n / 72057594037927936 ∧ n / 72057594037927936 < 256 := by omega
  unfold bytesM
  rw [h]
  clear h hw
  generalize n / 72057594037927936 = q7 at *
  generalize n / 281474976710656 = q6 at *
  generalize n / 1099511627776 = q5 at *
  generalize n / 4294967296 = q4 at *
  generalize n / 16777216 = q3 at *
  generalize n / 65536 = q2 at *
  omega
theorem bytes_number (xs : List Int) (hl : xs.length = 8) (hw : ∀ x ∈ xs, (Lit.int .u8 x).wf = true) : bytesM (numberM xs) = xs := by
  match xs, hl with
  | [x0, x1, x2, x3, x4, x5, x6, x7], _ =>
    have b : ∀ x ∈ [x0, x1, x2, x3, x4, x5, x6, x7], 0 ≤ x ∧ x ≤ 255 := fun x hx => bounds_u8 (hw x hx)
    rw [num8 _ _ _ _ _ _ _ _ b]
    have h0 := b x0 (by simp)
    have h1 := b x1 (by simp)
    have h2 := b x2 (by simp)
    have h3 := b x3 (by simp)
    have h4 := b x4 (by simp)
    have h5 := b x5 (by simp)
    have h6 := b x6 (by simp)
    have h7 := b x7 (by simp)
    simp only [bytesM, List.cons.injEq, and_true]
    refine ⟨?_, ?_, ?_, ?_, ?_, ?_, ?_, ?_⟩ <;> omega
theorem wf_number (xs : List Int) (hl : xs.length = 8) (hw : ∀ x ∈ xs, (Lit.int .u8 x).wf = true) : (Lit.int .u64 (numberM xs)).wf = true := by
  match xs, hl with
  | [x0, x1, x2, x3, x4, x5, x6, x7], _ =>
    have b : ∀ x ∈ [x0, x1, x2, x3, x4, x5, x6, x7], 0 ≤ x ∧ x ≤ 255 := fun x hx => bounds_u8 (hw x hx)
    rw [num8 _ _ _ _ _ _ _ _ b]
    have h0 := b x0 (by simp)
    have h1 := b x1 (by simp)
    have h2 := b x2 (by simp)
    have h3 := b x3 (by simp)
    have h4 := b x4 (by simp)
    have h5 := b x5 (by simp)
    have h6 := b x6 (by simp)
    have h7 := b x7 (by simp)
    exact wf_u64_of (by omega) (by omega)
end Go.Proofs.Ytlpajohhnngbmaa
