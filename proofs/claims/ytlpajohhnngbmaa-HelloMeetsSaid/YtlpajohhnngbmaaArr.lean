/- '==' and '!=' on arrays of bytes. -/
import Derived.Test.YtlpajohhnngbmaaBase
import Derived.Stop.BytesEq
namespace Go.Proofs.Ytlpajohhnngbmaa
open Go.RowKit
set_option linter.unusedVariables false

def toU (n : Int) : UInt8 := UInt8.ofNat n.toNat
theorem cell_toU {n : Int} (h : (Lit.int .u8 n).wf = true) : Extern.Stop.cell (toU n) = .int .u8 n := by
  have hb := bounds_u8 h
  have e : (toU n).toNat = n.toNat := by
    unfold toU; rw [UInt8.toNat_ofNat']; exact Nat.mod_eq_of_lt (by omega)
  unfold Extern.Stop.cell
  rw [e]; exact congrArg _ (Int.toNat_of_nonneg hb.1)
theorem map_toU {xs : List Int} (h : ∀ x ∈ xs, (Lit.int .u8 x).wf = true) : (xs.map toU).map Extern.Stop.cell = xs.map (Value.int .u8) := by
  rw [List.map_map]
  exact List.map_congr_left fun x hx => cell_toU (h x hx)
theorem toU_inj : ∀ {xs ys : List Int}, (∀ x ∈ xs, (Lit.int .u8 x).wf = true) → (∀ x ∈ ys, (Lit.int .u8 x).wf = true) → (xs.map toU == ys.map toU) = (xs == ys) := by
  intro xs ys hx hy
  rw [Bool.eq_iff_iff, beq_iff_eq, beq_iff_eq]
  constructor
  · intro h
    have h1 := congrArg (List.map Extern.Stop.cell) h
    rw [map_toU hx, map_toU hy] at h1
    exact List.map_inj_right (f := Value.int .u8) (by intro a b hab; injection hab) |>.1 h1
  · intro h; rw [h]
set_option maxRecDepth 100000 in
theorem sizeU8 (w : World) : (sizeOf 5).run Try.prog w = .ok 1 w := by kernel_rfl
theorem eqin_bytes (w : World) (t n : Nat) (ht : Try.prog.underlying t = some (.array n 5)) (xs ys : List Int) (hx : xs.length = n) (hy : ys.length = n)
    (wx : ∀ x ∈ xs, (Lit.int .u8 x).wf = true) (wy : ∀ x ∈ ys, (Lit.int .u8 x).wf = true) :
    (Op.equalIn 10000 t (.agg (xs.map (Value.int .u8)).toArray) (.agg (ys.map (Value.int .u8)).toArray)).run Try.prog w = .ok (xs == ys) w := by
  have h := run_equalIn_bytes (P := Try.prog) w 9998 t 5 n ht Try.underlying5 sizeU8 (xs.map toU) (ys.map toU) (by simp [hx]) (by simp [hy])
  rw [map_toU wx, map_toU wy, toU_inj wx wy] at h
  exact h
/-- a == b at [n]byte. -/
theorem eql_bytes (w : World) (t n : Nat) (ht : Try.prog.underlying t = some (.array n 5)) (xs ys : List Int) (hx : xs.length = n) (hy : ys.length = n)
    (wx : ∀ x ∈ xs, (Lit.int .u8 x).wf = true) (wy : ∀ x ∈ ys, (Lit.int .u8 x).wf = true) :
    (binOp .eql t (.agg (xs.map (Value.int .u8)).toArray) (.agg (ys.map (Value.int .u8)).toArray)).run Try.prog w = .ok (.bool (xs == ys)) w := by
  have h := run_eql_bytes (P := Try.prog) w t 5 n ht Try.underlying5 sizeU8 (xs.map toU) (ys.map toU) (by simp [hx]) (by simp [hy])
  rw [map_toU wx, map_toU wy, toU_inj wx wy] at h
  exact h
theorem neq_bytes (w : World) (t n : Nat) (ht : Try.prog.underlying t = some (.array n 5)) (xs ys : List Int) (hx : xs.length = n) (hy : ys.length = n)
    (wx : ∀ x ∈ xs, (Lit.int .u8 x).wf = true) (wy : ∀ x ∈ ys, (Lit.int .u8 x).wf = true) :
    (binOp .neq t (.agg (xs.map (Value.int .u8)).toArray) (.agg (ys.map (Value.int .u8)).toArray)).run Try.prog w = .ok (.bool (!(xs == ys))) w := by
  have h := run_equalIn_bytes (P := Try.prog) w 9998 t 5 n ht Try.underlying5 sizeU8 (xs.map toU) (ys.map toU) (by simp [hx]) (by simp [hy])
  rw [map_toU wx, map_toU wy, toU_inj wx wy] at h
  rw [run_neq_struct, h]
  rfl
end Go.Proofs.Ytlpajohhnngbmaa
