/- contracts of lock: Of. -/
import Derived.Test.YtgjfhfjlegkhbaaLock2
namespace Go.Proofs.Ytgjfhfjlegkhbaa
open Go.RowKit
set_option linter.unusedVariables false

theorem of_any (w : World) (secret : Int) : Makes Try.prog 22 #[.int .u64 secret] w (.agg #[.int .u64 (keyedM secret [115, 101, 97, 108]), .int .u64 (keyedM secret [109, 97, 115, 107])]) := by
  have HD1 := Lib.hid (fun w => derive_any w secret ⟨#[115, 101, 97, 108]⟩ (by decide))
  have HD2 := Lib.hid (fun w => derive_any w secret ⟨#[109, 97, 115, 107]⟩ (by decide))
  go_enter Try.func22, Try.ntmps22
  go_wp2_with fail
  refine Calls.mono (HD1.out _) ?_
  rintro e w2 ⟨rfl, hb⟩
  have HB := Lib.hid hb
  have hs := hb.size
  simp at hs
  have hrow := bl_row hb (by simp) (heap_alloc_new w _)
  have HROW := Lib.hid hrow
  have H2 := Lib.hid (((Below.refl w.heap.size w).alloc (Nat.le_refl _) (.cells #[.int .u64 0, .int .u64 0] 45)).trans (hb.mono (by simp)))
  clear hb hrow
  go_wp2_with fail
  refine Calls.mono (HD2.out _) ?_
  rintro e w3 ⟨rfl, hb3⟩
  have H3 := Lib.hid (bl_next H2.out (by omega) hb3)
  have hrow3 := bl_row hb3 (by omega) HROW.out
  have f0 := row_free hrow3 0
  have f1 := row_free hrow3 1
  have c0 : w3.cell? ⟨w.heap.size, 0, none⟩ = some (.int .u64 0) := row_cell hrow3 0 _ rfl
  have c1 : w3.cell? ⟨w.heap.size, 1, none⟩ = some (.int .u64 0) := row_cell hrow3 1 _ rfl
  have HROW3 := Lib.hid hrow3
  clear hb3 hrow3
  go_wp2_with fail
  have hA := ((At.base HROW3.out).set 0 (.int .u64 (keyedM secret (natsOf ⟨#[115, 101, 97, 108]⟩)))).set 1 (.int .u64 (keyedM secret (natsOf ⟨#[109, 97, 115, 107]⟩)))
  have hbl : Below w.heap.size w _ := (H3.out.setCell (p := ⟨w.heap.size, 0, none⟩) (Nat.le_refl _) (.int .u64 (keyedM secret (natsOf ⟨#[115, 101, 97, 108]⟩)))).setCell (p := ⟨w.heap.size, 1, none⟩) (Nat.le_refl _) (.int .u64 (keyedM secret (natsOf ⟨#[109, 97, 115, 107]⟩)))
  have hrow := hA.row
  generalize ((w3.setCell ⟨w.heap.size, 0, none⟩ (.int .u64 (keyedM secret (natsOf ⟨#[115, 101, 97, 108]⟩)))).setCell ⟨w.heap.size, 1, none⟩ (.int .u64 (keyedM secret (natsOf ⟨#[109, 97, 115, 107]⟩)))) = W at hrow hbl ⊢
  have d0 : W.cell? ⟨w.heap.size, 0, none⟩ = some (.int .u64 (keyedM secret (natsOf ⟨#[115, 101, 97, 108]⟩))) := row_cell hrow 0 _ rfl
  have d1 : W.cell? ⟨w.heap.size, 1, none⟩ = some (.int .u64 (keyedM secret (natsOf ⟨#[109, 97, 115, 107]⟩))) := row_cell hrow 1 _ rfl
  exact bodyPost_ret (v := .agg #[.int .u64 (keyedM secret (natsOf ⟨#[115, 101, 97, 108]⟩)), .int .u64 (keyedM secret (natsOf ⟨#[109, 97, 115, 107]⟩))]) (by simp [results, Try.results22, go_sem, d0, d1]) rfl ⟨rfl, hbl⟩
end Go.Proofs.Ytgjfhfjlegkhbaa
