/- []byte of a text that the program holds: a new row, marked behind its end. -/
import Derived.Test.YtlpajohhnngbmaaOwn
import Derived.Test.YtlpajohhnngbmaaGrow
namespace Go.Proofs.Ytlpajohhnngbmaa
open Go.RowKit
set_option linter.unusedVariables false

/-- a row that was converted: []byte of a text: marked behind its end -/
theorem mark_row {W : World} {g n : Nat} {cs : Array Value} {t : TypeId} (h : W.heap[g]? = some (.cells cs t (0, 0))) : (W.freeze ⟨g, n, none⟩ 1).heap[g]? = some (.cells cs t (n, n + 1)) := by
  simp [World.freeze, Array.getElem?_modify, h]
theorem mark_below (W : World) (g n B : Nat) (hg : B ≤ g) : Below B W (W.freeze ⟨g, n, none⟩ 1) :=
  ⟨rfl, rfl, rfl, by simp [World.freeze], fun k hk => by
    have : ¬ g = k := by omega
    simp [World.freeze, Array.getElem?_modify, this]⟩
theorem mark_size (W : World) (g n : Nat) : (W.freeze ⟨g, n, none⟩ 1).heap.size = W.heap.size := by simp [World.freeze]
theorem conv_mark (W : World) (g : Nat) (cs : Array Value) (l c : Nat) (h : W.heap[g]? = some (.cells cs 5 (0, 0))) :
    (convert 31 31 (.slice (some ⟨g, 0, none⟩) l c)).run Try.prog W = .ok (.slice (some ⟨g, 0, none⟩) l c) (W.freeze ⟨g, cs.size, none⟩ 1) := by
  have hg := lt_of_block h
  simp [convert, run_underlying Try.underlying31, run_underlying Try.underlying5, markStringish, World.shape?, h]
theorem IntsK.of_rowF {k : IntKind} {w : World} {b : Nat} {zs : List Int} {t : TypeId} {fr : Nat × Nat} (h : w.heap[b]? = some (.cells (zs.map (Value.int k)).toArray t fr)) (hw : ∀ n ∈ zs, (Lit.int k n).wf = true) :
    IntsK k w (some ⟨b, 0, none⟩) zs.length zs := by
  refine ⟨rfl, hw, .inr ⟨b, 0, rfl, lt_of_block h, fun i hi => ?_⟩⟩
  rw [cell_of_row _ _ _ _ _ _ h]
  simp [hi, List.getD_eq_getElem?_getD]

/-- []byte(".."): the row's build, then its marking: a world that keeps all below. -/
theorem lit_bytes (W : World) (xs : List Int) (cs : Array Value) (n : Nat) (hcs : cs = (xs.map (Value.int .u8)).toArray) (hn : xs.length = n) (hw : ∀ x ∈ xs, (Lit.int .u8 x).wf = true) :
    ∃ W' : World, (convert 31 31 (.slice (some ⟨W.heap.size, 0, none⟩) n n)).run Try.prog (W.alloc (.cells cs 5)) = .ok (.slice (some ⟨W.heap.size, 0, none⟩) n n) W' ∧
      Below W.heap.size W W' ∧ IntsK .u8 W' (some ⟨W.heap.size, 0, none⟩) n xs ∧ W'.heap.size = W.heap.size + 1 := by
  have hA := Fresh.of_alloc W (.cells cs 5)
  refine ⟨_, conv_mark _ _ cs n n hA.row, hA.below.trans (mark_below _ _ _ _ (Nat.le_refl _)), ?_, (mark_size _ _ _).trans hA.size⟩
  have hr := mark_row (n := cs.size) hA.row
  rw [hcs] at hr
  have h := IntsK.of_rowF hr hw
  rw [hn] at h
  rw [hcs]
  exact h
end Go.Proofs.Ytlpajohhnngbmaa
