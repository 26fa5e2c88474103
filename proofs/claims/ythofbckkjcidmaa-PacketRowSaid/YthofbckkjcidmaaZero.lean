/- append(x, make([]byte, k)...): zeros behind a row that the call owns. -/
import Derived.Test.YthofbckkjcidmaaGrow2
import Derived.Lib.AppendZeros
namespace Go.Proofs.Ythofbckkjcidmaa
open Go.RowKit
set_option linter.unusedVariables false

theorem zeroCells_u8 (k : Nat) : Builtin.zeroCells (Value.int .u8 0).cells k = (List.replicate k (Value.int .u8 0)).toArray := by
  apply Array.ext
  · simp [Builtin.zeroCells, Value.cells]
  · intro i h1 h2
    simp [Builtin.zeroCells, Value.cells, Nat.mod_one]
theorem zeros_one (k : Nat) : ∀ v ∈ List.replicate k (Value.int .u8 0), v.oneCell' = true := by
  intro v hv
  rw [(List.mem_replicate.1 hv).2]; rfl
theorem append_zeros (w : World) (ty : TypeId) (base n : Nat) (v : Value) (xs : List Int) (hown : w.ownsRow base 5 1 v n (xs.map (Value.int .u8))) (k : Nat)
    (hb : n + k ≤ 140737488355328) (hbase : base ≤ w.heap.size) :
    ∃ v' w', (Builtin.append_ #[23, 3] ty #[v, .int .i64 k]).run Try.prog w = .ok v' w' ∧ w'.ownsRow base 5 1 v' (n + k) ((xs ++ List.replicate k 0).map (Value.int .u8)) ∧ w.grownBy w' v.ownBlock ∧ (v'.ownBlock = v.ownBlock ∨ v'.ownBlock = some w.heap.size) := by
  obtain ⟨i0, hi, hz0, hz1, hz2⟩ := info_parts infoU8
  have ht := Try.underlying23
  have htn := Try.underlying3
  have hw : IntKind.i64.wrap (k : Int) = k := by rw [IntKind.wrap_i64]; omega
  have hneg : ¬ ((k : Int) < 0) := by omega
  have h48i : ¬ (281474976710656 < (k : Int) * (i0.bytes : Int)) := by rw [hz2]; omega
  have hxl : xs.length = n := by simpa using hown.1
  have hnews : (xs ++ List.replicate k 0).map (Value.int .u8) = xs.map (Value.int .u8) ++ List.replicate k (Value.int .u8 0) := by rw [List.map_append, List.map_replicate]
  have hzc := zeroCells_u8 k
  rw [hnews]
  by_cases hk : k = 0
  · subst hk
    obtain ⟨b, l, cp, rfl, hle⟩ : ∃ b l cp, v = .slice b n cp ∧ n ≤ cp := by
      rcases hown.2 with ⟨rfl, rfl⟩ | ⟨g, cap, cur, rfl, hg, hrow, hn, hc, hsz, htk⟩
      · exact ⟨_, 0, _, rfl, Nat.le_refl _⟩
      · exact ⟨_, 0, _, rfl, hn⟩
    refine ⟨.slice b n cp, w, ?_, by simpa using hown, grown_refl _ _, .inl rfl⟩
    have hst : ∀ a : Addr, (storeCells a []).run Try.prog w = .ok () w := fun a => rfl
    have hw0 : IntKind.i64.wrap 0 = 0 := hw
    cases b <;> simp [Builtin.append_, run_underlying ht, run_underlying htn, sizeOf, typeInfo, zeroValue, hi, hz0, asInt, asIntOf, hw0, hle, hst]
  · have hns : ¬ (k * i0.size = 0) := Nat.mul_ne_zero hk (by omega)
    have hlen : (xs.map (Value.int .u8) ++ List.replicate k (Value.int .u8 0)).length = n + k := by simp [hxl]
    have grown : ∀ (old : Nat), old < n + k → ∀ (row : Option Nat),
        (w.drew.alloc (.cells ((xs.map (Value.int .u8)).toArray ++ (List.replicate k (Value.int .u8 0)).toArray ++ Builtin.zeroCells (Value.int .u8 0).cells (grownCap w (n + k) old 5 - (n + k))) 5)).ownsRow base 5 1
          (.slice (some ⟨w.heap.size, 0, none⟩) (n + k) (grownCap w (n + k) old 5)) (n + k) (xs.map (Value.int .u8) ++ List.replicate k (Value.int .u8 0)) ∧
        w.grownBy (w.drew.alloc (.cells ((xs.map (Value.int .u8)).toArray ++ (List.replicate k (Value.int .u8 0)).toArray ++ Builtin.zeroCells (Value.int .u8 0).cells (grownCap w (n + k) old 5 - (n + k))) 5)) row := by
      intro old ho row
      have hge := grownCap_ge w (n + k) old 5
      have hcm : grownCap w (n + k) old 5 ≤ maxLen := grownCap_le_maxLen w (n + k) old 5 (by unfold maxLen; omega)
      refine ⟨⟨by rw [hlen]; omega, .inr ⟨w.heap.size, _, _, rfl, hbase, heap_alloc_new w.drew _, hge, hcm, ?_, ?_⟩⟩, ⟨rfl, rfl, rfl, by simp, fun i hi _ => heap_alloc_old w.drew _ hi⟩⟩
      · simp only [Array.size_append, List.size_toArray, size_zeroCells, List.length_map, hxl, List.length_replicate, show (Value.int .u8 0).cells.size = 1 from rfl]
        omega
      · simp only [Array.toList_append, List.append_assoc]
        rw [← List.append_assoc, show (n + k) * 1 = (xs.map (Value.int .u8) ++ List.replicate k (Value.int .u8 0)).length by rw [hlen]; omega]
        exact List.take_left
    have hfit : ∀ old, ¬ (281474976710656 < Builtin.nextslicecap (n + k) old * i0.bytes) ∨ n + k ≤ old := fun old => by
      by_cases h : old < n + k
      · left; have := growslice_fits (need := n + k) (old := old) (bytes := i0.bytes) h (by rw [hz2]; omega); omega
      · right; omega
    rcases hown.2 with ⟨rfl, h0⟩ | ⟨g, cap, cur, rfl, hbg, hg, hnc, hcm, hcs, htake⟩
    · subst h0
      obtain rfl : xs = [] := List.eq_nil_of_length_eq_zero hxl
      have hf := (hfit 0).resolve_right (by omega)
      have hgr := grown 0 (by omega) (Value.ownBlock (.slice none 0 0))
      have h63' : ¬ (9223372036854775807 < (k : Int)) := by omega
      simp only [Nat.zero_add, List.nil_append, List.map_nil, Array.empty_append] at hgr hf ⊢
      refine ⟨_, _, ?_, hgr.1, hgr.2, .inr rfl⟩
      simp [Builtin.append_, run_underlying ht, run_underlying htn, sizeOf, typeInfo, zeroValue, hi, hz0, asInt, asIntOf, hw, hk, hneg, hns, h63', hf, h48i, Question.forced, run_firstCells_none, newRow, grownCap, hzc]
    · by_cases hroom : n + k ≤ cap
      · have hst := run_storeCells_at Try.prog g n 5 (List.replicate k (Value.int .u8 0)) 0 cur w hg (by simp; omega) (zeros_one k)
        simp only [Nat.add_zero] at hst
        refine ⟨.slice (some ⟨g, 0, none⟩) (n + k) cap, _, ?_, ⟨by rw [hlen]; omega, .inr ⟨g, cap, _, rfl, hbg, setRow_heap w g cur (cur.toList.take n ++ List.replicate k (Value.int .u8 0) ++ cur.toList.drop (n + (List.replicate k (Value.int .u8 0)).length)).toArray 5 _ hg, hroom, hcm, ?_, ?_⟩⟩, ⟨rfl, rfl, rfl, by simp, fun k _ hk => setRow_other w g k _ (fun e => hk (by simp [Value.ownBlock, e]))⟩, .inl rfl⟩
        · simp [Builtin.append_, run_underlying ht, run_underlying htn, sizeOf, typeInfo, zeroValue, hi, hz0, hz1, asInt, asIntOf, hw, hk, hneg, h48i, hroom, hzc, Addr.add_lit, hst]
        · simp only [List.size_toArray, List.length_append, List.length_take, List.length_drop, Array.length_toList, List.length_replicate]
          omega
        · rw [Nat.mul_one] at htake
          rw [htake, Nat.mul_one, ← hlen]
          exact List.take_left
      · have holds : ∀ j u, (xs.map (Value.int .u8))[j]? = some u → w.cell? ((⟨g, 0, none⟩ : Addr).add j) = some u := hown.cells (g := g) rfl
        have hfc := run_firstCells_some (P := Try.prog) w.drew 1 n ⟨g, 0, none⟩ n cap (xs.map (Value.int .u8)) (by simp [hxl]) (by simpa using holds)
        have hf := (hfit cap).resolve_right (by omega)
        have h63' : ¬ (9223372036854775807 < (n : Int) + (k : Int)) := by omega
        have hgr := grown cap (by omega) (Value.ownBlock (.slice (some ⟨g, 0, none⟩) n cap))
        refine ⟨_, _, ?_, hgr.1, hgr.2, .inr rfl⟩
        simp [Builtin.append_, run_underlying ht, run_underlying htn, sizeOf, typeInfo, zeroValue, hi, hz0, hz1, asInt, asIntOf, hw, hk, hneg, h63', hf, h48i, hroom, Question.forced, hfc, newRow, grownCap, hzc]
theorem wpList_append_zeros {ops : Array Oper} {rest : List Oper} {o : Oper} {a : Act} {w : World} {Q : Exit → Act → World → Prop} (hgd : o.guard = none) (s x : Operand)
    (ho : o.op = .call { callee := .builtin .append, args := #[s, x], argTypes := #[23, 3] })
    (base n : Nat) (v : Value) (xs : List Int) (hs : a.eval s = v) (hown : w.ownsRow base 5 1 v n (xs.map (Value.int .u8))) (k : Nat) (hx : a.eval x = .int .i64 k)
    (hb : n + k ≤ 140737488355328) (hbase : base ≤ w.heap.size)
    (h : ∀ v' w', w'.ownsRow base 5 1 v' (n + k) ((xs ++ List.replicate k 0).map (Value.int .u8)) → w.grownBy w' v.ownBlock → (v'.ownBlock = v.ownBlock ∨ v'.ownBlock = some w.heap.size) → wpList Try.prog ops Q rest (a.put o.dst v') w') : wpList Try.prog ops Q (o :: rest) a w := by
  refine wpList_plain hgd fun K hK => ?_
  obtain ⟨v', w', hr, h2, h3, h4⟩ := append_zeros w o.type base n v xs hown k hb hbase
  unfold Oper.wp execOp
  simp only [ho, resolve, invoke, builtin, Sem.run_bind, Sem.run_pure, Result.andThen_ok, List.map_toArray, List.map_cons, List.map_nil, hs, hx, hr]
  exact hK _ _ (h v' w' h2 h3 h4)
end Go.Proofs.Ythofbckkjcidmaa
