/- wheel: WheelNumbers. -/
import Derived.Test.YtjkedccbieoenaaWhl30
namespace Go.Proofs.Ytjkedccbieoenaa
open Go.RowKit
set_option linter.unusedVariables false
set_option linter.unusedSimpArgs false

abbrev Ak := Int × Int × Int
def akV (x : Ak) : List Value := [.int .i64 x.1, .int .i64 x.2.1, .int .i64 x.2.2]
def rowA : List Ak → List Value
  | [] => []
  | x :: l => .int .i64 x.1 :: .int .i64 x.2.1 :: .int .i64 x.2.2 :: rowA l
theorem rowA_len : ∀ l : List Ak, (rowA l).length = 3 * l.length
  | [] => rfl
  | x :: l => by simp only [rowA, List.length_cons, rowA_len l]; omega
theorem rowA_app : ∀ l m : List Ak, rowA (l ++ m) = rowA l ++ rowA m
  | [], _ => rfl
  | x :: l, m => by simp only [List.cons_append, rowA, rowA_app l m]
theorem rowA_one : ∀ l : List Ak, ∀ v ∈ rowA l, v.oneCell' = true
  | [], v, h => by cases h
  | x :: l, v, h => by
    simp only [rowA, List.mem_cons] at h
    rcases h with rfl | rfl | rfl | h
    · rfl
    · rfl
    · rfl
    · exact rowA_one l v h
theorem rowA_at : ∀ (l : List Ak) (j : Nat) (x : Ak), l[j]? = some x → (rowA l)[3 * j]? = some (.int .i64 x.1) ∧ (rowA l)[3 * j + 1]? = some (.int .i64 x.2.1) ∧ (rowA l)[3 * j + 2]? = some (.int .i64 x.2.2)
  | [], j, x, h => by simp at h
  | y :: l, 0, x, h => by simp at h; subst h; exact ⟨rfl, rfl, rfl⟩
  | y :: l, j + 1, x, h => by
    have ih := rowA_at l j x (by simpa using h)
    have e : 3 * (j + 1) = 3 * j + 1 + 1 + 1 := by omega
    rw [e]
    exact ⟨by simpa [rowA] using ih.1, by simpa [rowA] using ih.2.1, by simpa [rowA] using ih.2.2⟩
def akwf (x : Ak) : Prop := (Lit.int .i64 x.1).wf = true ∧ (Lit.int .i64 x.2.1).wf = true ∧ (Lit.int .i64 x.2.2).wf = true
theorem akwf_snoc {l m : List Ak} (h : ∀ x ∈ l, akwf x) (k : ∀ x ∈ m, akwf x) : ∀ x ∈ l ++ m, akwf x := fun x hx => by
  rcases List.mem_append.1 hx with hx | hx
  · exact h x hx
  · exact k x hx
abbrev AT : TypeId := 28
abbrev ATS : TypeId := 22
theorem Aks.of_own {w : World} {B n : Nat} {a : Option Addr} {c : Nat} {l : List Ak} (h : w.ownsRow B AT 3 (.slice a n c) n (rowA l)) (hw : ∀ x ∈ l, akwf x) : Aks w a n := by
  have hl := h.1
  rw [rowA_len] at hl
  rcases h.2 with ⟨_, h0⟩ | ⟨g, cap, cur, e1, hg, hrow, hn, hc, hsz, htk⟩
  · exact .inl h0
  · injection e1 with e1 e2 e3
    subst e1
    refine .inr ⟨g, 0, rfl, lt_of_block hrow, fun j hj => ?_⟩
    have hx : l[j]? = some (l[j]'(by omega)) := List.getElem?_eq_getElem (by omega)
    have hr := rowA_at l j _ hx
    have hwf := hw _ (List.getElem_mem (by omega : j < l.length))
    generalize l[j]'(by omega) = x at hr hwf
    have get : ∀ k u, (rowA l)[k]? = some u → w.cell? ⟨g, k, none⟩ = some u := fun k u hu => by
      rw [cell_of_row w g k cur AT (0, 0) hrow]
      rw [← htk, List.getElem?_take] at hu
      split at hu
      · simpa using hu
      · cases hu
    refine ⟨x.1, x.2.1, x.2.2, hwf.1, hwf.2.1, hwf.2.2, ?_, ?_, ?_⟩
    · rw [show 0 + j * 3 = 3 * j by omega]; exact get _ _ hr.1
    · rw [show 0 + j * 3 + 1 = 3 * j + 1 by omega]; exact get _ _ hr.2.1
    · rw [show 0 + j * 3 + 2 = 3 * j + 2 by omega]; exact get _ _ hr.2.2
set_option maxRecDepth 100000 in
theorem ak_info : (Try.prog.info? AT).map (fun i => (i.zero, i.size, i.bytes)) = some (some (.agg #[.int .i64 0, .int .i64 0, .int .i64 0]), 3, 24) := by kernel_rfl
section
variable {ops : Array Oper} {rest : List Oper} {o : Oper} {a : Act} {w : World} {Q : Exit → Act → World → Prop} {K : Act → World → Prop}
/-- append(own row of Asks, a literal's Asks...). -/
theorem wpList_append_ak (hgd : o.guard = none) (s x : Operand) (ho : o.op = .call { callee := .builtin .append, args := #[s, x], argTypes := #[ATS, ATS] })
    (B n : Nat) (v : Value) (xs : List Ak) (hs : a.eval s = v) (hown : w.ownsRow B AT 3 v n (rowA xs)) (g : Nat) (m c : Nat) (l : List Ak) (hx : a.eval x = .slice (some ⟨g, 0, none⟩) m c) (hm : l.length = m) (hI : w.heap[g]? = some (.cells (rowA l).toArray AT (0, 0))) (hb : n + m ≤ 1000000) (hB : B ≤ w.heap.size)
    (h : ∀ v' w', w'.ownsRow B AT 3 v' (n + m) (rowA (xs ++ l)) → w.grownBy w' v.ownBlock → wpList Try.prog ops Q rest (a.put o.dst v') w') : wpList Try.prog ops Q (o :: rest) a w :=
  wpList_plain hgd fun K hK => by
    obtain ⟨i0, hi, hz0, hz1, hz2⟩ := info_parts ak_info
    obtain ⟨v', w', hr, h2, h3, _, h4⟩ := run_append_own_at (P := Try.prog) w B ATS o.type AT i0 _ 3 24 Try.underlying22 hi hz0 hz1 hz2 rfl (by omega) v n (rowA xs) hown ⟨g, 0, none⟩ m c (rowA l) (by rw [rowA_len, hm]; omega) (fun j u hu => by rw [show ((⟨g, 0, none⟩ : Addr).add j) = ⟨g, j, none⟩ by unfold Addr.add; split <;> simp_all]; exact cell_row (cs := rowA l) hI j u hu) (rowA_one l) (by unfold maxLen; omega) (by omega) hB
    unfold Oper.wp execOp
    simp only [ho, resolve, invoke, builtin, Sem.run_bind, Sem.run_pure, Result.andThen_ok, List.map_toArray, List.map_cons, List.map_nil, hs, hx, hr]
    rw [← rowA_app] at h2
    exact hK _ _ (h v' w' h2 h3)
theorem wpList_build_ak1 (hgd : o.guard = none) (x : Operand) (ho : o.op = .buildSlice ATS 1 #[(0, x)]) (t : Ak) (hx : a.eval x = .agg (akV t).toArray)
    (h : wpList Try.prog ops Q rest (a.put o.dst (.slice (some ⟨w.heap.size, 0, none⟩) 1 1)) (w.alloc (.cells (rowA [t]).toArray AT))) : wpList Try.prog ops Q (o :: rest) a w := by
  obtain ⟨i0, hi, hz0, hz1, hz2⟩ := info_parts ak_info
  refine wpList_buildSlice hgd ATS AT 1 _ ho (rowA [t]).toArray i0 _ Try.underlying22 hi hz0 (by rw [hz1]; decide) (by rw [hz1]; decide) ?_ h
  rw [hz1]
  have hf := Great.fill_whole (s := 3) (by omega) [.agg (akV t).toArray] ((Array.range (1 * 3)).map fun x => (Value.agg #[.int .i64 0, .int .i64 0, .int .i64 0]).cells[x % (Value.agg #[.int .i64 0, .int .i64 0, .int .i64 0]).cells.size]!) (by simp [Value.cells, akV]) (by simp)
  simp only [List.map_toArray, List.map_cons, List.map_nil, hx]
  simpa [Value.cells, akV, rowA] using hf
theorem wpList_build_ak3 (hgd : o.guard = none) (x y z : Operand) (ho : o.op = .buildSlice ATS 3 #[(0, x), (1, y), (2, z)]) (t u v : Ak) (hx : a.eval x = .agg (akV t).toArray) (hy : a.eval y = .agg (akV u).toArray) (hz : a.eval z = .agg (akV v).toArray)
    (h : wpList Try.prog ops Q rest (a.put o.dst (.slice (some ⟨w.heap.size, 0, none⟩) 3 3)) (w.alloc (.cells (rowA [t, u, v]).toArray AT))) : wpList Try.prog ops Q (o :: rest) a w := by
  obtain ⟨i0, hi, hz0, hz1, hz2⟩ := info_parts ak_info
  refine wpList_buildSlice hgd ATS AT 3 _ ho (rowA [t, u, v]).toArray i0 _ Try.underlying22 hi hz0 (by rw [hz1]; decide) (by rw [hz1]; decide) ?_ h
  rw [hz1]
  have hf := Great.fill_whole (s := 3) (by omega) [.agg (akV t).toArray, .agg (akV u).toArray, .agg (akV v).toArray] ((Array.range (3 * 3)).map fun x => (Value.agg #[.int .i64 0, .int .i64 0, .int .i64 0]).cells[x % (Value.agg #[.int .i64 0, .int .i64 0, .int .i64 0]).cells.size]!) (by simp [Value.cells, akV]) (by simp)
  simp only [List.map_toArray, List.map_cons, List.map_nil, hx, hy, hz]
  simpa [Value.cells, akV, rowA] using hf
end
def tms24 : List Int := [1, 63, 64, 65, 4095, 4096, 262144, 16777215, 16777216, 16777286, 1073741824, 1099511627776, 1125899906842624]
theorem tms24_at {j : Nat} (h : j < 13) : ∃ t : Int, (tms24.map (Value.int .i64))[j]? = some (.int .i64 t) ∧ 1 ≤ t ∧ t ≤ 1125899906842624 := by
  have hl : tms24.length = 13 := rfl
  have h2 : ∀ x ∈ tms24, 1 ≤ x ∧ x ≤ 1125899906842624 := by decide
  have hx : tms24[j]? = some (tms24[j]'(by omega)) := List.getElem?_eq_getElem (by omega)
  have h3 := h2 _ (List.getElem_mem (by omega : j < tms24.length))
  refine ⟨_, ?_, h3⟩
  rw [List.getElem?_map, hx]; rfl
set_option maxRecDepth 100000 in
set_option maxHeartbeats 8000000 in
theorem numbers24_any (w : World) : Makes Try.prog 6 #[] w (.bool true) := by
  have HKN := Lib.hid known24_any
  have HB := Lib.hid (Below.refl w.heap.size w)
  have HO : Hid (w.ownsRow w.heap.size AT 3 (.slice none 0 0) 0 (rowA [])) := Lib.hid ⟨rfl, .inl ⟨rfl, rfl⟩⟩
  have HW : Hid (∀ x ∈ ([] : List Ak), akwf x) := Lib.hid (fun x hx => by cases hx)
  go_enter Try.func6, Try.ntmps6
  go_wp2_with fail
  go_loopw [1, 2] (fun s1 s2 wr => ∃ (k cp : Nat) (a : Option Addr) (xs : List Ak), s1 = .slice a k cp ∧ s2 = .int .i64 k ∧ k ≤ 30 ∧ Hid (Below w.heap.size w wr) ∧ Hid (wr.ownsRow w.heap.size AT 3 (.slice a k cp) k (rowA xs)) ∧ Hid (∀ x ∈ xs, akwf x)) (fun _ s _ => 30 - (intOf s).toNat)
  case atStart => exact ⟨0, 0, none, [], rfl, rfl, by omega, HB, HO, HW⟩
  case round =>
    clear HB HO HW
    obtain ⟨k, cp, a, xs, rfl, rfl, hk, HB, HO, HW⟩ := hrel
    by_cases hlt : k < 30
    · obtain ⟨t, ht, hwt⟩ : ∃ t, wrap64 (wrap64 (2 ^ (k * 2 % 52)) - (k : Int).tmod 3) = t ∧ (Lit.int .i64 t).wf = true := ⟨_, rfl, wf_i64_of (by unfold wrap64; omega) (by unfold wrap64; omega)⟩
      have hkw : (Lit.int .i64 (k : Int)).wf = true := wf_i64_of (by omega) (by omega)
      go_wp2_with (first | (at_builtin; refine wpList_append_ak rfl _ _ rfl w.heap.size k (.slice a k cp) xs rfl (own_below HO.out ((Below.refl _ _).alloc (Nat.le_refl _) _)) wr.heap.size 1 1 [(0, (k : Int), wrap64 (wrap64 (2 ^ (k * 2 % 52)) - (k : Int).tmod 3))] rfl rfl (heap_alloc_new _ _) (by omega) (HB.out.alloc HB.out.size _).size ?_; intro v' w' hown hgrow; obtain ⟨a2, c2, rfl, _⟩ := own_slice hown; have HO2 := Lib.hid hown; have HB2 := Lib.hid ((HB.out.alloc HB.out.size _).grown hgrow (HB.out.alloc HB.out.size _).size (own_base HO.out)); clear hown hgrow) | fail)
      refine ⟨⟨k + 1, c2, a2, _, rfl, by go_num, by omega, HB2, HO2, Lib.hid (akwf_snoc HW.out (fun x hx => by rw [List.mem_singleton.1 hx]; exact ⟨(by decide : (Lit.int .i64 (0 : Int)).wf = true), hkw, by rw [ht]; exact hwt⟩))⟩, by simp [intOf]; omega⟩
    · obtain ⟨i, hi⟩ : ∃ i : Int, (k : Int) = i := ⟨_, rfl⟩
      have HI : Hid (¬ i < 30) := Lib.hid (by omega)
      rw [hi]
      obtain rfl : k = 30 := by omega
      clear hi
      have hni := HI.out
      have HV := Lib.hid (heap_alloc_new wr (.cells (tms24.map (Value.int .i64)).toArray 2))
      have hal := (Below.refl wr.heap.size wr).alloc (Nat.le_refl _) (.cells (tms24.map (Value.int .i64)).toArray 2)
      replace HB := Lib.hid (bl_next HB.out HB.out.size hal)
      replace HO := Lib.hid (own_below HO.out hal)
      clear hal hk hlt HI
      go_wp2_with fail
      change Code.wp _ _ _ _ (wr.alloc (.cells (tms24.map (Value.int .i64)).toArray 2))
      generalize wr.alloc (.cells (tms24.map (Value.int .i64)).toArray 2) = w1 at HB HO HV ⊢
      obtain ⟨g, hg⟩ : ∃ g, wr.heap.size = g := ⟨_, rfl⟩
      rw [hg] at HV ⊢
      clear hg
      go_loopw [1, 24] (fun s1 s2 wr => ∃ (j k cp : Nat) (a : Option Addr) (xs : List Ak), s1 = .slice a k cp ∧ s2 = .int .i64 j ∧ j ≤ 13 ∧ Hid (k = 30 + 3 * j) ∧ Hid (Below w.heap.size w wr) ∧ Hid (wr.ownsRow w.heap.size AT 3 (.slice a k cp) k (rowA xs)) ∧ Hid (∀ x ∈ xs, akwf x) ∧ Hid (wr.heap[g]? = some (.cells (tms24.map (Value.int .i64)).toArray 2 (0, 0)))) (fun _ s _ => 13 - (intOf s).toNat)
      case atStart => exact ⟨0, 30, cp, a, xs, rfl, rfl, by omega, Lib.hid (by omega), HB, HO, HW, HV⟩
      case round =>
        clear HB HO HW HV
        obtain ⟨j, k, cp, a, xs, rfl, rfl, hj, HK, HB, HO, HW, HV⟩ := hrel
        by_cases hlt : j < 13
        · obtain ⟨t, htm, ht1, ht2⟩ := tms24_at hlt
          have c0 := cell_row HV.out j (.int .i64 t) htm
          have hk : k ≤ 300 := by have := HK.out; omega
          clear htm
          go_upto_region 9 with fail
          clear c0
          go_wp2_with (first | (refine wpList_build_ak3 rfl _ _ _ rfl (8, 0, t) (0, t % 19, t + 64) (8, 0, t - 5) rfl rfl rfl ?_) | (at_builtin; refine wpList_append_ak rfl _ _ rfl w.heap.size k (.slice a k cp) xs rfl (own_below HO.out ((Below.refl _ _).alloc (Nat.le_refl _) _)) wr.heap.size 3 3 [(8, 0, t), (0, t % 19, t + 64), (8, 0, t - 5)] rfl rfl (heap_alloc_new _ _) (by omega) (HB.out.alloc HB.out.size _).size ?_; intro v' w' hown hgrow; obtain ⟨a2, c2, rfl, _⟩ := own_slice hown; have HO2 := Lib.hid hown; have HB2 := Lib.hid ((HB.out.alloc HB.out.size _).grown hgrow (HB.out.alloc HB.out.size _).size (own_base HO.out)); have HV2 := Lib.hid (grown_row hgrow (fun e => own_row_ne' (own_below HO.out ((Below.refl _ _).alloc (Nat.le_refl _) _)) (bl_row ((Below.refl _ _).alloc (Nat.le_refl _) (.cells (rowA [(8, 0, t), (0, t % 19, t + 64), (8, 0, t - 5)]).toArray AT)) (lt_of_block HV.out) HV.out) (by decide) e.symm) (bl_row ((Below.refl _ _).alloc (Nat.le_refl _) (.cells (rowA [(8, 0, t), (0, t % 19, t + 64), (8, 0, t - 5)]).toArray AT)) (lt_of_block HV.out) HV.out)); clear hown hgrow) | fail)
          go_roundw
          case rel =>
            refine ⟨j + 1, k + 3, c2, a2, _, rfl, by go_num, by omega, Lib.hid (by have := HK.out; omega), HB2, HO2, Lib.hid (akwf_snoc HW.out (fun x hx => ?_)), HV2⟩
            rcases List.mem_cons.1 hx with rfl | hx
            · exact ⟨(by decide : (Lit.int .i64 (8 : Int)).wf = true), (by decide : (Lit.int .i64 (0 : Int)).wf = true), (wf_i64_of (by omega) (by omega) : (Lit.int .i64 (t)).wf = true)⟩
            rcases List.mem_cons.1 hx with rfl | hx
            · exact ⟨(by decide : (Lit.int .i64 (0 : Int)).wf = true), (wf_i64_of (by omega) (by omega) : (Lit.int .i64 (t % 19)).wf = true), (wf_i64_of (by omega) (by omega) : (Lit.int .i64 (t + 64)).wf = true)⟩
            rw [List.mem_singleton.1 hx]
            exact ⟨(by decide : (Lit.int .i64 (8 : Int)).wf = true), (by decide : (Lit.int .i64 (0 : Int)).wf = true), (wf_i64_of (by omega) (by omega) : (Lit.int .i64 (t - 5)).wf = true)⟩
          case measure => simp [intOf]; omega
        · obtain rfl : j = 13 := by omega
          obtain rfl : k = 69 := HK.out
          have HA := Lib.hid (Aks.of_own HO.out HW.out)
          have HPL := Lib.hid (fun W s (hb : Below wr.heap.size wr W) => play24_any W s a 69 cp 0 (HA.out.below hb) (by omega))
          have HS := Lib.hid (Below.refl wr.heap.size wr)
          clear HO HW HV HK HA
          go_wp2_with fail
          refine Calls.mono (HPL.out _ (0) HS.out) ?_
          rintro e w5 ⟨rfl, hb⟩
          replace HB := Lib.hid (bl_next HB.out HB.out.size hb)
          replace HS := Lib.hid (bl_next HS.out HS.out.size hb)
          clear hb
          go_wp2_with fail
          refine Calls.mono (HPL.out _ (-5) HS.out) ?_
          rintro e w5 ⟨rfl, hb⟩
          replace HB := Lib.hid (bl_next HB.out HB.out.size hb)
          replace HS := Lib.hid (bl_next HS.out HS.out.size hb)
          clear hb
          go_wp2_with fail
          refine Calls.mono (HPL.out _ (1099511627785) HS.out) ?_
          rintro e w5 ⟨rfl, hb⟩
          replace HB := Lib.hid (bl_next HB.out HB.out.size hb)
          replace HS := Lib.hid (bl_next HS.out HS.out.size hb)
          clear hb
          go_wp2_with fail
          refine Calls.mono (HPL.out _ (16777214) HS.out) ?_
          rintro e w5 ⟨rfl, hb⟩
          replace HB := Lib.hid (bl_next HB.out HB.out.size hb)
          replace HS := Lib.hid (bl_next HS.out HS.out.size hb)
          clear hb
          go_wp2_with fail
          refine Calls.mono (HKN.out _) ?_
          rintro e w9 ⟨rfl, hb⟩
          replace HB := Lib.hid (bl_next HB.out HB.out.size hb)
          clear hb
          go_wp2_with fail
          go_ret
          exact ⟨rfl, HB.out⟩
end Go.Proofs.Ytjkedccbieoenaa
