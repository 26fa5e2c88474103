/- wheel: Go: the clock, the wheels emptied. -/
import Derived.Test.YtjkedccbieoenaaWhl14
namespace Go.Proofs.Ytjkedccbieoenaa
open Go.RowKit
set_option linter.unusedVariables false
set_option linter.unusedSimpArgs false

/-- a part of a function's text. -/
def subRegion (n : Nat) : Code → Option Code
  | .region k o d => if k = n then some (.region k o d) else none
  | .seq a b => match subRegion n a with
    | some c => some c
    | none => subRegion n b
  | .cond _ a b => match subRegion n a with
    | some c => some c
    | none => subRegion n b
  | .block _ c => subRegion n c
  | .loop c => subRegion n c
  | _ => none
def subBlock (n : Nat) : Code → Option Code
  | .block k c => if k = n then some (.block k c) else subBlock n c
  | .seq a b => match subBlock n a with
    | some c => some c
    | none => subBlock n b
  | .cond _ a b => match subBlock n a with
    | some c => some c
    | none => subBlock n b
  | .loop c => subBlock n c
  | _ => none
def nil256 : List Value := List.replicate 256 (.slice none 0 0)
theorem nil256_len : nil256.length = 256 := List.length_replicate
theorem nil256_one : ∀ v ∈ nil256, v.oneCell' = true := fun v hv => by rw [List.eq_of_mem_replicate hv]; rfl
set_option maxRecDepth 100000 in
theorem nil256_run (w : World) : (zeroValue 48).run Try.prog w = .ok (.agg nil256.toArray) w := by kernel_rfl
theorem nilRows_eq : nilRows = nil256 ++ [.slice none 0 0] := List.replicate_succ'
theorem whCells_parts {vs : List Value} (now : Int) (b : Nat) (h : vs.length = 257) : ∃ u, whCells now vs b = [.int .i64 now] ++ (vs.take 256 ++ [u, .map (some b)]) := by
  have hl : (vs.drop 256).length = 1 := by rw [List.length_drop, h]
  obtain ⟨u, hu⟩ := List.length_eq_one_iff.1 hl
  refine ⟨u, ?_⟩
  unfold whCells
  conv => lhs; rw [← List.take_append_drop 256 vs, hu, List.append_assoc]
  rfl
theorem parts_at (now : Int) (u x : Value) (L : List Value) (hl : L.length = 256) : ([.int .i64 now] ++ (L ++ [u, x]))[257]? = some u ∧ ([.int .i64 now] ++ (L ++ [u, x]))[258]? = some x := by
  constructor
  · rw [List.getElem?_append_right (by simp), List.getElem?_append_right (by simp; omega)]; simp [hl]
  · rw [List.getElem?_append_right (by simp), List.getElem?_append_right (by simp; omega)]; simp [hl]
theorem parts_set (now : Int) (u x u2 : Value) (b2 : Nat) : ((([.int .i64 now] : List Value) ++ (nil256 ++ [u, x])).set 257 (.slice none 0 0)).set 258 (.map (some b2)) = whCells now nilRows b2 := by
  unfold whCells
  have h1 : ([.int .i64 now] : List Value) ++ (nil256 ++ [u, x]) = .int .i64 now :: (nil256 ++ [u, x]) := rfl
  rw [h1, nilRows_eq, List.set_cons_succ, List.set_cons_succ, List.set_append_right _ _ (by rw [nil256_len]; omega), List.set_append_right _ _ (by rw [nil256_len]; omega), nil256_len, List.append_assoc]
  rfl
def goN (now t : Int) : Int := max now (min t 1099511627776)
set_option maxRecDepth 100000 in
set_option maxHeartbeats 4000000 in
theorem go_r2 {x2 x3 x4 x5 x6 x7 x8 x9 x10 x11 x12 x13 x14 x15 x16 x17 x18 x19 x20 x21 x22 x23 x24 x25 x26 x27 x28 x29 x30 x31 x32 x33 x34 x35 x36 x37 x38 x39 x40 x41 x42 x43 x44 x45 x46 x47 x48 x49 x50 x51 x52 x53 x54 x55 x56 : Value} {p : Nat} {now t : Int} (w : World) {Q : Exit → Act → World → Prop}
    (hc : w.cell? ⟨p, 0, none⟩ = some (.int .i64 now)) (hz : w.frozen? ⟨p, 0, none⟩ = false)
    (hQp : ∀ c a d v w, Q (.panic c) (a.put d v) w → Q (.panic c) a w)
    (hQ : ∀ (y11 y12 y13 y14 y15 y16 y17 y18 y19 y20 : Value) (w' : World), w' = w.setCell ⟨p, 0, none⟩ (.int .i64 (goN now t)) → Q .normal ⟨List.toArray (.pointer (some ⟨p, 0, none⟩) :: .int .i64 t :: x2 :: x3 :: x4 :: x5 :: x6 :: x7 :: x8 :: x9 :: x10 :: y11 :: y12 :: y13 :: y14 :: y15 :: y16 :: y17 :: y18 :: y19 :: y20 :: x21 :: x22 :: x23 :: x24 :: x25 :: x26 :: x27 :: x28 :: x29 :: x30 :: x31 :: x32 :: x33 :: x34 :: x35 :: x36 :: x37 :: x38 :: x39 :: x40 :: x41 :: x42 :: x43 :: x44 :: x45 :: x46 :: x47 :: x48 :: x49 :: x50 :: x51 :: x52 :: x53 :: x54 :: x55 :: x56 :: []), []⟩ w') :
    Code.wp Try.prog (((Try.f11.body.bind (subRegion 2)).getD .skip)) Q ⟨List.toArray (.pointer (some ⟨p, 0, none⟩) :: .int .i64 t :: x2 :: x3 :: x4 :: x5 :: x6 :: x7 :: x8 :: x9 :: x10 :: x11 :: x12 :: x13 :: x14 :: x15 :: x16 :: x17 :: x18 :: x19 :: x20 :: x21 :: x22 :: x23 :: x24 :: x25 :: x26 :: x27 :: x28 :: x29 :: x30 :: x31 :: x32 :: x33 :: x34 :: x35 :: x36 :: x37 :: x38 :: x39 :: x40 :: x41 :: x42 :: x43 :: x44 :: x45 :: x46 :: x47 :: x48 :: x49 :: x50 :: x51 :: x52 :: x53 :: x54 :: x55 :: x56 :: []), []⟩ w := by
  have HK := Lib.hid hQ; have HKP := Lib.hid hQp
  clear hQ hQp
  conv => arg 2; whnf
  go_wp2_with fail
  exact HK.out _ _ _ _ _ _ _ _ _ _ _ rfl
set_option maxRecDepth 100000 in
set_option maxHeartbeats 4000000 in
theorem go_r3 {x1 x2 x3 x4 x5 x6 x7 x8 x9 x10 x11 x12 x13 x14 x15 x16 x17 x18 x19 x20 x21 x22 x23 x24 x25 x26 x27 x28 x29 x30 x31 x32 x33 x34 x35 x36 x37 x38 x39 x40 x41 x42 x43 x44 x45 x46 x47 x48 x49 x50 x51 x52 x53 x54 x55 x56 : Value} {p : Nat} {now : Int} {vs : List Value} {b : Nat} (w : World) {Q : Exit → Act → World → Prop}
    (hc : w.heap[p]? = some (.cells (whCells now vs b).toArray 50 (0, 0))) (hl : vs.length = 257)
    (hQp : ∀ c a d v w, Q (.panic c) (a.put d v) w → Q (.panic c) a w)
    (hQ : ∀ (y21 y22 y23 y24 y25 y26 y27 y28 y29 y30 y31 : Value) (w' : World), w'.heap[p]? = some (.cells (whCells now nilRows w.heap.size).toArray 50 (0, 0)) ∧ w'.ownsMap (H := Unit) Try.prog 3 (plainElem Try.prog 2) w.heap.size 0 (.map []) ∧ Off [p] w w' → Q .normal ⟨List.toArray (.pointer (some ⟨p, 0, none⟩) :: x1 :: x2 :: x3 :: x4 :: x5 :: x6 :: x7 :: x8 :: x9 :: x10 :: x11 :: x12 :: x13 :: x14 :: x15 :: x16 :: x17 :: x18 :: x19 :: x20 :: y21 :: y22 :: y23 :: y24 :: y25 :: y26 :: y27 :: y28 :: y29 :: y30 :: y31 :: x32 :: x33 :: x34 :: x35 :: x36 :: x37 :: x38 :: x39 :: x40 :: x41 :: x42 :: x43 :: x44 :: x45 :: x46 :: x47 :: x48 :: x49 :: x50 :: x51 :: x52 :: x53 :: x54 :: x55 :: x56 :: []), []⟩ w') :
    Code.wp Try.prog (((Try.f11.body.bind (subRegion 3)).getD .skip)) Q ⟨List.toArray (.pointer (some ⟨p, 0, none⟩) :: x1 :: x2 :: x3 :: x4 :: x5 :: x6 :: x7 :: x8 :: x9 :: x10 :: x11 :: x12 :: x13 :: x14 :: x15 :: x16 :: x17 :: x18 :: x19 :: x20 :: x21 :: x22 :: x23 :: x24 :: x25 :: x26 :: x27 :: x28 :: x29 :: x30 :: x31 :: x32 :: x33 :: x34 :: x35 :: x36 :: x37 :: x38 :: x39 :: x40 :: x41 :: x42 :: x43 :: x44 :: x45 :: x46 :: x47 :: x48 :: x49 :: x50 :: x51 :: x52 :: x53 :: x54 :: x55 :: x56 :: []), []⟩ w := by
  have HK := Lib.hid hQ; have HKP := Lib.hid hQp
  clear hQ hQp
  conv => arg 2; whnf
  have hmm := @run_makeMap Try.prog
  have hz := nil256_run
  obtain ⟨u, hu⟩ := whCells_parts now b hl
  rw [hu] at hc
  have hpl := lt_of_block hc
  have hb := (Below.refl w.heap.size w).alloc (Nat.le_refl _) (.map #[] 0)
  have HR := Lib.hid (bl_row hb hpl hc)
  have hm := World.ownsMap_made (H := Unit) w Try.prog 3 (plainElem Try.prog 2)
  have HM := Lib.hid hm; have HB := Lib.hid hb; have HPL := Lib.hid hpl
  have HTL : Hid ((vs.take 256).length = 256) := Lib.hid (by rw [List.length_take, hl]; rfl)
  have HNL := Lib.hid nil256_len; have HNO := Lib.hid nil256_one
  clear hu hb hm hc hl hpl
  generalize vs.take 256 = VT at HR HTL
  go_wp2_with (first | (refine wpList_store_part rfl 48 _ _ rfl p 1 rfl nil256 50 [.int .i64 now] VT [u, .map (some b)] rfl HR.out rfl (by rw [HTL.out, HNL.out]) (by rw [HNL.out]; rfl) HNO.out ?_; intro w2 hr2 hg2; have HR2 := Lib.hid hr2; have HG2 := Lib.hid hg2; have c1 := cell_row hr2 257 _ (parts_at now u (.map (some b)) nil256 HNL.out).1; have z1 := row_free hr2 257; have c2 := cell_row hr2 258 _ (parts_at now u (.map (some b)) nil256 HNL.out).2; have z2 := row_free hr2 258; clear hr2 hg2) | fail)
  have hr3 := row_set (row_set HR2.out 257 (.slice none 0 0)) 258 (.map (some w.heap.size))
  rw [parts_set now u _ u] at hr3
  have hne : some w.heap.size ≠ some p := fun e => by injection e with e; have := HPL.out; omega
  have hm2 := HM.out.kept HG2.out hne
  have hO : Off [p] w ((w2.setCell ⟨p, 257, none⟩ (.slice none 0 0)).setCell ⟨p, 258, none⟩ (.map (some w.heap.size))) := (((Off.of_below (M := [p]) HB.out).trans (N := [p]) (Off.of_grown HG2.out (fun g hg => by injection hg with hg; rw [hg]; exact List.mem_singleton.2 rfl)) (fun x hx => .inl hx)).setCell (List.mem_singleton.2 rfl) _).setCell (List.mem_singleton.2 rfl) _
  have hm3 := map_off hm2 (((Off.refl [p] w2).setCell (g := p) (k := 257) (List.mem_singleton.2 rfl) (.slice none 0 0)).setCell (g := p) (k := 258) (List.mem_singleton.2 rfl) (.map (some w.heap.size))) (fun hx => hne (by rw [List.mem_singleton.1 hx]))
  exact HK.out _ _ _ _ _ _ _ _ _ _ _ _ ⟨hr3, hm3, hO⟩
end Go.Proofs.Ytjkedccbieoenaa
