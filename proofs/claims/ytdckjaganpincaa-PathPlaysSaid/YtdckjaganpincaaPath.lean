/- the program's package path: each function's contract. -/
import Derived.Test.YtdckjaganpincaaMix
import Derived.Test.YtdckjaganpincaaBook
import Derived.Test.YtdckjaganpincaaRegion
import Derived.Test.YtdckjaganpincaaArr
namespace Go.Proofs.Ytdckjaganpincaa
open Go.RowKit
set_option linter.unusedVariables false

theorem At.trans {w0 w1 w2 : World} {b : Nat} {cs cs' : Array Value} {t : TypeId} (h : At w1 b cs t w0) (k : At w2 b cs' t w1) : At w2 b cs' t w0 := ⟨k.row, grown_trans h.rest k.rest⟩
theorem At.below {w0 w1 w2 : World} {b : Nat} {cs : Array Value} {t : TypeId} (h : At w1 b cs t w0) (k : Below w1.heap.size w1 w2) : At w2 b cs t w0 :=
  ⟨bl_row k (lt_of_block h.row) h.row, grown_trans h.rest (grown_below k _)⟩
theorem At.bl {w0 w1 : World} {B b : Nat} {cs : Array Value} {t : TypeId} (h : At w1 b cs t w0) (hB : B ≤ b) (hs : B ≤ w0.heap.size) : Below B w0 w1 :=
  ⟨h.rest.os, h.rest.tape, h.rest.output, h.rest.size, fun k hk => h.rest.block k (by omega) (by intro e; injection e with e; omega)⟩

def pathRow (to : Int) (kn : Bool) (seed h t : Int) : Array Value := #[.int .i64 to, .bool kn, .int .u64 seed, .int .i64 h, .int .i64 t]
def isPath (w : World) (b : Nat) (to : Int) (kn : Bool) (seed h t : Int) : Prop := w.heap[b]? = some (.cells (pathRow to kn seed h t) 41 (0, 0))
def moreM (n k : Int) : Int := n + (if 1099511627776 - n < (if 0 < k then k else 0) then 1099511627776 - n else (if 0 < k then k else 0))
def mayM (kn : Bool) (h t n : Int) : Bool := decide (0 ≤ n) && (kn || decide (n ≤ 3 * h - t))

theorem set8 {w : World} {b : Nat} {u0 u1 u2 u3 u4 u5 u6 u7 : Value} {t : TypeId} (h : w.heap[b]? = some (.cells #[u0, u1, u2, u3, u4, u5, u6, u7] t (0, 0))) (x0 x1 x2 x3 x4 x5 x6 x7 : Value) :
    At ((((((((w.setCell ⟨b, 0, none⟩ x0).setCell ⟨b, 1, none⟩ x1).setCell ⟨b, 2, none⟩ x2).setCell ⟨b, 3, none⟩ x3).setCell ⟨b, 4, none⟩ x4).setCell ⟨b, 5, none⟩ x5).setCell ⟨b, 6, none⟩ x6).setCell ⟨b, 7, none⟩ x7)
      b #[x0, x1, x2, x3, x4, x5, x6, x7] t w := by
  have h0 := At.base h
  have h1 : At _ b #[x0, u1, u2, u3, u4, u5, u6, u7] t w := (h0.set 0 x0).conv (by rfl)
  have h2 : At _ b #[x0, x1, u2, u3, u4, u5, u6, u7] t w := (h1.set 1 x1).conv (by rfl)
  have h3 : At _ b #[x0, x1, x2, u3, u4, u5, u6, u7] t w := (h2.set 2 x2).conv (by rfl)
  have h4 : At _ b #[x0, x1, x2, x3, u4, u5, u6, u7] t w := (h3.set 3 x3).conv (by rfl)
  have h5 : At _ b #[x0, x1, x2, x3, x4, u5, u6, u7] t w := (h4.set 4 x4).conv (by rfl)
  have h6 : At _ b #[x0, x1, x2, x3, x4, x5, u6, u7] t w := (h5.set 5 x5).conv (by rfl)
  have h7 : At _ b #[x0, x1, x2, x3, x4, x5, x6, u7] t w := (h6.set 6 x6).conv (by rfl)
  have h8 : At _ b #[x0, x1, x2, x3, x4, x5, x6, x7] t w := (h7.set 7 x7).conv (by rfl)
  exact h8

theorem new_any (w : World) (to : Int) (kn : Bool) (seed : Int) :
    Calls Try.prog 7 #[.int .i64 to, .bool kn, .int .u64 seed] w fun e w' => e = .returned (.pointer (some ⟨w.heap.size, 0, none⟩)) ∧ Fresh w w' (.cells (pathRow to kn seed 0 0) 41 (0, 0)) := by
  go_enter Try.func7, Try.ntmps7
  go_wp2_with fail
  go_ret
  exact ⟨rfl, Fresh.of_alloc _ _⟩
theorem more_any (w : World) (n k : Int) (hn : 0 ≤ n ∧ n ≤ 1099511627776) :
    Calls Try.prog 20 #[.int .i64 n, .int .i64 k] w fun e w' => e = .returned (.int .i64 (moreM n k)) ∧ w = w' := by
  obtain ⟨m, hm⟩ : ∃ m, (if 0 < k then k else 0) = m := ⟨_, rfl⟩
  obtain ⟨d, hd⟩ : ∃ d, (if 1099511627776 - n < m then 1099511627776 - n else m) = d := ⟨_, rfl⟩
  have hd1 : 0 ≤ d ∧ d ≤ 1099511627776 - n := by rw [← hd, ← hm]; (repeat' split) <;> omega
  have e1 : moreM n k = n + d := by rw [← hd, ← hm]; rfl
  have E1 := Lib.hid e1; clear e1
  go_enter Try.func20, Try.ntmps20
  go_wp2_with fail
  go_ret
  exact ⟨by rw [E1.out]; rfl, rfl⟩
theorem got_any (w : World) (b : Nat) (to : Int) (kn : Bool) (seed h t n : Int) (hh : 0 ≤ h ∧ h ≤ 1099511627776) (hp : isPath w b to kn seed h t) :
    Calls Try.prog 9 #[.pointer (some ⟨b, 0, none⟩), .int .i64 n] w fun e w' => e = .returned (.tuple #[]) ∧ At w' b (pathRow to kn seed (moreM h n) t) 41 w := by
  have c3 : w.cell? ⟨b, 3, none⟩ = some (.int .i64 h) := row_cell hp 3 _ rfl
  have f3 : w.frozen? ⟨b, 3, none⟩ = false := row_free hp 3
  have HE := Lib.hid (At.base hp); clear hp
  go_enter Try.func9, Try.ntmps9
  go_wp2_with fail
  refine Calls.mono (more_any _ _ _ hh) ?_
  rintro e w' ⟨rfl, rfl⟩
  go_wp2_with fail
  go_end0
  exact ⟨rfl, HE.out.set 3 _⟩
theorem went_any (w : World) (b : Nat) (to : Int) (kn : Bool) (seed h t n : Int) (hh : 0 ≤ t ∧ t ≤ 1099511627776) (hp : isPath w b to kn seed h t) :
    Calls Try.prog 11 #[.pointer (some ⟨b, 0, none⟩), .int .i64 n] w fun e w' => e = .returned (.tuple #[]) ∧ At w' b (pathRow to kn seed h (moreM t n)) 41 w := by
  have c4 : w.cell? ⟨b, 4, none⟩ = some (.int .i64 t) := row_cell hp 4 _ rfl
  have f4 : w.frozen? ⟨b, 4, none⟩ = false := row_free hp 4
  have HE := Lib.hid (At.base hp); clear hp
  go_enter Try.func11, Try.ntmps11
  go_wp2_with fail
  refine Calls.mono (more_any _ _ _ hh) ?_
  rintro e w' ⟨rfl, rfl⟩
  go_wp2_with fail
  go_end0
  exact ⟨rfl, HE.out.set 4 _⟩
theorem may_any (w : World) (b : Nat) (to : Int) (kn : Bool) (seed h t n : Int) (hh : 0 ≤ h ∧ h ≤ 1099511627776) (ht : 0 ≤ t ∧ t ≤ 1099511627776) (hp : isPath w b to kn seed h t) :
    Quiet Try.prog 10 #[.pointer (some ⟨b, 0, none⟩), .int .i64 n] w (.bool (mayM kn h t n)) := by
  have c1 : w.cell? ⟨b, 1, none⟩ = some (.bool kn) := row_cell hp 1 _ rfl
  have c3 : w.cell? ⟨b, 3, none⟩ = some (.int .i64 h) := row_cell hp 3 _ rfl
  have c4 : w.cell? ⟨b, 4, none⟩ = some (.int .i64 t) := row_cell hp 4 _ rfl
  clear hp
  by_cases h1 : 0 ≤ n
  · cases kn
    · by_cases h2 : n ≤ 3 * h - t
      · have E := Lib.hid (show mayM false h t n = true by simp [mayM, h1, h2])
        go_enter Try.func10, Try.ntmps10
        go_wp2_with fail
        go_quiet (fail)
        go_wp2_with fail
        go_ret
        exact ⟨by rw [E.out]; rfl, _, rfl⟩
      · have E := Lib.hid (show mayM false h t n = false by simp [mayM, h2])
        go_enter Try.func10, Try.ntmps10
        go_wp2_with fail
        replace h2 := Int.not_le.2 h2
        go_quiet (fail)
        go_wp2_with fail
        go_ret
        exact ⟨by rw [E.out]; rfl, _, rfl⟩
    · have E := Lib.hid (show mayM true h t n = true by simp [mayM, h1])
      go_enter Try.func10, Try.ntmps10
      go_wp2_with fail
      go_quiet (fail)
      go_wp2_with fail
      go_ret
      exact ⟨by rw [E.out]; rfl, _, rfl⟩
  · have E := Lib.hid (show mayM kn h t n = false by simp [mayM, h1])
    go_enter Try.func10, Try.ntmps10
    go_wp2_with fail
    replace h1 := Int.not_le.2 h1
    go_quiet (fail)
    go_wp2_with fail
    go_ret
    exact ⟨by rw [E.out]; rfl, _, rfl⟩
theorem known_any (w : World) (b : Nat) (to : Int) (kn : Bool) (seed h t : Int) (hp : isPath w b to kn seed h t) :
    Calls Try.prog 14 #[.pointer (some ⟨b, 0, none⟩)] w fun e w' => e = .returned (.bool kn) ∧ w = w' := by
  have c1 : w.cell? ⟨b, 1, none⟩ = some (.bool kn) := row_cell hp 1 _ rfl
  clear hp
  go_enter Try.func14, Try.ntmps14
  go_wp2_with fail
  go_ret
  exact ⟨rfl, rfl⟩
theorem to_any (w : World) (b : Nat) (to : Int) (kn : Bool) (seed h t : Int) (hp : isPath w b to kn seed h t) :
    Calls Try.prog 21 #[.pointer (some ⟨b, 0, none⟩)] w fun e w' => e = .returned (.int .i64 to) ∧ w = w' := by
  have c1 : w.cell? ⟨b, 0, none⟩ = some (.int .i64 to) := row_cell hp 0 _ rfl
  clear hp
  go_enter Try.func21, Try.ntmps21
  go_wp2_with fail
  go_ret
  exact ⟨rfl, rfl⟩
theorem heard_any (w : World) (b : Nat) (to : Int) (kn : Bool) (seed h t : Int) (hp : isPath w b to kn seed h t) :
    Calls Try.prog 13 #[.pointer (some ⟨b, 0, none⟩)] w fun e w' => e = .returned (.int .i64 h) ∧ w = w' := by
  have c1 : w.cell? ⟨b, 3, none⟩ = some (.int .i64 h) := row_cell hp 3 _ rfl
  clear hp
  go_enter Try.func13, Try.ntmps13
  go_wp2_with fail
  go_ret
  exact ⟨rfl, rfl⟩
theorem told_any (w : World) (b : Nat) (to : Int) (kn : Bool) (seed h t : Int) (hp : isPath w b to kn seed h t) :
    Calls Try.prog 12 #[.pointer (some ⟨b, 0, none⟩)] w fun e w' => e = .returned (.int .i64 t) ∧ w = w' := by
  have c1 : w.cell? ⟨b, 4, none⟩ = some (.int .i64 t) := row_cell hp 4 _ rfl
  clear hp
  go_enter Try.func12, Try.ntmps12
  go_wp2_with fail
  go_ret
  exact ⟨rfl, rfl⟩
theorem knows_any (w : World) (b : Nat) (to : Int) (kn : Bool) (seed h t : Int) (hp : isPath w b to kn seed h t) :
    Calls Try.prog 15 #[.pointer (some ⟨b, 0, none⟩)] w fun e w' => e = .returned (.tuple #[]) ∧ At w' b (pathRow to true seed h t) 41 w := by
  have f1 : w.frozen? ⟨b, 1, none⟩ = false := row_free hp 1
  have c1 : w.cell? ⟨b, 1, none⟩ = some (.bool kn) := row_cell hp 1 _ rfl
  have HE := Lib.hid (At.base hp); clear hp
  go_enter Try.func15, Try.ntmps15
  go_wp2_with fail
  go_end0
  exact ⟨rfl, HE.out.set 1 _⟩
theorem challenge_any (w : World) (b : Nat) (to : Int) (kn : Bool) (seed h t : Int) (hp : isPath w b to kn seed h t) :
    Calls Try.prog 17 #[.pointer (some ⟨b, 0, none⟩)] w fun e w' => e = .returned (.agg ((bytesM (nextM seed)).map (Value.int .u8)).toArray) ∧ Below w.heap.size w w' := by
  have c2 : w.cell? ⟨b, 2, none⟩ = some (.int .u64 seed) := row_cell hp 2 _ rfl
  have hb := lt_of_block hp
  have HP := Lib.hid hp; clear hp
  obtain ⟨x0, x1, x2, x3, x4, x5, x6, x7, ex⟩ : ∃ x0 x1 x2 x3 x4 x5 x6 x7, bytesM (nextM seed) = [x0, x1, x2, x3, x4, x5, x6, x7] := ⟨_, _, _, _, _, _, _, _, rfl⟩
  have EX := Lib.hid ex; clear ex
  go_enter Try.func17, Try.ntmps17
  go_wp2_with fail
  refine Calls.mono (next_any _ _) ?_
  rintro e w' ⟨rfl, n, rfl⟩
  go_wp2_with fail
  refine Calls.mono (bytes_any _ _) ?_
  rintro e w2 ⟨rfl, hb2⟩
  rw [EX.out]
  have hr := bl_row hb2 (b := w.heap.size) (o := .cells #[.int .u8 0, .int .u8 0, .int .u8 0, .int .u8 0, .int .u8 0, .int .u8 0, .int .u8 0, .int .u8 0] 28 (0, 0)) (by simp) (heap_alloc_new _ _)
  have HB := Lib.hid (bl_next (bl_drewN ((Below.refl w.heap.size w).alloc (Nat.le_refl _) _) _) (by simp) hb2)
  have f0 := row_free hr 0
  have f1 := row_free hr 1
  have f2 := row_free hr 2
  have f3 := row_free hr 3
  have f4 := row_free hr 4
  have f5 := row_free hr 5
  have f6 := row_free hr 6
  have f7 := row_free hr 7
  have c0 : w2.cell? ⟨w.heap.size, 0, none⟩ = some (.int .u8 0) := row_cell hr 0 _ rfl
  have c1 : w2.cell? ⟨w.heap.size, 1, none⟩ = some (.int .u8 0) := row_cell hr 1 _ rfl
  have c2 : w2.cell? ⟨w.heap.size, 2, none⟩ = some (.int .u8 0) := row_cell hr 2 _ rfl
  have c3 : w2.cell? ⟨w.heap.size, 3, none⟩ = some (.int .u8 0) := row_cell hr 3 _ rfl
  have c4 : w2.cell? ⟨w.heap.size, 4, none⟩ = some (.int .u8 0) := row_cell hr 4 _ rfl
  have c5 : w2.cell? ⟨w.heap.size, 5, none⟩ = some (.int .u8 0) := row_cell hr 5 _ rfl
  have c6 : w2.cell? ⟨w.heap.size, 6, none⟩ = some (.int .u8 0) := row_cell hr 6 _ rfl
  have c7 : w2.cell? ⟨w.heap.size, 7, none⟩ = some (.int .u8 0) := row_cell hr 7 _ rfl
  have hA := set8 hr (.int .u8 x0) (.int .u8 x1) (.int .u8 x2) (.int .u8 x3) (.int .u8 x4) (.int .u8 x5) (.int .u8 x6) (.int .u8 x7)
  clear hr hb2
  go_wp2_with fail
  generalize ((((((((w2.setCell { block := w.heap.size, off := 0 } (Value.int IntKind.u8 x0)).setCell { block := w.heap.size, off := 1 } (Value.int IntKind.u8 x1)).setCell { block := w.heap.size, off := 2 } (Value.int IntKind.u8 x2)).setCell { block := w.heap.size, off := 3 } (Value.int IntKind.u8 x3)).setCell { block := w.heap.size, off := 4 } (Value.int IntKind.u8 x4)).setCell { block := w.heap.size, off := 5 } (Value.int IntKind.u8 x5)).setCell { block := w.heap.size, off := 6 } (Value.int IntKind.u8 x6)).setCell { block := w.heap.size, off := 7 } (Value.int IntKind.u8 x7)) = w3 at hA ⊢
  have d0 := hA.cell 0 _ rfl
  have d1 := hA.cell 1 _ rfl
  have d2 := hA.cell 2 _ rfl
  have d3 := hA.cell 3 _ rfl
  have d4 := hA.cell 4 _ rfl
  have d5 := hA.cell 5 _ rfl
  have d6 := hA.cell 6 _ rfl
  have d7 := hA.cell 7 _ rfl
  simp at d0 d1 d2 d3 d4 d5 d6 d7
  have HA := Lib.hid hA; clear hA c0 c1 c2 c3 c4 c5 c6 c7 f0 f1 f2 f3 f4 f5 f6 f7
  refine bodyPost_ret (v := .agg #[.int .u8 x0, .int .u8 x1, .int .u8 x2, .int .u8 x3, .int .u8 x4, .int .u8 x5, .int .u8 x6, .int .u8 x7]) (by simp [results, Try.results17, go_sem, d0, d1, d2, d3, d4, d5, d6, d7]) rfl ⟨by rw [EX.out]; rfl, HB.out.trans (HA.out.bl (Nat.le_refl _) HB.out.size)⟩
theorem response_core (w : World) (b : Nat) (to : Int) (kn : Bool) (seed h t : Int) (x0 x1 x2 x3 x4 x5 x6 x7 : Int) (q : Bool) (hwx : ∀ x ∈ [x0, x1, x2, x3, x4, x5, x6, x7], (Lit.int .u8 x).wf = true) (hp : isPath w b to kn seed h t)
    (hqe : ([x0, x1, x2, x3, x4, x5, x6, x7] == bytesM (nextM seed)) = q) :
    Calls Try.prog 18 #[.pointer (some ⟨b, 0, none⟩), .agg #[.int .u8 x0, .int .u8 x1, .int .u8 x2, .int .u8 x3, .int .u8 x4, .int .u8 x5, .int .u8 x6, .int .u8 x7]] w fun e w' =>
      e = .returned (.bool q) ∧ At w' b (pathRow to (kn || q) seed h t) 41 w := by
  obtain ⟨y0, y1, y2, y3, y4, y5, y6, y7, ey⟩ : ∃ y0 y1 y2 y3 y4 y5 y6 y7, bytesM (nextM seed) = [y0, y1, y2, y3, y4, y5, y6, y7] := ⟨_, _, _, _, _, _, _, _, rfl⟩
  have hwy := wf_bytes (nextM seed)
  rw [ey] at hwy hqe
  have hq : ∀ w, (Op.equalIn 10000 28 (.agg #[.int .u8 x0, .int .u8 x1, .int .u8 x2, .int .u8 x3, .int .u8 x4, .int .u8 x5, .int .u8 x6, .int .u8 x7]) (.agg #[.int .u8 y0, .int .u8 y1, .int .u8 y2, .int .u8 y3, .int .u8 y4, .int .u8 y5, .int .u8 y6, .int .u8 y7])).run Try.prog w = .ok q w := fun w => by
    have h := eqin_bytes w 28 8 Try.underlying28 [x0, x1, x2, x3, x4, x5, x6, x7] [y0, y1, y2, y3, y4, y5, y6, y7] rfl rfl hwx hwy
    rw [hqe] at h; exact h
  have hb := lt_of_block hp
  have HP := Lib.hid hp; have EY := Lib.hid ey; have HB := Lib.hid hb
  clear hp ey hwx hwy hqe hb
  go_enter Try.func18, Try.ntmps18
  go_wp2_with fail
  have hW : Below w.heap.size w (w.alloc (.cells #[.int .u8 x0, .int .u8 x1, .int .u8 x2, .int .u8 x3, .int .u8 x4, .int .u8 x5, .int .u8 x6, .int .u8 x7] 28)) := (Below.refl _ _).alloc (Nat.le_refl _) _
  have hrow := heap_alloc_new w (.cells #[.int .u8 x0, .int .u8 x1, .int .u8 x2, .int .u8 x3, .int .u8 x4, .int .u8 x5, .int .u8 x6, .int .u8 x7] 28)
  generalize w.alloc (.cells #[.int .u8 x0, .int .u8 x1, .int .u8 x2, .int .u8 x3, .int .u8 x4, .int .u8 x5, .int .u8 x6, .int .u8 x7] 28) = W at hW hrow ⊢
  have hP : isPath W b to kn seed h t := bl_row hW HB.out HP.out
  have HP2 := Lib.hid (fun w' (hs : Below W.heap.size W w') => (bl_row hs (lt_of_block hP) hP : isPath w' b to kn seed h t))
  have HW := Lib.hid (And.intro hP hW)
  generalize w.heap.size = g at hrow ⊢
  have hce : ∀ i v, #[Value.int .u8 x0, Value.int .u8 x1, Value.int .u8 x2, Value.int .u8 x3, Value.int .u8 x4, Value.int .u8 x5, Value.int .u8 x6, Value.int .u8 x7][i]? = some v → ∀ s : In (fun w' => Below W.heap.size W w'), s.w.cell? ⟨g, i, none⟩ = some v :=
    fun i v hv s => bl_cell s.h (p := ⟨g, i, none⟩) (lt_of_block hrow) (row_cell hrow i v hv)
  have c0 := hce 0 _ rfl
  have c1 := hce 1 _ rfl
  have c2 := hce 2 _ rfl
  have c3 := hce 3 _ rfl
  have c4 := hce 4 _ rfl
  have c5 := hce 5 _ rfl
  have c6 := hce 6 _ rfl
  have c7 := hce 7 _ rfl
  clear hce hrow hP hW
  refine wp_plan (.t 0 (.t 1 (.u 2 (.u 3 .done)))) (fun w' => Below W.heap.size W w') (by kernel_rfl) (by kernel_rfl) (by kernel_rfl) (fun c a d v w h => by cases d <;> exact h) (Below.refl _ _).drew ?_
  have hS : Below W.heap.size W W.drew := (Below.refl _ _).drew
  generalize W.drew = W1 at hS ⊢
  haveI hne : Nonempty (In fun w' => Below W.heap.size W w') := ⟨⟨W, Below.refl _ _⟩⟩
  repeat (refine plan_t (by rfl) ?_; (first | go_big_quiet_skip | (go_big_quiet_want; go_big_quiet_op; go_big_quiet_on)); refine wpQuiet_nil ?_)
  refine plan_us (by rfl) (by kernel_rfl) ?_
  intro K hK
  go_wp2_with fail
  refine Calls.mono (challenge_any _ _ _ _ _ _ _ (HP2.out _ hS)) ?_
  rintro e W2 ⟨rfl, hb⟩
  rw [EY.out]
  replace hS := bl_next hS hS.size hb; clear hb
  go_wp2_with fail
  refine ⟨hS, ?_⟩
  refine plan_us (by rfl) (by kernel_rfl) ?_
  intro K hK
  go_wp2_with fail
  refine ⟨hS, ?_⟩
  show Exit.then _ _ _ _ _
  have hp3 := HP2.out _ hS
  have c1' := row_cell hp3 1 _ rfl
  have f1' := row_free hp3 1
  have HS := Lib.hid hS; clear hS
  have HP3 := Lib.hid (At.base hp3); clear hp3
  cases q
  · go_wp2_with fail
    go_ret
    rw [Bool.or_false]
    exact ⟨rfl, HP3.out.row, grown_below (bl_next HW.out.2 HW.out.2.size HS.out) _⟩
  · go_wp2_with fail
    go_ret
    rw [Bool.or_true]
    have h2 := HP3.out.set 1 (.bool true)
    exact ⟨rfl, h2.row, grown_trans (grown_below (bl_next HW.out.2 HW.out.2.size HS.out) _) h2.rest⟩
theorem response_any (w : World) (b : Nat) (to : Int) (kn : Bool) (seed h t : Int) (xs : List Int) (hl : xs.length = 8) (hwx : ∀ x ∈ xs, (Lit.int .u8 x).wf = true) (hp : isPath w b to kn seed h t) :
    Calls Try.prog 18 #[.pointer (some ⟨b, 0, none⟩), .agg (xs.map (Value.int .u8)).toArray] w fun e w' =>
      e = .returned (.bool (xs == bytesM (nextM seed))) ∧ At w' b (pathRow to (kn || (xs == bytesM (nextM seed))) seed h t) 41 w := by
  match xs, hl with
  | [x0, x1, x2, x3, x4, x5, x6, x7], _ => exact response_core w b to kn seed h t x0 x1 x2 x3 x4 x5 x6 x7 _ hwx hp rfl
end Go.Proofs.Ytdckjaganpincaa
