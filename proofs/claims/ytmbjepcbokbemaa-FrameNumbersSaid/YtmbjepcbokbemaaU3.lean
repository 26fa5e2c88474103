/- texts of the proof, laid together: Keep2, Keep3, Frm5. -/
import Derived.Test.YtmbjepcbokbemaaU2
import Derived.Test.YtmbjepcbokbemaaU1
set_option linter.unusedVariables false
set_option linter.unusedSimpArgs false
set_option maxRecDepth 100000
set_option maxHeartbeats 16000000
namespace Go.Proofs.Ytmbjepcbokbemaa
open Go.RowKit
def subRegion (n : Nat) : Code → Option Code
 | .region k o d => if k = n then some (.region k o d) else none
 | .seq a b => match subRegion n a with
  | some c => some c
  | none => subRegion n b
 | .cond _ a b => match subRegion n a with
  | some c => some c
  | none => subRegion n b
 | .block _ c => subRegion n c
 | .loop c => subRegion n c
 | _ => none
def subBlock (n : Nat) : Code → Option Code
 | .block k c => if k = n then some (.block k c) else subBlock n c
 | .seq a b => match subBlock n a with
  | some c => some c
  | none => subBlock n b
 | .cond _ a b => match subBlock n a with
  | some c => some c
  | none => subBlock n b
 | .loop c => subBlock n c
 | _ => none
def KLoc (B : Nat) (da : Option Addr) (dn : Nat) (dv rv : Value) : Prop := (∀ x n c, dv = .slice (some x) n c → (da = some x ∧ n ≤ dn) ∨ B ≤ x.block) ∧ ∀ x n c, rv = .slice (some x) n c → B ≤ x.block
theorem KLoc.nil (B : Nat) (da : Option Addr) (dn : Nat) : KLoc B da dn (.slice none 0 0) (.slice none 0 0) := ⟨fun x n c h => (by injection h with h; cases h), fun x n c h => (by injection h with h; cases h)⟩
theorem KLoc.data (B : Nat) (da : Option Addr) (dn n c : Nat) (hn : n ≤ dn) : KLoc B da dn (.slice da n c) (.slice none 0 0) := ⟨fun x m c h => (by injection h with h h2; subst h2; exact .inl ⟨h, hn⟩), fun x n c h => (by injection h with h; cases h)⟩
theorem KLoc.rg {B : Nat} {da a : Option Addr} {dn n c : Nat} (h : ∀ x, a = some x → B ≤ x.block) : KLoc B da dn (.slice none 0 0) (.slice a n c) := ⟨fun x n c h => (by injection h with h; cases h), fun x n c e => (by injection e with e; exact h x e)⟩
theorem KLoc.less {B C : Nat} {da : Option Addr} {dn : Nat} {dv rv : Value} (h : KLoc B da dn dv rv) (hc : C ≤ B) : KLoc C da dn dv rv := ⟨fun x n c e => (h.1 x n c e).imp id (Nat.le_trans hc), fun x n c e => Nat.le_trans hc (h.2 x n c e)⟩
end Go.Proofs.Ytmbjepcbokbemaa
namespace Go.Proofs.Ytmbjepcbokbemaa
open Go.RowKit
theorem one19 {k s1 s2 s3 s4 s5 s6 s7 c0 c1 c2 c3 c4 c5 c6 c7 : Int} {dv rv : Value} {b : Bool} (hd : dv.oneCell' = true) (hr : rv.oneCell' = true) :
  ∀ v ∈ ([.int .i64 k, .int .u64 s1, .int .u64 s2, dv, .bool b, .int .u64 s3, .int .u64 s4, .int .u64 s5, .int .u64 s6, .int .u64 s7, rv, .int .u8 c0, .int .u8 c1, .int .u8 c2, .int .u8 c3, .int .u8 c4, .int .u8 c5, .int .u8 c6, .int .u8 c7] : List Value), v.oneCell' = true := by
 intro v hv
 simp only [List.mem_cons, List.not_mem_nil, or_false] at hv
 rcases hv with rfl | rfl | rfl | rfl | rfl | rfl | rfl | rfl | rfl | rfl | rfl | rfl | rfl | rfl | rfl | rfl | rfl | rfl | rfl <;> first | rfl | assumption
theorem Fr.one {f : Fr} {dv rv : Value} {w : World} (h : FrAt w f dv rv) : ∀ v ∈ f.cells dv rv, v.oneCell' = true := by
 obtain ⟨a, n, c, rfl, _⟩ := h.d
 obtain ⟨a', n', c', rfl, _⟩ := h.r
 intro v hv
 rcases List.mem_append.1 hv with hv | hv
 ·
  simp only [List.mem_cons, List.not_mem_nil, or_false] at hv
  rcases hv with rfl | rfl | rfl | rfl | rfl | rfl | rfl | rfl | rfl | rfl | rfl <;> rfl
 ·
  obtain ⟨x, _, rfl⟩ := List.mem_map.1 hv; rfl
theorem Fr.len {f : Fr} {dv rv : Value} (h : f.Wf) : (f.cells dv rv).length = 19 := by
 simp [Fr.cells, h.cidl]
end Go.Proofs.Ytmbjepcbokbemaa
namespace Go.Proofs.Ytmbjepcbokbemaa
open Go.RowKit
theorem take_snd4 {α : Type} {L : List α} {i : Nat} {x : α} (hx : L[i]? = some x) : L.take (i + 1) = L.take i ++ [x] := by rw [List.take_add_one, hx]; rfl
theorem rises_pre : ∀ (m l : List (Int × Int)), risesB (l ++ m) = true → risesB l = true
 | [], l, h => by rw [List.append_nil] at h; exact h
 | x :: m, l, h => (rises_snoc_inv (rises_pre m (l ++ [x]) (by rw [List.append_assoc]; exact h))).1
theorem rises_take {l : List (Int × Int)} (h : risesB l = true) (k : Nat) : risesB (l.take k) = true := rises_pre (l.drop k) (l.take k) (by rw [List.take_append_drop]; exact h)
theorem last_take {α : Type} {l : List α} {i : Nat} {y : α} (hy : l[i]? = some y) : (l.take (i + 1)).getLast? = some y := by rw [take_snd4 hy]; simp
theorem ack_ge {x1 x2 x5 x6 x7 x8 x9 x10 x11 x12 x13 x14 x15 x16 x17 x18 x19 x20 x21 x22 x23 x24 x25 x26 x27 x28 x29 x30 x31 x32 x33 x34 x35 x36 x37 x38 x39 x40 x41 x42 x43 x44 x45 x46 x47 x48 x49 x50 : Value} {a : Option Addr} {n cp gr i : Nat} {rs : List (Int × Int)} {d e p0 q0 : Int} (w : World) {Q : Exit → Act → World → Prop}
  (HL : Hid (rgK.At w a n rs)) (HX : Hid (rs[i]? = some (d, e))) (hi : i < n) (hn : n ≤ 16) (HG : Hid (w.heap[gr]? = some (.cells ([.int .u64 d, .int .u64 e] : List Value).toArray 71 (0, 0)))) (hc : ¬ d < e)
  (hQp : ∀ c a d v w, Q (.panic c) (a.put d v) w → Q (.panic c) a w)
  (hQ : ∀ (y30 y31 y32 y33 y34 y35 y36 y37 y38 y39 y40 y41 y42 y43 y44 y45 y46 y47 y48 : Value) (w' : World), Hid (Below w.heap.size w w') → Q .normal ⟨List.toArray (.slice a n cp :: x1 :: x2 :: .int .i64 i :: .pointer (some ⟨gr, 0, none⟩) :: x5 :: x6 :: x7 :: x8 :: x9 :: x10 :: x11 :: x12 :: x13 :: x14 :: x15 :: x16 :: x17 :: x18 :: x19 :: x20 :: x21 :: x22 :: x23 :: x24 :: x25 :: x26 :: x27 :: x28 :: x29 :: y30 :: y31 :: y32 :: y33 :: y34 :: y35 :: y36 :: y37 :: y38 :: y39 :: y40 :: y41 :: y42 :: y43 :: y44 :: y45 :: y46 :: y47 :: y48 :: .bool true :: x50 :: []), []⟩ w') :
  Code.wp Try.prog (((Try.f50.body.bind (subRegion 6)).getD .skip)) Q ⟨List.toArray (.slice a n cp :: x1 :: x2 :: .int .i64 i :: .pointer (some ⟨gr, 0, none⟩) :: x5 :: x6 :: x7 :: x8 :: x9 :: x10 :: x11 :: x12 :: x13 :: x14 :: x15 :: x16 :: x17 :: x18 :: x19 :: x20 :: x21 :: x22 :: x23 :: x24 :: x25 :: x26 :: x27 :: x28 :: x29 :: x30 :: x31 :: x32 :: x33 :: x34 :: x35 :: x36 :: x37 :: x38 :: x39 :: x40 :: x41 :: x42 :: x43 :: x44 :: x45 :: x46 :: x47 :: x48 :: x49 :: x50 :: []), []⟩ w := by
 have HK := Qh hQ; have HKP := Qh hQp
 clear hQ hQp
 conv => arg 2; whnf
 obtain ⟨ab, ao, x, rfl, _, hx, hok, hrg⟩ := HL.out.at hi
 rw [HX.out] at hx; injection hx with hx; subst hx
 have hu1 := hok.1; have hu2 := hok.2
 simp only [U64] at hu1 hu2
 clear hrg hok
 have hce : decide (e ≤ d) = true := by simp; omega
 have g0 : ∀ z : In (fun y => y.heap[gr]? = some (.cells ([.int .u64 d, .int .u64 e] : List Value).toArray 71 (0, 0))), z.w.cell? ⟨gr, 0, none⟩ = some (.int .u64 d) := fun z => row_cell z.h 0 _ rfl
 have g1 : ∀ z : In (fun y => y.heap[gr]? = some (.cells ([.int .u64 d, .int .u64 e] : List Value).toArray 71 (0, 0))), z.w.cell? ⟨gr, 1, none⟩ = some (.int .u64 e) := fun z => row_cell z.h 1 _ rfl
 refine wp_plan (.t 0 (.t 1 (.t 2 (.t 3 (.t 4 (.t 5 (.t 6 (.t 7 (.t 8 (.t 9 (.t 10 (.t 11 (.t 12 (.t 13 (.t 14 (.t 15 (.t 16 (.t 17 (.t 18 (.t 19 .done)))))))))))))))))))) (fun y => y.heap[gr]? = some (.cells ([.int .u64 d, .int .u64 e] : List Value).toArray 71 (0, 0))) (by kernel_rfl) (by kernel_rfl) (by kernel_rfl) (fun c a d v w h => by first | (cases d <;> exact h) | exact HKP.out c a d v w h) HG.out ?_
 haveI hne : Nonempty (In (fun y => y.heap[gr]? = some (.cells ([.int .u64 d, .int .u64 e] : List Value).toArray 71 (0, 0)))) := ⟨⟨w, HG.out⟩⟩
 repeat (first | rw [hce] | (refine plan_t (by rfl) ?_; (first | go_big_quiet_skip | (go_big_quiet_want; go_big_quiet_op; go_big_quiet_on)); refine wpQuiet_nil ?_))
 clear hne
 show Q _ _ _
 exact HK.out _ _ _ _ _ _ _ _ _ _ _ _ _ _ _ _ _ _ _ w.drew (Qh (Below.refl w.heap.size w).drew)
theorem ack_first {x1 x2 x5 x6 x7 x8 x9 x10 x11 x12 x13 x14 x15 x16 x17 x18 x19 x20 x21 x22 x23 x24 x25 x26 x27 x28 x29 x30 x31 x32 x33 x34 x35 x36 x37 x38 x39 x40 x41 x42 x43 x44 x45 x46 x47 x48 x49 x50 : Value} {a : Option Addr} {n cp gr i : Nat} {rs : List (Int × Int)} {d e p0 q0 : Int} (w : World) {Q : Exit → Act → World → Prop}
  (HL : Hid (rgK.At w a n rs)) (HX : Hid (rs[i]? = some (d, e))) (hi : i < n) (hn : n ≤ 16) (HG : Hid (w.heap[gr]? = some (.cells ([.int .u64 d, .int .u64 e] : List Value).toArray 71 (0, 0)))) (hc : d < e) (h0 : i = 0)
  (hQp : ∀ c a d v w, Q (.panic c) (a.put d v) w → Q (.panic c) a w)
  (hQ : ∀ (y30 y31 y32 y33 y34 y35 y36 y37 y38 y39 y40 y41 y42 y43 y44 y45 y46 y47 y48 : Value) (w' : World), Hid (Below w.heap.size w w') → Q .normal ⟨List.toArray (.slice a n cp :: x1 :: x2 :: .int .i64 i :: .pointer (some ⟨gr, 0, none⟩) :: x5 :: x6 :: x7 :: x8 :: x9 :: x10 :: x11 :: x12 :: x13 :: x14 :: x15 :: x16 :: x17 :: x18 :: x19 :: x20 :: x21 :: x22 :: x23 :: x24 :: x25 :: x26 :: x27 :: x28 :: x29 :: y30 :: y31 :: y32 :: y33 :: y34 :: y35 :: y36 :: y37 :: y38 :: y39 :: y40 :: y41 :: y42 :: y43 :: y44 :: y45 :: y46 :: y47 :: y48 :: .bool false :: x50 :: []), []⟩ w') :
  Code.wp Try.prog (((Try.f50.body.bind (subRegion 6)).getD .skip)) Q ⟨List.toArray (.slice a n cp :: x1 :: x2 :: .int .i64 i :: .pointer (some ⟨gr, 0, none⟩) :: x5 :: x6 :: x7 :: x8 :: x9 :: x10 :: x11 :: x12 :: x13 :: x14 :: x15 :: x16 :: x17 :: x18 :: x19 :: x20 :: x21 :: x22 :: x23 :: x24 :: x25 :: x26 :: x27 :: x28 :: x29 :: x30 :: x31 :: x32 :: x33 :: x34 :: x35 :: x36 :: x37 :: x38 :: x39 :: x40 :: x41 :: x42 :: x43 :: x44 :: x45 :: x46 :: x47 :: x48 :: x49 :: x50 :: []), []⟩ w := by
 have HK := Qh hQ; have HKP := Qh hQp
 clear hQ hQp
 conv => arg 2; whnf
 obtain ⟨ab, ao, x, rfl, _, hx, hok, hrg⟩ := HL.out.at hi
 rw [HX.out] at hx; injection hx with hx; subst hx
 have hu1 := hok.1; have hu2 := hok.2
 simp only [U64] at hu1 hu2
 clear hrg hok
 have hce : decide (e ≤ d) = false := by simp; omega
 subst h0
 have g0 : ∀ z : In (fun y => y.heap[gr]? = some (.cells ([.int .u64 d, .int .u64 e] : List Value).toArray 71 (0, 0))), z.w.cell? ⟨gr, 0, none⟩ = some (.int .u64 d) := fun z => row_cell z.h 0 _ rfl
 have g1 : ∀ z : In (fun y => y.heap[gr]? = some (.cells ([.int .u64 d, .int .u64 e] : List Value).toArray 71 (0, 0))), z.w.cell? ⟨gr, 1, none⟩ = some (.int .u64 e) := fun z => row_cell z.h 1 _ rfl
 refine wp_plan (.t 0 (.t 1 (.t 2 (.t 3 (.t 4 (.t 5 (.t 6 (.t 7 (.t 8 (.t 9 (.t 10 (.t 11 (.t 12 (.t 13 (.t 14 (.t 15 (.t 16 (.t 17 (.t 18 (.t 19 .done)))))))))))))))))))) (fun y => y.heap[gr]? = some (.cells ([.int .u64 d, .int .u64 e] : List Value).toArray 71 (0, 0))) (by kernel_rfl) (by kernel_rfl) (by kernel_rfl) (fun c a d v w h => by first | (cases d <;> exact h) | exact HKP.out c a d v w h) HG.out ?_
 haveI hne : Nonempty (In (fun y => y.heap[gr]? = some (.cells ([.int .u64 d, .int .u64 e] : List Value).toArray 71 (0, 0)))) := ⟨⟨w, HG.out⟩⟩
 repeat (first | rw [hce] | (refine plan_t (by rfl) ?_; (first | go_big_quiet_skip | (go_big_quiet_want; go_big_quiet_op; go_big_quiet_on)); refine wpQuiet_nil ?_))
 clear hne
 show Q _ _ _
 exact HK.out _ _ _ _ _ _ _ _ _ _ _ _ _ _ _ _ _ _ _ w.drew (Qh (Below.refl w.heap.size w).drew)
theorem ack_le {x1 x2 x5 x6 x7 x8 x9 x10 x11 x12 x13 x14 x15 x16 x17 x18 x19 x20 x21 x22 x23 x24 x25 x26 x27 x28 x29 x30 x31 x32 x33 x34 x35 x36 x37 x38 x39 x40 x41 x42 x43 x44 x45 x46 x47 x48 x49 x50 : Value} {a : Option Addr} {n cp gr i : Nat} {rs : List (Int × Int)} {d e p0 q0 : Int} (w : World) {Q : Exit → Act → World → Prop}
  (HL : Hid (rgK.At w a n rs)) (HX : Hid (rs[i]? = some (d, e))) (hi : i < n) (hn : n ≤ 16) (HG : Hid (w.heap[gr]? = some (.cells ([.int .u64 d, .int .u64 e] : List Value).toArray 71 (0, 0)))) (hc : d < e) (h0 : 0 < i) (HY : Hid (rs[i - 1]? = some (p0, q0))) (hp : ¬ q0 < d)
  (hQp : ∀ c a d v w, Q (.panic c) (a.put d v) w → Q (.panic c) a w)
  (hQ : ∀ (y30 y31 y32 y33 y34 y35 y36 y37 y38 y39 y40 y41 y42 y43 y44 y45 y46 y47 y48 : Value) (w' : World), Hid (Below w.heap.size w w') → Q .normal ⟨List.toArray (.slice a n cp :: x1 :: x2 :: .int .i64 i :: .pointer (some ⟨gr, 0, none⟩) :: x5 :: x6 :: x7 :: x8 :: x9 :: x10 :: x11 :: x12 :: x13 :: x14 :: x15 :: x16 :: x17 :: x18 :: x19 :: x20 :: x21 :: x22 :: x23 :: x24 :: x25 :: x26 :: x27 :: x28 :: x29 :: y30 :: y31 :: y32 :: y33 :: y34 :: y35 :: y36 :: y37 :: y38 :: y39 :: y40 :: y41 :: y42 :: y43 :: y44 :: y45 :: y46 :: y47 :: y48 :: .bool true :: x50 :: []), []⟩ w') :
  Code.wp Try.prog (((Try.f50.body.bind (subRegion 6)).getD .skip)) Q ⟨List.toArray (.slice a n cp :: x1 :: x2 :: .int .i64 i :: .pointer (some ⟨gr, 0, none⟩) :: x5 :: x6 :: x7 :: x8 :: x9 :: x10 :: x11 :: x12 :: x13 :: x14 :: x15 :: x16 :: x17 :: x18 :: x19 :: x20 :: x21 :: x22 :: x23 :: x24 :: x25 :: x26 :: x27 :: x28 :: x29 :: x30 :: x31 :: x32 :: x33 :: x34 :: x35 :: x36 :: x37 :: x38 :: x39 :: x40 :: x41 :: x42 :: x43 :: x44 :: x45 :: x46 :: x47 :: x48 :: x49 :: x50 :: []), []⟩ w := by
 have HK := Qh hQ; have HKP := Qh hQp
 clear hQ hQp
 conv => arg 2; whnf
 obtain ⟨ab, ao, x, rfl, _, hx, hok, hrg⟩ := HL.out.at hi
 rw [HX.out] at hx; injection hx with hx; subst hx
 have hu1 := hok.1; have hu2 := hok.2
 simp only [U64] at hu1 hu2
 clear hrg hok
 have hce : decide (e ≤ d) = false := by simp; omega
 have hpq : decide (d ≤ q0) = true := by simp; omega
 obtain ⟨ab2, ao2, y, e9, _, hy, hok2, hrg2⟩ := HL.out.at (j := i - 1) (by omega)
 injection e9 with e9; injection e9 with e9 e10; subst e9; subst e10
 rw [HY.out] at hy; injection hy with hy; subst hy
 have hv2 := hok2.2
 simp only [U64] at hv2
 have hq : w.cell? ⟨ab, ao + (i - 1) * 2 + 1, none⟩ = some (.int .u64 q0) := hrg2 1 _ rfl
 have HQ9 := Qh hq
 have HQ9 := Qh hq
 clear hrg2 hok2 hq
 obtain ⟨j, rfl⟩ : ∃ j, i = j + 1 := ⟨i - 1, by omega⟩
 simp only [Nat.add_sub_cancel] at HQ9
 have hj0 : decide (0 < ((j + 1 : Nat) : Int)) = true := by simp
 have g0 : ∀ z : In (fun y => y.heap[gr]? = some (.cells ([.int .u64 d, .int .u64 e] : List Value).toArray 71 (0, 0)) ∧ y.cell? ⟨ab, ao + j * 2 + 1, none⟩ = some (.int .u64 q0)), z.w.cell? ⟨gr, 0, none⟩ = some (.int .u64 d) := fun z => row_cell z.h.1 0 _ rfl
 have g1 : ∀ z : In (fun y => y.heap[gr]? = some (.cells ([.int .u64 d, .int .u64 e] : List Value).toArray 71 (0, 0)) ∧ y.cell? ⟨ab, ao + j * 2 + 1, none⟩ = some (.int .u64 q0)), z.w.cell? ⟨gr, 1, none⟩ = some (.int .u64 e) := fun z => row_cell z.h.1 1 _ rfl
 have g2 : ∀ z : In (fun y => y.heap[gr]? = some (.cells ([.int .u64 d, .int .u64 e] : List Value).toArray 71 (0, 0)) ∧ y.cell? ⟨ab, ao + j * 2 + 1, none⟩ = some (.int .u64 q0)), z.w.cell? ⟨ab, ao + j * 2 + 1, none⟩ = some (.int .u64 q0) := fun z => z.h.2
 refine wp_plan (.t 0 (.t 1 (.t 2 (.t 3 (.t 4 (.t 5 (.t 6 (.t 7 (.t 8 (.t 9 (.t 10 (.t 11 (.t 12 (.t 13 (.t 14 (.t 15 (.t 16 (.t 17 (.t 18 (.t 19 .done)))))))))))))))))))) (fun y => y.heap[gr]? = some (.cells ([.int .u64 d, .int .u64 e] : List Value).toArray 71 (0, 0)) ∧ y.cell? ⟨ab, ao + j * 2 + 1, none⟩ = some (.int .u64 q0)) (by kernel_rfl) (by kernel_rfl) (by kernel_rfl) (fun c a d v w h => by first | (cases d <;> exact h) | exact HKP.out c a d v w h) ⟨HG.out, HQ9.out⟩ ?_
 haveI hne : Nonempty (In (fun y => y.heap[gr]? = some (.cells ([.int .u64 d, .int .u64 e] : List Value).toArray 71 (0, 0)) ∧ y.cell? ⟨ab, ao + j * 2 + 1, none⟩ = some (.int .u64 q0))) := ⟨⟨w, ⟨HG.out, HQ9.out⟩⟩⟩
 repeat (first | rw [hce] | rw [hpq] | rw [hj0] | (refine plan_t (by rfl) ?_; (first | go_big_quiet_skip | (go_big_quiet_want; go_big_quiet_op; go_big_quiet_on)); refine wpQuiet_nil ?_))
 clear hne
 show Q _ _ _
 exact HK.out _ _ _ _ _ _ _ _ _ _ _ _ _ _ _ _ _ _ _ w.drew (Qh (Below.refl w.heap.size w).drew)
theorem ack_ok {x1 x2 x5 x6 x7 x8 x9 x10 x11 x12 x13 x14 x15 x16 x17 x18 x19 x20 x21 x22 x23 x24 x25 x26 x27 x28 x29 x30 x31 x32 x33 x34 x35 x36 x37 x38 x39 x40 x41 x42 x43 x44 x45 x46 x47 x48 x49 x50 : Value} {a : Option Addr} {n cp gr i : Nat} {rs : List (Int × Int)} {d e p0 q0 : Int} (w : World) {Q : Exit → Act → World → Prop}
  (HL : Hid (rgK.At w a n rs)) (HX : Hid (rs[i]? = some (d, e))) (hi : i < n) (hn : n ≤ 16) (HG : Hid (w.heap[gr]? = some (.cells ([.int .u64 d, .int .u64 e] : List Value).toArray 71 (0, 0)))) (hc : d < e) (h0 : 0 < i) (HY : Hid (rs[i - 1]? = some (p0, q0))) (hp : q0 < d)
  (hQp : ∀ c a d v w, Q (.panic c) (a.put d v) w → Q (.panic c) a w)
  (hQ : ∀ (y30 y31 y32 y33 y34 y35 y36 y37 y38 y39 y40 y41 y42 y43 y44 y45 y46 y47 y48 : Value) (w' : World), Hid (Below w.heap.size w w') → Q .normal ⟨List.toArray (.slice a n cp :: x1 :: x2 :: .int .i64 i :: .pointer (some ⟨gr, 0, none⟩) :: x5 :: x6 :: x7 :: x8 :: x9 :: x10 :: x11 :: x12 :: x13 :: x14 :: x15 :: x16 :: x17 :: x18 :: x19 :: x20 :: x21 :: x22 :: x23 :: x24 :: x25 :: x26 :: x27 :: x28 :: x29 :: y30 :: y31 :: y32 :: y33 :: y34 :: y35 :: y36 :: y37 :: y38 :: y39 :: y40 :: y41 :: y42 :: y43 :: y44 :: y45 :: y46 :: y47 :: y48 :: .bool false :: x50 :: []), []⟩ w') :
  Code.wp Try.prog (((Try.f50.body.bind (subRegion 6)).getD .skip)) Q ⟨List.toArray (.slice a n cp :: x1 :: x2 :: .int .i64 i :: .pointer (some ⟨gr, 0, none⟩) :: x5 :: x6 :: x7 :: x8 :: x9 :: x10 :: x11 :: x12 :: x13 :: x14 :: x15 :: x16 :: x17 :: x18 :: x19 :: x20 :: x21 :: x22 :: x23 :: x24 :: x25 :: x26 :: x27 :: x28 :: x29 :: x30 :: x31 :: x32 :: x33 :: x34 :: x35 :: x36 :: x37 :: x38 :: x39 :: x40 :: x41 :: x42 :: x43 :: x44 :: x45 :: x46 :: x47 :: x48 :: x49 :: x50 :: []), []⟩ w := by
 have HK := Qh hQ; have HKP := Qh hQp
 clear hQ hQp
 conv => arg 2; whnf
 obtain ⟨ab, ao, x, rfl, _, hx, hok, hrg⟩ := HL.out.at hi
 rw [HX.out] at hx; injection hx with hx; subst hx
 have hu1 := hok.1; have hu2 := hok.2
 simp only [U64] at hu1 hu2
 clear hrg hok
 have hce : decide (e ≤ d) = false := by simp; omega
 have hpq : decide (d ≤ q0) = false := by simp; omega
 obtain ⟨ab2, ao2, y, e9, _, hy, hok2, hrg2⟩ := HL.out.at (j := i - 1) (by omega)
 injection e9 with e9; injection e9 with e9 e10; subst e9; subst e10
 rw [HY.out] at hy; injection hy with hy; subst hy
 have hv2 := hok2.2
 simp only [U64] at hv2
 have hq : w.cell? ⟨ab, ao + (i - 1) * 2 + 1, none⟩ = some (.int .u64 q0) := hrg2 1 _ rfl
 have HQ9 := Qh hq
 have HQ9 := Qh hq
 clear hrg2 hok2 hq
 obtain ⟨j, rfl⟩ : ∃ j, i = j + 1 := ⟨i - 1, by omega⟩
 simp only [Nat.add_sub_cancel] at HQ9
 have hj0 : decide (0 < ((j + 1 : Nat) : Int)) = true := by simp
 have g0 : ∀ z : In (fun y => y.heap[gr]? = some (.cells ([.int .u64 d, .int .u64 e] : List Value).toArray 71 (0, 0)) ∧ y.cell? ⟨ab, ao + j * 2 + 1, none⟩ = some (.int .u64 q0)), z.w.cell? ⟨gr, 0, none⟩ = some (.int .u64 d) := fun z => row_cell z.h.1 0 _ rfl
 have g1 : ∀ z : In (fun y => y.heap[gr]? = some (.cells ([.int .u64 d, .int .u64 e] : List Value).toArray 71 (0, 0)) ∧ y.cell? ⟨ab, ao + j * 2 + 1, none⟩ = some (.int .u64 q0)), z.w.cell? ⟨gr, 1, none⟩ = some (.int .u64 e) := fun z => row_cell z.h.1 1 _ rfl
 have g2 : ∀ z : In (fun y => y.heap[gr]? = some (.cells ([.int .u64 d, .int .u64 e] : List Value).toArray 71 (0, 0)) ∧ y.cell? ⟨ab, ao + j * 2 + 1, none⟩ = some (.int .u64 q0)), z.w.cell? ⟨ab, ao + j * 2 + 1, none⟩ = some (.int .u64 q0) := fun z => z.h.2
 refine wp_plan (.t 0 (.t 1 (.t 2 (.t 3 (.t 4 (.t 5 (.t 6 (.t 7 (.t 8 (.t 9 (.t 10 (.t 11 (.t 12 (.t 13 (.t 14 (.t 15 (.t 16 (.t 17 (.t 18 (.t 19 .done)))))))))))))))))))) (fun y => y.heap[gr]? = some (.cells ([.int .u64 d, .int .u64 e] : List Value).toArray 71 (0, 0)) ∧ y.cell? ⟨ab, ao + j * 2 + 1, none⟩ = some (.int .u64 q0)) (by kernel_rfl) (by kernel_rfl) (by kernel_rfl) (fun c a d v w h => by first | (cases d <;> exact h) | exact HKP.out c a d v w h) ⟨HG.out, HQ9.out⟩ ?_
 haveI hne : Nonempty (In (fun y => y.heap[gr]? = some (.cells ([.int .u64 d, .int .u64 e] : List Value).toArray 71 (0, 0)) ∧ y.cell? ⟨ab, ao + j * 2 + 1, none⟩ = some (.int .u64 q0))) := ⟨⟨w, ⟨HG.out, HQ9.out⟩⟩⟩
 repeat (first | rw [hce] | rw [hpq] | rw [hj0] | (refine plan_t (by rfl) ?_; (first | go_big_quiet_skip | (go_big_quiet_want; go_big_quiet_op; go_big_quiet_on)); refine wpQuiet_nil ?_))
 clear hne
 show Q _ _ _
 exact HK.out _ _ _ _ _ _ _ _ _ _ _ _ _ _ _ _ _ _ _ w.drew (Qh (Below.refl w.heap.size w).drew)
theorem ackB_iff {l : List (Int × Int)} : ackB l = true ↔ 1 ≤ l.length ∧ l.length ≤ 16 ∧ (l.getLast?.getD (0, 0)).2 ≤ 4611686018427387904 ∧ risesB l = true := by unfold ackB; simp [and_assoc]
theorem ackB_no {l : List (Int × Int)} (h : ¬ (1 ≤ l.length ∧ l.length ≤ 16 ∧ (l.getLast?.getD (0, 0)).2 ≤ 4611686018427387904 ∧ risesB l = true)) : ackB l = false := by
 cases hb : ackB l with
 | false => rfl
 | true => exact absurd (ackB_iff.1 hb) h
theorem ack4_any (w : World) (a : Option Addr) (n cp : Nat) (rs : List (Int × Int)) (hR : rgK.At w a n rs) (hc : n ≤ cp ∧ cp ≤ 9223372036854775807) :
  Calls Try.prog 50 #[.slice a n cp] w fun e w' => e = .returned (.bool (ackB rs)) ∧ Below w.heap.size w w' := by
 have HL := Qh hR
 have hln : rs.length = n := hR.1.symm
 have HLN := Qh hln
 obtain ⟨hc1, hc2⟩ := hc
 clear hR hln
 by_cases h1 : 1 ≤ n
 ·
  by_cases h16 : n ≤ 16
  ·
   obtain ⟨m, rfl⟩ : ∃ m, n = m + 1 := ⟨n - 1, by omega⟩
   obtain ⟨ab, ao, x, rfl, _, hx, hok, hrg⟩ := HL.out.at (j := m) (by omega)
   have hlast : rs.getLast? = some x := by rw [List.getLast?_eq_getElem?, HLN.out]; exact hx
   have HLAST := Qh hlast
   have hu2 := hok.2
   obtain ⟨q, hq⟩ : ∃ q, x.2 = q := ⟨_, rfl⟩
   have cq : w.cell? ⟨ab, ao + m * 2 + 1, none⟩ = some (.int .u64 q) := by rw [← hq]; exact hrg 1 _ rfl
   have HQ := Qh hq
   rw [hq] at hu2
   obtain ⟨hu3, hu4⟩ := hu2
   clear hx hok hrg hlast hq
   by_cases hqq : q ≤ 4611686018427387904
   ·
    have HQQ := Qh hqq
    go_enter Try.func50, Try.ntmps50
    go_wp2_with fail
    go_loopw [25] (fun s25 wr => ∃ i : Nat, s25 = .int .i64 i ∧ i ≤ m + 1 ∧ Hid (Below w.heap.size w wr) ∧ Hid (risesB (rs.take i) = true)) (fun s _ => (m + 1) - (intOf s).toNat)
    case atStart => exact ⟨0, rfl, by omega, Qh (Below.refl _ _), Qh rfl⟩
    case round =>
     clear cq
     obtain ⟨i, rfl, hi, HB, HA⟩ := hrel
     by_cases hlt : i < m + 1
     ·
      have HL1 := Qh (HL.out.below HB.out)
      obtain ⟨ab2, ao2, y, e9, _, hx, hok, hrg⟩ := HL1.out.at hlt
      injection e9 with e9; injection e9 with e9 e10; subst e9; subst e10
      obtain ⟨d, e⟩ := y
      have HX := Qh hx; have HRG : Hid (wr.rangeAt ab (ao + i * 2) [.int .u64 d, .int .u64 e]) := Qh hrg
      have HTS := Qh (take_snd4 hx)
      clear hx hok hrg
      go_upto_region 6 with (first | (refine wpList_load_mid rfl 71 _ rfl ab (ao + i * 2) rfl [.int .u64 d, .int .u64 e] _ HRG.out Try.underlying71 rfl rfl ?_) | fail)
      change Code.wp _ _ _ _ (wr.alloc (.cells ([.int .u64 d, .int .u64 e] : List Value).toArray 71))
      have hb := (Below.refl wr.heap.size wr).alloc (Nat.le_refl _) (.cells ([.int .u64 d, .int .u64 e] : List Value).toArray 71)
      replace HB := Qh (bl_next HB.out HB.out.size hb)
      replace HL1 := Qh (HL1.out.below hb)
      have HG := Qh (heap_alloc_new wr (.cells ([.int .u64 d, .int .u64 e] : List Value).toArray 71))
      clear hb
      generalize wr.alloc (.cells ([.int .u64 d, .int .u64 e] : List Value).toArray 71) = w1 at HB HL1 HG ⊢
      obtain ⟨gr, hg⟩ : ∃ g, wr.heap.size = g := ⟨_, rfl⟩
      rw [hg] at HG ⊢
      clear hg
      clear HRG
      by_cases hde : d < e
      ·
       by_cases h0 : i = 0
       ·
        refine ack_first _ (p0 := 0) (q0 := 0) HL1 HX hlt h16 HG hde h0 (fun c a d v w h => by cases d <;> exact h) ?_
        rintro _ _ _ _ _ _ _ _ _ _ _ _ _ _ _ _ _ _ _ w9 HB9
        have HN : Hid (risesB (rs.take (i + 1)) = true) := Qh (by rw [HTS.out]; exact risesB_snoc _ _ HA.out (fun z hz => by subst h0; simp at hz) hde)
        replace HB := Qh (bl_next HB.out HB.out.size HB9.out)
        clear HB9 HG HL1 hde
        go_wp2_with fail
        go_roundw
        case rel => exact ⟨i + 1, by go_num, by omega, HB, HN⟩
        case measure => simp [intOf]; omega
       ·
        obtain ⟨⟨p0, q0⟩, hy⟩ : ∃ y, rs[i - 1]? = some y := ⟨rs[i - 1]'(by rw [HLN.out]; omega), List.getElem?_eq_getElem _⟩
        have HY := Qh hy
        have hlt2 := last_take hy
        rw [show i - 1 + 1 = i by omega] at hlt2
        have HLT2 := Qh hlt2
        have hi0 : 0 < i := by omega
        clear hy hlt2 h0
        by_cases hp : q0 < d
        ·
         refine ack_ok _ HL1 HX hlt h16 HG hde hi0 HY hp (fun c a d v w h => by cases d <;> exact h) ?_
         rintro _ _ _ _ _ _ _ _ _ _ _ _ _ _ _ _ _ _ _ w9 HB9
         have HN : Hid (risesB (rs.take (i + 1)) = true) := Qh (by rw [HTS.out]; exact risesB_snoc _ _ HA.out (fun z hz => by rw [HLT2.out] at hz; injection hz with hz; subst hz; exact hp) hde)
         replace HB := Qh (bl_next HB.out HB.out.size HB9.out)
         clear HB9 HG HL1 hde
         go_wp2_with fail
         go_roundw
         case rel => exact ⟨i + 1, by go_num, by omega, HB, HN⟩
         case measure => simp [intOf]; omega
        ·
         refine ack_le _ HL1 HX hlt h16 HG hde hi0 HY hp (fun c a d v w h => by cases d <;> exact h) ?_
         rintro _ _ _ _ _ _ _ _ _ _ _ _ _ _ _ _ _ _ _ w9 HB9
         have HN : Hid (ackB rs = false) := Qh (ackB_no (fun h => by have h9 := rises_take h.2.2.2 (i + 1); rw [HTS.out] at h9; obtain ⟨_, k1, k2⟩ := rises_snoc_inv h9; exact hp (k2 _ HLT2.out)))
         replace HB := Qh (bl_next HB.out HB.out.size HB9.out)
         clear HB9 HG HL1
         go_wp2_with fail
         (try simp only [Exit.inBlock, Exit.then])
         go_ret
         exact ⟨by rw [HN.out]; rfl, HB.out⟩
      ·
       refine ack_ge _ (p0 := 0) (q0 := 0) HL1 HX hlt h16 HG hde (fun c a d v w h => by cases d <;> exact h) ?_
       rintro _ _ _ _ _ _ _ _ _ _ _ _ _ _ _ _ _ _ _ w9 HB9
       have HN : Hid (ackB rs = false) := Qh (ackB_no (fun h => by have h9 := rises_take h.2.2.2 (i + 1); rw [HTS.out] at h9; obtain ⟨_, k1, k2⟩ := rises_snoc_inv h9; exact hde k1))
       replace HB := Qh (bl_next HB.out HB.out.size HB9.out)
       clear HB9 HG HL1
       go_wp2_with fail
       (try simp only [Exit.inBlock, Exit.then])
       go_ret
       exact ⟨by rw [HN.out]; rfl, HB.out⟩
     ·
      obtain rfl : i = m + 1 := by omega
      have HN : Hid (ackB rs = true) := Qh (ackB_iff.2 ⟨by rw [HLN.out]; omega, by rw [HLN.out]; exact h16, by rw [HLAST.out]; simp only [Option.getD_some]; rw [HQ.out]; exact HQQ.out, by have h9 := HA.out; rw [List.take_of_length_le (by rw [HLN.out]; exact Nat.le_refl _)] at h9; exact h9⟩)
      go_wp2_with fail
      (try simp only [Exit.inBlock, Exit.then])
      go_ret
      exact ⟨by rw [HN.out]; rfl, HB.out⟩
   ·
    have HB : Hid (ackB rs = false) := Qh (ackB_no (fun h => by have h9 := h.2.2.1; rw [HLAST.out] at h9; simp only [Option.getD_some] at h9; rw [HQ.out] at h9; exact hqq h9))
    go_enter Try.func50, Try.ntmps50
    go_wp2_with fail
    go_ret
    exact ⟨by rw [HB.out]; rfl, Below.refl _ _⟩
  ·
   have HB : Hid (ackB rs = false) := Qh (ackB_no (fun h => by have := h.2.1; rw [HLN.out] at this; omega))
   go_enter Try.func50, Try.ntmps50
   go_wp2_with fail
   go_ret
   exact ⟨by rw [HB.out]; rfl, Below.refl _ _⟩
 ·
  have HB : Hid (ackB rs = false) := Qh (ackB_no (fun h => by have := h.1; rw [HLN.out] at this; omega))
  go_enter Try.func50, Try.ntmps50
  go_wp2_with fail
  go_ret
  exact ⟨by rw [HB.out]; rfl, Below.refl _ _⟩
end Go.Proofs.Ytmbjepcbokbemaa
