/- chapter 2's walks: OctetNumbers -/
import Derived.Test.YtpiappdkbodabaaOctLaw5
namespace Go.Proofs.Ytpiappdkbodabaa
open Go.RowKit
set_option linter.unusedVariables false

def rowsQ (l : List Q) : List Value := l.flatMap Q.row
theorem rowsQ_at : ∀ {l : List Q} {j : Nat} {q : Q}, l[j]? = some q → ∀ {i : Nat}, i < 4 → (rowsQ l)[j * 4 + i]? = q.row[i]?
  | [], _, _, hq, _, _ => by simp at hq
  | p :: l, 0, q, hq, i, hi => by
    simp at hq; subst hq
    have hl : p.row.length = 4 := rfl
    simp only [rowsQ, List.flatMap_cons, Nat.zero_mul, Nat.zero_add]
    rw [List.getElem?_append_left (by omega)]
  | p :: l, j + 1, q, hq, i, hi => by
    have hl : p.row.length = 4 := rfl
    simp only [rowsQ, List.flatMap_cons]
    rw [List.getElem?_append_right (by omega), hl, show (j + 1) * 4 + i - 4 = j * 4 + i by omega]
    exact rowsQ_at (l := l) (by simpa using hq) hi
theorem asks_lit {W : World} {g : Nat} {l : List Q} (h : W.heap[g]? = some (.cells (rowsQ l).toArray 32 (0, 0))) (hok : ∀ q ∈ l, q.ok W) : Asks W (some ⟨g, 0, none⟩) l.length (fun j => l.getD j ⟨0, 0, 0, none, 0, 0, []⟩) := by
  refine .inr ⟨g, 0, rfl, lt_of_block h, fun j hj => ?_⟩
  have hq : l[j]? = some l[j] := List.getElem?_eq_getElem hj
  have e : l.getD j ⟨0, 0, 0, none, 0, 0, []⟩ = l[j] := by rw [List.getD_eq_getElem?_getD, hq]; rfl
  simp only [e]
  refine ⟨hok _ (List.getElem_mem hj), fun i v hv => ?_⟩
  have hi : i < 4 := by have := lt_of_get hv; simpa [Q.row] using this
  rw [cell_of_row _ _ _ _ _ _ h, Nat.zero_add, List.getElem?_toArray, rowsQ_at hq hi]
  exact hv
def qn (k n x : Int) : Q := ⟨k, n, x, none, 0, 0, []⟩
theorem qn_ok {k n x : Int} {W : World} (hk : (Lit.int .i64 k).wf = true) (hn : (Lit.int .i64 n).wf = true) (hx : (Lit.int .u64 x).wf = true) : (qn k n x).ok W := ⟨hk, hn, hx, Nat.le_refl _, by show (0 : Nat) ≤ 9223372036854775807; omega, IntsK.nil _ _ _⟩
def numQ (g k5 : Nat) : List Q :=
  [qn 1 0 7, qn 2 0 65535, qn 3 0 1048576, ⟨4, 3, 0, some ⟨g, 0, none⟩, 3, 3, [97, 98, 99]⟩, ⟨5, 0, 0, some ⟨g + 1, 0, none⟩, 2, 2, [100, 101]⟩, qn k5 0 4611686018427387904, qn 4 0 0]

/-- a row that was converted: []byte of a text: marked behind its end -/
theorem mark_row {W : World} {g n : Nat} {cs : Array Value} {t : TypeId} (h : W.heap[g]? = some (.cells cs t (0, 0))) : (W.freeze ⟨g, n, none⟩ 1).heap[g]? = some (.cells cs t (n, n + 1)) := by
  simp [World.freeze, Array.getElem?_modify, h]
theorem mark_below (W : World) (g n B : Nat) (hg : B ≤ g) : Below B W (W.freeze ⟨g, n, none⟩ 1) :=
  ⟨rfl, rfl, rfl, by simp [World.freeze], fun k hk => by
    have : ¬ g = k := by omega
    simp [World.freeze, Array.getElem?_modify, this]⟩
theorem mark_size (W : World) (g n : Nat) : (W.freeze ⟨g, n, none⟩ 1).heap.size = W.heap.size := by simp [World.freeze]
theorem conv_mark (W : World) (g : Nat) (cs : Array Value) (l c : Nat) (h : W.heap[g]? = some (.cells cs 5 (0, 0))) :
    (convert 22 22 (.slice (some ⟨g, 0, none⟩) l c)).run Try.prog W = .ok (.slice (some ⟨g, 0, none⟩) l c) (W.freeze ⟨g, cs.size, none⟩ 1) := by
  have hg := lt_of_block h
  simp [convert, run_underlying Try.underlying22, run_underlying Try.underlying5, markStringish, World.shape?, h]
theorem IntsK.of_rowF {k : IntKind} {w : World} {b : Nat} {zs : List Int} {t : TypeId} {fr : Nat × Nat} (h : w.heap[b]? = some (.cells (zs.map (Value.int k)).toArray t fr)) (hw : ∀ n ∈ zs, (Lit.int k n).wf = true) :
    IntsK k w (some ⟨b, 0, none⟩) zs.length zs := by
  refine ⟨rfl, hw, .inr ⟨b, 0, rfl, lt_of_block h, fun i hi => ?_⟩⟩
  rw [cell_of_row _ _ _ _ _ _ h]
  simp [hi, List.getD_eq_getElem?_getD]

set_option maxRecDepth 100000 in
set_option maxHeartbeats 4000000 in
theorem numbers2_any (w : World) : Makes Try.prog 4 #[] w (.bool true) := by
  have HQ : Hid (∀ (W : World), W.heap[w.heap.size]? = some (.cells #[.int .u8 97, .int .u8 98, .int .u8 99] 5 (3, 4)) → W.heap[w.heap.size + 1]? = some (.cells #[.int .u8 100, .int .u8 101] 5 (2, 3)) →
      ∀ k5 : Nat, k5 ≤ 7 → W.heap[w.heap.size + 2]? = some (.cells (rowsQ (numQ w.heap.size k5)).toArray 32 (0, 0)) → Asks W (some ⟨w.heap.size + 2, 0, none⟩) 7 (fun j => (numQ w.heap.size k5).getD j ⟨0, 0, 0, none, 0, 0, []⟩)) := Lib.hid (by
    intro W h1 h2 k5 hk5 h3
    refine asks_lit h3 ?_
    have i1 : IntsK .u8 W (some ⟨w.heap.size, 0, none⟩) 3 [97, 98, 99] := IntsK.of_rowF (k := .u8) (zs := [97, 98, 99]) h1 (by decide)
    have i2 : IntsK .u8 W (some ⟨w.heap.size + 1, 0, none⟩) 2 [100, 101] := IntsK.of_rowF (k := .u8) (zs := [100, 101]) h2 (by decide)
    have w5 : (Lit.int .i64 (k5 : Int)).wf = true := by simp [Lit.wf, IntKind.min, IntKind.max, IntKind.signed, IntKind.bits]; omega
    intro q hq
    simp only [numQ, List.mem_cons, List.not_mem_nil, or_false] at hq
    rcases hq with rfl | rfl | rfl | rfl | rfl | rfl | rfl
    · exact qn_ok (by decide) (by decide) (by decide)
    · exact qn_ok (by decide) (by decide) (by decide)
    · exact qn_ok (by decide) (by decide) (by decide)
    · exact ⟨by rfl, by rfl, by rfl, Nat.le_refl _, by show (3 : Nat) ≤ 9223372036854775807; omega, i1⟩
    · exact ⟨by rfl, by rfl, by rfl, Nat.le_refl _, by show (2 : Nat) ≤ 9223372036854775807; omega, i2⟩
    · exact qn_ok w5 (by decide) (by decide)
    · exact qn_ok (by decide) (by decide) (by decide))
  have hA := Fresh.of_alloc w (.cells #[.int .u8 97, .int .u8 98, .int .u8 99] 5)
  have hcv1 := conv_mark _ _ #[.int .u8 97, .int .u8 98, .int .u8 99] 3 3 hA.row
  have rA := mark_row (n := 3) hA.row
  have bA : Below w.heap.size w _ := hA.below.trans (mark_below _ w.heap.size 3 w.heap.size (Nat.le_refl _))
  have sA := (mark_size (w.alloc (.cells #[.int .u8 97, .int .u8 98, .int .u8 99] 5)) w.heap.size 3).trans hA.size
  rw [show (#[Value.int .u8 97, .int .u8 98, .int .u8 99] : Array Value).size = 3 from rfl] at hcv1
  generalize (w.alloc (.cells #[.int .u8 97, .int .u8 98, .int .u8 99] 5)).freeze ⟨w.heap.size, 3, none⟩ 1 = WA at hcv1 rA bA sA
  have hB := Fresh.of_alloc WA (.cells #[.int .u8 100, .int .u8 101] 5)
  have hBr := hB.row
  rw [sA] at hBr
  have hcv2 := conv_mark _ _ #[.int .u8 100, .int .u8 101] 2 2 hBr
  have rB := mark_row (n := 2) hBr
  have bB : Below WA.heap.size WA _ := hB.below.trans (mark_below _ (w.heap.size + 1) 2 WA.heap.size (by omega))
  have sB := (mark_size (WA.alloc (.cells #[.int .u8 100, .int .u8 101] 5)) (w.heap.size + 1) 2).trans hB.size
  rw [show (#[Value.int .u8 100, .int .u8 101] : Array Value).size = 2 from rfl] at hcv2
  generalize (WA.alloc (.cells #[.int .u8 100, .int .u8 101] 5)).freeze ⟨w.heap.size + 1, 2, none⟩ 1 = WB at hcv2 rB bB sB
  rw [sA] at sB
  have hC := Fresh.of_alloc WB (.cells (rowsQ (numQ w.heap.size 3)).toArray 32)
  have hCr := hC.row
  have hCs := hC.size
  rw [sB] at hCr hCs
  have R1 := Lib.hid (bl_row hC.below (by omega) (bl_row bB (by omega) rA))
  have R2 := Lib.hid (bl_row hC.below (by omega) rB)
  have R3 := Lib.hid hCr
  have HB1 := Lib.hid ((bA.trans (bB.mono (by omega))).trans (hC.below.mono (by omega)))
  have hW1s : (WB.alloc (.cells (rowsQ (numQ w.heap.size 3)).toArray 32)).heap.size = w.heap.size + 3 := hCs
  clear hA rA bA hB hBr rB bB hC hCr hCs
  go_enter Try.func4, Try.ntmps4
  go_upto_region 2 with fail
  clear hcv1 hcv2
  change Code.wp _ _ _ _ (WB.alloc (.cells (rowsQ (numQ w.heap.size 3)).toArray 32))
  generalize WB.alloc (.cells (rowsQ (numQ w.heap.size 3)).toArray 32) = W1 at R1 R2 R3 HB1 hW1s ⊢
  clear sA sB
  have HA1 := Lib.hid (HQ.out W1 R1.out R2.out 3 (by omega) R3.out)
  obtain ⟨g, eg⟩ : ∃ g, w.heap.size + 2 = g := ⟨_, rfl⟩
  have HW := Lib.hid (written2_any W1 _ 7 7 _ (by omega) HA1.out)
  have hwl := wM_len (fun j => (numQ w.heap.size 3).getD j ⟨0, 0, 0, none, 0, 0, []⟩) (min 7 15)
  have hwf : ∀ x ∈ wM (fun j => (numQ w.heap.size 3).getD j ⟨0, 0, 0, none, 0, 0, []⟩) (min 7 15), (Lit.int .u8 x).wf = true := by
    rcases HA1.out with h | ⟨_, _, _, _, h⟩
    · omega
    · exact wM_wf (fun j hj => (h j hj).1) _ (by omega)
  obtain ⟨xs, exs⟩ : ∃ xs, wM (fun j => (numQ w.heap.size 3).getD j ⟨0, 0, 0, none, 0, 0, []⟩) (min 7 15) = xs := ⟨_, rfl⟩
  rw [exs] at HW hwl hwf
  clear exs
  rw [eg] at HW
  have HWF := Lib.hid hwf
  have EG := Lib.hid eg
  clear hwf HA1
  have hgl : w.heap.size < g ∧ g < W1.heap.size := by omega
  go_wp2_with fail
  refine Calls.mono HW.out ?_
  rintro e w2 ⟨a2, cap2, u2, rfl, hc2, hcm2, hi2, ho2, hb2⟩
  obtain ⟨b3, cp3, e3, hc3, hi3, _⟩ := ints_of_own ho2 HWF.out
  subst e3
  obtain ⟨n, en⟩ : ∃ n, xs.length = n := ⟨_, rfl⟩
  rw [en] at hi2 hi3 ho2 hc2 hc3 hwl ⊢
  have hcm3 := own_cap ho2 _ _ _ rfl
  have hconv1 : (convert 22 9 (.slice a2 n cap2)).run Try.prog w2 = .ok (.string (strOfNums xs)) w2 := conv_ints _ 5 _ _ Try.underlying22 Try.underlying5 Try.underlying9 hi2
  have hconv2 : (convert 22 9 (.slice b3 n cp3)).run Try.prog w2 = .ok (.string (strOfNums xs)) w2 := conv_ints _ 5 _ _ Try.underlying22 Try.underlying5 Try.underlying9 hi3
  have HO2 := Lib.hid ho2; have HB2 := Lib.hid hb2
  have hr3 := bl_row hb2 (by omega) R3.out
  have f20 := row_free hr3 20
  rw [EG.out] at hr3 f20
  have c20 : w2.cell? ⟨g, 20, none⟩ = some (.int .i64 3) := row_cell hr3 20 _ rfl
  have HROW := Lib.hid hr3
  clear hi2 hi3 ho2 hb2 hr3
  go_upto_region 5 with fail
  clear hconv1 hconv2
  go_upto_region 6 with fail
  have hrow5 : (w2.setCell ⟨g, 20, none⟩ (.int .i64 1)).heap[g]? = some (.cells (rowsQ (numQ w.heap.size 1)).toArray 32 (0, 0)) := ((At.base HROW.out).set 20 (.int .i64 1)).row
  have hb5 : Below w.heap.size w (w2.setCell ⟨g, 20, none⟩ (.int .i64 1)) := (HB1.out.trans (HB2.out.mono (by omega))).setCell (p := ⟨g, 20, none⟩) (by show w.heap.size ≤ g; omega) _
  have hr15 : (w2.setCell ⟨g, 20, none⟩ (.int .i64 1)).heap[w.heap.size]? = _ := (Below.heap_setCell _ _ _ _ (by simp; omega)).trans (bl_row HB2.out (by omega) R1.out)
  have hr25 : (w2.setCell ⟨g, 20, none⟩ (.int .i64 1)).heap[w.heap.size + 1]? = _ := (Below.heap_setCell _ _ _ _ (by simp; omega)).trans (bl_row HB2.out (by omega) R2.out)
  have hA5 := HQ.out _ hr15 hr25 1 (by omega) (by rw [EG.out]; exact hrow5)
  have hX5 : IntsK .u8 (w2.setCell ⟨g, 20, none⟩ (.int .i64 1)) b3 n xs := by
    have ho5 := own_ch (w' := w2.setCell ⟨g, 20, none⟩ (.int .i64 1)) HO2.out (fun k hk _ => Below.heap_setCell _ _ _ _ (by have := own_base HO2.out k hk; simp; omega))
    obtain ⟨_, _, e, _, hi, _⟩ := ints_of_own ho5 HWF.out
    injection e with e1 e2 e3; subst e1; exact hi
  rw [EG.out] at hA5
  have HA5 := Lib.hid hA5; have HX5 := Lib.hid hX5; have HB5 := Lib.hid hb5
  clear hrow5 hb5 hr15 hr25 hA5 hX5 HROW HO2 c20 f20 HB2 R1 R2 R3 HB1
  generalize w2.setCell ⟨g, 20, none⟩ (.int .i64 1) = W5 at HA5 HX5 HB5 ⊢
  have hn6 : n ≤ 1000 := by omega
  clear hgl hwl eg hW1s
  go_wp2_with fail
  go_loopw [5] (fun s5 wr => ∃ j : Nat, s5 = .int .i64 j ∧ j ≤ n + 1 ∧ Hid (Below W5.heap.size W5 wr)) (fun s5 _ => n + 1 - (intOf s5).toNat)
  case atStart => exact ⟨0, rfl, by omega, Lib.hid (Below.refl _ _)⟩
  case round =>
    obtain ⟨j, rfl, hj, HL⟩ := hrel
    by_cases hlt : j ≤ n
    · go_wp2_with fail
      refine Calls.mono (reads2_any wr b3 j cp3 _ _ 7 7 _ (by omega) (by omega) hcm3 ((HX5.out.below HL.out).pre j hlt) (by omega) (HA5.out.below HL.out)) ?_
      rintro e w6 ⟨rfl, h6⟩
      have H6 := Lib.hid (bl_next HL.out HL.out.size h6)
      have hb7 := (Below.refl w6.heap.size w6).alloc (Nat.le_refl _) (.cells (rowsQ [qn 4 j 0, qn 4 (-1) 0, qn 1 0 0]).toArray 32)
      have hA7 : Asks _ _ 3 _ := asks_lit (l := [qn 4 j 0, qn 4 (-1) 0, qn 1 0 0]) (heap_alloc_new w6 (.cells (rowsQ [qn 4 j 0, qn 4 (-1) 0, qn 1 0 0]).toArray 32)) (by
        have wj : (Lit.int .i64 (j : Int)).wf = true := by simp [Lit.wf, IntKind.min, IntKind.max, IntKind.signed, IntKind.bits]; omega
        intro q hq
        simp only [List.mem_cons, List.not_mem_nil, or_false] at hq
        rcases hq with rfl | rfl | rfl
        · exact qn_ok (by decide) wj (by decide)
        · exact qn_ok (by decide) (by decide) (by decide)
        · exact qn_ok (by decide) (by decide) (by decide))
      have HB7 := Lib.hid hb7; have HA7 := Lib.hid hA7
      have hl6 := H6.out
      clear h6 hb7 hA7
      go_wp2_with fail
      refine Calls.mono (reads2_any (w6.alloc (.cells (rowsQ [qn 4 j 0, qn 4 (-1) 0, qn 1 0 0]).toArray 32)) b3 j cp3 _ _ 3 3 _ (by omega) (by omega) hcm3 (((HX5.out.below hl6).below HB7.out).pre j hlt) (by omega) HA7.out) ?_
      rintro e w8 ⟨rfl, h8⟩
      have H8 := Lib.hid (bl_next H6.out H6.out.size (HB7.out.trans (h8.mono HB7.out.size)))
      clear h8 hl6
      go_wp2_with fail
      go_roundw
      case rel => exact ⟨j + 1, by go_num, by omega, H8⟩
      case measure => simp [intOf]; omega
    · have hbF := (Below.refl wr.heap.size wr).alloc (Nat.le_refl _) (.cells #[.int .u8 255, .int .u8 255, .int .u8 255, .int .u8 255, .int .u8 255, .int .u8 255, .int .u8 255, .int .u8 255] 5)
      have hIF : IntsK .u8 _ _ 8 [255, 255, 255, 255, 255, 255, 255, 255] := IntsK.of_row (k := .u8) (zs := [255, 255, 255, 255, 255, 255, 255, 255]) (heap_alloc_new wr (.cells #[.int .u8 255, .int .u8 255, .int .u8 255, .int .u8 255, .int .u8 255, .int .u8 255, .int .u8 255, .int .u8 255] 5)) (by decide)
      have sF : (wr.alloc (.cells #[.int .u8 255, .int .u8 255, .int .u8 255, .int .u8 255, .int .u8 255, .int .u8 255, .int .u8 255, .int .u8 255] 5)).heap.size = wr.heap.size + 1 := by simp
      have hbG := (Below.refl _ (wr.alloc (.cells #[.int .u8 255, .int .u8 255, .int .u8 255, .int .u8 255, .int .u8 255, .int .u8 255, .int .u8 255, .int .u8 255] 5))).alloc (Nat.le_refl _) (.cells (rowsQ [qn 5 0 0, qn 3 0 0]).toArray 32)
      have hAG : Asks _ _ 2 _ := asks_lit (l := [qn 5 0 0, qn 3 0 0]) (heap_alloc_new (wr.alloc (.cells #[.int .u8 255, .int .u8 255, .int .u8 255, .int .u8 255, .int .u8 255, .int .u8 255, .int .u8 255, .int .u8 255] 5)) (.cells (rowsQ [qn 5 0 0, qn 3 0 0]).toArray 32)) (by
        intro q hq
        simp only [List.mem_cons, List.not_mem_nil, or_false] at hq
        rcases hq with rfl | rfl
        · exact qn_ok (by decide) (by decide) (by decide)
        · exact qn_ok (by decide) (by decide) (by decide))
      rw [sF] at hAG
      have HIG := Lib.hid (hIF.below hbG)
      have HBG := Lib.hid (hbF.trans (hbG.mono (by rw [sF]; omega)))
      have HAG := Lib.hid hAG
      clear hbF hIF sF hbG hAG
      go_wp2_with fail
      refine Calls.mono (reads2_any ((wr.alloc (.cells #[.int .u8 255, .int .u8 255, .int .u8 255, .int .u8 255, .int .u8 255, .int .u8 255, .int .u8 255, .int .u8 255] 5)).alloc (.cells (rowsQ [qn 5 0 0, qn 3 0 0]).toArray 32)) _ 8 8 _ _ 2 2 _ (by omega) (by omega) (by omega) HIG.out (by omega) HAG.out) ?_
      rintro e w8 ⟨rfl, h8⟩
      have H8 := Lib.hid (bl_next HL.out HL.out.size (HBG.out.trans (h8.mono HBG.out.size)))
      clear h8
      go_wp2_with fail
      refine Calls.mono (known2_any _) ?_
      rintro e w9 ⟨rfl, h9⟩
      have H9 := Lib.hid (bl_next H8.out H8.out.size h9); clear h9
      go_wp2_with fail
      go_ret
      exact ⟨rfl, HB5.out.trans (H9.out.mono HB5.out.size)⟩
end Go.Proofs.Ytpiappdkbodabaa
