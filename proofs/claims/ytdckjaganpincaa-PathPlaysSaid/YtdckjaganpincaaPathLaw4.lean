/- chapter 21's walks: PathPlays, PathNumbers -/
import Derived.Test.YtdckjaganpincaaPathLaw3
import Derived.Test.YtdckjaganpincaaOwn
namespace Go.Proofs.Ytdckjaganpincaa
open Go.RowKit
set_option linter.unusedVariables false

structure OkAsk (p : Int × Int × List Int) : Prop where
  k : (Lit.int .i64 p.1).wf = true
  n : (Lit.int .i64 p.2.1).wf = true
  l : p.2.2.length = 8
  x : ∀ x ∈ p.2.2, (Lit.int .u8 x).wf = true
def rowsOf (l : List (Int × Int × List Int)) : List Value := l.flatMap fun p => askRow p.1 p.2.1 p.2.2
theorem askRow_len {p : Int × Int × List Int} (h : p.2.2.length = 8) : (askRow p.1 p.2.1 p.2.2).length = 10 := by simp [askRow, h]
theorem rowsOf_at : ∀ {l : List (Int × Int × List Int)} (h : ∀ p ∈ l, OkAsk p) {j : Nat} {p : Int × Int × List Int} (hp : l[j]? = some p) {i : Nat} (hi : i < 10), (rowsOf l)[j * 10 + i]? = (askRow p.1 p.2.1 p.2.2)[i]?
  | [], _, j, p, hp, _, _ => by simp at hp
  | q :: l, h, 0, p, hp, i, hi => by
    simp at hp; subst hp
    have hl := askRow_len (h q (by simp)).l
    simp only [rowsOf, List.flatMap_cons, Nat.zero_mul, Nat.zero_add]
    rw [List.getElem?_append_left (by omega)]
  | q :: l, h, j + 1, p, hp, i, hi => by
    have hl := askRow_len (h q (by simp)).l
    simp only [rowsOf, List.flatMap_cons]
    rw [List.getElem?_append_right (by omega), hl, show (j + 1) * 10 + i - 10 = j * 10 + i by omega]
    exact rowsOf_at (l := l) (fun p hp => h p (by simp [hp])) (by simpa using hp) hi
theorem asks_of_own {w : World} {base e : Nat} {v : Value} {n : Nat} {l : List (Int × Int × List Int)} (h : w.ownsRow base e 10 v n (rowsOf l)) (hl : l.length = n) (hok : ∀ p ∈ l, OkAsk p) :
    ∃ a cap, v = .slice a n cap ∧ Asks w a n := by
  rcases h.2 with ⟨rfl, rfl⟩ | ⟨g, cap, cur, rfl, hg, hrow, hn, hc, hsz, htk⟩
  · exact ⟨_, _, rfl, .inl rfl⟩
  · refine ⟨_, _, rfl, .inr ⟨g, 0, rfl, lt_of_block hrow, fun j hj => ?_⟩⟩
    have hp : l[j]? = some l[j] := List.getElem?_eq_getElem (by omega)
    have ok := hok l[j] (List.getElem_mem _)
    refine ⟨_, _, _, ok.k, ok.n, ok.l, ok.x, fun i v hv => ?_⟩
    have hi : i < 10 := by have := lt_of_get hv; rw [askRow_len ok.l] at this; exact this
    rw [← rowsOf_at hok hp hi, ← htk, List.getElem?_take_of_lt (by omega)] at hv
    rw [cell_of_row _ _ _ _ _ _ hrow, Nat.zero_add, ← hv]
    simp
def numAsks : List (Int × Int × List Int) := [(0, 100), (2, 299), (2, 1), (2, 1), (0, -5), (2, -5), (0, 2199023255552), (2, 2199023255552), (7, 0), (6, 0), (5, 0)].map fun p => (p.1, p.2, [0, 0, 0, 0, 0, 0, 0, 0])
theorem infoAsk : (Try.prog.info? 30).map (fun i => (i.zero, i.size, i.bytes)) = some (some (.agg #[.int .i64 0, .int .i64 0, .int .u8 0, .int .u8 0, .int .u8 0, .int .u8 0, .int .u8 0, .int .u8 0, .int .u8 0, .int .u8 0]), 10, 24) := by kernel_rfl

set_option maxRecDepth 100000 in
set_option maxHeartbeats 4000000 in
theorem plays21_any (w : World) (tq seed : Int) (K0 : Bool) (a : Option Addr) (len cap : Nat) (hlen : len * 24 ≤ 140737488351232) (hA : Asks w a len) :
    Makes Try.prog 6 #[.int .i64 tq, .bool K0, .int .u64 seed, .slice a len cap] w (.bool true) := by
  have HAsk := Lib.hid hA; clear hA
  obtain ⟨i0, hi, hz0, hz1, hz2⟩ := info_parts infoAsk
  have HI := Lib.hid hi; have HZ0 := Lib.hid hz0; have HZ1 := Lib.hid hz1; have HZ2 := Lib.hid hz2
  clear hi hz0 hz1 hz2
  go_enter Try.func6, Try.ntmps6
  go_wp2_with fail
  go_loopw [9, 10] (fun v i wr => ∃ (j : Nat) (l : List (Int × Int × List Int)), i = .int .i64 j ∧ j ≤ len ∧ l.length = j ∧ Hid (∀ p ∈ l, OkAsk p) ∧ Hid (Below w.heap.size w wr) ∧ Hid (wr.ownsRow w.heap.size 30 10 v j (rowsOf l))) (fun _ i _ => len - (intOf i).toNat)
  case atStart => exact ⟨0, [], rfl, by omega, rfl, Lib.hid (by simp), Lib.hid (Below.refl _ _), Lib.hid ⟨rfl, .inl ⟨rfl, rfl⟩⟩⟩
  case round =>
    obtain ⟨j, l, rfl, hj, hl, HOK, HL, HO⟩ := hrel
    by_cases hlt : j < len
    · obtain ⟨ba, off, k, n, xs, rfl, hbl, hk, hn, hxl, hx, hc⟩ := HAsk.out.at hlt
      obtain ⟨x0, x1, x2, x3, x4, x5, x6, x7, rfl⟩ := len8 hxl
      have HC := Lib.hid (fun i v hv => bl_cell HL.out (p := ⟨ba, off + j * 10 + i, none⟩) hbl (hc i v hv))
      have c0 : wr.cell? ⟨ba, off + j * 10, none⟩ = some (.int .i64 k) := HC.out 0 _ rfl
      have c1 : wr.cell? ⟨ba, off + j * 10 + 1, none⟩ = some (.int .i64 n) := HC.out 1 _ rfl
      have c2 : wr.cell? ⟨ba, off + j * 10 + 2, none⟩ = some (.int .u8 x0) := HC.out 2 _ rfl
      have c3 : wr.cell? ⟨ba, off + j * 10 + 3, none⟩ = some (.int .u8 x1) := HC.out 3 _ rfl
      have c4 : wr.cell? ⟨ba, off + j * 10 + 4, none⟩ = some (.int .u8 x2) := HC.out 4 _ rfl
      have c5 : wr.cell? ⟨ba, off + j * 10 + 5, none⟩ = some (.int .u8 x3) := HC.out 5 _ rfl
      have c6 : wr.cell? ⟨ba, off + j * 10 + 6, none⟩ = some (.int .u8 x4) := HC.out 6 _ rfl
      have c7 : wr.cell? ⟨ba, off + j * 10 + 7, none⟩ = some (.int .u8 x5) := HC.out 7 _ rfl
      have c8 : wr.cell? ⟨ba, off + j * 10 + 8, none⟩ = some (.int .u8 x6) := HC.out 8 _ rfl
      have c9 : wr.cell? ⟨ba, off + j * 10 + 9, none⟩ = some (.int .u8 x7) := HC.out 9 _ rfl
      have hn2 := i64_bounds hn
      have HK := Lib.hid hk
      have HX := Lib.hid hx
      have HLN := Lib.hid hl
      clear hc hn hk hx hl hxl
      go_wp2_with fail
      refine Calls.mono (within_any _ n (-3) 600 (by omega) (by omega) (by omega) hn2) ?_
      rintro e w' ⟨rfl, rfl⟩
      obtain ⟨m, hm⟩ : ∃ m, within n (-3) 600 = m := ⟨_, rfl⟩
      have hm2 := within_in n (-3) 600 (by omega)
      rw [hm] at hm2 ⊢
      have HM : Hid ((Lit.int .i64 m).wf = true) := Lib.hid (by simp [Lit.wf, IntKind.min, IntKind.max, IntKind.signed, IntKind.bits]; omega)
      clear hm
      have hf := row_free (heap_alloc_new wr (.cells #[.int .i64 k, .int .i64 n, .int .u8 x0, .int .u8 x1, .int .u8 x2, .int .u8 x3, .int .u8 x4, .int .u8 x5, .int .u8 x6, .int .u8 x7] 30)) 1
      have HROW := Lib.hid (heap_alloc_new wr (.cells #[.int .i64 k, .int .i64 m, .int .u8 x0, .int .u8 x1, .int .u8 x2, .int .u8 x3, .int .u8 x4, .int .u8 x5, .int .u8 x6, .int .u8 x7] 30))
      have HB1 := Lib.hid ((Fresh.of_alloc wr (.cells #[.int .i64 k, .int .i64 m, .int .u8 x0, .int .u8 x1, .int .u8 x2, .int .u8 x3, .int .u8 x4, .int .u8 x5, .int .u8 x6, .int .u8 x7] 30)).below)
      go_upto_region 7 with fail
      generalize wr.alloc (.cells #[.int .i64 k, .int .i64 m, .int .u8 x0, .int .u8 x1, .int .u8 x2, .int .u8 x3, .int .u8 x4, .int .u8 x5, .int .u8 x6, .int .u8 x7] 30) = W1 at HROW HB1 ⊢
      have g0 : W1.cell? ⟨wr.heap.size, 0, none⟩ = some (.int .i64 k) := row_cell HROW.out 0 _ rfl
      have g1 : W1.cell? ⟨wr.heap.size, 1, none⟩ = some (.int .i64 m) := row_cell HROW.out 1 _ rfl
      have g2 : W1.cell? ⟨wr.heap.size, 2, none⟩ = some (.int .u8 x0) := row_cell HROW.out 2 _ rfl
      have g3 : W1.cell? ⟨wr.heap.size, 3, none⟩ = some (.int .u8 x1) := row_cell HROW.out 3 _ rfl
      have g4 : W1.cell? ⟨wr.heap.size, 4, none⟩ = some (.int .u8 x2) := row_cell HROW.out 4 _ rfl
      have g5 : W1.cell? ⟨wr.heap.size, 5, none⟩ = some (.int .u8 x3) := row_cell HROW.out 5 _ rfl
      have g6 : W1.cell? ⟨wr.heap.size, 6, none⟩ = some (.int .u8 x4) := row_cell HROW.out 6 _ rfl
      have g7 : W1.cell? ⟨wr.heap.size, 7, none⟩ = some (.int .u8 x5) := row_cell HROW.out 7 _ rfl
      have g8 : W1.cell? ⟨wr.heap.size, 8, none⟩ = some (.int .u8 x6) := row_cell HROW.out 8 _ rfl
      have g9 : W1.cell? ⟨wr.heap.size, 9, none⟩ = some (.int .u8 x7) := row_cell HROW.out 9 _ rfl
      have HO1 := Lib.hid (own_below HO.out HB1.out)
      have hsz1 : w.heap.size ≤ W1.heap.size := Nat.le_trans HL.out.size HB1.out.size
      have HNEWS := Lib.hid (fun j v (hj : (askRow k m [x0, x1, x2, x3, x4, x5, x6, x7])[j]? = some v) => (show (W1.alloc (.cells #[.int .i64 k, .int .i64 m, .int .u8 x0, .int .u8 x1, .int .u8 x2, .int .u8 x3, .int .u8 x4, .int .u8 x5, .int .u8 x6, .int .u8 x7] 30)).cell? ((⟨W1.heap.size, 0, none⟩ : Addr).add j) = some v from by
        rw [add_none, Nat.zero_add, cell_of_row _ _ _ _ _ _ (heap_alloc_new _ _), List.getElem?_toArray]; exact hj))
      clear HAsk HC HROW
      go_wp2_with (at_builtin; refine wpList_append_own _ rfl _ _ 23 rfl w.heap.size 30 i0 _ 10 24 Try.underlying23 HI.out HZ0.out HZ1.out HZ2.out rfl (by decide) _ _ _ rfl (own_below HO1.out ((Below.refl _ _).alloc (Nat.le_refl _) _)) ⟨W1.heap.size, 0, none⟩ 1 1 (askRow k m [x0, x1, x2, x3, x4, x5, x6, x7]) rfl rfl HNEWS.out (by simp [askRow, Value.oneCell']) (by unfold maxLen; omega) (by omega) (by simp; omega) ?_; intro v' w1 hown' hgrow _; have HO2 := Lib.hid hown'; have HG2 := Lib.hid hgrow; clear hown' hgrow)
      have hnb : ∀ k, u9.ownBlock = some k → w.heap.size ≤ k := own_base HO1.out
      have hLw : Below w.heap.size w W1 := HL.out.trans (HB1.out.mono HL.out.size)
      have HL1 := Lib.hid ((hLw.alloc hsz1 (.cells #[.int .i64 k, .int .i64 m, .int .u8 x0, .int .u8 x1, .int .u8 x2, .int .u8 x3, .int .u8 x4, .int .u8 x5, .int .u8 x6, .int .u8 x7] 30)).grown HG2.out (by simp; omega) hnb)
      have HO3 : Hid (w1.ownsRow w.heap.size 30 10 v' (j + 1) (rowsOf (l ++ [(k, m, [x0, x1, x2, x3, x4, x5, x6, x7])]))) := by
        have h := HO2.out
        rw [show rowsOf (l ++ [(k, m, [x0, x1, x2, x3, x4, x5, x6, x7])]) = rowsOf l ++ askRow k m [x0, x1, x2, x3, x4, x5, x6, x7] by simp [rowsOf]]
        exact Lib.hid h
      have HOK2 : Hid (∀ p ∈ l ++ [(k, m, [x0, x1, x2, x3, x4, x5, x6, x7])], OkAsk p) := Lib.hid (by
        intro p hp
        rcases List.mem_append.1 hp with h | h
        · exact HOK.out p h
        · rw [List.mem_singleton.1 h]; exact ⟨HK.out, HM.out, rfl, HX.out⟩)
      clear HG2 HO2 HO HL hnb hLw HO1 HB1
      go_roundw
      case rel => exact ⟨j + 1, _, by go_num, by omega, by rw [List.length_append, HLN.out]; rfl, HOK2, HL1, HO3⟩
      case measure => simp [intOf]; omega
    · obtain rfl : j = len := by omega
      obtain ⟨a2, cap2, rfl, hA2⟩ := asks_of_own HO.out hl HOK.out
      have HA2 := Lib.hid hA2; clear hA2 HO hl
      go_wp2_with fail
      refine Calls.mono (play_any _ _ _ _ _ _ _ (by omega) (HAsk.out.below HL.out)) ?_
      rintro e wa ⟨rfl, ha⟩
      have HLA := Lib.hid ha; clear ha
      go_wp2_with fail
      refine Calls.mono (play_any _ _ _ _ _ _ _ (by omega) (HA2.out.below HLA.out)) ?_
      rintro e wb ⟨rfl, hb⟩
      have HLB := Lib.hid (bl_next HLA.out HLA.out.size hb); clear hb
      go_wp2_with fail
      refine Calls.mono (known21_any _) ?_
      rintro e wc ⟨rfl, hc⟩
      have HLC := Lib.hid (bl_next HLB.out HLB.out.size hc); clear hc
      go_wp2_with fail
      go_ret
      exact ⟨rfl, HL.out.trans (HLC.out.mono HL.out.size)⟩

set_option maxRecDepth 100000 in
set_option maxHeartbeats 4000000 in
theorem numbers21_any (w : World) : Makes Try.prog 5 #[] w (.bool true) := by
  have HOK : Hid (∀ p ∈ numAsks, OkAsk p) := Lib.hid (by
    intro p hp
    simp only [numAsks, List.map_cons, List.map_nil, List.mem_cons, List.not_mem_nil, or_false] at hp
    rcases hp with rfl | rfl | rfl | rfl | rfl | rfl | rfl | rfl | rfl | rfl | rfl <;> exact ⟨by decide, by decide, rfl, by decide⟩)
  have HA : Hid (∀ w1 : World, w1.heap[w.heap.size]? = some (.cells (rowsOf numAsks).toArray 30 (0, 0)) → Asks w1 (some ⟨w.heap.size, 0, none⟩) 11) := Lib.hid fun w1 h => by
    have ho : w1.ownsRow w.heap.size 30 10 (.slice (some ⟨w.heap.size, 0, none⟩) 11 11) 11 (rowsOf numAsks) :=
      ⟨by decide, .inr ⟨_, 11, _, rfl, Nat.le_refl _, h, Nat.le_refl _, by decide, by decide, by rfl⟩⟩
    obtain ⟨a, cap, e, hA⟩ := asks_of_own ho rfl HOK.out
    injection e with e1 e2 e3
    rw [e1]; exact hA
  have HR := Lib.hid (heap_alloc_new w (.cells (rowsOf numAsks).toArray 30))
  have HB := Lib.hid (Fresh.of_alloc w (.cells (rowsOf numAsks).toArray 30)).below
  go_enter Try.func5, Try.ntmps5
  go_upto_region 2 with fail
  change Code.wp _ _ _ _ (w.alloc (.cells (rowsOf numAsks).toArray 30))
  generalize w.alloc (.cells (rowsOf numAsks).toArray 30) = W1 at HR HB ⊢
  have HA1 := Lib.hid (HA.out W1 HR.out)
  go_wp2_with fail
  refine Calls.mono (play_any _ _ _ _ _ _ _ (by omega) HA1.out) ?_
  rintro e wa ⟨rfl, ha⟩
  have HLA := Lib.hid ha; clear ha
  go_wp2_with fail
  refine Calls.mono (play_any _ _ _ _ _ _ _ (by omega) (HA1.out.below HLA.out)) ?_
  rintro e wb ⟨rfl, hb⟩
  have HLB := Lib.hid (bl_next HLA.out HLA.out.size hb); clear hb
  go_wp2_with fail
  refine Calls.mono (known21_any _) ?_
  rintro e wc ⟨rfl, hc⟩
  have HLC := Lib.hid (bl_next HLB.out HLB.out.size hc); clear hc
  go_wp2_with fail
  go_ret
  exact ⟨rfl, HB.out.trans (HLC.out.mono HB.out.size)⟩
end Go.Proofs.Ytdckjaganpincaa
