/- contracts of lock: turned. -/
import Derived.Test.YtgjfhfjlegkhbaaLock3
import Derived.Test.YtgjfhfjlegkhbaaRegion
import Derived.Deep.DeepCutAuto
import Derived.Deep.CutBlock
namespace Go.Proofs.Ytgjfhfjlegkhbaa
open Go.RowKit
set_option linter.unusedVariables false

def keyRow (key n : Int) (q : Nat) : List Int := bytesM (keyedM key (rowM [n, (q : Int)]))
theorem keyRow_len (key n : Int) (q : Nat) : (keyRow key n q).length = 8 := by unfold keyRow bytesM; simp
theorem keyRow_wf (key n : Int) (q : Nat) : ∀ x ∈ keyRow key n q, (Lit.int .u8 x).wf = true := wf_bytes _
def turnAt (key n : Int) (bs : List Int) (i : Nat) : Int := bits .xor .u8 (bs.getD i 0) ((keyRow key n (i / 8)).getD (i % 8) 0)
def mixM (key n : Int) (bs : List Int) : Nat → List Int
  | 0 => bs
  | j + 1 => (mixM key n bs j).set j (turnAt key n bs j)
def turnedM (key n : Int) (bs : List Int) : List Int := mixM key n bs bs.length
theorem mixM_len (key n : Int) (bs : List Int) : ∀ j, (mixM key n bs j).length = bs.length
  | 0 => rfl
  | j + 1 => by simp [mixM, mixM_len key n bs j]
theorem mixM_at (key n : Int) (bs : List Int) : ∀ j i, j ≤ i → (mixM key n bs j)[i]? = bs[i]?
  | 0, i, _ => rfl
  | j + 1, i, h => by
    simp only [mixM]
    rw [List.getElem?_set_ne (by omega), mixM_at key n bs j i (by omega)]
theorem mixM_wf (key n : Int) (bs : List Int) (h : ∀ x ∈ bs, (Lit.int .u8 x).wf = true) : ∀ j, ∀ x ∈ mixM key n bs j, (Lit.int .u8 x).wf = true
  | 0, x, hx => h x hx
  | j + 1, x, hx => by
    rcases List.mem_or_eq_of_mem_set hx with h1 | h1
    · exact mixM_wf key n bs h j x h1
    · rw [h1]; exact wf_bits _ _ _ _
theorem ints_made2u (w : World) (x y : Int) (hx : (Lit.int .u64 x).wf = true) (hy : (Lit.int .u64 y).wf = true) : IntsK .u64 (w.alloc (.cells #[.int .u64 x, .int .u64 y] 22)) (some ⟨w.heap.size, 0, none⟩) 2 [x, y] := by
  have h := IntsK.of_row (k := .u64) (zs := [x, y]) (heap_alloc_new w (.cells #[.int .u64 x, .int .u64 y] 22)) (by simp [hx, hy])
  exact h

theorem set8 {w : World} {b : Nat} {u0 u1 u2 u3 u4 u5 u6 u7 : Value} {t : TypeId} (h : w.heap[b]? = some (.cells #[u0, u1, u2, u3, u4, u5, u6, u7] t (0, 0))) (x0 x1 x2 x3 x4 x5 x6 x7 : Value) :
    At ((((((((w.setCell ⟨b, 0, none⟩ x0).setCell ⟨b, 1, none⟩ x1).setCell ⟨b, 2, none⟩ x2).setCell ⟨b, 3, none⟩ x3).setCell ⟨b, 4, none⟩ x4).setCell ⟨b, 5, none⟩ x5).setCell ⟨b, 6, none⟩ x6).setCell ⟨b, 7, none⟩ x7)
      b #[x0, x1, x2, x3, x4, x5, x6, x7] t w := by
  have h0 := At.base h
  have h1 : At _ b #[x0, u1, u2, u3, u4, u5, u6, u7] t w := (h0.set 0 x0).conv (by rfl)
  have h2 : At _ b #[x0, x1, u2, u3, u4, u5, u6, u7] t w := (h1.set 1 x1).conv (by rfl)
  have h3 : At _ b #[x0, x1, x2, u3, u4, u5, u6, u7] t w := (h2.set 2 x2).conv (by rfl)
  have h4 : At _ b #[x0, x1, x2, x3, u4, u5, u6, u7] t w := (h3.set 3 x3).conv (by rfl)
  have h5 : At _ b #[x0, x1, x2, x3, x4, u5, u6, u7] t w := (h4.set 4 x4).conv (by rfl)
  have h6 : At _ b #[x0, x1, x2, x3, x4, x5, u6, u7] t w := (h5.set 5 x5).conv (by rfl)
  have h7 : At _ b #[x0, x1, x2, x3, x4, x5, x6, u7] t w := (h6.set 6 x6).conv (by rfl)
  have h8 : At _ b #[x0, x1, x2, x3, x4, x5, x6, x7] t w := (h7.set 7 x7).conv (by rfl)
  exact h8

theorem own_ch8 {w w' : World} {base e size n : Nat} {v : Value} {xs : List Value} (h : w.ownsRow base e size v n xs) (hk : ∀ k, v.ownBlock = some k → k < w.heap.size → w'.heap[k]? = w.heap[k]?) : w'.ownsRow base e size v n xs := by
  refine ⟨h.1, ?_⟩
  rcases h.2 with ⟨rfl, rfl⟩ | ⟨g, cap, cur, rfl, hg, hrow, hn, hc, hsz, htk⟩
  · exact .inl ⟨rfl, rfl⟩
  · exact .inr ⟨g, cap, cur, rfl, hg, (hk g (by simp [Value.ownBlock]) (lt_of_block hrow)).trans hrow, hn, hc, hsz, htk⟩

set_option maxHeartbeats 2000000 in
theorem turned_any (w : World) (key n : Int) (a : Option Addr) (len cap : Nat) (bs : List Int) (hlen : len ≤ 1000000) (hn : (Lit.int .u64 n).wf = true) (hI : IntsK .u8 w a len bs) :
    Calls Try.prog 19 #[.int .u64 key, .int .u64 n, .slice a len cap] w fun e w' => ∃ v, e = .returned v ∧ Below w.heap.size w w' ∧ w'.ownsRow w.heap.size 5 1 v len ((turnedM key n bs).map (Value.int .u8)) := by
  have HI := Lib.hid hI
  have hl := hI.1
  have HN := Lib.hid hn
  clear hI hn
  go_enter Try.func19, Try.ntmps19
  go_wp2_with fail
  refine Calls.mono (clone_any w a len cap bs (by omega) HI.out) ?_
  rintro e w1 ⟨v, rfl, hb1, ho1⟩
  obtain ⟨b, cp, rfl, hcp⟩ := own_slice ho1
  have hx0 := heap_alloc_new w1 (.cells #[.int .u8 0, .int .u8 0, .int .u8 0, .int .u8 0, .int .u8 0, .int .u8 0, .int .u8 0, .int .u8 0] 36)
  have hb2 := (Below.refl w1.heap.size w1).alloc (Nat.le_refl _) (.cells #[.int .u8 0, .int .u8 0, .int .u8 0, .int .u8 0, .int .u8 0, .int .u8 0, .int .u8 0, .int .u8 0] 36)
  have hnb : ∀ k, (Value.slice b len cp).ownBlock = some k → w.heap.size ≤ k ∧ k < w1.heap.size := ho1.lt
  have HO0 : Hid (_) := Lib.hid (own_below ho1 hb2)
  have HL0 := Lib.hid (bl_next hb1 hb1.size hb2)
  have HX0 : Hid (∃ xs : List Int, xs.length = 8 ∧ (∀ x ∈ xs, (Lit.int .u8 x).wf = true) ∧ (0 % 8 ≠ 0 → xs = keyRow key n (0 / 8)) ∧ _ = some (Obj.cells (xs.map (Value.int .u8)).toArray 36 (0, 0))) := Lib.hid ⟨[0, 0, 0, 0, 0, 0, 0, 0], rfl, by decide, by omega, hx0⟩
  obtain ⟨gx, hgx⟩ : ∃ gx, w1.heap.size = gx := ⟨_, rfl⟩
  have hgw := hb1.size
  clear ho1 hb1 hb2 hx0
  go_wp2_with fail
  generalize w1.alloc (.cells #[.int .u8 0, .int .u8 0, .int .u8 0, .int .u8 0, .int .u8 0, .int .u8 0, .int .u8 0, .int .u8 0] 36) = W2 at HO0 HL0 HX0 ⊢
  rw [hgx] at HX0 hgw hnb
  clear hgx
  go_loopg [14] len (fun g s14 wr => ∃ j : Nat, s14 = .int .i64 j ∧ j ≤ len ∧ g = len - j ∧ Hid (Below w.heap.size w wr) ∧ Hid (wr.ownsRow w.heap.size 5 1 (.slice b len cp) len ((mixM key n bs j).map (Value.int .u8))) ∧
    Hid (∃ xs : List Int, xs.length = 8 ∧ (∀ x ∈ xs, (Lit.int .u8 x).wf = true) ∧ (j % 8 ≠ 0 → xs = keyRow key n (j / 8)) ∧ wr.heap[gx]? = some (Obj.cells (xs.map (Value.int .u8)).toArray 36 (0, 0))))
  case atStart => exact ⟨0, rfl, by omega, rfl, HL0, HO0, HX0⟩
  case round =>
    clear HL0 HO0 HX0
    obtain ⟨j, rfl, hj, rfl, HL, HO, HX⟩ := hrel
    by_cases hlt : j < len
    · go_upto_if 19 with fail
      go_cut [] (fun wc => Hid (Below w.heap.size w wc) ∧ Hid (wc.ownsRow w.heap.size 5 1 (.slice b len cp) len ((mixM key n bs j).map (Value.int .u8))) ∧ Hid (wc.heap[gx]? = some (Obj.cells ((keyRow key n (j / 8)).map (Value.int .u8)).toArray 36 (0, 0))))
      case first =>
        by_cases h8 : j % 8 = 0
        · obtain ⟨xs, hxl, hxw, _, hxr⟩ := HX.out
          have hsz := HL.out.size
          have hq : (Lit.int .u64 ((j : Int) / 8)).wf = true := wf_u64_of (by omega) (by omega)
          have HIN := Lib.hid (ints_made2u wr n ((j : Int) / 8) HN.out hq)
          have hba := (Below.refl wr.heap.size wr).alloc (Nat.le_refl _) (.cells #[.int .u64 n, .int .u64 ((j : Int) / 8)] 22)
          have HBA := Lib.hid hba
          clear hba hq
          have hkr : keyRow key n (j / 8) = bytesM (keyedM key (rowM [n, (j : Int) / 8])) := by unfold keyRow; rw [show ((j / 8 : Nat) : Int) = (j : Int) / 8 by omega]
          have HKR := Lib.hid hkr; clear hkr
          go_wp2_with fail
          refine Calls.mono (row_any _ _ 2 2 [n, (j : Int) / 8] (by omega) HIN.out) ?_
          rintro e w5 ⟨v5, rfl, hb5, ho5⟩
          have hwf5 : ∀ x ∈ rowM [n, (j : Int) / 8], (Lit.int .u8 x).wf = true := by
            intro x hx
            simp only [rowM, List.flatMap_cons, List.flatMap_nil, List.append_nil, List.mem_append] at hx
            rcases hx with h | h
            · exact wf_bytes _ x h
            · exact wf_bytes _ x h
          obtain ⟨b5, cp5, rfl, _, hi5, _⟩ := ints_of_own ho5 hwf5
          have HI5 := Lib.hid hi5
          have hbw5 := HBA.out.trans (hb5.mono HBA.out.size)
          have HB5 := Lib.hid hbw5
          clear hb5 ho5 hwf5 hi5 hbw5
          go_wp2_with fail
          refine Calls.mono (keyed_any _ key b5 16 cp5 _ (by omega) HI5.out) ?_
          rintro e w6 ⟨rfl, q6, rfl⟩
          go_wp2_with fail
          refine Calls.mono (bytes_any _ _) ?_
          rintro e w7 ⟨rfl, hb7⟩
          have hwy := wf_bytes (keyedM key (rowM [n, (j : Int) / 8]))
          have hkr := HKR.out
          obtain ⟨y0, y1, y2, y3, y4, y5, y6, y7, ey⟩ : ∃ y0 y1 y2 y3 y4 y5 y6 y7, bytesM (keyedM key (rowM [n, (j : Int) / 8])) = [y0, y1, y2, y3, y4, y5, y6, y7] := ⟨_, _, _, _, _, _, _, _, rfl⟩
          rw [ey] at hwy hkr ⊢
          simp only [List.map_cons, List.map_nil]
          have HKY := Lib.hid hkr
          obtain ⟨x0, x1, x2, x3, x4, x5, x6, x7, rfl⟩ : ∃ x0 x1 x2 x3 x4 x5 x6 x7, xs = [x0, x1, x2, x3, x4, x5, x6, x7] := by
            match xs, hxl with
            | [x0, x1, x2, x3, x4, x5, x6, x7], _ => exact ⟨x0, x1, x2, x3, x4, x5, x6, x7, rfl⟩
          have hbw7 : Below wr.heap.size wr w7 := (bl_drewN HB5.out q6).trans (hb7.mono (by simpa using HB5.out.size))
          have hx7 := bl_row hbw7 (lt_of_block hxr) hxr
          have HB7 := Lib.hid hbw7; have HX7 := Lib.hid hx7
          have e0 := row_free hx7 0
          have e1 := row_free hx7 1
          have e2 := row_free hx7 2
          have e3 := row_free hx7 3
          have e4 := row_free hx7 4
          have e5 := row_free hx7 5
          have e6 := row_free hx7 6
          have e7 := row_free hx7 7
          have d0 : w7.cell? ⟨gx, 0, none⟩ = some (.int .u8 x0) := row_cell hx7 0 _ rfl
          have d1 : w7.cell? ⟨gx, 1, none⟩ = some (.int .u8 x1) := row_cell hx7 1 _ rfl
          have d2 : w7.cell? ⟨gx, 2, none⟩ = some (.int .u8 x2) := row_cell hx7 2 _ rfl
          have d3 : w7.cell? ⟨gx, 3, none⟩ = some (.int .u8 x3) := row_cell hx7 3 _ rfl
          have d4 : w7.cell? ⟨gx, 4, none⟩ = some (.int .u8 x4) := row_cell hx7 4 _ rfl
          have d5 : w7.cell? ⟨gx, 5, none⟩ = some (.int .u8 x5) := row_cell hx7 5 _ rfl
          have d6 : w7.cell? ⟨gx, 6, none⟩ = some (.int .u8 x6) := row_cell hx7 6 _ rfl
          have d7 : w7.cell? ⟨gx, 7, none⟩ = some (.int .u8 x7) := row_cell hx7 7 _ rfl
          have hA := set8 hx7 (.int .u8 y0) (.int .u8 y1) (.int .u8 y2) (.int .u8 y3) (.int .u8 y4) (.int .u8 y5) (.int .u8 y6) (.int .u8 y7)
          have HAS := Lib.hid hA
          clear ey hwy hkr hxl hxw hxr hb7 hbw7 hx7 hA
          go_wp2_with fail
          have hAZ := HAS.out
          generalize ((((((((w7.setCell ⟨gx, 0, none⟩ (.int .u8 y0)).setCell ⟨gx, 1, none⟩ (.int .u8 y1)).setCell ⟨gx, 2, none⟩ (.int .u8 y2)).setCell ⟨gx, 3, none⟩ (.int .u8 y3)).setCell ⟨gx, 4, none⟩ (.int .u8 y4)).setCell ⟨gx, 5, none⟩ (.int .u8 y5)).setCell ⟨gx, 6, none⟩ (.int .u8 y6)).setCell ⟨gx, 7, none⟩ (.int .u8 y7)) = W9 at hAZ ⊢
          have hrowZ := hAZ.row
          have hgrZ := hAZ.rest
          have hLZ := (bl_next HL.out hsz HB7.out).grown hgrZ (Nat.le_trans hsz HB7.out.size) (by intro k hk; injection hk with hk; omega)
          have hOZ := own_ch8 (own_below HO.out HB7.out) (fun k hk hlt2 => hgrZ.block k hlt2 (by intro e; injection e with e; subst e; exact absurd (hnb _ hk).2 (Nat.lt_irrefl _)))
          have HLZ := Lib.hid hLZ; have HOZ := Lib.hid hOZ
          have HXZ : Hid (W9.heap[gx]? = some (Obj.cells ((keyRow key n (j / 8)).map (Value.int .u8)).toArray 36 (0, 0))) := Lib.hid (by rw [HKY.out]; exact hrowZ)
          clear hrowZ hgrZ hLZ hOZ e0 e1 e2 e3 e4 e5 e6 e7 d0 d1 d2 d3 d4 d5 d6 d7
          go_meet
          case rel => exact ⟨HLZ, HOZ, HXZ⟩
        · obtain ⟨xs, hxl, hxw, hxk, hxr⟩ := HX.out
          obtain rfl := hxk h8
          have HXZ := Lib.hid hxr
          clear hxl hxw hxr hxk
          go_wp2_with fail
          go_meet
          case rel => exact ⟨HL, HO, HXZ⟩
      case rest =>
        clear HL HO HX
        obtain ⟨HL, HO, HX⟩ := hcut
        obtain ⟨g, rfl, hg, hgl, hfz, hcells, _⟩ := own_set HO.out (Below.refl _ _) (i := j) hlt (.int .u8 0) rfl
        obtain ⟨x, hx⟩ : ∃ x, bs[j]? = some x := ⟨_, List.getElem?_eq_getElem (by omega)⟩
        have hc : wc.cell? ⟨g, j, none⟩ = some (.int .u8 x) := hcells _ _ (by rw [List.getElem?_map, mixM_at key n bs j j (Nat.le_refl _), hx]; rfl)
        obtain ⟨ks, hks⟩ : ∃ ks, keyRow key n (j / 8) = ks := ⟨_, rfl⟩
        have hkl : ks.length = 8 := by rw [← hks]; exact keyRow_len key n (j / 8)
        rw [hks] at HX
        obtain ⟨y, hy⟩ : ∃ y, ks[j % 8]? = some y := ⟨_, List.getElem?_eq_getElem (by omega)⟩
        have hd : wc.cell? ⟨gx, j % 8, none⟩ = some (.int .u8 y) := by
          rw [cell_of_row _ _ _ _ _ _ HX.out, List.getElem?_toArray, List.getElem?_map, hy]; rfl
        have hta : turnAt key n bs j = bits .xor .u8 x y := by
          unfold turnAt
          rw [List.getD_eq_getElem?_getD, hx, List.getD_eq_getElem?_getD, hks, hy]; rfl
        have HTA := Lib.hid hta
        have hgx2 := lt_of_block HX.out
        have hgne : g ≠ gx := by have := (hnb g rfl).2; omega
        have hds : ∀ s : In (fun y => wc.grownBy y (some g)), s.w.cell? ⟨gx, j % 8, none⟩ = some (.int .u8 y) := fun s => by
          rw [cell_of_row _ _ _ _ _ _ (grown_row s.h (by intro e; injection e with e; omega) HX.out), List.getElem?_toArray, List.getElem?_map, hy]; rfl
        have HKS := Lib.hid (And.intro hkl hks)
        clear hcells hx hy hta hkl hks hd
        go_wp2_with fail
        refine wp_plan (.t 0 (.t 1 (.t 2 (.t 4 (.t 5 (.t 6 (.t 7 (.u 3 (.t 8 (.t 9 (.u 10 .done)))))))))))
          (fun y => wc.grownBy y (some g)) (by kernel_rfl) (by kernel_rfl) (by kernel_rfl) (fun c a d v w h => by cases d <;> exact h) (grown_drew _ _) ?_
        have hS : wc.grownBy wc.drew (some g) := grown_drew _ _
        have HO1 := Lib.hid (own_below HO.out (Below.refl wc.heap.size wc).drew)
        have HL1 := Lib.hid (bl_next HL.out HL.out.size (Below.refl wc.heap.size wc).drew)
        have HX1 := Lib.hid (bl_row (Below.refl wc.heap.size wc).drew hgx2 HX.out)
        have hc1 : wc.drew.cell? ⟨g, j, none⟩ = some (.int .u8 x) := hc
        have hf1 : wc.drew.frozen? ⟨g, j, none⟩ = false := hfz
        have hgl1 : g < wc.drew.heap.size := hgl
        generalize wc.drew = W1 at hS HO1 HL1 HX1 hc1 hf1 hgl1 ⊢
        clear hc hfz hgl hgx2 HO HL HX
        haveI hne : Nonempty (In fun y => wc.grownBy y (some g)) := ⟨⟨wc, grown_refl _ _⟩⟩
        repeat (refine plan_t (by rfl) ?_; (first | go_big_quiet_skip | (go_big_quiet_want; go_big_quiet_op; go_big_quiet_on)); refine wpQuiet_nil ?_)
        refine plan_us (by rfl) (by kernel_rfl) ?_
        intro K hK
        go_wp2_with fail
        refine ⟨hS, ?_⟩
        repeat (refine plan_t (by rfl) ?_; (first | go_big_quiet_skip | (go_big_quiet_want; go_big_quiet_op; go_big_quiet_on)); refine wpQuiet_nil ?_)
        refine plan_un (by rfl) (by kernel_rfl) ?_
        intro K2 hK2
        go_wp2_with fail
        have hHO := own_put HO1.out (i := j) hlt (.int .u8 (bits .xor .u8 x y)) rfl
        have hHL := (HL1.out.setCell (p := ⟨g, j, none⟩) hg (.int .u8 (bits .xor .u8 x y)))
        have hHX := grown_row (grown_setCell W1 g j (.int .u8 (bits .xor .u8 x y))) (b := gx) (by intro e; injection e with e; omega) HX1.out
        refine ⟨fun y => wc.grownBy y (some g), fun _ h => h, grown_trans hS (grown_setCell _ _ _ _), ?_⟩
        have hset : mixM key n bs (j + 1) = (mixM key n bs j).set j (bits .xor .u8 x y) := by rw [← HTA.out]; rfl
        rw [← List.map_set, ← hset] at hHO
        have HO2 := Lib.hid hHO; have HL2 := Lib.hid hHL
        have HX2 : Hid (∃ xs : List Int, xs.length = 8 ∧ (∀ x ∈ xs, (Lit.int .u8 x).wf = true) ∧ ((j + 1) % 8 ≠ 0 → xs = keyRow key n ((j + 1) / 8)) ∧ _ = some (Obj.cells (xs.map (Value.int .u8)).toArray 36 (0, 0))) := Lib.hid ⟨ks, HKS.out.1, by rw [← HKS.out.2]; exact keyRow_wf key n _, fun h => by rw [← HKS.out.2, show (j + 1) / 8 = j / 8 by omega], hHX⟩
        clear hHO hHL hHX hset hS hc1 hf1 HO1 HL1 HX1
        show Exit.inBlock _ _ _ _ _
        go_wp2_with fail
        go_roundg (len - (j + 1))
        case rel => exact ⟨j + 1, by go_num, by omega, rfl, HL2, HO2, HX2⟩
        case measure => omega
    · obtain rfl : j = len := by omega
      go_wp2_with fail
      go_ret
      exact ⟨_, rfl, HL.out, by unfold turnedM; rw [hl]; exact HO.out⟩
end Go.Proofs.Ytgjfhfjlegkhbaa
