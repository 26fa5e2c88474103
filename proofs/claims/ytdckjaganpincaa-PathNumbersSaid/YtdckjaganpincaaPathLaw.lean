/- chapter 21's walks -/
import Derived.Test.YtdckjaganpincaaPath
import Derived.Test.YtdckjaganpincaaOpen
namespace Go.Proofs.Ytdckjaganpincaa
open Go.RowKit
set_option linter.unusedVariables false

def askRow (k n : Int) (xs : List Int) : List Value := .int .i64 k :: .int .i64 n :: xs.map (Value.int .u8)
/-- a slice of Asks that came in, or was made. -/
def Asks (w : World) (a : Option Addr) (len : Nat) : Prop :=
  len = 0 ∨ ∃ b off, a = some ⟨b, off, none⟩ ∧ b < w.heap.size ∧ ∀ j, j < len → ∃ k n xs, (Lit.int .i64 k).wf = true ∧ (Lit.int .i64 n).wf = true ∧ xs.length = 8 ∧ (∀ x ∈ xs, (Lit.int .u8 x).wf = true) ∧
    ∀ i v, (askRow k n xs)[i]? = some v → w.cell? ⟨b, off + j * 10 + i, none⟩ = some v
theorem Asks.below {w w' : World} {a : Option Addr} {len : Nat} (h : Asks w a len) (hb : Below w.heap.size w w') : Asks w' a len := by
  rcases h with h | ⟨b, off, ha, hl, h⟩
  · exact .inl h
  · exact .inr ⟨b, off, ha, Nat.lt_of_lt_of_le hl hb.size, fun j hj => by
      obtain ⟨k, n, xs, h1, h2, h3, h4, h5⟩ := h j hj
      exact ⟨k, n, xs, h1, h2, h3, h4, fun i v hv => bl_cell hb (p := ⟨b, off + j * 10 + i, none⟩) hl (h5 i v hv)⟩⟩
theorem Asks.at {w : World} {a : Option Addr} {len : Nat} (h : Asks w a len) {j : Nat} (hj : j < len) :
    ∃ b off k n xs, a = some ⟨b, off, none⟩ ∧ b < w.heap.size ∧ (Lit.int .i64 k).wf = true ∧ (Lit.int .i64 n).wf = true ∧ xs.length = 8 ∧ (∀ x ∈ xs, (Lit.int .u8 x).wf = true) ∧
    ∀ i v, (askRow k n xs)[i]? = some v → w.cell? ⟨b, off + j * 10 + i, none⟩ = some v := by
  rcases h with h | ⟨b, off, ha, hl, h⟩
  · omega
  · obtain ⟨k, n, xs, h⟩ := h j hj
    exact ⟨b, off, k, n, xs, ha, hl, h⟩
theorem more_small (n k : Int) (hk : 0 ≤ k) (h : k ≤ 1099511627776 - n) : moreM n k = n + k := by
  unfold moreM; (repeat' split) <;> omega
theorem i64_bounds {n : Int} (h : (Lit.int .i64 n).wf = true) : -9223372036854775808 ≤ n ∧ n ≤ 9223372036854775807 := by
  simp [Lit.wf, IntKind.min, IntKind.max, IntKind.signed, IntKind.bits] at h; omega

theorem take_drop_at {α : Type} {cs : List α} {i n k : Nat} {r : List α} (h : (cs.drop i).take n = r) (hk : k < n) : cs[i + k]? = r[k]? := by
  rw [← h, List.getElem?_take_of_lt hk, List.getElem?_drop]
theorem asks_open {H : Type} {enc : TypeId × Value → H} {w : World} {base : Nat} {spare : Nat → Bool} {held : Bool} {a : Option Addr} {len cap : Nat} {d : DataW H} {p : List MemPlace}
    (h : DataW.Trod enc Try.prog w base spare held 23 (.slice a len cap) d p) :
    len ≤ cap ∧ (∃ elems rest : List (DataW H), (d = .nil ∧ len = 0 ∧ cap = 0) ∨ (d = .slice elems rest ∧ elems.length = len)) ∧ Asks w a len := by
  obtain ⟨h1, h2, h3⟩ := open_rows (N := 10) (e := 30) Try.underlying23 (by kernel_rfl) (by omega) h
  refine ⟨h1, h2, ?_⟩
  rcases h3 with h3 | ⟨b, off, ha, hb, hr⟩
  · exact .inl h3
  · refine .inr ⟨b, off, ha, hb, fun j hj => ?_⟩
    obtain ⟨cs, m, y, hl, hc, hy⟩ := hr j hj
    obtain ⟨_, m2, hf⟩ := trod_fields Try.underlying30 hy
    obtain ⟨y0, h0⟩ := hf 0 _ rfl
    obtain ⟨y1, h1⟩ := hf 1 _ rfl
    obtain ⟨y2, h2⟩ := hf 2 _ rfl
    obtain ⟨k, hk, _, wk⟩ := DataW.trod_int Try.underlying3 h0
    obtain ⟨n, hn, _, wn⟩ := DataW.trod_int Try.underlying3 h1
    obtain ⟨xs, hxl, hxw, hx⟩ := trod_ints_arr (n := 8) (e := 5) (k := .u8) Try.underlying28 Try.underlying5 (by kernel_rfl) (by kernel_rfl) h2
    refine ⟨k, n, xs, wk, wn, hxl, hxw, fun i v hv => ?_⟩
    have hi : i < 10 := by
      have := lt_of_get hv
      simp [askRow, hxl] at this; omega
    have g0 : cs[0]? = some (.int .i64 k) := take_drop_at (i := 0) (n := 1) (k := 0) hk (by omega)
    have g1 : cs[1]? = some (.int .i64 n) := take_drop_at (i := 1) (n := 1) (k := 0) hn (by omega)
    rw [hc i hi, ← hv]
    match i, hi with
    | 0, _ => exact g0
    | 1, _ => exact g1
    | i + 2, hi =>
      have h := take_drop_at (i := 2) (n := 8) (k := i) hx (by omega)
      rw [Nat.add_comm 2 i] at h
      rw [h]; rfl

set_option maxHeartbeats 1000000 in
theorem known21_any (w : World) : Makes Try.prog 16 #[] w (.bool true) := by
  go_enter Try.func16, Try.ntmps16
  go_wp2_with fail
  refine Calls.mono (new_any _ 1 false 5) ?_
  rintro e w1 ⟨rfl, hF⟩
  have H1 := Lib.hid hF.below
  have hr : isPath w1 w.heap.size 1 false 5 0 0 := hF.row
  have HR := Lib.hid hr; clear hr hF
  go_wp2_with fail
  refine Calls.mono (got_any _ _ _ _ _ _ _ _ (by omega) HR.out) ?_
  rintro e w2 ⟨rfl, hA⟩
  rw [show moreM 0 10 = 10 from by decide] at hA
  have HA := Lib.hid hA; clear hA
  go_wp2_with fail
  refine Calls.mono (may_any _ _ _ _ _ _ _ _ (by omega) (by omega) HA.out.row) ?_
  rintro e w3 ⟨rfl, n3, rfl⟩
  rw [show mayM false 10 0 30 = true from by decide]
  go_wp2_with fail
  refine Calls.mono (may_any _ _ _ _ _ _ _ _ (by omega) (by omega) (HA.out.drewN _).row) ?_
  rintro e w3 ⟨rfl, n4, rfl⟩
  rw [show mayM false 10 0 31 = false from by decide]
  go_wp2_with fail
  refine Calls.mono (may_any _ _ _ _ _ _ _ _ (by omega) (by omega) (HA.out.drewN _).row) ?_
  rintro e w3 ⟨rfl, n5, rfl⟩
  rw [show mayM false 10 0 (-1) = false from by decide]
  go_wp2_with fail
  refine Calls.mono (to_any _ _ _ _ _ _ _ (HA.out.drewN _).row) ?_
  rintro e w3 ⟨rfl, rfl⟩
  go_wp2_with fail
  refine Calls.mono (known_any _ _ _ _ _ _ _ (HA.out.drewN _).row) ?_
  rintro e w3 ⟨rfl, rfl⟩
  go_wp2_with fail
  go_ret
  exact ⟨rfl, bl_drewN (H1.out.trans (HA.out.bl (Nat.le_refl _) H1.out.size)) _⟩

set_option maxHeartbeats 1000000 in
theorem thrice_any (w : World) (seed : Int) (a : Option Addr) (len cap : Nat) (hlen : len ≤ 4611686018427387904) (hA : Asks w a len) : Makes Try.prog 3 #[.int .u64 seed, .slice a len cap] w (.bool true) := by
  have HAsk := Lib.hid hA; clear hA
  go_enter Try.func3, Try.ntmps3
  go_wp2_with fail
  refine Calls.mono (new_any _ 1 false seed) ?_
  rintro e w1 ⟨rfl, hF⟩
  have hr : At w1 w.heap.size (pathRow 1 false seed 0 0) 41 w := ⟨hF.row, grown_below hF.below _⟩
  have HR := Lib.hid hr; clear hr hF
  go_wp2_with fail
  go_loopw [6] (fun i wr => ∃ (j : Nat) (h t : Int), i = .int .i64 j ∧ j ≤ len ∧ j ≤ 60 ∧ 0 ≤ h ∧ h ≤ j * 512 ∧ 0 ≤ t ∧ t ≤ 3 * h ∧ Hid (At wr w.heap.size (pathRow 1 false seed h t) 41 w)) (fun i _ => len - (intOf i).toNat)
  case atStart => exact ⟨0, 0, 0, rfl, by omega, by omega, by omega, by omega, by omega, by omega, HR⟩
  case round =>
    obtain ⟨j, h, t, rfl, hj, hj6, hh0, hh1, ht0, ht1, HP⟩ := hrel
    by_cases h1 : j < len
    case' pos => have h6 : j < 60 ∨ j = 60 := by omega
    case' pos => rcases h6 with h6 | rfl
    case pos.inl =>
      obtain ⟨b, off, k, n, xs, rfl, hbl, hk, hn, _, _, hc⟩ := HAsk.out.at h1
      have ck : wr.cell? ⟨b, off + j * 10, none⟩ = some (.int .i64 k) := HP.out.rest.cell (hc 0 _ rfl) (by simp; omega)
      have cn : wr.cell? ⟨b, off + j * 10 + 1, none⟩ = some (.int .i64 n) := HP.out.rest.cell (hc 1 _ rfl) (by simp; omega)
      have hn2 := i64_bounds hn
      have hk2 := i64_bounds hk
      have hw := within_in n 0 512 (by omega)
      clear hc hn hk
      go_wp2_with fail
      refine Calls.mono (within_any _ n 0 512 (by omega) (by omega) (by omega) hn2) ?_
      rintro e w2 ⟨rfl, rfl⟩
      obtain ⟨m, hm⟩ : ∃ m, within n 0 512 = m := ⟨_, rfl⟩
      rw [hm] at hw ⊢
      clear hm cn
      obtain ⟨r, hr⟩ : ∃ r, k.tmod 3 = r := ⟨_, rfl⟩
      by_cases h0 : r = 0
      · subst h0
        go_wp2_with fail
        refine Calls.mono (got_any _ _ _ _ _ _ _ _ (by omega) HP.out.row) ?_
        rintro e w3 ⟨rfl, hA⟩
        rw [more_small _ _ (by omega) (by omega)] at hA
        have HB := Lib.hid (HP.out.trans hA); clear hA
        go_wp2_with fail
        refine Calls.mono (told_any _ _ _ _ _ _ _ HB.out.row) ?_
        rintro e w4 ⟨rfl, rfl⟩
        go_wp2_with fail
        refine Calls.mono (heard_any _ _ _ _ _ _ _ HB.out.row) ?_
        rintro e w4 ⟨rfl, rfl⟩
        go_wp2_with fail
        refine Calls.mono (known_any _ _ _ _ _ _ _ HB.out.row) ?_
        rintro e w4 ⟨rfl, rfl⟩
        go_wp2_with fail
        go_roundw
        case rel => exact ⟨j + 1, h + m, t, by go_num, by omega, by omega, by omega, by omega, by omega, by omega, HB⟩
        case measure => simp [intOf]; omega
      · go_wp2_with fail
        refine Calls.mono (may_any _ _ _ _ _ _ _ _ (by omega) (by omega) HP.out.row) ?_
        rintro e w3 ⟨rfl, n3, rfl⟩
        by_cases h2 : m ≤ 3 * h - t
        · rw [show mayM false h t m = true by simp [mayM, h2]; omega]
          go_wp2_with fail
          refine Calls.mono (went_any _ _ _ _ _ _ _ _ (by omega) (HP.out.drewN n3).row) ?_
          rintro e w3 ⟨rfl, hA⟩
          rw [more_small _ _ (by omega) (by omega)] at hA
          have HB := Lib.hid ((HP.out.drewN n3).trans hA); clear hA
          go_wp2_with fail
          refine Calls.mono (told_any _ _ _ _ _ _ _ HB.out.row) ?_
          rintro e w4 ⟨rfl, rfl⟩
          go_wp2_with fail
          refine Calls.mono (heard_any _ _ _ _ _ _ _ HB.out.row) ?_
          rintro e w4 ⟨rfl, rfl⟩
          go_wp2_with fail
          refine Calls.mono (known_any _ _ _ _ _ _ _ HB.out.row) ?_
          rintro e w4 ⟨rfl, rfl⟩
          go_wp2_with fail
          go_roundw
          case rel => exact ⟨j + 1, h, t + m, by go_num, by omega, by omega, by omega, by omega, by omega, by omega, HB⟩
          case measure => simp [intOf]; omega
        · rw [show mayM false h t m = false by simp [mayM]; omega]
          have HB := Lib.hid (HP.out.drewN n3)
          go_wp2_with fail
          refine Calls.mono (told_any _ _ _ _ _ _ _ HB.out.row) ?_
          rintro e w4 ⟨rfl, rfl⟩
          go_wp2_with fail
          refine Calls.mono (heard_any _ _ _ _ _ _ _ HB.out.row) ?_
          rintro e w4 ⟨rfl, rfl⟩
          go_wp2_with fail
          refine Calls.mono (known_any _ _ _ _ _ _ _ HB.out.row) ?_
          rintro e w4 ⟨rfl, rfl⟩
          go_wp2_with fail
          go_roundw
          case rel => exact ⟨j + 1, h, t, by go_num, by omega, by omega, by omega, by omega, by omega, by omega, HB⟩
          case measure => simp [intOf]; omega
    all_goals
      go_wp2_with fail
      refine Calls.mono (knows_any _ _ _ _ _ _ _ HP.out.row) ?_
      rintro e w3 ⟨rfl, hA⟩
      have HB := Lib.hid (HP.out.trans hA); clear hA
      go_wp2_with fail
      refine Calls.mono (may_any _ _ _ _ _ _ _ _ (by omega) (by omega) HB.out.row) ?_
      rintro e w4 ⟨rfl, n3, rfl⟩
      rw [show mayM true h t 1073741824 = true by simp [mayM]]
      go_wp2_with fail
      refine Calls.mono (known21_any _) ?_
      rintro e w5 ⟨rfl, hK⟩
      have HK := Lib.hid hK; clear hK
      go_wp2_with fail
      go_ret
      exact ⟨rfl, bl_next (bl_drewN (HB.out.bl (Nat.le_refl _) (Nat.le_refl _)) n3) HB.out.rest.size HK.out⟩
end Go.Proofs.Ytdckjaganpincaa
