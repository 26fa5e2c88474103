/- chapter 2's walks: Asks, known, OctetSticks -/
import Derived.Test.YtpiappdkbodabaaOctW
import Derived.Test.YtpiappdkbodabaaOpen
import Derived.ChangeSlices
import Derived.Deep.DeepCutAuto
import Derived.Deep.CutBlock
namespace Go.Proofs.Ytpiappdkbodabaa
open Go.RowKit
set_option linter.unusedVariables false

/-- one Ask, in numbers -/
structure Q where
  k : Int
  n : Int
  x : Int
  a : Option Addr
  len : Nat
  cap : Nat
  bs : List Int
def Q.row (q : Q) : List Value := [.int .i64 q.k, .int .i64 q.n, .int .u64 q.x, .slice q.a q.len q.cap]
structure Q.ok (w : World) (q : Q) : Prop where
  wk : (Lit.int .i64 q.k).wf = true
  wn : (Lit.int .i64 q.n).wf = true
  wx : (Lit.int .u64 q.x).wf = true
  le : q.len ≤ q.cap
  max : q.cap ≤ 9223372036854775807
  ints : IntsK .u8 w q.a q.len q.bs
/-- a slice of Asks that came in, or was made. -/
def Asks (w : World) (a : Option Addr) (len : Nat) (qs : Nat → Q) : Prop :=
  len = 0 ∨ ∃ b off, a = some ⟨b, off, none⟩ ∧ b < w.heap.size ∧ ∀ j, j < len → (qs j).ok w ∧ ∀ i v, (qs j).row[i]? = some v → w.cell? ⟨b, off + j * 4 + i, none⟩ = some v
theorem Q.ok.below {w w' : World} {q : Q} (h : q.ok w) (hb : Below w.heap.size w w') : q.ok w' := ⟨h.wk, h.wn, h.wx, h.le, h.max, h.ints.below hb⟩
theorem Asks.below {w w' : World} {a : Option Addr} {len : Nat} {qs : Nat → Q} (h : Asks w a len qs) (hb : Below w.heap.size w w') : Asks w' a len qs := by
  rcases h with h | ⟨b, off, ha, hl, h⟩
  · exact .inl h
  · exact .inr ⟨b, off, ha, Nat.lt_of_lt_of_le hl hb.size, fun j hj => ⟨(h j hj).1.below hb, fun i v hv => bl_cell hb (p := ⟨b, off + j * 4 + i, none⟩) hl ((h j hj).2 i v hv)⟩⟩
theorem Asks.at {w : World} {a : Option Addr} {len : Nat} {qs : Nat → Q} (h : Asks w a len qs) {j : Nat} (hj : j < len) :
    ∃ b off, a = some ⟨b, off, none⟩ ∧ b < w.heap.size ∧ (qs j).ok w ∧ w.cell? ⟨b, off + j * 4, none⟩ = some (.int .i64 (qs j).k) ∧ w.cell? ⟨b, off + j * 4 + 1, none⟩ = some (.int .i64 (qs j).n) ∧
      w.cell? ⟨b, off + j * 4 + 2, none⟩ = some (.int .u64 (qs j).x) ∧ w.cell? ⟨b, off + j * 4 + 3, none⟩ = some (.slice (qs j).a (qs j).len (qs j).cap) := by
  rcases h with h | ⟨b, off, ha, hl, h⟩
  · omega
  · obtain ⟨h1, h2⟩ := h j hj
    exact ⟨b, off, ha, hl, h1, h2 0 _ rfl, h2 1 _ rfl, h2 2 _ rfl, h2 3 _ rfl⟩
theorem i64_bounds {n : Int} (h : (Lit.int .i64 n).wf = true) : -9223372036854775808 ≤ n ∧ n ≤ 9223372036854775807 := by
  simp [Lit.wf, IntKind.min, IntKind.max, IntKind.signed, IntKind.bits] at h; omega
theorem u64_bounds {n : Int} (h : (Lit.int .u64 n).wf = true) : 0 ≤ n ∧ n < 18446744073709551616 := by
  simp [Lit.wf, IntKind.min, IntKind.max, IntKind.signed, IntKind.bits] at h; omega
theorem take_drop_at {α : Type} {cs : List α} {i n k : Nat} {r : List α} (h : (cs.drop i).take n = r) (hk : k < n) : cs[i + k]? = r[k]? := by
  rw [← h, List.getElem?_take_of_lt hk, List.getElem?_drop]
theorem ask_open {H : Type} {enc : TypeId × Value → H} {w : World} {base : Nat} {spare : Nat → Bool} {held : Bool} {fuel : Nat} {cs : List Value} {x : DataW H × List MemPlace}
    (hx : DataW.trod enc Try.prog w base spare held fuel 22 cs = some x) : ∃ a len cap bs, cs = [.slice a len cap] ∧ len ≤ cap ∧ cap ≤ 9223372036854775807 ∧ IntsK .u8 w a len bs := by
  rcases Go.ChangeShapes.open_ints Try.underlying22 Try.underlying5 (by kernel_rfl) hx with ⟨hcs, _⟩ | ⟨y, l, c, zs, hcs, _, hl, hm, hz, _, hcell, hwz⟩
  · exact ⟨none, 0, 0, [], hcs, Nat.le_refl _, by omega, IntsK.nil _ _ _⟩
  · have hzl : l ≤ zs.length := by rw [hz]; split <;> omega
    exact ⟨some y, l, c, zs.take l, hcs, hl, by unfold maxLen at hm; omega, IntsK.of_cells hzl rfl hcell hwz⟩
theorem asks_open {H : Type} {enc : TypeId × Value → H} {w : World} {base : Nat} {spare : Nat → Bool} {held : Bool} {a : Option Addr} {len cap : Nat} {d : DataW H} {p : List MemPlace}
    (h : DataW.Trod enc Try.prog w base spare held 23 (.slice a len cap) d p) :
    len ≤ cap ∧ (∃ elems rest : List (DataW H), (d = .nil ∧ len = 0 ∧ cap = 0) ∨ (d = .slice elems rest ∧ elems.length = len)) ∧ ∃ qs, Asks w a len qs := by
  obtain ⟨h1, h2, h3⟩ := open_rows (N := 4) (e := 32) Try.underlying23 (by kernel_rfl) (by omega) h
  refine ⟨h1, h2, ?_⟩
  rcases h3 with h3 | ⟨b, off, ha, hb, hr⟩
  · exact ⟨fun _ => ⟨0, 0, 0, none, 0, 0, []⟩, .inl h3⟩
  · have each : ∀ j, j < len → ∃ q : Q, q.ok w ∧ ∀ i v, q.row[i]? = some v → w.cell? ⟨b, off + j * 4 + i, none⟩ = some v := fun j hj => by
      obtain ⟨cs, m, y, hl, hc, hy⟩ := hr j hj
      obtain ⟨_, m2, hf⟩ := trod_fields Try.underlying32 hy
      obtain ⟨y0, h0⟩ := hf 0 _ rfl
      obtain ⟨y1, h1⟩ := hf 1 _ rfl
      obtain ⟨y2, h2⟩ := hf 2 _ rfl
      obtain ⟨y3, h3⟩ := hf 3 _ rfl
      obtain ⟨k, hk, _, wk⟩ := DataW.trod_int Try.underlying3 h0
      obtain ⟨n, hn, _, wn⟩ := DataW.trod_int Try.underlying3 h1
      obtain ⟨x, hx, _, wx⟩ := DataW.trod_int Try.underlying30 h2
      obtain ⟨a', l', c', bs, hs, hle, hmx, hi⟩ := ask_open h3
      refine ⟨⟨k, n, x, a', l', c', bs⟩, ⟨wk, wn, wx, hle, hmx, hi⟩, fun i v hv => ?_⟩
      have hi : i < 4 := by have := lt_of_get hv; simpa [Q.row] using this
      have g0 : cs[0]? = some (.int .i64 k) := take_drop_at (i := 0) (n := 1) (k := 0) hk (by omega)
      have g1 : cs[1]? = some (.int .i64 n) := take_drop_at (i := 1) (n := 1) (k := 0) hn (by omega)
      have g2 : cs[2]? = some (.int .u64 x) := take_drop_at (i := 2) (n := 1) (k := 0) hx (by omega)
      have g3 : cs[3]? = some (.slice a' l' c') := take_drop_at (i := 3) (n := 1) (k := 0) hs (by omega)
      rw [hc i hi, ← hv]
      match i, hi with
      | 0, _ => exact g0
      | 1, _ => exact g1
      | 2, _ => exact g2
      | 3, _ => exact g3
    refine ⟨fun j => if hj : j < len then Classical.choose (each j hj) else ⟨0, 0, 0, none, 0, 0, []⟩, .inr ⟨b, off, ha, hb, fun j hj => ?_⟩⟩
    simp only [dif_pos hj]
    exact Classical.choose_spec (each j hj)

theorem known2_any (w : World) : Makes Try.prog 17 #[] w (.bool true) := by
  go_enter Try.func17, Try.ntmps17
  go_wp2_with fail
  refine Calls.mono (new_any w) ?_
  rintro e w1 ⟨rfl, hw1, hb1⟩
  have HW1 := Lib.hid hw1; have H1 := Lib.hid hb1
  clear hw1 hb1
  have HBA := Lib.hid ((Below.refl w1.heap.size w1).alloc (Nat.le_refl _) (.cells #[.int .u8 1] 5))
  have hs : (w1.alloc (.cells #[.int .u8 1] 5)).heap.size = w1.heap.size + 1 := by simp
  have hlt := HW1.out.lt
  go_wp2_with fail
  refine Calls.mono (of_any _ _ 1 1 [1] (by omega) (ints_made _ _ (by decide))) ?_
  rintro e w2 ⟨W0, p, rfl, hR, hb0, hb2⟩
  have hpl := hR.lo
  have hb02 := hb0.size
  have HR := Lib.hid hR; have H2 := Lib.hid (bl_next HBA.out (by omega) (hb0.trans (hb2.mono hb02)))
  have HW2 := Lib.hid (HW1.out.to H2.out)
  clear hR hb0 hb2
  go_wp2_with fail
  refine Calls.mono (wtwo_any w2 _ _ _ [] 258 (by simp) HW2.out (by omega)) ?_
  rintro e w3 ⟨v3, rfl, hw3, hc3, _⟩
  have hR3 := HR.out.ch (w' := w3) (fun i h1 h2 => hc3.block i (by have := HR.out.size; omega) (by omega) (by simp [Value.ownBlock])) (hc3.block p HR.out.lt (by omega) (by simp [Value.ownBlock]))
  have HW3 := Lib.hid hw3; have HR3 := Lib.hid hR3
  have H3 := Lib.hid (hc3.below (H1.out.trans (H2.out.mono H1.out.size)) (Nat.le_trans H1.out.size H2.out.size) (Nat.le_refl _) (by simp [Value.ownBlock]))
  clear hw3 hc3 hR3
  go_wp2_with fail
  refine Calls.mono (wdone_any w3 _ _ _ _ (by simp) (by decide) HW3.out) ?_
  rintro e w4 ⟨a4, cap4, rfl, hc4, _, hi4, _, hb4⟩
  have hi4' : IntsK .u8 w4 a4 2 [1, 2] := hi4
  have hconv : (convert 22 9 (.slice a4 2 cap4)).run Try.prog w4 = .ok (.string ⟨#[1, 2]⟩) w4 := by
    rw [conv_ints _ 5 _ _ Try.underlying22 Try.underlying5 Try.underlying9 hi4']; rfl
  have HW4 := Lib.hid (HW3.out.to hb4); have HR4 := Lib.hid (HR3.out.to hb4)
  have H4 := Lib.hid (bl_next H3.out H3.out.size hb4)
  clear hi4 hi4' hb4
  go_wp2_with fail
  refine Calls.mono (wlen_any w4 _ _ _ _ HW4.out) ?_
  rintro e w5 ⟨rfl, rfl⟩
  go_wp2_with fail
  refine Calls.mono (two_any _ _ _ _ _ _ HR4.out) ?_
  rintro e w6 ⟨rfl, hR6, hg6⟩
  rw [show twoM [1] false = (0, [], true) from by decide] at hR6
  rw [show twoM [1] false = (0, [], true) from by decide]
  have HR6 := Lib.hid hR6
  have H6 := Lib.hid (H4.out.grown hg6 H4.out.size (by intro k hk; injection hk with hk; omega))
  clear hR6 hg6
  go_wp2_with fail
  refine Calls.mono (bad_any _ _ _ _ _ _ HR6.out) ?_
  rintro e w7 ⟨rfl, rfl⟩
  go_wp2_with fail
  refine Calls.mono (left_any _ _ _ _ _ _ HR6.out) ?_
  rintro e w7 ⟨rfl, rfl⟩
  go_wp2_with fail
  go_ret
  exact ⟨rfl, H6.out⟩

set_option maxRecDepth 100000 in
set_option maxHeartbeats 4000000 in
theorem sticks2_any (w : World) (a : Option Addr) (len cap : Nat) (bs : List Int) (n : Int) (la : Option Addr) (llen lcap : Nat) (qs : Nat → Q) (hlen : len ≤ cap) (hcap : cap ≤ 9223372036854775807) (hb : IntsK .u8 w a len bs) (hn : -9223372036854775808 ≤ n ∧ n ≤ 9223372036854775807)
    (hl : llen ≤ 4611686018427387904) (hA : Asks w la llen qs) :
    Makes Try.prog 3 #[.slice a len cap, .int .i64 n, .slice la llen lcap] w (.bool true) := by
  obtain ⟨m, hm, hm1, hm2⟩ : ∃ m, min len 40 = m ∧ m ≤ 40 ∧ m ≤ len := ⟨_, rfl, by omega, by omega⟩
  have HB := Lib.hid (hb.pre m hm2)
  have HCUT := Lib.hid (fun w => cut_any w a len cap 40 hlen hcap)
  rw [hm] at HCUT
  have HA := Lib.hid hA
  clear hm hb hA
  go_enter Try.func3, Try.ntmps3
  go_wp2_with fail
  refine Calls.mono (HCUT.out _) ?_
  rintro e w' ⟨rfl, rfl⟩
  go_wp2_with fail
  refine Calls.mono (of_any w a m cap _ (by omega) HB.out) ?_
  rintro e w2 ⟨W0, p, rfl, hR, hb0, hb2⟩
  have hpl := hR.lo
  have hb0s := hb0.size
  have HR := Lib.hid hR; have H2 := Lib.hid (hb0.trans (hb2.mono hb0s))
  clear hR hb0 hb2
  have hj := within_in n 1 50 (by omega)
  obtain ⟨j, ej⟩ : ∃ j, within n 1 50 = j := ⟨_, rfl⟩
  rw [ej] at hj
  have EJ := Lib.hid ej; clear ej
  go_wp2_with fail
  refine Calls.mono (within_any _ n 1 50 (by omega) (by omega) (by omega) hn) ?_
  rintro e w' ⟨rfl, rfl⟩
  rw [EJ.out]
  have hml : (bs.take m).length = m := HB.out.1
  have HRD : Hid (rdM (bs.take m) false (m + j) = ([], [], true)) := Lib.hid (rdM_bad (.inr (.inr (by rw [hml]; omega))))
  go_wp2_with fail
  refine Calls.mono (raw_any _ _ _ _ _ _ (m + j) (by omega) HR.out) ?_
  rintro e w3 ⟨a3, m3, cap3, rfl, hc3, hi3, hR3, hg3, _⟩
  rw [HRD.out] at hi3 hR3
  obtain rfl : m3 = 0 := by have := hi3.1; simpa using this.symm
  have HR3 := Lib.hid hR3
  have H3 := Lib.hid (H2.out.grown hg3 H2.out.size (by intro k hk; injection hk with hk; omega))
  clear hR3 hg3 hi3 HR HRD
  go_wp2_with fail
  refine Calls.mono (bad_any _ _ _ _ _ _ HR3.out) ?_
  rintro e w4 ⟨rfl, rfl⟩
  go_wp2_with fail
  go_loopg [8] llen (fun g s8 wr => ∃ i : Nat, s8 = .int .i64 i ∧ i ≤ llen ∧ i ≤ 15 ∧ g = llen - i ∧ Hid (Below w.heap.size w wr) ∧ Hid (Rd W0 wr w.heap.size p 47 [] true))
  case atStart => exact ⟨0, rfl, by omega, by omega, rfl, H3, HR3⟩
  case round =>
    clear HR3 H3
    obtain ⟨i, rfl, hi, hi15, rfl, HL, HR3⟩ := hrel
    by_cases h1 : i < llen
    case' pos => have h2 : i < 15 ∨ i = 15 := by omega
    case' pos => rcases h2 with h2 | rfl
    case pos.inl =>
      obtain ⟨ba, off, rfl, hbl, hok, hc0, hc1, hc2, hc3⟩ := HA.out.at h1
      obtain ⟨q, hq⟩ : ∃ q, qs i = q := ⟨_, rfl⟩
      rw [hq] at hok hc0 hc1 hc2 hc3
      have c0 : wr.cell? ⟨ba, off + i * 4, none⟩ = some (.int .i64 q.k) := bl_cell HL.out (p := ⟨ba, off + i * 4, none⟩) hbl hc0
      have c1 : wr.cell? ⟨ba, off + i * 4 + 1, none⟩ = some (.int .i64 q.n) := bl_cell HL.out (p := ⟨ba, off + i * 4 + 1, none⟩) hbl hc1
      have hqn := i64_bounds hok.wn
      have hsz := HL.out.size
      obtain ⟨k, hk⟩ : ∃ k, q.k = k := ⟨_, rfl⟩
      rw [hk] at c0
      clear hc0 hc1 hc2 hc3 hok hq hk
      go_upto_block 2 with fail
      go_cut [9] (fun s9 wc => s9 = .bool true ∧ Hid (Below w.heap.size w wc) ∧ Hid (Rd W0 wc w.heap.size p 47 [] true))
      case first =>
        by_cases k1 : k = 1
        · subst k1
          go_wp2_with fail
          · refine Calls.mono (byte_any _ _ _ _ _ _ HR3.out) ?_
            rintro e w5 ⟨rfl, hR5, hg5⟩
            rw [show byteM [] true = (0, [], true) from rfl] at hR5
            rw [show byteM [] true = (0, [], true) from rfl]
            have HR5 := Lib.hid hR5
            have HL5 := Lib.hid (HL.out.grown hg5 HL.out.size (by intro k hk; injection hk with hk; omega))
            clear hR5 hg5
            go_wp2_with fail
            go_meet
            case rel => exact ⟨rfl, HL5, HR5⟩
        · by_cases k2 : k = 2
          · subst k2
            go_wp2_with fail
            refine Calls.mono (two_any _ _ _ _ _ _ HR3.out) ?_
            rintro e w5 ⟨rfl, hR5, hg5⟩
            rw [show twoM [] true = (0, [], true) from rfl] at hR5
            rw [show twoM [] true = (0, [], true) from rfl]
            have HR5 := Lib.hid hR5
            have HL5 := Lib.hid (HL.out.grown hg5 HL.out.size (by intro k hk; injection hk with hk; omega))
            clear hR5 hg5
            go_wp2_with fail
            go_meet
            case rel => exact ⟨rfl, HL5, HR5⟩
          · by_cases k3 : k = 3
            · subst k3
              go_wp2_with fail
              refine Calls.mono (var_any _ _ _ _ _ _ HR3.out) ?_
              rintro e w5 ⟨rfl, hR5, hg5⟩
              rw [show varM [] true = (0, [], true) from rfl] at hR5
              rw [show varM [] true = (0, [], true) from rfl]
              have HR5 := Lib.hid hR5
              have HL5 := Lib.hid (HL.out.grown hg5 HL.out.size (by intro k hk; injection hk with hk; omega))
              clear hR5 hg5
              go_wp2_with fail
              go_meet
              case rel => exact ⟨rfl, HL5, HR5⟩
            · by_cases k4 : k = 4
              · subst k4
                go_wp2_with fail
                refine Calls.mono (raw_any _ _ _ _ _ _ q.n hqn HR3.out) ?_
                rintro e w5 ⟨a5, m5, cap5, rfl, hc5, hi5, hR5, hg5, _⟩
                rw [show rdM [] true q.n = ([], [], true) from rdM_bad (.inl rfl)] at hR5 hi5
                obtain rfl : m5 = 0 := by have := hi5.1; simpa using this.symm
                have HR5 := Lib.hid hR5
                have HL5 := Lib.hid (HL.out.grown hg5 HL.out.size (by intro k hk; injection hk with hk; omega))
                clear hR5 hg5 hi5
                go_wp2_with fail
                go_meet
                case rel => exact ⟨rfl, HL5, HR5⟩
              · by_cases k5 : k = 5
                · subst k5
                  go_wp2_with fail
                  refine Calls.mono (text_any _ _ _ _ _ _ HR3.out) ?_
                  rintro e w5 ⟨a5, m5, cap5, rfl, hc5, hi5, hR5, hg5, _⟩
                  rw [show textM [] true = ([], [], true) from rfl] at hR5 hi5
                  obtain rfl : m5 = 0 := by have := hi5.1; simpa using this.symm
                  have HR5 := Lib.hid hR5
                  have HL5 := Lib.hid (HL.out.grown hg5 HL.out.size (by intro k hk; injection hk with hk; omega))
                  clear hR5 hg5 hi5
                  go_wp2_with fail
                  go_meet
                  case rel => exact ⟨rfl, HL5, HR5⟩
                · go_wp2_with fail
                  go_meet
                  case rel => exact ⟨rfl, HL, HR3⟩
      case rest =>
        clear HL HR3 c0 c1
        obtain ⟨rfl, HL, HR3⟩ := hcut
        go_wp2_with fail
        refine Calls.mono (bad_any _ _ _ _ _ _ HR3.out) ?_
        rintro e w6 ⟨rfl, rfl⟩
        go_wp2_with fail
        refine Calls.mono (left_any _ _ _ _ _ _ HR3.out) ?_
        rintro e w6 ⟨rfl, rfl⟩
        go_wp2_with fail
        go_roundg (llen - (i + 1))
        case measure => omega
        case rel => exact ⟨i + 1, by go_num, by omega, by omega, rfl, HL, HR3⟩
    all_goals
      go_wp2_with fail
      refine Calls.mono (known2_any _) ?_
      rintro e w5 ⟨rfl, h5⟩
      have H5 := Lib.hid (bl_next HL.out HL.out.size h5); clear h5
      go_wp2_with fail
      go_ret
      exact ⟨rfl, H5.out⟩
end Go.Proofs.Ytpiappdkbodabaa
