/- heads: HeadBack, any input; the arguments opened. -/
import Derived.Test.YtichnlbilnbhoaaHead16
namespace Go.Proofs.Ytichnlbilnbhoaa
open Go.RowKit Go.WideShapes Go.ChangeShapes
set_option linter.unusedVariables false

theorem bytes_open {H : Type} {enc : TypeId × Value → H} {w : World} {base : Nat} {spare : Nat → Bool} {held : Bool} {fuel : Nat} {cs : List Value} {x : DataW H × List MemPlace}
    (hx : DataW.trod enc Try.prog w base spare held fuel 22 cs = some x) : ∃ a len cap bs, cs = [.slice a len cap] ∧ len ≤ cap ∧ cap ≤ 9223372036854775807 ∧ IntsK .u8 w a len bs := by
  rcases Go.ChangeShapes.open_ints Try.underlying22 Try.underlying5 (by kernel_rfl) hx with ⟨hcs, _⟩ | ⟨y, l, c, zs, hcs, _, hl, hm, hz, _, hcell, hwz⟩
  · exact ⟨none, 0, 0, [], hcs, Nat.le_refl _, by omega, IntsK.nil _ _ _⟩
  · have hzl : l ≤ zs.length := by rw [hz]; split <;> omega
    exact ⟨some y, l, c, zs.take l, hcs, hl, by unfold maxLen at hm; omega, IntsK.of_cells hzl rfl hcell hwz⟩

theorem take_drop_at {α : Type} {cs : List α} {i n k : Nat} {r : List α} (h : (cs.drop i).take n = r) (hk : k < n) : cs[i + k]? = r[k]? := by
  rw [← h, List.getElem?_take_of_lt hk, List.getElem?_drop]
/-- a head as it is drawn. -/
structure HX where
  s : Int
  t : Int
  f : Int
  w : Int
  a : Option Addr
  tl : Nat
  tc : Nat
  k : List Int
  p : Bool
def HX.row (q : HX) : List Value := [.int .i64 q.s, .int .i64 q.t, .int .i64 q.f, .int .i64 q.w, .slice q.a q.tl q.tc, .bool q.p]
def HX.val (q : HX) : Value := .agg q.row.toArray
structure HX.ok (w : World) (q : HX) : Prop where
  bs : -9223372036854775808 ≤ q.s ∧ q.s ≤ 9223372036854775807
  bt : -9223372036854775808 ≤ q.t ∧ q.t ≤ 9223372036854775807
  bf : -9223372036854775808 ≤ q.f ∧ q.f ≤ 9223372036854775807
  bw : -9223372036854775808 ≤ q.w ∧ q.w ≤ 9223372036854775807
  le : q.tl ≤ q.tc
  max : q.tc ≤ 9223372036854775807
  ints : IntsK .u8 w q.a q.tl q.k
theorem hx_open {H : Type} {enc : TypeId × Value → H} {w : World} {base b0 : Nat} {r : Reach} {spare : Nat → Bool} {held : Bool} {v : Value} {d : DataW H} {p : List MemPlace}
    (hv : Value.okWide Try.prog w r b0 24 v) (h : DataW.Trod enc Try.prog w base spare held 24 v d p) : ∃ q : HX, v = q.val ∧ q.ok w := by
  simp only [Value.okWide, Try.underlying24] at hv
  obtain ⟨cs, rfl, _, _⟩ := hv
  obtain ⟨fuel, hf⟩ := h
  simp only [Value.cells] at hf
  obtain ⟨hl, m, hfs⟩ := trod_fields Try.underlying24 hf
  obtain ⟨y0, h0⟩ := hfs 0 _ rfl
  obtain ⟨y1, h1⟩ := hfs 1 _ rfl
  obtain ⟨y2, h2⟩ := hfs 2 _ rfl
  obtain ⟨y3, h3⟩ := hfs 3 _ rfl
  obtain ⟨y4, h4⟩ := hfs 4 _ rfl
  obtain ⟨y5, h5⟩ := hfs 5 _ rfl
  obtain ⟨s, hs, _, ws⟩ := DataW.trod_int Try.underlying3 h0
  obtain ⟨t, ht, _, wt⟩ := DataW.trod_int Try.underlying3 h1
  obtain ⟨f, hf', _, wf⟩ := DataW.trod_int Try.underlying3 h2
  obtain ⟨wd, hw, _, ww⟩ := DataW.trod_int Try.underlying3 h3
  obtain ⟨a, tl, tc, ks, hk, hle, hmx, hi⟩ := bytes_open h4
  obtain ⟨ph, hp, _⟩ := DataW.trod_bool Try.underlying4 h5
  have hl6 : cs.toList.length = 6 := hl.trans (by kernel_rfl)
  have g0 := one_of_take (i := 0) hs
  have g1 := one_of_take (i := 1) ht
  have g2 := one_of_take (i := 2) hf'
  have g3 := one_of_take (i := 3) hw
  have g4 := one_of_take (i := 4) hk
  have g5 := one_of_take (i := 5) hp
  refine ⟨⟨s, t, f, wd, a, tl, tc, ks, ph⟩, ?_, ⟨bdI64 ws, bdI64 wt, bdI64 wf, bdI64 ww, hle, hmx, hi⟩⟩
  have e : cs.toList = (⟨s, t, f, wd, a, tl, tc, ks, ph⟩ : HX).row := by
    apply List.ext_getElem?
    intro i
    by_cases hi : i < 6
    · rcases (by omega : i = 0 ∨ i = 1 ∨ i = 2 ∨ i = 3 ∨ i = 4 ∨ i = 5) with rfl | rfl | rfl | rfl | rfl | rfl
      · exact g0
      · exact g1
      · exact g2
      · exact g3
      · exact g4
      · exact g5
    · rw [List.getElem?_eq_none (by omega), List.getElem?_eq_none (by simp [HX.row]; omega)]
  show Value.agg cs = Value.agg _
  rw [← e]
/-- any head that came in. -/
theorem rawh_open {H : Type} {enc : TypeId × Value → H} {w : World} {base b0 : Nat} {r : Reach} {spare : Nat → Bool} {held : Bool} {v : Value} {d : DataW H} {p : List MemPlace}
    (hv : Value.okWide Try.prog w r b0 28 v) (h : DataW.Trod enc Try.prog w base spare held 28 v d p) : ∃ q : Hd × Option Addr × Nat, v = q.1.val q.2.1 q.2.2 ∧ q.1.ok ∧ IntsK .u8 w q.2.1 q.1.k.length q.1.k ∧ q.1.k.length ≤ q.2.2 ∧ q.2.2 ≤ 9223372036854775807 := by
  simp only [Value.okWide, Try.underlying28] at hv
  obtain ⟨cs, rfl, _, _⟩ := hv
  obtain ⟨fuel, hf⟩ := h
  simp only [Value.cells] at hf
  obtain ⟨hl, m, hfs⟩ := trod_fields Try.underlying28 hf
  obtain ⟨y0, h0⟩ := hfs 0 _ rfl
  obtain ⟨y1, h1⟩ := hfs 1 _ rfl
  obtain ⟨y2, h2⟩ := hfs 2 _ rfl
  obtain ⟨y3, h3⟩ := hfs 3 _ rfl
  obtain ⟨y4, h4⟩ := hfs 4 _ rfl
  obtain ⟨y5, h5⟩ := hfs 5 _ rfl
  obtain ⟨s, hs, _, ws⟩ := DataW.trod_int Try.underlying3 h0
  obtain ⟨t, htl, wt, ht⟩ := trod_ints_arr Try.underlying26 Try.underlying5 (by kernel_rfl) (by kernel_rfl) h1
  obtain ⟨f, hfl, wf, hf'⟩ := trod_ints_arr Try.underlying26 Try.underlying5 (by kernel_rfl) (by kernel_rfl) h2
  obtain ⟨a, tl, tc, ks, hk, hle, hmx, hi⟩ := bytes_open h3
  obtain ⟨wd, hw, _, ww⟩ := DataW.trod_int Try.underlying3 h4
  obtain ⟨ph, hp, _⟩ := DataW.trod_bool Try.underlying4 h5
  have hl20 : cs.toList.length = 20 := hl.trans (by kernel_rfl)
  obtain rfl : tl = ks.length := hi.1.symm
  have g0 := one_of_take (i := 0) hs
  have g17 := one_of_take (i := 17) hk
  have g18 := one_of_take (i := 18) hw
  have g19 := one_of_take (i := 19) hp
  have gt : ∀ j, j < 8 → cs.toList[1 + j]? = (t.map (Value.int .u8))[j]? := fun j hj => take_drop_at (i := 1) (n := 8) (k := j) ht hj
  have gf : ∀ j, j < 8 → cs.toList[9 + j]? = (f.map (Value.int .u8))[j]? := fun j hj => take_drop_at (i := 9) (n := 8) (k := j) hf' hj
  refine ⟨(⟨s, t, f, ks, wd, ph⟩, a, tc), ?_, ⟨ws, ww, htl, hfl, wt, wf, hi.2.1⟩, hi, hle, hmx⟩
  have e : cs.toList = (⟨s, t, f, ks, wd, ph⟩ : Hd).row a tc := by
    apply List.ext_getElem?
    intro i
    have hlen := row_len ⟨s, t, f, ks, wd, ph⟩ a tc htl hfl
    by_cases hi : i < 20
    · by_cases h0 : i = 0
      · subst h0; exact g0
      · by_cases h1 : i < 9
        · obtain ⟨j, rfl⟩ : ∃ j, i = 1 + j := ⟨i - 1, by omega⟩
          have hj : j < (t.map (Value.int .u8)).length := by rw [List.length_map]; omega
          rw [gt j (by omega), row_cid ⟨s, t, f, ks, wd, ph⟩ a tc htl j _ (List.getElem?_eq_getElem hj), List.getElem?_eq_getElem hj]
        · by_cases h2 : i < 17
          · obtain ⟨j, rfl⟩ : ∃ j, i = 9 + j := ⟨i - 9, by omega⟩
            have hj : j < (f.map (Value.int .u8)).length := by rw [List.length_map]; omega
            rw [gf j (by omega), row_cidf ⟨s, t, f, ks, wd, ph⟩ a tc htl hfl j _ (List.getElem?_eq_getElem hj), List.getElem?_eq_getElem hj]
          · rcases (by omega : i = 17 ∨ i = 18 ∨ i = 19) with rfl | rfl | rfl
            · rw [(row_17 ⟨s, t, f, ks, wd, ph⟩ a tc htl hfl).1]; exact g17
            · rw [(row_17 ⟨s, t, f, ks, wd, ph⟩ a tc htl hfl).2]; exact g18
            · rw [g19]
              unfold Hd.row
              rw [List.getElem?_append_right (by simp), List.getElem?_append_right (by simp [htl]), List.getElem?_append_right (by simp [htl, hfl])]
              simp [htl, hfl]
    · rw [List.getElem?_eq_none (by omega), List.getElem?_eq_none (by omega)]
  show Value.agg cs = Value.agg _
  rw [← e]

theorem back5_any (w : World) (q : HX) (n : Int) (ma : Option Addr) (ml mc : Nat) (ms : List Int) (hq : q.ok w) (hn : -9223372036854775808 ≤ n ∧ n ≤ 9223372036854775807) (hmc : ml ≤ mc) (hmm : mc ≤ 9223372036854775807) (hM : IntsK .u8 w ma ml ms) :
    Makes Try.prog 4 #[q.val, .int .i64 n, .slice ma ml mc] w (.bool true) := by
  have hwi := within_in n 12 300 (by omega)
  have hwa := fun w => within_any w n 12 300 (by omega) (by omega) (by omega) hn
  obtain ⟨k, ek⟩ : ∃ k : Nat, within n 12 300 = k := ⟨(within n 12 300).toNat, by omega⟩
  rw [ek] at hwi hwa
  have hok := keepH_ok q.s q.t q.f q.w q.k q.p hq.ints.2.1
  have hri := keepH_right q.s q.t q.f q.w q.k q.p
  have hkl := keepH_k q.s q.t q.f q.w q.k q.p
  have hkh := fun w1 (hb : Below w.heap.size w w1) => khead_any w1 q.s q.t q.f q.w q.a q.tl q.tc q.k q.p hq.le hq.max (hq.ints.below hb) hq.bs hq.bt hq.bf hq.bw
  generalize keepH q.s q.t q.f q.w q.k q.p = h at hok hri hkl hkh
  have hrp := (hrightM_eq h).1 hri
  have hf : (if h.s = 2 then z8 else h.f) = h.f := by
    split
    · rename_i h2
      rcases hrp.2.2 with ⟨h1, _⟩ | ⟨h1, _⟩ | ⟨_, _, h1⟩
      · omega
      · omega
      · exact h1.symm
    · rfl
  have hw4 : h.w ≤ 4 := hrp.2.1
  have hMq := hM.pre (min ml 20) (by omega)
  have hes : ∀ x ∈ encH h k, (Lit.int .u8 x).wf = true := encH_wf h hok hrp k (by omega)
  have hL : (encH h k).length ≤ 1000 := by rw [encH_len]; exact encH_le h hok (by omega)
  have hpar : parM (encH h k ++ List.replicate k 0 ++ ms.take (min ml 20)) = some (⟨h.s, h.t, h.f, h.k, 1, false⟩, (encH h k).length, if h.s = 2 then (encH h k).length + k + min ml 20 else (encH h k).length + k) := by
    rw [List.append_assoc, par_back h hok hrp k (by omega) (by omega) _ (by simp), hf, List.length_append, List.length_replicate, hMq.1, Nat.add_assoc]
  refine back5_core w q.row n ma ml mc ms h ⟨h.s, h.t, h.f, h.k, 1, false⟩ (h.t.map (Value.int .u8)) (h.f.map (Value.int .u8)) h.s k (encH h k).length h.k.length (min ml 20) (if h.s = 2 then ((encH h k).length + k + min ml 20 : Nat) else ((encH h k).length + k : Nat)) (encH h k) h.k
    (Lib.hid fun a tc => ⟨row_len h a tc hok.lt hok.lf, row_one h a tc, h.rowIs a tc hok.lt hok.lf⟩)
    (Lib.hid fun a tc => ⟨row_len ⟨h.s, h.t, h.f, h.k, 1, false⟩ a tc hok.lt hok.lf, row_one ⟨h.s, h.t, h.f, h.k, 1, false⟩ a tc, Hd.rowIs ⟨h.s, h.t, h.f, h.k, 1, false⟩ a tc hok.lt hok.lf⟩)
    (Lib.hid rfl) (Lib.hid (by rw [List.length_map]; exact hok.lt)) (Lib.hid ints_one) (Lib.hid (by rw [List.length_map]; exact hok.lf)) hL (by omega) (by omega) ?_ (Lib.hid ?_) (Lib.hid fun w => ?_) (Lib.hid fun w => ?_) (Lib.hid hMq)
    (Lib.hid fun w1 hb => (hkh w1 hb).mono ?_) (Lib.hid hwa) (Lib.hid fun w1 b tc hI => (hencode_ok w1 h b tc k hok (by omega) hri ⟨by omega, by omega⟩ hI).mono ?_) (Lib.hid fun w1 => cut_any w1 ma ml mc 20 hmc hmm)
    (Lib.hid fun w1 a cap hI => (parse_any w1 a _ cap _ (by omega) hI).mono ?_) (Lib.hid fun w1 a cap hI => ?_) (Lib.hid known5_any)
  · by_cases h2 : h.s = 2
    · left; rw [if_pos h2]; exact ⟨h2, by omega⟩
    · right; rw [if_neg h2]; exact ⟨h2, by omega⟩
  · intro x hx
    rw [List.mem_append, List.mem_append] at hx
    rcases hx with (hx | hx) | hx
    · exact hes x hx
    · rw [(List.mem_replicate.1 hx).2]; decide
    · exact hMq.2.1 x hx
  · have h := eqin_two w 9998 26 8 Try.underlying26 h.t h.t hok.lt hok.lt hok.wt hok.wt
    rw [beq_self_eq_true] at h; exact h
  · have h := eqin_two w 9998 26 8 Try.underlying26 h.f h.f hok.lf hok.lf hok.wf hok.wf
    rw [beq_self_eq_true] at h; exact h
  · rintro e w' ⟨b, he, hb, hi⟩
    exact ⟨hb, b, _, he, hi⟩
  · rintro e w' ⟨hb, a', cap', he, _, _, hi⟩
    exact ⟨hb, a', cap', he, hi⟩
  · rintro e w' hP
    have hb := hP.1
    obtain ⟨hd, at', en, a2, tc2, he, _, _, hget, hi, _⟩ := parR_one hP
    rw [hpar] at hget he
    simp only [Option.getD_some] at hget
    injection hget with h1 h2; injection h2 with h2 h3
    subst h1; subst h2; subst h3
    refine ⟨hb, a2, tc2, ?_, hi⟩
    rw [he]
    by_cases h2 : h.s = 2
    · rw [if_pos h2, if_pos h2]; rfl
    · rw [if_neg h2, if_neg h2]; rfl
  · have h1 := first_any w1 a _ cap _ (by omega) hI
    have h2 : firstCid (encH h k ++ List.replicate k 0 ++ ms.take (min ml 20)) = h.t := by unfold firstCid; rw [hpar]
    rw [h2, hpar] at h1
    exact h1
end Go.Proofs.Ytichnlbilnbhoaa
