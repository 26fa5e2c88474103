/- wheel: WheelNext. -/
import Derived.Test.YtjkedccbieoenaaWhl18
import Derived.Test.YtjkedccbieoenaaOpen
namespace Go.Proofs.Ytjkedccbieoenaa
open Go.RowKit
set_option linter.unusedVariables false
set_option linter.unusedSimpArgs false

/-- a slice of Asks that came in, or was made. -/
def Aks (w : World) (a : Option Addr) (len : Nat) : Prop :=
  len = 0 ∨ ∃ b off, a = some ⟨b, off, none⟩ ∧ b < w.heap.size ∧ ∀ j, j < len → ∃ k i t, (Lit.int .i64 k).wf = true ∧ (Lit.int .i64 i).wf = true ∧ (Lit.int .i64 t).wf = true ∧
    w.cell? ⟨b, off + j * 3, none⟩ = some (.int .i64 k) ∧ w.cell? ⟨b, off + j * 3 + 1, none⟩ = some (.int .i64 i) ∧ w.cell? ⟨b, off + j * 3 + 2, none⟩ = some (.int .i64 t)
theorem Aks.below {w w' : World} {a : Option Addr} {len : Nat} (h : Aks w a len) (hb : Below w.heap.size w w') : Aks w' a len := by
  rcases h with h | ⟨b, off, ha, hl, h⟩
  · exact .inl h
  · exact .inr ⟨b, off, ha, Nat.lt_of_lt_of_le hl hb.size, fun j hj => by
      obtain ⟨k, i, t, h1, h2, h3, h4, h5, h6⟩ := h j hj
      exact ⟨k, i, t, h1, h2, h3, bl_cell hb (p := ⟨b, off + j * 3, none⟩) hl h4, bl_cell hb (p := ⟨b, off + j * 3 + 1, none⟩) hl h5, bl_cell hb (p := ⟨b, off + j * 3 + 2, none⟩) hl h6⟩⟩
theorem Aks.at {w : World} {a : Option Addr} {len : Nat} (h : Aks w a len) {j : Nat} (hj : j < len) :
    ∃ b off k i t, a = some ⟨b, off, none⟩ ∧ b < w.heap.size ∧ (Lit.int .i64 k).wf = true ∧ (Lit.int .i64 i).wf = true ∧ (Lit.int .i64 t).wf = true ∧
    w.cell? ⟨b, off + j * 3, none⟩ = some (.int .i64 k) ∧ w.cell? ⟨b, off + j * 3 + 1, none⟩ = some (.int .i64 i) ∧ w.cell? ⟨b, off + j * 3 + 2, none⟩ = some (.int .i64 t) := by
  rcases h with h | ⟨b, off, ha, hl, h⟩
  · omega
  · obtain ⟨k, i, t, h⟩ := h j hj
    exact ⟨b, off, k, i, t, ha, hl, h⟩
set_option maxRecDepth 100000 in
theorem aks_open {H : Type} {enc : TypeId × Value → H} {w : World} {base : Nat} {spare : Nat → Bool} {held : Bool} {a : Option Addr} {len cap : Nat} {d : DataW H} {p : List MemPlace}
    (h : DataW.Trod enc Try.prog w base spare held 22 (.slice a len cap) d p) :
    len ≤ cap ∧ (∃ elems rest : List (DataW H), (d = .nil ∧ len = 0 ∧ cap = 0) ∨ (d = .slice elems rest ∧ elems.length = len)) ∧ Aks w a len := by
  obtain ⟨h1, h2, h3⟩ := open_rows (N := 3) (e := 28) Try.underlying22 (by kernel_rfl) (by omega) h
  refine ⟨h1, h2, ?_⟩
  rcases h3 with h3 | ⟨b, off, ha, hb, hr⟩
  · exact .inl h3
  · refine .inr ⟨b, off, ha, hb, fun j hj => ?_⟩
    obtain ⟨cs, m, y, hl, hc, hy⟩ := hr j hj
    obtain ⟨_, m2, hf⟩ := trod_fields Try.underlying28 hy
    obtain ⟨y0, h0⟩ := hf 0 _ rfl
    obtain ⟨y1, h1⟩ := hf 1 _ rfl
    obtain ⟨y2, h2⟩ := hf 2 _ rfl
    obtain ⟨k, hk, _, wk⟩ := DataW.trod_int Try.underlying3 h0
    obtain ⟨i, hi, _, wi⟩ := DataW.trod_int Try.underlying3 h1
    obtain ⟨t, ht, _, wt⟩ := DataW.trod_int Try.underlying2 h2
    have g0 : cs[0]? = some (.int .i64 k) := take_drop_at (i := 0) (n := 1) (k := 0) hk (by omega)
    have g1 : cs[1]? = some (.int .i64 i) := take_drop_at (i := 1) (n := 1) (k := 0) hi (by omega)
    have g2 : cs[2]? = some (.int .i64 t) := take_drop_at (i := 2) (n := 1) (k := 0) ht (by omega)
    refine ⟨k, i, t, wk, wi, wt, ?_, ?_, ?_⟩
    · rw [← g0]; exact hc 0 (by omega)
    · rw [← g1]; exact hc 1 (by omega)
    · rw [← g2]; exact hc 2 (by omega)
structure NextI (T : List Tm) (k : Nat) (least : Int) : Prop where
  len : T.length = k
  ok : ∀ x ∈ T, 0 ≤ x.1 ∧ x.1 < (k : Int) ∧ 2 ≤ x.2 ∧ x.2 ≤ 1073741824
  lo : LeastOf (T.map Prod.snd) least (decide (0 < k))
theorem NextI.not {T : List Tm} {k : Nat} {least : Int} (h : NextI T k least) : dropT T (k : Int) = T := dropT_not (fun hm => by
  obtain ⟨x, hx, e⟩ := List.mem_map.1 hm
  have := (h.ok x hx).2.1; omega)
theorem NextI.step {T : List Tm} {k : Nat} {least t : Int} (h : NextI T k least) (ht : 2 ≤ t ∧ t ≤ 1073741824) : NextI (T ++ [((k : Int), t)]) (k + 1) (if k = 0 ∨ t < least then t else least) := by
  refine ⟨by simp [h.len], fun x hx => ?_, ?_⟩
  · rcases List.mem_append.1 hx with hx | hx
    · have := h.ok x hx; omega
    · rw [List.mem_singleton.1 hx]; simp only; omega
  · rw [List.map_append, decide_eq_true (Nat.succ_pos k)]
    by_cases hc : k = 0 ∨ t < least
    · rw [if_pos hc]
      exact h.lo.snoc1 (hc.imp (fun e => decide_eq_false (by omega)) id)
    · rw [if_neg hc]
      exact h.lo.snoc2 (decide_eq_true (by omega)) (by omega)
theorem NextI.ge {T : List Tm} {k : Nat} {least : Int} (h : NextI T k least) (hk : 0 < k) : 2 ≤ least ∧ least ≤ 1073741824 ∧ (∃ x ∈ T, x.2 = least) ∧ ∀ x ∈ T, least ≤ x.2 := by
  rcases h.lo with ⟨h0, _, _⟩ | ⟨_, h2, h3⟩
  · have := h.len; rw [List.map_eq_nil_iff.1 h0] at this; simp at this; omega
  · obtain ⟨x, hx, e⟩ := List.mem_map.1 h2
    have := h.ok x hx
    exact ⟨by omega, by omega, ⟨x, hx, e⟩, fun y hy => h3 _ (List.mem_map_of_mem hy)⟩
theorem duL_none {now : Int} {S : List Tm} (h : ∀ x ∈ S, now < x.2) : duL now S = [] ∧ S.filter (ndM now) = S := by
  unfold duL
  constructor
  · rw [List.map_eq_nil_iff, List.filter_eq_nil_iff]
    intro x hx; have := h x hx; simp [duM]; omega
  · rw [List.filter_eq_self]
    intro x hx; have := h x hx; simp [ndM]; omega
theorem duL_some {now : Int} {S : List Tm} {x : Tm} (hx : x ∈ S) (h : x.2 ≤ now) : 0 < (duL now S).length := by
  unfold duL
  rw [List.length_map]
  exact List.length_pos_of_mem (List.mem_filter.2 ⟨hx, by simpa [duM] using h⟩)
set_option maxRecDepth 100000 in
set_option maxHeartbeats 16000000 in
theorem next24_any (w : World) (a : Option Addr) (len cap : Nat) (back : Int) (hA : Aks w a len) (hbk : -9223372036854775808 ≤ back ∧ back ≤ 9223372036854775807) :
    Makes Try.prog 5 #[.slice a len cap, .int .i64 back] w (.bool true) := by
  have HA := Lib.hid hA; have HBK := Lib.hid hbk
  have HB := Lib.hid (Below.refl w.heap.size w)
  have HNE := Lib.hid (WL.new w 0)
  have HKN := Lib.hid known24_any
  clear hA hbk
  go_enter Try.func5, Try.ntmps5
  go_wp2_with fail
  refine Calls.mono HNE.out ?_
  rintro e w1 ⟨p, rfl, hb, hw⟩
  replace HB := Lib.hid hb
  have HW : Hid (WL w.heap.size w1 p 0 [] 0) := Lib.hid hw
  clear hb hw HNE
  have HI : Hid (NextI [] 0 0) := Lib.hid ⟨rfl, (fun x hx => by cases hx), .inl ⟨rfl, rfl, rfl⟩⟩
  go_wp2_with fail
  go_loopw [6, 7] (fun s i wr => ∃ (k : Nat) (least : Int) (T : List Tm), s = .int .i64 least ∧ i = .int .i64 k ∧ k ≤ 40 ∧ Hid (Below w.heap.size w wr) ∧ Hid (WL w.heap.size wr p 0 T k) ∧ Hid (NextI T k least)) (fun _ i _ => 40 - (intOf i).toNat)
  case atStart => exact ⟨0, 0, [], rfl, rfl, by omega, HB, HW, HI⟩
  case round =>
    clear HB HW HI
    obtain ⟨k, least, T, rfl, rfl, hk, HB, HW, HI⟩ := hrel
    by_cases hc : k < len ∧ k < 40
    · obtain ⟨h1, h2⟩ := hc
      obtain ⟨ab, ao, ak, ai, av, rfl, _, _, _, hav, _, _, c2⟩ := (HA.out.below HB.out).at h1
      have hin := within_in av 2 1073741824 (by omega)
      have HWI := Lib.hid (fun W => within_any W av 2 1073741824 (by omega) (by omega) (by omega) (bdI64 hav))
      generalize within av 2 1073741824 = t at hin HWI
      have HIN := Lib.hid hin
      clear hav hin
      go_wp2_with fail
      refine Calls.mono (HWI.out _) ?_
      rintro e wq ⟨rfl, rfl⟩
      clear c2 HWI
      go_wp2_with fail
      refine Calls.mono (HW.out.set (k : Int) t (wf_i64_of (by omega) (by omega)) (by have := HIN.out; omega) (by omega) (by have := HI.out.len; omega)) ?_
      rintro e w2 ⟨rfl, hw, hb⟩
      rw [HI.out.not, show dueM 0 t = t by unfold dueM; rw [if_neg (by have := HIN.out; omega)]] at hw
      have HI2 := Lib.hid (HI.out.step HIN.out)
      have HW2 := Lib.hid hw; have HB2 := Lib.hid (HB.out.trans hb)
      clear hw hb HW
      have HT2 : Hid ((T ++ [((k : Int), t)]).length = k + 1) := Lib.hid HI2.out.len
      generalize T ++ [((k : Int), t)] = T2 at HI2 HW2 HT2
      obtain ⟨l2, hl2⟩ : ∃ l, (if k = 0 ∨ t < least then t else least) = l := ⟨_, rfl⟩
      rw [hl2] at HI2
      by_cases hk0 : k = 0
      · skip
        rw [if_pos (.inl hk0)] at hl2
        have hkb : ((k : Int) == 0) = true := by simp [hk0]
        clear hk0
        subst hl2
        go_wp2_with fail
        refine Calls.mono (HW2.out.next (by have := HT2.out; omega)) ?_
        rintro e w3 ⟨n1, s1, rfl, hb3, hl3⟩
        obtain ⟨e1, e2⟩ := hl3.unique HI2.out.lo
        subst e1; subst e2
        replace HB2 := Lib.hid (bl_next HB2.out HB2.out.size hb3)
        replace HW2 := Lib.hid (HW2.out.below hb3)
        clear hb3 hl3
        rw [decide_eq_true (Nat.succ_pos k)]
        go_wp2_with fail
        go_roundw
        case rel => exact ⟨k + 1, _, T2, rfl, by go_num, by omega, HB2, HW2, HI2⟩
        case measure => simp [intOf]; omega
      · have hkb : ((k : Int) == 0) = false := by simpa using hk0
        by_cases hlt : t < least
        · skip
          rw [if_pos (.inr hlt)] at hl2
          subst hl2
          go_wp2_with fail
          refine Calls.mono (HW2.out.next (by have := HT2.out; omega)) ?_
          rintro e w3 ⟨n1, s1, rfl, hb3, hl3⟩
          obtain ⟨e1, e2⟩ := hl3.unique HI2.out.lo
          subst e1; subst e2
          replace HB2 := Lib.hid (bl_next HB2.out HB2.out.size hb3)
          replace HW2 := Lib.hid (HW2.out.below hb3)
          clear hb3 hl3
          rw [decide_eq_true (Nat.succ_pos k)]
          go_wp2_with fail
          go_roundw
          case rel => exact ⟨k + 1, _, T2, rfl, by go_num, by omega, HB2, HW2, HI2⟩
          case measure => simp [intOf]; omega
        · rw [if_neg (by omega)] at hl2
          subst hl2
          go_wp2_with fail
          refine Calls.mono (HW2.out.next (by have := HT2.out; omega)) ?_
          rintro e w3 ⟨n1, s1, rfl, hb3, hl3⟩
          obtain ⟨e1, e2⟩ := hl3.unique HI2.out.lo
          subst e1; subst e2
          replace HB2 := Lib.hid (bl_next HB2.out HB2.out.size hb3)
          replace HW2 := Lib.hid (HW2.out.below hb3)
          clear hb3 hl3
          rw [decide_eq_true (Nat.succ_pos k)]
          go_wp2_with fail
          go_roundw
          case rel => exact ⟨k + 1, _, T2, rfl, by go_num, by omega, HB2, HW2, HI2⟩
          case measure => simp [intOf]; omega
    · skip
      by_cases hk0 : k = 0
      · skip
        subst hk0
        obtain rfl : least = 0 := by rcases HI.out.lo with ⟨_, h, _⟩ | ⟨h, _, _⟩; (exact h); (simp at h)
        have ht0 : T = [] := List.eq_nil_of_length_eq_zero HI.out.len
        subst ht0
        have hl0 : ¬ 0 < len := fun h => hc ⟨h, by omega⟩
        obtain rfl : len = 0 := by omega
        clear hc hl0
        go_wp2_with fail
        refine Calls.mono (HW.out.next (by simp)) ?_
        rintro e w3 ⟨n1, s1, rfl, hb3, hl3⟩
        obtain ⟨e1, e2⟩ := hl3.unique (.inl ⟨rfl, rfl, rfl⟩)
        subst e1; subst e2
        replace HB := Lib.hid (bl_next HB.out HB.out.size hb3)
        clear hb3 hl3
        go_wp2_with fail
        refine Calls.mono (HKN.out _) ?_
        rintro e w4 ⟨rfl, hb4⟩
        replace HB := Lib.hid (bl_next HB.out HB.out.size hb4)
        clear hb4
        go_wp2_with fail
        go_ret
        exact ⟨rfl, HB.out⟩
      · skip
        obtain ⟨hg2, hg3, hgx, hgl⟩ := HI.out.ge (by omega)
        have HGX := Lib.hid hgx; have HGL := Lib.hid hgl
        clear hgx hgl hk0
        have hlz : (least == 0) = false := by simp; omega
        have hin := within_in back 0 (least - 2) (by omega)
        have HWI := Lib.hid (fun W => within_any W back 0 (least - 2) (by omega) (by omega) (by omega) HBK.out)
        generalize within back 0 (least - 2) = q at hin HWI
        have HG1 : Hid (goN 0 (least - 1 - q) = least - 1 - q) := Lib.hid (by unfold goN; omega)
        have HG2 : Hid (goN (least - 1 - q) (least - 1) = least - 1) := Lib.hid (by unfold goN; omega)
        have HG3 : Hid (goN (least - 1) least = least) := Lib.hid (by unfold goN; omega)
        have HTL : Hid (T.length ≤ 40) := Lib.hid (by rw [HI.out.len]; exact hk)
        have hkl : ¬ (k < len ∧ k < 40) := hc
        clear hc
        by_cases h1 : k < len
        · skip
          have h2 : ¬ k < 40 := fun h => hkl ⟨h1, h⟩
          clear hkl
          go_wp2_with fail
          refine Calls.mono (HWI.out _) ?_
          rintro e wq ⟨rfl, rfl⟩
          go_wp2_with fail
          refine Calls.mono (HW.out.go _ (by have := HTL.out; omega)) ?_
          rintro e w5 ⟨a5, c5, S5, rfl, _, hp5, hs5, hw5, hb5⟩
          rw [HG1.out] at hw5 ⊢
          have hall : ∀ x ∈ S5, least - 1 - q < x.2 := fun x hx => by have := HGL.out x (hp5.mem_iff.1 hx); omega
          obtain ⟨e5, e6⟩ := duL_none hall
          rw [e5]
          rw [e6] at hw5
          replace HB := Lib.hid (HB.out.trans hb5)
          have HW5 := Lib.hid hw5; have HP5 := Lib.hid hp5
          clear e5 e6 hall hp5 hs5 hw5 hb5 HW
          rw [List.length_nil]
          go_wp2_with fail
          refine Calls.mono (HW5.out.go _ (by have := HTL.out; have := HP5.out.length_eq; omega)) ?_
          rintro e w6 ⟨a6, c6, S6, rfl, _, hp6, hs6, hw6, hb6⟩
          rw [HG2.out] at hw6 ⊢
          have hall : ∀ x ∈ S6, least - 1 < x.2 := fun x hx => by have := HGL.out x (HP5.out.mem_iff.1 (hp6.mem_iff.1 hx)); omega
          obtain ⟨e5, e6⟩ := duL_none hall
          rw [e5]
          rw [e6] at hw6
          replace HB := Lib.hid (HB.out.trans hb6)
          have HW6 := Lib.hid hw6; have HP6 := Lib.hid (hp6.trans HP5.out)
          clear e5 e6 hall hp6 hs6 hw6 hb6 HW5
          rw [List.length_nil]
          go_wp2_with fail
          refine Calls.mono (HW6.out.go _ (by have := HTL.out; have := HP6.out.length_eq; omega)) ?_
          rintro e w7 ⟨a7, c7, S7, rfl, _, hp7, hs7, hw7, hb7⟩
          rw [HG3.out]
          obtain ⟨x, hx, hxe⟩ := HGX.out
          have hpos := duL_some (now := least) (hp7.mem_iff.2 (HP6.out.mem_iff.2 hx)) (by omega)
          replace HB := Lib.hid (HB.out.trans hb7)
          generalize (duL least S7).length = m at hpos ⊢
          clear hp7 hs7 hw7 hb7 hx hxe
          go_wp2_with fail
          refine Calls.mono (HKN.out _) ?_
          rintro e w8 ⟨rfl, hb8⟩
          replace HB := Lib.hid (bl_next HB.out HB.out.size hb8)
          clear hb8
          go_wp2_with fail
          go_ret
          exact ⟨rfl, HB.out⟩
        · skip
          skip
          clear hkl
          go_wp2_with fail
          refine Calls.mono (HWI.out _) ?_
          rintro e wq ⟨rfl, rfl⟩
          go_wp2_with fail
          refine Calls.mono (HW.out.go _ (by have := HTL.out; omega)) ?_
          rintro e w5 ⟨a5, c5, S5, rfl, _, hp5, hs5, hw5, hb5⟩
          rw [HG1.out] at hw5 ⊢
          have hall : ∀ x ∈ S5, least - 1 - q < x.2 := fun x hx => by have := HGL.out x (hp5.mem_iff.1 hx); omega
          obtain ⟨e5, e6⟩ := duL_none hall
          rw [e5]
          rw [e6] at hw5
          replace HB := Lib.hid (HB.out.trans hb5)
          have HW5 := Lib.hid hw5; have HP5 := Lib.hid hp5
          clear e5 e6 hall hp5 hs5 hw5 hb5 HW
          rw [List.length_nil]
          go_wp2_with fail
          refine Calls.mono (HW5.out.go _ (by have := HTL.out; have := HP5.out.length_eq; omega)) ?_
          rintro e w6 ⟨a6, c6, S6, rfl, _, hp6, hs6, hw6, hb6⟩
          rw [HG2.out] at hw6 ⊢
          have hall : ∀ x ∈ S6, least - 1 < x.2 := fun x hx => by have := HGL.out x (HP5.out.mem_iff.1 (hp6.mem_iff.1 hx)); omega
          obtain ⟨e5, e6⟩ := duL_none hall
          rw [e5]
          rw [e6] at hw6
          replace HB := Lib.hid (HB.out.trans hb6)
          have HW6 := Lib.hid hw6; have HP6 := Lib.hid (hp6.trans HP5.out)
          clear e5 e6 hall hp6 hs6 hw6 hb6 HW5
          rw [List.length_nil]
          go_wp2_with fail
          refine Calls.mono (HW6.out.go _ (by have := HTL.out; have := HP6.out.length_eq; omega)) ?_
          rintro e w7 ⟨a7, c7, S7, rfl, _, hp7, hs7, hw7, hb7⟩
          rw [HG3.out]
          obtain ⟨x, hx, hxe⟩ := HGX.out
          have hpos := duL_some (now := least) (hp7.mem_iff.2 (HP6.out.mem_iff.2 hx)) (by omega)
          replace HB := Lib.hid (HB.out.trans hb7)
          generalize (duL least S7).length = m at hpos ⊢
          clear hp7 hs7 hw7 hb7 hx hxe
          go_wp2_with fail
          refine Calls.mono (HKN.out _) ?_
          rintro e w8 ⟨rfl, hb8⟩
          replace HB := Lib.hid (bl_next HB.out HB.out.size hb8)
          clear hb8
          go_wp2_with fail
          go_ret
          exact ⟨rfl, HB.out⟩
end Go.Proofs.Ytjkedccbieoenaa
