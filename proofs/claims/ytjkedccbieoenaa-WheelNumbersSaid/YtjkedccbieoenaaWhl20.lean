/- wheel: two wheels; Same at ints. -/
import Derived.Test.YtjkedccbieoenaaWhl19
namespace Go.Proofs.Ytjkedccbieoenaa
open Go.RowKit
set_option linter.unusedVariables false
set_option linter.unusedSimpArgs false

set_option maxRecDepth 100000 in
set_option maxHeartbeats 400000 in
theorem same_int (w : World) (a b : Option Addr) (len cap cap' : Nat) (bs : List Int) (hlen : len ≤ 9223372036854775807) (ha : IntsK .i64 w a len bs) (hb : IntsK .i64 w b len bs) :
    Quiet Try.prog 12 #[.slice a len cap, .slice b len cap'] w (.bool true) := by
  have HA := Lib.hid ha; have HB := Lib.hid hb; clear ha hb
  go_enter Try.func12, Try.ntmps12
  go_wp2_with fail
  go_loopw [5] (fun i wr => ∃ (j n : Nat), i = .int .i64 j ∧ j ≤ len ∧ Hid (wr = w.drewN n)) (fun i _ => len - (intOf i).toNat)
  case atStart => exact ⟨0, 0, rfl, by omega, Lib.hid rfl⟩
  case round =>
    obtain ⟨j, n, rfl, hj, hwr⟩ := hrel
    obtain rfl := hwr.out
    by_cases hlt : j < len
    · obtain ⟨b1, off1, x, rfl, hbl, hx, hwx, hc⟩ := HA.out.at (Below.refl _ _) hlt
      obtain ⟨b2, off2, y, rfl, hbl2, hy, hwy, hc2⟩ := HB.out.at (Below.refl _ _) hlt
      rw [← hx] at hy
      subst hy
      clear hx
      have hc3 : (w.drewN n).cell? ⟨b1, off1 + j, none⟩ = some (.int .i64 y) := hc
      have hc4 : (w.drewN n).cell? ⟨b2, off2 + j, none⟩ = some (.int .i64 y) := hc2
      go_wp2_with fail
      go_quiet (fail)
      go_wp2_with fail
      go_roundw
      case rel => exact ⟨j + 1, _, by go_num, by omega, Lib.hid (by first | rfl | rw [World.drewN_drewN])⟩
      case measure => simp [intOf]; omega
    · go_wp2_with fail
      go_ret
      exact ⟨rfl, n, rfl⟩
/-- two wheels and a row of ids, each in blocks of its own. -/
structure TwoW (bse : Nat) (w : World) (pa : Nat) (nwa : Int) (TA : List Tm) (na : Nat) (pb : Nat) (nwb : Int) (TB : List Tm) (nb : Nat) (u : Value) (got : List Int) : Prop where
  ex : ∃ Ma va ba Mb vb bb, WhAt w pa Ma nwa TA va ba na ∧ WhAt w pb Mb nwb TB vb bb nb ∧ (∀ g ∈ Ma, bse ≤ g) ∧ (∀ g ∈ Mb, bse ≤ g) ∧ (∀ g ∈ Ma, g ∉ Mb) ∧ (∀ g, u.ownBlock = some g → g ∉ Ma ∧ g ∉ Mb)
  own : w.ownsRow bse 3 1 u got.length (got.map (Value.int .i64))
  gwf : ∀ n ∈ got, (Lit.int .i64 n).wf = true
  bs : bse ≤ w.heap.size
section
variable {bse : Nat} {w y : World} {pa pb na nb : Nat} {nwa nwb : Int} {TA TB : List Tm} {u u' : Value} {got : List Int}
theorem TwoW.symm (h : TwoW bse w pa nwa TA na pb nwb TB nb u got) : TwoW bse w pb nwb TB nb pa nwa TA na u got := by
  obtain ⟨⟨Ma, va, ba, Mb, vb, bb, hA, hB, h1, h2, h3, h4⟩, h5, h6, h7⟩ := h
  exact ⟨⟨Mb, vb, bb, Ma, va, ba, hB, hA, h2, h1, fun g hg hm => h3 g hm hg, fun g hg => (h4 g hg).symm⟩, h5, h6, h7⟩
theorem TwoW.below (h : TwoW bse w pa nwa TA na pb nwb TB nb u got) (hb : Below w.heap.size w y) : TwoW bse y pa nwa TA na pb nwb TB nb u got := by
  obtain ⟨⟨Ma, va, ba, Mb, vb, bb, hA, hB, rest⟩, h5, h6, h7⟩ := h
  exact ⟨⟨Ma, va, ba, Mb, vb, bb, hA.below hb, hB.below hb, rest⟩, own_below h5 hb, h6, Nat.le_trans h7 hb.size⟩
theorem two_core {Ma Mb : List Nat} {vb : List Value} {bb : Nat} (hB : WhAt w pb Mb nwb TB vb bb nb) (h1 : ∀ g ∈ Ma, bse ≤ g) (h2 : ∀ g ∈ Mb, bse ≤ g) (h3 : ∀ g ∈ Ma, g ∉ Mb) (h4 : ∀ g, u.ownBlock = some g → g ∉ Ma ∧ g ∉ Mb)
    (h5 : w.ownsRow bse 3 1 u got.length (got.map (Value.int .i64))) (h6 : ∀ n ∈ got, (Lit.int .i64 n).wf = true) (h7 : bse ≤ w.heap.size)
    {M2 : List Nat} {v2 : List Value} {b2 n2 : Nat} {nw2 : Int} {T2 : List Tm} (hA2 : WhAt y pa M2 nw2 T2 v2 b2 n2) (hO : Off Ma w y) (hM2 : ∀ g ∈ M2, g ∈ Ma ∨ w.heap.size ≤ g) :
    TwoW bse y pa nw2 T2 n2 pb nwb TB nb u got ∧ Below bse w y := by
  refine ⟨⟨⟨M2, v2, b2, Mb, vb, bb, hA2, hB.off hO h3, fun g hg => ?_, h2, fun g hg hm => ?_, fun g hg => ⟨fun hm => ?_, (h4 g hg).2⟩⟩, own_off h5 hO (fun g hg => (h4 g hg).1), h6, Nat.le_trans h7 hO.size⟩, hO.below h7 h1⟩
  · rcases hM2 g hg with h | h
    · exact h1 g h
    · omega
  · rcases hM2 g hg with h | h
    · exact h3 g h hm
    · have := hB.rs.lt g hm; omega
  · rcases hM2 g hm with h | h
    · exact (h4 g hg).1 h
    · have := (h5.lt g hg).2; omega
theorem TwoW.setA (h : TwoW bse w pa nwa TA na pb nwb TB nb u got) (id t : Int) (hid : (Lit.int .i64 id).wf = true) (ht : 0 ≤ t ∧ t ≤ 1125899906842624) (hn : na ≤ 100000) (hT : TA.length ≤ 100000) :
    Calls Try.prog 10 #[.pointer (some ⟨pa, 0, none⟩), .int .i64 id, .int .i64 t] w fun e w' => e = .returned (.bool true) ∧ TwoW bse w' pa nwa (dropT TA id ++ [(id, dueM nwa t)]) (na + 1) pb nwb TB nb u got ∧ Below bse w w' := by
  obtain ⟨⟨Ma, va, ba, Mb, vb, bb, hA, hB, h1, h2, h3, h4⟩, h5, h6, h7⟩ := h
  refine (set_any w pa Ma nwa TA va ba na hA id t hid ht hn hT).mono fun e w' ⟨he, M2, vs, b, hw, ho, hm⟩ => ?_
  exact ⟨he, two_core hB h1 h2 h3 h4 h5 h6 h7 hw ho hm⟩
theorem TwoW.setB (h : TwoW bse w pa nwa TA na pb nwb TB nb u got) (id t : Int) (hid : (Lit.int .i64 id).wf = true) (ht : 0 ≤ t ∧ t ≤ 1125899906842624) (hn : nb ≤ 100000) (hT : TB.length ≤ 100000) :
    Calls Try.prog 10 #[.pointer (some ⟨pb, 0, none⟩), .int .i64 id, .int .i64 t] w fun e w' => e = .returned (.bool true) ∧ TwoW bse w' pa nwa TA na pb nwb (dropT TB id ++ [(id, dueM nwb t)]) (nb + 1) u got ∧ Below bse w w' :=
  (h.symm.setA id t hid ht hn hT).mono fun e w' ⟨he, h1, h2⟩ => ⟨he, h1.symm, h2⟩
theorem TwoW.goA (h : TwoW bse w pa nwa TA na pb nwb TB nb u got) (t : Int) (hT : TA.length ≤ 1000) :
    Calls Try.prog 11 #[.pointer (some ⟨pa, 0, none⟩), .int .i64 t] w fun e w' => ∃ a cap S n, e = .returned (.slice a (duL (goN nwa t) S).length cap) ∧ IntsK .i64 w' a (duL (goN nwa t) S).length (duL (goN nwa t) S) ∧ S.Perm TA ∧ S.Pairwise (fun x y => leT x y = true) ∧
      TwoW bse w' pa (goN nwa t) (S.filter (ndM (goN nwa t))) n pb nwb TB nb u got ∧ Below bse w w' := by
  obtain ⟨⟨Ma, va, ba, Mb, vb, bb, hA, hB, h1, h2, h3, h4⟩, h5, h6, h7⟩ := h
  refine (go_any w pa Ma nwa TA va ba na hA t hT).mono fun e w' hg => ?_
  obtain ⟨a, cap, S, he, hi, _, _, hp, hss, M2, vs2, b2, n2, hw2, hn2, ho, hm, _⟩ := hg
  exact ⟨a, cap, S, n2, he, hi, hp, hss, two_core hB h1 h2 h3 h4 h5 h6 h7 hw2 ho hm⟩
theorem TwoW.goB (h : TwoW bse w pa nwa TA na pb nwb TB nb u got) (t : Int) (hT : TB.length ≤ 1000) :
    Calls Try.prog 11 #[.pointer (some ⟨pb, 0, none⟩), .int .i64 t] w fun e w' => ∃ a cap S n, e = .returned (.slice a (duL (goN nwb t) S).length cap) ∧ IntsK .i64 w' a (duL (goN nwb t) S).length (duL (goN nwb t) S) ∧ S.Perm TB ∧ S.Pairwise (fun x y => leT x y = true) ∧
      TwoW bse w' pa nwa TA na pb (goN nwb t) (S.filter (ndM (goN nwb t))) n u got ∧ Below bse w w' :=
  (h.symm.goA t hT).mono fun e w' ⟨a, cap, S, n, he, hi, hp, hs, h1, h2⟩ => ⟨a, cap, S, n, he, hi, hp, hs, h1.symm, h2⟩
theorem TwoW.lenA (h : TwoW bse w pa nwa TA na pb nwb TB nb u got) : Calls Try.prog 13 #[.pointer (some ⟨pa, 0, none⟩)] w fun e w' => e = .returned (.int .i64 (TA.length : Nat)) ∧ w = w' := by
  obtain ⟨⟨Ma, va, ba, Mb, vb, bb, hA, hB, h1, h2, h3, h4⟩, h5, h6, h7⟩ := h
  exact len_any w pa Ma nwa TA va ba na hA
theorem TwoW.lenB (h : TwoW bse w pa nwa TA na pb nwb TB nb u got) : Calls Try.prog 13 #[.pointer (some ⟨pb, 0, none⟩)] w fun e w' => e = .returned (.int .i64 (TB.length : Nat)) ∧ w = w' := h.symm.lenA
theorem TwoW.push (h : TwoW bse w pa nwa TA na pb nwb TB nb u got) {m : Nat} {xs : List Int} (hx : xs.length = m) (hw : ∀ n ∈ xs, (Lit.int .i64 n).wf = true) (ho : y.ownsRow bse 3 1 u' (got.length + m) ((got ++ xs).map (Value.int .i64))) (hg : w.grownBy y u.ownBlock) (hor : u'.ownBlock = u.ownBlock ∨ u'.ownBlock = some w.heap.size) :
    TwoW bse y pa nwa TA na pb nwb TB nb u' (got ++ xs) ∧ Below bse w y := by
  obtain ⟨⟨Ma, va, ba, Mb, vb, bb, hA, hB, h1, h2, h3, h4⟩, h5, h6, h7⟩ := h
  have hO : Off (blkV u) w y := Off.of_grown hg (fun g hg => blkV_mem.2 hg)
  refine ⟨⟨⟨Ma, va, ba, Mb, vb, bb, hA.off hO (fun g hg => (h4 g (blkV_mem.1 hg)).1), hB.off hO (fun g hg => (h4 g (blkV_mem.1 hg)).2), h1, h2, h3, fun g hg => ?_⟩, by rw [List.length_append, hx]; exact ho, fun n hn => (List.mem_append.1 hn).elim (h6 n) (hw n), Nat.le_trans h7 hO.size⟩, hO.below h7 (fun x hx => (h5.lt x (blkV_mem.1 hx)).1)⟩
  rcases hor with e | e
  · rw [e] at hg; exact h4 g hg
  · rw [e] at hg; injection hg with hg
    exact ⟨fun hm => by have := hA.rs.lt g hm; omega, fun hm => by have := hB.rs.lt g hm; omega⟩
end
theorem TwoW.of (w : World) {w1 w2 : World} {pa ba pb bb : Nat} {nwa nwb : Int} (hA : WhAt w1 pa [pa, ba] nwa [] nilRows ba 0) (h1 : w.heap.size ≤ pa ∧ w.heap.size ≤ ba) (hs : w.heap.size ≤ w1.heap.size) (hb : Below w1.heap.size w1 w2) (hB : WhAt w2 pb [pb, bb] nwb [] nilRows bb 0) (h2 : w1.heap.size ≤ pb ∧ w1.heap.size ≤ bb) :
    TwoW w.heap.size w2 pa nwa [] 0 pb nwb [] 0 (.slice none 0 0) [] := by
  have l1 := hA.rs.lt pa (by simp); have l2 := hA.rs.lt ba (by simp)
  refine ⟨⟨_, _, _, _, _, _, hA.below hb, hB, fun g hg => ?_, fun g hg => ?_, fun g hg hm => ?_, (fun g hg => by cases hg)⟩, World.ownsRow_nil _ _ _ _, (fun n hn => by cases hn), Nat.le_trans hs hb.size⟩
  · simp only [List.mem_cons, List.not_mem_nil, or_false] at hg
    rcases hg with rfl | rfl <;> omega
  · simp only [List.mem_cons, List.not_mem_nil, or_false] at hg
    rcases hg with rfl | rfl <;> omega
  · simp only [List.mem_cons, List.not_mem_nil, or_false] at hg hm
    rcases hg with rfl | rfl <;> rcases hm with rfl | rfl <;> omega
theorem leT_snd {x y : Tm} (h : leT x y = true) : x.2 ≤ y.2 := by rw [leT_eq] at h; simp only [decide_eq_true_eq] at h; omega
theorem filt_split {c t : Int} (hct : c ≤ t) : ∀ {S : List Tm}, S.Pairwise (fun x y => leT x y = true) → duL c S ++ duL t (S.filter (ndM c)) = duL t S ∧ (S.filter (ndM c)).filter (ndM t) = S.filter (ndM t) := by
  intro S hs
  constructor
  · unfold duL
    rw [← List.map_append]
    congr 1
    induction S with
    | nil => rfl
    | cons x S ih =>
      rw [List.pairwise_cons] at hs
      by_cases hx : x.2 ≤ c
      · rw [List.filter_cons_of_pos (p := duM c) (by simpa [duM] using hx), List.filter_cons_of_neg (p := ndM c) (by simpa [ndM] using hx), List.filter_cons_of_pos (p := duM t) (by simp [duM]; omega), List.cons_append, ih hs.2]
      · have hall : ∀ y ∈ x :: S, c < y.2 := fun y hy => by
          rcases List.mem_cons.1 hy with rfl | hy
          · omega
          · have := leT_snd (hs.1 y hy); omega
        have e1 : (x :: S).filter (duM c) = [] := by rw [List.filter_eq_nil_iff]; intro y hy; have := hall y hy; simp [duM]; omega
        have e2 : (x :: S).filter (ndM c) = x :: S := by rw [List.filter_eq_self]; intro y hy; have := hall y hy; simp [ndM]; omega
        rw [e1, e2, List.nil_append]
  · rw [List.filter_filter]
    apply List.filter_congr
    intro x _
    simp only [ndM, Bool.and_eq_true, decide_eq_true_eq, eq_iff_iff, ← Bool.decide_and, decide_eq_decide]
    omega
/-- what is in the wheel that went by steps. -/
structure StI (Sf : List Tm) (c now : Int) (k : Nat) (TB : List Tm) : Prop where
  srt : Sf.Pairwise (fun x y => leT x y = true)
  pm : TB.Perm (Sf.filter (ndM c))
  le : c ≤ now
  rg : 0 ≤ now ∧ now ≤ 300 * k
  ln : Sf.length ≤ 40
theorem StI.lt {Sf TB : List Tm} {c now : Int} {k : Nat} (h : StI Sf c now k TB) : TB.length ≤ 1000 := by
  rw [h.pm.length_eq]; exact Nat.le_trans (List.length_filter_le _ _) (Nat.le_trans h.ln (by omega))
theorem StI.go {Sf TB S : List Tm} {c now t : Int} {k : Nat} (h : StI Sf c now k TB) (ht : now ≤ t) (hp : S.Perm TB) (hs : S.Pairwise (fun x y => leT x y = true)) :
    duL c Sf ++ duL t S = duL t Sf ∧ S.filter (ndM t) = Sf.filter (ndM t) := by
  have e : S = Sf.filter (ndM c) := sorted_unique (hp.trans h.pm) hs (h.srt.filter _)
  subst e
  exact filt_split (by have := h.le; omega) h.srt
theorem StI.step {Sf TB : List Tm} {c now t : Int} {k : Nat} (h : StI Sf c now k TB) (ht : now ≤ t ∧ t ≤ now + 300) : StI Sf t t (k + 1) (Sf.filter (ndM t)) :=
  ⟨h.srt, List.Perm.refl _, Int.le_refl _, by have := h.rg; omega, h.ln⟩
theorem duL_all {now : Int} {S : List Tm} (h : ∀ x ∈ S, x.2 ≤ now) : S.filter (ndM now) = [] := by
  rw [List.filter_eq_nil_iff]; intro x hx; have := h x hx; simp [ndM]; omega
theorem StI.ini {T : List Tm} (hl : T.length ≤ 40) (h0 : ∀ x ∈ T, 0 ≤ x.2) : StI (sortT T) (-1) 0 0 T ∧ duL (-1) (sortT T) = [] := by
  have hm : ∀ x ∈ sortT T, -1 < x.2 := fun x hx => by have := h0 x ((sortT_perm T).mem_iff.1 hx); omega
  obtain ⟨e1, e2⟩ := duL_none hm
  exact ⟨⟨sortT_sorted T, by rw [e2]; exact (sortT_perm T).symm, by omega, by omega, by rw [(sortT_perm T).length_eq]; exact hl⟩, e1⟩
end Go.Proofs.Ytjkedccbieoenaa
