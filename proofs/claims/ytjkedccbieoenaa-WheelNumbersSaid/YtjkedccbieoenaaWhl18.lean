/- wheel: a wheel above a base; known. -/
import Derived.Test.YtjkedccbieoenaaWhl17
namespace Go.Proofs.Ytjkedccbieoenaa
open Go.RowKit
set_option linter.unusedVariables false
set_option linter.unusedSimpArgs false

theorem leT_eq (x y : Tm) : leT x y = decide (x.2 < y.2 ∨ (x.2 = y.2 ∧ x.1 ≤ y.1)) := by
  unfold leT; rw [cfT_lt]; rw [← decide_not]; congr 1; simp only [eq_iff_iff]; omega
theorem leT_anti {x y : Tm} (h1 : leT x y = true) (h2 : leT y x = true) : x = y := by
  rw [leT_eq] at h1 h2; simp only [decide_eq_true_eq] at h1 h2
  exact Prod.ext (by omega) (by omega)
theorem sorted_unique : ∀ {S S2 : List Tm}, S.Perm S2 → S.Pairwise (fun x y => leT x y = true) → S2.Pairwise (fun x y => leT x y = true) → S = S2
  | [], S2, hp, _, _ => (List.nil_perm.1 hp).symm
  | x :: S, [], hp, _, _ => absurd (List.Perm.symm hp) (by intro h; exact List.cons_ne_nil _ _ (List.nil_perm.1 h))
  | x :: S, y :: S2, hp, h1, h2 => by
    rw [List.pairwise_cons] at h1 h2
    have e : x = y := by
      rcases List.mem_cons.1 (hp.mem_iff.1 (List.mem_cons_self ..)) with h | h
      · exact h
      · rcases List.mem_cons.1 (hp.mem_iff.2 (List.mem_cons_self ..)) with k | k
        · exact k.symm
        · exact leT_anti (h1.1 y k) (h2.1 x h)
    subst e
    rw [sorted_unique (List.Perm.cons_inv hp) h1.2 h2.2]
/-- a wheel whose blocks lie above a base. -/
def WL (bse : Nat) (w : World) (p : Nat) (now : Int) (T : List Tm) (n : Nat) : Prop := ∃ M vs b, WhAt w p M now T vs b n ∧ (∀ g ∈ M, bse ≤ g) ∧ bse ≤ w.heap.size
section
variable {bse : Nat} {w y : World} {p n : Nat} {now : Int} {T : List Tm}
theorem WhR.wl {M : List Nat} (h : WhR w p M now T n y) (hM : ∀ g ∈ M, bse ≤ g) (hs : bse ≤ w.heap.size) : WL bse y p now T n ∧ Below bse w y := by
  obtain ⟨M2, vs, b, hw, ho, h2⟩ := h
  exact ⟨⟨M2, vs, b, hw, fun g hg => by rcases h2 g hg with h3 | h3; exact hM g h3; omega, Nat.le_trans hs ho.size⟩, ho.below hs hM⟩
theorem WL.below (h : WL bse w p now T n) (hb : Below w.heap.size w y) : WL bse y p now T n := by
  obtain ⟨M, vs, b, hw, hM, hs⟩ := h
  exact ⟨M, vs, b, hw.below hb, hM, Nat.le_trans hs hb.size⟩
theorem WL.mono (h : WL bse w p now T n) {m : Nat} (hm : n ≤ m) : WL bse w p now T m := by
  obtain ⟨M, vs, b, hw, hM, hs⟩ := h
  obtain ⟨D, hd, hmo⟩ := hw.map
  exact ⟨M, vs, b, ⟨hw.rs, ⟨D, hd.mono hm, hmo⟩, hw.nd⟩, hM, hs⟩
theorem WL.nd (h : WL bse w p now T n) : (T.map Prod.fst).Nodup := by obtain ⟨M, vs, b, hw, _⟩ := h; exact hw.nd
theorem WL.now0 (h : WL bse w p now T n) : 0 ≤ now ∧ now ≤ 1099511627776 := by obtain ⟨M, vs, b, hw, _⟩ := h; exact hw.rs.now0
theorem WL.ok (h : WL bse w p now T n) : ∀ x ∈ T, tmwf x ∧ 0 ≤ x.2 ∧ x.2 ≤ 1125899906842624 := by obtain ⟨M, vs, b, hw, _⟩ := h; exact hw.rs.ok
theorem WL.bs (h : WL bse w p now T n) : bse ≤ w.heap.size := by obtain ⟨M, vs, b, hw, hM, hs⟩ := h; exact hs
theorem WL.new (w : World) (t : Int) : Calls Try.prog 8 #[.int .i64 t] w fun e w' => ∃ p, e = .returned (.pointer (some ⟨p, 0, none⟩)) ∧ Below w.heap.size w w' ∧ WL w.heap.size w' p (clampN t) [] 0 :=
  (new_any w t).mono fun e w' ⟨p, b, he, hb, hp, hbb, hw⟩ => ⟨p, he, hb, ⟨_, _, _, hw, fun g hg => by rcases List.mem_cons.1 hg with h | h; omega; rw [List.mem_singleton.1 h]; exact hbb, hb.size⟩⟩
theorem WL.set (h : WL bse w p now T n) (id t : Int) (hid : (Lit.int .i64 id).wf = true) (ht : 0 ≤ t ∧ t ≤ 1125899906842624) (hn : n ≤ 100000) (hT : T.length ≤ 100000) :
    Calls Try.prog 10 #[.pointer (some ⟨p, 0, none⟩), .int .i64 id, .int .i64 t] w fun e w' => e = .returned (.bool true) ∧ WL bse w' p now (dropT T id ++ [(id, dueM now t)]) (n + 1) ∧ Below bse w w' := by
  obtain ⟨M, vs, b, hw, hM, hs⟩ := h
  exact (set_any w p M now T vs b n hw id t hid ht hn hT).mono fun e w' ⟨he, hr⟩ => ⟨he, hr.wl hM hs⟩
theorem WL.drop (h : WL bse w p now T n) (id : Int) (hid : (Lit.int .i64 id).wf = true) (hT : T.length ≤ 100000) :
    Calls Try.prog 15 #[.pointer (some ⟨p, 0, none⟩), .int .i64 id] w fun e w' => e = .returned (.bool (decide (id ∈ T.map Prod.fst))) ∧ WL bse w' p now (dropT T id) n ∧ Below bse w w' := by
  obtain ⟨M, vs, b, hw, hM, hs⟩ := h
  exact (drop_any w p M now T vs b n hw id hid hT).mono fun e w' ⟨he, hr⟩ => ⟨he, hr.wl hM hs⟩
theorem WL.at (h : WL bse w p now T n) (x : Tm) (hx : x ∈ T) : Calls Try.prog 30 #[.pointer (some ⟨p, 0, none⟩), .int .i64 x.1] w fun e w' => e = .returned (.tuple #[.int .i64 x.2, .bool true]) ∧ w = w' := by
  obtain ⟨M, vs, b, hw, hM, hs⟩ := h
  exact at_any w p M now T vs b n hw x hx
theorem WL.len (h : WL bse w p now T n) : Calls Try.prog 13 #[.pointer (some ⟨p, 0, none⟩)] w fun e w' => e = .returned (.int .i64 (T.length : Nat)) ∧ w = w' := by
  obtain ⟨M, vs, b, hw, hM, hs⟩ := h
  exact len_any w p M now T vs b n hw
theorem WL.clock (h : WL bse w p now T n) : Calls Try.prog 31 #[.pointer (some ⟨p, 0, none⟩)] w fun e w' => e = .returned (.int .i64 now) ∧ w = w' := by
  obtain ⟨M, vs, b, hw, hM, hs⟩ := h
  exact now_any w p M now T vs b n hw
theorem WL.next (h : WL bse w p now T n) (hT : T.length ≤ 1000) : Calls Try.prog 16 #[.pointer (some ⟨p, 0, none⟩)] w fun e w' => ∃ a s, e = .returned (.tuple #[.int .i64 a, .bool s]) ∧ Below w.heap.size w w' ∧ LeastOf (T.map Prod.snd) a s := by
  obtain ⟨M, vs, b, hw, hM, hs⟩ := h
  exact next_any w p M now T vs b n hw hT
/-- what Go tells. -/
def GoL (bse : Nat) (w : World) (p : Nat) (now : Int) (T : List Tm) (e : Ending) (w' : World) : Prop :=
  ∃ a cap S, e = .returned (.slice a (duL now S).length cap) ∧ IntsK .i64 w' a (duL now S).length (duL now S) ∧ S.Perm T ∧ S.Pairwise (fun x y => leT x y = true) ∧ WL bse w' p now (S.filter (ndM now)) T.length ∧ Below bse w w'
theorem WL.go (h : WL bse w p now T n) (t : Int) (hT : T.length ≤ 1000) : Calls Try.prog 11 #[.pointer (some ⟨p, 0, none⟩), .int .i64 t] w (GoL bse w p (goN now t) T) := by
  obtain ⟨M, vs, b, hw, hM, hs⟩ := h
  refine (go_any w p M now T vs b n hw t hT).mono fun e w' hg => ?_
  obtain ⟨a, cap, S, he, hi, _, _, hp, hss, M2, vs2, b2, n2, hw2, hn2, ho, h2, _⟩ := hg
  exact ⟨a, cap, S, he, hi, hp, hss, WL.mono ⟨M2, vs2, b2, hw2, fun g hg => by rcases h2 g hg with h3 | h3; exact hM g h3; omega, Nat.le_trans hs ho.size⟩ hn2, ho.below hs hM⟩
end
set_option maxRecDepth 100000 in
set_option maxHeartbeats 8000000 in
theorem known24_any (w : World) : Makes Try.prog 14 #[] w (.bool true) := by
  have HB := Lib.hid (Below.refl w.heap.size w)
  have HNE := Lib.hid (WL.new w 0)
  go_enter Try.func14, Try.ntmps14
  go_wp2_with fail
  refine Calls.mono HNE.out ?_
  rintro e w1 ⟨p, rfl, hb, hw⟩
  replace HB := Lib.hid hb
  have HW : Hid (WL w.heap.size w1 p 0 [] 0) := Lib.hid hw
  clear hb hw HNE
  go_wp2_with fail
  refine Calls.mono (HW.out.set 1 70 (by decide) (by omega) (by omega) (by simp)) ?_
  rintro e w2 ⟨rfl, hw, hb⟩
  replace HB := Lib.hid (HB.out.trans hb)
  have HW2 : Hid (WL w.heap.size w2 p 0 [(1, 70)] 1) := Lib.hid hw
  clear hb hw HW
  go_wp2_with fail
  refine Calls.mono (HW2.out.set 2 5 (by decide) (by omega) (by omega) (by simp)) ?_
  rintro e w3 ⟨rfl, hw, hb⟩
  replace HB := Lib.hid (HB.out.trans hb)
  have HW3 : Hid (WL w.heap.size w3 p 0 [(1, 70), (2, 5)] 2) := Lib.hid hw
  clear hb hw HW2
  go_wp2_with fail
  refine Calls.mono (set_bad w3 p 1 (-1) (.inl (by omega))) ?_
  rintro e wq ⟨rfl, rfl⟩
  go_wp2_with fail
  refine Calls.mono (HW3.out.go 70 (by simp)) ?_
  rintro e w4 ⟨a, cap, S, rfl, hi, hp, hs, hw, hb⟩
  have eS : S = [(2, 5), (1, 70)] := sorted_unique (hp.trans (List.Perm.swap _ _ _)) hs (by simp [leT_eq])
  subst eS
  replace HB := Lib.hid (HB.out.trans hb)
  have HW4 : Hid (WL w.heap.size w4 p 70 [] 2) := Lib.hid hw
  have HI : Hid (IntsK .i64 w4 a 2 [2, 1]) := Lib.hid hi
  obtain ⟨bb, off, x0, rfl, _, e0, _, c0⟩ := HI.out.at (Below.refl _ _) (show 0 < 2 by omega)
  obtain ⟨bb1, off1, x1, e1, _, e2, _, c1⟩ := HI.out.at (Below.refl _ _) (show 1 < 2 by omega)
  injection e1 with e1; injection e1 with e1 e3
  subst e1; subst e3
  subst e0; subst e2
  have c0' : w4.cell? ⟨bb, off, none⟩ = some (.int .i64 2) := c0
  have c1' : w4.cell? ⟨bb, off + 1, none⟩ = some (.int .i64 1) := c1
  clear hb hw hi hp hs HW3 c0 c1
  have hl2 : (duL 70 [((2 : Int), (5 : Int)), (1, 70)]).length = 2 := rfl
  rw [show goN 0 70 = 70 from rfl, hl2]
  clear hl2
  go_wp2_with fail
  refine Calls.mono HW4.out.len ?_
  rintro e wq ⟨rfl, rfl⟩
  go_wp2_with fail
  refine Calls.mono (HW4.out.go 71 (by simp)) ?_
  rintro e w5 ⟨a2, cap2, S2, rfl, hi, hp, hs, hw, hb⟩
  obtain rfl : S2 = [] := List.Perm.eq_nil hp
  replace HB := Lib.hid (HB.out.trans hb)
  clear hi hp hs hw hb
  rw [show (duL (goN 70 71) []).length = 0 from rfl]
  go_wp2_with fail
  go_ret
  exact ⟨rfl, HB.out⟩
end Go.Proofs.Ytjkedccbieoenaa
