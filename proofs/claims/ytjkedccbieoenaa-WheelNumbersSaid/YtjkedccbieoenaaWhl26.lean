/- wheel: the law's due. -/
import Derived.Test.YtjkedccbieoenaaWhl25
namespace Go.Proofs.Ytjkedccbieoenaa
open Go.RowKit
set_option linter.unusedVariables false
set_option linter.unusedSimpArgs false

def ltT (y x : Tm) : Prop := y.2 < x.2 ∨ (y.2 = x.2 ∧ y.1 < x.1)
theorem ltT_le {y x : Tm} (h : ltT y x) : leT y x = true := by rw [leT_eq]; simp only [decide_eq_true_eq]; unfold ltT at h; omega
theorem le_not {y x : Tm} (h : ¬ ltT y x) : leT x y = true := by rw [leT_eq]; simp only [decide_eq_true_eq]; unfold ltT at h; omega
theorem le_trans3 {x y z : Tm} (h1 : leT x y = true) (h2 : leT y z = true) : leT x z = true := by rw [leT_eq] at *; simp only [decide_eq_true_eq] at *; omega
theorem ins_sorted {N0 : List Tm} {x : Tm} {k : Nat} (hs : N0.Pairwise (fun x y => leT x y = true)) (h1 : ∀ y ∈ N0.take k, ltT y x) (h2 : ∀ y, N0[k]? = some y → ¬ ltT y x) :
    ((N0.take k ++ [x]) ++ N0.drop k).Pairwise (fun x y => leT x y = true) := by
  have hp : (N0.take k ++ N0.drop k).Pairwise (fun x y => leT x y = true) := by rw [List.take_append_drop]; exact hs
  rw [List.pairwise_append] at hp
  have hx : ∀ y ∈ N0.drop k, leT x y = true := by
    intro y hy
    cases hd : N0.drop k with
    | nil => rw [hd] at hy; cases hy
    | cons z r =>
      have hz : N0[k]? = some z := by rw [← List.head?_drop, hd]; rfl
      have h3 := le_not (h2 z hz)
      have h4 := hp.2.1
      rw [hd, List.pairwise_cons] at h4
      rw [hd] at hy
      rcases List.mem_cons.1 hy with rfl | hy
      · exact h3
      · exact le_trans3 h3 (h4.1 y hy)
  rw [List.pairwise_append, List.pairwise_append]
  refine ⟨⟨hp.1, List.pairwise_singleton _ _, fun a ha b hb => ?_⟩, hp.2.1, fun a ha b hb => ?_⟩
  · rw [List.mem_singleton.1 hb]; exact ltT_le (h1 a ha)
  · rcases List.mem_append.1 ha with ha | ha
    · exact hp.2.2 a ha b hb
    · rw [List.mem_singleton.1 ha]; exact hx b hb
theorem ins_perm (N0 : List Tm) (x : Tm) (k : Nat) : ((N0.take k ++ [x]) ++ N0.drop k).Perm (N0 ++ [x]) := by
  rw [List.append_assoc]
  have h : (N0.take k ++ ([x] ++ N0.drop k)).Perm (N0.take k ++ (N0.drop k ++ [x])) := List.Perm.append_left _ List.perm_append_comm
  rw [← List.append_assoc (N0.take k) (N0.drop k), List.take_append_drop] at h
  exact h
theorem take_filter {l : List Tm} {i : Nat} {x : Tm} (hx : l[i]? = some x) (f : Tm → Bool) : (l.take (i + 1)).filter f = (l.take i).filter f ++ (if f x = true then [x] else []) := by
  rw [List.take_add_one, hx, List.filter_append]
  congr 1
  simp only [Option.toList_some]
  by_cases h : f x = true
  · rw [if_pos h, List.filter_cons_of_pos h]; rfl
  · rw [if_neg h, List.filter_cons_of_neg h]; rfl
/-- what is in now0's place. -/
def N0At (wr : World) (N0 : List Tm) (u7 u8 : Value) : Prop :=
  (u8 = .slice none 0 0 ∧ N0 = []) ∨ ∃ b8 c8, u8 = .slice (some ⟨b8, 0, none⟩) N0.length c8 ∧ N0.length ≤ c8 ∧ c8 ≤ 9223372036854775807 ∧ Tms wr (some ⟨b8, 0, none⟩) N0.length N0 ∧ b8 < wr.heap.size ∧ ∀ g, u7.ownBlock = some g → b8 ≠ g
structure DuI (w : World) (l : List Tm) (now : Int) (i : Nat) (N0 : List Tm) (u7 u8 : Value) (wr : World) : Prop where
  bl : Below w.heap.size w wr
  rest : wr.ownsRow w.heap.size 70 2 u7 ((l.take i).filter (ndM now)).length (rowV ((l.take i).filter (ndM now)))
  n0 : N0At wr N0 u7 u8
  pm : N0.Perm ((l.take i).filter (duM now))
  so : N0.Pairwise (fun x y => leT x y = true)
section
variable {w wr w2 y : World} {l N0 : List Tm} {now : Int} {i k : Nat} {u7 u8 u' : Value} {x : Tm}
theorem lt_of_cell {w : World} {b o : Nat} {v : Value} (h : w.cell? ⟨b, o, none⟩ = some v) : b < w.heap.size := by
  rcases Nat.lt_or_ge b w.heap.size with h1 | h1
  · exact h1
  · unfold World.cell? at h; rw [Array.getElem?_eq_none h1] at h; cases h
theorem DuI.push (h : DuI w l now i N0 u7 u8 wr) (hx : l[i]? = some x) (hgt : ¬ x.2 ≤ now) (hb : Below wr.heap.size wr w2) (ho : y.ownsRow w.heap.size 70 2 u' (((l.take i).filter (ndM now)).length + 1) (rowV ((l.take i).filter (ndM now) ++ [x]))) (hg : w2.grownBy y u7.ownBlock) (hor : u'.ownBlock = u7.ownBlock ∨ u'.ownBlock = some w2.heap.size) : DuI w l now (i + 1) N0 u' u8 y := by
  have e1 : (l.take (i + 1)).filter (ndM now) = (l.take i).filter (ndM now) ++ [x] := by rw [take_filter hx, if_pos (by simpa [ndM] using hgt)]
  have e2 : (l.take (i + 1)).filter (duM now) = (l.take i).filter (duM now) := by rw [take_filter hx, if_neg (by simpa [duM] using hgt), List.append_nil]
  have hB2 : Below w.heap.size w w2 := bl_next h.bl h.bl.size hb
  have hO := Off.of_grown (M := blkV u7) hg (fun q hq => blkV_mem.2 hq)
  refine ⟨hB2.grown hg hB2.size (by intro q hq; exact (h.rest.lt q hq).1), by rw [e1, List.length_append]; exact ho, ?_, by rw [e2]; exact h.pm, h.so⟩
  rcases h.n0 with h0 | ⟨b8, c8, h1, h2, h3, h4, h5, h6⟩
  · exact .inl h0
  · refine .inr ⟨b8, c8, h1, h2, h3, (h4.below hb).off hO (fun z hz hm => ?_), Nat.lt_of_lt_of_le h5 (Nat.le_trans hb.size hg.size), fun g hg2 => ?_⟩
    · injection hz with hz; rw [← hz] at hm; exact h6 _ (blkV_mem.1 hm) rfl
    · rcases hor with e | e
      · rw [e] at hg2; exact h6 g hg2
      · rw [e] at hg2; injection hg2 with hg2; have := hb.size; omega
theorem DuI.ins (h : DuI w l now i N0 u7 u8 wr) (hx : l[i]? = some x) (hle : x.2 ≤ now) (h1 : ∀ y ∈ N0.take k, ltT y x) (h2 : ∀ y, N0[k]? = some y → ¬ ltT y x) (hw : ∀ y ∈ l, tmwf y) (hb0 : Below wr.heap.size wr w2) (hb : Below w2.heap.size w2 y) {m : Nat} (ho : y.ownsRow w2.heap.size 70 2 u' m (rowV ((N0.take k ++ [x]) ++ N0.drop k))) :
    DuI w l now (i + 1) ((N0.take k ++ [x]) ++ N0.drop k) u7 u' y := by
  have e1 : (l.take (i + 1)).filter (ndM now) = (l.take i).filter (ndM now) := by rw [take_filter hx, if_neg (by simpa [ndM] using hle), List.append_nil]
  have e2 : (l.take (i + 1)).filter (duM now) = (l.take i).filter (duM now) ++ [x] := by rw [take_filter hx, if_pos (by simpa [duM] using hle)]
  have hp2 : ((N0.take k ++ [x]) ++ N0.drop k).Perm ((l.take (i + 1)).filter (duM now)) := by rw [e2]; exact (ins_perm N0 x k).trans (h.pm.append_right [x])
  have hbb : Below wr.heap.size wr y := bl_next hb0 hb0.size hb
  refine ⟨bl_next h.bl h.bl.size hbb, by rw [e1]; exact own_below h.rest hbb, ?_, hp2, ins_sorted h.so h1 h2⟩
  obtain ⟨a, cap, rfl, hle2, hcm, htm, hxb⟩ := TsR.of ho (fun z hz => hw z (List.mem_of_mem_take (List.mem_filter.1 (hp2.mem_iff.1 hz)).1))
  cases a with
  | none =>
    exfalso
    rcases htm.2.2 with h0 | ⟨b, off, e, _⟩
    · simp at h0
    · cases e
  | some ad =>
    have hown := ho.2
    rcases hown with ⟨e, _⟩ | ⟨g, cp, cur, e, _⟩
    · injection e with e; cases e
    · injection e with e e3 e4; injection e with e; subst e
      refine .inr ⟨g, cap, rfl, hle2, hcm, htm, (hxb _ rfl).2, fun g2 hg2 => ?_⟩
      have h5 := (hxb _ rfl).1
      have h6 := (h.rest.lt g2 hg2).2
      have h7 := hb0.size
      intro e9
      simp only at h5
      omega
end
/-- what due tells. -/
def DueR (w : World) (l : List Tm) (now : Int) (e : Ending) (w' : World) : Prop :=
  ∃ (a : Option Addr) (cap : Nat) (v : Value) (N0 : List Tm), e = .returned (.tuple #[.slice a N0.length cap, v]) ∧ IntsK .i64 w' a N0.length (N0.map Prod.fst) ∧ N0.Perm (l.filter (duM now)) ∧ N0.Pairwise (fun x y => leT x y = true) ∧ TsR w.heap.size w' (l.filter (ndM now)) v ∧ Below w.heap.size w w' ∧ (∀ x, a = some x → w.heap.size ≤ x.block)
section
variable {E T : TypeId} {ops : Array Oper} {rest : List Oper} {o : Oper} {a : Act} {w : World} {Q : Exit → Act → World → Prop}
theorem wpList_build_tm (hT : TmTy E T) (hgd : o.guard = none) (x : Operand) (ho : o.op = .buildSlice T 1 #[(0, x)]) (t : Tm) (hx : a.eval x = .agg (tmV t).toArray)
    (h : wpList Try.prog ops Q rest (a.put o.dst (.slice (some ⟨w.heap.size, 0, none⟩) 1 1)) (w.alloc (.cells (tmV t).toArray E))) : wpList Try.prog ops Q (o :: rest) a w :=
  wpList_plain hgd fun K hK => wp_build_tm hT x ho t hx (hK _ _ h)
end
set_option maxRecDepth 100000 in
set_option maxHeartbeats 16000000 in
theorem due_any (w : World) (a : Option Addr) (n cap : Nat) (l : List Tm) (now : Int) (hI : Tms w a n l) (hn : n ≤ 1000) :
    Calls Try.prog 29 #[.slice a n cap, .int .i64 now] w (DueR w l now) := by
  have HI := Lib.hid hI
  have HG : Hid (DuI w l now 0 [] (.slice none 0 0) (.slice none 0 0) w) := Lib.hid ⟨Below.refl _ _, World.ownsRow_nil _ _ _ _, .inl ⟨rfl, rfl⟩, by simp, List.Pairwise.nil⟩
  obtain ⟨QQ, hQQ⟩ : ∃ Q, DueR w l now = Q := ⟨_, rfl⟩
  have HQQ := Lib.hid hQQ
  rw [hQQ]
  clear hI hQQ
  go_enter Try.func29, Try.ntmps29
  go_wp2_with fail
  go_loopw [7, 8, 9] (fun u7 u8 si wr => ∃ (i : Nat) (N0 : List Tm), si = .int .i64 i ∧ i ≤ n ∧ Hid (DuI w l now i N0 u7 u8 wr)) (fun _ _ si _ => n - (intOf si).toNat)
  case atStart => exact ⟨0, [], rfl, by omega, HG⟩
  case round =>
    clear HG
    obtain ⟨i, N0, rfl, hi, HG⟩ := hrel
    by_cases hlt : i < n
    · obtain ⟨lb, lo, x, rfl, _, hx, hxw, c0, c1⟩ := (HI.out.below HG.out.bl).at hlt
      have c1' : wr.cell? ⟨lb, lo + i * 2 + 1, none⟩ = some (.int .i64 x.2) := by rw [show lo + i * 2 + 1 = lo + (2 * i + 1) by omega]; exact c1
      have HX := Lib.hid hx; have HXW := Lib.hid hxw
      have HIW : Hid (Tms wr (some ⟨lb, lo, none⟩) n l) := Lib.hid (HI.out.below HG.out.bl)
      have HLN : Hid (((l.take i).filter (ndM now)).length ≤ 1000) := Lib.hid (Nat.le_trans (List.length_filter_le _ _) (by rw [List.length_take]; omega))
      have HN0 : Hid (N0.length ≤ 1000) := Lib.hid (by rw [HG.out.pm.length_eq]; exact Nat.le_trans (List.length_filter_le _ _) (by rw [List.length_take]; omega))
      clear hx hxw c0 c1
      by_cases hd : x.2 ≤ now
      · have HD := Lib.hid hd
        rcases HG.out.n0 with ⟨rfl, hN⟩ | ⟨b8, c8, rfl, h1, h2, h3, h4, h5⟩
        · subst hN
          obtain ⟨WO, hWO⟩ : ∃ z, z = wr := ⟨_, rfl⟩
          subst hWO
          go_wp2_with fail
          go_loopw [10] (fun sk wz => ∃ (k : Nat), sk = .int .i64 k ∧ k ≤ 0 ∧ Hid (Below WO.heap.size WO wz)) (fun sk _ => 0)
          case atStart => exact ⟨0, rfl, by omega, Lib.hid (Below.refl _ _)⟩
          case round =>
            obtain ⟨k, rfl, hk, hwz⟩ := hrel
            have hdr := hwz.out
            have hk0 : ¬ k < 0 := by omega
            clear c1'
            go_upto_region 10 with fail
            refine wp_plan (.t 0 (.t 1 (.t 2 (.t 3 (.t 4 (.t 5 (.t 6 (.t 7 (.t 8 (.t 9 (.t 10 (.t 11 (.t 12 (.t 13 (.t 14 (.t 15 (.t 16 (.t 17 (.t 18 (.t 19 (.t 20 (.t 21 (.t 22 (.t 23 (.t 24 (.t 25 (.t 26 (.t 27 (.t 28 (.t 29 (.t 30 (.t 31 (.t 32 (.t 33 (.t 34 (.t 35 (.t 36 (.t 37 (.t 38 (.t 39 (.t 40 (.t 41 (.t 42 .done))))))))))))))))))))))))))))))))))))))))))) (fun y => Below wr.heap.size wr y) (by kernel_rfl) (by kernel_rfl) (by kernel_rfl) (fun c a d v w h => by cases d <;> exact h) (Below.refl _ _).drew ?_
            haveI hne : Nonempty (In (fun y => Below wr.heap.size wr y)) := ⟨⟨wr, Below.refl _ _⟩⟩
            have q0 : (decide ((k : Int) < 0)) = false := by first | exact decide_eq_false (by omega) | (simp only [beq_iff_eq, beq_eq_false_iff_ne, ne_eq]; omega)
            repeat (first | rw [q0] | (refine plan_t (by rfl) ?_; (first | go_big_quiet_skip | (go_big_quiet_want; go_big_quiet_op; go_big_quiet_on)); refine wpQuiet_nil ?_))
            clear hne q0
            show Exit.then _ _ _ _ _
            replace hdr := bl_next hdr hdr.size (Below.refl wr.heap.size wr).drew
            generalize wr.drew = wd at hdr ⊢
            go_upto_region 12 with fail
            refine due_insN _ (i := i) (k := k) (N0 := []) (Lib.hid (HIW.out.below hdr)) HX hk (Lib.hid (Tms.nil _ _)) hlt hn (fun c a d v w h => by cases d <;> exact h) ?_
            rintro _ _ _ _ _ _ _ _ _ _ _ _ _ _ _ v9 w9 hb9 ho9
            have HG2 := Lib.hid (HG.out.ins (k := 0) HX.out HD.out (by simp) (by simp) HI.out.2.1 hdr hb9 (by simpa using ho9))
            clear hb9 ho9 hdr
            go_wp2_with fail
            go_roundw
            case rel => exact ⟨i + 1, _, by go_num, by omega, HG2⟩
            case measure => simp [intOf]; omega
        · have H8 := Lib.hid h3; have HC8 := Lib.hid (And.intro h1 h2)
          clear h1 h2 h3 h4 h5
          obtain ⟨m, hm⟩ : ∃ m, N0.length = m := ⟨_, rfl⟩
          have HM := Lib.hid hm
          rw [hm] at H8 HC8 HN0
          have hmb : m ≤ 1000 := HN0.out
          clear hm
          go_upto_region 9 with fail
          rw [HM.out]
          go_wp2_with fail
          obtain ⟨WO, hWO⟩ : ∃ z, z = wr := ⟨_, rfl⟩
          subst hWO
          go_loopw [10] (fun sk wz => ∃ (k : Nat), sk = .int .i64 k ∧ k ≤ m ∧ Hid (Below WO.heap.size WO wz) ∧ Hid (∀ y ∈ N0.take k, ltT y x)) (fun sk _ => m - (intOf sk).toNat)
          case atStart => exact ⟨0, rfl, by omega, Lib.hid (Below.refl _ _), Lib.hid (by simp)⟩
          case round =>
            obtain ⟨k, rfl, hk, hwz, HK⟩ := hrel
            have hdr := hwz.out
            by_cases hkl : k < m
            · skip
              obtain ⟨q8, o8, y, ey, _, hy, hyw, d0, d1⟩ := (H8.out.below hdr).at hkl
              injection ey with ey; injection ey with ey1 ey2; subst ey1; subst ey2
              obtain ⟨lb2, lo2, x2, ex, _, hx2, _, f0, f1⟩ := (HIW.out.below hdr).at hlt
              injection ex with ex; injection ex with ex1 ex2; subst ex1; subst ex2
              obtain rfl : x = x2 := Option.some.inj (HX.out.symm.trans hx2)
              rw [Nat.zero_add] at d0 d1
              have f9 : wr.cell? ⟨b8, k * 2, none⟩ = some (.int .i64 y.1) := by rw [show k * 2 = 2 * k by omega]; exact d0
              have f8 : wr.cell? ⟨b8, k * 2 + 1, none⟩ = some (.int .i64 y.2) := by rw [show k * 2 + 1 = 2 * k + 1 by omega]; exact d1
              have f7 : wr.cell? ⟨lb, lo + i * 2, none⟩ = some (.int .i64 x.1) := by rw [show lo + i * 2 = lo + 2 * i by omega]; exact f0
              have f6 : wr.cell? ⟨lb, lo + i * 2 + 1, none⟩ = some (.int .i64 x.2) := by rw [show lo + i * 2 + 1 = lo + (2 * i + 1) by omega]; exact f1
              have HY := Lib.hid hy
              clear d0 d1 f0 f1 hx2 hy hyw c1'
              have f0 := f9; have f1 := f8; have f2 := f7; have f3 := f6
              clear f9 f8 f7 f6
              by_cases e1 : y.2 < x.2
              · skip
                have E1 := Lib.hid e1
                go_upto_region 10 with fail
                refine wp_plan (.t 0 (.t 1 (.t 2 (.t 3 (.t 4 (.t 5 (.t 6 (.t 7 (.t 8 (.t 9 (.t 10 (.t 11 (.t 12 (.t 13 (.t 14 (.t 15 (.t 16 (.t 17 (.t 18 (.t 19 (.t 20 (.t 21 (.t 22 (.t 23 (.t 24 (.t 25 (.t 26 (.t 27 (.t 28 (.t 29 (.t 30 (.t 31 (.t 32 (.t 33 (.t 34 (.t 35 (.t 36 (.t 37 (.t 38 (.t 39 (.t 40 (.t 41 (.t 42 .done))))))))))))))))))))))))))))))))))))))))))) (fun y => Below wr.heap.size wr y) (by kernel_rfl) (by kernel_rfl) (by kernel_rfl) (fun c a d v w h => by cases d <;> exact h) (Below.refl _ _).drew ?_
                haveI hne : Nonempty (In (fun y => Below wr.heap.size wr y)) := ⟨⟨wr, Below.refl _ _⟩⟩
                have g0 : ∀ z : In (fun y => Below wr.heap.size wr y), z.w.cell? ⟨b8, k * 2, none⟩ = some (.int .i64 y.1) := fun z => bl_cell z.h (p := ⟨b8, k * 2, none⟩) (lt_of_cell f0) f0
                have g1 : ∀ z : In (fun y => Below wr.heap.size wr y), z.w.cell? ⟨b8, k * 2 + 1, none⟩ = some (.int .i64 y.2) := fun z => bl_cell z.h (p := ⟨b8, k * 2 + 1, none⟩) (lt_of_cell f1) f1
                have g2 : ∀ z : In (fun y => Below wr.heap.size wr y), z.w.cell? ⟨lb, lo + i * 2, none⟩ = some (.int .i64 x.1) := fun z => bl_cell z.h (p := ⟨lb, lo + i * 2, none⟩) (lt_of_cell f2) f2
                have g3 : ∀ z : In (fun y => Below wr.heap.size wr y), z.w.cell? ⟨lb, lo + i * 2 + 1, none⟩ = some (.int .i64 x.2) := fun z => bl_cell z.h (p := ⟨lb, lo + i * 2 + 1, none⟩) (lt_of_cell f3) f3
                have q0 : (decide ((k : Int) < (m : Int))) = true := by first | exact decide_eq_true (by omega) | (simp only [beq_iff_eq, beq_eq_false_iff_ne, ne_eq]; omega)
                have q1 : (decide (y.2 < x.2)) = true := by first | exact decide_eq_true (by omega) | (simp only [beq_iff_eq, beq_eq_false_iff_ne, ne_eq]; omega)
                repeat (first | rw [q0] | rw [q1] | (refine plan_t (by rfl) ?_; (first | go_big_quiet_skip | (go_big_quiet_want; go_big_quiet_op; go_big_quiet_on)); refine wpQuiet_nil ?_))
                clear hne q0 q1 g0 g1 g2 g3
                show Exit.then _ _ _ _ _
                replace hdr := bl_next hdr hdr.size (Below.refl wr.heap.size wr).drew
                generalize wr.drew = wd at hdr ⊢
                go_wp2_with fail
                go_roundw
                case rel => exact ⟨k + 1, by go_num, by omega, Lib.hid hdr, Lib.hid (fun z hz => by rw [List.take_add_one, HY.out] at hz; rcases List.mem_append.1 hz with hz | hz; (exact HK.out z hz); (simp at hz; rw [hz]; exact Or.inl E1.out))⟩
                case measure => simp [intOf]; omega
              · by_cases e2 : y.2 = x.2
                · by_cases e3 : y.1 < x.1
                  · skip
                    have E2 := Lib.hid (And.intro e2 e3)
                    have e2b : (y.2 == x.2) = true := by simpa using e2
                    go_upto_region 10 with fail
                    refine wp_plan (.t 0 (.t 1 (.t 2 (.t 3 (.t 4 (.t 5 (.t 6 (.t 7 (.t 8 (.t 9 (.t 10 (.t 11 (.t 12 (.t 13 (.t 14 (.t 15 (.t 16 (.t 17 (.t 18 (.t 19 (.t 20 (.t 21 (.t 22 (.t 23 (.t 24 (.t 25 (.t 26 (.t 27 (.t 28 (.t 29 (.t 30 (.t 31 (.t 32 (.t 33 (.t 34 (.t 35 (.t 36 (.t 37 (.t 38 (.t 39 (.t 40 (.t 41 (.t 42 .done))))))))))))))))))))))))))))))))))))))))))) (fun y => Below wr.heap.size wr y) (by kernel_rfl) (by kernel_rfl) (by kernel_rfl) (fun c a d v w h => by cases d <;> exact h) (Below.refl _ _).drew ?_
                    haveI hne : Nonempty (In (fun y => Below wr.heap.size wr y)) := ⟨⟨wr, Below.refl _ _⟩⟩
                    have g0 : ∀ z : In (fun y => Below wr.heap.size wr y), z.w.cell? ⟨b8, k * 2, none⟩ = some (.int .i64 y.1) := fun z => bl_cell z.h (p := ⟨b8, k * 2, none⟩) (lt_of_cell f0) f0
                    have g1 : ∀ z : In (fun y => Below wr.heap.size wr y), z.w.cell? ⟨b8, k * 2 + 1, none⟩ = some (.int .i64 y.2) := fun z => bl_cell z.h (p := ⟨b8, k * 2 + 1, none⟩) (lt_of_cell f1) f1
                    have g2 : ∀ z : In (fun y => Below wr.heap.size wr y), z.w.cell? ⟨lb, lo + i * 2, none⟩ = some (.int .i64 x.1) := fun z => bl_cell z.h (p := ⟨lb, lo + i * 2, none⟩) (lt_of_cell f2) f2
                    have g3 : ∀ z : In (fun y => Below wr.heap.size wr y), z.w.cell? ⟨lb, lo + i * 2 + 1, none⟩ = some (.int .i64 x.2) := fun z => bl_cell z.h (p := ⟨lb, lo + i * 2 + 1, none⟩) (lt_of_cell f3) f3
                    have q0 : (decide ((k : Int) < (m : Int))) = true := by first | exact decide_eq_true (by omega) | (simp only [beq_iff_eq, beq_eq_false_iff_ne, ne_eq]; omega)
                    have q1 : (decide (y.2 < x.2)) = false := by first | exact decide_eq_false (by omega) | (simp only [beq_iff_eq, beq_eq_false_iff_ne, ne_eq]; omega)
                    have q2 : (y.2 == x.2) = true := by first | exact decide_eq_true (by omega) | (simp only [beq_iff_eq, beq_eq_false_iff_ne, ne_eq]; omega)
                    have q3 : (decide (y.1 < x.1)) = true := by first | exact decide_eq_true (by omega) | (simp only [beq_iff_eq, beq_eq_false_iff_ne, ne_eq]; omega)
                    repeat (first | rw [q0] | rw [q1] | rw [q2] | rw [q3] | (refine plan_t (by rfl) ?_; (first | go_big_quiet_skip | (go_big_quiet_want; go_big_quiet_op; go_big_quiet_on)); refine wpQuiet_nil ?_))
                    clear hne q0 q1 q2 q3 g0 g1 g2 g3
                    show Exit.then _ _ _ _ _
                    replace hdr := bl_next hdr hdr.size (Below.refl wr.heap.size wr).drew
                    generalize wr.drew = wd at hdr ⊢
                    go_wp2_with fail
                    go_roundw
                    case rel => exact ⟨k + 1, by go_num, by omega, Lib.hid hdr, Lib.hid (fun z hz => by rw [List.take_add_one, HY.out] at hz; rcases List.mem_append.1 hz with hz | hz; (exact HK.out z hz); (simp at hz; rw [hz]; exact Or.inr E2.out))⟩
                    case measure => simp [intOf]; omega
                  · skip
                    have E2 : Hid (¬ ltT y x) := Lib.hid (by unfold ltT; omega)
                    have e2b : (y.2 == x.2) = true := by simpa using e2
                    go_upto_region 10 with fail
                    refine wp_plan (.t 0 (.t 1 (.t 2 (.t 3 (.t 4 (.t 5 (.t 6 (.t 7 (.t 8 (.t 9 (.t 10 (.t 11 (.t 12 (.t 13 (.t 14 (.t 15 (.t 16 (.t 17 (.t 18 (.t 19 (.t 20 (.t 21 (.t 22 (.t 23 (.t 24 (.t 25 (.t 26 (.t 27 (.t 28 (.t 29 (.t 30 (.t 31 (.t 32 (.t 33 (.t 34 (.t 35 (.t 36 (.t 37 (.t 38 (.t 39 (.t 40 (.t 41 (.t 42 .done))))))))))))))))))))))))))))))))))))))))))) (fun y => Below wr.heap.size wr y) (by kernel_rfl) (by kernel_rfl) (by kernel_rfl) (fun c a d v w h => by cases d <;> exact h) (Below.refl _ _).drew ?_
                    haveI hne : Nonempty (In (fun y => Below wr.heap.size wr y)) := ⟨⟨wr, Below.refl _ _⟩⟩
                    have g0 : ∀ z : In (fun y => Below wr.heap.size wr y), z.w.cell? ⟨b8, k * 2, none⟩ = some (.int .i64 y.1) := fun z => bl_cell z.h (p := ⟨b8, k * 2, none⟩) (lt_of_cell f0) f0
                    have g1 : ∀ z : In (fun y => Below wr.heap.size wr y), z.w.cell? ⟨b8, k * 2 + 1, none⟩ = some (.int .i64 y.2) := fun z => bl_cell z.h (p := ⟨b8, k * 2 + 1, none⟩) (lt_of_cell f1) f1
                    have g2 : ∀ z : In (fun y => Below wr.heap.size wr y), z.w.cell? ⟨lb, lo + i * 2, none⟩ = some (.int .i64 x.1) := fun z => bl_cell z.h (p := ⟨lb, lo + i * 2, none⟩) (lt_of_cell f2) f2
                    have g3 : ∀ z : In (fun y => Below wr.heap.size wr y), z.w.cell? ⟨lb, lo + i * 2 + 1, none⟩ = some (.int .i64 x.2) := fun z => bl_cell z.h (p := ⟨lb, lo + i * 2 + 1, none⟩) (lt_of_cell f3) f3
                    have q0 : (decide ((k : Int) < (m : Int))) = true := by first | exact decide_eq_true (by omega) | (simp only [beq_iff_eq, beq_eq_false_iff_ne, ne_eq]; omega)
                    have q1 : (decide (y.2 < x.2)) = false := by first | exact decide_eq_false (by omega) | (simp only [beq_iff_eq, beq_eq_false_iff_ne, ne_eq]; omega)
                    have q2 : (y.2 == x.2) = true := by first | exact decide_eq_true (by omega) | (simp only [beq_iff_eq, beq_eq_false_iff_ne, ne_eq]; omega)
                    have q3 : (decide (y.1 < x.1)) = false := by first | exact decide_eq_false (by omega) | (simp only [beq_iff_eq, beq_eq_false_iff_ne, ne_eq]; omega)
                    repeat (first | rw [q0] | rw [q1] | rw [q2] | rw [q3] | (refine plan_t (by rfl) ?_; (first | go_big_quiet_skip | (go_big_quiet_want; go_big_quiet_op; go_big_quiet_on)); refine wpQuiet_nil ?_))
                    clear hne q0 q1 q2 q3 g0 g1 g2 g3
                    show Exit.then _ _ _ _ _
                    replace hdr := bl_next hdr hdr.size (Below.refl wr.heap.size wr).drew
                    generalize wr.drew = wd at hdr ⊢
                    go_upto_region 12 with fail
                    refine due_insS _ (i := i) (k := k) (N0 := N0) (Lib.hid (HIW.out.below hdr)) HX (by omega) (Lib.hid (H8.out.below hdr)) hlt hn HN0.out HC8.out (fun c a d v w h => by cases d <;> exact h) ?_
                    rintro _ _ _ _ _ _ _ _ _ _ _ _ _ _ _ v9 w9 hb9 ho9
                    have HG2 := Lib.hid (HG.out.ins HX.out HD.out HK.out (fun z hz => by rw [HY.out] at hz; injection hz with hz; rw [← hz]; exact E2.out) HI.out.2.1 hdr hb9 ho9)
                    clear hb9 ho9 hdr
                    go_wp2_with fail
                    go_roundw
                    case rel => exact ⟨i + 1, _, by go_num, by omega, HG2⟩
                    case measure => simp [intOf]; omega
                · skip
                  have E2 : Hid (¬ ltT y x) := Lib.hid (by unfold ltT; omega)
                  have e2b : (y.2 == x.2) = false := by simpa using e2
                  go_upto_region 10 with fail
                  refine wp_plan (.t 0 (.t 1 (.t 2 (.t 3 (.t 4 (.t 5 (.t 6 (.t 7 (.t 8 (.t 9 (.t 10 (.t 11 (.t 12 (.t 13 (.t 14 (.t 15 (.t 16 (.t 17 (.t 18 (.t 19 (.t 20 (.t 21 (.t 22 (.t 23 (.t 24 (.t 25 (.t 26 (.t 27 (.t 28 (.t 29 (.t 30 (.t 31 (.t 32 (.t 33 (.t 34 (.t 35 (.t 36 (.t 37 (.t 38 (.t 39 (.t 40 (.t 41 (.t 42 .done))))))))))))))))))))))))))))))))))))))))))) (fun y => Below wr.heap.size wr y) (by kernel_rfl) (by kernel_rfl) (by kernel_rfl) (fun c a d v w h => by cases d <;> exact h) (Below.refl _ _).drew ?_
                  haveI hne : Nonempty (In (fun y => Below wr.heap.size wr y)) := ⟨⟨wr, Below.refl _ _⟩⟩
                  have g0 : ∀ z : In (fun y => Below wr.heap.size wr y), z.w.cell? ⟨b8, k * 2, none⟩ = some (.int .i64 y.1) := fun z => bl_cell z.h (p := ⟨b8, k * 2, none⟩) (lt_of_cell f0) f0
                  have g1 : ∀ z : In (fun y => Below wr.heap.size wr y), z.w.cell? ⟨b8, k * 2 + 1, none⟩ = some (.int .i64 y.2) := fun z => bl_cell z.h (p := ⟨b8, k * 2 + 1, none⟩) (lt_of_cell f1) f1
                  have g2 : ∀ z : In (fun y => Below wr.heap.size wr y), z.w.cell? ⟨lb, lo + i * 2, none⟩ = some (.int .i64 x.1) := fun z => bl_cell z.h (p := ⟨lb, lo + i * 2, none⟩) (lt_of_cell f2) f2
                  have g3 : ∀ z : In (fun y => Below wr.heap.size wr y), z.w.cell? ⟨lb, lo + i * 2 + 1, none⟩ = some (.int .i64 x.2) := fun z => bl_cell z.h (p := ⟨lb, lo + i * 2 + 1, none⟩) (lt_of_cell f3) f3
                  have q0 : (decide ((k : Int) < (m : Int))) = true := by first | exact decide_eq_true (by omega) | (simp only [beq_iff_eq, beq_eq_false_iff_ne, ne_eq]; omega)
                  have q1 : (decide (y.2 < x.2)) = false := by first | exact decide_eq_false (by omega) | (simp only [beq_iff_eq, beq_eq_false_iff_ne, ne_eq]; omega)
                  have q2 : (y.2 == x.2) = false := by first | exact decide_eq_false (by omega) | (simp only [beq_iff_eq, beq_eq_false_iff_ne, ne_eq]; omega)
                  repeat (first | rw [q0] | rw [q1] | rw [q2] | (refine plan_t (by rfl) ?_; (first | go_big_quiet_skip | (go_big_quiet_want; go_big_quiet_op; go_big_quiet_on)); refine wpQuiet_nil ?_))
                  clear hne q0 q1 q2 g0 g1 g2 g3
                  show Exit.then _ _ _ _ _
                  replace hdr := bl_next hdr hdr.size (Below.refl wr.heap.size wr).drew
                  generalize wr.drew = wd at hdr ⊢
                  go_upto_region 12 with fail
                  refine due_insS _ (i := i) (k := k) (N0 := N0) (Lib.hid (HIW.out.below hdr)) HX (by omega) (Lib.hid (H8.out.below hdr)) hlt hn HN0.out HC8.out (fun c a d v w h => by cases d <;> exact h) ?_
                  rintro _ _ _ _ _ _ _ _ _ _ _ _ _ _ _ v9 w9 hb9 ho9
                  have HG2 := Lib.hid (HG.out.ins HX.out HD.out HK.out (fun z hz => by rw [HY.out] at hz; injection hz with hz; rw [← hz]; exact E2.out) HI.out.2.1 hdr hb9 ho9)
                  clear hb9 ho9 hdr
                  go_wp2_with fail
                  go_roundw
                  case rel => exact ⟨i + 1, _, by go_num, by omega, HG2⟩
                  case measure => simp [intOf]; omega
            · obtain rfl : k = m := by omega
              go_upto_region 10 with fail
              refine wp_plan (.t 0 (.t 1 (.t 2 (.t 3 (.t 4 (.t 5 (.t 6 (.t 7 (.t 8 (.t 9 (.t 10 (.t 11 (.t 12 (.t 13 (.t 14 (.t 15 (.t 16 (.t 17 (.t 18 (.t 19 (.t 20 (.t 21 (.t 22 (.t 23 (.t 24 (.t 25 (.t 26 (.t 27 (.t 28 (.t 29 (.t 30 (.t 31 (.t 32 (.t 33 (.t 34 (.t 35 (.t 36 (.t 37 (.t 38 (.t 39 (.t 40 (.t 41 (.t 42 .done))))))))))))))))))))))))))))))))))))))))))) (fun y => Below wr.heap.size wr y) (by kernel_rfl) (by kernel_rfl) (by kernel_rfl) (fun c a d v w h => by cases d <;> exact h) (Below.refl _ _).drew ?_
              haveI hne : Nonempty (In (fun y => Below wr.heap.size wr y)) := ⟨⟨wr, Below.refl _ _⟩⟩
              have q0 : (decide ((k : Int) < (k : Int))) = false := by first | exact decide_eq_false (by omega) | (simp only [beq_iff_eq, beq_eq_false_iff_ne, ne_eq]; omega)
              repeat (first | rw [q0] | (refine plan_t (by rfl) ?_; (first | go_big_quiet_skip | (go_big_quiet_want; go_big_quiet_op; go_big_quiet_on)); refine wpQuiet_nil ?_))
              clear hne q0
              show Exit.then _ _ _ _ _
              replace hdr := bl_next hdr hdr.size (Below.refl wr.heap.size wr).drew
              generalize wr.drew = wd at hdr ⊢
              go_upto_region 12 with fail
              refine due_insS _ (i := i) (k := k) (N0 := N0) (Lib.hid (HIW.out.below hdr)) HX (by omega) (Lib.hid (H8.out.below hdr)) hlt hn HN0.out HC8.out (fun c a d v w h => by cases d <;> exact h) ?_
              rintro _ _ _ _ _ _ _ _ _ _ _ _ _ _ _ v9 w9 hb9 ho9
              have HG2 := Lib.hid (HG.out.ins HX.out HD.out HK.out (fun z hz => by rw [List.getElem?_eq_none (by rw [HM.out]; exact Nat.le_refl _)] at hz; cases hz) HI.out.2.1 hdr hb9 ho9)
              clear hb9 ho9 hdr
              go_wp2_with fail
              go_roundw
              case rel => exact ⟨i + 1, _, by go_num, by omega, HG2⟩
              case measure => simp [intOf]; omega
      · have HD := Lib.hid hd
        have HR : Hid (wr.rangeAt lb (lo + i * 2) (tmV x)) := Lib.hid (by obtain ⟨b2, o2, e2, _, _, h2⟩ := HIW.out.rng HX.out; injection e2 with e2; injection e2 with e3 e4; subst e3; subst e4; exact h2)
        have HXL : Hid ((tmV x).length = 2) := Lib.hid rfl
        have hal := (Below.refl wr.heap.size wr).alloc (Nat.le_refl _) (.cells (tmV x).toArray 70)
        have HO9 := Lib.hid (own_below HG.out.rest hal)
        have HI9 := Lib.hid (tms_made wr x HXW.out 70)
        have HB9 := Lib.hid hal
        have HBS := Lib.hid (Nat.le_trans HG.out.bl.size hal.size)
        clear hal
        go_wp2_with (first | (refine wpList_load_mid rfl 70 _ rfl lb (lo + i * 2) rfl (tmV x) _ HR.out Try.underlying70 rfl (by rw [HXL.out]; rfl) ?_) | (refine wpList_build_tm tmL rfl _ rfl x rfl ?_) | (at_builtin; refine wpList_append_tm tmL rfl _ _ rfl w.heap.size _ _ ((l.take i).filter (ndM now)) rfl HO9.out _ 1 1 [x] rfl HI9.out (by have := HLN.out; omega) HBS.out ?_; intro v5 w5 ho5 hg5 hor5; have HG5 := Lib.hid (HG.out.push HX.out HD.out HB9.out ho5 hg5 hor5); clear ho5 hg5 hor5) | fail)
        go_roundw
        case rel => exact ⟨i + 1, _, by go_num, by omega, HG5⟩
        case measure => simp [intOf]; omega
    · obtain rfl : i = n := by omega
      have hg := HG.out
      obtain ⟨a8, c8, hu8, H8⟩ : ∃ a8 c8, u8 = .slice a8 N0.length c8 ∧ Hid (Tms wr a8 N0.length N0) := by
        rcases hg.n0 with ⟨h1, h2⟩ | ⟨b8, c8, h1, _, _, h3, _⟩
        · subst h2; exact ⟨none, 0, h1, Lib.hid (Tms.nil _ _)⟩
        · exact ⟨_, c8, h1, Lib.hid h3⟩
      subst hu8
      clear hg hlt
      have HOU : Hid (wr.ownsRow wr.heap.size 3 1 (.slice none 0 0) 0 (((N0.take 0).map Prod.fst).map (Value.int .i64))) := Lib.hid (by simpa using World.ownsRow_nil _ _ _ _)
      have HN0 : Hid (N0.length ≤ 1000) := Lib.hid (by rw [HG.out.pm.length_eq]; exact Nat.le_trans (List.length_filter_le _ _) (by rw [List.length_take]; omega))
      obtain ⟨m, hm⟩ : ∃ m, N0.length = m := ⟨_, rfl⟩
      have HM := Lib.hid hm
      go_upto_region 13 with fail
      rw [hm] at H8 HN0 ⊢
      have hmb : m ≤ 1000 := HN0.out
      clear hm
      go_wp2_with fail
      obtain ⟨WO, hWO⟩ : ∃ z, z = wr := ⟨_, rfl⟩
      subst hWO
      have HBZ := Lib.hid (Below.refl WO.heap.size WO)
      go_loopw [6, 11] (fun u6 sj wz => ∃ (j : Nat), sj = .int .i64 j ∧ j ≤ m ∧ Hid (Below WO.heap.size WO wz) ∧ Hid (wz.ownsRow WO.heap.size 3 1 u6 j (((N0.take j).map Prod.fst).map (Value.int .i64)))) (fun _ sj _ => m - (intOf sj).toNat)
      case atStart => exact ⟨0, rfl, by omega, HBZ, HOU⟩
      case round =>
        clear HOU HBZ
        obtain ⟨j, rfl, hj, HBZ, HOU⟩ := hrel
        by_cases hjl : j < m
        · skip
          obtain ⟨q8, o8, y, rfl, _, hy, hyw, d0, d1⟩ := (H8.out.below HBZ.out).at hjl
          have d0' : (_ : World).cell? ⟨q8, o8 + j * 2, none⟩ = some (.int .i64 y.1) := (show o8 + j * 2 = o8 + 2 * j by omega) ▸ d0
          have HY := Lib.hid hy
          clear d0 d1 hy
          skip
          skip
          skip
          have HO9 := Lib.hid (HOU.out.alloc (.cells #[.int .i64 y.1] 3))
          have HI9 := Lib.hid (ints_madeI wr y.1 hyw.1)
          have hal := (Below.refl wr.heap.size wr).alloc (Nat.le_refl _) (.cells #[.int .i64 y.1] 3)
          have HB9 := Lib.hid (bl_next HBZ.out HBZ.out.size hal)
          clear hal
          go_wp2_with (first | (at_builtin; refine wpList_append_int rfl _ _ rfl WO.heap.size _ _ ((N0.take j).map Prod.fst) rfl HO9.out _ 1 1 [y.1] rfl HI9.out (by have := HN0.out; omega) HB9.out.size ?_; intro v5 w5 ho5 hg5 hor5; have HB5 := Lib.hid (HB9.out.grown hg5 HB9.out.size (by intro q hq; exact (HO9.out.lt q hq).1)); have HO5 := Lib.hid ho5; clear ho5 hg5 hor5) | fail)
          have ho6 := HO5.out
          rw [show (N0.take j).map Prod.fst ++ [y.1] = (N0.take (j + 1)).map Prod.fst by rw [List.take_add_one, HY.out, List.map_append]; rfl] at ho6
          have HO6 := Lib.hid ho6
          clear ho6 HO5
          go_roundw
          case rel => exact ⟨j + 1, by go_num, by omega, HB5, HO6⟩
          case measure => simp [intOf]; omega
        · obtain rfl : j = m := by omega
          have hg := HG.out
          have ho := HOU.out
          rw [← HM.out, List.take_length] at ho
          have htn : l.take i = l := by rw [HI.out.1, List.take_length]
          skip
          have hrest := own_below hg.rest HBZ.out
          have hpm := hg.pm
          rw [htn] at hrest hpm
          have hwf : ∀ z ∈ N0.map Prod.fst, (Lit.int .i64 z).wf = true := fun z hz => by obtain ⟨q, hq, rfl⟩ := List.mem_map.1 hz; exact (HI.out.2.1 q (List.mem_filter.1 (hpm.mem_iff.1 hq)).1).1
          obtain ⟨ao, co, eu, _, hai, _⟩ := ints_of_own ho hwf
          have HFIN : Hid (DueR w l now (.returned (.tuple #[.slice ao N0.length co, u7])) wr) := Lib.hid ⟨ao, co, u7, N0, rfl, hai, hpm, hg.so, TsR.of hrest (fun z hz => HI.out.2.1 z (List.mem_filter.1 hz).1), bl_next hg.bl hg.bl.size HBZ.out, fun x hx => Nat.le_trans hg.bl.size (ho.lt x.block (by rw [eu, hx]; rfl)).1⟩
          rw [HM.out] at eu HFIN
          subst eu
          rw [HQQ.out] at HFIN
          clear hg ho htn hrest hpm hwf hai
          go_wp2_with fail
          exact HFIN.out
end Go.Proofs.Ytjkedccbieoenaa
