/- hello: feed. -/
import Derived.Test.YtlpajohhnngbmaaHlo7
namespace Go.Proofs.Ytlpajohhnngbmaa
open Go.RowKit
set_option linter.unusedVariables false
set_option linter.unusedSimpArgs false

section
variable {w y : World} {p : Nat} {M K : List Nat} {s : Sd} {a0 a1 b0 b1 b : Option Addr} {k0 k1 d0 d1 d : Nat} {l : List Int}
def blkL (b : Option Addr) : List Nat := match b with | none => [] | some x => [x.block]
theorem blkL_mem {x : Addr} (h : b = some x) : x.block ∈ blkL b := by rw [h]; exact List.mem_singleton.2 rfl
theorem blkL_of {g : Nat} (h : g ∈ blkL b) : ∃ x, b = some x ∧ x.block = g := by
  cases b with
  | none => cases h
  | some x => exact ⟨x, rfl, (List.mem_singleton.1 h).symm⟩
theorem SdAt.put0 (h : SdAt w p M K s a0 a1 b0 b1 k0 k1 d0 d1) (ho : Off M w y) (hr : y.heap[p]? = some (.cells (sdRow { s with i0 := l } (.slice a0 s.o0.length k0) (.slice a1 s.o1.length k1) (.slice b l.length d) (.slice b1 s.i1.length d1)).toArray 69 (0, 0)))
    (hj : y.ownsRow 0 5 1 (.slice b l.length d) l.length (l.map (Value.int .u8))) (hj1 : y.ownsRow 0 5 1 (.slice b1 s.i1.length d1) s.i1.length (s.i1.map (Value.int .u8))) (hl : ∀ x ∈ l, (Lit.int .u8 x).wf = true)
    (hb : ∀ x, b = some x → ((∃ x0, b0 = some x0 ∧ x0.block = x.block) ∨ w.heap.size ≤ x.block) ∧ x.block < y.heap.size) : SdAt y p (M ++ blkL b) K { s with i0 := l } a0 a1 b b1 k0 k1 d d1 := by
  refine ⟨hr, h.ok, h.wsh, h.t0.off ho (fun _ x hx => h.dis _ (h.k0 x hx)), h.t1.off ho (fun _ x hx => h.dis _ (h.k1 x hx)), h.n0, h.n1, h.k0, h.k1, hj, hj1, hl, h.w1, fun x hx => List.mem_append_right _ (blkL_mem hx), fun x hx => List.mem_append_left _ (h.m1 x hx), fun x z hx hz => ?_, List.mem_append_left _ h.pm, fun x hx => ?_, fun x hx hm => ?_⟩
  · rcases (hb x hx).1 with ⟨x0, h0, he⟩ | h1
    · rw [← he]; exact h.ne x0 z h0 hz
    · have := h.lt _ (.inl (h.m1 z hz)); omega
  · rcases hx with hx | hx
    · rcases List.mem_append.1 hx with hx | hx
      · exact Nat.lt_of_lt_of_le (h.lt x (.inl hx)) ho.size
      · obtain ⟨z, hz, rfl⟩ := blkL_of hx; exact (hb z hz).2
    · exact Nat.lt_of_lt_of_le (h.lt x (.inr hx)) ho.size
  · rcases List.mem_append.1 hm with hm | hm
    · exact h.dis x hx hm
    · obtain ⟨z, hz, rfl⟩ := blkL_of hm
      rcases (hb z hz).1 with ⟨x0, h0, he⟩ | h1
      · rw [← he] at hx; exact h.dis _ hx (h.m0 x0 h0)
      · have := h.lt _ (.inr hx); omega
theorem SdAt.put1 (h : SdAt w p M K s a0 a1 b0 b1 k0 k1 d0 d1) (ho : Off M w y) (hr : y.heap[p]? = some (.cells (sdRow { s with i1 := l } (.slice a0 s.o0.length k0) (.slice a1 s.o1.length k1) (.slice b0 s.i0.length d0) (.slice b l.length d)).toArray 69 (0, 0)))
    (hj : y.ownsRow 0 5 1 (.slice b l.length d) l.length (l.map (Value.int .u8))) (hj0 : y.ownsRow 0 5 1 (.slice b0 s.i0.length d0) s.i0.length (s.i0.map (Value.int .u8))) (hl : ∀ x ∈ l, (Lit.int .u8 x).wf = true)
    (hb : ∀ x, b = some x → ((∃ x0, b1 = some x0 ∧ x0.block = x.block) ∨ w.heap.size ≤ x.block) ∧ x.block < y.heap.size) : SdAt y p (M ++ blkL b) K { s with i1 := l } a0 a1 b0 b k0 k1 d0 d := by
  refine ⟨hr, h.ok, h.wsh, h.t0.off ho (fun _ x hx => h.dis _ (h.k0 x hx)), h.t1.off ho (fun _ x hx => h.dis _ (h.k1 x hx)), h.n0, h.n1, h.k0, h.k1, hj0, hj, h.w0, hl, fun x hx => List.mem_append_left _ (h.m0 x hx), fun x hx => List.mem_append_right _ (blkL_mem hx), fun x z hx hz => ?_, List.mem_append_left _ h.pm, fun x hx => ?_, fun x hx hm => ?_⟩
  · rcases (hb z hz).1 with ⟨x0, h0, he⟩ | h1
    · rw [← he]; exact h.ne x x0 hx h0
    · have := h.lt _ (.inl (h.m0 x hx)); omega
  · rcases hx with hx | hx
    · rcases List.mem_append.1 hx with hx | hx
      · exact Nat.lt_of_lt_of_le (h.lt x (.inl hx)) ho.size
      · obtain ⟨z, hz, rfl⟩ := blkL_of hx; exact (hb z hz).2
    · exact Nat.lt_of_lt_of_le (h.lt x (.inr hx)) ho.size
  · rcases List.mem_append.1 hm with hm | hm
    · exact h.dis x hx hm
    · obtain ⟨z, hz, rfl⟩ := blkL_of hm
      rcases (hb z hz).1 with ⟨x0, h0, he⟩ | h1
      · rw [← he] at hx; exact h.dis _ hx (h.m1 x0 h0)
      · have := h.lt _ (.inr hx); omega
end
/-- what a call that feeds leaves. -/
def FedR (w : World) (p : Nat) (M K : List Nat) (s2 : Sd) (c : Int) (e : Ending) (w' : World) : Prop :=
  e = .returned (.int .i64 c) ∧ ∃ M2 K2 a0 a1 b0 b1 k0 k1 d0 d1, SdAt w' p M2 K2 s2 a0 a1 b0 b1 k0 k1 d0 d1 ∧ Off M w w' ∧ (∀ x ∈ M2, x ∈ M ∨ w.heap.size ≤ x) ∧ (∀ x ∈ K2, x ∈ K ∨ w.heap.size ≤ x)

theorem sizeHM_facts (sp : Bool) (kn : Bool) (l : List Int) (hw : ∀ x ∈ l, (Lit.int .u8 x).wf = true) (h0 : (sizeHM sp kn l).2.2 = 0) (h1 : (sizeHM sp kn l).2.1 = true) : 3 ≤ (sizeHM sp kn l).1 ∧ (sizeHM sp kn l).1 ≤ l.length ∧ (sizeHM sp kn l).1 ≤ 203 := by
  unfold sizeHM at h0 h1 ⊢
  by_cases c1 : 0 < l.length ∧ (l.getD 0 0 ≠ (if sp then 20 else 1) ∨ (sp = true ∧ kn = false))
  · rw [if_pos c1] at h0; exact absurd h0 (by decide)
  · rw [if_neg c1] at h0 h1 ⊢
    by_cases c2 : l.length < 3
    · rw [if_pos c2] at h1; exact absurd h1 (by decide)
    · rw [if_neg c2] at h0 h1 ⊢
      by_cases c3 : l.getD 1 0 * 256 + l.getD 2 0 > 200
      · rw [if_pos c3] at h0; exact absurd h0 (by decide)
      · rw [if_neg c3] at h1 ⊢
        have h2 := of_decide_eq_true h1
        simp only
        omega
set_option maxRecDepth 100000 in
set_option maxHeartbeats 16000000 in
theorem feed_out (w : World) (p : Nat) (M J : List Nat) (s : Sd) (a0 a1 b0 b1 : Option Addr) (k0 k1 d0 d1 : Nat) (h : SdAt w p M J s a0 a1 b0 b1 k0 k1 d0 d1) (sp : Int) (hsp : sp < 0 ∨ 2 ≤ sp) (a : Option Addr) (len cap : Nat) (bs : List Int) (hsum : s.i0.length + s.i1.length + len ≤ 100000) (hI : IntsK .u8 w a len bs) :
    Calls Try.prog 27 #[.pointer (some ⟨p, 0, none⟩), .int .i64 sp, .slice a len cap] w (FedR w p M J s 10) := by
  have H := Lib.hid h
  clear h hI
  rcases hsp with hsp | hsp
  · go_enter Try.func27, Try.ntmps27
    go_wp2_with fail
    go_ret
    exact ⟨rfl, M, J, _, _, _, _, _, _, _, _, H.out, Off.refl _ _, fun x hx => .inl hx, fun x hx => .inl hx⟩
  · have h0 : ¬ sp < 0 := by omega
    go_enter Try.func27, Try.ntmps27
    go_wp2_with fail
    go_ret
    exact ⟨rfl, M, J, _, _, _, _, _, _, _, _, H.out, Off.refl _ _, fun x hx => .inl hx, fun x hx => .inl hx⟩
set_option maxRecDepth 100000 in
set_option maxHeartbeats 16000000 in
theorem feed_0 (w : World) (p : Nat) (M J : List Nat) (s : Sd) (a0 a1 b0 b1 : Option Addr) (k0 k1 d0 d1 : Nat) (h : SdAt w p M J s a0 a1 b0 b1 k0 k1 d0 d1) (a : Option Addr) (len cap : Nat) (bs : List Int) (hsum : s.i0.length + s.i1.length + len ≤ 100000) (hI : IntsK .u8 w a len bs) :
    Calls Try.prog 27 #[.pointer (some ⟨p, 0, none⟩), .int .i64 0, .slice a len cap] w (FedR w p M J (feedM s 0 bs).1 (feedM s 0 bs).2) := by
  have H := Lib.hid h
  have HI := Lib.hid hI
  have hbl := hI.1
  obtain ⟨R, hR⟩ : ∃ R, sdRow s (.slice a0 s.o0.length k0) (.slice a1 s.o1.length k1) (.slice b0 s.i0.length d0) (.slice b1 s.i1.length d1) = R := ⟨_, rfl⟩
  have hr := h.row
  rw [hR] at hr
  have HR := Lib.hid hr
  have HRE := Lib.hid hR
  have G4 : R[4]? = some (.slice b0 s.i0.length d0) := by rw [← hR]; rfl
  have G6 : R[6]? = some (.bool s.h0) := by rw [← hR]; rfl
  have c6 := cell_row HR.out 6 _ G6
  obtain ⟨hd, hhd⟩ : ∃ hd, s.h0 = hd := ⟨_, rfl⟩
  rw [hhd] at c6 G6
  clear h hI hr hR
  cases hd with
  | true =>
    have e : feedM s 0 bs = (s, 10) := by unfold feedM; rw [if_neg (by omega), if_pos (by first | (rw [if_pos rfl]; exact hhd) | (rw [if_neg (by decide)]; exact hhd))]
    rw [e]
    clear e
    go_enter Try.func27, Try.ntmps27
    go_wp2_with fail
    go_ret
    exact ⟨rfl, M, J, _, _, _, _, _, _, _, _, H.out, Off.refl _ _, fun x hx => .inl hx, fun x hx => .inl hx⟩
  | false =>
    obtain ⟨l, hl⟩ : ∃ l, s.i0 ++ bs = l := ⟨_, rfl⟩
    have hll : l.length = s.i0.length + len := by rw [← hl, List.length_append, hbl]
    obtain ⟨s1, hs1⟩ : ∃ s1 : Sd, s1 = { s with i0 := l } := ⟨_, rfl⟩
    have HFE : Hid (feedM s 0 bs = if (sizeHM false s.knows l).2.2 ≠ 0 ∨ (sizeHM false s.knows l).2.1 = false then (s1, (sizeHM false s.knows l).2.2) else wholeMsgM (heardM s1 false) false (sizeHM false s.knows l).1 l) := Lib.hid (by unfold feedM; rw [if_neg (by omega), if_neg (by first | (rw [if_pos rfl, hhd]; decide) | (rw [if_neg (by decide), hhd]; decide))]; rw [hs1, ← hl]; rfl)
    have HLW : Hid (∀ x ∈ l, (Lit.int .u8 x).wf = true) := Lib.hid (by rw [← hl]; intro x hx; exact (List.mem_append.1 hx).elim (H.out.w0 x) (HI.out.2.1 x))
    go_enter Try.func27, Try.ntmps27
    go_upto_region 3 with fail
    clear c6
    refine wp_plan (.t 0 (.t 1 (.t 2 (.t 3 (.t 4 (.t 5 (.t 6 (.t 8 (.t 10 (.t 11 (.u 7 (.u 9 (.t 12 (.u 13 .done)))))))))))))) (fun _ => True) (by kernel_rfl) (by kernel_rfl) (by kernel_rfl) (fun c a d v w h => by cases d <;> exact h) trivial ?_
    have hS : Below w.heap.size w w.drew := (Below.refl _ _).drew
    have hj := own_below H.out.j0 (Below.refl w.heap.size w).drew
    have hx := own_below H.out.j1 (Below.refl w.heap.size w).drew
    have hrw := bl_row hS (lt_of_block HR.out) HR.out
    generalize w.drew = W0 at hS hj hx hrw ⊢
    haveI hne2 : Nonempty (In (fun _ : World => True)) := ⟨⟨W0, trivial⟩⟩
    repeat (first | (refine plan_t (by rfl) ?_; (first | go_big_quiet_skip | (go_big_quiet_want; go_big_quiet_op; go_big_quiet_on)); refine wpQuiet_nil ?_))
    refine plan_us (by rfl) (by kernel_rfl) ?_
    intro K hK
    have c4 := cell_row hrw 4 _ G4
    go_wp2_with fail
    refine ⟨trivial, ?_⟩
    refine plan_us (by rfl) (by kernel_rfl) ?_
    intro K hK
    refine wp_append_bytes_at _ _ rfl 0 s.i0.length _ s.i0 rfl hj a len cap bs rfl (HI.out.below hS) (by omega) (Nat.zero_le _) ?_
    intro v1 w2 ho2 hg2 hor
    refine hK _ _ ⟨trivial, ?_⟩
    simp only [Act.put, List.setIfInBounds_toArray, List.set_cons_succ, List.set_cons_zero]
    clear c4
    have hro := own_row_ne hj hrw (by decide)
    have hrw2 := grown_row hg2 (fun e => hro e.symm) hrw
    have hx2 := hx.kept hg2 (by cases hbx : b1 with | none => exact .inl rfl | some z => exact .inr (fun he => by obtain ⟨y0, hy0, hyb⟩ := own_blk he.symm; exact (H.out.ne y0 z hy0 hbx) hyb))
    rw [hl] at ho2
    skip
    have hoM : Off M w w2 := (Off.of_below hS).trans (N := M) ⟨hg2.os, hg2.tape, hg2.output, hg2.size, fun i hi hm => hg2.block i hi (fun e => by obtain ⟨x0, hx0, hxb⟩ := own_blk e.symm; exact hm (by rw [← hxb]; exact H.out.m0 x0 hx0))⟩ (fun x hx => .inl hx)
    obtain ⟨bv, dv, rfl, hdv⟩ := own_slice ho2
    have hbv : ∀ x, bv = some x → ((∃ x0, b0 = some x0 ∧ x0.block = x.block) ∨ w.heap.size ≤ x.block) ∧ x.block < w2.heap.size := fun x hx => ⟨by subst hx; rcases hor with he | he; (obtain ⟨x0, hx0, hxb⟩ := own_blk he.symm; exact .inl ⟨x0, hx0, hxb⟩); (injection he with he; exact .inr (by rw [he]; exact hS.size)), by obtain ⟨_, hlt⟩ := ho2.lt x.block (by rw [hx]; rfl); exact hlt⟩
    have hdm := own_capm ho2 _ _ _ rfl
    repeat (first | (refine plan_t (by rfl) ?_; (first | go_big_quiet_skip | (go_big_quiet_want; go_big_quiet_op; go_big_quiet_on)); refine wpQuiet_nil ?_))
    refine plan_us (by rfl) (by kernel_rfl) ?_
    intro K hK
    have c4 := cell_row hrw2 4 _ G4
    have z4 := row_free hrw2 4
    have hrs := row_set hrw2 4 (.slice bv (s.i0.length + len) dv)
    have hoP := (Off.refl [p] w2).setCell (k := 4) (.slice bv (s.i0.length + len) dv)
    go_wp2_with fail
    refine ⟨trivial, ?_⟩
    clear c4 z4
    generalize w2.setCell ⟨p, 4, none⟩ (.slice bv (s.i0.length + len) dv) = W9 at hrs hoP ⊢
    clear hne2
    show Exit.then _ _ _ _ _
    have hoM9 : Off M w W9 := hoM.trans hoP (fun x hx => .inl (by rw [List.mem_singleton.1 hx]; exact H.out.pm))
    have ho9 := own_off ho2 hoP (fun g hg hm => own_row_ne ho2 hrw2 (by decide) (by rw [hg, List.mem_singleton.1 hm]))
    have hx9 := own_off hx2 hoP (fun g hg hm => own_row_ne hx2 hrw2 (by decide) (by rw [hg, List.mem_singleton.1 hm]))
    rw [← hll] at ho9 hrs ⊢
    rw [← HRE.out] at hrs
    have HS1 := Lib.hid (H.out.put0 (b := bv) (d := dv) (l := l) hoM9 hrs ho9 hx9 HLW.out (fun x hx => ⟨(hbv x hx).1, Nat.lt_of_lt_of_le (hbv x hx).2 hoP.size⟩))
    have HO9 := Lib.hid hoM9
    have HBV := Lib.hid (fun x hx => (hbv x hx).1)
    have HCM := Lib.hid hdm
    clear hoM hoP hoM9 ho9 hx9 hrs ho2 hx2 hrw2 hrw hro hg2 hor hbv hj hx hS hdm G4 G6
    rw [← hs1] at HS1
    obtain ⟨R1, hR1⟩ : ∃ R, sdRow s1 (.slice a0 s1.o0.length k0) (.slice a1 s1.o1.length k1) (.slice bv s1.i0.length dv) (.slice b1 s1.i1.length d1) = R := ⟨_, rfl⟩
    have hr1 := HS1.out.row
    rw [hR1] at hr1
    have HR1 := Lib.hid hr1
    have hil : s1.i0 = l := by rw [hs1]
    have G4 : R1[4 + (false : Bool).toNat]? = some (.slice bv l.length dv) := by rw [← hR1, ← hil]; rfl
    have G9 : R1[9]? = some (.bool s.knows) := by rw [← hR1, hs1]; rfl
    have G6 : R1[6]? = some (.bool false) := by rw [← hR1, ← hhd, hs1]; rfl
    have hjl := HS1.out.j0
    rw [hil] at hjl
    obtain ⟨_, _, ey, hdl, hil2, _⟩ := ints_of_own hjl HLW.out
    injection ey with e1 e2 e3
    subst e1; subst e3
    clear e2
    have HSZ := Lib.hid (sidesize_any W9 p R1 false bv l.length dv l s.knows hr1 G4 G9 (by omega) hil2)
    have HZF := Lib.hid (sizeHM_facts false s.knows l HLW.out)
    obtain ⟨⟨n, wh, cd⟩, hz⟩ : ∃ z, sizeHM false s.knows l = z := ⟨_, rfl⟩
    rw [hz] at HSZ HZF HFE
    simp only at HSZ HZF HFE
    clear hz
    have HIL := Lib.hid hil2; have HJL := Lib.hid hjl; have HDL := Lib.hid hdl
    clear hr1 hil2 hjl hdl
    have HM2 : Hid (∀ x ∈ M ++ blkL bv, x ∈ M ∨ w.heap.size ≤ x) := Lib.hid (fun x hx => (List.mem_append.1 hx).elim .inl (fun hx => by obtain ⟨z, hz, rfl⟩ := blkL_of hx; rcases HBV.out z hz with ⟨x0, h0, he⟩ | h1; exact .inl (by rw [← he]; exact H.out.m0 x0 h0); exact .inr h1))
    go_wp2_with fail
    refine Calls.mono HSZ.out ?_
    rintro e w10 ⟨rfl, hb10⟩
    clear HSZ
    by_cases hc0 : cd = 0
    rotate_left
    · have ec : (cd != 0) = true := by simpa using hc0
      go_wp2_with fail
      go_ret
      rw [HFE.out, if_pos (.inl hc0)]
      exact ⟨rfl, _, J, _, _, _, _, _, _, _, _, HS1.out.below hb10, HO9.out.next hb10, HM2.out, fun x hx => .inl hx⟩
    subst hc0
    cases wh with
    | false =>
      go_wp2_with fail
      go_ret
      rw [HFE.out, if_pos (.inr (by first | rfl | trivial))]
      exact ⟨rfl, _, J, _, _, _, _, _, _, _, _, HS1.out.below hb10, HO9.out.next hb10, HM2.out, fun x hx => .inl hx⟩
    | true =>
      obtain ⟨hn3, hnl, hn203⟩ := HZF.out rfl rfl
      clear HZF
      obtain ⟨gb, rfl⟩ : ∃ g, bv = some ⟨g, 0, none⟩ := by rcases HJL.out.2 with ⟨h1, h2⟩ | ⟨g, c, cur, h1, _⟩; omega; injection h1 with h1; exact ⟨g, h1⟩
      have hgp : gb ≠ p := fun e => own_row_ne HJL.out HR1.out (by decide) (by rw [e]; rfl)
      have hrx := bl_row hb10 (lt_of_block HR1.out) HR1.out
      have c6 := cell_row hrx 6 _ G6
      have z6 := row_free hrx 6
      have hrs := row_set hrx 6 (.bool true)
      have hoP := (Off.of_below (M := [p]) hb10).setCell (k := 6) (.bool true)
      go_upto_region 8 with fail
      clear c6 z6
      generalize w10.setCell ⟨p, 6, none⟩ (.bool true) = wB at hrs hoP ⊢
      obtain ⟨s2, hs2⟩ : ∃ s2, heardM s1 false = s2 := ⟨_, rfl⟩
      have hp0 : ∀ b, b ∈ J → b ∉ [p] := fun b hb hm => H.out.dis _ hb (by rw [List.mem_singleton.1 hm]; exact H.out.pm)
      have HS2 := Lib.hid (HS1.out.next (s2 := heardM s1 false) (e0 := a0) (e1 := a1) (f0 := k0) (f1 := k1) (K2 := J) hoP (by rw [← hR1] at hrs; exact hrs) rfl rfl HS1.out.ok HS1.out.wsh (HS1.out.t0.off hoP (fun _ x hx => hp0 _ (HS1.out.k0 x hx))) (HS1.out.t1.off hoP (fun _ x hx => hp0 _ (HS1.out.k1 x hx))) HS1.out.n0 HS1.out.n1 HS1.out.k0 HS1.out.k1 (fun x hx => ⟨.inl hx, Nat.lt_of_lt_of_le (HS1.out.lt x (.inr hx)) hoP.size⟩))
      have HOB := Lib.hid (HO9.out.trans hoP (fun x hx => .inl (by rw [List.mem_singleton.1 hx]; exact H.out.pm)))
      have HIB := Lib.hid ((HIL.out.off hoP (fun _ x hx hm => by injection hx with hx; subst hx; exact hgp (List.mem_singleton.1 hm))).pre n hnl)
      have G4B : (R1.set 6 (.bool true))[4]? = some (.slice (some ⟨gb, 0, none⟩) l.length dv) := by rw [List.getElem?_set_ne (by omega)]; exact G4
      have HRB := Lib.hid hrs
      rw [hs2] at HS2 HFE
      clear hrs hoP hrx hR1 hs1 G4 G6 G9
      have f4 : ∀ t : In (fun y => Below wB.heap.size wB y), t.w.cell? ⟨p, 4, none⟩ = some (.slice (some ⟨gb, 0, none⟩) l.length dv) := fun t => cell_row (bl_row t.h (lt_of_block HRB.out) HRB.out) 4 _ G4B
      have hdv := HDL.out
      have E1 : (n : Int) ≤ (l.length : Int) := by omega
      have E2 : (n : Int) ≤ (dv : Int) := by omega
      refine wp_plan (.t 0 (.t 1 (.t 2 (.t 3 (.t 4 (.t 5 (.t 6 (.t 7 (.t 8 (.t 9 (.t 10 (.t 11 (.t 12 (.t 13 (.t 14 (.t 15 (.t 16 (.t 17 (.t 18 .done))))))))))))))))))) (fun y => Below wB.heap.size wB y) (by kernel_rfl) (by kernel_rfl) (by kernel_rfl) (fun c a d v w h => by cases d <;> exact h) (Below.refl _ _).drew ?_
      have hS : Below wB.heap.size wB wB.drew := (Below.refl _ _).drew
      generalize wB.drew = WC at hS ⊢
      haveI hne2 : Nonempty (In (fun y => Below wB.heap.size wB y)) := ⟨⟨wB, Below.refl _ _⟩⟩
      repeat (first | (refine plan_t (by rfl) ?_; (first | go_big_quiet_skip | (go_big_quiet_want; go_big_quiet_op; go_big_quiet_on)); refine wpQuiet_nil ?_))
      clear hne2 f4
      show Exit.then _ _ _ _ _
      have HG := Lib.hid (greeted_any WC p _ _ s2 _ _ _ _ _ _ _ _ (HS2.out.below hS) gb 0 n dv (l.take n) hgp hn3 (by omega) (by omega) (HIB.out.below hS))
      obtain ⟨⟨s3, c3⟩, hg⟩ : ∃ r, greetM s2 (l.take n) = r := ⟨_, rfl⟩
      rw [hg] at HG
      have HWM : Hid (wholeMsgM s2 false n l = if c3 = 0 ∧ n < l.length then (s3, 10) else (s3, c3)) := Lib.hid (by show (if (greetM s2 (l.take n)).2 = 0 ∧ n < l.length then ((greetM s2 (l.take n)).1, 10) else greetM s2 (l.take n)) = _; rw [hg])
      simp only at HG
      go_wp2_with fail
      refine Calls.mono HG.out ?_
      rintro e wD ⟨rfl, K2, e0, e1, f0, f1, hs3, ho3, hk3⟩
      have hsz := HOB.out.size; have hsz2 := hS.size
      have HOF := Lib.hid ((HOB.out.next hS).trans ho3 (fun x hx => .inl (by rw [List.mem_singleton.1 hx]; exact H.out.pm)))
      have HKF : Hid (∀ x ∈ K2, x ∈ J ∨ w.heap.size ≤ x) := Lib.hid (fun x hx => (hk3 x hx).imp id (fun h => by omega))
      clear HG hk3 ho3
      by_cases hc3 : c3 = 0
      rotate_left
      · have ec : (c3 == 0) = false := by simpa using hc3
        go_wp2_with fail
        go_ret
        rw [HFE.out, if_neg (by simp), HWM.out, if_neg (fun h => hc3 h.1)]
        exact ⟨rfl, _, K2, _, _, _, _, _, _, _, _, hs3, HOF.out, HM2.out, HKF.out⟩
      subst hc3
      by_cases hnr : n < l.length
      · have er : decide ((0 : Int) < (l.length : Int) - (n : Int)) = true := decide_eq_true (by omega)
        go_wp2_with fail
        go_ret
        rw [HFE.out, if_neg (by simp), HWM.out, if_pos ⟨(by first | rfl | trivial), hnr⟩]
        exact ⟨rfl, _, K2, _, _, _, _, _, _, _, _, hs3, HOF.out, HM2.out, HKF.out⟩
      · have er : decide ((0 : Int) < (l.length : Int) - (n : Int)) = false := decide_eq_false (by omega)
        go_wp2_with fail
        go_ret
        rw [HFE.out, if_neg (by simp), HWM.out, if_neg (fun h => hnr h.2)]
        exact ⟨rfl, _, K2, _, _, _, _, _, _, _, _, hs3, HOF.out, HM2.out, HKF.out⟩
set_option maxRecDepth 100000 in
set_option maxHeartbeats 16000000 in
theorem feed_1 (w : World) (p : Nat) (M J : List Nat) (s : Sd) (a0 a1 b0 b1 : Option Addr) (k0 k1 d0 d1 : Nat) (h : SdAt w p M J s a0 a1 b0 b1 k0 k1 d0 d1) (a : Option Addr) (len cap : Nat) (bs : List Int) (hsum : s.i0.length + s.i1.length + len ≤ 100000) (hI : IntsK .u8 w a len bs) :
    Calls Try.prog 27 #[.pointer (some ⟨p, 0, none⟩), .int .i64 1, .slice a len cap] w (FedR w p M J (feedM s 1 bs).1 (feedM s 1 bs).2) := by
  have H := Lib.hid h
  have HI := Lib.hid hI
  have hbl := hI.1
  obtain ⟨R, hR⟩ : ∃ R, sdRow s (.slice a0 s.o0.length k0) (.slice a1 s.o1.length k1) (.slice b0 s.i0.length d0) (.slice b1 s.i1.length d1) = R := ⟨_, rfl⟩
  have hr := h.row
  rw [hR] at hr
  have HR := Lib.hid hr
  have HRE := Lib.hid hR
  have G4 : R[5]? = some (.slice b1 s.i1.length d1) := by rw [← hR]; rfl
  have G6 : R[7]? = some (.bool s.h1) := by rw [← hR]; rfl
  have c6 := cell_row HR.out 7 _ G6
  obtain ⟨hd, hhd⟩ : ∃ hd, s.h1 = hd := ⟨_, rfl⟩
  rw [hhd] at c6 G6
  clear h hI hr hR
  cases hd with
  | true =>
    have e : feedM s 1 bs = (s, 10) := by unfold feedM; rw [if_neg (by omega), if_pos (by first | (rw [if_pos rfl]; exact hhd) | (rw [if_neg (by decide)]; exact hhd))]
    rw [e]
    clear e
    go_enter Try.func27, Try.ntmps27
    go_wp2_with fail
    go_ret
    exact ⟨rfl, M, J, _, _, _, _, _, _, _, _, H.out, Off.refl _ _, fun x hx => .inl hx, fun x hx => .inl hx⟩
  | false =>
    obtain ⟨l, hl⟩ : ∃ l, s.i1 ++ bs = l := ⟨_, rfl⟩
    have hll : l.length = s.i1.length + len := by rw [← hl, List.length_append, hbl]
    obtain ⟨s1, hs1⟩ : ∃ s1 : Sd, s1 = { s with i1 := l } := ⟨_, rfl⟩
    have HFE : Hid (feedM s 1 bs = if (sizeHM true s.knows l).2.2 ≠ 0 ∨ (sizeHM true s.knows l).2.1 = false then (s1, (sizeHM true s.knows l).2.2) else wholeMsgM (heardM s1 true) true (sizeHM true s.knows l).1 l) := Lib.hid (by unfold feedM; rw [if_neg (by omega), if_neg (by first | (rw [if_pos rfl, hhd]; decide) | (rw [if_neg (by decide), hhd]; decide))]; rw [hs1, ← hl]; rfl)
    have HLW : Hid (∀ x ∈ l, (Lit.int .u8 x).wf = true) := Lib.hid (by rw [← hl]; intro x hx; exact (List.mem_append.1 hx).elim (H.out.w1 x) (HI.out.2.1 x))
    go_enter Try.func27, Try.ntmps27
    go_upto_region 3 with fail
    clear c6
    refine wp_plan (.t 0 (.t 1 (.t 2 (.t 3 (.t 4 (.t 5 (.t 6 (.t 8 (.t 10 (.t 11 (.u 7 (.u 9 (.t 12 (.u 13 .done)))))))))))))) (fun _ => True) (by kernel_rfl) (by kernel_rfl) (by kernel_rfl) (fun c a d v w h => by cases d <;> exact h) trivial ?_
    have hS : Below w.heap.size w w.drew := (Below.refl _ _).drew
    have hj := own_below H.out.j1 (Below.refl w.heap.size w).drew
    have hx := own_below H.out.j0 (Below.refl w.heap.size w).drew
    have hrw := bl_row hS (lt_of_block HR.out) HR.out
    generalize w.drew = W0 at hS hj hx hrw ⊢
    haveI hne2 : Nonempty (In (fun _ : World => True)) := ⟨⟨W0, trivial⟩⟩
    repeat (first | (refine plan_t (by rfl) ?_; (first | go_big_quiet_skip | (go_big_quiet_want; go_big_quiet_op; go_big_quiet_on)); refine wpQuiet_nil ?_))
    refine plan_us (by rfl) (by kernel_rfl) ?_
    intro K hK
    have c4 := cell_row hrw 5 _ G4
    go_wp2_with fail
    refine ⟨trivial, ?_⟩
    refine plan_us (by rfl) (by kernel_rfl) ?_
    intro K hK
    refine wp_append_bytes_at _ _ rfl 0 s.i1.length _ s.i1 rfl hj a len cap bs rfl (HI.out.below hS) (by omega) (Nat.zero_le _) ?_
    intro v1 w2 ho2 hg2 hor
    refine hK _ _ ⟨trivial, ?_⟩
    simp only [Act.put, List.setIfInBounds_toArray, List.set_cons_succ, List.set_cons_zero]
    clear c4
    have hro := own_row_ne hj hrw (by decide)
    have hrw2 := grown_row hg2 (fun e => hro e.symm) hrw
    have hx2 := hx.kept hg2 (by cases hbx : b0 with | none => exact .inl rfl | some z => exact .inr (fun he => by obtain ⟨y0, hy0, hyb⟩ := own_blk he.symm; exact (H.out.ne z y0 hbx hy0) hyb.symm))
    rw [hl] at ho2
    skip
    have hoM : Off M w w2 := (Off.of_below hS).trans (N := M) ⟨hg2.os, hg2.tape, hg2.output, hg2.size, fun i hi hm => hg2.block i hi (fun e => by obtain ⟨x0, hx0, hxb⟩ := own_blk e.symm; exact hm (by rw [← hxb]; exact H.out.m1 x0 hx0))⟩ (fun x hx => .inl hx)
    obtain ⟨bv, dv, rfl, hdv⟩ := own_slice ho2
    have hbv : ∀ x, bv = some x → ((∃ x0, b1 = some x0 ∧ x0.block = x.block) ∨ w.heap.size ≤ x.block) ∧ x.block < w2.heap.size := fun x hx => ⟨by subst hx; rcases hor with he | he; (obtain ⟨x0, hx0, hxb⟩ := own_blk he.symm; exact .inl ⟨x0, hx0, hxb⟩); (injection he with he; exact .inr (by rw [he]; exact hS.size)), by obtain ⟨_, hlt⟩ := ho2.lt x.block (by rw [hx]; rfl); exact hlt⟩
    have hdm := own_capm ho2 _ _ _ rfl
    repeat (first | (refine plan_t (by rfl) ?_; (first | go_big_quiet_skip | (go_big_quiet_want; go_big_quiet_op; go_big_quiet_on)); refine wpQuiet_nil ?_))
    refine plan_us (by rfl) (by kernel_rfl) ?_
    intro K hK
    have c4 := cell_row hrw2 5 _ G4
    have z4 := row_free hrw2 5
    have hrs := row_set hrw2 5 (.slice bv (s.i1.length + len) dv)
    have hoP := (Off.refl [p] w2).setCell (k := 5) (.slice bv (s.i1.length + len) dv)
    go_wp2_with fail
    refine ⟨trivial, ?_⟩
    clear c4 z4
    generalize w2.setCell ⟨p, 5, none⟩ (.slice bv (s.i1.length + len) dv) = W9 at hrs hoP ⊢
    clear hne2
    show Exit.then _ _ _ _ _
    have hoM9 : Off M w W9 := hoM.trans hoP (fun x hx => .inl (by rw [List.mem_singleton.1 hx]; exact H.out.pm))
    have ho9 := own_off ho2 hoP (fun g hg hm => own_row_ne ho2 hrw2 (by decide) (by rw [hg, List.mem_singleton.1 hm]))
    have hx9 := own_off hx2 hoP (fun g hg hm => own_row_ne hx2 hrw2 (by decide) (by rw [hg, List.mem_singleton.1 hm]))
    rw [← hll] at ho9 hrs ⊢
    rw [← HRE.out] at hrs
    have HS1 := Lib.hid (H.out.put1 (b := bv) (d := dv) (l := l) hoM9 hrs ho9 hx9 HLW.out (fun x hx => ⟨(hbv x hx).1, Nat.lt_of_lt_of_le (hbv x hx).2 hoP.size⟩))
    have HO9 := Lib.hid hoM9
    have HBV := Lib.hid (fun x hx => (hbv x hx).1)
    have HCM := Lib.hid hdm
    clear hoM hoP hoM9 ho9 hx9 hrs ho2 hx2 hrw2 hrw hro hg2 hor hbv hj hx hS hdm G4 G6
    rw [← hs1] at HS1
    obtain ⟨R1, hR1⟩ : ∃ R, sdRow s1 (.slice a0 s1.o0.length k0) (.slice a1 s1.o1.length k1) (.slice b0 s1.i0.length d0) (.slice bv s1.i1.length dv) = R := ⟨_, rfl⟩
    have hr1 := HS1.out.row
    rw [hR1] at hr1
    have HR1 := Lib.hid hr1
    have hil : s1.i1 = l := by rw [hs1]
    have G4 : R1[4 + (true : Bool).toNat]? = some (.slice bv l.length dv) := by rw [← hR1, ← hil]; rfl
    have G9 : R1[9]? = some (.bool s.knows) := by rw [← hR1, hs1]; rfl
    have G6 : R1[7]? = some (.bool false) := by rw [← hR1, ← hhd, hs1]; rfl
    have hjl := HS1.out.j1
    rw [hil] at hjl
    obtain ⟨_, _, ey, hdl, hil2, _⟩ := ints_of_own hjl HLW.out
    injection ey with e1 e2 e3
    subst e1; subst e3
    clear e2
    have HSZ := Lib.hid (sidesize_any W9 p R1 true bv l.length dv l s.knows hr1 G4 G9 (by omega) hil2)
    have HZF := Lib.hid (sizeHM_facts true s.knows l HLW.out)
    obtain ⟨⟨n, wh, cd⟩, hz⟩ : ∃ z, sizeHM true s.knows l = z := ⟨_, rfl⟩
    rw [hz] at HSZ HZF HFE
    simp only at HSZ HZF HFE
    clear hz
    have HIL := Lib.hid hil2; have HJL := Lib.hid hjl; have HDL := Lib.hid hdl
    clear hr1 hil2 hjl hdl
    have HM2 : Hid (∀ x ∈ M ++ blkL bv, x ∈ M ∨ w.heap.size ≤ x) := Lib.hid (fun x hx => (List.mem_append.1 hx).elim .inl (fun hx => by obtain ⟨z, hz, rfl⟩ := blkL_of hx; rcases HBV.out z hz with ⟨x0, h0, he⟩ | h1; exact .inl (by rw [← he]; exact H.out.m1 x0 h0); exact .inr h1))
    go_wp2_with fail
    refine Calls.mono HSZ.out ?_
    rintro e w10 ⟨rfl, hb10⟩
    clear HSZ
    by_cases hc0 : cd = 0
    rotate_left
    · have ec : (cd != 0) = true := by simpa using hc0
      go_wp2_with fail
      go_ret
      rw [HFE.out, if_pos (.inl hc0)]
      exact ⟨rfl, _, J, _, _, _, _, _, _, _, _, HS1.out.below hb10, HO9.out.next hb10, HM2.out, fun x hx => .inl hx⟩
    subst hc0
    cases wh with
    | false =>
      go_wp2_with fail
      go_ret
      rw [HFE.out, if_pos (.inr (by first | rfl | trivial))]
      exact ⟨rfl, _, J, _, _, _, _, _, _, _, _, HS1.out.below hb10, HO9.out.next hb10, HM2.out, fun x hx => .inl hx⟩
    | true =>
      obtain ⟨hn3, hnl, hn203⟩ := HZF.out rfl rfl
      clear HZF
      obtain ⟨gb, rfl⟩ : ∃ g, bv = some ⟨g, 0, none⟩ := by rcases HJL.out.2 with ⟨h1, h2⟩ | ⟨g, c, cur, h1, _⟩; omega; injection h1 with h1; exact ⟨g, h1⟩
      have hgp : gb ≠ p := fun e => own_row_ne HJL.out HR1.out (by decide) (by rw [e]; rfl)
      have hrx := bl_row hb10 (lt_of_block HR1.out) HR1.out
      have c6 := cell_row hrx 7 _ G6
      have z6 := row_free hrx 7
      have hrs := row_set hrx 7 (.bool true)
      have hoP := (Off.of_below (M := [p]) hb10).setCell (k := 7) (.bool true)
      go_upto_region 8 with fail
      clear c6 z6
      generalize w10.setCell ⟨p, 7, none⟩ (.bool true) = wB at hrs hoP ⊢
      obtain ⟨s2, hs2⟩ : ∃ s2, heardM s1 true = s2 := ⟨_, rfl⟩
      have hp0 : ∀ b, b ∈ J → b ∉ [p] := fun b hb hm => H.out.dis _ hb (by rw [List.mem_singleton.1 hm]; exact H.out.pm)
      have HS2 := Lib.hid (HS1.out.next (s2 := heardM s1 true) (e0 := a0) (e1 := a1) (f0 := k0) (f1 := k1) (K2 := J) hoP (by rw [← hR1] at hrs; exact hrs) rfl rfl HS1.out.ok HS1.out.wsh (HS1.out.t0.off hoP (fun _ x hx => hp0 _ (HS1.out.k0 x hx))) (HS1.out.t1.off hoP (fun _ x hx => hp0 _ (HS1.out.k1 x hx))) HS1.out.n0 HS1.out.n1 HS1.out.k0 HS1.out.k1 (fun x hx => ⟨.inl hx, Nat.lt_of_lt_of_le (HS1.out.lt x (.inr hx)) hoP.size⟩))
      have HOB := Lib.hid (HO9.out.trans hoP (fun x hx => .inl (by rw [List.mem_singleton.1 hx]; exact H.out.pm)))
      have HIB := Lib.hid ((HIL.out.off hoP (fun _ x hx hm => by injection hx with hx; subst hx; exact hgp (List.mem_singleton.1 hm))).pre n hnl)
      have G4B : (R1.set 7 (.bool true))[5]? = some (.slice (some ⟨gb, 0, none⟩) l.length dv) := by rw [List.getElem?_set_ne (by omega)]; exact G4
      have HRB := Lib.hid hrs
      rw [hs2] at HS2 HFE
      clear hrs hoP hrx hR1 hs1 G4 G6 G9
      have f4 : ∀ t : In (fun y => Below wB.heap.size wB y), t.w.cell? ⟨p, 5, none⟩ = some (.slice (some ⟨gb, 0, none⟩) l.length dv) := fun t => cell_row (bl_row t.h (lt_of_block HRB.out) HRB.out) 5 _ G4B
      have hdv := HDL.out
      have E1 : (n : Int) ≤ (l.length : Int) := by omega
      have E2 : (n : Int) ≤ (dv : Int) := by omega
      refine wp_plan (.t 0 (.t 1 (.t 2 (.t 3 (.t 4 (.t 5 (.t 6 (.t 7 (.t 8 (.t 9 (.t 10 (.t 11 (.t 12 (.t 13 (.t 14 (.t 15 (.t 16 (.t 17 (.t 18 .done))))))))))))))))))) (fun y => Below wB.heap.size wB y) (by kernel_rfl) (by kernel_rfl) (by kernel_rfl) (fun c a d v w h => by cases d <;> exact h) (Below.refl _ _).drew ?_
      have hS : Below wB.heap.size wB wB.drew := (Below.refl _ _).drew
      generalize wB.drew = WC at hS ⊢
      haveI hne2 : Nonempty (In (fun y => Below wB.heap.size wB y)) := ⟨⟨wB, Below.refl _ _⟩⟩
      repeat (first | (refine plan_t (by rfl) ?_; (first | go_big_quiet_skip | (go_big_quiet_want; go_big_quiet_op; go_big_quiet_on)); refine wpQuiet_nil ?_))
      clear hne2 f4
      show Exit.then _ _ _ _ _
      have HG := Lib.hid (ended_any WC p _ _ s2 _ _ _ _ _ _ _ _ (HS2.out.below hS) gb 0 n dv (l.take n) hn3 (by omega) (HIB.out.below hS))
      obtain ⟨⟨s3, c3⟩, hg⟩ : ∃ r, endedM s2 (l.take n) = r := ⟨_, rfl⟩
      rw [hg] at HG
      have HWM : Hid (wholeMsgM s2 true n l = if c3 = 0 ∧ n < l.length then (s3, 10) else (s3, c3)) := Lib.hid (by show (if (endedM s2 (l.take n)).2 = 0 ∧ n < l.length then ((endedM s2 (l.take n)).1, 10) else endedM s2 (l.take n)) = _; rw [hg])
      simp only at HG
      go_wp2_with fail
      refine Calls.mono HG.out ?_
      rintro e wD ⟨rfl, K2, e0, e1, f0, f1, hs3, ho3, hk3⟩
      have hsz := HOB.out.size; have hsz2 := hS.size
      have HOF := Lib.hid ((HOB.out.next hS).trans ho3 (fun x hx => .inl (by rw [List.mem_singleton.1 hx]; exact H.out.pm)))
      have HKF : Hid (∀ x ∈ K2, x ∈ J ∨ w.heap.size ≤ x) := Lib.hid (fun x hx => (hk3 x hx).imp id (fun h => by omega))
      clear HG hk3 ho3
      by_cases hc3 : c3 = 0
      rotate_left
      · have ec : (c3 == 0) = false := by simpa using hc3
        go_wp2_with fail
        go_ret
        rw [HFE.out, if_neg (by simp), HWM.out, if_neg (fun h => hc3 h.1)]
        exact ⟨rfl, _, K2, _, _, _, _, _, _, _, _, hs3, HOF.out, HM2.out, HKF.out⟩
      subst hc3
      by_cases hnr : n < l.length
      · have er : decide ((0 : Int) < (l.length : Int) - (n : Int)) = true := decide_eq_true (by omega)
        go_wp2_with fail
        go_ret
        rw [HFE.out, if_neg (by simp), HWM.out, if_pos ⟨(by first | rfl | trivial), hnr⟩]
        exact ⟨rfl, _, K2, _, _, _, _, _, _, _, _, hs3, HOF.out, HM2.out, HKF.out⟩
      · have er : decide ((0 : Int) < (l.length : Int) - (n : Int)) = false := decide_eq_false (by omega)
        go_wp2_with fail
        go_ret
        rw [HFE.out, if_neg (by simp), HWM.out, if_neg (fun h => hnr h.2)]
        exact ⟨rfl, _, K2, _, _, _, _, _, _, _, _, hs3, HOF.out, HM2.out, HKF.out⟩
end Go.Proofs.Ytlpajohhnngbmaa
