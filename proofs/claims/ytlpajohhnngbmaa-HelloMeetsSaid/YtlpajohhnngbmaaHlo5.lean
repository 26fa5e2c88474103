/- hello: ended. -/
import Derived.Test.YtlpajohhnngbmaaHlo4
namespace Go.Proofs.Ytlpajohhnngbmaa
open Go.RowKit
set_option linter.unusedVariables false
set_option linter.unusedSimpArgs false

theorem own_row_ne {w : World} {B e s n g : Nat} {t : TypeId} {v : Value} {xs : List Value} {cs : Array Value} {fr : Nat × Nat} (h1 : w.ownsRow B e s v n xs) (h2 : w.heap[g]? = some (.cells cs t fr)) (hne : e ≠ t) : v.ownBlock ≠ some g := by
  intro he
  rcases h1.2 with ⟨rfl, _⟩ | ⟨g2, cap2, cur2, rfl, _, hg2, _⟩
  · simp [Value.ownBlock] at he
  · simp only [Value.ownBlock, Option.some.injEq] at he
    subst he
    rw [h2] at hg2
    injection hg2 with hg2
    injection hg2 with _ ht
    exact hne ht.symm
/-- one cell of a row is set. -/
theorem row_set {w : World} {p : Nat} {R : List Value} {t : TypeId} (h : w.heap[p]? = some (.cells R.toArray t (0, 0))) (k : Nat) (v : Value) : (w.setCell ⟨p, k, none⟩ v).heap[p]? = some (.cells (R.set k v).toArray t (0, 0)) := by
  have h2 := ((At.base h).set k v).row
  rw [List.setIfInBounds_toArray] at h2
  exact h2
theorem Off.setCell {w y : World} {p k : Nat} (h : Off [p] w y) (v : Value) : Off [p] w (y.setCell ⟨p, k, none⟩ v) := by
  refine ⟨h.os, h.tape, h.output, by have := h.size; simpa using this, fun i hi hm => ?_⟩
  rw [Below.heap_setCell _ _ _ _ (fun e => hm (by simpa using e))]
  exact h.block i hi hm
theorem Off.next {M : List Nat} {w y z : World} (h : Off M w y) (hb : Below y.heap.size y z) : Off M w z := h.trans (N := []) (Off.of_below hb) (fun x hx => by cases hx)
section
variable {w y : World} {p : Nat} {M K K2 : List Nat} {s s2 : Sd} {a0 a1 b0 b1 e0 e1 : Option Addr} {c0 c1 d0 d1 f0 f1 : Nat}
theorem SdAt.next (h : SdAt w p M K s a0 a1 b0 b1 c0 c1 d0 d1) (ho : Off [p] w y)
    (hr : y.heap[p]? = some (.cells (sdRow s2 (.slice e0 s2.o0.length f0) (.slice e1 s2.o1.length f1) (.slice b0 s.i0.length d0) (.slice b1 s.i1.length d1)).toArray 69 (0, 0)))
    (hi0 : s2.i0 = s.i0) (hi1 : s2.i1 = s.i1) (hok : s2.th.ok) (hsh : (Lit.int .u64 s2.sh).wf = true) (t0 : IntsK .u8 y e0 s2.o0.length s2.o0) (t1 : IntsK .u8 y e1 s2.o1.length s2.o1) (n0 : s2.o0.length ≤ 1000) (n1 : s2.o1.length ≤ 1000)
    (k0 : ∀ x, e0 = some x → x.block ∈ K2) (k1 : ∀ x, e1 = some x → x.block ∈ K2) (hK : ∀ x ∈ K2, (x ∈ K ∨ w.heap.size ≤ x) ∧ x < y.heap.size) : SdAt y p M K2 s2 e0 e1 b0 b1 f0 f1 d0 d1 := by
  have hp : ∀ g, some g = some p → g = p := fun g e => by injection e
  refine ⟨by rw [hi0, hi1]; exact hr, hok, hsh, t0, t1, n0, n1, k0, k1, ?_, ?_, by rw [hi0]; exact h.w0, by rw [hi1]; exact h.w1, h.m0, h.m1, h.ne, h.pm, fun x hx => ?_, fun x hx hm => ?_⟩
  · rw [hi0]; exact own_off h.j0 ho (fun g hg hm => own_row_ne h.j0 h.row (by decide) (by rw [hg]; congr 1; simpa using hm))
  · rw [hi1]; exact own_off h.j1 ho (fun g hg hm => own_row_ne h.j1 h.row (by decide) (by rw [hg]; congr 1; simpa using hm))
  · rcases hx with hx | hx
    · exact Nat.lt_of_lt_of_le (h.lt x (.inl hx)) ho.size
    · exact (hK x hx).2
  · rcases (hK x hx).1 with h1 | h1
    · exact h.dis x h1 hm
    · have := h.lt x (.inl hm); omega
end
set_option maxRecDepth 100000 in
set_option maxHeartbeats 8000000 in
theorem ended_any (w : World) (p : Nat) (M K : List Nat) (s : Sd) (a0 a1 b0 b1 : Option Addr) (k0 c1 d0 d1 : Nat) (h : SdAt w p M K s a0 a1 b0 b1 k0 c1 d0 d1) (ga go len cap : Nat) (bs : List Int) (h3 : 3 ≤ len) (hlc : len ≤ cap) (hI : IntsK .u8 w (some ⟨ga, go, none⟩) len bs) :
    Calls Try.prog 40 #[.pointer (some ⟨p, 0, none⟩), .slice (some ⟨ga, go, none⟩) len cap] w fun e w' => e = .returned (.int .i64 (endedM s bs).2) ∧ ∃ K2 e0 e1 f0 f1, SdAt w' p M K2 (endedM s bs).1 e0 e1 b0 b1 f0 f1 d0 d1 ∧ Off [p] w w' ∧ (∀ x ∈ K2, x ∈ K ∨ w.heap.size ≤ x) := by
  have H := Lib.hid h
  have HI := Lib.hid hI
  obtain ⟨R, hR⟩ : ∃ R, sdRow s (.slice a0 s.o0.length k0) (.slice a1 s.o1.length c1) (.slice b0 s.i0.length d0) (.slice b1 s.i1.length d1) = R := ⟨_, rfl⟩
  have hr := h.row
  rw [hR] at hr
  have HR := Lib.hid hr
  have H0 : Hid (R[0]? = some (.bool s.asks)) := Lib.hid (by rw [← hR]; rfl)
  have H8 : Hid (R[8]? = some (.int .u64 s.sh)) := Lib.hid (by rw [← hR]; rfl)
  have H10 : Hid (R[10]? = some (.bool s.done)) := Lib.hid (by rw [← hR]; rfl)
  have H3 : Hid (R[3]? = some (.slice a1 s.o1.length c1)) := Lib.hid (by rw [← hR]; rfl)
  have HRE := Lib.hid hR
  have HB := Lib.hid (Below.refl w.heap.size w)
  clear h hI hr hR
  obtain ⟨c, hc⟩ : ∃ c, c = decide (bs.drop 3 ≠ finM s.sh (!s.asks)) := ⟨_, rfl⟩
  go_enter Try.func40, Try.ntmps40
  go_upto_region 1 with fail
  refine ended_r1 _ h3 hlc hc HI HR H0.out H8.out (fun c a d v w h => by first | (cases d <;> exact h) | exact HKP.out c a d v w h) ?_
  rintro _ _ _ _ _ _ _ _ _ _ _ wA hb
  cases c with
  | true =>
    have hne : bs.drop 3 ≠ finM s.sh (!s.asks) := of_decide_eq_true hc.symm
    have e : endedM s bs = (s, 40) := by unfold endedM; rw [if_neg hne]
    go_wp2_with fail
    go_ret
    rw [e]
    exact ⟨rfl, K, a0, a1, k0, c1, H.out.below hb, Off.of_below hb, fun x hx => .inl hx⟩
  | false =>
    have heq : bs.drop 3 = finM s.sh (!s.asks) := Decidable.byContradiction fun hn => by rw [decide_eq_true hn] at hc; cases hc
    have HEF : Hid (s.asks = false → endedM s bs = ({ s with done := true }, 0)) := Lib.hid (fun hf => by unfold endedM; rw [if_pos heq, if_neg (by rw [hf]; decide)])
    have HET : Hid (s.asks = true → endedM s bs = ({ s with done := true, o1 := msgM 20 (finM s.sh true) }, 0)) := Lib.hid (fun hf => by unfold endedM; rw [if_pos heq, if_pos hf])
    clear heq hc
    have HO := Lib.hid (Off.of_below (M := [p]) hb)
    replace HR := Lib.hid (bl_row hb (lt_of_block HR.out) HR.out)
    have z10 := row_free HR.out 10
    have c10 := cell_row HR.out 10 _ H10.out
    have hrs := row_set HR.out 10 (.bool true)
    have hos := HO.out.setCell (k := 10) (.bool true)
    obtain ⟨ak, hak⟩ : ∃ ak, s.asks = ak := ⟨_, rfl⟩
    rw [hak] at H0
    have HAK := Lib.hid hak
    clear hak hb
    go_upto_region 4 with fail
    clear z10 c10
    generalize wA.setCell ⟨p, 10, none⟩ (.bool true) = wB at hrs hos ⊢
    have HR2 := Lib.hid hrs; have HO2 := Lib.hid hos
    clear hrs hos HR HO HB
    have c0 := cell_row HR2.out 0 _ (by rw [List.getElem?_set_ne (by omega)]; exact H0.out)
    have c0x := cell_row HR2.out 0 _ (by rw [List.getElem?_set_ne (by omega)]; exact H0.out)
    cases ak with
    | false =>
      go_wp2_with fail
      go_ret
      rw [HEF.out HAK.out]
      refine ⟨rfl, K, a0, a1, k0, c1, ?_, HO2.out, fun x hx => .inl hx⟩
      refine H.out.next HO2.out (by rw [← HRE.out] at HR2; exact HR2.out) rfl rfl H.out.ok H.out.wsh (H.out.t0.off HO2.out ?_) (H.out.t1.off HO2.out ?_) H.out.n0 H.out.n1 H.out.k0 H.out.k1 (fun x hx => ⟨.inl hx, Nat.lt_of_lt_of_le (H.out.lt x (.inr hx)) HO2.out.size⟩)
      · exact fun _ x hx hm => H.out.dis _ (H.out.k0 x hx) (by simp only [List.mem_singleton] at hm; rw [hm]; exact H.out.pm)
      · exact fun _ x hx hm => H.out.dis _ (H.out.k1 x hx) (by simp only [List.mem_singleton] at hm; rw [hm]; exact H.out.pm)
    | true =>
      have HF := Lib.hid (fun W (hb : Below wB.heap.size wB W) => finish_any W p (R.set 10 (.bool true)) s.sh true (bl_row hb (lt_of_block HR2.out) HR2.out) (by rw [List.getElem?_set_ne (by omega)]; exact H8.out))
      have HL2 : Hid ((R.set 10 (.bool true))[3]? = some (.slice a1 s.o1.length c1)) := Lib.hid (by rw [List.getElem?_set_ne (by omega)]; exact H3.out)
      go_upto_region 5 with fail
      clear c0x
      refine wp_plan (.t 0 (.t 1 (.t 4 (.t 5 (.u 2 (.u 3 (.t 6 (.u 7 .done)))))))) (fun _ => True) (by kernel_rfl) (by kernel_rfl) (by kernel_rfl) (fun c a d v w h => by cases d <;> exact h) trivial ?_
      have hS : Below wB.heap.size wB wB.drew := (Below.refl _ _).drew
      generalize wB.drew = W0 at hS ⊢
      haveI hne2 : Nonempty (In (fun _ : World => True)) := ⟨⟨wB, trivial⟩⟩
      repeat (first | (refine plan_t (by rfl) ?_; (first | go_big_quiet_skip | (go_big_quiet_want; go_big_quiet_op; go_big_quiet_on)); refine wpQuiet_nil ?_))
      refine plan_us (by rfl) (by kernel_rfl) ?_
      intro K hK
      go_wp2_with fail
      refine Calls.mono (HF.out _ hS) ?_
      rintro e w1 ⟨gf, rfl, hb, hif, hge⟩
      replace hS := bl_next hS hS.size hb
      clear hb
      go_wp2_with fail
      refine ⟨trivial, ?_⟩
      refine plan_us (by rfl) (by kernel_rfl) ?_
      intro K hK
      go_wp2_with fail
      refine Calls.mono (message_any w1 20 _ 8 8 _ (by decide) (by omega) hif) ?_
      rintro e w2 ⟨am, cm, rfl, hb, him, hcm1, hcm2, hge2⟩
      have hszm : wB.heap.size ≤ w1.heap.size := hS.size
      replace hS := bl_next hS hS.size hb
      clear hb
      go_wp2_with fail
      refine ⟨trivial, ?_⟩
      repeat (first | (refine plan_t (by rfl) ?_; (first | go_big_quiet_skip | (go_big_quiet_want; go_big_quiet_op; go_big_quiet_on)); refine wpQuiet_nil ?_))
      refine plan_us (by rfl) (by kernel_rfl) ?_
      intro K hK
      have hrw := bl_row hS (lt_of_block HR2.out) HR2.out
      have c3 := cell_row hrw 3 _ HL2.out
      have z3 := row_free hrw 3
      have hos := (HO2.out.next hS).setCell (k := 3) (.slice am (3 + 8) cm)
      have hrs := row_set hrw 3 (.slice am (3 + 8) cm)
      have him2 : IntsK .u8 (w2.setCell ⟨p, 3, none⟩ (.slice am (3 + 8) cm)) am (3 + 8) _ := him.off (M := [p]) ((Off.refl [p] w2).setCell _) (fun _ x hx hm => by simp only [List.mem_singleton] at hm; have h1 := hge2 x hx; have h2 := H.out.lt p (.inl H.out.pm); have h3 := HO2.out.size; omega)
      go_wp2_with fail
      refine ⟨trivial, ?_⟩
      generalize w2.setCell ⟨p, 3, none⟩ (.slice am (3 + 8) cm) = w3 at hos hrs him2 ⊢
      clear hne2 c3 z3
      show Exit.then _ _ _ _ _
      go_wp2_with fail
      go_ret
      rw [HET.out HAK.out]
      obtain ⟨xm, hxm⟩ : ∃ x, am = some x := by rcases him2.2.2 with h | ⟨b, o, h, _⟩; omega; exact ⟨_, h⟩
      have hfl : (msgM 20 (finM s.sh true)).length = 3 + 8 := by rw [msgM_len, finM_len]
      have hlx : xm.block < w3.heap.size := by rcases him2.2.2 with h | ⟨b, o, h, hl, _⟩; omega; rw [hxm] at h; injection h with h; rw [h]; exact hl
      refine ⟨rfl, xm.block :: K, a0, am, k0, cm, ?_, hos, fun x hx => ?_⟩
      · refine H.out.next hos (by rw [← HRE.out] at hrs; rw [hfl]; exact hrs) rfl rfl H.out.ok H.out.wsh (H.out.t0.off hos ?_) (by rw [hfl]; exact him2) H.out.n0 (by rw [hfl]; omega) (fun x hx => List.mem_cons_of_mem _ (H.out.k0 x hx)) (fun x hx => by rw [hxm] at hx; injection hx with hx; rw [hx]; exact List.mem_cons_self) (fun x hx => ?_)
        · exact fun _ x hx hm => H.out.dis _ (H.out.k0 x hx) (by simp only [List.mem_singleton] at hm; rw [hm]; exact H.out.pm)
        · rcases List.mem_cons.1 hx with rfl | hx
          · exact ⟨.inr (by have := hge2 xm hxm; have := HO2.out.size; omega), hlx⟩
          · exact ⟨.inl hx, Nat.lt_of_lt_of_le (H.out.lt x (.inr hx)) hos.size⟩
      · rcases List.mem_cons.1 hx with rfl | hx
        · exact .inr (by have := hge2 xm hxm; have := HO2.out.size; omega)
        · exact .inl hx
end Go.Proofs.Ytlpajohhnngbmaa
