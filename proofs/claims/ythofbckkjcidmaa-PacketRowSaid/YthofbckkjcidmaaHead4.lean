/- heads: contracts of Encode, Size. -/
import Derived.Test.YthofbckkjcidmaaHead3
import Derived.Deep.MidRow
namespace Go.Proofs.Ythofbckkjcidmaa
open Go.RowKit
set_option linter.unusedVariables false

theorem rng20 {w : World} {g : Nat} {t : TypeId} {cs : List Value} (h : w.heap[g]? = some (.cells cs.toArray t (0, 0))) : w.rangeAt g 0 cs :=
  fun j v hv => by rw [Nat.zero_add]; exact row_cell h j v (by simpa using hv)
theorem Hd.open (h : Hd) (hk : h.ok) (a : Option Addr) (tc : Nat) : ∃ t0 t1 t2 t3 t4 t5 t6 t7 f0 f1 f2 f3 f4 f5 f6 f7 : Int, h.t = [t0, t1, t2, t3, t4, t5, t6, t7] ∧ h.f = [f0, f1, f2, f3, f4, f5, f6, f7] ∧ h.val a tc = .agg #[.int .i64 h.s, .int .u8 t0, .int .u8 t1, .int .u8 t2, .int .u8 t3, .int .u8 t4, .int .u8 t5, .int .u8 t6, .int .u8 t7, .int .u8 f0, .int .u8 f1, .int .u8 f2, .int .u8 f3, .int .u8 f4, .int .u8 f5, .int .u8 f6, .int .u8 f7, .slice a h.k.length tc, .int .i64 h.w, .bool h.p] := by
  obtain ⟨s, t, f, k, wd, p⟩ := h
  obtain ⟨t0, t1, t2, t3, t4, t5, t6, t7, rfl⟩ := len8 hk.lt
  obtain ⟨f0, f1, f2, f3, f4, f5, f6, f7, rfl⟩ := len8 hk.lf
  exact ⟨_, _, _, _, _, _, _, _, _, _, _, _, _, _, _, _, rfl, rfl, rfl⟩

set_option maxRecDepth 100000 in
set_option maxHeartbeats 2000000 in
theorem hencode_core (w : World) (s t0 t1 t2 t3 t4 t5 t6 t7 f0 f1 f2 f3 f4 f5 f6 f7 wd n : Int) (a : Option Addr) (tl tc : Nat) (p : Bool) (ks E : List Int) (L : Nat) (r : Bool) (Q : Ending → World → Prop)
    (HRI : Hid (∀ w, Makes Try.prog 48 #[.agg #[.int .i64 s, .int .u8 t0, .int .u8 t1, .int .u8 t2, .int .u8 t3, .int .u8 t4, .int .u8 t5, .int .u8 t6, .int .u8 t7, .int .u8 f0, .int .u8 f1, .int .u8 f2, .int .u8 f3, .int .u8 f4, .int .u8 f5, .int .u8 f6, .int .u8 f7, .slice a tl tc, .int .i64 wd, .bool p]] w (.bool r)))
    (HPU : Hid (r = true → ∀ w, 0 ≤ n ∧ n ≤ 16383 → IntsK .u8 w a tl ks → Calls Try.prog 49 #[.agg #[.int .i64 s, .int .u8 t0, .int .u8 t1, .int .u8 t2, .int .u8 t3, .int .u8 t4, .int .u8 t5, .int .u8 t6, .int .u8 t7, .int .u8 f0, .int .u8 f1, .int .u8 f2, .int .u8 f3, .int .u8 f4, .int .u8 f5, .int .u8 f6, .int .u8 f7, .slice a tl tc, .int .i64 wd, .bool p], .int .i64 n] w fun e w' => ∃ a' cap', e = .returned (.slice a' L cap') ∧ L ≤ cap' ∧ cap' ≤ 9223372036854775807 ∧ IntsK .u8 w' a' L E ∧ (OwnRow w' w.heap.size a' cap') ∧ Below w.heap.size w w'))
    (hw14 : r = true → 1 ≤ wd ∧ wd ≤ 4) (hnb : -9223372036854775808 ≤ n ∧ n ≤ 9223372036854775807) (HI : Hid (IntsK .u8 w a tl ks))
    (HYES : Hid (r = true → wd ≤ n → n ≤ 16383 → ∀ a' cap' w', Below w.heap.size w w' → L ≤ cap' → cap' ≤ 9223372036854775807 → IntsK .u8 w' a' L E → (OwnRow w' w.heap.size a' cap') → Q (.returned (.tuple #[.slice a' L cap', .int .i64 0])) w'))
    (HNO : Hid (∀ w', Below w.heap.size w w' → ¬ (r = true ∧ wd ≤ n ∧ n ≤ 16383) → Q (.returned (.tuple #[.slice none 0 0, .int .i64 1])) w')) :
    Calls Try.prog 25 #[.agg #[.int .i64 s, .int .u8 t0, .int .u8 t1, .int .u8 t2, .int .u8 t3, .int .u8 t4, .int .u8 t5, .int .u8 t6, .int .u8 t7, .int .u8 f0, .int .u8 f1, .int .u8 f2, .int .u8 f3, .int .u8 f4, .int .u8 f5, .int .u8 f6, .int .u8 f7, .slice a tl tc, .int .i64 wd, .bool p], .int .i64 n] w Q := by
  go_enter Try.func25, Try.ntmps25
  go_upto_region 1 with fail
  have hbA := (Below.refl w.heap.size w).alloc (Nat.le_refl _) (.cells #[.int .i64 s, .int .u8 t0, .int .u8 t1, .int .u8 t2, .int .u8 t3, .int .u8 t4, .int .u8 t5, .int .u8 t6, .int .u8 t7, .int .u8 f0, .int .u8 f1, .int .u8 f2, .int .u8 f3, .int .u8 f4, .int .u8 f5, .int .u8 f6, .int .u8 f7, .slice a tl tc, .int .i64 wd, .bool p] 32)
  have HR := Lib.hid (heap_alloc_new w (.cells #[.int .i64 s, .int .u8 t0, .int .u8 t1, .int .u8 t2, .int .u8 t3, .int .u8 t4, .int .u8 t5, .int .u8 t6, .int .u8 t7, .int .u8 f0, .int .u8 f1, .int .u8 f2, .int .u8 f3, .int .u8 f4, .int .u8 f5, .int .u8 f6, .int .u8 f7, .slice a tl tc, .int .i64 wd, .bool p] 32))
  have HB := Lib.hid hbA
  generalize w.alloc (.cells #[.int .i64 s, .int .u8 t0, .int .u8 t1, .int .u8 t2, .int .u8 t3, .int .u8 t4, .int .u8 t5, .int .u8 t6, .int .u8 t7, .int .u8 f0, .int .u8 f1, .int .u8 f2, .int .u8 f3, .int .u8 f4, .int .u8 f5, .int .u8 f6, .int .u8 f7, .slice a tl tc, .int .i64 wd, .bool p] 32) = W at HR HB ⊢
  obtain ⟨g, hg⟩ : ∃ g, w.heap.size = g := ⟨_, rfl⟩
  rw [hg] at HR ⊢
  have HG := Lib.hid hg
  clear hg hbA
  go_wp2_with (first | (refine wpList_load_mid rfl 32 _ rfl g 0 rfl _ _ (rng20 HR.out) Try.underlying32 rfl rfl ?_) | fail)
  refine Calls.mono (HRI.out _) ?_
  rintro e w1 ⟨rfl, hb1⟩
  have HR1 := Lib.hid (bl_row hb1 (lt_of_block HR.out) HR.out); have HB1 := Lib.hid (bl_next HB.out HB.out.size hb1); have HI1 := Lib.hid ((HI.out.below HB.out).below hb1)
  clear hb1 HR HB
  have hwd := row_cell HR1.out 18 _ rfl
  cases r with
  | true =>
    have hw14 := hw14 rfl
    replace HPU := Lib.hid (HPU.out rfl)
    by_cases h1 : n < wd
    · go_wp2_with fail
      (try go_ret2)
      exact HNO.out _ HB1.out (fun h => by omega)
    · by_cases h2 : 16383 < n
      · go_wp2_with fail
        (try go_ret2)
        exact HNO.out _ HB1.out (fun h => by omega)
      · go_wp2_with (first | (refine wpList_load_mid rfl 32 _ rfl g 0 rfl _ _ (rng20 HR1.out) Try.underlying32 rfl rfl ?_) | fail)
        refine Calls.mono (HPU.out _ (by omega) HI1.out) ?_
        rintro e w2 ⟨a2, cp2, rfl, q1, q2, q3, q4, q5⟩
        have HF := Lib.hid (bl_next HB1.out HB1.out.size q5)
        have HS := Lib.hid HB1.out.size
        clear q5 hwd
        go_wp2_with fail
        (try go_ret2)
        exact HYES.out trivial (by omega) (by omega) a2 cp2 _ HF.out q1 q2 q3 (q4.low HS.out)
  | false =>
    clear hw14
    go_wp2_with fail
    (try go_ret2)
    exact HNO.out _ HB1.out (fun h => by cases h.1)
def HencR (w : World) (h : Hd) (n : Int) (e : Ending) (w' : World) : Prop :=
  Below w.heap.size w w' ∧ ((hrightM h = true ∧ h.w ≤ n ∧ n ≤ 16383 ∧ ∃ a' cap', e = .returned (.tuple #[.slice a' (encH h n).length cap', .int .i64 0]) ∧ (encH h n).length ≤ cap' ∧ cap' ≤ 9223372036854775807 ∧ IntsK .u8 w' a' (encH h n).length (encH h n) ∧ (OwnRow w' w.heap.size a' cap')) ∨
    (¬ (hrightM h = true ∧ h.w ≤ n ∧ n ≤ 16383) ∧ e = .returned (.tuple #[.slice none 0 0, .int .i64 1])))
theorem hencode_any (w : World) (h : Hd) (a : Option Addr) (tc : Nat) (n : Int) (hk : h.ok) (hl : h.k.length ≤ 1000000) (hnb : -9223372036854775808 ≤ n ∧ n ≤ 9223372036854775807) (hI : IntsK .u8 w a h.k.length h.k) :
    Calls Try.prog 25 #[h.val a tc, .int .i64 n] w (HencR w h n) := by
  have HRI := Lib.hid (fun w => hright_any w h a tc hk (by omega))
  have HPU := Lib.hid (fun (hr : hrightM h = true) w hn hI => hput_any w h a tc n hk ((hrightM_eq h).1 hr) hn hI)
  have hw : hrightM h = true → 1 ≤ h.w ∧ h.w ≤ 4 := fun hr => ⟨((hrightM_eq h).1 hr).1, ((hrightM_eq h).1 hr).2.1⟩
  obtain ⟨t0, t1, t2, t3, t4, t5, t6, t7, f0, f1, f2, f3, f4, f5, f6, f7, _, _, hv⟩ := h.open hk a tc
  rw [hv] at HRI HPU ⊢
  exact hencode_core w h.s t0 t1 t2 t3 t4 t5 t6 t7 f0 f1 f2 f3 f4 f5 f6 f7 h.w n a h.k.length tc h.p h.k (encH h n) (encH h n).length (hrightM h) _ HRI HPU hw hnb (Lib.hid hI) (Lib.hid fun h1 h2 h3 a' cap' w' b q1 q2 q3 q4 => ⟨b, .inl ⟨h1, h2, h3, a', cap', rfl, q1, q2, q3, q4⟩⟩) (Lib.hid fun w' b h1 => ⟨b, .inr ⟨h1, rfl⟩⟩)
end Go.Proofs.Ythofbckkjcidmaa
