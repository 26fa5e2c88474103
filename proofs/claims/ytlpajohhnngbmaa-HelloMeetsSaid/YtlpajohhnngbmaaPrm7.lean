/- params: contracts of the reference's Encode, and of the draws of params. -/
import Derived.Test.YtlpajohhnngbmaaPrm6
namespace Go.Proofs.Ytlpajohhnngbmaa
open Go.RowKit
set_option linter.unusedVariables false

set_option maxRecDepth 100000 in
theorem rone_any (w : World) (a : Option Addr) (len cap : Nat) (bs : List Int) (id n : Int) (hid : 0 ≤ id ∧ id ≤ 4611686018427387903) (hn : 0 ≤ n ∧ n ≤ 4611686018427387903) (hlen : len ≤ 1000000) (hlc : len ≤ cap) (hI : IntsK .u8 w a len bs) :
    Calls Try.prog 44 #[.slice a len cap, .int .u64 id, .int .u64 n] w fun e w' => ∃ a' l' c', e = .returned (.slice a' l' c') ∧ l' ≤ c' ∧ IntsK .u8 w' a' l' (bs ++ oneM id n) ∧ Below w.heap.size w w' := by
  have HI := Lib.hid hI
  have hl := hI.1
  clear hI
  by_cases h0 : n = 0
  · subst h0
    go_enter Try.func44, Try.ntmps44
    go_wp2_with fail
    go_ret
    exact ⟨a, len, cap, rfl, hlc, by simpa [oneM] using HI.out, Below.refl _ _⟩
  · have h0' : (n == 0) = false := by simpa using h0
    have HE : Hid (bs ++ oneM id n = bs ++ putM id ++ (putM (putM n).length ++ putM n)) := Lib.hid (by unfold oneM; rw [if_neg h0, List.append_assoc])
    have hs1 := sizeM_le id
    have hs2 := sizeM_le n
    clear h0
    go_enter Try.func44, Try.ntmps44
    go_wp2_with fail
    refine Calls.mono (rput_any w a len cap bs id hid (by omega) HI.out) ?_
    rintro e w1 ⟨v1, rfl, hb1, ho1⟩
    obtain ⟨a1, c1, rfl, hc1, hi1, _⟩ := ints_of_own ho1 (by
      intro x hx
      rcases List.mem_append.1 hx with h | h
      · exact HI.out.2.1 x h
      · exact putM_wf id hid.1 x h)
    have HB1 := Lib.hid hb1; have HI1 := Lib.hid hi1
    clear hb1 ho1 hi1
    go_wp2_with fail
    refine Calls.mono (rput_any w1 none 0 0 [] n hn (by omega) (IntsK.nil _ _ _)) ?_
    rintro e w2 ⟨v2, rfl, hb2, ho2⟩
    rw [List.nil_append, Nat.zero_add] at ho2
    obtain ⟨a2, c2, rfl, hc2, hi2, _⟩ := ints_of_own ho2 (putM_wf n hn.1)
    have HB2 := Lib.hid (bl_next HB1.out HB1.out.size hb2); have HI2 := Lib.hid hi2; have HI12 := Lib.hid (HI1.out.below hb2)
    clear hb2 ho2 hi2 HI1 HB1
    go_wp2_with fail
    refine Calls.mono (rwtext_any w2 a1 _ c1 _ a2 _ c2 _ (by omega) HI12.out HI2.out) ?_
    rintro e w3 ⟨v3, rfl, hb3, ho3⟩
    rw [← putM_len n, ← HE.out] at ho3
    obtain ⟨a3, c3, rfl, hc3, hi3, _⟩ := ints_of_own ho3 (by
      intro x hx
      rcases List.mem_append.1 hx with h | h
      · exact HI.out.2.1 x h
      · exact oneM_wf id n hid.1 hn.1 x h)
    have HB3 := Lib.hid (bl_next HB2.out HB2.out.size hb3); have HI3 := Lib.hid hi3
    clear hb3 ho3 hi3
    go_wp2_with fail
    go_ret
    rw [List.length_append, hl] at hc3 HI3
    exact ⟨a3, _, c3, rfl, hc3, HI3.out, HB3.out⟩

set_option maxRecDepth 100000 in
set_option maxHeartbeats 4000000 in
theorem rpencode_any (w : World) (p : Pm) (hp : p.ok) (hr : rightM p = true) :
    Calls Try.prog 34 #[p.val] w fun e w' => ∃ v, e = .returned v ∧ Below w.heap.size w w' ∧ w'.ownsRow w.heap.size 5 1 v (encP p).length ((encP p).map (Value.int .u8)) := by
  obtain ⟨wi, wd, ws, wm, len, wf⟩ := hp
  have hq := (rightM_eq p).1 hr
  have b1 := bdU64 wi; have b2 := bdU64 wd; have b3 := bdU64 ws; have b4 := bdU64 wm
  obtain ⟨i, d, s, m, f⟩ := p
  obtain ⟨y0, y1, y2, y3, y4, y5, y6, y7, rfl⟩ := len8 len
  simp only at hq b1 b2 b3 b4
  have hi : 0 ≤ i ∧ i ≤ 4611686018427387903 := by omega
  have hd : 0 ≤ d ∧ d ≤ 4611686018427387903 := by omega
  have hs : 0 ≤ s ∧ s ≤ 4611686018427387903 := by omega
  have hm : 0 ≤ m ∧ m ≤ 4611686018427387903 := by omega
  have HEN : Hid (encP ⟨i, d, s, m, [y0, y1, y2, y3, y4, y5, y6, y7]⟩ = [] ++ oneM 1 i ++ oneM 4 d ++ oneM 5 s ++ oneM 8 m ++ putM 0 ++ (putM 8 ++ [y0, y1, y2, y3, y4, y5, y6, y7])) := Lib.hid (by simp [encP, onesM, prs])
  have HW := Lib.hid wf
  have l1 := oneM_len 1 i; have l2 := oneM_len 4 d; have l3 := oneM_len 5 s; have l4 := oneM_len 8 m
  clear wi wd ws wm hr hq b1 b2 b3 b4 wf len
  show Calls Try.prog 34 #[.agg #[.int .u64 i, .int .u64 d, .int .u64 s, .int .u64 m, .int .u8 y0, .int .u8 y1, .int .u8 y2, .int .u8 y3, .int .u8 y4, .int .u8 y5, .int .u8 y6, .int .u8 y7]] w _
  go_enter Try.func34, Try.ntmps34
  go_upto_region 1 with fail
  have hrow := heap_alloc_new w (.cells #[.int .u64 i, .int .u64 d, .int .u64 s, .int .u64 m, .int .u8 y0, .int .u8 y1, .int .u8 y2, .int .u8 y3, .int .u8 y4, .int .u8 y5, .int .u8 y6, .int .u8 y7] 26)
  have hbW := (Below.refl w.heap.size w).alloc (Nat.le_refl _) (.cells #[.int .u64 i, .int .u64 d, .int .u64 s, .int .u64 m, .int .u8 y0, .int .u8 y1, .int .u8 y2, .int .u8 y3, .int .u8 y4, .int .u8 y5, .int .u8 y6, .int .u8 y7] 26)
  generalize w.alloc (.cells #[.int .u64 i, .int .u64 d, .int .u64 s, .int .u64 m, .int .u8 y0, .int .u8 y1, .int .u8 y2, .int .u8 y3, .int .u8 y4, .int .u8 y5, .int .u8 y6, .int .u8 y7] 26) = W at hrow hbW ⊢
  obtain ⟨g, hg⟩ : ∃ g, w.heap.size = g := ⟨_, rfl⟩
  rw [hg] at hrow ⊢
  have HG := Lib.hid hg
  clear hg
  have HROW := Lib.hid hrow; have HBW := Lib.hid hbW
  have hce : ∀ k x, #[.int .u64 i, .int .u64 d, .int .u64 s, .int .u64 m, .int .u8 y0, .int .u8 y1, .int .u8 y2, .int .u8 y3, .int .u8 y4, .int .u8 y5, .int .u8 y6, .int .u8 y7][k]? = some x → ∀ t : In (fun y => Below W.heap.size W y), t.w.cell? ⟨g, k, none⟩ = some x :=
    fun k x hv t => bl_cell t.h (p := ⟨g, k, none⟩) (lt_of_block hrow) (row_cell hrow k x hv)
  have c0 := hce 0 _ rfl
  have c1 := hce 1 _ rfl
  have c2 := hce 2 _ rfl
  have c3 := hce 3 _ rfl
  clear hce hrow hbW
  refine wp_plan (.t 0 (.t 1 (.t 3 (.t 4 (.t 6 (.t 7 (.t 9 (.t 10 (.u 2 (.u 5 (.u 8 (.u 11 (.t 12 .done))))))))))))) (fun y => Below W.heap.size W y) (by kernel_rfl) (by kernel_rfl) (by kernel_rfl) (fun c a d v w h => by cases d <;> exact h) (Below.refl _ _).drew ?_
  have hS : Below W.heap.size W W.drew := (Below.refl _ _).drew
  generalize W.drew = W1 at hS ⊢
  haveI hne : Nonempty (In fun y => Below W.heap.size W y) := ⟨⟨W, Below.refl _ _⟩⟩
  repeat (refine plan_t (by rfl) ?_; (first | go_big_quiet_skip | (go_big_quiet_want; go_big_quiet_op; go_big_quiet_on)); refine wpQuiet_nil ?_)
  refine plan_us (by rfl) (by kernel_rfl) ?_
  intro K hK
  go_wp2_with fail
  refine Calls.mono (rone_any _ none 0 0 _ 1 i (by omega) hi (by omega) (by omega) (IntsK.nil _ _ _)) ?_
  rintro e W2 ⟨a1, l1', c1', rfl, hl1, hi1, hb⟩
  replace hS := bl_next hS hS.size hb; clear hb
  have HI1 := Lib.hid hi1; clear hi1
  go_wp2_with fail
  refine ⟨hS, ?_⟩
  repeat (refine plan_t (by rfl) ?_; (first | go_big_quiet_skip | (go_big_quiet_want; go_big_quiet_op; go_big_quiet_on)); refine wpQuiet_nil ?_)
  refine plan_us (by rfl) (by kernel_rfl) ?_
  intro K hK
  go_wp2_with fail
  refine Calls.mono (rone_any _ a1 l1' c1' _ 4 d (by omega) hd (by have := HI1.out.1; simp only [List.length_append, List.length_nil] at this; omega) (hl1) HI1.out) ?_
  rintro e W2 ⟨a2, l2', c2', rfl, hl2, hi2, hb⟩
  replace hS := bl_next hS hS.size hb; clear hb
  have HI2 := Lib.hid hi2; clear hi2
  go_wp2_with fail
  refine ⟨hS, ?_⟩
  repeat (refine plan_t (by rfl) ?_; (first | go_big_quiet_skip | (go_big_quiet_want; go_big_quiet_op; go_big_quiet_on)); refine wpQuiet_nil ?_)
  refine plan_us (by rfl) (by kernel_rfl) ?_
  intro K hK
  go_wp2_with fail
  refine Calls.mono (rone_any _ a2 l2' c2' _ 5 s (by omega) hs (by have := HI2.out.1; simp only [List.length_append, List.length_nil] at this; omega) (hl2) HI2.out) ?_
  rintro e W2 ⟨a3, l3', c3', rfl, hl3, hi3, hb⟩
  replace hS := bl_next hS hS.size hb; clear hb
  have HI3 := Lib.hid hi3; clear hi3
  go_wp2_with fail
  refine ⟨hS, ?_⟩
  repeat (refine plan_t (by rfl) ?_; (first | go_big_quiet_skip | (go_big_quiet_want; go_big_quiet_op; go_big_quiet_on)); refine wpQuiet_nil ?_)
  refine plan_us (by rfl) (by kernel_rfl) ?_
  intro K hK
  go_wp2_with fail
  refine Calls.mono (rone_any _ a3 l3' c3' _ 8 m (by omega) hm (by have := HI3.out.1; simp only [List.length_append, List.length_nil] at this; omega) (hl3) HI3.out) ?_
  rintro e W2 ⟨a4, l4', c4', rfl, hl4, hi4, hb⟩
  replace hS := bl_next hS hS.size hb; clear hb
  have HI4 := Lib.hid hi4; clear hi4
  go_wp2_with fail
  refine ⟨hS, ?_⟩
  repeat (refine plan_t (by rfl) ?_; (first | go_big_quiet_skip | (go_big_quiet_want; go_big_quiet_op; go_big_quiet_on)); refine wpQuiet_nil ?_)
  clear c0 c1 c2 c3 hne
  have HS2 := Lib.hid (bl_next HBW.out HBW.out.size hS)
  have HRW := Lib.hid (bl_row hS (lt_of_block HROW.out) HROW.out)
  have hl96 : l4' ≤ 96 := by have := HI4.out.1; simp only [List.length_append, List.length_nil] at this; omega
  clear hS
  show Exit.then _ _ _ _ _
  go_upto_region 2 with fail
  refine wp_plan (.t 0 (.t 2 (.t 3 (.u 1 (.u 4 (.t 5 .done)))))) (fun y => Below W2.heap.size W2 y) (by kernel_rfl) (by kernel_rfl) (by kernel_rfl) (fun c a d v w h => by cases d <;> exact h) (Below.refl _ _).drew ?_
  have hS : Below W2.heap.size W2 W2.drew := (Below.refl _ _).drew
  generalize W2.drew = W3 at hS ⊢
  haveI hne : Nonempty (In fun y => Below W2.heap.size W2 y) := ⟨⟨W2, Below.refl _ _⟩⟩
  repeat (refine plan_t (by rfl) ?_; (first | go_big_quiet_skip | (go_big_quiet_want; go_big_quiet_op; go_big_quiet_on)); refine wpQuiet_nil ?_)
  refine plan_us (by rfl) (by kernel_rfl) ?_
  intro K hK
  go_wp2_with fail
  refine Calls.mono (rput_any _ a4 l4' c4' _ 0 (by omega) (by omega) (HI4.out.below hS)) ?_
  rintro e W4 ⟨v, rfl, hb, ho⟩
  have hwf : ∀ x ∈ [] ++ oneM 1 i ++ oneM 4 d ++ oneM 5 s ++ oneM 8 m ++ putM 0, (Lit.int .u8 x).wf = true := by
    intro x hx
    rcases List.mem_append.1 hx with h | h
    · exact HI4.out.2.1 x h
    · exact putM_wf 0 (by omega) x h
  obtain ⟨a5, c5, rfl, _, hi5, _⟩ := ints_of_own ho hwf
  replace hS := bl_next hS hS.size hb; clear hb
  have HI5 := Lib.hid hi5; clear hi5 ho
  go_wp2_with fail
  refine ⟨hS, ?_⟩
  repeat (refine plan_t (by rfl) ?_; (first | go_big_quiet_skip | (go_big_quiet_want; go_big_quiet_op; go_big_quiet_on)); refine wpQuiet_nil ?_)
  have hs0 : sizeM 0 = 1 := by decide
  have hi8 := ints_tail (v0 := .int .u64 i) (v1 := .int .u64 d) (v2 := .int .u64 s) (v3 := .int .u64 m) (ys := [y0, y1, y2, y3, y4, y5, y6, y7]) (bl_row hS (lt_of_block HRW.out) HRW.out) HW.out
  have HI8 := Lib.hid hi8; clear hi8
  refine plan_us (by rfl) (by kernel_rfl) ?_
  intro K hK
  go_wp2_with fail
  refine Calls.mono (rwtext_any _ a5 _ c5 _ _ 8 8 _ (by omega) HI5.out HI8.out) ?_
  rintro e W5 ⟨v, rfl, hb, ho⟩
  have hsw := hS.size
  replace hS := bl_next hS hS.size hb; clear hb
  rw [← List.append_assoc, show ([] ++ oneM 1 i ++ oneM 4 d ++ oneM 5 s ++ oneM 8 m ++ putM 0 ++ putM ((8 : Nat) : Int) ++ [y0, y1, y2, y3, y4, y5, y6, y7]) = encP ⟨i, d, s, m, [y0, y1, y2, y3, y4, y5, y6, y7]⟩ by rw [HEN.out]; simp] at ho
  have HO := Lib.hid (ho.mono (Nat.le_trans HS2.out.size hsw)); clear ho
  go_wp2_with fail
  refine ⟨hS, ?_⟩
  repeat (refine plan_t (by rfl) ?_; (first | go_big_quiet_skip | (go_big_quiet_want; go_big_quiet_op; go_big_quiet_on)); refine wpQuiet_nil ?_)
  show Exit.then _ _ _ _ _
  go_wp2_with fail
  go_ret
  exact ⟨_, rfl, bl_next HS2.out HS2.out.size hS, HO.out⟩
end Go.Proofs.Ytlpajohhnngbmaa
