/- chapter 1's walks: what the statements share -/
import Derived.Test.YtdchcclcjoaogaaBitsR
import Derived.Test.YtdchcclcjoaogaaPutR
import Derived.Test.YtdchcclcjoaogaaGetR
import Derived.Test.YtdchcclcjoaogaaMix
import Derived.Test.YtdchcclcjoaogaaRegion
namespace Go.Proofs.Ytdchcclcjoaogaa
open Go.RowKit
set_option linter.unusedVariables false

theorem u64_bounds {n : Int} (h : (Lit.int .u64 n).wf = true) : 0 ≤ n ∧ n < 18446744073709551616 := by
  simp [Lit.wf, IntKind.min, IntKind.max, IntKind.signed, IntKind.bits] at h; omega
theorem i64_bounds1 {n : Int} (h : (Lit.int .i64 n).wf = true) : -9223372036854775808 ≤ n ∧ n ≤ 9223372036854775807 := by
  simp [Lit.wf, IntKind.min, IntKind.max, IntKind.signed, IntKind.bits] at h; omega
theorem w64_bounds (n : Int) : -9223372036854775808 ≤ wrap64 n ∧ wrap64 n ≤ 9223372036854775807 := by unfold wrap64; omega

set_option maxHeartbeats 1000000 in
theorem turns_any (w : World) (n k : Int) (hn : 0 ≤ n ∧ n < 18446744073709551616) : Makes Try.prog 17 #[.int .u64 n, .int .i64 k] w (.bool true) := by
  go_enter Try.func17, Try.ntmps17
  go_wp2_with fail
  refine Calls.mono (low_any _ n k hn) ?_
  rintro e w1 ⟨rfl, rfl⟩
  go_wp2_with fail
  refine Calls.mono (rlow_any _ n k hn) ?_
  rintro e w1 ⟨rfl, rfl⟩
  go_wp2_with fail
  refine Calls.mono (extend_any _ n k hn) ?_
  rintro e w1 ⟨rfl, rfl⟩
  go_wp2_with fail
  refine Calls.mono (rextend_any _ n k hn) ?_
  rintro e w1 ⟨rfl, rfl⟩
  go_wp2_with fail
  refine Calls.mono (rot_any _ n k) ?_
  rintro e w1 ⟨rfl, q1, rfl⟩
  go_wp2_with fail
  refine Calls.mono (rrot_any _ n k) ?_
  rintro e w1 ⟨rfl, q2, rfl⟩
  go_wp2_with fail
  have hb := w64_bounds n
  refine Calls.mono (zig_any _ (wrap64 n) hb) ?_
  rintro e w1 ⟨rfl, rfl⟩
  go_wp2_with fail
  refine Calls.mono (rzig_any _ (wrap64 n) hb) ?_
  rintro e w1 ⟨rfl, rfl⟩
  go_wp2_with fail
  refine Calls.mono (zag_any _ n hn) ?_
  rintro e w1 ⟨rfl, rfl⟩
  go_wp2_with fail
  refine Calls.mono (rzag_any _ n hn) ?_
  rintro e w1 ⟨rfl, rfl⟩
  go_wp2_with fail
  refine Calls.mono (clamp_any _ (wrap64 n) k hb) ?_
  rintro e w1 ⟨rfl, rfl⟩
  go_wp2_with fail
  refine Calls.mono (rclamp_any _ (wrap64 n) k hb) ?_
  rintro e w1 ⟨rfl, rfl⟩
  go_wp2_with fail
  go_ret
  exact ⟨rfl, bl_drewN (Below.refl _ _) _⟩

theorem gets_any (w : World) (a : Option Addr) (len cap : Nat) (bs : List Int) (hlen : len ≤ 140737488355328) (hcap : len ≤ cap) (hI : IntsK .u8 w a len bs) :
    Calls Try.prog 18 #[.slice a len cap] w fun e w' => e = .returned (.bool true) ∧ w' = w := by
  have HI := Lib.hid hI; clear hI
  go_enter Try.func18, Try.ntmps18
  go_wp2_with fail
  refine Calls.mono (get_any _ a len cap bs hlen hcap HI.out) ?_
  rintro e w1 ⟨rfl, rfl⟩
  go_wp2_with fail
  refine Calls.mono (rget_any _ a len cap bs hlen hcap HI.out) ?_
  rintro e w1 ⟨rfl, rfl⟩
  go_wp2_with fail
  go_ret
  exact ⟨rfl, rfl⟩

theorem known1_any (w : World) : Makes Try.prog 12 #[] w (.bool true) := by
  go_enter Try.func12, Try.ntmps12
  go_wp2_with fail
  refine Calls.mono (put_any _ none 0 0 [] 494878333 (by omega) (by omega) (IntsK.nil _ _ _)) ?_
  rintro e w1 ⟨v, rfl, h1, ho⟩
  have hp : putM 494878333 = [157, 127, 62, 125] := by decide
  have hz : sizeM 494878333 = 4 := by decide
  rw [hp, hz, List.nil_append, Nat.zero_add] at ho
  rw [hz]
  obtain ⟨a1, cap1, rfl, hc1, hi1, _⟩ := ints_of_own ho (by decide)
  have HI1 := Lib.hid hi1; have H1 := Lib.hid h1
  clear hp hz ho hi1 h1
  go_wp2_with fail
  refine Calls.mono (put_any _ none 0 0 [] 4611686018427387904 (by omega) (by omega) (IntsK.nil _ _ _)) ?_
  rintro e w2 ⟨v, rfl, h2, ho⟩
  clear ho
  rw [show sizeM 4611686018427387904 = 0 from by decide]
  have hconv : (convert 31 9 (.slice a1 4 cap1)).run Try.prog w2 = .ok (.string ⟨#[157, 127, 62, 125]⟩) w2 := by
    rw [conv_ints _ 5 _ _ Try.underlying31 Try.underlying5 Try.underlying9 (HI1.out.below h2)]; rfl
  have H2 := Lib.hid (bl_next H1.out H1.out.size h2); clear h2
  go_wp2_with fail
  refine Calls.mono (extend_any _ 255 8 (by omega)) ?_
  rintro e w3 ⟨rfl, rfl⟩
  rw [show extM 255 8 = -1 from by decide +kernel]
  go_wp2_with fail
  refine Calls.mono (clamp_any _ 300 8 (by omega)) ?_
  rintro e w3 ⟨rfl, rfl⟩
  rw [show clampM 300 8 = 127 from by decide +kernel]
  go_wp2_with fail
  go_ret
  exact ⟨rfl, H2.out⟩

set_option maxHeartbeats 1000000 in
theorem vars_any (w : World) (n : Int) (hn : 0 ≤ n ∧ n < 18446744073709551616) : Makes Try.prog 16 #[.int .u64 n] w (.bool true) := by
  have hI0 := IntsK.of_row (k := .u8) (zs := [1, 2]) (heap_alloc_new w (.cells #[.int .u8 1, .int .u8 2] 5)) (by decide)
  have HI0 : Hid (IntsK .u8 (w.alloc (.cells #[.int .u8 1, .int .u8 2] 5)) (some ⟨w.heap.size, 0, none⟩) 2 [1, 2]) := Lib.hid hI0
  have HB0 := Lib.hid ((Below.refl w.heap.size w).alloc (Nat.le_refl _) (.cells #[.int .u8 1, .int .u8 2] 5))
  clear hI0
  go_enter Try.func16, Try.ntmps16
  go_upto_region 2 with fail
  generalize w.alloc (.cells #[.int .u8 1, .int .u8 2] 5) = W at HI0 HB0 ⊢
  obtain ⟨w0, hw0⟩ : ∃ w0, w.heap.size = w0 := ⟨_, rfl⟩
  rw [hw0] at HI0 ⊢
  go_wp2_with fail
  refine Calls.mono (put_any _ _ 2 2 [1, 2] n hn (by omega) HI0.out) ?_
  rintro e w1 ⟨v, rfl, h1, ho⟩
  have hwf : ∀ x ∈ [1, 2] ++ putM n, (Lit.int .u8 x).wf = true := by
    intro x hx
    rcases List.mem_append.1 hx with h | h
    · exact (show ∀ x ∈ [1, 2], (Lit.int .u8 x).wf = true from by decide) x h
    · exact putM_wf n hn.1 x h
  obtain ⟨a1, cap1, rfl, hc1, hi1, _⟩ := ints_of_own ho hwf
  have HI1 := Lib.hid hi1; have H1 := Lib.hid h1
  clear hi1 h1 ho
  have HSZ := Lib.hid (fun w => size_any w n)
  have HRSZ := Lib.hid (fun w => rsize_any w n)
  have hsz := sizeM_cases n
  by_cases hm : n ≤ 4611686018427387903
  · rw [show decide (sizeM n ≠ 0) = true from by simp; omega]
    have hs8 : sizeM n ≤ 8 := by omega
    have HPUT : Hid (∀ w : World, IntsK .u8 w (some ⟨w0, 0, none⟩) 2 [1, 2] → _) := Lib.hid (fun w' hi => rput_any w' (some ⟨w0, 0, none⟩) 2 2 [1, 2] n ⟨hn.1, hm⟩ (by omega) hi)
    obtain ⟨s, es⟩ : ∃ s, sizeM n = s := ⟨_, rfl⟩
    rw [es] at HSZ HRSZ HI1 hc1 hs8 HPUT ⊢
    clear es hsz
    obtain ⟨l, hl⟩ : ∃ l, [1, 2] ++ putM n = l := ⟨_, rfl⟩
    rw [hl] at HI1 HPUT hwf
    clear hl
    have HWF := Lib.hid hwf; clear hwf
    go_wp2_with fail
    refine Calls.mono (HSZ.out _) ?_
    rintro e w2 ⟨rfl, rfl⟩
    go_wp2_with fail
    refine Calls.mono (HRSZ.out _) ?_
    rintro e w2 ⟨rfl, rfl⟩
    go_wp2_with fail
    have hconv : ∀ t : In (fun w' => Below w2.heap.size w2 w'), (convert 31 9 (.slice a1 (2 + s) cap1)).run Try.prog t.w = .ok (.string (strOfNums l)) t.w := fun t =>
      conv_ints _ 5 _ _ Try.underlying31 Try.underlying5 Try.underlying9 (HI1.out.below t.h)
    refine wp_plan (.t 0 (.t 1 (.t 2 (.t 3 (.u 4 (.u 5 (.t 6 (.t 7 .done)))))))) (fun w' => Below w2.heap.size w2 w') (by kernel_rfl) (by kernel_rfl) (by kernel_rfl) (fun c a d v w h => by cases d <;> exact h) (Below.refl _ _).drew ?_
    have hS : Below w2.heap.size w2 w2.drew := (Below.refl _ _).drew
    generalize w2.drew = W1 at hS ⊢
    haveI hne : Nonempty (In fun w' => Below w2.heap.size w2 w') := ⟨⟨w2, Below.refl _ _⟩⟩
    repeat (refine plan_t (by rfl) ?_; (first | go_big_quiet_skip | (go_big_quiet_want; go_big_quiet_op; go_big_quiet_on)); refine wpQuiet_nil ?_)
    refine plan_us (by rfl) (by kernel_rfl) ?_
    intro K hK
    go_wp2_with fail
    refine Calls.mono (HPUT.out _ ((HI0.out.below H1.out).below hS)) ?_
    rintro e W2 ⟨v, rfl, hb, ho⟩
    replace hS := bl_next hS hS.size hb; clear hb
    obtain ⟨a2, cap2, rfl, hc2, hi2, _⟩ := ints_of_own ho HWF.out
    have HI2 := Lib.hid hi2; clear hi2 ho
    go_wp2_with fail
    refine ⟨hS, ?_⟩
    refine plan_us (by rfl) (by kernel_rfl) ?_
    intro K2 hK2
    have hconv2 : (convert 31 9 (.slice a2 (2 + s) cap2)).run Try.prog W2 = .ok (.string (strOfNums l)) W2 :=
      conv_ints _ 5 _ _ Try.underlying31 Try.underlying5 Try.underlying9 HI2.out
    go_wp2_with fail
    refine ⟨hS, ?_⟩
    clear hconv2
    repeat (refine plan_t (by rfl) ?_; (first | go_big_quiet_skip | (go_big_quiet_want; go_big_quiet_op; go_big_quiet_on)); refine wpQuiet_nil ?_)
    show Exit.then _ _ _ _ _
    go_wp2_with fail
    go_ret
    exact ⟨rfl, HB0.out.trans ((bl_next H1.out H1.out.size hS).mono HB0.out.size)⟩
  · rw [show decide (sizeM n ≠ 0) = false from by simp; omega]
    have es : sizeM n = 0 := by omega
    have el : putM n = [] := List.eq_nil_of_length_eq_zero ((putM_len n).trans es)
    rw [es] at HSZ HRSZ HI1 hc1 ⊢
    rw [el] at HI1
    clear es el hsz hwf
    go_wp2_with fail
    refine Calls.mono (HSZ.out _) ?_
    rintro e w2 ⟨rfl, rfl⟩
    go_wp2_with fail
    refine Calls.mono (HRSZ.out _) ?_
    rintro e w2 ⟨rfl, rfl⟩
    have hconv : (convert 31 9 (.slice a1 2 cap1)).run Try.prog w2 = .ok (.string ⟨#[1, 2]⟩) w2 := by
      rw [conv_ints _ 5 _ _ Try.underlying31 Try.underlying5 Try.underlying9 HI1.out]; rfl
    have hconv2 : (convert 31 9 (.slice (some ⟨w0, 0, none⟩) 2 2)).run Try.prog w2 = .ok (.string ⟨#[1, 2]⟩) w2 := by
      rw [conv_ints _ 5 _ _ Try.underlying31 Try.underlying5 Try.underlying9 (HI0.out.below H1.out)]; rfl
    go_wp2_with fail
    go_ret
    exact ⟨rfl, HB0.out.trans (H1.out.mono HB0.out.size)⟩
end Go.Proofs.Ytdchcclcjoaogaa
