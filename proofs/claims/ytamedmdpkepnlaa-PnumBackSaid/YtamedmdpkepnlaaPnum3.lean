/- contracts of pnum's widths, of its reference. -/
import Derived.Test.YtamedmdpkepnlaaPnum2
namespace Go.Proofs.Ytamedmdpkepnlaa
open Go.RowKit
set_option linter.unusedVariables false

set_option maxHeartbeats 4000000 in
theorem rwhole_any (w : World) (largest low k : Int) (has : Bool) (hl : 0 ≤ largest ∧ largest < 18446744073709551616) (hlow : 0 ≤ low ∧ low < 4294967296) :
    Makes Try.prog 16 #[.int .u64 largest, .bool has, .int .u32 low, .int .i64 k] w (.int .u64 (wholeM (nxM largest has) low (powW (wM k)))) := by
  have HCUT : Hid (∀ w k, Calls Try.prog 15 #[.int .u64 low, .int .i64 k] w fun e w' => e = .returned (.int .u32 (cutM low (wM k))) ∧ w' = w) := Lib.hid (fun w k => rcut_any w low k ⟨by omega, by omega⟩)
  obtain ⟨nx, hx⟩ : ∃ nx, nxM largest has = nx := ⟨_, rfl⟩
  rw [hx]
  have HX := Lib.hid hx; clear hx
  have hm := wM_ways k
  obtain ⟨m, hm2⟩ : ∃ m, wM k = m := ⟨_, rfl⟩
  rw [hm2] at hm ⊢
  clear hm2
  go_enter Try.func16, Try.ntmps16
  cases has
  · obtain rfl : nx = 0 := by rw [← HX.out]; rfl
    clear HX
    all_goals skip
    rcases hm with ⟨hk, rfl⟩ | ⟨rfl, rfl⟩ | ⟨rfl, rfl⟩ | ⟨rfl, rfl⟩ | ⟨rfl, rfl⟩ | ⟨hk, rfl⟩
    · have HCUT2 := Lib.hid (fun w => HCUT.out w 1)
      clear HCUT
      have HCUT : Hid (∀ w, Calls Try.prog 15 #[.int .u64 low, .int .i64 1] w fun e w' => e = .returned (.int .u32 (cutM low 1)) ∧ w' = w) := Lib.hid (fun w => HCUT2.out w); clear HCUT2
      go_wp2_with fail
      refine wp_plan (.t 0 (.t 1 (.t 2 (.t 3 (.t 4 (.t 5 (.t 6 (.t 7 (.u 8 (.t 9 (.t 10 (.t 11 .done))))))))))))
        (fun w2 => Below w.heap.size w w2) (by kernel_rfl) (by kernel_rfl) (by kernel_rfl) (fun c a d v w h => by cases d <;> exact h) (Below.refl _ _).drew ?_
      have hS : Below w.heap.size w w.drew := (Below.refl _ _).drew
      generalize w.drew = W1 at hS ⊢
      haveI hne : Nonempty (In fun w2 => Below w.heap.size w w2) := ⟨⟨w, Below.refl _ _⟩⟩
      repeat (refine plan_t (by rfl) ?_; (first | go_big_quiet_skip | (go_big_quiet_want; go_big_quiet_op; go_big_quiet_on)); refine wpQuiet_nil ?_)
      refine plan_us (by rfl) (by kernel_rfl) ?_
      intro K hK
      go_wp2_with fail
      refine Calls.mono (HCUT.out _) ?_
      rintro e W2 ⟨rfl, rfl⟩
      rw [show cutM low 1 = low % 256 from rfl]
      go_wp2_with fail
      refine ⟨hS, ?_⟩
      repeat (refine plan_t (by rfl) ?_; (first | go_big_quiet_skip | (go_big_quiet_want; go_big_quiet_op; go_big_quiet_on)); refine wpQuiet_nil ?_)
      show Exit.then _ _ _ _ _
      have E : Hid (wholeM 0 low (powW 1) = wfin 0 (low % 256) 256) := Lib.hid (by show wfin 0 (0 / 256 * 256 + low % 256) 256 = _; rw [show (0 : Int) / 256 * 256 + low % 256 = low % 256 by omega])
      obtain ⟨c, hc⟩ : ∃ c, low % 256 = c := ⟨_, rfl⟩
      have hc1 : 0 ≤ c ∧ c ≤ 0 + 256 := by omega
      rw [hc] at E
      rw [hc]
      by_cases h1 : c + 128 ≤ 0
      · by_cases h2 : c < 4611686018427387904 - 256
        · have F : Hid (wholeM 0 low (powW 1) = c + 256) := Lib.hid (E.out.trans (wfin1 ⟨h1, h2⟩))
          clear E
          go_wp2_with fail
          all_goals (go_ret; exact ⟨by rw [F.out]; rfl, hS⟩)
        · have F : Hid (wholeM 0 low (powW 1) = c) := Lib.hid (E.out.trans (wfin3 (fun h => h2 h.2) (fun h => by have := h.1; omega)))
          clear E
          go_wp2_with fail
          all_goals (go_ret; exact ⟨by rw [F.out]; rfl, hS⟩)
      · by_cases h3 : 0 + 128 < c
        · by_cases h4 : 256 ≤ c
          · have F : Hid (wholeM 0 low (powW 1) = c - 256) := Lib.hid (E.out.trans (wfin2 (fun h => h1 h.1) ⟨h3, h4⟩))
            clear E
            go_wp2_with fail
            all_goals (go_ret; exact ⟨by rw [F.out]; rfl, hS⟩)
          · have F : Hid (wholeM 0 low (powW 1) = c) := Lib.hid (E.out.trans (wfin3 (fun h => h1 h.1) (fun h => h4 h.2)))
            clear E
            go_wp2_with fail
            all_goals (go_ret; exact ⟨by rw [F.out]; rfl, hS⟩)
        · have F : Hid (wholeM 0 low (powW 1) = c) := Lib.hid (E.out.trans (wfin3 (fun h => h1 h.1) (fun h => h3 h.1)))
          clear E
          go_wp2_with fail
          all_goals (go_ret; exact ⟨by rw [F.out]; rfl, hS⟩)
    · have HCUT2 := Lib.hid (fun w => HCUT.out w 1)
      clear HCUT
      have HCUT : Hid (∀ w, Calls Try.prog 15 #[.int .u64 low, .int .i64 1] w fun e w' => e = .returned (.int .u32 (cutM low 1)) ∧ w' = w) := Lib.hid (fun w => HCUT2.out w); clear HCUT2
      go_wp2_with fail
      refine wp_plan (.t 0 (.t 1 (.t 2 (.t 3 (.t 4 (.t 5 (.t 6 (.t 7 (.u 8 (.t 9 (.t 10 (.t 11 .done))))))))))))
        (fun w2 => Below w.heap.size w w2) (by kernel_rfl) (by kernel_rfl) (by kernel_rfl) (fun c a d v w h => by cases d <;> exact h) (Below.refl _ _).drew ?_
      have hS : Below w.heap.size w w.drew := (Below.refl _ _).drew
      generalize w.drew = W1 at hS ⊢
      haveI hne : Nonempty (In fun w2 => Below w.heap.size w w2) := ⟨⟨w, Below.refl _ _⟩⟩
      repeat (refine plan_t (by rfl) ?_; (first | go_big_quiet_skip | (go_big_quiet_want; go_big_quiet_op; go_big_quiet_on)); refine wpQuiet_nil ?_)
      refine plan_us (by rfl) (by kernel_rfl) ?_
      intro K hK
      go_wp2_with fail
      refine Calls.mono (HCUT.out _) ?_
      rintro e W2 ⟨rfl, rfl⟩
      rw [show cutM low 1 = low % 256 from rfl]
      go_wp2_with fail
      refine ⟨hS, ?_⟩
      repeat (refine plan_t (by rfl) ?_; (first | go_big_quiet_skip | (go_big_quiet_want; go_big_quiet_op; go_big_quiet_on)); refine wpQuiet_nil ?_)
      show Exit.then _ _ _ _ _
      have E : Hid (wholeM 0 low (powW 1) = wfin 0 (low % 256) 256) := Lib.hid (by show wfin 0 (0 / 256 * 256 + low % 256) 256 = _; rw [show (0 : Int) / 256 * 256 + low % 256 = low % 256 by omega])
      obtain ⟨c, hc⟩ : ∃ c, low % 256 = c := ⟨_, rfl⟩
      have hc1 : 0 ≤ c ∧ c ≤ 0 + 256 := by omega
      rw [hc] at E
      rw [hc]
      by_cases h1 : c + 128 ≤ 0
      · by_cases h2 : c < 4611686018427387904 - 256
        · have F : Hid (wholeM 0 low (powW 1) = c + 256) := Lib.hid (E.out.trans (wfin1 ⟨h1, h2⟩))
          clear E
          go_wp2_with fail
          all_goals (go_ret; exact ⟨by rw [F.out]; rfl, hS⟩)
        · have F : Hid (wholeM 0 low (powW 1) = c) := Lib.hid (E.out.trans (wfin3 (fun h => h2 h.2) (fun h => by have := h.1; omega)))
          clear E
          go_wp2_with fail
          all_goals (go_ret; exact ⟨by rw [F.out]; rfl, hS⟩)
      · by_cases h3 : 0 + 128 < c
        · by_cases h4 : 256 ≤ c
          · have F : Hid (wholeM 0 low (powW 1) = c - 256) := Lib.hid (E.out.trans (wfin2 (fun h => h1 h.1) ⟨h3, h4⟩))
            clear E
            go_wp2_with fail
            all_goals (go_ret; exact ⟨by rw [F.out]; rfl, hS⟩)
          · have F : Hid (wholeM 0 low (powW 1) = c) := Lib.hid (E.out.trans (wfin3 (fun h => h1 h.1) (fun h => h4 h.2)))
            clear E
            go_wp2_with fail
            all_goals (go_ret; exact ⟨by rw [F.out]; rfl, hS⟩)
        · have F : Hid (wholeM 0 low (powW 1) = c) := Lib.hid (E.out.trans (wfin3 (fun h => h1 h.1) (fun h => h3 h.1)))
          clear E
          go_wp2_with fail
          all_goals (go_ret; exact ⟨by rw [F.out]; rfl, hS⟩)
    · have HCUT2 := Lib.hid (fun w => HCUT.out w 2)
      clear HCUT
      have HCUT : Hid (∀ w, Calls Try.prog 15 #[.int .u64 low, .int .i64 2] w fun e w' => e = .returned (.int .u32 (cutM low 2)) ∧ w' = w) := Lib.hid (fun w => HCUT2.out w); clear HCUT2
      go_wp2_with fail
      refine wp_plan (.t 0 (.t 1 (.t 2 (.t 3 (.t 4 (.t 5 (.t 6 (.t 7 (.u 8 (.t 9 (.t 10 (.t 11 .done))))))))))))
        (fun w2 => Below w.heap.size w w2) (by kernel_rfl) (by kernel_rfl) (by kernel_rfl) (fun c a d v w h => by cases d <;> exact h) (Below.refl _ _).drew ?_
      have hS : Below w.heap.size w w.drew := (Below.refl _ _).drew
      generalize w.drew = W1 at hS ⊢
      haveI hne : Nonempty (In fun w2 => Below w.heap.size w w2) := ⟨⟨w, Below.refl _ _⟩⟩
      repeat (refine plan_t (by rfl) ?_; (first | go_big_quiet_skip | (go_big_quiet_want; go_big_quiet_op; go_big_quiet_on)); refine wpQuiet_nil ?_)
      refine plan_us (by rfl) (by kernel_rfl) ?_
      intro K hK
      go_wp2_with fail
      refine Calls.mono (HCUT.out _) ?_
      rintro e W2 ⟨rfl, rfl⟩
      rw [show cutM low 2 = low % 65536 from rfl]
      go_wp2_with fail
      refine ⟨hS, ?_⟩
      repeat (refine plan_t (by rfl) ?_; (first | go_big_quiet_skip | (go_big_quiet_want; go_big_quiet_op; go_big_quiet_on)); refine wpQuiet_nil ?_)
      show Exit.then _ _ _ _ _
      have E : Hid (wholeM 0 low (powW 2) = wfin 0 (low % 65536) 65536) := Lib.hid (by show wfin 0 (0 / 65536 * 65536 + low % 65536) 65536 = _; rw [show (0 : Int) / 65536 * 65536 + low % 65536 = low % 65536 by omega])
      obtain ⟨c, hc⟩ : ∃ c, low % 65536 = c := ⟨_, rfl⟩
      have hc1 : 0 ≤ c ∧ c ≤ 0 + 65536 := by omega
      rw [hc] at E
      rw [hc]
      by_cases h1 : c + 32768 ≤ 0
      · by_cases h2 : c < 4611686018427387904 - 65536
        · have F : Hid (wholeM 0 low (powW 2) = c + 65536) := Lib.hid (E.out.trans (wfin1 ⟨h1, h2⟩))
          clear E
          go_wp2_with fail
          all_goals (go_ret; exact ⟨by rw [F.out]; rfl, hS⟩)
        · have F : Hid (wholeM 0 low (powW 2) = c) := Lib.hid (E.out.trans (wfin3 (fun h => h2 h.2) (fun h => by have := h.1; omega)))
          clear E
          go_wp2_with fail
          all_goals (go_ret; exact ⟨by rw [F.out]; rfl, hS⟩)
      · by_cases h3 : 0 + 32768 < c
        · by_cases h4 : 65536 ≤ c
          · have F : Hid (wholeM 0 low (powW 2) = c - 65536) := Lib.hid (E.out.trans (wfin2 (fun h => h1 h.1) ⟨h3, h4⟩))
            clear E
            go_wp2_with fail
            all_goals (go_ret; exact ⟨by rw [F.out]; rfl, hS⟩)
          · have F : Hid (wholeM 0 low (powW 2) = c) := Lib.hid (E.out.trans (wfin3 (fun h => h1 h.1) (fun h => h4 h.2)))
            clear E
            go_wp2_with fail
            all_goals (go_ret; exact ⟨by rw [F.out]; rfl, hS⟩)
        · have F : Hid (wholeM 0 low (powW 2) = c) := Lib.hid (E.out.trans (wfin3 (fun h => h1 h.1) (fun h => h3 h.1)))
          clear E
          go_wp2_with fail
          all_goals (go_ret; exact ⟨by rw [F.out]; rfl, hS⟩)
    · have HCUT2 := Lib.hid (fun w => HCUT.out w 3)
      clear HCUT
      have HCUT : Hid (∀ w, Calls Try.prog 15 #[.int .u64 low, .int .i64 3] w fun e w' => e = .returned (.int .u32 (cutM low 3)) ∧ w' = w) := Lib.hid (fun w => HCUT2.out w); clear HCUT2
      go_wp2_with fail
      refine wp_plan (.t 0 (.t 1 (.t 2 (.t 3 (.t 4 (.t 5 (.t 6 (.t 7 (.u 8 (.t 9 (.t 10 (.t 11 .done))))))))))))
        (fun w2 => Below w.heap.size w w2) (by kernel_rfl) (by kernel_rfl) (by kernel_rfl) (fun c a d v w h => by cases d <;> exact h) (Below.refl _ _).drew ?_
      have hS : Below w.heap.size w w.drew := (Below.refl _ _).drew
      generalize w.drew = W1 at hS ⊢
      haveI hne : Nonempty (In fun w2 => Below w.heap.size w w2) := ⟨⟨w, Below.refl _ _⟩⟩
      repeat (refine plan_t (by rfl) ?_; (first | go_big_quiet_skip | (go_big_quiet_want; go_big_quiet_op; go_big_quiet_on)); refine wpQuiet_nil ?_)
      refine plan_us (by rfl) (by kernel_rfl) ?_
      intro K hK
      go_wp2_with fail
      refine Calls.mono (HCUT.out _) ?_
      rintro e W2 ⟨rfl, rfl⟩
      rw [show cutM low 3 = low % 16777216 from rfl]
      go_wp2_with fail
      refine ⟨hS, ?_⟩
      repeat (refine plan_t (by rfl) ?_; (first | go_big_quiet_skip | (go_big_quiet_want; go_big_quiet_op; go_big_quiet_on)); refine wpQuiet_nil ?_)
      show Exit.then _ _ _ _ _
      have E : Hid (wholeM 0 low (powW 3) = wfin 0 (low % 16777216) 16777216) := Lib.hid (by show wfin 0 (0 / 16777216 * 16777216 + low % 16777216) 16777216 = _; rw [show (0 : Int) / 16777216 * 16777216 + low % 16777216 = low % 16777216 by omega])
      obtain ⟨c, hc⟩ : ∃ c, low % 16777216 = c := ⟨_, rfl⟩
      have hc1 : 0 ≤ c ∧ c ≤ 0 + 16777216 := by omega
      rw [hc] at E
      rw [hc]
      by_cases h1 : c + 8388608 ≤ 0
      · by_cases h2 : c < 4611686018427387904 - 16777216
        · have F : Hid (wholeM 0 low (powW 3) = c + 16777216) := Lib.hid (E.out.trans (wfin1 ⟨h1, h2⟩))
          clear E
          go_wp2_with fail
          all_goals (go_ret; exact ⟨by rw [F.out]; rfl, hS⟩)
        · have F : Hid (wholeM 0 low (powW 3) = c) := Lib.hid (E.out.trans (wfin3 (fun h => h2 h.2) (fun h => by have := h.1; omega)))
          clear E
          go_wp2_with fail
          all_goals (go_ret; exact ⟨by rw [F.out]; rfl, hS⟩)
      · by_cases h3 : 0 + 8388608 < c
        · by_cases h4 : 16777216 ≤ c
          · have F : Hid (wholeM 0 low (powW 3) = c - 16777216) := Lib.hid (E.out.trans (wfin2 (fun h => h1 h.1) ⟨h3, h4⟩))
            clear E
            go_wp2_with fail
            all_goals (go_ret; exact ⟨by rw [F.out]; rfl, hS⟩)
          · have F : Hid (wholeM 0 low (powW 3) = c) := Lib.hid (E.out.trans (wfin3 (fun h => h1 h.1) (fun h => h4 h.2)))
            clear E
            go_wp2_with fail
            all_goals (go_ret; exact ⟨by rw [F.out]; rfl, hS⟩)
        · have F : Hid (wholeM 0 low (powW 3) = c) := Lib.hid (E.out.trans (wfin3 (fun h => h1 h.1) (fun h => h3 h.1)))
          clear E
          go_wp2_with fail
          all_goals (go_ret; exact ⟨by rw [F.out]; rfl, hS⟩)
    · have HCUT2 := Lib.hid (fun w => HCUT.out w 4)
      clear HCUT
      have HCUT : Hid (∀ w, Calls Try.prog 15 #[.int .u64 low, .int .i64 4] w fun e w' => e = .returned (.int .u32 (cutM low 4)) ∧ w' = w) := Lib.hid (fun w => HCUT2.out w); clear HCUT2
      go_wp2_with fail
      refine wp_plan (.t 0 (.t 1 (.t 2 (.t 3 (.t 4 (.t 5 (.t 6 (.t 7 (.u 8 (.t 9 (.t 10 (.t 11 .done))))))))))))
        (fun w2 => Below w.heap.size w w2) (by kernel_rfl) (by kernel_rfl) (by kernel_rfl) (fun c a d v w h => by cases d <;> exact h) (Below.refl _ _).drew ?_
      have hS : Below w.heap.size w w.drew := (Below.refl _ _).drew
      generalize w.drew = W1 at hS ⊢
      haveI hne : Nonempty (In fun w2 => Below w.heap.size w w2) := ⟨⟨w, Below.refl _ _⟩⟩
      repeat (refine plan_t (by rfl) ?_; (first | go_big_quiet_skip | (go_big_quiet_want; go_big_quiet_op; go_big_quiet_on)); refine wpQuiet_nil ?_)
      refine plan_us (by rfl) (by kernel_rfl) ?_
      intro K hK
      go_wp2_with fail
      refine Calls.mono (HCUT.out _) ?_
      rintro e W2 ⟨rfl, rfl⟩
      rw [show cutM low 4 = low % 4294967296 from rfl]
      go_wp2_with fail
      refine ⟨hS, ?_⟩
      repeat (refine plan_t (by rfl) ?_; (first | go_big_quiet_skip | (go_big_quiet_want; go_big_quiet_op; go_big_quiet_on)); refine wpQuiet_nil ?_)
      show Exit.then _ _ _ _ _
      have E : Hid (wholeM 0 low (powW 4) = wfin 0 (low % 4294967296) 4294967296) := Lib.hid (by show wfin 0 (0 / 4294967296 * 4294967296 + low % 4294967296) 4294967296 = _; rw [show (0 : Int) / 4294967296 * 4294967296 + low % 4294967296 = low % 4294967296 by omega])
      obtain ⟨c, hc⟩ : ∃ c, low % 4294967296 = c := ⟨_, rfl⟩
      have hc1 : 0 ≤ c ∧ c ≤ 0 + 4294967296 := by omega
      rw [hc] at E
      rw [hc]
      by_cases h1 : c + 2147483648 ≤ 0
      · by_cases h2 : c < 4611686018427387904 - 4294967296
        · have F : Hid (wholeM 0 low (powW 4) = c + 4294967296) := Lib.hid (E.out.trans (wfin1 ⟨h1, h2⟩))
          clear E
          go_wp2_with fail
          all_goals (go_ret; exact ⟨by rw [F.out]; rfl, hS⟩)
        · have F : Hid (wholeM 0 low (powW 4) = c) := Lib.hid (E.out.trans (wfin3 (fun h => h2 h.2) (fun h => by have := h.1; omega)))
          clear E
          go_wp2_with fail
          all_goals (go_ret; exact ⟨by rw [F.out]; rfl, hS⟩)
      · by_cases h3 : 0 + 2147483648 < c
        · by_cases h4 : 4294967296 ≤ c
          · have F : Hid (wholeM 0 low (powW 4) = c - 4294967296) := Lib.hid (E.out.trans (wfin2 (fun h => h1 h.1) ⟨h3, h4⟩))
            clear E
            go_wp2_with fail
            all_goals (go_ret; exact ⟨by rw [F.out]; rfl, hS⟩)
          · have F : Hid (wholeM 0 low (powW 4) = c) := Lib.hid (E.out.trans (wfin3 (fun h => h1 h.1) (fun h => h4 h.2)))
            clear E
            go_wp2_with fail
            all_goals (go_ret; exact ⟨by rw [F.out]; rfl, hS⟩)
        · have F : Hid (wholeM 0 low (powW 4) = c) := Lib.hid (E.out.trans (wfin3 (fun h => h1 h.1) (fun h => h3 h.1)))
          clear E
          go_wp2_with fail
          all_goals (go_ret; exact ⟨by rw [F.out]; rfl, hS⟩)
    · have HCUT2 := Lib.hid (fun w => HCUT.out w 4)
      clear HCUT
      have HCUT : Hid (∀ w, Calls Try.prog 15 #[.int .u64 low, .int .i64 4] w fun e w' => e = .returned (.int .u32 (cutM low 4)) ∧ w' = w) := Lib.hid (fun w => HCUT2.out w); clear HCUT2
      go_wp2_with fail
      refine wp_plan (.t 0 (.t 1 (.t 2 (.t 3 (.t 4 (.t 5 (.t 6 (.t 7 (.u 8 (.t 9 (.t 10 (.t 11 .done))))))))))))
        (fun w2 => Below w.heap.size w w2) (by kernel_rfl) (by kernel_rfl) (by kernel_rfl) (fun c a d v w h => by cases d <;> exact h) (Below.refl _ _).drew ?_
      have hS : Below w.heap.size w w.drew := (Below.refl _ _).drew
      generalize w.drew = W1 at hS ⊢
      haveI hne : Nonempty (In fun w2 => Below w.heap.size w w2) := ⟨⟨w, Below.refl _ _⟩⟩
      repeat (refine plan_t (by rfl) ?_; (first | go_big_quiet_skip | (go_big_quiet_want; go_big_quiet_op; go_big_quiet_on)); refine wpQuiet_nil ?_)
      refine plan_us (by rfl) (by kernel_rfl) ?_
      intro K hK
      go_wp2_with fail
      refine Calls.mono (HCUT.out _) ?_
      rintro e W2 ⟨rfl, rfl⟩
      rw [show cutM low 4 = low % 4294967296 from rfl]
      go_wp2_with fail
      refine ⟨hS, ?_⟩
      repeat (refine plan_t (by rfl) ?_; (first | go_big_quiet_skip | (go_big_quiet_want; go_big_quiet_op; go_big_quiet_on)); refine wpQuiet_nil ?_)
      show Exit.then _ _ _ _ _
      have E : Hid (wholeM 0 low (powW 4) = wfin 0 (low % 4294967296) 4294967296) := Lib.hid (by show wfin 0 (0 / 4294967296 * 4294967296 + low % 4294967296) 4294967296 = _; rw [show (0 : Int) / 4294967296 * 4294967296 + low % 4294967296 = low % 4294967296 by omega])
      obtain ⟨c, hc⟩ : ∃ c, low % 4294967296 = c := ⟨_, rfl⟩
      have hc1 : 0 ≤ c ∧ c ≤ 0 + 4294967296 := by omega
      rw [hc] at E
      rw [hc]
      by_cases h1 : c + 2147483648 ≤ 0
      · by_cases h2 : c < 4611686018427387904 - 4294967296
        · have F : Hid (wholeM 0 low (powW 4) = c + 4294967296) := Lib.hid (E.out.trans (wfin1 ⟨h1, h2⟩))
          clear E
          go_wp2_with fail
          all_goals (go_ret; exact ⟨by rw [F.out]; rfl, hS⟩)
        · have F : Hid (wholeM 0 low (powW 4) = c) := Lib.hid (E.out.trans (wfin3 (fun h => h2 h.2) (fun h => by have := h.1; omega)))
          clear E
          go_wp2_with fail
          all_goals (go_ret; exact ⟨by rw [F.out]; rfl, hS⟩)
      · by_cases h3 : 0 + 2147483648 < c
        · by_cases h4 : 4294967296 ≤ c
          · have F : Hid (wholeM 0 low (powW 4) = c - 4294967296) := Lib.hid (E.out.trans (wfin2 (fun h => h1 h.1) ⟨h3, h4⟩))
            clear E
            go_wp2_with fail
            all_goals (go_ret; exact ⟨by rw [F.out]; rfl, hS⟩)
          · have F : Hid (wholeM 0 low (powW 4) = c) := Lib.hid (E.out.trans (wfin3 (fun h => h1 h.1) (fun h => h4 h.2)))
            clear E
            go_wp2_with fail
            all_goals (go_ret; exact ⟨by rw [F.out]; rfl, hS⟩)
        · have F : Hid (wholeM 0 low (powW 4) = c) := Lib.hid (E.out.trans (wfin3 (fun h => h1 h.1) (fun h => h3 h.1)))
          clear E
          go_wp2_with fail
          all_goals (go_ret; exact ⟨by rw [F.out]; rfl, hS⟩)
  · by_cases hmax : largest ≤ 4611686018427387903
    · obtain rfl : nx = largest + 1 := by rw [← HX.out]; simp [nxM, hmax]
      clear HX
      rcases hm with ⟨hk, rfl⟩ | ⟨rfl, rfl⟩ | ⟨rfl, rfl⟩ | ⟨rfl, rfl⟩ | ⟨rfl, rfl⟩ | ⟨hk, rfl⟩
      · have HCUT2 := Lib.hid (fun w => HCUT.out w 1)
        clear HCUT
        have HCUT : Hid (∀ w, Calls Try.prog 15 #[.int .u64 low, .int .i64 1] w fun e w' => e = .returned (.int .u32 (cutM low 1)) ∧ w' = w) := Lib.hid (fun w => HCUT2.out w); clear HCUT2
        go_wp2_with fail
        refine wp_plan (.t 0 (.t 1 (.t 2 (.t 3 (.t 4 (.t 5 (.t 6 (.t 7 (.u 8 (.t 9 (.t 10 (.t 11 .done))))))))))))
          (fun w2 => Below w.heap.size w w2) (by kernel_rfl) (by kernel_rfl) (by kernel_rfl) (fun c a d v w h => by cases d <;> exact h) (Below.refl _ _).drew ?_
        have hS : Below w.heap.size w w.drew := (Below.refl _ _).drew
        generalize w.drew = W1 at hS ⊢
        haveI hne : Nonempty (In fun w2 => Below w.heap.size w w2) := ⟨⟨w, Below.refl _ _⟩⟩
        repeat (refine plan_t (by rfl) ?_; (first | go_big_quiet_skip | (go_big_quiet_want; go_big_quiet_op; go_big_quiet_on)); refine wpQuiet_nil ?_)
        refine plan_us (by rfl) (by kernel_rfl) ?_
        intro K hK
        go_wp2_with fail
        refine Calls.mono (HCUT.out _) ?_
        rintro e W2 ⟨rfl, rfl⟩
        rw [show cutM low 1 = low % 256 from rfl]
        go_wp2_with fail
        refine ⟨hS, ?_⟩
        repeat (refine plan_t (by rfl) ?_; (first | go_big_quiet_skip | (go_big_quiet_want; go_big_quiet_op; go_big_quiet_on)); refine wpQuiet_nil ?_)
        show Exit.then _ _ _ _ _
        have E : Hid (wholeM (largest + 1) low (powW 1) = wfin (largest + 1) ((largest + 1) / 256 * 256 + low % 256) 256) := Lib.hid (rfl)
        obtain ⟨c, hc⟩ : ∃ c, (largest + 1) / 256 * 256 + low % 256 = c := ⟨_, rfl⟩
        have hc1 : 0 ≤ c ∧ c ≤ (largest + 1) + 256 := by omega
        rw [hc] at E
        rw [hc]
        by_cases h1 : c + 128 ≤ (largest + 1)
        · by_cases h2 : c < 4611686018427387904 - 256
          · have F : Hid (wholeM (largest + 1) low (powW 1) = c + 256) := Lib.hid (E.out.trans (wfin1 ⟨h1, h2⟩))
            clear E
            go_wp2_with fail
            all_goals (go_ret; exact ⟨by rw [F.out]; rfl, hS⟩)
          · have F : Hid (wholeM (largest + 1) low (powW 1) = c) := Lib.hid (E.out.trans (wfin3 (fun h => h2 h.2) (fun h => by have := h.1; omega)))
            clear E
            go_wp2_with fail
            all_goals (go_ret; exact ⟨by rw [F.out]; rfl, hS⟩)
        · by_cases h3 : (largest + 1) + 128 < c
          · by_cases h4 : 256 ≤ c
            · have F : Hid (wholeM (largest + 1) low (powW 1) = c - 256) := Lib.hid (E.out.trans (wfin2 (fun h => h1 h.1) ⟨h3, h4⟩))
              clear E
              go_wp2_with fail
              all_goals (go_ret; exact ⟨by rw [F.out]; rfl, hS⟩)
            · have F : Hid (wholeM (largest + 1) low (powW 1) = c) := Lib.hid (E.out.trans (wfin3 (fun h => h1 h.1) (fun h => h4 h.2)))
              clear E
              go_wp2_with fail
              all_goals (go_ret; exact ⟨by rw [F.out]; rfl, hS⟩)
          · have F : Hid (wholeM (largest + 1) low (powW 1) = c) := Lib.hid (E.out.trans (wfin3 (fun h => h1 h.1) (fun h => h3 h.1)))
            clear E
            go_wp2_with fail
            all_goals (go_ret; exact ⟨by rw [F.out]; rfl, hS⟩)
      · have HCUT2 := Lib.hid (fun w => HCUT.out w 1)
        clear HCUT
        have HCUT : Hid (∀ w, Calls Try.prog 15 #[.int .u64 low, .int .i64 1] w fun e w' => e = .returned (.int .u32 (cutM low 1)) ∧ w' = w) := Lib.hid (fun w => HCUT2.out w); clear HCUT2
        go_wp2_with fail
        refine wp_plan (.t 0 (.t 1 (.t 2 (.t 3 (.t 4 (.t 5 (.t 6 (.t 7 (.u 8 (.t 9 (.t 10 (.t 11 .done))))))))))))
          (fun w2 => Below w.heap.size w w2) (by kernel_rfl) (by kernel_rfl) (by kernel_rfl) (fun c a d v w h => by cases d <;> exact h) (Below.refl _ _).drew ?_
        have hS : Below w.heap.size w w.drew := (Below.refl _ _).drew
        generalize w.drew = W1 at hS ⊢
        haveI hne : Nonempty (In fun w2 => Below w.heap.size w w2) := ⟨⟨w, Below.refl _ _⟩⟩
        repeat (refine plan_t (by rfl) ?_; (first | go_big_quiet_skip | (go_big_quiet_want; go_big_quiet_op; go_big_quiet_on)); refine wpQuiet_nil ?_)
        refine plan_us (by rfl) (by kernel_rfl) ?_
        intro K hK
        go_wp2_with fail
        refine Calls.mono (HCUT.out _) ?_
        rintro e W2 ⟨rfl, rfl⟩
        rw [show cutM low 1 = low % 256 from rfl]
        go_wp2_with fail
        refine ⟨hS, ?_⟩
        repeat (refine plan_t (by rfl) ?_; (first | go_big_quiet_skip | (go_big_quiet_want; go_big_quiet_op; go_big_quiet_on)); refine wpQuiet_nil ?_)
        show Exit.then _ _ _ _ _
        have E : Hid (wholeM (largest + 1) low (powW 1) = wfin (largest + 1) ((largest + 1) / 256 * 256 + low % 256) 256) := Lib.hid (rfl)
        obtain ⟨c, hc⟩ : ∃ c, (largest + 1) / 256 * 256 + low % 256 = c := ⟨_, rfl⟩
        have hc1 : 0 ≤ c ∧ c ≤ (largest + 1) + 256 := by omega
        rw [hc] at E
        rw [hc]
        by_cases h1 : c + 128 ≤ (largest + 1)
        · by_cases h2 : c < 4611686018427387904 - 256
          · have F : Hid (wholeM (largest + 1) low (powW 1) = c + 256) := Lib.hid (E.out.trans (wfin1 ⟨h1, h2⟩))
            clear E
            go_wp2_with fail
            all_goals (go_ret; exact ⟨by rw [F.out]; rfl, hS⟩)
          · have F : Hid (wholeM (largest + 1) low (powW 1) = c) := Lib.hid (E.out.trans (wfin3 (fun h => h2 h.2) (fun h => by have := h.1; omega)))
            clear E
            go_wp2_with fail
            all_goals (go_ret; exact ⟨by rw [F.out]; rfl, hS⟩)
        · by_cases h3 : (largest + 1) + 128 < c
          · by_cases h4 : 256 ≤ c
            · have F : Hid (wholeM (largest + 1) low (powW 1) = c - 256) := Lib.hid (E.out.trans (wfin2 (fun h => h1 h.1) ⟨h3, h4⟩))
              clear E
              go_wp2_with fail
              all_goals (go_ret; exact ⟨by rw [F.out]; rfl, hS⟩)
            · have F : Hid (wholeM (largest + 1) low (powW 1) = c) := Lib.hid (E.out.trans (wfin3 (fun h => h1 h.1) (fun h => h4 h.2)))
              clear E
              go_wp2_with fail
              all_goals (go_ret; exact ⟨by rw [F.out]; rfl, hS⟩)
          · have F : Hid (wholeM (largest + 1) low (powW 1) = c) := Lib.hid (E.out.trans (wfin3 (fun h => h1 h.1) (fun h => h3 h.1)))
            clear E
            go_wp2_with fail
            all_goals (go_ret; exact ⟨by rw [F.out]; rfl, hS⟩)
      · have HCUT2 := Lib.hid (fun w => HCUT.out w 2)
        clear HCUT
        have HCUT : Hid (∀ w, Calls Try.prog 15 #[.int .u64 low, .int .i64 2] w fun e w' => e = .returned (.int .u32 (cutM low 2)) ∧ w' = w) := Lib.hid (fun w => HCUT2.out w); clear HCUT2
        go_wp2_with fail
        refine wp_plan (.t 0 (.t 1 (.t 2 (.t 3 (.t 4 (.t 5 (.t 6 (.t 7 (.u 8 (.t 9 (.t 10 (.t 11 .done))))))))))))
          (fun w2 => Below w.heap.size w w2) (by kernel_rfl) (by kernel_rfl) (by kernel_rfl) (fun c a d v w h => by cases d <;> exact h) (Below.refl _ _).drew ?_
        have hS : Below w.heap.size w w.drew := (Below.refl _ _).drew
        generalize w.drew = W1 at hS ⊢
        haveI hne : Nonempty (In fun w2 => Below w.heap.size w w2) := ⟨⟨w, Below.refl _ _⟩⟩
        repeat (refine plan_t (by rfl) ?_; (first | go_big_quiet_skip | (go_big_quiet_want; go_big_quiet_op; go_big_quiet_on)); refine wpQuiet_nil ?_)
        refine plan_us (by rfl) (by kernel_rfl) ?_
        intro K hK
        go_wp2_with fail
        refine Calls.mono (HCUT.out _) ?_
        rintro e W2 ⟨rfl, rfl⟩
        rw [show cutM low 2 = low % 65536 from rfl]
        go_wp2_with fail
        refine ⟨hS, ?_⟩
        repeat (refine plan_t (by rfl) ?_; (first | go_big_quiet_skip | (go_big_quiet_want; go_big_quiet_op; go_big_quiet_on)); refine wpQuiet_nil ?_)
        show Exit.then _ _ _ _ _
        have E : Hid (wholeM (largest + 1) low (powW 2) = wfin (largest + 1) ((largest + 1) / 65536 * 65536 + low % 65536) 65536) := Lib.hid (rfl)
        obtain ⟨c, hc⟩ : ∃ c, (largest + 1) / 65536 * 65536 + low % 65536 = c := ⟨_, rfl⟩
        have hc1 : 0 ≤ c ∧ c ≤ (largest + 1) + 65536 := by omega
        rw [hc] at E
        rw [hc]
        by_cases h1 : c + 32768 ≤ (largest + 1)
        · by_cases h2 : c < 4611686018427387904 - 65536
          · have F : Hid (wholeM (largest + 1) low (powW 2) = c + 65536) := Lib.hid (E.out.trans (wfin1 ⟨h1, h2⟩))
            clear E
            go_wp2_with fail
            all_goals (go_ret; exact ⟨by rw [F.out]; rfl, hS⟩)
          · have F : Hid (wholeM (largest + 1) low (powW 2) = c) := Lib.hid (E.out.trans (wfin3 (fun h => h2 h.2) (fun h => by have := h.1; omega)))
            clear E
            go_wp2_with fail
            all_goals (go_ret; exact ⟨by rw [F.out]; rfl, hS⟩)
        · by_cases h3 : (largest + 1) + 32768 < c
          · by_cases h4 : 65536 ≤ c
            · have F : Hid (wholeM (largest + 1) low (powW 2) = c - 65536) := Lib.hid (E.out.trans (wfin2 (fun h => h1 h.1) ⟨h3, h4⟩))
              clear E
              go_wp2_with fail
              all_goals (go_ret; exact ⟨by rw [F.out]; rfl, hS⟩)
            · have F : Hid (wholeM (largest + 1) low (powW 2) = c) := Lib.hid (E.out.trans (wfin3 (fun h => h1 h.1) (fun h => h4 h.2)))
              clear E
              go_wp2_with fail
              all_goals (go_ret; exact ⟨by rw [F.out]; rfl, hS⟩)
          · have F : Hid (wholeM (largest + 1) low (powW 2) = c) := Lib.hid (E.out.trans (wfin3 (fun h => h1 h.1) (fun h => h3 h.1)))
            clear E
            go_wp2_with fail
            all_goals (go_ret; exact ⟨by rw [F.out]; rfl, hS⟩)
      · have HCUT2 := Lib.hid (fun w => HCUT.out w 3)
        clear HCUT
        have HCUT : Hid (∀ w, Calls Try.prog 15 #[.int .u64 low, .int .i64 3] w fun e w' => e = .returned (.int .u32 (cutM low 3)) ∧ w' = w) := Lib.hid (fun w => HCUT2.out w); clear HCUT2
        go_wp2_with fail
        refine wp_plan (.t 0 (.t 1 (.t 2 (.t 3 (.t 4 (.t 5 (.t 6 (.t 7 (.u 8 (.t 9 (.t 10 (.t 11 .done))))))))))))
          (fun w2 => Below w.heap.size w w2) (by kernel_rfl) (by kernel_rfl) (by kernel_rfl) (fun c a d v w h => by cases d <;> exact h) (Below.refl _ _).drew ?_
        have hS : Below w.heap.size w w.drew := (Below.refl _ _).drew
        generalize w.drew = W1 at hS ⊢
        haveI hne : Nonempty (In fun w2 => Below w.heap.size w w2) := ⟨⟨w, Below.refl _ _⟩⟩
        repeat (refine plan_t (by rfl) ?_; (first | go_big_quiet_skip | (go_big_quiet_want; go_big_quiet_op; go_big_quiet_on)); refine wpQuiet_nil ?_)
        refine plan_us (by rfl) (by kernel_rfl) ?_
        intro K hK
        go_wp2_with fail
        refine Calls.mono (HCUT.out _) ?_
        rintro e W2 ⟨rfl, rfl⟩
        rw [show cutM low 3 = low % 16777216 from rfl]
        go_wp2_with fail
        refine ⟨hS, ?_⟩
        repeat (refine plan_t (by rfl) ?_; (first | go_big_quiet_skip | (go_big_quiet_want; go_big_quiet_op; go_big_quiet_on)); refine wpQuiet_nil ?_)
        show Exit.then _ _ _ _ _
        have E : Hid (wholeM (largest + 1) low (powW 3) = wfin (largest + 1) ((largest + 1) / 16777216 * 16777216 + low % 16777216) 16777216) := Lib.hid (rfl)
        obtain ⟨c, hc⟩ : ∃ c, (largest + 1) / 16777216 * 16777216 + low % 16777216 = c := ⟨_, rfl⟩
        have hc1 : 0 ≤ c ∧ c ≤ (largest + 1) + 16777216 := by omega
        rw [hc] at E
        rw [hc]
        by_cases h1 : c + 8388608 ≤ (largest + 1)
        · by_cases h2 : c < 4611686018427387904 - 16777216
          · have F : Hid (wholeM (largest + 1) low (powW 3) = c + 16777216) := Lib.hid (E.out.trans (wfin1 ⟨h1, h2⟩))
            clear E
            go_wp2_with fail
            all_goals (go_ret; exact ⟨by rw [F.out]; rfl, hS⟩)
          · have F : Hid (wholeM (largest + 1) low (powW 3) = c) := Lib.hid (E.out.trans (wfin3 (fun h => h2 h.2) (fun h => by have := h.1; omega)))
            clear E
            go_wp2_with fail
            all_goals (go_ret; exact ⟨by rw [F.out]; rfl, hS⟩)
        · by_cases h3 : (largest + 1) + 8388608 < c
          · by_cases h4 : 16777216 ≤ c
            · have F : Hid (wholeM (largest + 1) low (powW 3) = c - 16777216) := Lib.hid (E.out.trans (wfin2 (fun h => h1 h.1) ⟨h3, h4⟩))
              clear E
              go_wp2_with fail
              all_goals (go_ret; exact ⟨by rw [F.out]; rfl, hS⟩)
            · have F : Hid (wholeM (largest + 1) low (powW 3) = c) := Lib.hid (E.out.trans (wfin3 (fun h => h1 h.1) (fun h => h4 h.2)))
              clear E
              go_wp2_with fail
              all_goals (go_ret; exact ⟨by rw [F.out]; rfl, hS⟩)
          · have F : Hid (wholeM (largest + 1) low (powW 3) = c) := Lib.hid (E.out.trans (wfin3 (fun h => h1 h.1) (fun h => h3 h.1)))
            clear E
            go_wp2_with fail
            all_goals (go_ret; exact ⟨by rw [F.out]; rfl, hS⟩)
      · have HCUT2 := Lib.hid (fun w => HCUT.out w 4)
        clear HCUT
        have HCUT : Hid (∀ w, Calls Try.prog 15 #[.int .u64 low, .int .i64 4] w fun e w' => e = .returned (.int .u32 (cutM low 4)) ∧ w' = w) := Lib.hid (fun w => HCUT2.out w); clear HCUT2
        go_wp2_with fail
        refine wp_plan (.t 0 (.t 1 (.t 2 (.t 3 (.t 4 (.t 5 (.t 6 (.t 7 (.u 8 (.t 9 (.t 10 (.t 11 .done))))))))))))
          (fun w2 => Below w.heap.size w w2) (by kernel_rfl) (by kernel_rfl) (by kernel_rfl) (fun c a d v w h => by cases d <;> exact h) (Below.refl _ _).drew ?_
        have hS : Below w.heap.size w w.drew := (Below.refl _ _).drew
        generalize w.drew = W1 at hS ⊢
        haveI hne : Nonempty (In fun w2 => Below w.heap.size w w2) := ⟨⟨w, Below.refl _ _⟩⟩
        repeat (refine plan_t (by rfl) ?_; (first | go_big_quiet_skip | (go_big_quiet_want; go_big_quiet_op; go_big_quiet_on)); refine wpQuiet_nil ?_)
        refine plan_us (by rfl) (by kernel_rfl) ?_
        intro K hK
        go_wp2_with fail
        refine Calls.mono (HCUT.out _) ?_
        rintro e W2 ⟨rfl, rfl⟩
        rw [show cutM low 4 = low % 4294967296 from rfl]
        go_wp2_with fail
        refine ⟨hS, ?_⟩
        repeat (refine plan_t (by rfl) ?_; (first | go_big_quiet_skip | (go_big_quiet_want; go_big_quiet_op; go_big_quiet_on)); refine wpQuiet_nil ?_)
        show Exit.then _ _ _ _ _
        have E : Hid (wholeM (largest + 1) low (powW 4) = wfin (largest + 1) ((largest + 1) / 4294967296 * 4294967296 + low % 4294967296) 4294967296) := Lib.hid (rfl)
        obtain ⟨c, hc⟩ : ∃ c, (largest + 1) / 4294967296 * 4294967296 + low % 4294967296 = c := ⟨_, rfl⟩
        have hc1 : 0 ≤ c ∧ c ≤ (largest + 1) + 4294967296 := by omega
        rw [hc] at E
        rw [hc]
        by_cases h1 : c + 2147483648 ≤ (largest + 1)
        · by_cases h2 : c < 4611686018427387904 - 4294967296
          · have F : Hid (wholeM (largest + 1) low (powW 4) = c + 4294967296) := Lib.hid (E.out.trans (wfin1 ⟨h1, h2⟩))
            clear E
            go_wp2_with fail
            all_goals (go_ret; exact ⟨by rw [F.out]; rfl, hS⟩)
          · have F : Hid (wholeM (largest + 1) low (powW 4) = c) := Lib.hid (E.out.trans (wfin3 (fun h => h2 h.2) (fun h => by have := h.1; omega)))
            clear E
            go_wp2_with fail
            all_goals (go_ret; exact ⟨by rw [F.out]; rfl, hS⟩)
        · by_cases h3 : (largest + 1) + 2147483648 < c
          · by_cases h4 : 4294967296 ≤ c
            · have F : Hid (wholeM (largest + 1) low (powW 4) = c - 4294967296) := Lib.hid (E.out.trans (wfin2 (fun h => h1 h.1) ⟨h3, h4⟩))
              clear E
              go_wp2_with fail
              all_goals (go_ret; exact ⟨by rw [F.out]; rfl, hS⟩)
            · have F : Hid (wholeM (largest + 1) low (powW 4) = c) := Lib.hid (E.out.trans (wfin3 (fun h => h1 h.1) (fun h => h4 h.2)))
              clear E
              go_wp2_with fail
              all_goals (go_ret; exact ⟨by rw [F.out]; rfl, hS⟩)
          · have F : Hid (wholeM (largest + 1) low (powW 4) = c) := Lib.hid (E.out.trans (wfin3 (fun h => h1 h.1) (fun h => h3 h.1)))
            clear E
            go_wp2_with fail
            all_goals (go_ret; exact ⟨by rw [F.out]; rfl, hS⟩)
      · have HCUT2 := Lib.hid (fun w => HCUT.out w 4)
        clear HCUT
        have HCUT : Hid (∀ w, Calls Try.prog 15 #[.int .u64 low, .int .i64 4] w fun e w' => e = .returned (.int .u32 (cutM low 4)) ∧ w' = w) := Lib.hid (fun w => HCUT2.out w); clear HCUT2
        go_wp2_with fail
        refine wp_plan (.t 0 (.t 1 (.t 2 (.t 3 (.t 4 (.t 5 (.t 6 (.t 7 (.u 8 (.t 9 (.t 10 (.t 11 .done))))))))))))
          (fun w2 => Below w.heap.size w w2) (by kernel_rfl) (by kernel_rfl) (by kernel_rfl) (fun c a d v w h => by cases d <;> exact h) (Below.refl _ _).drew ?_
        have hS : Below w.heap.size w w.drew := (Below.refl _ _).drew
        generalize w.drew = W1 at hS ⊢
        haveI hne : Nonempty (In fun w2 => Below w.heap.size w w2) := ⟨⟨w, Below.refl _ _⟩⟩
        repeat (refine plan_t (by rfl) ?_; (first | go_big_quiet_skip | (go_big_quiet_want; go_big_quiet_op; go_big_quiet_on)); refine wpQuiet_nil ?_)
        refine plan_us (by rfl) (by kernel_rfl) ?_
        intro K hK
        go_wp2_with fail
        refine Calls.mono (HCUT.out _) ?_
        rintro e W2 ⟨rfl, rfl⟩
        rw [show cutM low 4 = low % 4294967296 from rfl]
        go_wp2_with fail
        refine ⟨hS, ?_⟩
        repeat (refine plan_t (by rfl) ?_; (first | go_big_quiet_skip | (go_big_quiet_want; go_big_quiet_op; go_big_quiet_on)); refine wpQuiet_nil ?_)
        show Exit.then _ _ _ _ _
        have E : Hid (wholeM (largest + 1) low (powW 4) = wfin (largest + 1) ((largest + 1) / 4294967296 * 4294967296 + low % 4294967296) 4294967296) := Lib.hid (rfl)
        obtain ⟨c, hc⟩ : ∃ c, (largest + 1) / 4294967296 * 4294967296 + low % 4294967296 = c := ⟨_, rfl⟩
        have hc1 : 0 ≤ c ∧ c ≤ (largest + 1) + 4294967296 := by omega
        rw [hc] at E
        rw [hc]
        by_cases h1 : c + 2147483648 ≤ (largest + 1)
        · by_cases h2 : c < 4611686018427387904 - 4294967296
          · have F : Hid (wholeM (largest + 1) low (powW 4) = c + 4294967296) := Lib.hid (E.out.trans (wfin1 ⟨h1, h2⟩))
            clear E
            go_wp2_with fail
            all_goals (go_ret; exact ⟨by rw [F.out]; rfl, hS⟩)
          · have F : Hid (wholeM (largest + 1) low (powW 4) = c) := Lib.hid (E.out.trans (wfin3 (fun h => h2 h.2) (fun h => by have := h.1; omega)))
            clear E
            go_wp2_with fail
            all_goals (go_ret; exact ⟨by rw [F.out]; rfl, hS⟩)
        · by_cases h3 : (largest + 1) + 2147483648 < c
          · by_cases h4 : 4294967296 ≤ c
            · have F : Hid (wholeM (largest + 1) low (powW 4) = c - 4294967296) := Lib.hid (E.out.trans (wfin2 (fun h => h1 h.1) ⟨h3, h4⟩))
              clear E
              go_wp2_with fail
              all_goals (go_ret; exact ⟨by rw [F.out]; rfl, hS⟩)
            · have F : Hid (wholeM (largest + 1) low (powW 4) = c) := Lib.hid (E.out.trans (wfin3 (fun h => h1 h.1) (fun h => h4 h.2)))
              clear E
              go_wp2_with fail
              all_goals (go_ret; exact ⟨by rw [F.out]; rfl, hS⟩)
          · have F : Hid (wholeM (largest + 1) low (powW 4) = c) := Lib.hid (E.out.trans (wfin3 (fun h => h1 h.1) (fun h => h3 h.1)))
            clear E
            go_wp2_with fail
            all_goals (go_ret; exact ⟨by rw [F.out]; rfl, hS⟩)
    · obtain rfl : nx = 4611686018427387904 := by rw [← HX.out]; simp [nxM, hmax]
      clear HX
      rcases hm with ⟨hk, rfl⟩ | ⟨rfl, rfl⟩ | ⟨rfl, rfl⟩ | ⟨rfl, rfl⟩ | ⟨rfl, rfl⟩ | ⟨hk, rfl⟩
      · have HCUT2 := Lib.hid (fun w => HCUT.out w 1)
        clear HCUT
        have HCUT : Hid (∀ w, Calls Try.prog 15 #[.int .u64 low, .int .i64 1] w fun e w' => e = .returned (.int .u32 (cutM low 1)) ∧ w' = w) := Lib.hid (fun w => HCUT2.out w); clear HCUT2
        go_wp2_with fail
        refine wp_plan (.t 0 (.t 1 (.t 2 (.t 3 (.t 4 (.t 5 (.t 6 (.t 7 (.u 8 (.t 9 (.t 10 (.t 11 .done))))))))))))
          (fun w2 => Below w.heap.size w w2) (by kernel_rfl) (by kernel_rfl) (by kernel_rfl) (fun c a d v w h => by cases d <;> exact h) (Below.refl _ _).drew ?_
        have hS : Below w.heap.size w w.drew := (Below.refl _ _).drew
        generalize w.drew = W1 at hS ⊢
        haveI hne : Nonempty (In fun w2 => Below w.heap.size w w2) := ⟨⟨w, Below.refl _ _⟩⟩
        repeat (refine plan_t (by rfl) ?_; (first | go_big_quiet_skip | (go_big_quiet_want; go_big_quiet_op; go_big_quiet_on)); refine wpQuiet_nil ?_)
        refine plan_us (by rfl) (by kernel_rfl) ?_
        intro K hK
        go_wp2_with fail
        refine Calls.mono (HCUT.out _) ?_
        rintro e W2 ⟨rfl, rfl⟩
        rw [show cutM low 1 = low % 256 from rfl]
        go_wp2_with fail
        refine ⟨hS, ?_⟩
        repeat (refine plan_t (by rfl) ?_; (first | go_big_quiet_skip | (go_big_quiet_want; go_big_quiet_op; go_big_quiet_on)); refine wpQuiet_nil ?_)
        show Exit.then _ _ _ _ _
        have E : Hid (wholeM 4611686018427387904 low (powW 1) = wfin 4611686018427387904 (4611686018427387904 + low % 256) 256) := Lib.hid (rfl)
        obtain ⟨c, hc⟩ : ∃ c, 4611686018427387904 + low % 256 = c := ⟨_, rfl⟩
        have hc1 : 0 ≤ c ∧ c ≤ 4611686018427387904 + 256 := by omega
        rw [hc] at E
        rw [hc]
        by_cases h1 : c + 128 ≤ 4611686018427387904
        · by_cases h2 : c < 4611686018427387904 - 256
          · have F : Hid (wholeM 4611686018427387904 low (powW 1) = c + 256) := Lib.hid (E.out.trans (wfin1 ⟨h1, h2⟩))
            clear E
            go_wp2_with fail
            all_goals (go_ret; exact ⟨by rw [F.out]; rfl, hS⟩)
          · have F : Hid (wholeM 4611686018427387904 low (powW 1) = c) := Lib.hid (E.out.trans (wfin3 (fun h => h2 h.2) (fun h => by have := h.1; omega)))
            clear E
            go_wp2_with fail
            all_goals (go_ret; exact ⟨by rw [F.out]; rfl, hS⟩)
        · by_cases h3 : 4611686018427387904 + 128 < c
          · by_cases h4 : 256 ≤ c
            · have F : Hid (wholeM 4611686018427387904 low (powW 1) = c - 256) := Lib.hid (E.out.trans (wfin2 (fun h => h1 h.1) ⟨h3, h4⟩))
              clear E
              go_wp2_with fail
              all_goals (go_ret; exact ⟨by rw [F.out]; rfl, hS⟩)
            · have F : Hid (wholeM 4611686018427387904 low (powW 1) = c) := Lib.hid (E.out.trans (wfin3 (fun h => h1 h.1) (fun h => h4 h.2)))
              clear E
              go_wp2_with fail
              all_goals (go_ret; exact ⟨by rw [F.out]; rfl, hS⟩)
          · have F : Hid (wholeM 4611686018427387904 low (powW 1) = c) := Lib.hid (E.out.trans (wfin3 (fun h => h1 h.1) (fun h => h3 h.1)))
            clear E
            go_wp2_with fail
            all_goals (go_ret; exact ⟨by rw [F.out]; rfl, hS⟩)
      · have HCUT2 := Lib.hid (fun w => HCUT.out w 1)
        clear HCUT
        have HCUT : Hid (∀ w, Calls Try.prog 15 #[.int .u64 low, .int .i64 1] w fun e w' => e = .returned (.int .u32 (cutM low 1)) ∧ w' = w) := Lib.hid (fun w => HCUT2.out w); clear HCUT2
        go_wp2_with fail
        refine wp_plan (.t 0 (.t 1 (.t 2 (.t 3 (.t 4 (.t 5 (.t 6 (.t 7 (.u 8 (.t 9 (.t 10 (.t 11 .done))))))))))))
          (fun w2 => Below w.heap.size w w2) (by kernel_rfl) (by kernel_rfl) (by kernel_rfl) (fun c a d v w h => by cases d <;> exact h) (Below.refl _ _).drew ?_
        have hS : Below w.heap.size w w.drew := (Below.refl _ _).drew
        generalize w.drew = W1 at hS ⊢
        haveI hne : Nonempty (In fun w2 => Below w.heap.size w w2) := ⟨⟨w, Below.refl _ _⟩⟩
        repeat (refine plan_t (by rfl) ?_; (first | go_big_quiet_skip | (go_big_quiet_want; go_big_quiet_op; go_big_quiet_on)); refine wpQuiet_nil ?_)
        refine plan_us (by rfl) (by kernel_rfl) ?_
        intro K hK
        go_wp2_with fail
        refine Calls.mono (HCUT.out _) ?_
        rintro e W2 ⟨rfl, rfl⟩
        rw [show cutM low 1 = low % 256 from rfl]
        go_wp2_with fail
        refine ⟨hS, ?_⟩
        repeat (refine plan_t (by rfl) ?_; (first | go_big_quiet_skip | (go_big_quiet_want; go_big_quiet_op; go_big_quiet_on)); refine wpQuiet_nil ?_)
        show Exit.then _ _ _ _ _
        have E : Hid (wholeM 4611686018427387904 low (powW 1) = wfin 4611686018427387904 (4611686018427387904 + low % 256) 256) := Lib.hid (rfl)
        obtain ⟨c, hc⟩ : ∃ c, 4611686018427387904 + low % 256 = c := ⟨_, rfl⟩
        have hc1 : 0 ≤ c ∧ c ≤ 4611686018427387904 + 256 := by omega
        rw [hc] at E
        rw [hc]
        by_cases h1 : c + 128 ≤ 4611686018427387904
        · by_cases h2 : c < 4611686018427387904 - 256
          · have F : Hid (wholeM 4611686018427387904 low (powW 1) = c + 256) := Lib.hid (E.out.trans (wfin1 ⟨h1, h2⟩))
            clear E
            go_wp2_with fail
            all_goals (go_ret; exact ⟨by rw [F.out]; rfl, hS⟩)
          · have F : Hid (wholeM 4611686018427387904 low (powW 1) = c) := Lib.hid (E.out.trans (wfin3 (fun h => h2 h.2) (fun h => by have := h.1; omega)))
            clear E
            go_wp2_with fail
            all_goals (go_ret; exact ⟨by rw [F.out]; rfl, hS⟩)
        · by_cases h3 : 4611686018427387904 + 128 < c
          · by_cases h4 : 256 ≤ c
            · have F : Hid (wholeM 4611686018427387904 low (powW 1) = c - 256) := Lib.hid (E.out.trans (wfin2 (fun h => h1 h.1) ⟨h3, h4⟩))
              clear E
              go_wp2_with fail
              all_goals (go_ret; exact ⟨by rw [F.out]; rfl, hS⟩)
            · have F : Hid (wholeM 4611686018427387904 low (powW 1) = c) := Lib.hid (E.out.trans (wfin3 (fun h => h1 h.1) (fun h => h4 h.2)))
              clear E
              go_wp2_with fail
              all_goals (go_ret; exact ⟨by rw [F.out]; rfl, hS⟩)
          · have F : Hid (wholeM 4611686018427387904 low (powW 1) = c) := Lib.hid (E.out.trans (wfin3 (fun h => h1 h.1) (fun h => h3 h.1)))
            clear E
            go_wp2_with fail
            all_goals (go_ret; exact ⟨by rw [F.out]; rfl, hS⟩)
      · have HCUT2 := Lib.hid (fun w => HCUT.out w 2)
        clear HCUT
        have HCUT : Hid (∀ w, Calls Try.prog 15 #[.int .u64 low, .int .i64 2] w fun e w' => e = .returned (.int .u32 (cutM low 2)) ∧ w' = w) := Lib.hid (fun w => HCUT2.out w); clear HCUT2
        go_wp2_with fail
        refine wp_plan (.t 0 (.t 1 (.t 2 (.t 3 (.t 4 (.t 5 (.t 6 (.t 7 (.u 8 (.t 9 (.t 10 (.t 11 .done))))))))))))
          (fun w2 => Below w.heap.size w w2) (by kernel_rfl) (by kernel_rfl) (by kernel_rfl) (fun c a d v w h => by cases d <;> exact h) (Below.refl _ _).drew ?_
        have hS : Below w.heap.size w w.drew := (Below.refl _ _).drew
        generalize w.drew = W1 at hS ⊢
        haveI hne : Nonempty (In fun w2 => Below w.heap.size w w2) := ⟨⟨w, Below.refl _ _⟩⟩
        repeat (refine plan_t (by rfl) ?_; (first | go_big_quiet_skip | (go_big_quiet_want; go_big_quiet_op; go_big_quiet_on)); refine wpQuiet_nil ?_)
        refine plan_us (by rfl) (by kernel_rfl) ?_
        intro K hK
        go_wp2_with fail
        refine Calls.mono (HCUT.out _) ?_
        rintro e W2 ⟨rfl, rfl⟩
        rw [show cutM low 2 = low % 65536 from rfl]
        go_wp2_with fail
        refine ⟨hS, ?_⟩
        repeat (refine plan_t (by rfl) ?_; (first | go_big_quiet_skip | (go_big_quiet_want; go_big_quiet_op; go_big_quiet_on)); refine wpQuiet_nil ?_)
        show Exit.then _ _ _ _ _
        have E : Hid (wholeM 4611686018427387904 low (powW 2) = wfin 4611686018427387904 (4611686018427387904 + low % 65536) 65536) := Lib.hid (rfl)
        obtain ⟨c, hc⟩ : ∃ c, 4611686018427387904 + low % 65536 = c := ⟨_, rfl⟩
        have hc1 : 0 ≤ c ∧ c ≤ 4611686018427387904 + 65536 := by omega
        rw [hc] at E
        rw [hc]
        by_cases h1 : c + 32768 ≤ 4611686018427387904
        · by_cases h2 : c < 4611686018427387904 - 65536
          · have F : Hid (wholeM 4611686018427387904 low (powW 2) = c + 65536) := Lib.hid (E.out.trans (wfin1 ⟨h1, h2⟩))
            clear E
            go_wp2_with fail
            all_goals (go_ret; exact ⟨by rw [F.out]; rfl, hS⟩)
          · have F : Hid (wholeM 4611686018427387904 low (powW 2) = c) := Lib.hid (E.out.trans (wfin3 (fun h => h2 h.2) (fun h => by have := h.1; omega)))
            clear E
            go_wp2_with fail
            all_goals (go_ret; exact ⟨by rw [F.out]; rfl, hS⟩)
        · by_cases h3 : 4611686018427387904 + 32768 < c
          · by_cases h4 : 65536 ≤ c
            · have F : Hid (wholeM 4611686018427387904 low (powW 2) = c - 65536) := Lib.hid (E.out.trans (wfin2 (fun h => h1 h.1) ⟨h3, h4⟩))
              clear E
              go_wp2_with fail
              all_goals (go_ret; exact ⟨by rw [F.out]; rfl, hS⟩)
            · have F : Hid (wholeM 4611686018427387904 low (powW 2) = c) := Lib.hid (E.out.trans (wfin3 (fun h => h1 h.1) (fun h => h4 h.2)))
              clear E
              go_wp2_with fail
              all_goals (go_ret; exact ⟨by rw [F.out]; rfl, hS⟩)
          · have F : Hid (wholeM 4611686018427387904 low (powW 2) = c) := Lib.hid (E.out.trans (wfin3 (fun h => h1 h.1) (fun h => h3 h.1)))
            clear E
            go_wp2_with fail
            all_goals (go_ret; exact ⟨by rw [F.out]; rfl, hS⟩)
      · have HCUT2 := Lib.hid (fun w => HCUT.out w 3)
        clear HCUT
        have HCUT : Hid (∀ w, Calls Try.prog 15 #[.int .u64 low, .int .i64 3] w fun e w' => e = .returned (.int .u32 (cutM low 3)) ∧ w' = w) := Lib.hid (fun w => HCUT2.out w); clear HCUT2
        go_wp2_with fail
        refine wp_plan (.t 0 (.t 1 (.t 2 (.t 3 (.t 4 (.t 5 (.t 6 (.t 7 (.u 8 (.t 9 (.t 10 (.t 11 .done))))))))))))
          (fun w2 => Below w.heap.size w w2) (by kernel_rfl) (by kernel_rfl) (by kernel_rfl) (fun c a d v w h => by cases d <;> exact h) (Below.refl _ _).drew ?_
        have hS : Below w.heap.size w w.drew := (Below.refl _ _).drew
        generalize w.drew = W1 at hS ⊢
        haveI hne : Nonempty (In fun w2 => Below w.heap.size w w2) := ⟨⟨w, Below.refl _ _⟩⟩
        repeat (refine plan_t (by rfl) ?_; (first | go_big_quiet_skip | (go_big_quiet_want; go_big_quiet_op; go_big_quiet_on)); refine wpQuiet_nil ?_)
        refine plan_us (by rfl) (by kernel_rfl) ?_
        intro K hK
        go_wp2_with fail
        refine Calls.mono (HCUT.out _) ?_
        rintro e W2 ⟨rfl, rfl⟩
        rw [show cutM low 3 = low % 16777216 from rfl]
        go_wp2_with fail
        refine ⟨hS, ?_⟩
        repeat (refine plan_t (by rfl) ?_; (first | go_big_quiet_skip | (go_big_quiet_want; go_big_quiet_op; go_big_quiet_on)); refine wpQuiet_nil ?_)
        show Exit.then _ _ _ _ _
        have E : Hid (wholeM 4611686018427387904 low (powW 3) = wfin 4611686018427387904 (4611686018427387904 + low % 16777216) 16777216) := Lib.hid (rfl)
        obtain ⟨c, hc⟩ : ∃ c, 4611686018427387904 + low % 16777216 = c := ⟨_, rfl⟩
        have hc1 : 0 ≤ c ∧ c ≤ 4611686018427387904 + 16777216 := by omega
        rw [hc] at E
        rw [hc]
        by_cases h1 : c + 8388608 ≤ 4611686018427387904
        · by_cases h2 : c < 4611686018427387904 - 16777216
          · have F : Hid (wholeM 4611686018427387904 low (powW 3) = c + 16777216) := Lib.hid (E.out.trans (wfin1 ⟨h1, h2⟩))
            clear E
            go_wp2_with fail
            all_goals (go_ret; exact ⟨by rw [F.out]; rfl, hS⟩)
          · have F : Hid (wholeM 4611686018427387904 low (powW 3) = c) := Lib.hid (E.out.trans (wfin3 (fun h => h2 h.2) (fun h => by have := h.1; omega)))
            clear E
            go_wp2_with fail
            all_goals (go_ret; exact ⟨by rw [F.out]; rfl, hS⟩)
        · by_cases h3 : 4611686018427387904 + 8388608 < c
          · by_cases h4 : 16777216 ≤ c
            · have F : Hid (wholeM 4611686018427387904 low (powW 3) = c - 16777216) := Lib.hid (E.out.trans (wfin2 (fun h => h1 h.1) ⟨h3, h4⟩))
              clear E
              go_wp2_with fail
              all_goals (go_ret; exact ⟨by rw [F.out]; rfl, hS⟩)
            · have F : Hid (wholeM 4611686018427387904 low (powW 3) = c) := Lib.hid (E.out.trans (wfin3 (fun h => h1 h.1) (fun h => h4 h.2)))
              clear E
              go_wp2_with fail
              all_goals (go_ret; exact ⟨by rw [F.out]; rfl, hS⟩)
          · have F : Hid (wholeM 4611686018427387904 low (powW 3) = c) := Lib.hid (E.out.trans (wfin3 (fun h => h1 h.1) (fun h => h3 h.1)))
            clear E
            go_wp2_with fail
            all_goals (go_ret; exact ⟨by rw [F.out]; rfl, hS⟩)
      · have HCUT2 := Lib.hid (fun w => HCUT.out w 4)
        clear HCUT
        have HCUT : Hid (∀ w, Calls Try.prog 15 #[.int .u64 low, .int .i64 4] w fun e w' => e = .returned (.int .u32 (cutM low 4)) ∧ w' = w) := Lib.hid (fun w => HCUT2.out w); clear HCUT2
        go_wp2_with fail
        refine wp_plan (.t 0 (.t 1 (.t 2 (.t 3 (.t 4 (.t 5 (.t 6 (.t 7 (.u 8 (.t 9 (.t 10 (.t 11 .done))))))))))))
          (fun w2 => Below w.heap.size w w2) (by kernel_rfl) (by kernel_rfl) (by kernel_rfl) (fun c a d v w h => by cases d <;> exact h) (Below.refl _ _).drew ?_
        have hS : Below w.heap.size w w.drew := (Below.refl _ _).drew
        generalize w.drew = W1 at hS ⊢
        haveI hne : Nonempty (In fun w2 => Below w.heap.size w w2) := ⟨⟨w, Below.refl _ _⟩⟩
        repeat (refine plan_t (by rfl) ?_; (first | go_big_quiet_skip | (go_big_quiet_want; go_big_quiet_op; go_big_quiet_on)); refine wpQuiet_nil ?_)
        refine plan_us (by rfl) (by kernel_rfl) ?_
        intro K hK
        go_wp2_with fail
        refine Calls.mono (HCUT.out _) ?_
        rintro e W2 ⟨rfl, rfl⟩
        rw [show cutM low 4 = low % 4294967296 from rfl]
        go_wp2_with fail
        refine ⟨hS, ?_⟩
        repeat (refine plan_t (by rfl) ?_; (first | go_big_quiet_skip | (go_big_quiet_want; go_big_quiet_op; go_big_quiet_on)); refine wpQuiet_nil ?_)
        show Exit.then _ _ _ _ _
        have E : Hid (wholeM 4611686018427387904 low (powW 4) = wfin 4611686018427387904 (4611686018427387904 + low % 4294967296) 4294967296) := Lib.hid (rfl)
        obtain ⟨c, hc⟩ : ∃ c, 4611686018427387904 + low % 4294967296 = c := ⟨_, rfl⟩
        have hc1 : 0 ≤ c ∧ c ≤ 4611686018427387904 + 4294967296 := by omega
        rw [hc] at E
        rw [hc]
        by_cases h1 : c + 2147483648 ≤ 4611686018427387904
        · by_cases h2 : c < 4611686018427387904 - 4294967296
          · have F : Hid (wholeM 4611686018427387904 low (powW 4) = c + 4294967296) := Lib.hid (E.out.trans (wfin1 ⟨h1, h2⟩))
            clear E
            go_wp2_with fail
            all_goals (go_ret; exact ⟨by rw [F.out]; rfl, hS⟩)
          · have F : Hid (wholeM 4611686018427387904 low (powW 4) = c) := Lib.hid (E.out.trans (wfin3 (fun h => h2 h.2) (fun h => by have := h.1; omega)))
            clear E
            go_wp2_with fail
            all_goals (go_ret; exact ⟨by rw [F.out]; rfl, hS⟩)
        · by_cases h3 : 4611686018427387904 + 2147483648 < c
          · by_cases h4 : 4294967296 ≤ c
            · have F : Hid (wholeM 4611686018427387904 low (powW 4) = c - 4294967296) := Lib.hid (E.out.trans (wfin2 (fun h => h1 h.1) ⟨h3, h4⟩))
              clear E
              go_wp2_with fail
              all_goals (go_ret; exact ⟨by rw [F.out]; rfl, hS⟩)
            · have F : Hid (wholeM 4611686018427387904 low (powW 4) = c) := Lib.hid (E.out.trans (wfin3 (fun h => h1 h.1) (fun h => h4 h.2)))
              clear E
              go_wp2_with fail
              all_goals (go_ret; exact ⟨by rw [F.out]; rfl, hS⟩)
          · have F : Hid (wholeM 4611686018427387904 low (powW 4) = c) := Lib.hid (E.out.trans (wfin3 (fun h => h1 h.1) (fun h => h3 h.1)))
            clear E
            go_wp2_with fail
            all_goals (go_ret; exact ⟨by rw [F.out]; rfl, hS⟩)
      · have HCUT2 := Lib.hid (fun w => HCUT.out w 4)
        clear HCUT
        have HCUT : Hid (∀ w, Calls Try.prog 15 #[.int .u64 low, .int .i64 4] w fun e w' => e = .returned (.int .u32 (cutM low 4)) ∧ w' = w) := Lib.hid (fun w => HCUT2.out w); clear HCUT2
        go_wp2_with fail
        refine wp_plan (.t 0 (.t 1 (.t 2 (.t 3 (.t 4 (.t 5 (.t 6 (.t 7 (.u 8 (.t 9 (.t 10 (.t 11 .done))))))))))))
          (fun w2 => Below w.heap.size w w2) (by kernel_rfl) (by kernel_rfl) (by kernel_rfl) (fun c a d v w h => by cases d <;> exact h) (Below.refl _ _).drew ?_
        have hS : Below w.heap.size w w.drew := (Below.refl _ _).drew
        generalize w.drew = W1 at hS ⊢
        haveI hne : Nonempty (In fun w2 => Below w.heap.size w w2) := ⟨⟨w, Below.refl _ _⟩⟩
        repeat (refine plan_t (by rfl) ?_; (first | go_big_quiet_skip | (go_big_quiet_want; go_big_quiet_op; go_big_quiet_on)); refine wpQuiet_nil ?_)
        refine plan_us (by rfl) (by kernel_rfl) ?_
        intro K hK
        go_wp2_with fail
        refine Calls.mono (HCUT.out _) ?_
        rintro e W2 ⟨rfl, rfl⟩
        rw [show cutM low 4 = low % 4294967296 from rfl]
        go_wp2_with fail
        refine ⟨hS, ?_⟩
        repeat (refine plan_t (by rfl) ?_; (first | go_big_quiet_skip | (go_big_quiet_want; go_big_quiet_op; go_big_quiet_on)); refine wpQuiet_nil ?_)
        show Exit.then _ _ _ _ _
        have E : Hid (wholeM 4611686018427387904 low (powW 4) = wfin 4611686018427387904 (4611686018427387904 + low % 4294967296) 4294967296) := Lib.hid (rfl)
        obtain ⟨c, hc⟩ : ∃ c, 4611686018427387904 + low % 4294967296 = c := ⟨_, rfl⟩
        have hc1 : 0 ≤ c ∧ c ≤ 4611686018427387904 + 4294967296 := by omega
        rw [hc] at E
        rw [hc]
        by_cases h1 : c + 2147483648 ≤ 4611686018427387904
        · by_cases h2 : c < 4611686018427387904 - 4294967296
          · have F : Hid (wholeM 4611686018427387904 low (powW 4) = c + 4294967296) := Lib.hid (E.out.trans (wfin1 ⟨h1, h2⟩))
            clear E
            go_wp2_with fail
            all_goals (go_ret; exact ⟨by rw [F.out]; rfl, hS⟩)
          · have F : Hid (wholeM 4611686018427387904 low (powW 4) = c) := Lib.hid (E.out.trans (wfin3 (fun h => h2 h.2) (fun h => by have := h.1; omega)))
            clear E
            go_wp2_with fail
            all_goals (go_ret; exact ⟨by rw [F.out]; rfl, hS⟩)
        · by_cases h3 : 4611686018427387904 + 2147483648 < c
          · by_cases h4 : 4294967296 ≤ c
            · have F : Hid (wholeM 4611686018427387904 low (powW 4) = c - 4294967296) := Lib.hid (E.out.trans (wfin2 (fun h => h1 h.1) ⟨h3, h4⟩))
              clear E
              go_wp2_with fail
              all_goals (go_ret; exact ⟨by rw [F.out]; rfl, hS⟩)
            · have F : Hid (wholeM 4611686018427387904 low (powW 4) = c) := Lib.hid (E.out.trans (wfin3 (fun h => h1 h.1) (fun h => h4 h.2)))
              clear E
              go_wp2_with fail
              all_goals (go_ret; exact ⟨by rw [F.out]; rfl, hS⟩)
          · have F : Hid (wholeM 4611686018427387904 low (powW 4) = c) := Lib.hid (E.out.trans (wfin3 (fun h => h1 h.1) (fun h => h3 h.1)))
            clear E
            go_wp2_with fail
            all_goals (go_ret; exact ⟨by rw [F.out]; rfl, hS⟩)
end Go.Proofs.Ytamedmdpkepnlaa
