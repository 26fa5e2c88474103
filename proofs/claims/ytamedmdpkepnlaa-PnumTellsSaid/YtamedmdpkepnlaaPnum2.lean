/- contracts of pnum's widths, of its reference. -/
import Derived.Test.YtamedmdpkepnlaaPnum
namespace Go.Proofs.Ytamedmdpkepnlaa
open Go.RowKit
set_option linter.unusedVariables false

theorem wM_ways (k : Int) : (k < 1 ∧ wM k = 1) ∨ (k = 1 ∧ wM k = 1) ∨ (k = 2 ∧ wM k = 2) ∨ (k = 3 ∧ wM k = 3) ∨ (k = 4 ∧ wM k = 4) ∨ (4 < k ∧ wM k = 4) := by
  unfold wM; split
  · omega
  · split <;> omega
theorem rcut_any (w : World) (n k : Int) (hn : 0 ≤ n ∧ n < 18446744073709551616) : Calls Try.prog 15 #[.int .u64 n, .int .i64 k] w fun e w' => e = .returned (.int .u32 (cutM n (wM k))) ∧ w' = w := by
  have hm := wM_ways k
  obtain ⟨m, hm2⟩ : ∃ m, wM k = m := ⟨_, rfl⟩
  rw [hm2] at hm ⊢
  clear hm2
  go_enter Try.func15, Try.ntmps15
  rcases hm with ⟨hk, rfl⟩ | ⟨rfl, rfl⟩ | ⟨rfl, rfl⟩ | ⟨rfl, rfl⟩ | ⟨rfl, rfl⟩ | ⟨hk, rfl⟩
  · have HM : Hid (cutM n 1 = bits .and .u64 n 255 % 4294967296) := Lib.hid (by show n % 256 = _; have := and_mask n 8 hn.1 hn.2 (by omega); rw [show (2 : Int) ^ 8 - 1 = 255 from by decide, show (2 : Int) ^ 8 = 256 from by decide] at this; omega)
    go_wp2_with fail
    go_ret
    exact ⟨by rw [HM.out]; rfl, rfl⟩
  · have HM : Hid (cutM n 1 = bits .and .u64 n 255 % 4294967296) := Lib.hid (by show n % 256 = _; have := and_mask n 8 hn.1 hn.2 (by omega); rw [show (2 : Int) ^ 8 - 1 = 255 from by decide, show (2 : Int) ^ 8 = 256 from by decide] at this; omega)
    go_wp2_with fail
    go_ret
    exact ⟨by rw [HM.out]; rfl, rfl⟩
  · have HM : Hid (cutM n 2 = bits .and .u64 n 65535 % 4294967296) := Lib.hid (by show n % 65536 = _; have := and_mask n 16 hn.1 hn.2 (by omega); rw [show (2 : Int) ^ 16 - 1 = 65535 from by decide, show (2 : Int) ^ 16 = 65536 from by decide] at this; omega)
    go_wp2_with fail
    go_ret
    exact ⟨by rw [HM.out]; rfl, rfl⟩
  · have HM : Hid (cutM n 3 = bits .and .u64 n 16777215 % 4294967296) := Lib.hid (by show n % 16777216 = _; have := and_mask n 24 hn.1 hn.2 (by omega); rw [show (2 : Int) ^ 24 - 1 = 16777215 from by decide, show (2 : Int) ^ 24 = 16777216 from by decide] at this; omega)
    go_wp2_with fail
    go_ret
    exact ⟨by rw [HM.out]; rfl, rfl⟩
  · have HM : Hid (cutM n 4 = bits .and .u64 n 4294967295 % 4294967296) := Lib.hid (by show n % 4294967296 = _; have := and_mask n 32 hn.1 hn.2 (by omega); rw [show (2 : Int) ^ 32 - 1 = 4294967295 from by decide, show (2 : Int) ^ 32 = 4294967296 from by decide] at this; omega)
    go_wp2_with fail
    go_ret
    exact ⟨by rw [HM.out]; rfl, rfl⟩
  · have HM : Hid (cutM n 4 = bits .and .u64 n 4294967295 % 4294967296) := Lib.hid (by show n % 4294967296 = _; have := and_mask n 32 hn.1 hn.2 (by omega); rw [show (2 : Int) ^ 32 - 1 = 4294967295 from by decide, show (2 : Int) ^ 32 = 4294967296 from by decide] at this; omega)
    go_wp2_with fail
    go_ret
    exact ⟨by rw [HM.out]; rfl, rfl⟩
theorem pwidth_any (w : World) (n acked : Int) (has : Bool) (hn : 0 ≤ n ∧ n < 18446744073709551616) (ha : 0 ≤ acked ∧ acked < 18446744073709551616) :
    Calls Try.prog 11 #[.int .u64 n, .int .u64 acked, .bool has] w fun e w' => e = .returned (.int .i64 (widthM (dM n acked has))) ∧ w' = w := by
  obtain ⟨d, hd⟩ : ∃ d, dM n acked has = d := ⟨_, rfl⟩
  have hd2 := dM_in n acked has hn.1 ha.1
  rw [hd] at hd2 ⊢
  have HD := Lib.hid hd; clear hd
  go_enter Try.func11, Try.ntmps11
  cases has
  · by_cases hmax : n ≤ 4611686018427387902
    · obtain rfl : d = n + 1 := by rw [← HD.out]; simp [dM, hmax]
      clear HD
      by_cases a1 : n + 1 ≤ 128
      · have F : Hid (widthM (n + 1) = 1) := Lib.hid (by unfold widthM; rw [if_pos a1])
        go_wp2_with fail
        all_goals (refine wp_loop_rounds 4 ?_; repeat any_goals (rw [rounds_succ]; go_wp2_with fail))
        all_goals (go_ret; exact ⟨by rw [F.out]; rfl, rfl⟩)
      · by_cases a2 : n + 1 ≤ 32768
        · have F : Hid (widthM (n + 1) = 2) := Lib.hid (by unfold widthM; rw [if_neg a1, if_pos a2])
          go_wp2_with fail
          all_goals (refine wp_loop_rounds 4 ?_; repeat any_goals (rw [rounds_succ]; go_wp2_with fail))
          all_goals (go_ret; exact ⟨by rw [F.out]; rfl, rfl⟩)
        · by_cases a3 : n + 1 ≤ 8388608
          · have F : Hid (widthM (n + 1) = 3) := Lib.hid (by unfold widthM; rw [if_neg a1, if_neg a2, if_pos a3])
            go_wp2_with fail
            all_goals (refine wp_loop_rounds 4 ?_; repeat any_goals (rw [rounds_succ]; go_wp2_with fail))
            all_goals (go_ret; exact ⟨by rw [F.out]; rfl, rfl⟩)
          · have F : Hid (widthM (n + 1) = 4) := Lib.hid (by unfold widthM; rw [if_neg a1, if_neg a2, if_neg a3])
            go_wp2_with fail
            all_goals (refine wp_loop_rounds 4 ?_; repeat any_goals (rw [rounds_succ]; go_wp2_with fail))
            all_goals (go_ret; exact ⟨by rw [F.out]; rfl, rfl⟩)
    · obtain rfl : d = 4611686018427387903 := by rw [← HD.out]; simp [dM, hmax]
      clear HD
      · have F : Hid (widthM (4611686018427387903) = 4) := Lib.hid (by unfold widthM; decide)
        go_wp2_with fail
        all_goals (refine wp_loop_rounds 4 ?_; repeat any_goals (rw [rounds_succ]; go_wp2_with fail))
        all_goals (go_ret; exact ⟨by rw [F.out]; rfl, rfl⟩)
  · by_cases hlt : acked < n
    · by_cases hmax : n - acked ≤ 4611686018427387903
      · obtain rfl : d = n - acked := by rw [← HD.out]; simp [dM, hlt, hmax]
        clear HD
        by_cases a1 : n - acked ≤ 128
        · have F : Hid (widthM (n - acked) = 1) := Lib.hid (by unfold widthM; rw [if_pos a1])
          go_wp2_with fail
          all_goals (refine wp_loop_rounds 4 ?_; repeat any_goals (rw [rounds_succ]; go_wp2_with fail))
          all_goals (go_ret; exact ⟨by rw [F.out]; rfl, rfl⟩)
        · by_cases a2 : n - acked ≤ 32768
          · have F : Hid (widthM (n - acked) = 2) := Lib.hid (by unfold widthM; rw [if_neg a1, if_pos a2])
            go_wp2_with fail
            all_goals (refine wp_loop_rounds 4 ?_; repeat any_goals (rw [rounds_succ]; go_wp2_with fail))
            all_goals (go_ret; exact ⟨by rw [F.out]; rfl, rfl⟩)
          · by_cases a3 : n - acked ≤ 8388608
            · have F : Hid (widthM (n - acked) = 3) := Lib.hid (by unfold widthM; rw [if_neg a1, if_neg a2, if_pos a3])
              go_wp2_with fail
              all_goals (refine wp_loop_rounds 4 ?_; repeat any_goals (rw [rounds_succ]; go_wp2_with fail))
              all_goals (go_ret; exact ⟨by rw [F.out]; rfl, rfl⟩)
            · have F : Hid (widthM (n - acked) = 4) := Lib.hid (by unfold widthM; rw [if_neg a1, if_neg a2, if_neg a3])
              go_wp2_with fail
              all_goals (refine wp_loop_rounds 4 ?_; repeat any_goals (rw [rounds_succ]; go_wp2_with fail))
              all_goals (go_ret; exact ⟨by rw [F.out]; rfl, rfl⟩)
      · obtain rfl : d = 4611686018427387903 := by rw [← HD.out]; simp [dM, hlt, hmax]
        clear HD
        · have F : Hid (widthM (4611686018427387903) = 4) := Lib.hid (by unfold widthM; decide)
          go_wp2_with fail
          all_goals (refine wp_loop_rounds 4 ?_; repeat any_goals (rw [rounds_succ]; go_wp2_with fail))
          all_goals (go_ret; exact ⟨by rw [F.out]; rfl, rfl⟩)
    · by_cases hmax : n ≤ 4611686018427387902
      · obtain rfl : d = n + 1 := by rw [← HD.out]; simp [dM, hlt, hmax]
        clear HD
        by_cases a1 : n + 1 ≤ 128
        · have F : Hid (widthM (n + 1) = 1) := Lib.hid (by unfold widthM; rw [if_pos a1])
          go_wp2_with fail
          all_goals (refine wp_loop_rounds 4 ?_; repeat any_goals (rw [rounds_succ]; go_wp2_with fail))
          all_goals (go_ret; exact ⟨by rw [F.out]; rfl, rfl⟩)
        · by_cases a2 : n + 1 ≤ 32768
          · have F : Hid (widthM (n + 1) = 2) := Lib.hid (by unfold widthM; rw [if_neg a1, if_pos a2])
            go_wp2_with fail
            all_goals (refine wp_loop_rounds 4 ?_; repeat any_goals (rw [rounds_succ]; go_wp2_with fail))
            all_goals (go_ret; exact ⟨by rw [F.out]; rfl, rfl⟩)
          · by_cases a3 : n + 1 ≤ 8388608
            · have F : Hid (widthM (n + 1) = 3) := Lib.hid (by unfold widthM; rw [if_neg a1, if_neg a2, if_pos a3])
              go_wp2_with fail
              all_goals (refine wp_loop_rounds 4 ?_; repeat any_goals (rw [rounds_succ]; go_wp2_with fail))
              all_goals (go_ret; exact ⟨by rw [F.out]; rfl, rfl⟩)
            · have F : Hid (widthM (n + 1) = 4) := Lib.hid (by unfold widthM; rw [if_neg a1, if_neg a2, if_neg a3])
              go_wp2_with fail
              all_goals (refine wp_loop_rounds 4 ?_; repeat any_goals (rw [rounds_succ]; go_wp2_with fail))
              all_goals (go_ret; exact ⟨by rw [F.out]; rfl, rfl⟩)
      · obtain rfl : d = 4611686018427387903 := by rw [← HD.out]; simp [dM, hlt, hmax]
        clear HD
        · have F : Hid (widthM (4611686018427387903) = 4) := Lib.hid (by unfold widthM; decide)
          go_wp2_with fail
          all_goals (refine wp_loop_rounds 4 ?_; repeat any_goals (rw [rounds_succ]; go_wp2_with fail))
          all_goals (go_ret; exact ⟨by rw [F.out]; rfl, rfl⟩)
theorem rwidth_any (w : World) (n acked : Int) (has : Bool) (hn : 0 ≤ n ∧ n < 18446744073709551616) (ha : 0 ≤ acked ∧ acked < 18446744073709551616) :
    Calls Try.prog 14 #[.int .u64 n, .int .u64 acked, .bool has] w fun e w' => e = .returned (.int .i64 (widthM (dM n acked has))) ∧ w' = w := by
  obtain ⟨d, hd⟩ : ∃ d, dM n acked has = d := ⟨_, rfl⟩
  have hd2 := dM_in n acked has hn.1 ha.1
  rw [hd] at hd2 ⊢
  have HD := Lib.hid hd; clear hd
  go_enter Try.func14, Try.ntmps14
  cases has
  · by_cases hmax : n ≤ 4611686018427387902
    · obtain rfl : d = n + 1 := by rw [← HD.out]; simp [dM, hmax]
      clear HD
      by_cases a1 : n + 1 ≤ 128
      · have F : Hid (widthM (n + 1) = 1) := Lib.hid (by unfold widthM; rw [if_pos a1])
        go_wp2_with fail
        all_goals (refine wp_loop_rounds 4 ?_; repeat any_goals (rw [rounds_succ]; go_wp2_with fail))
        all_goals (go_ret; exact ⟨by rw [F.out]; rfl, rfl⟩)
      · by_cases a2 : n + 1 ≤ 32768
        · have F : Hid (widthM (n + 1) = 2) := Lib.hid (by unfold widthM; rw [if_neg a1, if_pos a2])
          go_wp2_with fail
          all_goals (refine wp_loop_rounds 4 ?_; repeat any_goals (rw [rounds_succ]; go_wp2_with fail))
          all_goals (go_ret; exact ⟨by rw [F.out]; rfl, rfl⟩)
        · by_cases a3 : n + 1 ≤ 8388608
          · have F : Hid (widthM (n + 1) = 3) := Lib.hid (by unfold widthM; rw [if_neg a1, if_neg a2, if_pos a3])
            go_wp2_with fail
            all_goals (refine wp_loop_rounds 4 ?_; repeat any_goals (rw [rounds_succ]; go_wp2_with fail))
            all_goals (go_ret; exact ⟨by rw [F.out]; rfl, rfl⟩)
          · have F : Hid (widthM (n + 1) = 4) := Lib.hid (by unfold widthM; rw [if_neg a1, if_neg a2, if_neg a3])
            go_wp2_with fail
            all_goals (refine wp_loop_rounds 4 ?_; repeat any_goals (rw [rounds_succ]; go_wp2_with fail))
            all_goals (go_ret; exact ⟨by rw [F.out]; rfl, rfl⟩)
    · obtain rfl : d = 4611686018427387903 := by rw [← HD.out]; simp [dM, hmax]
      clear HD
      · have F : Hid (widthM (4611686018427387903) = 4) := Lib.hid (by unfold widthM; decide)
        go_wp2_with fail
        all_goals (refine wp_loop_rounds 4 ?_; repeat any_goals (rw [rounds_succ]; go_wp2_with fail))
        all_goals (go_ret; exact ⟨by rw [F.out]; rfl, rfl⟩)
  · by_cases hlt : acked < n
    · by_cases hmax : n - acked ≤ 4611686018427387903
      · obtain rfl : d = n - acked := by rw [← HD.out]; simp [dM, hlt, hmax]
        clear HD
        by_cases a1 : n - acked ≤ 128
        · have F : Hid (widthM (n - acked) = 1) := Lib.hid (by unfold widthM; rw [if_pos a1])
          go_wp2_with fail
          all_goals (refine wp_loop_rounds 4 ?_; repeat any_goals (rw [rounds_succ]; go_wp2_with fail))
          all_goals (go_ret; exact ⟨by rw [F.out]; rfl, rfl⟩)
        · by_cases a2 : n - acked ≤ 32768
          · have F : Hid (widthM (n - acked) = 2) := Lib.hid (by unfold widthM; rw [if_neg a1, if_pos a2])
            go_wp2_with fail
            all_goals (refine wp_loop_rounds 4 ?_; repeat any_goals (rw [rounds_succ]; go_wp2_with fail))
            all_goals (go_ret; exact ⟨by rw [F.out]; rfl, rfl⟩)
          · by_cases a3 : n - acked ≤ 8388608
            · have F : Hid (widthM (n - acked) = 3) := Lib.hid (by unfold widthM; rw [if_neg a1, if_neg a2, if_pos a3])
              go_wp2_with fail
              all_goals (refine wp_loop_rounds 4 ?_; repeat any_goals (rw [rounds_succ]; go_wp2_with fail))
              all_goals (go_ret; exact ⟨by rw [F.out]; rfl, rfl⟩)
            · have F : Hid (widthM (n - acked) = 4) := Lib.hid (by unfold widthM; rw [if_neg a1, if_neg a2, if_neg a3])
              go_wp2_with fail
              all_goals (refine wp_loop_rounds 4 ?_; repeat any_goals (rw [rounds_succ]; go_wp2_with fail))
              all_goals (go_ret; exact ⟨by rw [F.out]; rfl, rfl⟩)
      · obtain rfl : d = 4611686018427387903 := by rw [← HD.out]; simp [dM, hlt, hmax]
        clear HD
        · have F : Hid (widthM (4611686018427387903) = 4) := Lib.hid (by unfold widthM; decide)
          go_wp2_with fail
          all_goals (refine wp_loop_rounds 4 ?_; repeat any_goals (rw [rounds_succ]; go_wp2_with fail))
          all_goals (go_ret; exact ⟨by rw [F.out]; rfl, rfl⟩)
    · by_cases hmax : n ≤ 4611686018427387902
      · obtain rfl : d = n + 1 := by rw [← HD.out]; simp [dM, hlt, hmax]
        clear HD
        by_cases a1 : n + 1 ≤ 128
        · have F : Hid (widthM (n + 1) = 1) := Lib.hid (by unfold widthM; rw [if_pos a1])
          go_wp2_with fail
          all_goals (refine wp_loop_rounds 4 ?_; repeat any_goals (rw [rounds_succ]; go_wp2_with fail))
          all_goals (go_ret; exact ⟨by rw [F.out]; rfl, rfl⟩)
        · by_cases a2 : n + 1 ≤ 32768
          · have F : Hid (widthM (n + 1) = 2) := Lib.hid (by unfold widthM; rw [if_neg a1, if_pos a2])
            go_wp2_with fail
            all_goals (refine wp_loop_rounds 4 ?_; repeat any_goals (rw [rounds_succ]; go_wp2_with fail))
            all_goals (go_ret; exact ⟨by rw [F.out]; rfl, rfl⟩)
          · by_cases a3 : n + 1 ≤ 8388608
            · have F : Hid (widthM (n + 1) = 3) := Lib.hid (by unfold widthM; rw [if_neg a1, if_neg a2, if_pos a3])
              go_wp2_with fail
              all_goals (refine wp_loop_rounds 4 ?_; repeat any_goals (rw [rounds_succ]; go_wp2_with fail))
              all_goals (go_ret; exact ⟨by rw [F.out]; rfl, rfl⟩)
            · have F : Hid (widthM (n + 1) = 4) := Lib.hid (by unfold widthM; rw [if_neg a1, if_neg a2, if_neg a3])
              go_wp2_with fail
              all_goals (refine wp_loop_rounds 4 ?_; repeat any_goals (rw [rounds_succ]; go_wp2_with fail))
              all_goals (go_ret; exact ⟨by rw [F.out]; rfl, rfl⟩)
      · obtain rfl : d = 4611686018427387903 := by rw [← HD.out]; simp [dM, hlt, hmax]
        clear HD
        · have F : Hid (widthM (4611686018427387903) = 4) := Lib.hid (by unfold widthM; decide)
          go_wp2_with fail
          all_goals (refine wp_loop_rounds 4 ?_; repeat any_goals (rw [rounds_succ]; go_wp2_with fail))
          all_goals (go_ret; exact ⟨by rw [F.out]; rfl, rfl⟩)
end Go.Proofs.Ytamedmdpkepnlaa
