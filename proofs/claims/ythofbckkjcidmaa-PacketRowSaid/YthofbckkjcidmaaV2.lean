/- texts of the proof, laid together: Pnum, Pnum2, Pnum3. -/
import Derived.Test.YthofbckkjcidmaaLow
import Derived.Test.YthofbckkjcidmaaBook
import Derived.Test.YthofbckkjcidmaaRegion
namespace Go.Proofs.Ythofbckkjcidmaa
open Go.RowKit
set_option linter.unusedVariables false

def wM (k : Int) : Int := if k ≤ 1 then 1 else if 4 ≤ k then 4 else k
theorem wM_cases (k : Int) : wM k = 1 ∨ wM k = 2 ∨ wM k = 3 ∨ wM k = 4 := by
  unfold wM; split
  · exact .inl rfl
  · split <;> omega
def nxM (largest : Int) (has : Bool) : Int := if has then (if largest ≤ 4611686018427387903 then largest else 4611686018427387903) + 1 else 0
theorem nxM_in (l : Int) (has : Bool) (h : 0 ≤ l) : 0 ≤ nxM l has ∧ nxM l has ≤ 4611686018427387904 := by
  unfold nxM; split
  · split <;> omega
  · omega
def wholeM (nx low W : Int) : Int :=
  if nx / W * W + low % W + W / 2 ≤ nx ∧ nx / W * W + low % W < 4611686018427387904 - W then nx / W * W + low % W + W
  else if nx + W / 2 < nx / W * W + low % W ∧ W ≤ nx / W * W + low % W then nx / W * W + low % W - W
  else nx / W * W + low % W
def dM (n acked : Int) (has : Bool) : Int :=
  if has = true ∧ acked < n then (if n - acked ≤ 4611686018427387903 then n - acked else 4611686018427387903) else (if n ≤ 4611686018427387902 then n else 4611686018427387902) + 1
theorem dM_in (n a : Int) (has : Bool) (h : 0 ≤ n) (h2 : 0 ≤ a) : 0 ≤ dM n a has ∧ dM n a has ≤ 4611686018427387903 := by
  unfold dM; split
  · split <;> omega
  · split <;> omega
def widthM (d : Int) : Int := if d ≤ 128 then 1 else if d ≤ 32768 then 2 else if d ≤ 8388608 then 3 else 4

set_option maxRecDepth 100000 in
theorem wide_any (w : World) (k : Int) : Calls Try.prog 51 #[.int .i64 k] w fun e w' => e = .returned (.int .i64 (8 * wM k)) ∧ w' = w := by
  obtain ⟨m, hm⟩ : ∃ m, wM k = m := ⟨_, rfl⟩
  rw [hm]
  by_cases h4 : 4 < k
  · have e : m = 4 := by rw [← hm]; unfold wM; rw [if_neg (by omega), if_pos (by omega)]
    subst e; clear hm
    go_enter Try.func51, Try.ntmps51
    go_wp2
    go_ret
    exact ⟨rfl, rfl⟩
  · by_cases h1 : 1 < k
    · have e : m = k := by rw [← hm]; unfold wM; rw [if_neg (by omega)]; split <;> omega
      subst e; clear hm
      go_enter Try.func51, Try.ntmps51
      go_wp2
      go_ret
      exact ⟨rfl, rfl⟩
    · have e : m = 1 := by rw [← hm]; unfold wM; rw [if_pos (by omega)]
      subst e; clear hm
      go_enter Try.func51, Try.ntmps51
      go_wp2
      go_ret
      exact ⟨rfl, rfl⟩

def powW (m : Int) : Int := if m = 1 then 256 else if m = 2 then 65536 else if m = 3 then 16777216 else 4294967296
def cutM (n m : Int) : Int := n % powW m
set_option maxRecDepth 100000 in
theorem pcut_any (w : World) (n k : Int) (hn : 0 ≤ n ∧ n < 18446744073709551616) : Calls Try.prog 26 #[.int .u64 n, .int .i64 k] w fun e w' => e = .returned (.int .u32 (cutM n (wM k))) ∧ w' = w := by
  have hm := wM_cases k
  have HWIDE := Lib.hid (fun w => wide_any w k)
  obtain ⟨m, hm2⟩ : ∃ m, wM k = m := ⟨_, rfl⟩
  rw [hm2] at hm HWIDE ⊢
  clear hm2
  go_enter Try.func26, Try.ntmps26
  go_wp2_with fail
  refine Calls.mono (HWIDE.out _) ?_
  rintro e w' ⟨rfl, rfl⟩
  rcases hm with rfl | rfl | rfl | rfl
  all_goals
    go_wp2_with fail
    refine Calls.mono (low_any _ _ _ hn) ?_
    rintro e w' ⟨rfl, rfl⟩
    simp only [lowM]
    go_wp2_with fail
    go_ret
    exact ⟨rfl, rfl⟩

theorem or_join (a l : Int) (W : Int) (i : Nat) (hW : W = 2 ^ i) (ha : 0 ≤ a ∧ a < 9223372036854775808) (h : W ≤ 4294967296) : bits .or .u64 (a / W * W) (l % W) = a / W * W + l % W := by
  have hp : 0 < W := by rw [hW]; exact pow_pos2 i
  have h1 := Int.emod_nonneg l (show W ≠ 0 by omega)
  have h2 := Int.emod_lt_of_pos l hp
  have h3 : 0 ≤ a / W := Int.ediv_nonneg ha.1 (by omega)
  have h4 : 0 ≤ a / W * W := Int.mul_nonneg h3 (by omega)
  have h5 : a / W * W ≤ a := Int.ediv_mul_le a (by omega)
  rw [u64_or _ _ h4 (by omega) h1 (by omega)]
  have e : ((2 ^ i : Nat) : Int) = (2 : Int) ^ i := by simp
  have hj := nat_join i (a / W * W).toNat (l % W).toNat (by
    have h6 : ((a / W * W).toNat : Int) % ((2 ^ i : Nat) : Int) = 0 := by rw [Int.toNat_of_nonneg h4, e, ← hW]; exact Int.mul_emod_left _ _
    exact_mod_cast h6) (by
    have h7 : ((l % W).toNat : Int) < ((2 ^ i : Nat) : Int) := by rw [Int.toNat_of_nonneg h1, e, ← hW]; exact h2
    exact_mod_cast h7)
  rw [hj]; omega

def wfin (nx c W : Int) : Int := if c + W / 2 ≤ nx ∧ c < 4611686018427387904 - W then c + W else if nx + W / 2 < c ∧ W ≤ c then c - W else c
theorem wfin1 {nx c W : Int} (h : c + W / 2 ≤ nx ∧ c < 4611686018427387904 - W) : wfin nx c W = c + W := if_pos h
theorem wfin2 {nx c W : Int} (h : ¬ (c + W / 2 ≤ nx ∧ c < 4611686018427387904 - W)) (k : nx + W / 2 < c ∧ W ≤ c) : wfin nx c W = c - W := (if_neg h).trans (if_pos k)
theorem wfin3 {nx c W : Int} (h : ¬ (c + W / 2 ≤ nx ∧ c < 4611686018427387904 - W)) (k : ¬ (nx + W / 2 < c ∧ W ≤ c)) : wfin nx c W = c := (if_neg h).trans (if_neg k)
set_option maxRecDepth 100000 in
set_option maxHeartbeats 4000000 in
theorem pwhole_any (w : World) (largest low k : Int) (has : Bool) (hl : 0 ≤ largest ∧ largest < 18446744073709551616) (hlow : 0 ≤ low ∧ low < 4294967296) :
    Makes Try.prog 32 #[.int .u64 largest, .bool has, .int .u32 low, .int .i64 k] w (.int .u64 (wholeM (nxM largest has) low (powW (wM k)))) := by
  have hm := wM_cases k
  have HWIDE := Lib.hid (fun w => wide_any w k)
  obtain ⟨m, hm2⟩ : ∃ m, wM k = m := ⟨_, rfl⟩
  rw [hm2] at hm HWIDE ⊢
  clear hm2
  obtain ⟨nx, hx⟩ : ∃ nx, nxM largest has = nx := ⟨_, rfl⟩
  rw [hx]
  have HX := Lib.hid hx; clear hx
  go_enter Try.func32, Try.ntmps32
  cases has
  · obtain rfl : nx = 0 := by rw [← HX.out]; rfl
    clear HX
    go_wp2_with fail
    refine Calls.mono (HWIDE.out _) ?_
    rintro e w' ⟨rfl, rfl⟩
    rcases hm with rfl | rfl | rfl | rfl
    · have HJ : Hid (bits BinOp.or IntKind.u64 0 (low % 256) = 0 + low % 256) := Lib.hid (by have := or_join 0 low 256 8 (by decide) (by omega) (by omega); simpa using this)
      go_wp2_with fail
      go_quiet (fail)
      go_wp2_with fail
      refine wp_plan (.t 0 (.t 1 (.t 2 (.t 3 (.t 4 (.t 5 (.t 6 (.t 7 (.u 8 (.t 9 (.t 10 .done)))))))))))
        (fun w2 => Below w'.heap.size w' w2) (by kernel_rfl) (by kernel_rfl) (by kernel_rfl) (fun c a d v w h => by cases d <;> exact h) (bl_drewN (bl_drewN (Below.refl _ _) nq) 1) ?_
      have hS : Below w'.heap.size w' (w'.drewN nq).drew := bl_drewN (bl_drewN (Below.refl _ _) nq) 1
      generalize (w'.drewN nq).drew = W1 at hS ⊢
      haveI hne : Nonempty (In fun w2 => Below w'.heap.size w' w2) := ⟨⟨w', Below.refl _ _⟩⟩
      repeat (refine plan_t (by rfl) ?_; (first | go_big_quiet_skip | (go_big_quiet_want; go_big_quiet_op; go_big_quiet_on)); refine wpQuiet_nil ?_)
      refine plan_us (by rfl) (by kernel_rfl) ?_
      intro K hK
      go_wp2_with fail
      refine Calls.mono (low_any _ _ 8 ⟨by omega, by omega⟩) ?_
      rintro e W2 ⟨rfl, rfl⟩
      rw [show lowM low 8 = low % 256 from rfl]
      go_wp2_with fail
      refine ⟨hS, ?_⟩
      repeat (refine plan_t (by rfl) ?_; (first | go_big_quiet_skip | (go_big_quiet_want; go_big_quiet_op; go_big_quiet_on)); refine wpQuiet_nil ?_)
      show Exit.then _ _ _ _ _
      rw [HJ.out]
      have E : Hid (wholeM 0 low (powW 1) = wfin 0 (0 + low % 256) 256) := Lib.hid rfl
      obtain ⟨c, hc⟩ : ∃ c, 0 + low % 256 = c := ⟨_, rfl⟩
      have hc1 : 0 ≤ c ∧ c ≤ 0 + 256 := by omega
      rw [hc] at E ⊢
      clear hc HJ
      by_cases h1 : c + 128 ≤ 0
      · by_cases h2 : c < 4611686018427387904 - 256
        · have F : Hid (wholeM 0 low (powW 1) = c + 256) := Lib.hid (E.out.trans (wfin1 ⟨h1, h2⟩))
          clear E
          go_wp2_with fail
          all_goals (go_ret; exact ⟨by rw [F.out]; rfl, hS⟩)
        · have F : Hid (wholeM 0 low (powW 1) = c) := Lib.hid (E.out.trans (wfin3 (fun h => h2 h.2) (fun h => by have := h.1; omega)))
          clear E
          go_wp2_with fail
          all_goals (go_ret; exact ⟨by rw [F.out]; rfl, hS⟩)
      · by_cases h3 : 0 + 128 < c
        · by_cases h4 : 256 ≤ c
          · have F : Hid (wholeM 0 low (powW 1) = c - 256) := Lib.hid (E.out.trans (wfin2 (fun h => h1 h.1) ⟨h3, h4⟩))
            clear E
            go_wp2_with fail
            all_goals (go_ret; exact ⟨by rw [F.out]; rfl, hS⟩)
          · have F : Hid (wholeM 0 low (powW 1) = c) := Lib.hid (E.out.trans (wfin3 (fun h => h1 h.1) (fun h => h4 h.2)))
            clear E
            go_wp2_with fail
            all_goals (go_ret; exact ⟨by rw [F.out]; rfl, hS⟩)
        · have F : Hid (wholeM 0 low (powW 1) = c) := Lib.hid (E.out.trans (wfin3 (fun h => h1 h.1) (fun h => h3 h.1)))
          clear E
          go_wp2_with fail
          all_goals (go_ret; exact ⟨by rw [F.out]; rfl, hS⟩)
    · have HJ : Hid (bits BinOp.or IntKind.u64 0 (low % 65536) = 0 + low % 65536) := Lib.hid (by have := or_join 0 low 65536 16 (by decide) (by omega) (by omega); simpa using this)
      go_wp2_with fail
      go_quiet (fail)
      go_wp2_with fail
      refine wp_plan (.t 0 (.t 1 (.t 2 (.t 3 (.t 4 (.t 5 (.t 6 (.t 7 (.u 8 (.t 9 (.t 10 .done)))))))))))
        (fun w2 => Below w'.heap.size w' w2) (by kernel_rfl) (by kernel_rfl) (by kernel_rfl) (fun c a d v w h => by cases d <;> exact h) (bl_drewN (bl_drewN (Below.refl _ _) nq) 1) ?_
      have hS : Below w'.heap.size w' (w'.drewN nq).drew := bl_drewN (bl_drewN (Below.refl _ _) nq) 1
      generalize (w'.drewN nq).drew = W1 at hS ⊢
      haveI hne : Nonempty (In fun w2 => Below w'.heap.size w' w2) := ⟨⟨w', Below.refl _ _⟩⟩
      repeat (refine plan_t (by rfl) ?_; (first | go_big_quiet_skip | (go_big_quiet_want; go_big_quiet_op; go_big_quiet_on)); refine wpQuiet_nil ?_)
      refine plan_us (by rfl) (by kernel_rfl) ?_
      intro K hK
      go_wp2_with fail
      refine Calls.mono (low_any _ _ 16 ⟨by omega, by omega⟩) ?_
      rintro e W2 ⟨rfl, rfl⟩
      rw [show lowM low 16 = low % 65536 from rfl]
      go_wp2_with fail
      refine ⟨hS, ?_⟩
      repeat (refine plan_t (by rfl) ?_; (first | go_big_quiet_skip | (go_big_quiet_want; go_big_quiet_op; go_big_quiet_on)); refine wpQuiet_nil ?_)
      show Exit.then _ _ _ _ _
      rw [HJ.out]
      have E : Hid (wholeM 0 low (powW 2) = wfin 0 (0 + low % 65536) 65536) := Lib.hid rfl
      obtain ⟨c, hc⟩ : ∃ c, 0 + low % 65536 = c := ⟨_, rfl⟩
      have hc1 : 0 ≤ c ∧ c ≤ 0 + 65536 := by omega
      rw [hc] at E ⊢
      clear hc HJ
      by_cases h1 : c + 32768 ≤ 0
      · by_cases h2 : c < 4611686018427387904 - 65536
        · have F : Hid (wholeM 0 low (powW 2) = c + 65536) := Lib.hid (E.out.trans (wfin1 ⟨h1, h2⟩))
          clear E
          go_wp2_with fail
          all_goals (go_ret; exact ⟨by rw [F.out]; rfl, hS⟩)
        · have F : Hid (wholeM 0 low (powW 2) = c) := Lib.hid (E.out.trans (wfin3 (fun h => h2 h.2) (fun h => by have := h.1; omega)))
          clear E
          go_wp2_with fail
          all_goals (go_ret; exact ⟨by rw [F.out]; rfl, hS⟩)
      · by_cases h3 : 0 + 32768 < c
        · by_cases h4 : 65536 ≤ c
          · have F : Hid (wholeM 0 low (powW 2) = c - 65536) := Lib.hid (E.out.trans (wfin2 (fun h => h1 h.1) ⟨h3, h4⟩))
            clear E
            go_wp2_with fail
            all_goals (go_ret; exact ⟨by rw [F.out]; rfl, hS⟩)
          · have F : Hid (wholeM 0 low (powW 2) = c) := Lib.hid (E.out.trans (wfin3 (fun h => h1 h.1) (fun h => h4 h.2)))
            clear E
            go_wp2_with fail
            all_goals (go_ret; exact ⟨by rw [F.out]; rfl, hS⟩)
        · have F : Hid (wholeM 0 low (powW 2) = c) := Lib.hid (E.out.trans (wfin3 (fun h => h1 h.1) (fun h => h3 h.1)))
          clear E
          go_wp2_with fail
          all_goals (go_ret; exact ⟨by rw [F.out]; rfl, hS⟩)
    · have HJ : Hid (bits BinOp.or IntKind.u64 0 (low % 16777216) = 0 + low % 16777216) := Lib.hid (by have := or_join 0 low 16777216 24 (by decide) (by omega) (by omega); simpa using this)
      go_wp2_with fail
      go_quiet (fail)
      go_wp2_with fail
      refine wp_plan (.t 0 (.t 1 (.t 2 (.t 3 (.t 4 (.t 5 (.t 6 (.t 7 (.u 8 (.t 9 (.t 10 .done)))))))))))
        (fun w2 => Below w'.heap.size w' w2) (by kernel_rfl) (by kernel_rfl) (by kernel_rfl) (fun c a d v w h => by cases d <;> exact h) (bl_drewN (bl_drewN (Below.refl _ _) nq) 1) ?_
      have hS : Below w'.heap.size w' (w'.drewN nq).drew := bl_drewN (bl_drewN (Below.refl _ _) nq) 1
      generalize (w'.drewN nq).drew = W1 at hS ⊢
      haveI hne : Nonempty (In fun w2 => Below w'.heap.size w' w2) := ⟨⟨w', Below.refl _ _⟩⟩
      repeat (refine plan_t (by rfl) ?_; (first | go_big_quiet_skip | (go_big_quiet_want; go_big_quiet_op; go_big_quiet_on)); refine wpQuiet_nil ?_)
      refine plan_us (by rfl) (by kernel_rfl) ?_
      intro K hK
      go_wp2_with fail
      refine Calls.mono (low_any _ _ 24 ⟨by omega, by omega⟩) ?_
      rintro e W2 ⟨rfl, rfl⟩
      rw [show lowM low 24 = low % 16777216 from rfl]
      go_wp2_with fail
      refine ⟨hS, ?_⟩
      repeat (refine plan_t (by rfl) ?_; (first | go_big_quiet_skip | (go_big_quiet_want; go_big_quiet_op; go_big_quiet_on)); refine wpQuiet_nil ?_)
      show Exit.then _ _ _ _ _
      rw [HJ.out]
      have E : Hid (wholeM 0 low (powW 3) = wfin 0 (0 + low % 16777216) 16777216) := Lib.hid rfl
      obtain ⟨c, hc⟩ : ∃ c, 0 + low % 16777216 = c := ⟨_, rfl⟩
      have hc1 : 0 ≤ c ∧ c ≤ 0 + 16777216 := by omega
      rw [hc] at E ⊢
      clear hc HJ
      by_cases h1 : c + 8388608 ≤ 0
      · by_cases h2 : c < 4611686018427387904 - 16777216
        · have F : Hid (wholeM 0 low (powW 3) = c + 16777216) := Lib.hid (E.out.trans (wfin1 ⟨h1, h2⟩))
          clear E
          go_wp2_with fail
          all_goals (go_ret; exact ⟨by rw [F.out]; rfl, hS⟩)
        · have F : Hid (wholeM 0 low (powW 3) = c) := Lib.hid (E.out.trans (wfin3 (fun h => h2 h.2) (fun h => by have := h.1; omega)))
          clear E
          go_wp2_with fail
          all_goals (go_ret; exact ⟨by rw [F.out]; rfl, hS⟩)
      · by_cases h3 : 0 + 8388608 < c
        · by_cases h4 : 16777216 ≤ c
          · have F : Hid (wholeM 0 low (powW 3) = c - 16777216) := Lib.hid (E.out.trans (wfin2 (fun h => h1 h.1) ⟨h3, h4⟩))
            clear E
            go_wp2_with fail
            all_goals (go_ret; exact ⟨by rw [F.out]; rfl, hS⟩)
          · have F : Hid (wholeM 0 low (powW 3) = c) := Lib.hid (E.out.trans (wfin3 (fun h => h1 h.1) (fun h => h4 h.2)))
            clear E
            go_wp2_with fail
            all_goals (go_ret; exact ⟨by rw [F.out]; rfl, hS⟩)
        · have F : Hid (wholeM 0 low (powW 3) = c) := Lib.hid (E.out.trans (wfin3 (fun h => h1 h.1) (fun h => h3 h.1)))
          clear E
          go_wp2_with fail
          all_goals (go_ret; exact ⟨by rw [F.out]; rfl, hS⟩)
    · have HJ : Hid (bits BinOp.or IntKind.u64 0 (low % 4294967296) = 0 + low % 4294967296) := Lib.hid (by have := or_join 0 low 4294967296 32 (by decide) (by omega) (by omega); simpa using this)
      go_wp2_with fail
      go_quiet (fail)
      go_wp2_with fail
      refine wp_plan (.t 0 (.t 1 (.t 2 (.t 3 (.t 4 (.t 5 (.t 6 (.t 7 (.u 8 (.t 9 (.t 10 .done)))))))))))
        (fun w2 => Below w'.heap.size w' w2) (by kernel_rfl) (by kernel_rfl) (by kernel_rfl) (fun c a d v w h => by cases d <;> exact h) (bl_drewN (bl_drewN (Below.refl _ _) nq) 1) ?_
      have hS : Below w'.heap.size w' (w'.drewN nq).drew := bl_drewN (bl_drewN (Below.refl _ _) nq) 1
      generalize (w'.drewN nq).drew = W1 at hS ⊢
      haveI hne : Nonempty (In fun w2 => Below w'.heap.size w' w2) := ⟨⟨w', Below.refl _ _⟩⟩
      repeat (refine plan_t (by rfl) ?_; (first | go_big_quiet_skip | (go_big_quiet_want; go_big_quiet_op; go_big_quiet_on)); refine wpQuiet_nil ?_)
      refine plan_us (by rfl) (by kernel_rfl) ?_
      intro K hK
      go_wp2_with fail
      refine Calls.mono (low_any _ _ 32 ⟨by omega, by omega⟩) ?_
      rintro e W2 ⟨rfl, rfl⟩
      rw [show lowM low 32 = low % 4294967296 from rfl]
      go_wp2_with fail
      refine ⟨hS, ?_⟩
      repeat (refine plan_t (by rfl) ?_; (first | go_big_quiet_skip | (go_big_quiet_want; go_big_quiet_op; go_big_quiet_on)); refine wpQuiet_nil ?_)
      show Exit.then _ _ _ _ _
      rw [HJ.out]
      have E : Hid (wholeM 0 low (powW 4) = wfin 0 (0 + low % 4294967296) 4294967296) := Lib.hid rfl
      obtain ⟨c, hc⟩ : ∃ c, 0 + low % 4294967296 = c := ⟨_, rfl⟩
      have hc1 : 0 ≤ c ∧ c ≤ 0 + 4294967296 := by omega
      rw [hc] at E ⊢
      clear hc HJ
      by_cases h1 : c + 2147483648 ≤ 0
      · by_cases h2 : c < 4611686018427387904 - 4294967296
        · have F : Hid (wholeM 0 low (powW 4) = c + 4294967296) := Lib.hid (E.out.trans (wfin1 ⟨h1, h2⟩))
          clear E
          go_wp2_with fail
          all_goals (go_ret; exact ⟨by rw [F.out]; rfl, hS⟩)
        · have F : Hid (wholeM 0 low (powW 4) = c) := Lib.hid (E.out.trans (wfin3 (fun h => h2 h.2) (fun h => by have := h.1; omega)))
          clear E
          go_wp2_with fail
          all_goals (go_ret; exact ⟨by rw [F.out]; rfl, hS⟩)
      · by_cases h3 : 0 + 2147483648 < c
        · by_cases h4 : 4294967296 ≤ c
          · have F : Hid (wholeM 0 low (powW 4) = c - 4294967296) := Lib.hid (E.out.trans (wfin2 (fun h => h1 h.1) ⟨h3, h4⟩))
            clear E
            go_wp2_with fail
            all_goals (go_ret; exact ⟨by rw [F.out]; rfl, hS⟩)
          · have F : Hid (wholeM 0 low (powW 4) = c) := Lib.hid (E.out.trans (wfin3 (fun h => h1 h.1) (fun h => h4 h.2)))
            clear E
            go_wp2_with fail
            all_goals (go_ret; exact ⟨by rw [F.out]; rfl, hS⟩)
        · have F : Hid (wholeM 0 low (powW 4) = c) := Lib.hid (E.out.trans (wfin3 (fun h => h1 h.1) (fun h => h3 h.1)))
          clear E
          go_wp2_with fail
          all_goals (go_ret; exact ⟨by rw [F.out]; rfl, hS⟩)
  · by_cases hmax : largest ≤ 4611686018427387903
    · obtain rfl : nx = largest + 1 := by rw [← HX.out]; simp [nxM, hmax]
      clear HX
      go_wp2_with fail
      refine Calls.mono (HWIDE.out _) ?_
      rintro e w' ⟨rfl, rfl⟩
      rcases hm with rfl | rfl | rfl | rfl
      · have HJ := Lib.hid (or_join (largest + 1) low 256 8 (by decide) (by omega) (by omega))
        go_wp2_with fail
        go_quiet (fail)
        go_wp2_with fail
        refine wp_plan (.t 0 (.t 1 (.t 2 (.t 3 (.t 4 (.t 5 (.t 6 (.t 7 (.u 8 (.t 9 (.t 10 .done)))))))))))
          (fun w2 => Below w'.heap.size w' w2) (by kernel_rfl) (by kernel_rfl) (by kernel_rfl) (fun c a d v w h => by cases d <;> exact h) (bl_drewN (bl_drewN (Below.refl _ _) nq) 1) ?_
        have hS : Below w'.heap.size w' (w'.drewN nq).drew := bl_drewN (bl_drewN (Below.refl _ _) nq) 1
        generalize (w'.drewN nq).drew = W1 at hS ⊢
        haveI hne : Nonempty (In fun w2 => Below w'.heap.size w' w2) := ⟨⟨w', Below.refl _ _⟩⟩
        repeat (refine plan_t (by rfl) ?_; (first | go_big_quiet_skip | (go_big_quiet_want; go_big_quiet_op; go_big_quiet_on)); refine wpQuiet_nil ?_)
        refine plan_us (by rfl) (by kernel_rfl) ?_
        intro K hK
        go_wp2_with fail
        refine Calls.mono (low_any _ _ 8 ⟨by omega, by omega⟩) ?_
        rintro e W2 ⟨rfl, rfl⟩
        rw [show lowM low 8 = low % 256 from rfl]
        go_wp2_with fail
        refine ⟨hS, ?_⟩
        repeat (refine plan_t (by rfl) ?_; (first | go_big_quiet_skip | (go_big_quiet_want; go_big_quiet_op; go_big_quiet_on)); refine wpQuiet_nil ?_)
        show Exit.then _ _ _ _ _
        rw [HJ.out]
        have E : Hid (wholeM (largest + 1) low (powW 1) = wfin (largest + 1) ((largest + 1) / 256 * 256 + low % 256) 256) := Lib.hid rfl
        obtain ⟨c, hc⟩ : ∃ c, (largest + 1) / 256 * 256 + low % 256 = c := ⟨_, rfl⟩
        have hc1 : 0 ≤ c ∧ c ≤ (largest + 1) + 256 := by omega
        rw [hc] at E ⊢
        clear hc HJ
        by_cases h1 : c + 128 ≤ (largest + 1)
        · by_cases h2 : c < 4611686018427387904 - 256
          · have F : Hid (wholeM (largest + 1) low (powW 1) = c + 256) := Lib.hid (E.out.trans (wfin1 ⟨h1, h2⟩))
            clear E
            go_wp2_with fail
            all_goals (go_ret; exact ⟨by rw [F.out]; rfl, hS⟩)
          · have F : Hid (wholeM (largest + 1) low (powW 1) = c) := Lib.hid (E.out.trans (wfin3 (fun h => h2 h.2) (fun h => by have := h.1; omega)))
            clear E
            go_wp2_with fail
            all_goals (go_ret; exact ⟨by rw [F.out]; rfl, hS⟩)
        · by_cases h3 : (largest + 1) + 128 < c
          · by_cases h4 : 256 ≤ c
            · have F : Hid (wholeM (largest + 1) low (powW 1) = c - 256) := Lib.hid (E.out.trans (wfin2 (fun h => h1 h.1) ⟨h3, h4⟩))
              clear E
              go_wp2_with fail
              all_goals (go_ret; exact ⟨by rw [F.out]; rfl, hS⟩)
            · have F : Hid (wholeM (largest + 1) low (powW 1) = c) := Lib.hid (E.out.trans (wfin3 (fun h => h1 h.1) (fun h => h4 h.2)))
              clear E
              go_wp2_with fail
              all_goals (go_ret; exact ⟨by rw [F.out]; rfl, hS⟩)
          · have F : Hid (wholeM (largest + 1) low (powW 1) = c) := Lib.hid (E.out.trans (wfin3 (fun h => h1 h.1) (fun h => h3 h.1)))
            clear E
            go_wp2_with fail
            all_goals (go_ret; exact ⟨by rw [F.out]; rfl, hS⟩)
      · have HJ := Lib.hid (or_join (largest + 1) low 65536 16 (by decide) (by omega) (by omega))
        go_wp2_with fail
        go_quiet (fail)
        go_wp2_with fail
        refine wp_plan (.t 0 (.t 1 (.t 2 (.t 3 (.t 4 (.t 5 (.t 6 (.t 7 (.u 8 (.t 9 (.t 10 .done)))))))))))
          (fun w2 => Below w'.heap.size w' w2) (by kernel_rfl) (by kernel_rfl) (by kernel_rfl) (fun c a d v w h => by cases d <;> exact h) (bl_drewN (bl_drewN (Below.refl _ _) nq) 1) ?_
        have hS : Below w'.heap.size w' (w'.drewN nq).drew := bl_drewN (bl_drewN (Below.refl _ _) nq) 1
        generalize (w'.drewN nq).drew = W1 at hS ⊢
        haveI hne : Nonempty (In fun w2 => Below w'.heap.size w' w2) := ⟨⟨w', Below.refl _ _⟩⟩
        repeat (refine plan_t (by rfl) ?_; (first | go_big_quiet_skip | (go_big_quiet_want; go_big_quiet_op; go_big_quiet_on)); refine wpQuiet_nil ?_)
        refine plan_us (by rfl) (by kernel_rfl) ?_
        intro K hK
        go_wp2_with fail
        refine Calls.mono (low_any _ _ 16 ⟨by omega, by omega⟩) ?_
        rintro e W2 ⟨rfl, rfl⟩
        rw [show lowM low 16 = low % 65536 from rfl]
        go_wp2_with fail
        refine ⟨hS, ?_⟩
        repeat (refine plan_t (by rfl) ?_; (first | go_big_quiet_skip | (go_big_quiet_want; go_big_quiet_op; go_big_quiet_on)); refine wpQuiet_nil ?_)
        show Exit.then _ _ _ _ _
        rw [HJ.out]
        have E : Hid (wholeM (largest + 1) low (powW 2) = wfin (largest + 1) ((largest + 1) / 65536 * 65536 + low % 65536) 65536) := Lib.hid rfl
        obtain ⟨c, hc⟩ : ∃ c, (largest + 1) / 65536 * 65536 + low % 65536 = c := ⟨_, rfl⟩
        have hc1 : 0 ≤ c ∧ c ≤ (largest + 1) + 65536 := by omega
        rw [hc] at E ⊢
        clear hc HJ
        by_cases h1 : c + 32768 ≤ (largest + 1)
        · by_cases h2 : c < 4611686018427387904 - 65536
          · have F : Hid (wholeM (largest + 1) low (powW 2) = c + 65536) := Lib.hid (E.out.trans (wfin1 ⟨h1, h2⟩))
            clear E
            go_wp2_with fail
            all_goals (go_ret; exact ⟨by rw [F.out]; rfl, hS⟩)
          · have F : Hid (wholeM (largest + 1) low (powW 2) = c) := Lib.hid (E.out.trans (wfin3 (fun h => h2 h.2) (fun h => by have := h.1; omega)))
            clear E
            go_wp2_with fail
            all_goals (go_ret; exact ⟨by rw [F.out]; rfl, hS⟩)
        · by_cases h3 : (largest + 1) + 32768 < c
          · by_cases h4 : 65536 ≤ c
            · have F : Hid (wholeM (largest + 1) low (powW 2) = c - 65536) := Lib.hid (E.out.trans (wfin2 (fun h => h1 h.1) ⟨h3, h4⟩))
              clear E
              go_wp2_with fail
              all_goals (go_ret; exact ⟨by rw [F.out]; rfl, hS⟩)
            · have F : Hid (wholeM (largest + 1) low (powW 2) = c) := Lib.hid (E.out.trans (wfin3 (fun h => h1 h.1) (fun h => h4 h.2)))
              clear E
              go_wp2_with fail
              all_goals (go_ret; exact ⟨by rw [F.out]; rfl, hS⟩)
          · have F : Hid (wholeM (largest + 1) low (powW 2) = c) := Lib.hid (E.out.trans (wfin3 (fun h => h1 h.1) (fun h => h3 h.1)))
            clear E
            go_wp2_with fail
            all_goals (go_ret; exact ⟨by rw [F.out]; rfl, hS⟩)
      · have HJ := Lib.hid (or_join (largest + 1) low 16777216 24 (by decide) (by omega) (by omega))
        go_wp2_with fail
        go_quiet (fail)
        go_wp2_with fail
        refine wp_plan (.t 0 (.t 1 (.t 2 (.t 3 (.t 4 (.t 5 (.t 6 (.t 7 (.u 8 (.t 9 (.t 10 .done)))))))))))
          (fun w2 => Below w'.heap.size w' w2) (by kernel_rfl) (by kernel_rfl) (by kernel_rfl) (fun c a d v w h => by cases d <;> exact h) (bl_drewN (bl_drewN (Below.refl _ _) nq) 1) ?_
        have hS : Below w'.heap.size w' (w'.drewN nq).drew := bl_drewN (bl_drewN (Below.refl _ _) nq) 1
        generalize (w'.drewN nq).drew = W1 at hS ⊢
        haveI hne : Nonempty (In fun w2 => Below w'.heap.size w' w2) := ⟨⟨w', Below.refl _ _⟩⟩
        repeat (refine plan_t (by rfl) ?_; (first | go_big_quiet_skip | (go_big_quiet_want; go_big_quiet_op; go_big_quiet_on)); refine wpQuiet_nil ?_)
        refine plan_us (by rfl) (by kernel_rfl) ?_
        intro K hK
        go_wp2_with fail
        refine Calls.mono (low_any _ _ 24 ⟨by omega, by omega⟩) ?_
        rintro e W2 ⟨rfl, rfl⟩
        rw [show lowM low 24 = low % 16777216 from rfl]
        go_wp2_with fail
        refine ⟨hS, ?_⟩
        repeat (refine plan_t (by rfl) ?_; (first | go_big_quiet_skip | (go_big_quiet_want; go_big_quiet_op; go_big_quiet_on)); refine wpQuiet_nil ?_)
        show Exit.then _ _ _ _ _
        rw [HJ.out]
        have E : Hid (wholeM (largest + 1) low (powW 3) = wfin (largest + 1) ((largest + 1) / 16777216 * 16777216 + low % 16777216) 16777216) := Lib.hid rfl
        obtain ⟨c, hc⟩ : ∃ c, (largest + 1) / 16777216 * 16777216 + low % 16777216 = c := ⟨_, rfl⟩
        have hc1 : 0 ≤ c ∧ c ≤ (largest + 1) + 16777216 := by omega
        rw [hc] at E ⊢
        clear hc HJ
        by_cases h1 : c + 8388608 ≤ (largest + 1)
        · by_cases h2 : c < 4611686018427387904 - 16777216
          · have F : Hid (wholeM (largest + 1) low (powW 3) = c + 16777216) := Lib.hid (E.out.trans (wfin1 ⟨h1, h2⟩))
            clear E
            go_wp2_with fail
            all_goals (go_ret; exact ⟨by rw [F.out]; rfl, hS⟩)
          · have F : Hid (wholeM (largest + 1) low (powW 3) = c) := Lib.hid (E.out.trans (wfin3 (fun h => h2 h.2) (fun h => by have := h.1; omega)))
            clear E
            go_wp2_with fail
            all_goals (go_ret; exact ⟨by rw [F.out]; rfl, hS⟩)
        · by_cases h3 : (largest + 1) + 8388608 < c
          · by_cases h4 : 16777216 ≤ c
            · have F : Hid (wholeM (largest + 1) low (powW 3) = c - 16777216) := Lib.hid (E.out.trans (wfin2 (fun h => h1 h.1) ⟨h3, h4⟩))
              clear E
              go_wp2_with fail
              all_goals (go_ret; exact ⟨by rw [F.out]; rfl, hS⟩)
            · have F : Hid (wholeM (largest + 1) low (powW 3) = c) := Lib.hid (E.out.trans (wfin3 (fun h => h1 h.1) (fun h => h4 h.2)))
              clear E
              go_wp2_with fail
              all_goals (go_ret; exact ⟨by rw [F.out]; rfl, hS⟩)
          · have F : Hid (wholeM (largest + 1) low (powW 3) = c) := Lib.hid (E.out.trans (wfin3 (fun h => h1 h.1) (fun h => h3 h.1)))
            clear E
            go_wp2_with fail
            all_goals (go_ret; exact ⟨by rw [F.out]; rfl, hS⟩)
      · have HJ := Lib.hid (or_join (largest + 1) low 4294967296 32 (by decide) (by omega) (by omega))
        go_wp2_with fail
        go_quiet (fail)
        go_wp2_with fail
        refine wp_plan (.t 0 (.t 1 (.t 2 (.t 3 (.t 4 (.t 5 (.t 6 (.t 7 (.u 8 (.t 9 (.t 10 .done)))))))))))
          (fun w2 => Below w'.heap.size w' w2) (by kernel_rfl) (by kernel_rfl) (by kernel_rfl) (fun c a d v w h => by cases d <;> exact h) (bl_drewN (bl_drewN (Below.refl _ _) nq) 1) ?_
        have hS : Below w'.heap.size w' (w'.drewN nq).drew := bl_drewN (bl_drewN (Below.refl _ _) nq) 1
        generalize (w'.drewN nq).drew = W1 at hS ⊢
        haveI hne : Nonempty (In fun w2 => Below w'.heap.size w' w2) := ⟨⟨w', Below.refl _ _⟩⟩
        repeat (refine plan_t (by rfl) ?_; (first | go_big_quiet_skip | (go_big_quiet_want; go_big_quiet_op; go_big_quiet_on)); refine wpQuiet_nil ?_)
        refine plan_us (by rfl) (by kernel_rfl) ?_
        intro K hK
        go_wp2_with fail
        refine Calls.mono (low_any _ _ 32 ⟨by omega, by omega⟩) ?_
        rintro e W2 ⟨rfl, rfl⟩
        rw [show lowM low 32 = low % 4294967296 from rfl]
        go_wp2_with fail
        refine ⟨hS, ?_⟩
        repeat (refine plan_t (by rfl) ?_; (first | go_big_quiet_skip | (go_big_quiet_want; go_big_quiet_op; go_big_quiet_on)); refine wpQuiet_nil ?_)
        show Exit.then _ _ _ _ _
        rw [HJ.out]
        have E : Hid (wholeM (largest + 1) low (powW 4) = wfin (largest + 1) ((largest + 1) / 4294967296 * 4294967296 + low % 4294967296) 4294967296) := Lib.hid rfl
        obtain ⟨c, hc⟩ : ∃ c, (largest + 1) / 4294967296 * 4294967296 + low % 4294967296 = c := ⟨_, rfl⟩
        have hc1 : 0 ≤ c ∧ c ≤ (largest + 1) + 4294967296 := by omega
        rw [hc] at E ⊢
        clear hc HJ
        by_cases h1 : c + 2147483648 ≤ (largest + 1)
        · by_cases h2 : c < 4611686018427387904 - 4294967296
          · have F : Hid (wholeM (largest + 1) low (powW 4) = c + 4294967296) := Lib.hid (E.out.trans (wfin1 ⟨h1, h2⟩))
            clear E
            go_wp2_with fail
            all_goals (go_ret; exact ⟨by rw [F.out]; rfl, hS⟩)
          · have F : Hid (wholeM (largest + 1) low (powW 4) = c) := Lib.hid (E.out.trans (wfin3 (fun h => h2 h.2) (fun h => by have := h.1; omega)))
            clear E
            go_wp2_with fail
            all_goals (go_ret; exact ⟨by rw [F.out]; rfl, hS⟩)
        · by_cases h3 : (largest + 1) + 2147483648 < c
          · by_cases h4 : 4294967296 ≤ c
            · have F : Hid (wholeM (largest + 1) low (powW 4) = c - 4294967296) := Lib.hid (E.out.trans (wfin2 (fun h => h1 h.1) ⟨h3, h4⟩))
              clear E
              go_wp2_with fail
              all_goals (go_ret; exact ⟨by rw [F.out]; rfl, hS⟩)
            · have F : Hid (wholeM (largest + 1) low (powW 4) = c) := Lib.hid (E.out.trans (wfin3 (fun h => h1 h.1) (fun h => h4 h.2)))
              clear E
              go_wp2_with fail
              all_goals (go_ret; exact ⟨by rw [F.out]; rfl, hS⟩)
          · have F : Hid (wholeM (largest + 1) low (powW 4) = c) := Lib.hid (E.out.trans (wfin3 (fun h => h1 h.1) (fun h => h3 h.1)))
            clear E
            go_wp2_with fail
            all_goals (go_ret; exact ⟨by rw [F.out]; rfl, hS⟩)
    · obtain rfl : nx = 4611686018427387904 := by rw [← HX.out]; simp [nxM, hmax]
      clear HX
      go_wp2_with fail
      refine Calls.mono (HWIDE.out _) ?_
      rintro e w' ⟨rfl, rfl⟩
      rcases hm with rfl | rfl | rfl | rfl
      · have HJ : Hid (bits BinOp.or IntKind.u64 4611686018427387904 (low % 256) = 4611686018427387904 + low % 256) := Lib.hid (or_join 4611686018427387904 low 256 8 (by decide) (by omega) (by omega))
        go_wp2_with fail
        go_quiet (fail)
        go_wp2_with fail
        refine wp_plan (.t 0 (.t 1 (.t 2 (.t 3 (.t 4 (.t 5 (.t 6 (.t 7 (.u 8 (.t 9 (.t 10 .done)))))))))))
          (fun w2 => Below w'.heap.size w' w2) (by kernel_rfl) (by kernel_rfl) (by kernel_rfl) (fun c a d v w h => by cases d <;> exact h) (bl_drewN (bl_drewN (Below.refl _ _) nq) 1) ?_
        have hS : Below w'.heap.size w' (w'.drewN nq).drew := bl_drewN (bl_drewN (Below.refl _ _) nq) 1
        generalize (w'.drewN nq).drew = W1 at hS ⊢
        haveI hne : Nonempty (In fun w2 => Below w'.heap.size w' w2) := ⟨⟨w', Below.refl _ _⟩⟩
        repeat (refine plan_t (by rfl) ?_; (first | go_big_quiet_skip | (go_big_quiet_want; go_big_quiet_op; go_big_quiet_on)); refine wpQuiet_nil ?_)
        refine plan_us (by rfl) (by kernel_rfl) ?_
        intro K hK
        go_wp2_with fail
        refine Calls.mono (low_any _ _ 8 ⟨by omega, by omega⟩) ?_
        rintro e W2 ⟨rfl, rfl⟩
        rw [show lowM low 8 = low % 256 from rfl]
        go_wp2_with fail
        refine ⟨hS, ?_⟩
        repeat (refine plan_t (by rfl) ?_; (first | go_big_quiet_skip | (go_big_quiet_want; go_big_quiet_op; go_big_quiet_on)); refine wpQuiet_nil ?_)
        show Exit.then _ _ _ _ _
        rw [HJ.out]
        have E : Hid (wholeM 4611686018427387904 low (powW 1) = wfin 4611686018427387904 (4611686018427387904 + low % 256) 256) := Lib.hid rfl
        obtain ⟨c, hc⟩ : ∃ c, 4611686018427387904 + low % 256 = c := ⟨_, rfl⟩
        have hc1 : 0 ≤ c ∧ c ≤ 4611686018427387904 + 256 := by omega
        rw [hc] at E ⊢
        clear hc HJ
        by_cases h1 : c + 128 ≤ 4611686018427387904
        · by_cases h2 : c < 4611686018427387904 - 256
          · have F : Hid (wholeM 4611686018427387904 low (powW 1) = c + 256) := Lib.hid (E.out.trans (wfin1 ⟨h1, h2⟩))
            clear E
            go_wp2_with fail
            all_goals (go_ret; exact ⟨by rw [F.out]; rfl, hS⟩)
          · have F : Hid (wholeM 4611686018427387904 low (powW 1) = c) := Lib.hid (E.out.trans (wfin3 (fun h => h2 h.2) (fun h => by have := h.1; omega)))
            clear E
            go_wp2_with fail
            all_goals (go_ret; exact ⟨by rw [F.out]; rfl, hS⟩)
        · by_cases h3 : 4611686018427387904 + 128 < c
          · by_cases h4 : 256 ≤ c
            · have F : Hid (wholeM 4611686018427387904 low (powW 1) = c - 256) := Lib.hid (E.out.trans (wfin2 (fun h => h1 h.1) ⟨h3, h4⟩))
              clear E
              go_wp2_with fail
              all_goals (go_ret; exact ⟨by rw [F.out]; rfl, hS⟩)
            · have F : Hid (wholeM 4611686018427387904 low (powW 1) = c) := Lib.hid (E.out.trans (wfin3 (fun h => h1 h.1) (fun h => h4 h.2)))
              clear E
              go_wp2_with fail
              all_goals (go_ret; exact ⟨by rw [F.out]; rfl, hS⟩)
          · have F : Hid (wholeM 4611686018427387904 low (powW 1) = c) := Lib.hid (E.out.trans (wfin3 (fun h => h1 h.1) (fun h => h3 h.1)))
            clear E
            go_wp2_with fail
            all_goals (go_ret; exact ⟨by rw [F.out]; rfl, hS⟩)
      · have HJ : Hid (bits BinOp.or IntKind.u64 4611686018427387904 (low % 65536) = 4611686018427387904 + low % 65536) := Lib.hid (or_join 4611686018427387904 low 65536 16 (by decide) (by omega) (by omega))
        go_wp2_with fail
        go_quiet (fail)
        go_wp2_with fail
        refine wp_plan (.t 0 (.t 1 (.t 2 (.t 3 (.t 4 (.t 5 (.t 6 (.t 7 (.u 8 (.t 9 (.t 10 .done)))))))))))
          (fun w2 => Below w'.heap.size w' w2) (by kernel_rfl) (by kernel_rfl) (by kernel_rfl) (fun c a d v w h => by cases d <;> exact h) (bl_drewN (bl_drewN (Below.refl _ _) nq) 1) ?_
        have hS : Below w'.heap.size w' (w'.drewN nq).drew := bl_drewN (bl_drewN (Below.refl _ _) nq) 1
        generalize (w'.drewN nq).drew = W1 at hS ⊢
        haveI hne : Nonempty (In fun w2 => Below w'.heap.size w' w2) := ⟨⟨w', Below.refl _ _⟩⟩
        repeat (refine plan_t (by rfl) ?_; (first | go_big_quiet_skip | (go_big_quiet_want; go_big_quiet_op; go_big_quiet_on)); refine wpQuiet_nil ?_)
        refine plan_us (by rfl) (by kernel_rfl) ?_
        intro K hK
        go_wp2_with fail
        refine Calls.mono (low_any _ _ 16 ⟨by omega, by omega⟩) ?_
        rintro e W2 ⟨rfl, rfl⟩
        rw [show lowM low 16 = low % 65536 from rfl]
        go_wp2_with fail
        refine ⟨hS, ?_⟩
        repeat (refine plan_t (by rfl) ?_; (first | go_big_quiet_skip | (go_big_quiet_want; go_big_quiet_op; go_big_quiet_on)); refine wpQuiet_nil ?_)
        show Exit.then _ _ _ _ _
        rw [HJ.out]
        have E : Hid (wholeM 4611686018427387904 low (powW 2) = wfin 4611686018427387904 (4611686018427387904 + low % 65536) 65536) := Lib.hid rfl
        obtain ⟨c, hc⟩ : ∃ c, 4611686018427387904 + low % 65536 = c := ⟨_, rfl⟩
        have hc1 : 0 ≤ c ∧ c ≤ 4611686018427387904 + 65536 := by omega
        rw [hc] at E ⊢
        clear hc HJ
        by_cases h1 : c + 32768 ≤ 4611686018427387904
        · by_cases h2 : c < 4611686018427387904 - 65536
          · have F : Hid (wholeM 4611686018427387904 low (powW 2) = c + 65536) := Lib.hid (E.out.trans (wfin1 ⟨h1, h2⟩))
            clear E
            go_wp2_with fail
            all_goals (go_ret; exact ⟨by rw [F.out]; rfl, hS⟩)
          · have F : Hid (wholeM 4611686018427387904 low (powW 2) = c) := Lib.hid (E.out.trans (wfin3 (fun h => h2 h.2) (fun h => by have := h.1; omega)))
            clear E
            go_wp2_with fail
            all_goals (go_ret; exact ⟨by rw [F.out]; rfl, hS⟩)
        · by_cases h3 : 4611686018427387904 + 32768 < c
          · by_cases h4 : 65536 ≤ c
            · have F : Hid (wholeM 4611686018427387904 low (powW 2) = c - 65536) := Lib.hid (E.out.trans (wfin2 (fun h => h1 h.1) ⟨h3, h4⟩))
              clear E
              go_wp2_with fail
              all_goals (go_ret; exact ⟨by rw [F.out]; rfl, hS⟩)
            · have F : Hid (wholeM 4611686018427387904 low (powW 2) = c) := Lib.hid (E.out.trans (wfin3 (fun h => h1 h.1) (fun h => h4 h.2)))
              clear E
              go_wp2_with fail
              all_goals (go_ret; exact ⟨by rw [F.out]; rfl, hS⟩)
          · have F : Hid (wholeM 4611686018427387904 low (powW 2) = c) := Lib.hid (E.out.trans (wfin3 (fun h => h1 h.1) (fun h => h3 h.1)))
            clear E
            go_wp2_with fail
            all_goals (go_ret; exact ⟨by rw [F.out]; rfl, hS⟩)
      · have HJ : Hid (bits BinOp.or IntKind.u64 4611686018427387904 (low % 16777216) = 4611686018427387904 + low % 16777216) := Lib.hid (or_join 4611686018427387904 low 16777216 24 (by decide) (by omega) (by omega))
        go_wp2_with fail
        go_quiet (fail)
        go_wp2_with fail
        refine wp_plan (.t 0 (.t 1 (.t 2 (.t 3 (.t 4 (.t 5 (.t 6 (.t 7 (.u 8 (.t 9 (.t 10 .done)))))))))))
          (fun w2 => Below w'.heap.size w' w2) (by kernel_rfl) (by kernel_rfl) (by kernel_rfl) (fun c a d v w h => by cases d <;> exact h) (bl_drewN (bl_drewN (Below.refl _ _) nq) 1) ?_
        have hS : Below w'.heap.size w' (w'.drewN nq).drew := bl_drewN (bl_drewN (Below.refl _ _) nq) 1
        generalize (w'.drewN nq).drew = W1 at hS ⊢
        haveI hne : Nonempty (In fun w2 => Below w'.heap.size w' w2) := ⟨⟨w', Below.refl _ _⟩⟩
        repeat (refine plan_t (by rfl) ?_; (first | go_big_quiet_skip | (go_big_quiet_want; go_big_quiet_op; go_big_quiet_on)); refine wpQuiet_nil ?_)
        refine plan_us (by rfl) (by kernel_rfl) ?_
        intro K hK
        go_wp2_with fail
        refine Calls.mono (low_any _ _ 24 ⟨by omega, by omega⟩) ?_
        rintro e W2 ⟨rfl, rfl⟩
        rw [show lowM low 24 = low % 16777216 from rfl]
        go_wp2_with fail
        refine ⟨hS, ?_⟩
        repeat (refine plan_t (by rfl) ?_; (first | go_big_quiet_skip | (go_big_quiet_want; go_big_quiet_op; go_big_quiet_on)); refine wpQuiet_nil ?_)
        show Exit.then _ _ _ _ _
        rw [HJ.out]
        have E : Hid (wholeM 4611686018427387904 low (powW 3) = wfin 4611686018427387904 (4611686018427387904 + low % 16777216) 16777216) := Lib.hid rfl
        obtain ⟨c, hc⟩ : ∃ c, 4611686018427387904 + low % 16777216 = c := ⟨_, rfl⟩
        have hc1 : 0 ≤ c ∧ c ≤ 4611686018427387904 + 16777216 := by omega
        rw [hc] at E ⊢
        clear hc HJ
        by_cases h1 : c + 8388608 ≤ 4611686018427387904
        · by_cases h2 : c < 4611686018427387904 - 16777216
          · have F : Hid (wholeM 4611686018427387904 low (powW 3) = c + 16777216) := Lib.hid (E.out.trans (wfin1 ⟨h1, h2⟩))
            clear E
            go_wp2_with fail
            all_goals (go_ret; exact ⟨by rw [F.out]; rfl, hS⟩)
          · have F : Hid (wholeM 4611686018427387904 low (powW 3) = c) := Lib.hid (E.out.trans (wfin3 (fun h => h2 h.2) (fun h => by have := h.1; omega)))
            clear E
            go_wp2_with fail
            all_goals (go_ret; exact ⟨by rw [F.out]; rfl, hS⟩)
        · by_cases h3 : 4611686018427387904 + 8388608 < c
          · by_cases h4 : 16777216 ≤ c
            · have F : Hid (wholeM 4611686018427387904 low (powW 3) = c - 16777216) := Lib.hid (E.out.trans (wfin2 (fun h => h1 h.1) ⟨h3, h4⟩))
              clear E
              go_wp2_with fail
              all_goals (go_ret; exact ⟨by rw [F.out]; rfl, hS⟩)
            · have F : Hid (wholeM 4611686018427387904 low (powW 3) = c) := Lib.hid (E.out.trans (wfin3 (fun h => h1 h.1) (fun h => h4 h.2)))
              clear E
              go_wp2_with fail
              all_goals (go_ret; exact ⟨by rw [F.out]; rfl, hS⟩)
          · have F : Hid (wholeM 4611686018427387904 low (powW 3) = c) := Lib.hid (E.out.trans (wfin3 (fun h => h1 h.1) (fun h => h3 h.1)))
            clear E
            go_wp2_with fail
            all_goals (go_ret; exact ⟨by rw [F.out]; rfl, hS⟩)
      · have HJ : Hid (bits BinOp.or IntKind.u64 4611686018427387904 (low % 4294967296) = 4611686018427387904 + low % 4294967296) := Lib.hid (or_join 4611686018427387904 low 4294967296 32 (by decide) (by omega) (by omega))
        go_wp2_with fail
        go_quiet (fail)
        go_wp2_with fail
        refine wp_plan (.t 0 (.t 1 (.t 2 (.t 3 (.t 4 (.t 5 (.t 6 (.t 7 (.u 8 (.t 9 (.t 10 .done)))))))))))
          (fun w2 => Below w'.heap.size w' w2) (by kernel_rfl) (by kernel_rfl) (by kernel_rfl) (fun c a d v w h => by cases d <;> exact h) (bl_drewN (bl_drewN (Below.refl _ _) nq) 1) ?_
        have hS : Below w'.heap.size w' (w'.drewN nq).drew := bl_drewN (bl_drewN (Below.refl _ _) nq) 1
        generalize (w'.drewN nq).drew = W1 at hS ⊢
        haveI hne : Nonempty (In fun w2 => Below w'.heap.size w' w2) := ⟨⟨w', Below.refl _ _⟩⟩
        repeat (refine plan_t (by rfl) ?_; (first | go_big_quiet_skip | (go_big_quiet_want; go_big_quiet_op; go_big_quiet_on)); refine wpQuiet_nil ?_)
        refine plan_us (by rfl) (by kernel_rfl) ?_
        intro K hK
        go_wp2_with fail
        refine Calls.mono (low_any _ _ 32 ⟨by omega, by omega⟩) ?_
        rintro e W2 ⟨rfl, rfl⟩
        rw [show lowM low 32 = low % 4294967296 from rfl]
        go_wp2_with fail
        refine ⟨hS, ?_⟩
        repeat (refine plan_t (by rfl) ?_; (first | go_big_quiet_skip | (go_big_quiet_want; go_big_quiet_op; go_big_quiet_on)); refine wpQuiet_nil ?_)
        show Exit.then _ _ _ _ _
        rw [HJ.out]
        have E : Hid (wholeM 4611686018427387904 low (powW 4) = wfin 4611686018427387904 (4611686018427387904 + low % 4294967296) 4294967296) := Lib.hid rfl
        obtain ⟨c, hc⟩ : ∃ c, 4611686018427387904 + low % 4294967296 = c := ⟨_, rfl⟩
        have hc1 : 0 ≤ c ∧ c ≤ 4611686018427387904 + 4294967296 := by omega
        rw [hc] at E ⊢
        clear hc HJ
        by_cases h1 : c + 2147483648 ≤ 4611686018427387904
        · by_cases h2 : c < 4611686018427387904 - 4294967296
          · have F : Hid (wholeM 4611686018427387904 low (powW 4) = c + 4294967296) := Lib.hid (E.out.trans (wfin1 ⟨h1, h2⟩))
            clear E
            go_wp2_with fail
            all_goals (go_ret; exact ⟨by rw [F.out]; rfl, hS⟩)
          · have F : Hid (wholeM 4611686018427387904 low (powW 4) = c) := Lib.hid (E.out.trans (wfin3 (fun h => h2 h.2) (fun h => by have := h.1; omega)))
            clear E
            go_wp2_with fail
            all_goals (go_ret; exact ⟨by rw [F.out]; rfl, hS⟩)
        · by_cases h3 : 4611686018427387904 + 2147483648 < c
          · by_cases h4 : 4294967296 ≤ c
            · have F : Hid (wholeM 4611686018427387904 low (powW 4) = c - 4294967296) := Lib.hid (E.out.trans (wfin2 (fun h => h1 h.1) ⟨h3, h4⟩))
              clear E
              go_wp2_with fail
              all_goals (go_ret; exact ⟨by rw [F.out]; rfl, hS⟩)
            · have F : Hid (wholeM 4611686018427387904 low (powW 4) = c) := Lib.hid (E.out.trans (wfin3 (fun h => h1 h.1) (fun h => h4 h.2)))
              clear E
              go_wp2_with fail
              all_goals (go_ret; exact ⟨by rw [F.out]; rfl, hS⟩)
          · have F : Hid (wholeM 4611686018427387904 low (powW 4) = c) := Lib.hid (E.out.trans (wfin3 (fun h => h1 h.1) (fun h => h3 h.1)))
            clear E
            go_wp2_with fail
            all_goals (go_ret; exact ⟨by rw [F.out]; rfl, hS⟩)
end Go.Proofs.Ythofbckkjcidmaa
namespace Go.Proofs.Ythofbckkjcidmaa
open Go.RowKit
set_option linter.unusedVariables false

theorem wM_ways (k : Int) : (k < 1 ∧ wM k = 1) ∨ (k = 1 ∧ wM k = 1) ∨ (k = 2 ∧ wM k = 2) ∨ (k = 3 ∧ wM k = 3) ∨ (k = 4 ∧ wM k = 4) ∨ (4 < k ∧ wM k = 4) := by
  unfold wM; split
  · omega
  · split <;> omega
set_option maxRecDepth 100000 in
theorem rcut_any (w : World) (n k : Int) (hn : 0 ≤ n ∧ n < 18446744073709551616) : Calls Try.prog 39 #[.int .u64 n, .int .i64 k] w fun e w' => e = .returned (.int .u32 (cutM n (wM k))) ∧ w' = w := by
  have hm := wM_ways k
  obtain ⟨m, hm2⟩ : ∃ m, wM k = m := ⟨_, rfl⟩
  rw [hm2] at hm ⊢
  clear hm2
  go_enter Try.func39, Try.ntmps39
  rcases hm with ⟨hk, rfl⟩ | ⟨rfl, rfl⟩ | ⟨rfl, rfl⟩ | ⟨rfl, rfl⟩ | ⟨rfl, rfl⟩ | ⟨hk, rfl⟩
  · have HM : Hid (cutM n 1 = bits .and .u64 n 255 % 4294967296) := Lib.hid (by show n % 256 = _; have := and_mask n 8 hn.1 hn.2 (by omega); rw [show (2 : Int) ^ 8 - 1 = 255 from by decide, show (2 : Int) ^ 8 = 256 from by decide] at this; omega)
    go_wp2_with fail
    go_ret
    exact ⟨by rw [HM.out]; rfl, rfl⟩
  · have HM : Hid (cutM n 1 = bits .and .u64 n 255 % 4294967296) := Lib.hid (by show n % 256 = _; have := and_mask n 8 hn.1 hn.2 (by omega); rw [show (2 : Int) ^ 8 - 1 = 255 from by decide, show (2 : Int) ^ 8 = 256 from by decide] at this; omega)
    go_wp2_with fail
    go_ret
    exact ⟨by rw [HM.out]; rfl, rfl⟩
  · have HM : Hid (cutM n 2 = bits .and .u64 n 65535 % 4294967296) := Lib.hid (by show n % 65536 = _; have := and_mask n 16 hn.1 hn.2 (by omega); rw [show (2 : Int) ^ 16 - 1 = 65535 from by decide, show (2 : Int) ^ 16 = 65536 from by decide] at this; omega)
    go_wp2_with fail
    go_ret
    exact ⟨by rw [HM.out]; rfl, rfl⟩
  · have HM : Hid (cutM n 3 = bits .and .u64 n 16777215 % 4294967296) := Lib.hid (by show n % 16777216 = _; have := and_mask n 24 hn.1 hn.2 (by omega); rw [show (2 : Int) ^ 24 - 1 = 16777215 from by decide, show (2 : Int) ^ 24 = 16777216 from by decide] at this; omega)
    go_wp2_with fail
    go_ret
    exact ⟨by rw [HM.out]; rfl, rfl⟩
  · have HM : Hid (cutM n 4 = bits .and .u64 n 4294967295 % 4294967296) := Lib.hid (by show n % 4294967296 = _; have := and_mask n 32 hn.1 hn.2 (by omega); rw [show (2 : Int) ^ 32 - 1 = 4294967295 from by decide, show (2 : Int) ^ 32 = 4294967296 from by decide] at this; omega)
    go_wp2_with fail
    go_ret
    exact ⟨by rw [HM.out]; rfl, rfl⟩
  · have HM : Hid (cutM n 4 = bits .and .u64 n 4294967295 % 4294967296) := Lib.hid (by show n % 4294967296 = _; have := and_mask n 32 hn.1 hn.2 (by omega); rw [show (2 : Int) ^ 32 - 1 = 4294967295 from by decide, show (2 : Int) ^ 32 = 4294967296 from by decide] at this; omega)
    go_wp2_with fail
    go_ret
    exact ⟨by rw [HM.out]; rfl, rfl⟩
end Go.Proofs.Ythofbckkjcidmaa
namespace Go.Proofs.Ythofbckkjcidmaa
open Go.RowKit
set_option linter.unusedVariables false

set_option maxRecDepth 100000 in
set_option maxHeartbeats 4000000 in
theorem rwhole_any (w : World) (largest low k : Int) (has : Bool) (hl : 0 ≤ largest ∧ largest < 18446744073709551616) (hlow : 0 ≤ low ∧ low < 4294967296) :
    Makes Try.prog 67 #[.int .u64 largest, .bool has, .int .u32 low, .int .i64 k] w (.int .u64 (wholeM (nxM largest has) low (powW (wM k)))) := by
  have HCUT : Hid (∀ w k, Calls Try.prog 39 #[.int .u64 low, .int .i64 k] w fun e w' => e = .returned (.int .u32 (cutM low (wM k))) ∧ w' = w) := Lib.hid (fun w k => rcut_any w low k ⟨by omega, by omega⟩)
  obtain ⟨nx, hx⟩ : ∃ nx, nxM largest has = nx := ⟨_, rfl⟩
  rw [hx]
  have HX := Lib.hid hx; clear hx
  have hm := wM_ways k
  obtain ⟨m, hm2⟩ : ∃ m, wM k = m := ⟨_, rfl⟩
  rw [hm2] at hm ⊢
  clear hm2
  go_enter Try.func67, Try.ntmps67
  cases has
  · obtain rfl : nx = 0 := by rw [← HX.out]; rfl
    clear HX
    all_goals skip
    rcases hm with ⟨hk, rfl⟩ | ⟨rfl, rfl⟩ | ⟨rfl, rfl⟩ | ⟨rfl, rfl⟩ | ⟨rfl, rfl⟩ | ⟨hk, rfl⟩
    · have HCUT2 := Lib.hid (fun w => HCUT.out w 1)
      clear HCUT
      have HCUT : Hid (∀ w, Calls Try.prog 39 #[.int .u64 low, .int .i64 1] w fun e w' => e = .returned (.int .u32 (cutM low 1)) ∧ w' = w) := Lib.hid (fun w => HCUT2.out w); clear HCUT2
      go_wp2_with fail
      refine wp_plan (.t 0 (.t 1 (.t 2 (.t 3 (.t 4 (.t 5 (.t 6 (.t 7 (.u 8 (.t 9 (.t 10 (.t 11 .done))))))))))))
        (fun w2 => Below w.heap.size w w2) (by kernel_rfl) (by kernel_rfl) (by kernel_rfl) (fun c a d v w h => by cases d <;> exact h) (Below.refl _ _).drew ?_
      have hS : Below w.heap.size w w.drew := (Below.refl _ _).drew
      generalize w.drew = W1 at hS ⊢
      haveI hne : Nonempty (In fun w2 => Below w.heap.size w w2) := ⟨⟨w, Below.refl _ _⟩⟩
      repeat (refine plan_t (by rfl) ?_; (first | go_big_quiet_skip | (go_big_quiet_want; go_big_quiet_op; go_big_quiet_on)); refine wpQuiet_nil ?_)
      refine plan_us (by rfl) (by kernel_rfl) ?_
      intro K hK
      go_wp2_with fail
      refine Calls.mono (HCUT.out _) ?_
      rintro e W2 ⟨rfl, rfl⟩
      rw [show cutM low 1 = low % 256 from rfl]
      go_wp2_with fail
      refine ⟨hS, ?_⟩
      repeat (refine plan_t (by rfl) ?_; (first | go_big_quiet_skip | (go_big_quiet_want; go_big_quiet_op; go_big_quiet_on)); refine wpQuiet_nil ?_)
      show Exit.then _ _ _ _ _
      have E : Hid (wholeM 0 low (powW 1) = wfin 0 (low % 256) 256) := Lib.hid (by show wfin 0 (0 / 256 * 256 + low % 256) 256 = _; rw [show (0 : Int) / 256 * 256 + low % 256 = low % 256 by omega])
      obtain ⟨c, hc⟩ : ∃ c, low % 256 = c := ⟨_, rfl⟩
      have hc1 : 0 ≤ c ∧ c ≤ 0 + 256 := by omega
      rw [hc] at E
      rw [hc]
      by_cases h1 : c + 128 ≤ 0
      · by_cases h2 : c < 4611686018427387904 - 256
        · have F : Hid (wholeM 0 low (powW 1) = c + 256) := Lib.hid (E.out.trans (wfin1 ⟨h1, h2⟩))
          clear E
          go_wp2_with fail
          all_goals (go_ret; exact ⟨by rw [F.out]; rfl, hS⟩)
        · have F : Hid (wholeM 0 low (powW 1) = c) := Lib.hid (E.out.trans (wfin3 (fun h => h2 h.2) (fun h => by have := h.1; omega)))
          clear E
          go_wp2_with fail
          all_goals (go_ret; exact ⟨by rw [F.out]; rfl, hS⟩)
      · by_cases h3 : 0 + 128 < c
        · by_cases h4 : 256 ≤ c
          · have F : Hid (wholeM 0 low (powW 1) = c - 256) := Lib.hid (E.out.trans (wfin2 (fun h => h1 h.1) ⟨h3, h4⟩))
            clear E
            go_wp2_with fail
            all_goals (go_ret; exact ⟨by rw [F.out]; rfl, hS⟩)
          · have F : Hid (wholeM 0 low (powW 1) = c) := Lib.hid (E.out.trans (wfin3 (fun h => h1 h.1) (fun h => h4 h.2)))
            clear E
            go_wp2_with fail
            all_goals (go_ret; exact ⟨by rw [F.out]; rfl, hS⟩)
        · have F : Hid (wholeM 0 low (powW 1) = c) := Lib.hid (E.out.trans (wfin3 (fun h => h1 h.1) (fun h => h3 h.1)))
          clear E
          go_wp2_with fail
          all_goals (go_ret; exact ⟨by rw [F.out]; rfl, hS⟩)
    · have HCUT2 := Lib.hid (fun w => HCUT.out w 1)
      clear HCUT
      have HCUT : Hid (∀ w, Calls Try.prog 39 #[.int .u64 low, .int .i64 1] w fun e w' => e = .returned (.int .u32 (cutM low 1)) ∧ w' = w) := Lib.hid (fun w => HCUT2.out w); clear HCUT2
      go_wp2_with fail
      refine wp_plan (.t 0 (.t 1 (.t 2 (.t 3 (.t 4 (.t 5 (.t 6 (.t 7 (.u 8 (.t 9 (.t 10 (.t 11 .done))))))))))))
        (fun w2 => Below w.heap.size w w2) (by kernel_rfl) (by kernel_rfl) (by kernel_rfl) (fun c a d v w h => by cases d <;> exact h) (Below.refl _ _).drew ?_
      have hS : Below w.heap.size w w.drew := (Below.refl _ _).drew
      generalize w.drew = W1 at hS ⊢
      haveI hne : Nonempty (In fun w2 => Below w.heap.size w w2) := ⟨⟨w, Below.refl _ _⟩⟩
      repeat (refine plan_t (by rfl) ?_; (first | go_big_quiet_skip | (go_big_quiet_want; go_big_quiet_op; go_big_quiet_on)); refine wpQuiet_nil ?_)
      refine plan_us (by rfl) (by kernel_rfl) ?_
      intro K hK
      go_wp2_with fail
      refine Calls.mono (HCUT.out _) ?_
      rintro e W2 ⟨rfl, rfl⟩
      rw [show cutM low 1 = low % 256 from rfl]
      go_wp2_with fail
      refine ⟨hS, ?_⟩
      repeat (refine plan_t (by rfl) ?_; (first | go_big_quiet_skip | (go_big_quiet_want; go_big_quiet_op; go_big_quiet_on)); refine wpQuiet_nil ?_)
      show Exit.then _ _ _ _ _
      have E : Hid (wholeM 0 low (powW 1) = wfin 0 (low % 256) 256) := Lib.hid (by show wfin 0 (0 / 256 * 256 + low % 256) 256 = _; rw [show (0 : Int) / 256 * 256 + low % 256 = low % 256 by omega])
      obtain ⟨c, hc⟩ : ∃ c, low % 256 = c := ⟨_, rfl⟩
      have hc1 : 0 ≤ c ∧ c ≤ 0 + 256 := by omega
      rw [hc] at E
      rw [hc]
      by_cases h1 : c + 128 ≤ 0
      · by_cases h2 : c < 4611686018427387904 - 256
        · have F : Hid (wholeM 0 low (powW 1) = c + 256) := Lib.hid (E.out.trans (wfin1 ⟨h1, h2⟩))
          clear E
          go_wp2_with fail
          all_goals (go_ret; exact ⟨by rw [F.out]; rfl, hS⟩)
        · have F : Hid (wholeM 0 low (powW 1) = c) := Lib.hid (E.out.trans (wfin3 (fun h => h2 h.2) (fun h => by have := h.1; omega)))
          clear E
          go_wp2_with fail
          all_goals (go_ret; exact ⟨by rw [F.out]; rfl, hS⟩)
      · by_cases h3 : 0 + 128 < c
        · by_cases h4 : 256 ≤ c
          · have F : Hid (wholeM 0 low (powW 1) = c - 256) := Lib.hid (E.out.trans (wfin2 (fun h => h1 h.1) ⟨h3, h4⟩))
            clear E
            go_wp2_with fail
            all_goals (go_ret; exact ⟨by rw [F.out]; rfl, hS⟩)
          · have F : Hid (wholeM 0 low (powW 1) = c) := Lib.hid (E.out.trans (wfin3 (fun h => h1 h.1) (fun h => h4 h.2)))
            clear E
            go_wp2_with fail
            all_goals (go_ret; exact ⟨by rw [F.out]; rfl, hS⟩)
        · have F : Hid (wholeM 0 low (powW 1) = c) := Lib.hid (E.out.trans (wfin3 (fun h => h1 h.1) (fun h => h3 h.1)))
          clear E
          go_wp2_with fail
          all_goals (go_ret; exact ⟨by rw [F.out]; rfl, hS⟩)
    · have HCUT2 := Lib.hid (fun w => HCUT.out w 2)
      clear HCUT
      have HCUT : Hid (∀ w, Calls Try.prog 39 #[.int .u64 low, .int .i64 2] w fun e w' => e = .returned (.int .u32 (cutM low 2)) ∧ w' = w) := Lib.hid (fun w => HCUT2.out w); clear HCUT2
      go_wp2_with fail
      refine wp_plan (.t 0 (.t 1 (.t 2 (.t 3 (.t 4 (.t 5 (.t 6 (.t 7 (.u 8 (.t 9 (.t 10 (.t 11 .done))))))))))))
        (fun w2 => Below w.heap.size w w2) (by kernel_rfl) (by kernel_rfl) (by kernel_rfl) (fun c a d v w h => by cases d <;> exact h) (Below.refl _ _).drew ?_
      have hS : Below w.heap.size w w.drew := (Below.refl _ _).drew
      generalize w.drew = W1 at hS ⊢
      haveI hne : Nonempty (In fun w2 => Below w.heap.size w w2) := ⟨⟨w, Below.refl _ _⟩⟩
      repeat (refine plan_t (by rfl) ?_; (first | go_big_quiet_skip | (go_big_quiet_want; go_big_quiet_op; go_big_quiet_on)); refine wpQuiet_nil ?_)
      refine plan_us (by rfl) (by kernel_rfl) ?_
      intro K hK
      go_wp2_with fail
      refine Calls.mono (HCUT.out _) ?_
      rintro e W2 ⟨rfl, rfl⟩
      rw [show cutM low 2 = low % 65536 from rfl]
      go_wp2_with fail
      refine ⟨hS, ?_⟩
      repeat (refine plan_t (by rfl) ?_; (first | go_big_quiet_skip | (go_big_quiet_want; go_big_quiet_op; go_big_quiet_on)); refine wpQuiet_nil ?_)
      show Exit.then _ _ _ _ _
      have E : Hid (wholeM 0 low (powW 2) = wfin 0 (low % 65536) 65536) := Lib.hid (by show wfin 0 (0 / 65536 * 65536 + low % 65536) 65536 = _; rw [show (0 : Int) / 65536 * 65536 + low % 65536 = low % 65536 by omega])
      obtain ⟨c, hc⟩ : ∃ c, low % 65536 = c := ⟨_, rfl⟩
      have hc1 : 0 ≤ c ∧ c ≤ 0 + 65536 := by omega
      rw [hc] at E
      rw [hc]
      by_cases h1 : c + 32768 ≤ 0
      · by_cases h2 : c < 4611686018427387904 - 65536
        · have F : Hid (wholeM 0 low (powW 2) = c + 65536) := Lib.hid (E.out.trans (wfin1 ⟨h1, h2⟩))
          clear E
          go_wp2_with fail
          all_goals (go_ret; exact ⟨by rw [F.out]; rfl, hS⟩)
        · have F : Hid (wholeM 0 low (powW 2) = c) := Lib.hid (E.out.trans (wfin3 (fun h => h2 h.2) (fun h => by have := h.1; omega)))
          clear E
          go_wp2_with fail
          all_goals (go_ret; exact ⟨by rw [F.out]; rfl, hS⟩)
      · by_cases h3 : 0 + 32768 < c
        · by_cases h4 : 65536 ≤ c
          · have F : Hid (wholeM 0 low (powW 2) = c - 65536) := Lib.hid (E.out.trans (wfin2 (fun h => h1 h.1) ⟨h3, h4⟩))
            clear E
            go_wp2_with fail
            all_goals (go_ret; exact ⟨by rw [F.out]; rfl, hS⟩)
          · have F : Hid (wholeM 0 low (powW 2) = c) := Lib.hid (E.out.trans (wfin3 (fun h => h1 h.1) (fun h => h4 h.2)))
            clear E
            go_wp2_with fail
            all_goals (go_ret; exact ⟨by rw [F.out]; rfl, hS⟩)
        · have F : Hid (wholeM 0 low (powW 2) = c) := Lib.hid (E.out.trans (wfin3 (fun h => h1 h.1) (fun h => h3 h.1)))
          clear E
          go_wp2_with fail
          all_goals (go_ret; exact ⟨by rw [F.out]; rfl, hS⟩)
    · have HCUT2 := Lib.hid (fun w => HCUT.out w 3)
      clear HCUT
      have HCUT : Hid (∀ w, Calls Try.prog 39 #[.int .u64 low, .int .i64 3] w fun e w' => e = .returned (.int .u32 (cutM low 3)) ∧ w' = w) := Lib.hid (fun w => HCUT2.out w); clear HCUT2
      go_wp2_with fail
      refine wp_plan (.t 0 (.t 1 (.t 2 (.t 3 (.t 4 (.t 5 (.t 6 (.t 7 (.u 8 (.t 9 (.t 10 (.t 11 .done))))))))))))
        (fun w2 => Below w.heap.size w w2) (by kernel_rfl) (by kernel_rfl) (by kernel_rfl) (fun c a d v w h => by cases d <;> exact h) (Below.refl _ _).drew ?_
      have hS : Below w.heap.size w w.drew := (Below.refl _ _).drew
      generalize w.drew = W1 at hS ⊢
      haveI hne : Nonempty (In fun w2 => Below w.heap.size w w2) := ⟨⟨w, Below.refl _ _⟩⟩
      repeat (refine plan_t (by rfl) ?_; (first | go_big_quiet_skip | (go_big_quiet_want; go_big_quiet_op; go_big_quiet_on)); refine wpQuiet_nil ?_)
      refine plan_us (by rfl) (by kernel_rfl) ?_
      intro K hK
      go_wp2_with fail
      refine Calls.mono (HCUT.out _) ?_
      rintro e W2 ⟨rfl, rfl⟩
      rw [show cutM low 3 = low % 16777216 from rfl]
      go_wp2_with fail
      refine ⟨hS, ?_⟩
      repeat (refine plan_t (by rfl) ?_; (first | go_big_quiet_skip | (go_big_quiet_want; go_big_quiet_op; go_big_quiet_on)); refine wpQuiet_nil ?_)
      show Exit.then _ _ _ _ _
      have E : Hid (wholeM 0 low (powW 3) = wfin 0 (low % 16777216) 16777216) := Lib.hid (by show wfin 0 (0 / 16777216 * 16777216 + low % 16777216) 16777216 = _; rw [show (0 : Int) / 16777216 * 16777216 + low % 16777216 = low % 16777216 by omega])
      obtain ⟨c, hc⟩ : ∃ c, low % 16777216 = c := ⟨_, rfl⟩
      have hc1 : 0 ≤ c ∧ c ≤ 0 + 16777216 := by omega
      rw [hc] at E
      rw [hc]
      by_cases h1 : c + 8388608 ≤ 0
      · by_cases h2 : c < 4611686018427387904 - 16777216
        · have F : Hid (wholeM 0 low (powW 3) = c + 16777216) := Lib.hid (E.out.trans (wfin1 ⟨h1, h2⟩))
          clear E
          go_wp2_with fail
          all_goals (go_ret; exact ⟨by rw [F.out]; rfl, hS⟩)
        · have F : Hid (wholeM 0 low (powW 3) = c) := Lib.hid (E.out.trans (wfin3 (fun h => h2 h.2) (fun h => by have := h.1; omega)))
          clear E
          go_wp2_with fail
          all_goals (go_ret; exact ⟨by rw [F.out]; rfl, hS⟩)
      · by_cases h3 : 0 + 8388608 < c
        · by_cases h4 : 16777216 ≤ c
          · have F : Hid (wholeM 0 low (powW 3) = c - 16777216) := Lib.hid (E.out.trans (wfin2 (fun h => h1 h.1) ⟨h3, h4⟩))
            clear E
            go_wp2_with fail
            all_goals (go_ret; exact ⟨by rw [F.out]; rfl, hS⟩)
          · have F : Hid (wholeM 0 low (powW 3) = c) := Lib.hid (E.out.trans (wfin3 (fun h => h1 h.1) (fun h => h4 h.2)))
            clear E
            go_wp2_with fail
            all_goals (go_ret; exact ⟨by rw [F.out]; rfl, hS⟩)
        · have F : Hid (wholeM 0 low (powW 3) = c) := Lib.hid (E.out.trans (wfin3 (fun h => h1 h.1) (fun h => h3 h.1)))
          clear E
          go_wp2_with fail
          all_goals (go_ret; exact ⟨by rw [F.out]; rfl, hS⟩)
    · have HCUT2 := Lib.hid (fun w => HCUT.out w 4)
      clear HCUT
      have HCUT : Hid (∀ w, Calls Try.prog 39 #[.int .u64 low, .int .i64 4] w fun e w' => e = .returned (.int .u32 (cutM low 4)) ∧ w' = w) := Lib.hid (fun w => HCUT2.out w); clear HCUT2
      go_wp2_with fail
      refine wp_plan (.t 0 (.t 1 (.t 2 (.t 3 (.t 4 (.t 5 (.t 6 (.t 7 (.u 8 (.t 9 (.t 10 (.t 11 .done))))))))))))
        (fun w2 => Below w.heap.size w w2) (by kernel_rfl) (by kernel_rfl) (by kernel_rfl) (fun c a d v w h => by cases d <;> exact h) (Below.refl _ _).drew ?_
      have hS : Below w.heap.size w w.drew := (Below.refl _ _).drew
      generalize w.drew = W1 at hS ⊢
      haveI hne : Nonempty (In fun w2 => Below w.heap.size w w2) := ⟨⟨w, Below.refl _ _⟩⟩
      repeat (refine plan_t (by rfl) ?_; (first | go_big_quiet_skip | (go_big_quiet_want; go_big_quiet_op; go_big_quiet_on)); refine wpQuiet_nil ?_)
      refine plan_us (by rfl) (by kernel_rfl) ?_
      intro K hK
      go_wp2_with fail
      refine Calls.mono (HCUT.out _) ?_
      rintro e W2 ⟨rfl, rfl⟩
      rw [show cutM low 4 = low % 4294967296 from rfl]
      go_wp2_with fail
      refine ⟨hS, ?_⟩
      repeat (refine plan_t (by rfl) ?_; (first | go_big_quiet_skip | (go_big_quiet_want; go_big_quiet_op; go_big_quiet_on)); refine wpQuiet_nil ?_)
      show Exit.then _ _ _ _ _
      have E : Hid (wholeM 0 low (powW 4) = wfin 0 (low % 4294967296) 4294967296) := Lib.hid (by show wfin 0 (0 / 4294967296 * 4294967296 + low % 4294967296) 4294967296 = _; rw [show (0 : Int) / 4294967296 * 4294967296 + low % 4294967296 = low % 4294967296 by omega])
      obtain ⟨c, hc⟩ : ∃ c, low % 4294967296 = c := ⟨_, rfl⟩
      have hc1 : 0 ≤ c ∧ c ≤ 0 + 4294967296 := by omega
      rw [hc] at E
      rw [hc]
      by_cases h1 : c + 2147483648 ≤ 0
      · by_cases h2 : c < 4611686018427387904 - 4294967296
        · have F : Hid (wholeM 0 low (powW 4) = c + 4294967296) := Lib.hid (E.out.trans (wfin1 ⟨h1, h2⟩))
          clear E
          go_wp2_with fail
          all_goals (go_ret; exact ⟨by rw [F.out]; rfl, hS⟩)
        · have F : Hid (wholeM 0 low (powW 4) = c) := Lib.hid (E.out.trans (wfin3 (fun h => h2 h.2) (fun h => by have := h.1; omega)))
          clear E
          go_wp2_with fail
          all_goals (go_ret; exact ⟨by rw [F.out]; rfl, hS⟩)
      · by_cases h3 : 0 + 2147483648 < c
        · by_cases h4 : 4294967296 ≤ c
          · have F : Hid (wholeM 0 low (powW 4) = c - 4294967296) := Lib.hid (E.out.trans (wfin2 (fun h => h1 h.1) ⟨h3, h4⟩))
            clear E
            go_wp2_with fail
            all_goals (go_ret; exact ⟨by rw [F.out]; rfl, hS⟩)
          · have F : Hid (wholeM 0 low (powW 4) = c) := Lib.hid (E.out.trans (wfin3 (fun h => h1 h.1) (fun h => h4 h.2)))
            clear E
            go_wp2_with fail
            all_goals (go_ret; exact ⟨by rw [F.out]; rfl, hS⟩)
        · have F : Hid (wholeM 0 low (powW 4) = c) := Lib.hid (E.out.trans (wfin3 (fun h => h1 h.1) (fun h => h3 h.1)))
          clear E
          go_wp2_with fail
          all_goals (go_ret; exact ⟨by rw [F.out]; rfl, hS⟩)
    · have HCUT2 := Lib.hid (fun w => HCUT.out w 4)
      clear HCUT
      have HCUT : Hid (∀ w, Calls Try.prog 39 #[.int .u64 low, .int .i64 4] w fun e w' => e = .returned (.int .u32 (cutM low 4)) ∧ w' = w) := Lib.hid (fun w => HCUT2.out w); clear HCUT2
      go_wp2_with fail
      refine wp_plan (.t 0 (.t 1 (.t 2 (.t 3 (.t 4 (.t 5 (.t 6 (.t 7 (.u 8 (.t 9 (.t 10 (.t 11 .done))))))))))))
        (fun w2 => Below w.heap.size w w2) (by kernel_rfl) (by kernel_rfl) (by kernel_rfl) (fun c a d v w h => by cases d <;> exact h) (Below.refl _ _).drew ?_
      have hS : Below w.heap.size w w.drew := (Below.refl _ _).drew
      generalize w.drew = W1 at hS ⊢
      haveI hne : Nonempty (In fun w2 => Below w.heap.size w w2) := ⟨⟨w, Below.refl _ _⟩⟩
      repeat (refine plan_t (by rfl) ?_; (first | go_big_quiet_skip | (go_big_quiet_want; go_big_quiet_op; go_big_quiet_on)); refine wpQuiet_nil ?_)
      refine plan_us (by rfl) (by kernel_rfl) ?_
      intro K hK
      go_wp2_with fail
      refine Calls.mono (HCUT.out _) ?_
      rintro e W2 ⟨rfl, rfl⟩
      rw [show cutM low 4 = low % 4294967296 from rfl]
      go_wp2_with fail
      refine ⟨hS, ?_⟩
      repeat (refine plan_t (by rfl) ?_; (first | go_big_quiet_skip | (go_big_quiet_want; go_big_quiet_op; go_big_quiet_on)); refine wpQuiet_nil ?_)
      show Exit.then _ _ _ _ _
      have E : Hid (wholeM 0 low (powW 4) = wfin 0 (low % 4294967296) 4294967296) := Lib.hid (by show wfin 0 (0 / 4294967296 * 4294967296 + low % 4294967296) 4294967296 = _; rw [show (0 : Int) / 4294967296 * 4294967296 + low % 4294967296 = low % 4294967296 by omega])
      obtain ⟨c, hc⟩ : ∃ c, low % 4294967296 = c := ⟨_, rfl⟩
      have hc1 : 0 ≤ c ∧ c ≤ 0 + 4294967296 := by omega
      rw [hc] at E
      rw [hc]
      by_cases h1 : c + 2147483648 ≤ 0
      · by_cases h2 : c < 4611686018427387904 - 4294967296
        · have F : Hid (wholeM 0 low (powW 4) = c + 4294967296) := Lib.hid (E.out.trans (wfin1 ⟨h1, h2⟩))
          clear E
          go_wp2_with fail
          all_goals (go_ret; exact ⟨by rw [F.out]; rfl, hS⟩)
        · have F : Hid (wholeM 0 low (powW 4) = c) := Lib.hid (E.out.trans (wfin3 (fun h => h2 h.2) (fun h => by have := h.1; omega)))
          clear E
          go_wp2_with fail
          all_goals (go_ret; exact ⟨by rw [F.out]; rfl, hS⟩)
      · by_cases h3 : 0 + 2147483648 < c
        · by_cases h4 : 4294967296 ≤ c
          · have F : Hid (wholeM 0 low (powW 4) = c - 4294967296) := Lib.hid (E.out.trans (wfin2 (fun h => h1 h.1) ⟨h3, h4⟩))
            clear E
            go_wp2_with fail
            all_goals (go_ret; exact ⟨by rw [F.out]; rfl, hS⟩)
          · have F : Hid (wholeM 0 low (powW 4) = c) := Lib.hid (E.out.trans (wfin3 (fun h => h1 h.1) (fun h => h4 h.2)))
            clear E
            go_wp2_with fail
            all_goals (go_ret; exact ⟨by rw [F.out]; rfl, hS⟩)
        · have F : Hid (wholeM 0 low (powW 4) = c) := Lib.hid (E.out.trans (wfin3 (fun h => h1 h.1) (fun h => h3 h.1)))
          clear E
          go_wp2_with fail
          all_goals (go_ret; exact ⟨by rw [F.out]; rfl, hS⟩)
  · by_cases hmax : largest ≤ 4611686018427387903
    · obtain rfl : nx = largest + 1 := by rw [← HX.out]; simp [nxM, hmax]
      clear HX
      rcases hm with ⟨hk, rfl⟩ | ⟨rfl, rfl⟩ | ⟨rfl, rfl⟩ | ⟨rfl, rfl⟩ | ⟨rfl, rfl⟩ | ⟨hk, rfl⟩
      · have HCUT2 := Lib.hid (fun w => HCUT.out w 1)
        clear HCUT
        have HCUT : Hid (∀ w, Calls Try.prog 39 #[.int .u64 low, .int .i64 1] w fun e w' => e = .returned (.int .u32 (cutM low 1)) ∧ w' = w) := Lib.hid (fun w => HCUT2.out w); clear HCUT2
        go_wp2_with fail
        refine wp_plan (.t 0 (.t 1 (.t 2 (.t 3 (.t 4 (.t 5 (.t 6 (.t 7 (.u 8 (.t 9 (.t 10 (.t 11 .done))))))))))))
          (fun w2 => Below w.heap.size w w2) (by kernel_rfl) (by kernel_rfl) (by kernel_rfl) (fun c a d v w h => by cases d <;> exact h) (Below.refl _ _).drew ?_
        have hS : Below w.heap.size w w.drew := (Below.refl _ _).drew
        generalize w.drew = W1 at hS ⊢
        haveI hne : Nonempty (In fun w2 => Below w.heap.size w w2) := ⟨⟨w, Below.refl _ _⟩⟩
        repeat (refine plan_t (by rfl) ?_; (first | go_big_quiet_skip | (go_big_quiet_want; go_big_quiet_op; go_big_quiet_on)); refine wpQuiet_nil ?_)
        refine plan_us (by rfl) (by kernel_rfl) ?_
        intro K hK
        go_wp2_with fail
        refine Calls.mono (HCUT.out _) ?_
        rintro e W2 ⟨rfl, rfl⟩
        rw [show cutM low 1 = low % 256 from rfl]
        go_wp2_with fail
        refine ⟨hS, ?_⟩
        repeat (refine plan_t (by rfl) ?_; (first | go_big_quiet_skip | (go_big_quiet_want; go_big_quiet_op; go_big_quiet_on)); refine wpQuiet_nil ?_)
        show Exit.then _ _ _ _ _
        have E : Hid (wholeM (largest + 1) low (powW 1) = wfin (largest + 1) ((largest + 1) / 256 * 256 + low % 256) 256) := Lib.hid (rfl)
        obtain ⟨c, hc⟩ : ∃ c, (largest + 1) / 256 * 256 + low % 256 = c := ⟨_, rfl⟩
        have hc1 : 0 ≤ c ∧ c ≤ (largest + 1) + 256 := by omega
        rw [hc] at E
        rw [hc]
        by_cases h1 : c + 128 ≤ (largest + 1)
        · by_cases h2 : c < 4611686018427387904 - 256
          · have F : Hid (wholeM (largest + 1) low (powW 1) = c + 256) := Lib.hid (E.out.trans (wfin1 ⟨h1, h2⟩))
            clear E
            go_wp2_with fail
            all_goals (go_ret; exact ⟨by rw [F.out]; rfl, hS⟩)
          · have F : Hid (wholeM (largest + 1) low (powW 1) = c) := Lib.hid (E.out.trans (wfin3 (fun h => h2 h.2) (fun h => by have := h.1; omega)))
            clear E
            go_wp2_with fail
            all_goals (go_ret; exact ⟨by rw [F.out]; rfl, hS⟩)
        · by_cases h3 : (largest + 1) + 128 < c
          · by_cases h4 : 256 ≤ c
            · have F : Hid (wholeM (largest + 1) low (powW 1) = c - 256) := Lib.hid (E.out.trans (wfin2 (fun h => h1 h.1) ⟨h3, h4⟩))
              clear E
              go_wp2_with fail
              all_goals (go_ret; exact ⟨by rw [F.out]; rfl, hS⟩)
            · have F : Hid (wholeM (largest + 1) low (powW 1) = c) := Lib.hid (E.out.trans (wfin3 (fun h => h1 h.1) (fun h => h4 h.2)))
              clear E
              go_wp2_with fail
              all_goals (go_ret; exact ⟨by rw [F.out]; rfl, hS⟩)
          · have F : Hid (wholeM (largest + 1) low (powW 1) = c) := Lib.hid (E.out.trans (wfin3 (fun h => h1 h.1) (fun h => h3 h.1)))
            clear E
            go_wp2_with fail
            all_goals (go_ret; exact ⟨by rw [F.out]; rfl, hS⟩)
      · have HCUT2 := Lib.hid (fun w => HCUT.out w 1)
        clear HCUT
        have HCUT : Hid (∀ w, Calls Try.prog 39 #[.int .u64 low, .int .i64 1] w fun e w' => e = .returned (.int .u32 (cutM low 1)) ∧ w' = w) := Lib.hid (fun w => HCUT2.out w); clear HCUT2
        go_wp2_with fail
        refine wp_plan (.t 0 (.t 1 (.t 2 (.t 3 (.t 4 (.t 5 (.t 6 (.t 7 (.u 8 (.t 9 (.t 10 (.t 11 .done))))))))))))
          (fun w2 => Below w.heap.size w w2) (by kernel_rfl) (by kernel_rfl) (by kernel_rfl) (fun c a d v w h => by cases d <;> exact h) (Below.refl _ _).drew ?_
        have hS : Below w.heap.size w w.drew := (Below.refl _ _).drew
        generalize w.drew = W1 at hS ⊢
        haveI hne : Nonempty (In fun w2 => Below w.heap.size w w2) := ⟨⟨w, Below.refl _ _⟩⟩
        repeat (refine plan_t (by rfl) ?_; (first | go_big_quiet_skip | (go_big_quiet_want; go_big_quiet_op; go_big_quiet_on)); refine wpQuiet_nil ?_)
        refine plan_us (by rfl) (by kernel_rfl) ?_
        intro K hK
        go_wp2_with fail
        refine Calls.mono (HCUT.out _) ?_
        rintro e W2 ⟨rfl, rfl⟩
        rw [show cutM low 1 = low % 256 from rfl]
        go_wp2_with fail
        refine ⟨hS, ?_⟩
        repeat (refine plan_t (by rfl) ?_; (first | go_big_quiet_skip | (go_big_quiet_want; go_big_quiet_op; go_big_quiet_on)); refine wpQuiet_nil ?_)
        show Exit.then _ _ _ _ _
        have E : Hid (wholeM (largest + 1) low (powW 1) = wfin (largest + 1) ((largest + 1) / 256 * 256 + low % 256) 256) := Lib.hid (rfl)
        obtain ⟨c, hc⟩ : ∃ c, (largest + 1) / 256 * 256 + low % 256 = c := ⟨_, rfl⟩
        have hc1 : 0 ≤ c ∧ c ≤ (largest + 1) + 256 := by omega
        rw [hc] at E
        rw [hc]
        by_cases h1 : c + 128 ≤ (largest + 1)
        · by_cases h2 : c < 4611686018427387904 - 256
          · have F : Hid (wholeM (largest + 1) low (powW 1) = c + 256) := Lib.hid (E.out.trans (wfin1 ⟨h1, h2⟩))
            clear E
            go_wp2_with fail
            all_goals (go_ret; exact ⟨by rw [F.out]; rfl, hS⟩)
          · have F : Hid (wholeM (largest + 1) low (powW 1) = c) := Lib.hid (E.out.trans (wfin3 (fun h => h2 h.2) (fun h => by have := h.1; omega)))
            clear E
            go_wp2_with fail
            all_goals (go_ret; exact ⟨by rw [F.out]; rfl, hS⟩)
        · by_cases h3 : (largest + 1) + 128 < c
          · by_cases h4 : 256 ≤ c
            · have F : Hid (wholeM (largest + 1) low (powW 1) = c - 256) := Lib.hid (E.out.trans (wfin2 (fun h => h1 h.1) ⟨h3, h4⟩))
              clear E
              go_wp2_with fail
              all_goals (go_ret; exact ⟨by rw [F.out]; rfl, hS⟩)
            · have F : Hid (wholeM (largest + 1) low (powW 1) = c) := Lib.hid (E.out.trans (wfin3 (fun h => h1 h.1) (fun h => h4 h.2)))
              clear E
              go_wp2_with fail
              all_goals (go_ret; exact ⟨by rw [F.out]; rfl, hS⟩)
          · have F : Hid (wholeM (largest + 1) low (powW 1) = c) := Lib.hid (E.out.trans (wfin3 (fun h => h1 h.1) (fun h => h3 h.1)))
            clear E
            go_wp2_with fail
            all_goals (go_ret; exact ⟨by rw [F.out]; rfl, hS⟩)
      · have HCUT2 := Lib.hid (fun w => HCUT.out w 2)
        clear HCUT
        have HCUT : Hid (∀ w, Calls Try.prog 39 #[.int .u64 low, .int .i64 2] w fun e w' => e = .returned (.int .u32 (cutM low 2)) ∧ w' = w) := Lib.hid (fun w => HCUT2.out w); clear HCUT2
        go_wp2_with fail
        refine wp_plan (.t 0 (.t 1 (.t 2 (.t 3 (.t 4 (.t 5 (.t 6 (.t 7 (.u 8 (.t 9 (.t 10 (.t 11 .done))))))))))))
          (fun w2 => Below w.heap.size w w2) (by kernel_rfl) (by kernel_rfl) (by kernel_rfl) (fun c a d v w h => by cases d <;> exact h) (Below.refl _ _).drew ?_
        have hS : Below w.heap.size w w.drew := (Below.refl _ _).drew
        generalize w.drew = W1 at hS ⊢
        haveI hne : Nonempty (In fun w2 => Below w.heap.size w w2) := ⟨⟨w, Below.refl _ _⟩⟩
        repeat (refine plan_t (by rfl) ?_; (first | go_big_quiet_skip | (go_big_quiet_want; go_big_quiet_op; go_big_quiet_on)); refine wpQuiet_nil ?_)
        refine plan_us (by rfl) (by kernel_rfl) ?_
        intro K hK
        go_wp2_with fail
        refine Calls.mono (HCUT.out _) ?_
        rintro e W2 ⟨rfl, rfl⟩
        rw [show cutM low 2 = low % 65536 from rfl]
        go_wp2_with fail
        refine ⟨hS, ?_⟩
        repeat (refine plan_t (by rfl) ?_; (first | go_big_quiet_skip | (go_big_quiet_want; go_big_quiet_op; go_big_quiet_on)); refine wpQuiet_nil ?_)
        show Exit.then _ _ _ _ _
        have E : Hid (wholeM (largest + 1) low (powW 2) = wfin (largest + 1) ((largest + 1) / 65536 * 65536 + low % 65536) 65536) := Lib.hid (rfl)
        obtain ⟨c, hc⟩ : ∃ c, (largest + 1) / 65536 * 65536 + low % 65536 = c := ⟨_, rfl⟩
        have hc1 : 0 ≤ c ∧ c ≤ (largest + 1) + 65536 := by omega
        rw [hc] at E
        rw [hc]
        by_cases h1 : c + 32768 ≤ (largest + 1)
        · by_cases h2 : c < 4611686018427387904 - 65536
          · have F : Hid (wholeM (largest + 1) low (powW 2) = c + 65536) := Lib.hid (E.out.trans (wfin1 ⟨h1, h2⟩))
            clear E
            go_wp2_with fail
            all_goals (go_ret; exact ⟨by rw [F.out]; rfl, hS⟩)
          · have F : Hid (wholeM (largest + 1) low (powW 2) = c) := Lib.hid (E.out.trans (wfin3 (fun h => h2 h.2) (fun h => by have := h.1; omega)))
            clear E
            go_wp2_with fail
            all_goals (go_ret; exact ⟨by rw [F.out]; rfl, hS⟩)
        · by_cases h3 : (largest + 1) + 32768 < c
          · by_cases h4 : 65536 ≤ c
            · have F : Hid (wholeM (largest + 1) low (powW 2) = c - 65536) := Lib.hid (E.out.trans (wfin2 (fun h => h1 h.1) ⟨h3, h4⟩))
              clear E
              go_wp2_with fail
              all_goals (go_ret; exact ⟨by rw [F.out]; rfl, hS⟩)
            · have F : Hid (wholeM (largest + 1) low (powW 2) = c) := Lib.hid (E.out.trans (wfin3 (fun h => h1 h.1) (fun h => h4 h.2)))
              clear E
              go_wp2_with fail
              all_goals (go_ret; exact ⟨by rw [F.out]; rfl, hS⟩)
          · have F : Hid (wholeM (largest + 1) low (powW 2) = c) := Lib.hid (E.out.trans (wfin3 (fun h => h1 h.1) (fun h => h3 h.1)))
            clear E
            go_wp2_with fail
            all_goals (go_ret; exact ⟨by rw [F.out]; rfl, hS⟩)
      · have HCUT2 := Lib.hid (fun w => HCUT.out w 3)
        clear HCUT
        have HCUT : Hid (∀ w, Calls Try.prog 39 #[.int .u64 low, .int .i64 3] w fun e w' => e = .returned (.int .u32 (cutM low 3)) ∧ w' = w) := Lib.hid (fun w => HCUT2.out w); clear HCUT2
        go_wp2_with fail
        refine wp_plan (.t 0 (.t 1 (.t 2 (.t 3 (.t 4 (.t 5 (.t 6 (.t 7 (.u 8 (.t 9 (.t 10 (.t 11 .done))))))))))))
          (fun w2 => Below w.heap.size w w2) (by kernel_rfl) (by kernel_rfl) (by kernel_rfl) (fun c a d v w h => by cases d <;> exact h) (Below.refl _ _).drew ?_
        have hS : Below w.heap.size w w.drew := (Below.refl _ _).drew
        generalize w.drew = W1 at hS ⊢
        haveI hne : Nonempty (In fun w2 => Below w.heap.size w w2) := ⟨⟨w, Below.refl _ _⟩⟩
        repeat (refine plan_t (by rfl) ?_; (first | go_big_quiet_skip | (go_big_quiet_want; go_big_quiet_op; go_big_quiet_on)); refine wpQuiet_nil ?_)
        refine plan_us (by rfl) (by kernel_rfl) ?_
        intro K hK
        go_wp2_with fail
        refine Calls.mono (HCUT.out _) ?_
        rintro e W2 ⟨rfl, rfl⟩
        rw [show cutM low 3 = low % 16777216 from rfl]
        go_wp2_with fail
        refine ⟨hS, ?_⟩
        repeat (refine plan_t (by rfl) ?_; (first | go_big_quiet_skip | (go_big_quiet_want; go_big_quiet_op; go_big_quiet_on)); refine wpQuiet_nil ?_)
        show Exit.then _ _ _ _ _
        have E : Hid (wholeM (largest + 1) low (powW 3) = wfin (largest + 1) ((largest + 1) / 16777216 * 16777216 + low % 16777216) 16777216) := Lib.hid (rfl)
        obtain ⟨c, hc⟩ : ∃ c, (largest + 1) / 16777216 * 16777216 + low % 16777216 = c := ⟨_, rfl⟩
        have hc1 : 0 ≤ c ∧ c ≤ (largest + 1) + 16777216 := by omega
        rw [hc] at E
        rw [hc]
        by_cases h1 : c + 8388608 ≤ (largest + 1)
        · by_cases h2 : c < 4611686018427387904 - 16777216
          · have F : Hid (wholeM (largest + 1) low (powW 3) = c + 16777216) := Lib.hid (E.out.trans (wfin1 ⟨h1, h2⟩))
            clear E
            go_wp2_with fail
            all_goals (go_ret; exact ⟨by rw [F.out]; rfl, hS⟩)
          · have F : Hid (wholeM (largest + 1) low (powW 3) = c) := Lib.hid (E.out.trans (wfin3 (fun h => h2 h.2) (fun h => by have := h.1; omega)))
            clear E
            go_wp2_with fail
            all_goals (go_ret; exact ⟨by rw [F.out]; rfl, hS⟩)
        · by_cases h3 : (largest + 1) + 8388608 < c
          · by_cases h4 : 16777216 ≤ c
            · have F : Hid (wholeM (largest + 1) low (powW 3) = c - 16777216) := Lib.hid (E.out.trans (wfin2 (fun h => h1 h.1) ⟨h3, h4⟩))
              clear E
              go_wp2_with fail
              all_goals (go_ret; exact ⟨by rw [F.out]; rfl, hS⟩)
            · have F : Hid (wholeM (largest + 1) low (powW 3) = c) := Lib.hid (E.out.trans (wfin3 (fun h => h1 h.1) (fun h => h4 h.2)))
              clear E
              go_wp2_with fail
              all_goals (go_ret; exact ⟨by rw [F.out]; rfl, hS⟩)
          · have F : Hid (wholeM (largest + 1) low (powW 3) = c) := Lib.hid (E.out.trans (wfin3 (fun h => h1 h.1) (fun h => h3 h.1)))
            clear E
            go_wp2_with fail
            all_goals (go_ret; exact ⟨by rw [F.out]; rfl, hS⟩)
      · have HCUT2 := Lib.hid (fun w => HCUT.out w 4)
        clear HCUT
        have HCUT : Hid (∀ w, Calls Try.prog 39 #[.int .u64 low, .int .i64 4] w fun e w' => e = .returned (.int .u32 (cutM low 4)) ∧ w' = w) := Lib.hid (fun w => HCUT2.out w); clear HCUT2
        go_wp2_with fail
        refine wp_plan (.t 0 (.t 1 (.t 2 (.t 3 (.t 4 (.t 5 (.t 6 (.t 7 (.u 8 (.t 9 (.t 10 (.t 11 .done))))))))))))
          (fun w2 => Below w.heap.size w w2) (by kernel_rfl) (by kernel_rfl) (by kernel_rfl) (fun c a d v w h => by cases d <;> exact h) (Below.refl _ _).drew ?_
        have hS : Below w.heap.size w w.drew := (Below.refl _ _).drew
        generalize w.drew = W1 at hS ⊢
        haveI hne : Nonempty (In fun w2 => Below w.heap.size w w2) := ⟨⟨w, Below.refl _ _⟩⟩
        repeat (refine plan_t (by rfl) ?_; (first | go_big_quiet_skip | (go_big_quiet_want; go_big_quiet_op; go_big_quiet_on)); refine wpQuiet_nil ?_)
        refine plan_us (by rfl) (by kernel_rfl) ?_
        intro K hK
        go_wp2_with fail
        refine Calls.mono (HCUT.out _) ?_
        rintro e W2 ⟨rfl, rfl⟩
        rw [show cutM low 4 = low % 4294967296 from rfl]
        go_wp2_with fail
        refine ⟨hS, ?_⟩
        repeat (refine plan_t (by rfl) ?_; (first | go_big_quiet_skip | (go_big_quiet_want; go_big_quiet_op; go_big_quiet_on)); refine wpQuiet_nil ?_)
        show Exit.then _ _ _ _ _
        have E : Hid (wholeM (largest + 1) low (powW 4) = wfin (largest + 1) ((largest + 1) / 4294967296 * 4294967296 + low % 4294967296) 4294967296) := Lib.hid (rfl)
        obtain ⟨c, hc⟩ : ∃ c, (largest + 1) / 4294967296 * 4294967296 + low % 4294967296 = c := ⟨_, rfl⟩
        have hc1 : 0 ≤ c ∧ c ≤ (largest + 1) + 4294967296 := by omega
        rw [hc] at E
        rw [hc]
        by_cases h1 : c + 2147483648 ≤ (largest + 1)
        · by_cases h2 : c < 4611686018427387904 - 4294967296
          · have F : Hid (wholeM (largest + 1) low (powW 4) = c + 4294967296) := Lib.hid (E.out.trans (wfin1 ⟨h1, h2⟩))
            clear E
            go_wp2_with fail
            all_goals (go_ret; exact ⟨by rw [F.out]; rfl, hS⟩)
          · have F : Hid (wholeM (largest + 1) low (powW 4) = c) := Lib.hid (E.out.trans (wfin3 (fun h => h2 h.2) (fun h => by have := h.1; omega)))
            clear E
            go_wp2_with fail
            all_goals (go_ret; exact ⟨by rw [F.out]; rfl, hS⟩)
        · by_cases h3 : (largest + 1) + 2147483648 < c
          · by_cases h4 : 4294967296 ≤ c
            · have F : Hid (wholeM (largest + 1) low (powW 4) = c - 4294967296) := Lib.hid (E.out.trans (wfin2 (fun h => h1 h.1) ⟨h3, h4⟩))
              clear E
              go_wp2_with fail
              all_goals (go_ret; exact ⟨by rw [F.out]; rfl, hS⟩)
            · have F : Hid (wholeM (largest + 1) low (powW 4) = c) := Lib.hid (E.out.trans (wfin3 (fun h => h1 h.1) (fun h => h4 h.2)))
              clear E
              go_wp2_with fail
              all_goals (go_ret; exact ⟨by rw [F.out]; rfl, hS⟩)
          · have F : Hid (wholeM (largest + 1) low (powW 4) = c) := Lib.hid (E.out.trans (wfin3 (fun h => h1 h.1) (fun h => h3 h.1)))
            clear E
            go_wp2_with fail
            all_goals (go_ret; exact ⟨by rw [F.out]; rfl, hS⟩)
      · have HCUT2 := Lib.hid (fun w => HCUT.out w 4)
        clear HCUT
        have HCUT : Hid (∀ w, Calls Try.prog 39 #[.int .u64 low, .int .i64 4] w fun e w' => e = .returned (.int .u32 (cutM low 4)) ∧ w' = w) := Lib.hid (fun w => HCUT2.out w); clear HCUT2
        go_wp2_with fail
        refine wp_plan (.t 0 (.t 1 (.t 2 (.t 3 (.t 4 (.t 5 (.t 6 (.t 7 (.u 8 (.t 9 (.t 10 (.t 11 .done))))))))))))
          (fun w2 => Below w.heap.size w w2) (by kernel_rfl) (by kernel_rfl) (by kernel_rfl) (fun c a d v w h => by cases d <;> exact h) (Below.refl _ _).drew ?_
        have hS : Below w.heap.size w w.drew := (Below.refl _ _).drew
        generalize w.drew = W1 at hS ⊢
        haveI hne : Nonempty (In fun w2 => Below w.heap.size w w2) := ⟨⟨w, Below.refl _ _⟩⟩
        repeat (refine plan_t (by rfl) ?_; (first | go_big_quiet_skip | (go_big_quiet_want; go_big_quiet_op; go_big_quiet_on)); refine wpQuiet_nil ?_)
        refine plan_us (by rfl) (by kernel_rfl) ?_
        intro K hK
        go_wp2_with fail
        refine Calls.mono (HCUT.out _) ?_
        rintro e W2 ⟨rfl, rfl⟩
        rw [show cutM low 4 = low % 4294967296 from rfl]
        go_wp2_with fail
        refine ⟨hS, ?_⟩
        repeat (refine plan_t (by rfl) ?_; (first | go_big_quiet_skip | (go_big_quiet_want; go_big_quiet_op; go_big_quiet_on)); refine wpQuiet_nil ?_)
        show Exit.then _ _ _ _ _
        have E : Hid (wholeM (largest + 1) low (powW 4) = wfin (largest + 1) ((largest + 1) / 4294967296 * 4294967296 + low % 4294967296) 4294967296) := Lib.hid (rfl)
        obtain ⟨c, hc⟩ : ∃ c, (largest + 1) / 4294967296 * 4294967296 + low % 4294967296 = c := ⟨_, rfl⟩
        have hc1 : 0 ≤ c ∧ c ≤ (largest + 1) + 4294967296 := by omega
        rw [hc] at E
        rw [hc]
        by_cases h1 : c + 2147483648 ≤ (largest + 1)
        · by_cases h2 : c < 4611686018427387904 - 4294967296
          · have F : Hid (wholeM (largest + 1) low (powW 4) = c + 4294967296) := Lib.hid (E.out.trans (wfin1 ⟨h1, h2⟩))
            clear E
            go_wp2_with fail
            all_goals (go_ret; exact ⟨by rw [F.out]; rfl, hS⟩)
          · have F : Hid (wholeM (largest + 1) low (powW 4) = c) := Lib.hid (E.out.trans (wfin3 (fun h => h2 h.2) (fun h => by have := h.1; omega)))
            clear E
            go_wp2_with fail
            all_goals (go_ret; exact ⟨by rw [F.out]; rfl, hS⟩)
        · by_cases h3 : (largest + 1) + 2147483648 < c
          · by_cases h4 : 4294967296 ≤ c
            · have F : Hid (wholeM (largest + 1) low (powW 4) = c - 4294967296) := Lib.hid (E.out.trans (wfin2 (fun h => h1 h.1) ⟨h3, h4⟩))
              clear E
              go_wp2_with fail
              all_goals (go_ret; exact ⟨by rw [F.out]; rfl, hS⟩)
            · have F : Hid (wholeM (largest + 1) low (powW 4) = c) := Lib.hid (E.out.trans (wfin3 (fun h => h1 h.1) (fun h => h4 h.2)))
              clear E
              go_wp2_with fail
              all_goals (go_ret; exact ⟨by rw [F.out]; rfl, hS⟩)
          · have F : Hid (wholeM (largest + 1) low (powW 4) = c) := Lib.hid (E.out.trans (wfin3 (fun h => h1 h.1) (fun h => h3 h.1)))
            clear E
            go_wp2_with fail
            all_goals (go_ret; exact ⟨by rw [F.out]; rfl, hS⟩)
    · obtain rfl : nx = 4611686018427387904 := by rw [← HX.out]; simp [nxM, hmax]
      clear HX
      rcases hm with ⟨hk, rfl⟩ | ⟨rfl, rfl⟩ | ⟨rfl, rfl⟩ | ⟨rfl, rfl⟩ | ⟨rfl, rfl⟩ | ⟨hk, rfl⟩
      · have HCUT2 := Lib.hid (fun w => HCUT.out w 1)
        clear HCUT
        have HCUT : Hid (∀ w, Calls Try.prog 39 #[.int .u64 low, .int .i64 1] w fun e w' => e = .returned (.int .u32 (cutM low 1)) ∧ w' = w) := Lib.hid (fun w => HCUT2.out w); clear HCUT2
        go_wp2_with fail
        refine wp_plan (.t 0 (.t 1 (.t 2 (.t 3 (.t 4 (.t 5 (.t 6 (.t 7 (.u 8 (.t 9 (.t 10 (.t 11 .done))))))))))))
          (fun w2 => Below w.heap.size w w2) (by kernel_rfl) (by kernel_rfl) (by kernel_rfl) (fun c a d v w h => by cases d <;> exact h) (Below.refl _ _).drew ?_
        have hS : Below w.heap.size w w.drew := (Below.refl _ _).drew
        generalize w.drew = W1 at hS ⊢
        haveI hne : Nonempty (In fun w2 => Below w.heap.size w w2) := ⟨⟨w, Below.refl _ _⟩⟩
        repeat (refine plan_t (by rfl) ?_; (first | go_big_quiet_skip | (go_big_quiet_want; go_big_quiet_op; go_big_quiet_on)); refine wpQuiet_nil ?_)
        refine plan_us (by rfl) (by kernel_rfl) ?_
        intro K hK
        go_wp2_with fail
        refine Calls.mono (HCUT.out _) ?_
        rintro e W2 ⟨rfl, rfl⟩
        rw [show cutM low 1 = low % 256 from rfl]
        go_wp2_with fail
        refine ⟨hS, ?_⟩
        repeat (refine plan_t (by rfl) ?_; (first | go_big_quiet_skip | (go_big_quiet_want; go_big_quiet_op; go_big_quiet_on)); refine wpQuiet_nil ?_)
        show Exit.then _ _ _ _ _
        have E : Hid (wholeM 4611686018427387904 low (powW 1) = wfin 4611686018427387904 (4611686018427387904 + low % 256) 256) := Lib.hid (rfl)
        obtain ⟨c, hc⟩ : ∃ c, 4611686018427387904 + low % 256 = c := ⟨_, rfl⟩
        have hc1 : 0 ≤ c ∧ c ≤ 4611686018427387904 + 256 := by omega
        rw [hc] at E
        rw [hc]
        by_cases h1 : c + 128 ≤ 4611686018427387904
        · by_cases h2 : c < 4611686018427387904 - 256
          · have F : Hid (wholeM 4611686018427387904 low (powW 1) = c + 256) := Lib.hid (E.out.trans (wfin1 ⟨h1, h2⟩))
            clear E
            go_wp2_with fail
            all_goals (go_ret; exact ⟨by rw [F.out]; rfl, hS⟩)
          · have F : Hid (wholeM 4611686018427387904 low (powW 1) = c) := Lib.hid (E.out.trans (wfin3 (fun h => h2 h.2) (fun h => by have := h.1; omega)))
            clear E
            go_wp2_with fail
            all_goals (go_ret; exact ⟨by rw [F.out]; rfl, hS⟩)
        · by_cases h3 : 4611686018427387904 + 128 < c
          · by_cases h4 : 256 ≤ c
            · have F : Hid (wholeM 4611686018427387904 low (powW 1) = c - 256) := Lib.hid (E.out.trans (wfin2 (fun h => h1 h.1) ⟨h3, h4⟩))
              clear E
              go_wp2_with fail
              all_goals (go_ret; exact ⟨by rw [F.out]; rfl, hS⟩)
            · have F : Hid (wholeM 4611686018427387904 low (powW 1) = c) := Lib.hid (E.out.trans (wfin3 (fun h => h1 h.1) (fun h => h4 h.2)))
              clear E
              go_wp2_with fail
              all_goals (go_ret; exact ⟨by rw [F.out]; rfl, hS⟩)
          · have F : Hid (wholeM 4611686018427387904 low (powW 1) = c) := Lib.hid (E.out.trans (wfin3 (fun h => h1 h.1) (fun h => h3 h.1)))
            clear E
            go_wp2_with fail
            all_goals (go_ret; exact ⟨by rw [F.out]; rfl, hS⟩)
      · have HCUT2 := Lib.hid (fun w => HCUT.out w 1)
        clear HCUT
        have HCUT : Hid (∀ w, Calls Try.prog 39 #[.int .u64 low, .int .i64 1] w fun e w' => e = .returned (.int .u32 (cutM low 1)) ∧ w' = w) := Lib.hid (fun w => HCUT2.out w); clear HCUT2
        go_wp2_with fail
        refine wp_plan (.t 0 (.t 1 (.t 2 (.t 3 (.t 4 (.t 5 (.t 6 (.t 7 (.u 8 (.t 9 (.t 10 (.t 11 .done))))))))))))
          (fun w2 => Below w.heap.size w w2) (by kernel_rfl) (by kernel_rfl) (by kernel_rfl) (fun c a d v w h => by cases d <;> exact h) (Below.refl _ _).drew ?_
        have hS : Below w.heap.size w w.drew := (Below.refl _ _).drew
        generalize w.drew = W1 at hS ⊢
        haveI hne : Nonempty (In fun w2 => Below w.heap.size w w2) := ⟨⟨w, Below.refl _ _⟩⟩
        repeat (refine plan_t (by rfl) ?_; (first | go_big_quiet_skip | (go_big_quiet_want; go_big_quiet_op; go_big_quiet_on)); refine wpQuiet_nil ?_)
        refine plan_us (by rfl) (by kernel_rfl) ?_
        intro K hK
        go_wp2_with fail
        refine Calls.mono (HCUT.out _) ?_
        rintro e W2 ⟨rfl, rfl⟩
        rw [show cutM low 1 = low % 256 from rfl]
        go_wp2_with fail
        refine ⟨hS, ?_⟩
        repeat (refine plan_t (by rfl) ?_; (first | go_big_quiet_skip | (go_big_quiet_want; go_big_quiet_op; go_big_quiet_on)); refine wpQuiet_nil ?_)
        show Exit.then _ _ _ _ _
        have E : Hid (wholeM 4611686018427387904 low (powW 1) = wfin 4611686018427387904 (4611686018427387904 + low % 256) 256) := Lib.hid (rfl)
        obtain ⟨c, hc⟩ : ∃ c, 4611686018427387904 + low % 256 = c := ⟨_, rfl⟩
        have hc1 : 0 ≤ c ∧ c ≤ 4611686018427387904 + 256 := by omega
        rw [hc] at E
        rw [hc]
        by_cases h1 : c + 128 ≤ 4611686018427387904
        · by_cases h2 : c < 4611686018427387904 - 256
          · have F : Hid (wholeM 4611686018427387904 low (powW 1) = c + 256) := Lib.hid (E.out.trans (wfin1 ⟨h1, h2⟩))
            clear E
            go_wp2_with fail
            all_goals (go_ret; exact ⟨by rw [F.out]; rfl, hS⟩)
          · have F : Hid (wholeM 4611686018427387904 low (powW 1) = c) := Lib.hid (E.out.trans (wfin3 (fun h => h2 h.2) (fun h => by have := h.1; omega)))
            clear E
            go_wp2_with fail
            all_goals (go_ret; exact ⟨by rw [F.out]; rfl, hS⟩)
        · by_cases h3 : 4611686018427387904 + 128 < c
          · by_cases h4 : 256 ≤ c
            · have F : Hid (wholeM 4611686018427387904 low (powW 1) = c - 256) := Lib.hid (E.out.trans (wfin2 (fun h => h1 h.1) ⟨h3, h4⟩))
              clear E
              go_wp2_with fail
              all_goals (go_ret; exact ⟨by rw [F.out]; rfl, hS⟩)
            · have F : Hid (wholeM 4611686018427387904 low (powW 1) = c) := Lib.hid (E.out.trans (wfin3 (fun h => h1 h.1) (fun h => h4 h.2)))
              clear E
              go_wp2_with fail
              all_goals (go_ret; exact ⟨by rw [F.out]; rfl, hS⟩)
          · have F : Hid (wholeM 4611686018427387904 low (powW 1) = c) := Lib.hid (E.out.trans (wfin3 (fun h => h1 h.1) (fun h => h3 h.1)))
            clear E
            go_wp2_with fail
            all_goals (go_ret; exact ⟨by rw [F.out]; rfl, hS⟩)
      · have HCUT2 := Lib.hid (fun w => HCUT.out w 2)
        clear HCUT
        have HCUT : Hid (∀ w, Calls Try.prog 39 #[.int .u64 low, .int .i64 2] w fun e w' => e = .returned (.int .u32 (cutM low 2)) ∧ w' = w) := Lib.hid (fun w => HCUT2.out w); clear HCUT2
        go_wp2_with fail
        refine wp_plan (.t 0 (.t 1 (.t 2 (.t 3 (.t 4 (.t 5 (.t 6 (.t 7 (.u 8 (.t 9 (.t 10 (.t 11 .done))))))))))))
          (fun w2 => Below w.heap.size w w2) (by kernel_rfl) (by kernel_rfl) (by kernel_rfl) (fun c a d v w h => by cases d <;> exact h) (Below.refl _ _).drew ?_
        have hS : Below w.heap.size w w.drew := (Below.refl _ _).drew
        generalize w.drew = W1 at hS ⊢
        haveI hne : Nonempty (In fun w2 => Below w.heap.size w w2) := ⟨⟨w, Below.refl _ _⟩⟩
        repeat (refine plan_t (by rfl) ?_; (first | go_big_quiet_skip | (go_big_quiet_want; go_big_quiet_op; go_big_quiet_on)); refine wpQuiet_nil ?_)
        refine plan_us (by rfl) (by kernel_rfl) ?_
        intro K hK
        go_wp2_with fail
        refine Calls.mono (HCUT.out _) ?_
        rintro e W2 ⟨rfl, rfl⟩
        rw [show cutM low 2 = low % 65536 from rfl]
        go_wp2_with fail
        refine ⟨hS, ?_⟩
        repeat (refine plan_t (by rfl) ?_; (first | go_big_quiet_skip | (go_big_quiet_want; go_big_quiet_op; go_big_quiet_on)); refine wpQuiet_nil ?_)
        show Exit.then _ _ _ _ _
        have E : Hid (wholeM 4611686018427387904 low (powW 2) = wfin 4611686018427387904 (4611686018427387904 + low % 65536) 65536) := Lib.hid (rfl)
        obtain ⟨c, hc⟩ : ∃ c, 4611686018427387904 + low % 65536 = c := ⟨_, rfl⟩
        have hc1 : 0 ≤ c ∧ c ≤ 4611686018427387904 + 65536 := by omega
        rw [hc] at E
        rw [hc]
        by_cases h1 : c + 32768 ≤ 4611686018427387904
        · by_cases h2 : c < 4611686018427387904 - 65536
          · have F : Hid (wholeM 4611686018427387904 low (powW 2) = c + 65536) := Lib.hid (E.out.trans (wfin1 ⟨h1, h2⟩))
            clear E
            go_wp2_with fail
            all_goals (go_ret; exact ⟨by rw [F.out]; rfl, hS⟩)
          · have F : Hid (wholeM 4611686018427387904 low (powW 2) = c) := Lib.hid (E.out.trans (wfin3 (fun h => h2 h.2) (fun h => by have := h.1; omega)))
            clear E
            go_wp2_with fail
            all_goals (go_ret; exact ⟨by rw [F.out]; rfl, hS⟩)
        · by_cases h3 : 4611686018427387904 + 32768 < c
          · by_cases h4 : 65536 ≤ c
            · have F : Hid (wholeM 4611686018427387904 low (powW 2) = c - 65536) := Lib.hid (E.out.trans (wfin2 (fun h => h1 h.1) ⟨h3, h4⟩))
              clear E
              go_wp2_with fail
              all_goals (go_ret; exact ⟨by rw [F.out]; rfl, hS⟩)
            · have F : Hid (wholeM 4611686018427387904 low (powW 2) = c) := Lib.hid (E.out.trans (wfin3 (fun h => h1 h.1) (fun h => h4 h.2)))
              clear E
              go_wp2_with fail
              all_goals (go_ret; exact ⟨by rw [F.out]; rfl, hS⟩)
          · have F : Hid (wholeM 4611686018427387904 low (powW 2) = c) := Lib.hid (E.out.trans (wfin3 (fun h => h1 h.1) (fun h => h3 h.1)))
            clear E
            go_wp2_with fail
            all_goals (go_ret; exact ⟨by rw [F.out]; rfl, hS⟩)
      · have HCUT2 := Lib.hid (fun w => HCUT.out w 3)
        clear HCUT
        have HCUT : Hid (∀ w, Calls Try.prog 39 #[.int .u64 low, .int .i64 3] w fun e w' => e = .returned (.int .u32 (cutM low 3)) ∧ w' = w) := Lib.hid (fun w => HCUT2.out w); clear HCUT2
        go_wp2_with fail
        refine wp_plan (.t 0 (.t 1 (.t 2 (.t 3 (.t 4 (.t 5 (.t 6 (.t 7 (.u 8 (.t 9 (.t 10 (.t 11 .done))))))))))))
          (fun w2 => Below w.heap.size w w2) (by kernel_rfl) (by kernel_rfl) (by kernel_rfl) (fun c a d v w h => by cases d <;> exact h) (Below.refl _ _).drew ?_
        have hS : Below w.heap.size w w.drew := (Below.refl _ _).drew
        generalize w.drew = W1 at hS ⊢
        haveI hne : Nonempty (In fun w2 => Below w.heap.size w w2) := ⟨⟨w, Below.refl _ _⟩⟩
        repeat (refine plan_t (by rfl) ?_; (first | go_big_quiet_skip | (go_big_quiet_want; go_big_quiet_op; go_big_quiet_on)); refine wpQuiet_nil ?_)
        refine plan_us (by rfl) (by kernel_rfl) ?_
        intro K hK
        go_wp2_with fail
        refine Calls.mono (HCUT.out _) ?_
        rintro e W2 ⟨rfl, rfl⟩
        rw [show cutM low 3 = low % 16777216 from rfl]
        go_wp2_with fail
        refine ⟨hS, ?_⟩
        repeat (refine plan_t (by rfl) ?_; (first | go_big_quiet_skip | (go_big_quiet_want; go_big_quiet_op; go_big_quiet_on)); refine wpQuiet_nil ?_)
        show Exit.then _ _ _ _ _
        have E : Hid (wholeM 4611686018427387904 low (powW 3) = wfin 4611686018427387904 (4611686018427387904 + low % 16777216) 16777216) := Lib.hid (rfl)
        obtain ⟨c, hc⟩ : ∃ c, 4611686018427387904 + low % 16777216 = c := ⟨_, rfl⟩
        have hc1 : 0 ≤ c ∧ c ≤ 4611686018427387904 + 16777216 := by omega
        rw [hc] at E
        rw [hc]
        by_cases h1 : c + 8388608 ≤ 4611686018427387904
        · by_cases h2 : c < 4611686018427387904 - 16777216
          · have F : Hid (wholeM 4611686018427387904 low (powW 3) = c + 16777216) := Lib.hid (E.out.trans (wfin1 ⟨h1, h2⟩))
            clear E
            go_wp2_with fail
            all_goals (go_ret; exact ⟨by rw [F.out]; rfl, hS⟩)
          · have F : Hid (wholeM 4611686018427387904 low (powW 3) = c) := Lib.hid (E.out.trans (wfin3 (fun h => h2 h.2) (fun h => by have := h.1; omega)))
            clear E
            go_wp2_with fail
            all_goals (go_ret; exact ⟨by rw [F.out]; rfl, hS⟩)
        · by_cases h3 : 4611686018427387904 + 8388608 < c
          · by_cases h4 : 16777216 ≤ c
            · have F : Hid (wholeM 4611686018427387904 low (powW 3) = c - 16777216) := Lib.hid (E.out.trans (wfin2 (fun h => h1 h.1) ⟨h3, h4⟩))
              clear E
              go_wp2_with fail
              all_goals (go_ret; exact ⟨by rw [F.out]; rfl, hS⟩)
            · have F : Hid (wholeM 4611686018427387904 low (powW 3) = c) := Lib.hid (E.out.trans (wfin3 (fun h => h1 h.1) (fun h => h4 h.2)))
              clear E
              go_wp2_with fail
              all_goals (go_ret; exact ⟨by rw [F.out]; rfl, hS⟩)
          · have F : Hid (wholeM 4611686018427387904 low (powW 3) = c) := Lib.hid (E.out.trans (wfin3 (fun h => h1 h.1) (fun h => h3 h.1)))
            clear E
            go_wp2_with fail
            all_goals (go_ret; exact ⟨by rw [F.out]; rfl, hS⟩)
      · have HCUT2 := Lib.hid (fun w => HCUT.out w 4)
        clear HCUT
        have HCUT : Hid (∀ w, Calls Try.prog 39 #[.int .u64 low, .int .i64 4] w fun e w' => e = .returned (.int .u32 (cutM low 4)) ∧ w' = w) := Lib.hid (fun w => HCUT2.out w); clear HCUT2
        go_wp2_with fail
        refine wp_plan (.t 0 (.t 1 (.t 2 (.t 3 (.t 4 (.t 5 (.t 6 (.t 7 (.u 8 (.t 9 (.t 10 (.t 11 .done))))))))))))
          (fun w2 => Below w.heap.size w w2) (by kernel_rfl) (by kernel_rfl) (by kernel_rfl) (fun c a d v w h => by cases d <;> exact h) (Below.refl _ _).drew ?_
        have hS : Below w.heap.size w w.drew := (Below.refl _ _).drew
        generalize w.drew = W1 at hS ⊢
        haveI hne : Nonempty (In fun w2 => Below w.heap.size w w2) := ⟨⟨w, Below.refl _ _⟩⟩
        repeat (refine plan_t (by rfl) ?_; (first | go_big_quiet_skip | (go_big_quiet_want; go_big_quiet_op; go_big_quiet_on)); refine wpQuiet_nil ?_)
        refine plan_us (by rfl) (by kernel_rfl) ?_
        intro K hK
        go_wp2_with fail
        refine Calls.mono (HCUT.out _) ?_
        rintro e W2 ⟨rfl, rfl⟩
        rw [show cutM low 4 = low % 4294967296 from rfl]
        go_wp2_with fail
        refine ⟨hS, ?_⟩
        repeat (refine plan_t (by rfl) ?_; (first | go_big_quiet_skip | (go_big_quiet_want; go_big_quiet_op; go_big_quiet_on)); refine wpQuiet_nil ?_)
        show Exit.then _ _ _ _ _
        have E : Hid (wholeM 4611686018427387904 low (powW 4) = wfin 4611686018427387904 (4611686018427387904 + low % 4294967296) 4294967296) := Lib.hid (rfl)
        obtain ⟨c, hc⟩ : ∃ c, 4611686018427387904 + low % 4294967296 = c := ⟨_, rfl⟩
        have hc1 : 0 ≤ c ∧ c ≤ 4611686018427387904 + 4294967296 := by omega
        rw [hc] at E
        rw [hc]
        by_cases h1 : c + 2147483648 ≤ 4611686018427387904
        · by_cases h2 : c < 4611686018427387904 - 4294967296
          · have F : Hid (wholeM 4611686018427387904 low (powW 4) = c + 4294967296) := Lib.hid (E.out.trans (wfin1 ⟨h1, h2⟩))
            clear E
            go_wp2_with fail
            all_goals (go_ret; exact ⟨by rw [F.out]; rfl, hS⟩)
          · have F : Hid (wholeM 4611686018427387904 low (powW 4) = c) := Lib.hid (E.out.trans (wfin3 (fun h => h2 h.2) (fun h => by have := h.1; omega)))
            clear E
            go_wp2_with fail
            all_goals (go_ret; exact ⟨by rw [F.out]; rfl, hS⟩)
        · by_cases h3 : 4611686018427387904 + 2147483648 < c
          · by_cases h4 : 4294967296 ≤ c
            · have F : Hid (wholeM 4611686018427387904 low (powW 4) = c - 4294967296) := Lib.hid (E.out.trans (wfin2 (fun h => h1 h.1) ⟨h3, h4⟩))
              clear E
              go_wp2_with fail
              all_goals (go_ret; exact ⟨by rw [F.out]; rfl, hS⟩)
            · have F : Hid (wholeM 4611686018427387904 low (powW 4) = c) := Lib.hid (E.out.trans (wfin3 (fun h => h1 h.1) (fun h => h4 h.2)))
              clear E
              go_wp2_with fail
              all_goals (go_ret; exact ⟨by rw [F.out]; rfl, hS⟩)
          · have F : Hid (wholeM 4611686018427387904 low (powW 4) = c) := Lib.hid (E.out.trans (wfin3 (fun h => h1 h.1) (fun h => h3 h.1)))
            clear E
            go_wp2_with fail
            all_goals (go_ret; exact ⟨by rw [F.out]; rfl, hS⟩)
      · have HCUT2 := Lib.hid (fun w => HCUT.out w 4)
        clear HCUT
        have HCUT : Hid (∀ w, Calls Try.prog 39 #[.int .u64 low, .int .i64 4] w fun e w' => e = .returned (.int .u32 (cutM low 4)) ∧ w' = w) := Lib.hid (fun w => HCUT2.out w); clear HCUT2
        go_wp2_with fail
        refine wp_plan (.t 0 (.t 1 (.t 2 (.t 3 (.t 4 (.t 5 (.t 6 (.t 7 (.u 8 (.t 9 (.t 10 (.t 11 .done))))))))))))
          (fun w2 => Below w.heap.size w w2) (by kernel_rfl) (by kernel_rfl) (by kernel_rfl) (fun c a d v w h => by cases d <;> exact h) (Below.refl _ _).drew ?_
        have hS : Below w.heap.size w w.drew := (Below.refl _ _).drew
        generalize w.drew = W1 at hS ⊢
        haveI hne : Nonempty (In fun w2 => Below w.heap.size w w2) := ⟨⟨w, Below.refl _ _⟩⟩
        repeat (refine plan_t (by rfl) ?_; (first | go_big_quiet_skip | (go_big_quiet_want; go_big_quiet_op; go_big_quiet_on)); refine wpQuiet_nil ?_)
        refine plan_us (by rfl) (by kernel_rfl) ?_
        intro K hK
        go_wp2_with fail
        refine Calls.mono (HCUT.out _) ?_
        rintro e W2 ⟨rfl, rfl⟩
        rw [show cutM low 4 = low % 4294967296 from rfl]
        go_wp2_with fail
        refine ⟨hS, ?_⟩
        repeat (refine plan_t (by rfl) ?_; (first | go_big_quiet_skip | (go_big_quiet_want; go_big_quiet_op; go_big_quiet_on)); refine wpQuiet_nil ?_)
        show Exit.then _ _ _ _ _
        have E : Hid (wholeM 4611686018427387904 low (powW 4) = wfin 4611686018427387904 (4611686018427387904 + low % 4294967296) 4294967296) := Lib.hid (rfl)
        obtain ⟨c, hc⟩ : ∃ c, 4611686018427387904 + low % 4294967296 = c := ⟨_, rfl⟩
        have hc1 : 0 ≤ c ∧ c ≤ 4611686018427387904 + 4294967296 := by omega
        rw [hc] at E
        rw [hc]
        by_cases h1 : c + 2147483648 ≤ 4611686018427387904
        · by_cases h2 : c < 4611686018427387904 - 4294967296
          · have F : Hid (wholeM 4611686018427387904 low (powW 4) = c + 4294967296) := Lib.hid (E.out.trans (wfin1 ⟨h1, h2⟩))
            clear E
            go_wp2_with fail
            all_goals (go_ret; exact ⟨by rw [F.out]; rfl, hS⟩)
          · have F : Hid (wholeM 4611686018427387904 low (powW 4) = c) := Lib.hid (E.out.trans (wfin3 (fun h => h2 h.2) (fun h => by have := h.1; omega)))
            clear E
            go_wp2_with fail
            all_goals (go_ret; exact ⟨by rw [F.out]; rfl, hS⟩)
        · by_cases h3 : 4611686018427387904 + 2147483648 < c
          · by_cases h4 : 4294967296 ≤ c
            · have F : Hid (wholeM 4611686018427387904 low (powW 4) = c - 4294967296) := Lib.hid (E.out.trans (wfin2 (fun h => h1 h.1) ⟨h3, h4⟩))
              clear E
              go_wp2_with fail
              all_goals (go_ret; exact ⟨by rw [F.out]; rfl, hS⟩)
            · have F : Hid (wholeM 4611686018427387904 low (powW 4) = c) := Lib.hid (E.out.trans (wfin3 (fun h => h1 h.1) (fun h => h4 h.2)))
              clear E
              go_wp2_with fail
              all_goals (go_ret; exact ⟨by rw [F.out]; rfl, hS⟩)
          · have F : Hid (wholeM 4611686018427387904 low (powW 4) = c) := Lib.hid (E.out.trans (wfin3 (fun h => h1 h.1) (fun h => h3 h.1)))
            clear E
            go_wp2_with fail
            all_goals (go_ret; exact ⟨by rw [F.out]; rfl, hS⟩)
end Go.Proofs.Ythofbckkjcidmaa
