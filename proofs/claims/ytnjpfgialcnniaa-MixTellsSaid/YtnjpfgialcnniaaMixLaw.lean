/- the law's helpers and the laws' walks of chapter 7 -/
import Derived.Test.YtnjpfgialcnniaaMix
import Derived.Test.YtnjpfgialcnniaaBook
import Derived.Test.YtnjpfgialcnniaaRegion
import Derived.Test.YtnjpfgialcnniaaArr
import Derived.Test.YtnjpfgialcnniaaOpen
namespace Go.Proofs.Ytnjpfgialcnniaa
open Go.RowKit
set_option linter.unusedVariables false

set_option maxRecDepth 100000 in
set_option maxHeartbeats 4000000 in
theorem same7_any (w : World) (key : Int) (a : Option Addr) (len cap : Nat) (bs : List Int) (hlen : len ≤ 9223372036854775807) (hk : (Lit.int .u64 key).wf = true) (hb : IntsK .u8 w a len bs) :
    Makes Try.prog 5 #[.int .u64 key, .slice a len cap] w (.bool true) := by
  have HB := Lib.hid hb; clear hb
  have hKM := Lib.hid (number_bytes key hk)
  have HK := Lib.hid (fun w' (h : Below w.heap.size w w') => keyed_any w' key a len cap bs hlen (HB.out.below h))
  have HRK := Lib.hid (fun k w' (h : Below w.heap.size w w') => rkeyed_any w' k a len cap bs hlen (HB.out.below h))
  have HS := Lib.hid (fun w' (h : Below w.heap.size w w') => sum_any w' a len cap bs hlen (HB.out.below h))
  obtain ⟨x0, x1, x2, x3, x4, x5, x6, x7, ex⟩ : ∃ x0 x1 x2 x3 x4 x5 x6 x7, bytesM key = [x0, x1, x2, x3, x4, x5, x6, x7] := ⟨_, _, _, _, _, _, _, _, rfl⟩
  have hwx := wf_bytes key
  rw [ex] at hwx hKM
  have HN := Lib.hid (fun w' => number_any w' [x0, x1, x2, x3, x4, x5, x6, x7] rfl hwx)
  have HRB := Lib.hid (fun w' => rbytes_any w' key)
  have EX := Lib.hid ex; have HWX := Lib.hid hwx; clear ex hwx
  go_enter Try.func5, Try.ntmps5
  go_wp2_with fail
  refine Calls.mono (bytes_any _ _) ?_
  rintro e w1 ⟨rfl, hb1⟩
  rw [EX.out]
  have HB1 := Lib.hid hb1; clear hb1
  go_wp2_with fail
  have hrow := heap_alloc_new w1 (.cells #[.int .u8 x0, .int .u8 x1, .int .u8 x2, .int .u8 x3, .int .u8 x4, .int .u8 x5, .int .u8 x6, .int .u8 x7] 29)
  have hbW := HB1.out.alloc HB1.out.size (.cells #[.int .u8 x0, .int .u8 x1, .int .u8 x2, .int .u8 x3, .int .u8 x4, .int .u8 x5, .int .u8 x6, .int .u8 x7] 29)
  generalize w1.alloc (.cells #[.int .u8 x0, .int .u8 x1, .int .u8 x2, .int .u8 x3, .int .u8 x4, .int .u8 x5, .int .u8 x6, .int .u8 x7] 29) = W at hrow hbW ⊢
  generalize w1.heap.size = g at hrow ⊢
  have hI : IntsK .u8 W (some ⟨g, 0, none⟩) 8 [x0, x1, x2, x3, x4, x5, x6, x7] := IntsK.of_row (zs := [x0, x1, x2, x3, x4, x5, x6, x7]) hrow HWX.out
  have hcv : ∀ s : In (fun w' => Below W.heap.size W w'), (convert 22 9 (.slice (some ⟨g, 0, none⟩) 8 8)).run Try.prog s.w = .ok (.string (strOfNums [x0, x1, x2, x3, x4, x5, x6, x7])) s.w :=
    fun s => conv_ints _ _ _ _ Try.underlying22 Try.underlying5 Try.underlying9 (hI.below s.h)
  have hce : ∀ i v, #[Value.int .u8 x0, .int .u8 x1, .int .u8 x2, .int .u8 x3, .int .u8 x4, .int .u8 x5, .int .u8 x6, .int .u8 x7][i]? = some v → ∀ s : In (fun w' => Below W.heap.size W w'), s.w.cell? ⟨g, i, none⟩ = some v :=
    fun i v hv s => bl_cell s.h (p := ⟨g, i, none⟩) (lt_of_block hrow) (row_cell hrow i v hv)
  have c0 := hce 0 _ rfl
  have c1 := hce 1 _ rfl
  have c2 := hce 2 _ rfl
  have c3 := hce 3 _ rfl
  have c4 := hce 4 _ rfl
  have c5 := hce 5 _ rfl
  have c6 := hce 6 _ rfl
  have c7 := hce 7 _ rfl
  have HW := Lib.hid hbW
  clear hce hI hrow hbW
  refine wp_plan (.t 0 (.t 1 (.t 3 (.t 4 (.u 2 (.u 5 (.t 6 (.t 7 (.t 8 (.t 10 (.u 9 (.u 11 (.t 12 (.t 13 (.t 14 (.t 15 (.t 17 (.u 16 (.u 18 (.t 19 (.t 20 (.t 21 (.t 22 (.t 23 (.t 24 (.u 25 (.u 26 (.t 27 (.t 28 (.t 29 (.t 30 (.t 32 (.u 31 (.t 33 (.t 34 (.t 35 .done))))))))))))))))))))))))))))))))))))
    (fun w' => Below W.heap.size W w') (by kernel_rfl) (by kernel_rfl) (by kernel_rfl) (fun c a d v w h => by cases d <;> exact h) (Below.refl _ _).drew ?_
  have hS : Below W.heap.size W W.drew := (Below.refl _ _).drew
  generalize W.drew = W1 at hS ⊢
  haveI hne : Nonempty (In fun w' => Below W.heap.size W w') := ⟨⟨W, Below.refl _ _⟩⟩
  repeat (refine plan_t (by rfl) ?_; (first | go_big_quiet_skip | (go_big_quiet_want; go_big_quiet_op; go_big_quiet_on)); refine wpQuiet_nil ?_)
  refine plan_us (by rfl) (by kernel_rfl) ?_
  intro K hK
  go_wp2_with fail
  refine Calls.mono ((HK.out _ (bl_next HW.out HW.out.size hS)).makes) ?_
  rintro e W2 ⟨rfl, hb⟩
  replace hS := bl_next hS hS.size hb; clear hb
  go_wp2_with fail
  refine ⟨hS, ?_⟩
  refine plan_us (by rfl) (by kernel_rfl) ?_
  intro K hK
  go_wp2_with fail
  refine Calls.mono ((HRK.out key _ (bl_next HW.out HW.out.size hS)).makes) ?_
  rintro e W2 ⟨rfl, hb⟩
  replace hS := bl_next hS hS.size hb; clear hb
  go_wp2_with fail
  refine ⟨hS, ?_⟩
  repeat (refine plan_t (by rfl) ?_; (first | go_big_quiet_skip | (go_big_quiet_want; go_big_quiet_op; go_big_quiet_on)); refine wpQuiet_nil ?_)
  refine plan_us (by rfl) (by kernel_rfl) ?_
  intro K hK
  go_wp2_with fail
  refine Calls.mono ((HS.out _ (bl_next HW.out HW.out.size hS)).makes) ?_
  rintro e W2 ⟨rfl, hb⟩
  replace hS := bl_next hS hS.size hb; clear hb
  go_wp2_with fail
  refine ⟨hS, ?_⟩
  refine plan_us (by rfl) (by kernel_rfl) ?_
  intro K hK
  go_wp2_with fail
  refine Calls.mono ((HRK.out 0 _ (bl_next HW.out HW.out.size hS)).makes) ?_
  rintro e W2 ⟨rfl, hb⟩
  replace hS := bl_next hS hS.size hb; clear hb
  go_wp2_with fail
  refine ⟨hS, ?_⟩
  repeat (refine plan_t (by rfl) ?_; (first | go_big_quiet_skip | (go_big_quiet_want; go_big_quiet_op; go_big_quiet_on)); refine wpQuiet_nil ?_)
  refine plan_us (by rfl) (by kernel_rfl) ?_
  intro K hK
  go_wp2_with fail
  refine Calls.mono ((next_any _ _).makes) ?_
  rintro e W2 ⟨rfl, hb⟩
  replace hS := bl_next hS hS.size hb; clear hb
  go_wp2_with fail
  refine ⟨hS, ?_⟩
  refine plan_us (by rfl) (by kernel_rfl) ?_
  intro K hK
  go_wp2_with fail
  refine Calls.mono ((rnext_any _ _).makes) ?_
  rintro e W2 ⟨rfl, hb⟩
  replace hS := bl_next hS hS.size hb; clear hb
  go_wp2_with fail
  refine ⟨hS, ?_⟩
  repeat (refine plan_t (by rfl) ?_; (first | go_big_quiet_skip | (go_big_quiet_want; go_big_quiet_op; go_big_quiet_on)); refine wpQuiet_nil ?_)
  refine plan_us (by rfl) (by kernel_rfl) ?_
  intro K hK
  go_wp2_with fail
  refine Calls.mono (HRB.out _) ?_
  rintro e W2 ⟨rfl, hF⟩
  rw [EX.out] at hF
  have hI2 := IntsK.of_row (zs := [x0, x1, x2, x3, x4, x5, x6, x7]) hF.row HWX.out
  have hcv2 : (convert 22 9 (.slice (some ⟨_, 0, none⟩) 8 8)).run Try.prog W2 = .ok (.string (strOfNums [x0, x1, x2, x3, x4, x5, x6, x7])) W2 := conv_ints _ _ _ _ Try.underlying22 Try.underlying5 Try.underlying9 hI2
  replace hS := bl_next hS hS.size hF.below; clear hF hI2
  go_wp2_with fail
  refine ⟨hS, ?_⟩
  refine plan_us (by rfl) (by kernel_rfl) ?_
  intro K hK
  go_wp2_with fail
  refine ⟨hS, ?_⟩
  clear hcv2
  repeat (refine plan_t (by rfl) ?_; (first | go_big_quiet_skip | (go_big_quiet_want; go_big_quiet_op; go_big_quiet_on)); refine wpQuiet_nil ?_)
  refine plan_us (by rfl) (by kernel_rfl) ?_
  intro K hK
  go_wp2_with fail
  refine Calls.mono (HN.out _) ?_
  rintro e W2 ⟨rfl, hb⟩
  replace hS := bl_next hS hS.size hb; clear hb
  go_wp2_with fail
  refine ⟨hS, ?_⟩
  rw [hKM.out]
  repeat (refine plan_t (by rfl) ?_; (first | go_big_quiet_skip | (go_big_quiet_want; go_big_quiet_op; go_big_quiet_on)); refine wpQuiet_nil ?_)
  show Exit.then _ _ _ _ _
  go_wp2_with fail
  go_ret
  exact ⟨rfl, bl_next HW.out HW.out.size hS⟩

theorem known7_any (w : World) : Makes Try.prog 8 #[] w (.bool true) := by
  have e5 : bytesM 5 = [0, 0, 0, 0, 0, 0, 0, 5] := by decide
  have e2 : bytesM 258 = [0, 0, 0, 0, 0, 0, 1, 2] := by decide
  have hq : ∀ w, (binOp .eql 29 (.agg #[.int .u8 0, .int .u8 0, .int .u8 0, .int .u8 0, .int .u8 0, .int .u8 0, .int .u8 1, .int .u8 2]) (.agg #[.int .u8 0, .int .u8 0, .int .u8 0, .int .u8 0, .int .u8 0, .int .u8 0, .int .u8 1, .int .u8 2])).run Try.prog w = .ok (.bool true) w := fun _ => by kernel_rfl
  have HN := Lib.hid (fun w => number_any w [0, 0, 0, 0, 0, 0, 0, 5] rfl (by decide))
  go_enter Try.func8, Try.ntmps8
  go_wp2_with fail
  refine Calls.mono (bytes_any _ 5) ?_
  rintro e w1 ⟨rfl, hb1⟩
  rw [e5]
  have H1 := Lib.hid hb1; clear hb1
  go_wp2_with fail
  refine Calls.mono (HN.out _) ?_
  rintro e w2 ⟨rfl, hb2⟩
  rw [show numberM [0, 0, 0, 0, 0, 0, 0, 5] = 5 from by decide]
  have H2 := Lib.hid (bl_next H1.out H1.out.size hb2); clear hb2
  go_wp2_with fail
  refine Calls.mono (bytes_any _ 258) ?_
  rintro e w3 ⟨rfl, hb3⟩
  rw [e2]
  have H3 := Lib.hid (bl_next H2.out H2.out.size hb3); clear hb3
  go_wp2_with fail
  go_ret
  exact ⟨rfl, H3.out⟩

set_option maxRecDepth 100000 in
set_option maxHeartbeats 4000000 in
theorem numbers7_any (w : World) : Makes Try.prog 3 #[] w (.bool true) := by
  obtain ⟨i0, hi, hz0, hz1, hz2⟩ := info_parts infoU8
  have hz2' : i0.bytes * 70 ≤ 281474976710656 := by rw [hz2]; omega
  have HI := Lib.hid hi; have HZ0 := Lib.hid hz0; have HZ1 := Lib.hid hz1; have HZ2 := Lib.hid hz2'
  clear hi hz0 hz1 hz2 hz2'
  go_enter Try.func3, Try.ntmps3
  go_wp2_with (first
    | (at_make; refine wpList_make_full _ rfl _ _ 22 rfl w.heap.size 5 i0 (.int .u8 0) 1 Try.underlying22 HI.out HZ0.out HZ1.out .i64 .i64 _ _ 70 rfl rfl (by omega) (by omega) HZ2.out (by unfold maxLen; omega) (by exact Nat.le_refl _) ?_; intro w1 hown hgrow; have HO := Lib.hid hown; have HG := Lib.hid hgrow; clear hown hgrow)
    | fail)
  have hrow := own_full HO.out
  rw [show (Value.int .u8 0).cells = #[Value.int .u8 0] from rfl, toList_madeCells_one] at hrow
  have hrow2 : Hid (w1.heap[w.heap.size]? = some (.cells ((List.replicate 70 (0 : Int)).map (Value.int .u8)).toArray 5 (0, 0))) := by
    rw [List.map_replicate]; exact hrow
  have HL := Lib.hid (below_of_none HG.out)
  clear hrow HO HG
  go_loopw [2] (fun i wr => ∃ (j : Nat) (zs : List Int), i = .int .i64 j ∧ j ≤ 70 ∧ zs.length = 70 ∧ Hid (∀ x ∈ zs, (Lit.int .u8 x).wf = true) ∧ Hid (Below w.heap.size w wr) ∧
    Hid (wr.heap[w.heap.size]? = some (.cells (zs.map (Value.int .u8)).toArray 5 (0, 0)))) (fun i _ => 70 - (intOf i).toNat)
  case atStart => exact ⟨0, List.replicate 70 0, rfl, by omega, by simp, Lib.hid (by intro x hx; rw [List.eq_of_mem_replicate hx]; rfl), HL, hrow2⟩
  case round =>
    obtain ⟨j, zs, rfl, hj, hl, HW, HL, HR⟩ := hrel
    by_cases hlt : j < 70
    · obtain ⟨x0, hx0⟩ : ∃ x, zs[j]? = some x := ⟨_, List.getElem?_eq_getElem (by omega)⟩
      have hc : wr.cell? ⟨w.heap.size, j, none⟩ = some (.int .u8 x0) := by
        rw [cell_of_row _ _ _ _ _ _ HR.out, List.getElem?_toArray, List.getElem?_map, hx0]; rfl
      have hf := row_free HR.out j
      have HLEN := Lib.hid hl
      clear hx0 hl
      go_wp2_with fail
      obtain ⟨v, hv⟩ : ∃ v, (↑j : Int) * 37 % 256 = v := ⟨_, rfl⟩
      have hwv : (Lit.int .u8 v).wf = true := wf_u8_of (by omega) (by omega)
      simp only [hv]
      have hw2 : ∀ x ∈ zs.set j v, (Lit.int .u8 x).wf = true := by
        intro x hx
        rcases List.mem_or_eq_of_mem_set hx with h | h
        · exact HW.out x h
        · rw [h]; exact hwv
      have HL1 := Lib.hid (HL.out.setCell (p := ⟨w.heap.size, j, none⟩) (Nat.le_refl _) (.int .u8 v))
      have HR1 := Lib.hid (set_row HR.out j v)
      have hI := IntsK.of_row HR1.out hw2
      rw [List.length_set, HLEN.out] at hI
      have HI1 := Lib.hid hI
      have HW2 := Lib.hid hw2
      clear hc hf hw2 hI hv hwv HR HL HW
      generalize wr.setCell ⟨w.heap.size, j, none⟩ (.int .u8 v) = wa at *
      refine Calls.mono (same7_any _ _ _ j 70 _ (by omega) (wf_u64_of (by omega) (by omega)) (HI1.out.pre j (by omega))) ?_
      rintro e wb ⟨rfl, hb⟩
      have HB := Lib.hid hb; clear hb
      have hsh : (Lit.int .u64 (9223372036854775808 / 2 ^ (j % 64))).wf = true := by
        have h1 := Int.ediv_le_self (a := 9223372036854775808) (2 ^ (j % 64)) (by decide)
        have h2 : (0 : Int) ≤ 9223372036854775808 / 2 ^ (j % 64) := Int.ediv_nonneg (by decide) (Int.le_of_lt (Int.pow_pos (by decide)))
        exact wf_u64_of h2 (by omega)
      have HSH := Lib.hid hsh; clear hsh
      go_wp2_with fail
      have hI2 := (HI1.out.below HB.out).suf j (by omega)
      rw [Nat.zero_add] at hI2
      refine Calls.mono (same7_any _ _ _ (70 - j) (70 - j) _ (by omega) HSH.out hI2) ?_
      rintro e wc ⟨rfl, hb⟩
      clear hI2
      have HC := Lib.hid (bl_next HB.out HB.out.size hb); clear hb
      go_wp2_with fail
      refine Calls.mono (same7_any _ _ _ (j / 2) 70 _ (by omega) (by decide) ((HI1.out.below HC.out).pre (j / 2) (by omega))) ?_
      rintro e wd ⟨rfl, hb⟩
      have HD := Lib.hid (bl_next HC.out HC.out.size hb); clear hb
      go_wp2_with fail
      go_roundw
      case rel => exact ⟨j + 1, zs.set j v, by go_num, by omega, by simp [HLEN.out], HW2, Lib.hid (HL1.out.trans (HD.out.mono HL1.out.size)), Lib.hid (bl_row HD.out (lt_of_block HR1.out) HR1.out)⟩
      case measure => simp [intOf]; omega
    · go_wp2_with fail
      refine Calls.mono (sum_any _ none 0 0 [] (by omega) (IntsK.nil _ _ _)) ?_
      rintro e wb ⟨rfl, n1, rfl⟩
      rw [show keyedM 0 [] = endM 11400714819323198485 from by decide]
      go_wp2_with fail
      refine Calls.mono (rend_any _ _) ?_
      rintro e wb ⟨rfl, n2, rfl⟩
      go_wp2_with fail
      refine Calls.mono (known7_any _) ?_
      rintro e wb ⟨rfl, hb⟩
      have HK := Lib.hid hb; clear hb
      go_wp2_with fail
      go_ret
      exact ⟨rfl, (bl_drewN HL.out _).trans (HK.out.mono HL.out.size)⟩

set_option maxRecDepth 100000 in
set_option maxHeartbeats 4000000 in
theorem tells7_core (w : World) (key : Int) (a : Option Addr) (len cap : Nat) (bs : List Int) (x0 x1 x2 x3 x4 x5 x6 x7 : Int) (hlen : len ≤ cap) (hcap : cap ≤ 9223372036854775807) (hk : (Lit.int .u64 key).wf = true) (hb : IntsK .u8 w a len bs)
    (hwx : ∀ x ∈ [x0, x1, x2, x3, x4, x5, x6, x7], (Lit.int .u8 x).wf = true) :
    Makes Try.prog 4 #[.int .u64 key, .slice a len cap, .agg #[.int .u8 x0, .int .u8 x1, .int .u8 x2, .int .u8 x3, .int .u8 x4, .int .u8 x5, .int .u8 x6, .int .u8 x7]] w (.bool true) := by
  have HX := Lib.hid hwx
  have HN := Lib.hid (fun w' => number_any w' [x0, x1, x2, x3, x4, x5, x6, x7] rfl hwx)
  have HBN := Lib.hid (bytes_number [x0, x1, x2, x3, x4, x5, x6, x7] rfl hwx)
  have hq : ∀ w, (Op.equalIn 10000 29 (.agg #[.int .u8 x0, .int .u8 x1, .int .u8 x2, .int .u8 x3, .int .u8 x4, .int .u8 x5, .int .u8 x6, .int .u8 x7]) (.agg #[.int .u8 x0, .int .u8 x1, .int .u8 x2, .int .u8 x3, .int .u8 x4, .int .u8 x5, .int .u8 x6, .int .u8 x7])).run Try.prog w = .ok true w := fun w => by
    have h := eqin_bytes w 29 8 Try.underlying29 [x0, x1, x2, x3, x4, x5, x6, x7] [x0, x1, x2, x3, x4, x5, x6, x7] rfl rfl hwx hwx
    rw [beq_self_eq_true] at h; exact h
  have HQ := Lib.hid hq
  have HB := Lib.hid (hb.pre (min len 200) (by omega))
  clear hwx hq hb
  go_enter Try.func4, Try.ntmps4
  go_wp2_with fail
  refine Calls.mono (cut_any _ a len cap 200 hlen hcap) ?_
  rintro e w1 ⟨rfl, hw1⟩
  generalize hg : w.alloc (.cells #[.int .u8 x0, .int .u8 x1, .int .u8 x2, .int .u8 x3, .int .u8 x4, .int .u8 x5, .int .u8 x6, .int .u8 x7] 29) = w0 at hw1 ⊢
  subst hw1
  have hF := Fresh.of_alloc w (.cells #[.int .u8 x0, .int .u8 x1, .int .u8 x2, .int .u8 x3, .int .u8 x4, .int .u8 x5, .int .u8 x6, .int .u8 x7] 29)
  rw [hg] at hF
  have HF := Lib.hid hF; clear hF hg
  obtain ⟨n, hn, hn1, hn2⟩ : ∃ n, min len 200 = n ∧ n ≤ 200 ∧ n ≤ len := ⟨_, rfl, by omega, by omega⟩
  rw [hn] at HB ⊢
  clear hn
  have HB0 := Lib.hid (HB.out.below HF.out.below)
  go_wp2_with fail
  refine Calls.mono (roomy_any w0 a n cap _ 165 (by omega) HB0.out) ?_
  rintro e W ⟨rfl, hrow, hbW⟩
  have HR := Lib.hid hrow; have HW := Lib.hid hbW; clear hrow hbW
  go_wp2_with fail
  have hF0 : W.heap[w.heap.size]? = _ := bl_row HW.out (lt_of_block HF.out.row) HF.out.row
  have hce : ∀ i v, #[Value.int .u8 x0, .int .u8 x1, .int .u8 x2, .int .u8 x3, .int .u8 x4, .int .u8 x5, .int .u8 x6, .int .u8 x7][i]? = some v → ∀ s : In (fun w' => Below W.heap.size W w'), s.w.cell? ⟨w.heap.size, i, none⟩ = some v :=
    fun i v hv s => bl_cell s.h (p := ⟨w.heap.size, i, none⟩) (lt_of_block hF0) (row_cell hF0 i v hv)
  have c0 := hce 0 _ rfl
  have c1 := hce 1 _ rfl
  have c2 := hce 2 _ rfl
  have c3 := hce 3 _ rfl
  have c4 := hce 4 _ rfl
  have c5 := hce 5 _ rfl
  have c6 := hce 6 _ rfl
  have c7 := hce 7 _ rfl
  have hq : ∀ s : In (fun w' => Below W.heap.size W w'), (Op.equalIn 10000 29 (.agg #[.int .u8 x0, .int .u8 x1, .int .u8 x2, .int .u8 x3, .int .u8 x4, .int .u8 x5, .int .u8 x6, .int .u8 x7]) (.agg #[.int .u8 x0, .int .u8 x1, .int .u8 x2, .int .u8 x3, .int .u8 x4, .int .u8 x5, .int .u8 x6, .int .u8 x7])).run Try.prog s.w = .ok true s.w := fun s => HQ.out s.w
  have HI8 := Lib.hid (IntsK.of_row (zs := [x0, x1, x2, x3, x4, x5, x6, x7]) hF0 HX.out)
  have hwR : ∀ x ∈ bs.take n ++ List.replicate 80 165, (Lit.int .u8 x).wf = true := by
    intro x hx
    rcases List.mem_append.1 hx with h | h
    · exact HB.out.2.1 x h
    · rw [List.eq_of_mem_replicate h]; rfl
  have hIR := IntsK.of_row HR.out hwR
  have hlb : (bs.take n).length = n := HB.out.1
  rw [List.length_append, List.length_replicate, hlb] at hIR
  have HIR := Lib.hid hIR
  have hIn := hIR.pre n (by omega)
  rw [List.take_append_of_le_length (by rw [hlb]; exact Nat.le_refl _), List.take_of_length_le (by rw [hlb]; exact Nat.le_refl _)] at hIn
  have HIN := Lib.hid hIn
  have HBW := Lib.hid (HB0.out.below HW.out)
  have hwW := HF.out.below.trans (HW.out.mono (by have := HF.out.size; omega))
  have HWW := Lib.hid hwW
  clear hF0 hce hwR hIR hlb hIn hwW
  refine wp_plan (.t 0 (.t 1 (.t 2 (.t 3 (.t 4 (.u 5 (.t 6 (.t 7 (.t 10 (.u 8 (.u 9 (.t 11 (.t 12 (.t 13 (.t 14 (.t 16 (.u 15 (.u 17 (.t 18 (.t 19 (.t 20 (.t 21 (.t 22 (.u 23 (.t 24 (.t 25 (.u 26 (.t 27 (.t 28 .done)))))))))))))))))))))))))))))
    (fun w' => Below W.heap.size W w') (by kernel_rfl) (by kernel_rfl) (by kernel_rfl) (fun c a d v w h => by cases d <;> exact h) (Below.refl _ _).drew ?_
  have hS : Below W.heap.size W W.drew := (Below.refl _ _).drew
  generalize W.drew = W1 at hS ⊢
  haveI hne : Nonempty (In fun w' => Below W.heap.size W w') := ⟨⟨W, Below.refl _ _⟩⟩
  repeat (refine plan_t (by rfl) ?_; (first | go_big_quiet_skip | (go_big_quiet_want; go_big_quiet_op; go_big_quiet_on)); refine wpQuiet_nil ?_)
  refine plan_us (by rfl) (by kernel_rfl) ?_
  intro K hK
  go_wp2_with fail
  refine Calls.mono (same7_any _ _ _ n (n + 80) _ (by omega) hk (HIN.out.below hS)) ?_
  rintro e W2 ⟨rfl, hb⟩
  replace hS := bl_next hS hS.size hb; clear hb
  go_wp2_with fail
  refine ⟨hS, ?_⟩
  repeat (refine plan_t (by rfl) ?_; (first | go_big_quiet_skip | (go_big_quiet_want; go_big_quiet_op; go_big_quiet_on)); refine wpQuiet_nil ?_)
  refine plan_us (by rfl) (by kernel_rfl) ?_
  intro K hK
  go_wp2_with fail
  refine Calls.mono (HN.out _) ?_
  rintro e W2 ⟨rfl, hb⟩
  replace hS := bl_next hS hS.size hb; clear hb
  go_wp2_with fail
  refine ⟨hS, ?_⟩
  refine plan_us (by rfl) (by kernel_rfl) ?_
  intro K hK
  go_wp2_with fail
  refine Calls.mono (bytes_any _ _) ?_
  rintro e W2 ⟨rfl, hb⟩
  rw [HBN.out]; simp only [List.map_cons, List.map_nil]
  replace hS := bl_next hS hS.size hb; clear hb
  go_wp2_with fail
  refine ⟨hS, ?_⟩
  repeat (refine plan_t (by rfl) ?_; (first | go_big_quiet_skip | (go_big_quiet_want; go_big_quiet_op; go_big_quiet_on)); refine wpQuiet_nil ?_)
  refine plan_us (by rfl) (by kernel_rfl) ?_
  intro K hK
  go_wp2_with fail
  refine Calls.mono (HN.out _) ?_
  rintro e W2 ⟨rfl, hb⟩
  replace hS := bl_next hS hS.size hb; clear hb
  go_wp2_with fail
  refine ⟨hS, ?_⟩
  refine plan_us (by rfl) (by kernel_rfl) ?_
  intro K hK
  go_wp2_with fail
  refine Calls.mono ((rnumber_any _ _ 8 8 _ (by omega) (HI8.out.below hS)).makes) ?_
  rintro e W2 ⟨rfl, hb⟩
  replace hS := bl_next hS hS.size hb; clear hb
  go_wp2_with fail
  refine ⟨hS, ?_⟩
  repeat (refine plan_t (by rfl) ?_; (first | go_big_quiet_skip | (go_big_quiet_want; go_big_quiet_op; go_big_quiet_on)); refine wpQuiet_nil ?_)
  refine plan_us (by rfl) (by kernel_rfl) ?_
  intro K hK
  go_wp2_with fail
  refine Calls.mono ((intact_byte _ _ _ n (n + 80) cap _ 165 (by omega) (by omega) (by omega) (HIR.out.below hS) (HBW.out.below hS)).makes) ?_
  rintro e W2 ⟨rfl, hb⟩
  replace hS := bl_next hS hS.size hb; clear hb
  go_wp2_with fail
  refine ⟨hS, ?_⟩
  repeat (refine plan_t (by rfl) ?_; (first | go_big_quiet_skip | (go_big_quiet_want; go_big_quiet_op; go_big_quiet_on)); refine wpQuiet_nil ?_)
  refine plan_us (by rfl) (by kernel_rfl) ?_
  intro K hK
  go_wp2_with fail
  refine Calls.mono (known7_any _) ?_
  rintro e W2 ⟨rfl, hb⟩
  replace hS := bl_next hS hS.size hb; clear hb
  go_wp2_with fail
  refine ⟨hS, ?_⟩
  repeat (refine plan_t (by rfl) ?_; (first | go_big_quiet_skip | (go_big_quiet_want; go_big_quiet_op; go_big_quiet_on)); refine wpQuiet_nil ?_)
  show Exit.then _ _ _ _ _
  go_wp2_with fail
  go_ret
  exact ⟨rfl, HWW.out.trans (hS.mono HWW.out.size)⟩

theorem tells7_any (w : World) (key : Int) (a : Option Addr) (len cap : Nat) (bs xs : List Int) (hlen : len ≤ cap) (hcap : cap ≤ 9223372036854775807) (hk : (Lit.int .u64 key).wf = true) (hb : IntsK .u8 w a len bs)
    (hl : xs.length = 8) (hwx : ∀ x ∈ xs, (Lit.int .u8 x).wf = true) :
    Makes Try.prog 4 #[.int .u64 key, .slice a len cap, .agg (xs.map (Value.int .u8)).toArray] w (.bool true) := by
  match xs, hl with
  | [x0, x1, x2, x3, x4, x5, x6, x7], _ => exact tells7_core w key a len cap bs x0 x1 x2 x3 x4 x5 x6 x7 hlen hcap hk hb hwx
end Go.Proofs.Ytnjpfgialcnniaa
