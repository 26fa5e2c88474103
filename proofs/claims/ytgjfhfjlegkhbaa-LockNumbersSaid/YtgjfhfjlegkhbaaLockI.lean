/- chapter 8's walks: LockNumbers. -/
import Derived.Test.YtgjfhfjlegkhbaaLockG
namespace Go.Proofs.Ytgjfhfjlegkhbaa
open Go.RowKit
set_option linter.unusedVariables false

set_option maxRecDepth 100000 in
set_option maxHeartbeats 4000000 in
theorem numbers8_any (w : World) : Makes Try.prog 5 #[] w (.bool true) := by
  obtain ⟨i0, hi, hz0, hz1, hz2⟩ := info_parts infoU8
  have hz2' : i0.bytes * 40 ≤ 281474976710656 := by rw [hz2]; omega
  have HI := Lib.hid hi; have HZ0 := Lib.hid hz0; have HZ1 := Lib.hid hz1; have HZ2 := Lib.hid hz2'
  clear hi hz0 hz1 hz2 hz2'
  go_enter Try.func5, Try.ntmps5
  go_wp2_with (first
    | (at_make; refine wpList_make_full _ rfl _ _ 23 rfl w.heap.size 5 i0 (.int .u8 0) 1 Try.underlying23 HI.out HZ0.out HZ1.out .i64 .i64 _ _ 40 rfl rfl (by omega) (by omega) HZ2.out (by unfold maxLen; omega) (by exact Nat.le_refl _) ?_; intro w1 hown hgrow; have HO := Lib.hid hown; have HG := Lib.hid hgrow; clear hown hgrow)
    | fail)
  have hrow := own_full HO.out
  rw [show (Value.int .u8 0).cells = #[Value.int .u8 0] from rfl, toList_madeCells_one] at hrow
  have hrow2 : Hid (w1.heap[w.heap.size]? = some (.cells ((List.replicate 40 (0 : Int)).map (Value.int .u8)).toArray 5 (0, 0))) := by
    rw [List.map_replicate]; exact hrow
  have HL := Lib.hid (below_of_none HG.out)
  clear hrow HO HG
  go_loopw [2] (fun i wr => ∃ (j : Nat) (zs : List Int), i = .int .i64 j ∧ j ≤ 40 ∧ zs.length = 40 ∧ Hid (∀ x ∈ zs, (Lit.int .u8 x).wf = true) ∧ Hid (Below w.heap.size w wr) ∧
    Hid (wr.heap[w.heap.size]? = some (.cells (zs.map (Value.int .u8)).toArray 5 (0, 0)))) (fun i _ => 40 - (intOf i).toNat)
  case atStart => exact ⟨0, List.replicate 40 0, rfl, by omega, by simp, Lib.hid (by intro x hx; rw [List.eq_of_mem_replicate hx]; rfl), HL, hrow2⟩
  case round =>
    obtain ⟨j, zs, rfl, hj, hl, HW, HL, HR⟩ := hrel
    by_cases hlt : j < 40
    · obtain ⟨x0, hx0⟩ : ∃ x, zs[j]? = some x := ⟨_, List.getElem?_eq_getElem (by omega)⟩
      have hc : wr.cell? ⟨w.heap.size, j, none⟩ = some (.int .u8 x0) := by
        rw [cell_of_row _ _ _ _ _ _ HR.out, List.getElem?_toArray, List.getElem?_map, hx0]; rfl
      have hf := row_free HR.out j
      have HLEN := Lib.hid hl
      clear hx0 hl
      go_upto_region 6 with fail
      obtain ⟨v, hv⟩ : ∃ v, (↑j : Int) * 11 % 256 = v := ⟨_, rfl⟩
      have hwv : (Lit.int .u8 v).wf = true := wf_u8_of (by omega) (by omega)
      simp only [hv]
      have hw2 : ∀ x ∈ zs.set j v, (Lit.int .u8 x).wf = true := by
        intro x hx
        rcases List.mem_or_eq_of_mem_set hx with h | h
        · exact HW.out x h
        · rw [h]; exact hwv
      have HL1 := Lib.hid (HL.out.setCell (p := ⟨w.heap.size, j, none⟩) (Nat.le_refl _) (.int .u8 v))
      have HR1 := Lib.hid (set_row HR.out j v)
      have hI := IntsK.of_row HR1.out hw2
      rw [List.length_set, HLEN.out] at hI
      have HI1 := Lib.hid hI
      have HW2 := Lib.hid hw2
      have HLZ : Hid ((zs.set j v).length = 40) := Lib.hid (by rw [List.length_set, HLEN.out])
      clear hc hf hw2 hI hv hwv HR HL HW HLEN
      generalize wr.setCell ⟨w.heap.size, j, none⟩ (.int .u8 v) = wa at *
      generalize zs.set j v = z2 at *
      have hgw := HL1.out.size
      have hgl := lt_of_block HR1.out
      generalize hgen : w.heap.size = g at HR1 HI1 hgl ⊢
      have HGEN := Lib.hid hgen
      clear hgen
      have hsh : (Lit.int .u64 (9223372036854775808 / 2 ^ j)).wf = true := by
        have h1 := Int.ediv_le_self (a := 9223372036854775808) (2 ^ j) (by decide)
        have h2 : (0 : Int) ≤ 9223372036854775808 / 2 ^ j := Int.ediv_nonneg (by decide) (Int.le_of_lt (Int.pow_pos (by decide)))
        exact wf_u64_of h2 (by omega)
      have HSH := Lib.hid hsh; clear hsh
      have hsf := HI1.out.suf j (by omega)
      rw [Nat.zero_add] at hsf
      have HSF := Lib.hid hsf; clear hsf
      have HPJ := Lib.hid (HI1.out.pre j (by omega))
      have HPH := Lib.hid (HI1.out.pre (j / 2) (by omega))
      have hj0 : (0 : Int) ≤ j := by omega
      have hj40 : (j : Int) ≤ 40 := by omega
      refine wp_plan (.t 0 (.t 1 (.t 2 (.t 3 (.t 4 (.t 5 (.t 6 (.t 7 (.t 8 (.t 9 (.t 10 (.u 11 (.t 12 (.t 13 (.t 14 (.t 15 (.t 16 (.t 17 (.t 18 (.t 19 (.t 20 (.u 21 (.t 22 (.t 23 .done)))))))))))))))))))))))) (fun y => Below wa.heap.size wa y) (by kernel_rfl) (by kernel_rfl) (by kernel_rfl) (fun c a d v w h => by cases d <;> exact h) (Below.refl _ _).drew ?_
      have hS : Below wa.heap.size wa wa.drew := (Below.refl _ _).drew
      generalize wa.drew = W1 at hS ⊢
      haveI hne : Nonempty (In fun y => Below wa.heap.size wa y) := ⟨⟨wa, Below.refl _ _⟩⟩
      repeat (refine plan_t (by rfl) ?_; (first | go_big_quiet_skip | (go_big_quiet_want; go_big_quiet_op; go_big_quiet_on)); refine wpQuiet_nil ?_)
      refine plan_us (by rfl) (by kernel_rfl) ?_
      intro K hK
      go_wp2_with fail
      refine Calls.mono (same8_any _ _ _ _ j 40 _ _ (40 - j) (40 - j) _ HSH.out (by omega) (by omega) (HPJ.out.below hS) (HSF.out.below hS)) ?_
      rintro e W2 ⟨rfl, hb⟩
      replace hS := bl_next hS hS.size hb; clear hb
      go_wp2_with fail
      refine ⟨hS, ?_⟩
      repeat (refine plan_t (by rfl) ?_; (first | go_big_quiet_skip | (go_big_quiet_want; go_big_quiet_op; go_big_quiet_on)); refine wpQuiet_nil ?_)
      refine plan_us (by rfl) (by kernel_rfl) ?_
      intro K hK
      go_wp2_with fail
      refine Calls.mono (same8_any _ 7 9 _ (j / 2) 40 _ _ j 40 _ (by decide) (by omega) (by omega) (HPH.out.below hS) (HPJ.out.below hS)) ?_
      rintro e W2 ⟨rfl, hb⟩
      replace hS := bl_next hS hS.size hb; clear hb
      go_wp2_with fail
      refine ⟨hS, ?_⟩
      repeat (refine plan_t (by rfl) ?_; (first | go_big_quiet_skip | (go_big_quiet_want; go_big_quiet_op; go_big_quiet_on)); refine wpQuiet_nil ?_)
      clear hne
      show Exit.then _ _ _ _ _
      have HS1 := Lib.hid hS; clear hS
      go_upto_region 8 with fail
      refine wp_plan (.t 0 (.t 1 (.t 2 (.t 3 (.t 4 (.t 5 (.t 6 (.u 7 (.t 8 .done))))))))) (fun y => Below W2.heap.size W2 y) (by kernel_rfl) (by kernel_rfl) (by kernel_rfl) (fun c a d v w h => by cases d <;> exact h) (Below.refl _ _).drew ?_
      have hS : Below W2.heap.size W2 W2.drew := (Below.refl _ _).drew
      generalize W2.drew = W3 at hS ⊢
      haveI hne : Nonempty (In fun y => Below W2.heap.size W2 y) := ⟨⟨W2, Below.refl _ _⟩⟩
      repeat (refine plan_t (by rfl) ?_; (first | go_big_quiet_skip | (go_big_quiet_want; go_big_quiet_op; go_big_quiet_on)); refine wpQuiet_nil ?_)
      refine plan_us (by rfl) (by kernel_rfl) ?_
      intro K hK
      go_wp2_with fail
      refine Calls.mono (rseal_any _ 7 9 _ (j / 2) 40 _ _ j 40 _ (by decide) (by omega) (by omega) ((HPH.out.below HS1.out).below hS) ((HPJ.out.below HS1.out).below hS)) ?_
      rintro e W4 ⟨v4, rfl, hb, ho⟩
      have HWF := Lib.hid (sealM_wf 7 9 (z2.take (j / 2)) (z2.take j) HPJ.out.2.1)
      obtain ⟨b4, cp4, rfl, hc4, hi4, _⟩ := ints_of_own ho HWF.out
      have hcm4 := own_cap8 ho _ _ _ rfl
      generalize sealM 7 9 (z2.take (j / 2)) (z2.take j) = xs at *
      replace hS := bl_next hS hS.size hb
      have HI4 := Lib.hid hi4
      clear hb ho hi4
      go_wp2_with fail
      refine ⟨hS, ?_⟩
      repeat (refine plan_t (by rfl) ?_; (first | go_big_quiet_skip | (go_big_quiet_want; go_big_quiet_op; go_big_quiet_on)); refine wpQuiet_nil ?_)
      have HS4 := Lib.hid (bl_next HS1.out HS1.out.size hS)
      have HP4 := Lib.hid (HPH.out.below HS4.out)
      clear hS hne HS1 HPJ HSF HI1 HSH
      show Exit.then _ _ _ _ _
      go_wp2_with fail
      go_loopw [4] (fun s4 wx => ∃ k : Nat, s4 = .int .i64 k ∧ k ≤ j + 8 ∧ Hid (Below W4.heap.size W4 wx)) (fun s4 _ => j + 8 - (intOf s4).toNat)
      case atStart => exact ⟨0, rfl, by omega, Lib.hid (Below.refl _ _)⟩
      case round =>
        obtain ⟨k, rfl, hk, HL⟩ := hrel
        by_cases hkt : k < j + 8
        · have HI5 := Lib.hid (HI4.out.below HL.out)
          have HP5 := Lib.hid (HP4.out.below HL.out)
          have hxl : xs.length = j + 8 := HI4.out.1
          obtain ⟨y, hy⟩ : ∃ y, xs[k]? = some y := ⟨_, List.getElem?_eq_getElem (by omega)⟩
          have HY := Lib.hid hy
          clear hxl hy
          have T2 := HI5.out.below ((Below.refl wr.heap.size wr).alloc (Nat.le_refl _) (.cells #[] 5))
          have T3 : 0 + (j + 8) ≤ 140737488355328 := by omega
          go_upto_region 13 with (first | (at_builtin; refine wpList_append_bytes rfl _ _ rfl wr.heap.size 0 (.slice (some ⟨wr.heap.size, 0, none⟩) 0 0) [] rfl (World.ownsRow_made _ _ _ (Nat.le_refl _) (by unfold maxLen; omega) (by rfl)) _ _ _ _ rfl T2 T3 (by simp) ?_; intro v6 w6 hown hgrow) | fail)
          rw [Nat.zero_add, List.nil_append] at hown
          obtain ⟨b6, cp6, rfl, _⟩ := own_slice hown
          have HO6 := Lib.hid hown
          have HL6 := Lib.hid (((Below.refl wr.heap.size wr).alloc (Nat.le_refl _) _).grown hgrow (by simp) (by intro k hk; simp [Value.ownBlock] at hk; omega))
          clear hown hgrow T2 T3
          obtain ⟨gx, rfl, hgx, hgxl, hfz, hcells, _⟩ := own_set HO6.out (Below.refl _ _) (i := k) (by omega) (.int .u8 0) rfl
          have hc : w6.cell? ⟨gx, k, none⟩ = some (.int .u8 y) := hcells _ _ (by rw [List.getElem?_map, HY.out]; rfl)
          have hput := own_put HO6.out (i := k) (by omega) (.int .u8 (bits .xor .u8 y 1)) rfl
          rw [← List.map_set] at hput
          have hwy : ∀ z ∈ xs.set k (bits .xor .u8 y 1), (Lit.int .u8 z).wf = true := by
            intro z hz
            rcases List.mem_or_eq_of_mem_set hz with h | h
            · exact HWF.out z h
            · rw [h]; exact wf_bits _ _ _ _
          obtain ⟨_, _, e5, hc6, hi6, _⟩ := ints_of_own hput hwy
          injection e5 with e51 e52 e53
          subst e51 e53
          have hcm6 := own_cap8 hput _ _ _ rfl
          have hL7 := HL6.out.setCell (p := ⟨gx, k, none⟩) hgx (.int .u8 (bits .xor .u8 y 1))
          have HI6 := Lib.hid hi6; have HL7 := Lib.hid hL7
          clear hcells hput hwy hi6 hL7 e52
          go_upto_region 14 with fail
          generalize w6.setCell ⟨gx, k, none⟩ (.int .u8 (bits .xor .u8 y 1)) = W7 at HI6 HL7 ⊢
          have HP7 := Lib.hid (HP5.out.below HL7.out)
          have HI7 := Lib.hid (HI5.out.below HL7.out)
          have HIK := Lib.hid (HI7.out.pre k (by omega))
          clear hc hfz hgxl HL6 HO6 HP5 HI5
          have hk0 : (0 : Int) ≤ k := by omega
          have hkj : (k : Int) ≤ cp4 := by omega
          refine wp_plan (.t 0 (.t 1 (.t 2 (.t 3 (.t 4 (.u 5 (.t 6 (.t 7 (.t 8 (.t 9 (.t 10 (.t 11 (.t 12 (.t 13 (.t 14 (.u 15 (.t 16 (.t 17 .done)))))))))))))))))) (fun y => Below W7.heap.size W7 y) (by kernel_rfl) (by kernel_rfl) (by kernel_rfl) (fun c a d v w h => by cases d <;> exact h) (Below.refl _ _).drew ?_
          have hS : Below W7.heap.size W7 W7.drew := (Below.refl _ _).drew
          generalize W7.drew = W8 at hS ⊢
          haveI hne : Nonempty (In fun y => Below W7.heap.size W7 y) := ⟨⟨W7, Below.refl _ _⟩⟩
          repeat (refine plan_t (by rfl) ?_; (first | go_big_quiet_skip | (go_big_quiet_want; go_big_quiet_op; go_big_quiet_on)); refine wpQuiet_nil ?_)
          refine plan_us (by rfl) (by kernel_rfl) ?_
          intro K hK
          go_wp2_with fail
          refine Calls.mono (opens8_any _ 7 9 _ (j / 2) 40 _ _ (j + 8) _ _ (by decide) (by omega) (by omega) hc6 hcm6 (HP7.out.below hS) (HI6.out.below hS)) ?_
          rintro e W2 ⟨rfl, hb⟩
          replace hS := bl_next hS hS.size hb; clear hb
          go_wp2_with fail
          refine ⟨hS, ?_⟩
          repeat (refine plan_t (by rfl) ?_; (first | go_big_quiet_skip | (go_big_quiet_want; go_big_quiet_op; go_big_quiet_on)); refine wpQuiet_nil ?_)
          refine plan_us (by rfl) (by kernel_rfl) ?_
          intro K hK
          go_wp2_with fail
          refine Calls.mono (opens8_any _ 7 9 _ (j / 2) 40 _ _ k _ _ (by decide) (by omega) (by omega) (by omega) hcm4 (HP7.out.below hS) (HIK.out.below hS)) ?_
          rintro e W2 ⟨rfl, hb⟩
          replace hS := bl_next hS hS.size hb; clear hb
          go_wp2_with fail
          refine ⟨hS, ?_⟩
          repeat (refine plan_t (by rfl) ?_; (first | go_big_quiet_skip | (go_big_quiet_want; go_big_quiet_op; go_big_quiet_on)); refine wpQuiet_nil ?_)
          have HL8 := Lib.hid (bl_next HL.out HL.out.size (bl_next HL7.out HL7.out.size hS))
          clear hS hne HL7 HP7 HI7 HIK HI6 HL
          show Exit.then _ _ _ _ _
          go_wp2_with fail
          go_roundw
          case rel => exact ⟨k + 1, by go_num, by omega, HL8⟩
          case measure => simp [intOf]; omega
        · obtain rfl : k = j + 8 := by omega
          go_wp2_with fail
          have hge := HGEN.out
          subst hge
          go_roundw
          case rel => exact ⟨j + 1, z2, by go_num, by omega, HLZ.out, HW2, Lib.hid (HL1.out.trans ((bl_next HS4.out HS4.out.size HL.out).mono HL1.out.size)), Lib.hid (bl_row (bl_next HS4.out HS4.out.size HL.out) hgl HR1.out)⟩
          case measure => simp [intOf]; omega
    · go_wp2_with fail
      refine Calls.mono (known8_any _) ?_
      rintro e w7 ⟨rfl, hb7⟩
      have HB7 := Lib.hid (bl_next HL.out HL.out.size hb7)
      clear hb7
      go_wp2_with fail
      go_ret
      exact ⟨rfl, HB7.out⟩
end Go.Proofs.Ytgjfhfjlegkhbaa
