/- the reference's lock: turned. -/
import Derived.Test.YtgjfhfjlegkhbaaLockA
import Derived.Test.YtgjfhfjlegkhbaaRegion
namespace Go.Proofs.Ytgjfhfjlegkhbaa
open Go.RowKit
set_option linter.unusedVariables false

theorem plan_b {P : Program} {l : List Oper} {Q : Exit → Act → World → Prop} {k j : Nat} {p q : Plan} {S : World → Prop} {a : Act} {w : World} (h1 : (Plan.u k p).wp P l.toArray Q S a w) (h2 : (Plan.u j q).wp P l.toArray Q S a w) : (Plan.b k p j q).wp P l.toArray Q S a w := ⟨h1, h2⟩

theorem own_of_row {w : World} {base g e n : Nat} {xs : List Value} (h : w.heap[g]? = some (.cells xs.toArray e (0, 0))) (hb : base ≤ g) (hl : xs.length = n) (hm : n ≤ maxLen) : w.ownsRow base e 1 (.slice (some ⟨g, 0, none⟩) n n) n xs :=
  ⟨by rw [hl, Nat.mul_one], .inr ⟨g, n, xs.toArray, rfl, hb, h, Nat.le_refl _, hm, by simp [hl], by rw [Nat.mul_one, ← hl]; simp⟩⟩

/-- rbytes: a row of its own. -/
theorem rbytes_own (w : World) (n : Int) : Calls Try.prog 31 #[.int .u64 n] w fun e w' => e = .returned (.slice (some ⟨w.heap.size, 0, none⟩) 8 8) ∧ Below w.heap.size w w' ∧ w'.heap.size = w.heap.size + 1 ∧
    IntsK .u8 w' (some ⟨w.heap.size, 0, none⟩) 8 (bytesM n) ∧ w'.ownsRow w.heap.size 5 1 (.slice (some ⟨w.heap.size, 0, none⟩) 8 8) 8 ((bytesM n).map (Value.int .u8)) := by
  refine Calls.mono (rbytes_any w n) ?_
  rintro e w' ⟨rfl, hF⟩
  exact ⟨rfl, hF.below, hF.size, IntsK.of_row (zs := bytesM n) hF.row (wf_bytes n), own_of_row hF.row (Nat.le_refl _) (by simp [bytesM]) (by unfold maxLen; omega)⟩

set_option maxHeartbeats 2000000 in
theorem rturned_any (w : World) (key n : Int) (a : Option Addr) (len cap : Nat) (bs : List Int) (hlen : len ≤ 1000000) (hn : (Lit.int .u64 n).wf = true) (hI : IntsK .u8 w a len bs) :
    Calls Try.prog 26 #[.int .u64 key, .int .u64 n, .slice a len cap] w fun e w' => ∃ v, e = .returned v ∧ Below w.heap.size w w' ∧ w'.ownsRow w.heap.size 5 1 v len ((turnedM key n bs).map (Value.int .u8)) := by
  have HI := Lib.hid hI
  have hl := hI.1
  have HN := Lib.hid hn
  clear hI hn
  go_enter Try.func26, Try.ntmps26
  go_upto_region 2 with (first | (at_builtin; refine wpList_append_bytes rfl _ _ rfl w.heap.size 0 (.slice (some ⟨w.heap.size, 0, none⟩) 0 0) [] rfl (World.ownsRow_made _ _ _ (Nat.le_refl _) (by unfold maxLen; omega) (by rfl)) _ _ _ _ rfl (HI.out.below ((Below.refl _ _).alloc (Nat.le_refl _) _)) (by omega) (by simp) ?_; intro v1 w1 hown1 hgrow1; rw [Nat.zero_add, List.nil_append] at hown1; have HO0 := Lib.hid hown1; have HL0 := Lib.hid (((Below.refl w.heap.size w).alloc (Nat.le_refl _) _).grown hgrow1 (by simp) (by intro k hk; simp [Value.ownBlock] at hk; omega)); clear hown1 hgrow1) | fail)
  obtain ⟨b, cp, rfl, hcp⟩ := own_slice HO0.out
  go_wp2_with fail
  go_loopw [8] (fun s8 wr => ∃ j : Nat, s8 = .int .i64 j ∧ j ≤ len ∧ Hid (Below w.heap.size w wr) ∧ Hid (wr.ownsRow w.heap.size 5 1 (.slice b len cp) len ((mixM key n bs j).map (Value.int .u8)))) (fun s8 _ => len - (intOf s8).toNat)
  case atStart => exact ⟨0, rfl, by omega, HL0, HO0⟩
  case round =>
    clear HL0 HO0
    obtain ⟨j, rfl, hj, HL, HO⟩ := hrel
    by_cases hlt : j < len
    · have hsz := HL.out.size
      go_wp2_with fail
      refine Calls.mono (rbytes_own wr n) ?_
      rintro e w2 ⟨rfl, hb2, -, hi2, ho2⟩
      have HB2 := Lib.hid hb2; have HO2 := Lib.hid ho2
      clear hb2 hi2 ho2
      go_wp2_with fail
      refine Calls.mono (rbytes_own w2 ((j : Int) / 8)) ?_
      rintro e w3 ⟨rfl, hb3, -, hi3, -⟩
      have HB3 := Lib.hid (bl_next HB2.out HB2.out.size hb3); have HO3 := Lib.hid (own_below HO2.out hb3); have HI3 := Lib.hid hi3
      have hsz3 := HB3.out.size
      clear hb3 hi3 HB2 HO2
      go_wp2_with (first | (at_builtin; refine wpList_append_bytes rfl _ _ rfl wr.heap.size _ _ _ rfl HO3.out _ _ _ _ rfl HI3.out (by omega) hsz3 ?_; intro v4 w4 hown hgrow; have HO4 := Lib.hid hown; have HB4 := Lib.hid (HB3.out.grown hgrow hsz3 (own_base HO3.out)); clear hown hgrow) | fail)
      obtain ⟨b4, cp4, rfl, _, hi4, _⟩ := ints_of_own HO4.out (by
        intro y hy
        rcases List.mem_append.1 hy with h | h
        · exact wf_bytes _ y h
        · exact wf_bytes _ y h)
      have HI4 := Lib.hid hi4
      clear hi4 HB3 HO3 HI3 HO4
      refine Calls.mono (rkeyed_any _ key b4 16 cp4 _ (by omega) HI4.out) ?_
      rintro e w5 ⟨rfl, q5, rfl⟩
      rw [show bytesM n ++ bytesM ((j : Int) / 8) = rowM [n, (j : Int) / 8] by simp [rowM]]
      have HL5 := Lib.hid (bl_next HL.out hsz (bl_drewN HB4.out q5))
      have HO5 := Lib.hid (own_below HO.out (bl_drewN HB4.out q5))
      clear HL HO HI4 HB4
      go_upto_region 6 with fail
      generalize w4.drewN q5 = W5 at HL5 HO5 ⊢
      obtain ⟨g, rfl, hg, hgl, hfz, hcells, _⟩ := own_set HO5.out (Below.refl _ _) (i := j) hlt (.int .u8 0) rfl
      obtain ⟨x, hx⟩ : ∃ x, bs[j]? = some x := ⟨_, List.getElem?_eq_getElem (by omega)⟩
      have hc : W5.cell? ⟨g, j, none⟩ = some (.int .u8 x) := hcells _ _ (by rw [List.getElem?_map, mixM_at key n bs j j (Nat.le_refl _), hx]; rfl)
      obtain ⟨ks, hks⟩ : ∃ ks, keyRow key n (j / 8) = ks := ⟨_, rfl⟩
      have hkl : ks.length = 8 := by rw [← hks]; exact keyRow_len key n (j / 8)
      obtain ⟨y, hy⟩ : ∃ y, ks[j % 8]? = some y := ⟨_, List.getElem?_eq_getElem (by omega)⟩
      have hta : turnAt key n bs j = bits .xor .u8 x y := by
        unfold turnAt
        rw [List.getD_eq_getElem?_getD, hx, List.getD_eq_getElem?_getD, hks, hy]; rfl
      have HTA := Lib.hid hta
      have HKS := Lib.hid (And.intro hkl hks)
      clear hcells hx hta hkl hks
      have HY := Lib.hid hy
      refine wp_plan (.t 0 (.t 1 (.t 2 (.t 3 (.t 4 (.t 6 (.t 8 (.t 9 (.b 5 (.u 7 (.t 10 (.t 11 (.t 12 (.t 13 (.u 14 .done)))))) 7 (.t 10 (.t 11 (.u 5 (.t 12 (.t 13 (.u 14 .done)))))))))))))))
        (fun y => W5.grownBy y (some g)) (by kernel_rfl) (by kernel_rfl) (by kernel_rfl) (fun c a d v w h => by cases d <;> exact h) (grown_drew _ _) ?_
      have hS : W5.grownBy W5.drew (some g) := grown_drew _ _
      have HO1 := Lib.hid (own_below HO5.out (Below.refl W5.heap.size W5).drew)
      have HL1 := Lib.hid (bl_next HL5.out HL5.out.size (Below.refl W5.heap.size W5).drew)
      have hc1 : W5.drew.cell? ⟨g, j, none⟩ = some (.int .u8 x) := hc
      have hf1 : W5.drew.frozen? ⟨g, j, none⟩ = false := hfz
      have hgl1 : g < W5.drew.heap.size := hgl
      generalize W5.drew = W1 at hS HO1 HL1 hc1 hf1 hgl1 ⊢
      clear hc hfz hgl HO5 HL5 hy
      haveI hne : Nonempty (In fun y => W5.grownBy y (some g)) := ⟨⟨W5, grown_refl _ _⟩⟩
      repeat (refine plan_t (by rfl) ?_; (first | go_big_quiet_skip | (go_big_quiet_want; go_big_quiet_op; go_big_quiet_on)); refine wpQuiet_nil ?_)
      refine plan_b ?_ ?_
      · refine plan_us (by rfl) (by kernel_rfl) ?_
        intro K hK
        go_wp2_with fail
        refine ⟨hS, ?_⟩
        have hy := HY.out
        refine plan_un (by rfl) (by kernel_rfl) ?_
        intro K hK
        go_wp2_with fail
        refine Calls.mono (rbytes_own W1 (keyedM key (rowM [n, (j : Int) / 8]))) ?_
        rintro e W7 ⟨rfl, hb7, -, hi7, -⟩
        have hS7 : W5.grownBy W7 (some g) := grown_trans hS (grown_below hb7 _)
        have HO7 := Lib.hid (own_below HO1.out hb7)
        have HL7 := Lib.hid (bl_next HL1.out HL1.out.size hb7)
        have hc7 : W7.cell? ⟨g, j, none⟩ = some (.int .u8 x) := bl_cell hb7 (p := ⟨g, j, none⟩) hgl1 hc1
        have hf7 : W7.frozen? ⟨g, j, none⟩ = false := (hb7.frozen (p := ⟨g, j, none⟩) hgl1).trans hf1
        have hds : ∀ s : In (fun y => W7.grownBy y (some g)), s.w.cell? ⟨W1.heap.size, j % 8, none⟩ = some (.int .u8 y) := fun s => by
          obtain ⟨b9, o9, x9, e9, hbl9, hx9, _, hc9⟩ := hi7.at (Below.refl _ _) (j := j % 8) (by omega)
          injection e9 with e9; injection e9 with e91 e92
          subst e91 e92
          rw [Nat.zero_add] at hc9
          rw [show y = x9 by rw [hx9, List.getD_eq_getElem?_getD]; have h := HKS.out.2; unfold keyRow at h; rw [show ((j / 8 : Nat) : Int) = (j : Int) / 8 by omega] at h; rw [h, hy]; rfl]
          exact s.h.cell hc9 (by intro e; injection e with e; have e' : W1.heap.size = g := e; omega)
        haveI hne7 : Nonempty (In fun y => W7.grownBy y (some g)) := ⟨⟨W7, grown_refl _ _⟩⟩
        clear HO1 HL1 hb7 hi7
        generalize hg7 : W1.heap.size = g7 at *
        go_wp2_with fail
        refine ⟨fun y => W7.grownBy y (some g), fun x hx => grown_trans hS7 hx, grown_refl _ _, ?_⟩
        repeat (refine plan_t (by rfl) ?_; (first | go_big_quiet_skip | (go_big_quiet_want; go_big_quiet_op; go_big_quiet_on)); refine wpQuiet_nil ?_)
        refine plan_un (by rfl) (by kernel_rfl) ?_
        intro K2 hK2
        go_wp2_with fail
        have hHO := own_put HO7.out (i := j) hlt (.int .u8 (bits .xor .u8 x y)) rfl
        have hHL := (HL7.out.setCell (p := ⟨g, j, none⟩) hg (.int .u8 (bits .xor .u8 x y)))
        refine ⟨fun y => W7.grownBy y (some g), fun _ h => h, grown_setCell _ _ _ _, ?_⟩
        have hset : mixM key n bs (j + 1) = (mixM key n bs j).set j (bits .xor .u8 x y) := by rw [← HTA.out]; rfl
        rw [← List.map_set, ← hset] at hHO
        have HO8 := Lib.hid hHO; have HL8 := Lib.hid hHL
        clear hHO hHL hset HO7 HL7 hc7 hf7
        show Exit.inBlock _ _ _ _ _
        go_wp2_with fail
        go_roundw
        case rel => exact ⟨j + 1, by go_num, by omega, HL8, HO8⟩
        case measure => simp [intOf]; omega
      · have hy := HY.out
        refine plan_un (by rfl) (by kernel_rfl) ?_
        intro K hK
        go_wp2_with fail
        refine Calls.mono (rbytes_own W1 (keyedM key (rowM [n, (j : Int) / 8]))) ?_
        rintro e W7 ⟨rfl, hb7, -, hi7, -⟩
        have hS7 : W5.grownBy W7 (some g) := grown_trans hS (grown_below hb7 _)
        have HO7 := Lib.hid (own_below HO1.out hb7)
        have HL7 := Lib.hid (bl_next HL1.out HL1.out.size hb7)
        have hc7 : W7.cell? ⟨g, j, none⟩ = some (.int .u8 x) := bl_cell hb7 (p := ⟨g, j, none⟩) hgl1 hc1
        have hf7 : W7.frozen? ⟨g, j, none⟩ = false := (hb7.frozen (p := ⟨g, j, none⟩) hgl1).trans hf1
        have hds : ∀ s : In (fun y => W7.grownBy y (some g)), s.w.cell? ⟨W1.heap.size, j % 8, none⟩ = some (.int .u8 y) := fun s => by
          obtain ⟨b9, o9, x9, e9, hbl9, hx9, _, hc9⟩ := hi7.at (Below.refl _ _) (j := j % 8) (by omega)
          injection e9 with e9; injection e9 with e91 e92
          subst e91 e92
          rw [Nat.zero_add] at hc9
          rw [show y = x9 by rw [hx9, List.getD_eq_getElem?_getD]; have h := HKS.out.2; unfold keyRow at h; rw [show ((j / 8 : Nat) : Int) = (j : Int) / 8 by omega] at h; rw [h, hy]; rfl]
          exact s.h.cell hc9 (by intro e; injection e with e; have e' : W1.heap.size = g := e; omega)
        haveI hne7 : Nonempty (In fun y => W7.grownBy y (some g)) := ⟨⟨W7, grown_refl _ _⟩⟩
        clear HO1 HL1 hb7 hi7
        generalize hg7 : W1.heap.size = g7 at *
        go_wp2_with fail
        refine ⟨fun y => W7.grownBy y (some g), fun x hx => grown_trans hS7 hx, grown_refl _ _, ?_⟩
        repeat (refine plan_t (by rfl) ?_; (first | go_big_quiet_skip | (go_big_quiet_want; go_big_quiet_op; go_big_quiet_on)); refine wpQuiet_nil ?_)
        refine plan_us (by rfl) (by kernel_rfl) ?_
        intro K1 hK1
        go_wp2_with fail
        refine ⟨grown_refl _ _, ?_⟩
        repeat (refine plan_t (by rfl) ?_; (first | go_big_quiet_skip | (go_big_quiet_want; go_big_quiet_op; go_big_quiet_on)); refine wpQuiet_nil ?_)
        refine plan_un (by rfl) (by kernel_rfl) ?_
        intro K2 hK2
        go_wp2_with fail
        have hHO := own_put HO7.out (i := j) hlt (.int .u8 (bits .xor .u8 x y)) rfl
        have hHL := (HL7.out.setCell (p := ⟨g, j, none⟩) hg (.int .u8 (bits .xor .u8 x y)))
        refine ⟨fun y => W7.grownBy y (some g), fun _ h => h, grown_setCell _ _ _ _, ?_⟩
        have hset : mixM key n bs (j + 1) = (mixM key n bs j).set j (bits .xor .u8 x y) := by rw [← HTA.out]; rfl
        rw [← List.map_set, ← hset] at hHO
        have HO8 := Lib.hid hHO; have HL8 := Lib.hid hHL
        clear hHO hHL hset HO7 HL7 hc7 hf7
        show Exit.inBlock _ _ _ _ _
        go_wp2_with fail
        go_roundw
        case rel => exact ⟨j + 1, by go_num, by omega, HL8, HO8⟩
        case measure => simp [intOf]; omega
    · obtain rfl : j = len := by omega
      go_wp2_with fail
      go_ret
      exact ⟨_, rfl, HL.out, by unfold turnedM; rw [hl]; exact HO.out⟩
end Go.Proofs.Ytgjfhfjlegkhbaa
