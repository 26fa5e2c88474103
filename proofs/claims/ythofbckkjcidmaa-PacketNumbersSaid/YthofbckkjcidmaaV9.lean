/- texts of the proof, laid together: Pkt23, Pkt24. -/
import Derived.Test.YthofbckkjcidmaaV6
import Derived.Deep.OwnRows
import Derived.Laws.OwnMore
namespace Go.Proofs.Ythofbckkjcidmaa
open Go.RowKit
set_option linter.unusedVariables false
set_option linter.unusedSimpArgs false

theorem ns_get (k : Nat) (h : k < 9) : ∃ m : Nat, (([0, 1, 2, 3, 4, 20, 450, 480, 512] : List Int).map (Value.int .i64))[k]? = some (.int .i64 (m : Int)) ∧ m ≤ 512 := by
  rcases (by omega : k = 0 ∨ k = 1 ∨ k = 2 ∨ k = 3 ∨ k = 4 ∨ k = 5 ∨ k = 6 ∨ k = 7 ∨ k = 8) with rfl | rfl | rfl | rfl | rfl | rfl | rfl | rfl | rfl
  · exact ⟨0, rfl, by omega⟩
  · exact ⟨1, rfl, by omega⟩
  · exact ⟨2, rfl, by omega⟩
  · exact ⟨3, rfl, by omega⟩
  · exact ⟨4, rfl, by omega⟩
  · exact ⟨20, rfl, by omega⟩
  · exact ⟨450, rfl, by omega⟩
  · exact ⟨480, rfl, by omega⟩
  · exact ⟨512, rfl, by omega⟩
theorem ints_zero {w : World} {g m : Nat} {cs : Array Value} (h : w.heap[g]? = some (.cells cs 5 (0, 0))) (hc : cs = (List.replicate m (Value.int .u8 0)).toArray) : IntsK .u8 w (some ⟨g, 0, none⟩) m (List.replicate m 0) := by
  have h2 := IntsK.of_row (k := .u8) (zs := List.replicate m 0) (by rw [List.map_replicate, ← hc]; exact h) (fun x hx => by rw [List.eq_of_mem_replicate hx]; decide)
  rwa [List.length_replicate] at h2
theorem make_bytes (m : Nat) (hm : m ≤ 1000) (w : World) : ∃ w', (Instr.makeSlice 23 (.int .i64 (m : Int)) (.int .i64 (m : Int))).run Try.prog w = .ok (.slice (some ⟨w.heap.size, 0, none⟩) m m) w' ∧ Below w.heap.size w w' ∧ IntsK .u8 w' (some ⟨w.heap.size, 0, none⟩) m (List.replicate m 0) := by
  obtain ⟨i0, hi, hz0, hz1, hz2⟩ := info_parts infoU8
  have hr := run_make_row (P := Try.prog) 23 5 i0 (.int .u8 0) Try.underlying23 hi hz0 hz1 rfl .i64 .i64 m (by rw [hz2]; omega) (by omega) w
  refine ⟨_, hr, (Below.refl _ _).alloc (Nat.le_refl _) _, ?_⟩
  exact ints_zero (heap_alloc_new w _) (by rw [← toList_madeCells_one])
set_option maxRecDepth 100000 in
set_option maxHeartbeats 16000000 in
theorem num_sizes {x0 x2 x3 x5 x6 x7 x8 x9 x10 x11 x12 x13 x14 x15 x16 x17 x18 x19 x20 x21 x22 x23 x27 x28 x29 x30 x31 x32 x33 x34 x35 x36 x37 x38 x39 x40 x41 x42 x43 x44 x45 x46 x47 x48 x49 x50 x51 x52 x53 x54 x55 x56 x57 x58 x59 x60 x61 x62 x63 x64 x65 x66 x67 x68 x69 x70 x71 x72 x73 x74 x75 x76 x77 x78 x79 x80 x81 x82 x83 x84 x85 x86 x87 x88 x89 x90 x91 x92 x93 x94 x95 x96 x97 x98 x99 x100 x101 x102 x103 x104 x105 x106 x107 x108 x109 x110 x111 x112 x113 x114 x115 x116 x117 x118 : Value} {gk gh gN : Nat} {K1 R : List Value} (w : World) {Q : Exit → Act → World → Prop}
    (HGK : Hid (w.heap[gk]? = some (.cells K1.toArray 49 (0, 0)))) (HKL : Hid (K1.length = 2)) (HGH : Hid (w.heap[gh]? = some (.cells R.toArray 32 (0, 0)))) (HRL : Hid (R.length = 20)) (HGN : Hid (w.heap[gN]? = some (.cells ((([0, 1, 2, 3, 4, 20, 450, 480, 512] : List Int).map (Value.int .i64)).toArray) 3 (0, 0)))) (HPT : Hid (∀ W a pl pc pls (n : Int), Below w.heap.size w W → pl ≤ 1000 → (0 ≤ n ∧ n < 18446744073709551616) → IntsK .u8 W a pl pls → Makes Try.prog 17 #[.agg K1.toArray, .agg R.toArray, .int .u64 n, .slice a pl pc] W (.bool true)))
    (hQp : ∀ c a d v w, Q (.panic c) (a.put d v) w → Q (.panic c) a w)
    (hQ : ∀ (y0 y6 y26 y27 y28 y29 y30 y31 y32 y33 y34 y35 y36 y37 y38 y39 y40 y41 y42 y43 y44 : Value) (w' : World), Below w.heap.size w w' → Q .normal ⟨List.toArray (y0 :: .pointer (some ⟨gk, 0, none⟩) :: x2 :: x3 :: .pointer (some ⟨gh, 0, none⟩) :: x5 :: y6 :: x7 :: x8 :: x9 :: x10 :: x11 :: x12 :: x13 :: x14 :: x15 :: x16 :: x17 :: x18 :: x19 :: x20 :: x21 :: x22 :: x23 :: .slice (some ⟨gN, 0, none⟩) 9 9 :: .int .i64 9 :: y26 :: y27 :: y28 :: y29 :: y30 :: y31 :: y32 :: y33 :: y34 :: y35 :: y36 :: y37 :: y38 :: y39 :: y40 :: y41 :: y42 :: y43 :: y44 :: x45 :: x46 :: x47 :: x48 :: x49 :: x50 :: x51 :: x52 :: x53 :: x54 :: x55 :: x56 :: x57 :: x58 :: x59 :: x60 :: x61 :: x62 :: x63 :: x64 :: x65 :: x66 :: x67 :: x68 :: x69 :: x70 :: x71 :: x72 :: x73 :: x74 :: x75 :: x76 :: x77 :: x78 :: x79 :: x80 :: x81 :: x82 :: x83 :: x84 :: x85 :: x86 :: x87 :: x88 :: x89 :: x90 :: x91 :: x92 :: x93 :: x94 :: x95 :: x96 :: x97 :: x98 :: x99 :: x100 :: x101 :: x102 :: x103 :: x104 :: x105 :: x106 :: x107 :: x108 :: x109 :: x110 :: x111 :: x112 :: x113 :: x114 :: x115 :: x116 :: x117 :: x118 :: []), []⟩ w') :
    Code.wp Try.prog (((Try.f5.body.bind (subBlock 4)).getD .skip)) Q ⟨List.toArray (x0 :: .pointer (some ⟨gk, 0, none⟩) :: x2 :: x3 :: .pointer (some ⟨gh, 0, none⟩) :: x5 :: x6 :: x7 :: x8 :: x9 :: x10 :: x11 :: x12 :: x13 :: x14 :: x15 :: x16 :: x17 :: x18 :: x19 :: x20 :: x21 :: x22 :: x23 :: .slice (some ⟨gN, 0, none⟩) 9 9 :: .int .i64 9 :: .int .i64 0 :: x27 :: x28 :: x29 :: x30 :: x31 :: x32 :: x33 :: x34 :: x35 :: x36 :: x37 :: x38 :: x39 :: x40 :: x41 :: x42 :: x43 :: x44 :: x45 :: x46 :: x47 :: x48 :: x49 :: x50 :: x51 :: x52 :: x53 :: x54 :: x55 :: x56 :: x57 :: x58 :: x59 :: x60 :: x61 :: x62 :: x63 :: x64 :: x65 :: x66 :: x67 :: x68 :: x69 :: x70 :: x71 :: x72 :: x73 :: x74 :: x75 :: x76 :: x77 :: x78 :: x79 :: x80 :: x81 :: x82 :: x83 :: x84 :: x85 :: x86 :: x87 :: x88 :: x89 :: x90 :: x91 :: x92 :: x93 :: x94 :: x95 :: x96 :: x97 :: x98 :: x99 :: x100 :: x101 :: x102 :: x103 :: x104 :: x105 :: x106 :: x107 :: x108 :: x109 :: x110 :: x111 :: x112 :: x113 :: x114 :: x115 :: x116 :: x117 :: x118 :: []), []⟩ w := by
  have HK := Lib.hid hQ; have HKP := Lib.hid hQp
  clear hQ hQp
  conv => arg 2; whnf
  have HB := Lib.hid (Below.refl w.heap.size w)
  go_wp2_with fail
  go_loopw [26] (fun i wr => ∃ k : Nat, i = .int .i64 k ∧ k ≤ 9 ∧ Hid (Below w.heap.size w wr)) (fun i _ => 9 - (intOf i).toNat)
  case atStart => exact ⟨0, rfl, by omega, HB⟩
  case round =>
    clear HB
    obtain ⟨k, rfl, hk, HB⟩ := hrel
    by_cases hlt : k < 9
    · obtain ⟨m, hm, hm5⟩ := ns_get k hlt
      replace HGK := Lib.hid (bl_row HB.out (lt_of_block HGK.out) HGK.out); replace HGH := Lib.hid (bl_row HB.out (lt_of_block HGH.out) HGH.out)
      have c0 := cell_row (bl_row HB.out (lt_of_block HGN.out) HGN.out) k _ hm
      clear hm
      go_upto_region 12 with fail
      clear c0
      generalize decide ((k : Int) < 9) = q1
      refine wp_plan (.t 0 (.t 1 (.t 2 (.u 3 (.u 4 (.t 5 (.t 6 (.t 7 (.t 8 (.t 9 (.u 10 (.u 11 (.t 12 (.t 13 .done)))))))))))))) (fun y => Below wr.heap.size wr y) (by kernel_rfl) (by kernel_rfl) (by kernel_rfl) (fun c a d v w h => by first | (cases d <;> exact h) | exact HKP.out c a d v w h) (Below.refl _ _).drew ?_
      have hS : Below wr.heap.size wr wr.drew := (Below.refl _ _).drew
      generalize wr.drew = W0 at hS ⊢
      haveI hne2 : Nonempty (In (fun y => Below wr.heap.size wr y)) := ⟨⟨wr, Below.refl _ _⟩⟩
      repeat (first | (refine plan_t_load (by rfl) (by kernel_rfl) 49 _ rfl gk 0 rfl K1 _ (fun y hy => rngL (bl_row hy (lt_of_block HGK.out) HGK.out)) Try.underlying49 rfl (by rw [HKL.out]; rfl) ?_; simp only [Act.put, List.setIfInBounds_toArray, List.set_cons_succ, List.set_cons_zero]) | (refine plan_t_load (by rfl) (by kernel_rfl) 32 _ rfl gh 0 rfl R _ (fun y hy => rngL (bl_row hy (lt_of_block HGH.out) HGH.out)) Try.underlying32 rfl (by rw [HRL.out]; rfl) ?_; simp only [Act.put, List.setIfInBounds_toArray, List.set_cons_succ, List.set_cons_zero]) | (refine plan_t (by rfl) ?_; (first | go_big_quiet_skip | (go_big_quiet_want; go_big_quiet_op; go_big_quiet_on)); refine wpQuiet_nil ?_))
      refine plan_us (by rfl) (by kernel_rfl) ?_
      intro K hK
      obtain ⟨w1, hmk, hb, hia⟩ := make_bytes m (by omega) W0
      go_wp2_with fail
      replace hS := bl_next hS hS.size hb
      clear hb hmk
      refine ⟨hS, ?_⟩
      refine plan_us (by rfl) (by kernel_rfl) ?_
      intro K hK
      go_wp2_with fail
      refine Calls.mono (HPT.out _ _ _ _ _ _ (bl_next HB.out HB.out.size hS) (by omega) (by omega) hia) ?_
      rintro e w2 ⟨rfl, hb⟩
      replace hS := bl_next hS hS.size hb
      clear hb
      go_wp2_with fail
      refine ⟨hS, ?_⟩
      repeat (first | (refine plan_t_load (by rfl) (by kernel_rfl) 49 _ rfl gk 0 rfl K1 _ (fun y hy => rngL (bl_row hy (lt_of_block HGK.out) HGK.out)) Try.underlying49 rfl (by rw [HKL.out]; rfl) ?_; simp only [Act.put, List.setIfInBounds_toArray, List.set_cons_succ, List.set_cons_zero]) | (refine plan_t_load (by rfl) (by kernel_rfl) 32 _ rfl gh 0 rfl R _ (fun y hy => rngL (bl_row hy (lt_of_block HGH.out) HGH.out)) Try.underlying32 rfl (by rw [HRL.out]; rfl) ?_; simp only [Act.put, List.setIfInBounds_toArray, List.set_cons_succ, List.set_cons_zero]) | (refine plan_t (by rfl) ?_; (first | go_big_quiet_skip | (go_big_quiet_want; go_big_quiet_op; go_big_quiet_on)); refine wpQuiet_nil ?_))
      refine plan_us (by rfl) (by kernel_rfl) ?_
      intro K hK
      obtain ⟨w3, hmk, hb, hib⟩ := make_bytes m (by omega) w2
      go_wp2_with fail
      replace hS := bl_next hS hS.size hb
      clear hb hmk
      refine ⟨hS, ?_⟩
      refine plan_us (by rfl) (by kernel_rfl) ?_
      intro K hK
      go_wp2_with fail
      refine Calls.mono (HPT.out _ _ _ _ _ _ (bl_next HB.out HB.out.size hS) (by omega) (by omega) hib) ?_
      rintro e w4 ⟨rfl, hb⟩
      replace hS := bl_next hS hS.size hb
      clear hb
      go_wp2_with fail
      refine ⟨hS, ?_⟩
      repeat (first | (refine plan_t_load (by rfl) (by kernel_rfl) 49 _ rfl gk 0 rfl K1 _ (fun y hy => rngL (bl_row hy (lt_of_block HGK.out) HGK.out)) Try.underlying49 rfl (by rw [HKL.out]; rfl) ?_; simp only [Act.put, List.setIfInBounds_toArray, List.set_cons_succ, List.set_cons_zero]) | (refine plan_t_load (by rfl) (by kernel_rfl) 32 _ rfl gh 0 rfl R _ (fun y hy => rngL (bl_row hy (lt_of_block HGH.out) HGH.out)) Try.underlying32 rfl (by rw [HRL.out]; rfl) ?_; simp only [Act.put, List.setIfInBounds_toArray, List.set_cons_succ, List.set_cons_zero]) | (refine plan_t (by rfl) ?_; (first | go_big_quiet_skip | (go_big_quiet_want; go_big_quiet_op; go_big_quiet_on)); refine wpQuiet_nil ?_))
      clear hne2
      show Exit.then _ _ _ _ _
      replace HB := Lib.hid (bl_next HB.out HB.out.size hS)
      clear hS
      go_wp2_with fail
      go_roundw
      case rel => exact ⟨k + 1, by go_num, by omega, HB⟩
      case measure => simp [intOf]; omega
    · go_wp2_with fail
      exact HK.out _ _ _ _ _ _ _ _ _ _ _ _ _ _ _ _ _ _ _ _ _ _ HB.out
set_option maxRecDepth 100000 in
set_option maxHeartbeats 16000000 in
theorem num_cuts {x0 x2 x3 x4 x5 x6 x10 x11 x12 x13 x14 x15 x16 x17 x18 x19 x20 x21 x22 x23 x24 x25 x26 x27 x28 x29 x30 x31 x32 x33 x34 x35 x36 x37 x38 x39 x40 x41 x42 x43 x44 x45 x46 x47 x48 x49 x50 x51 x52 x53 x54 x55 x56 x57 x58 x59 x60 x61 x62 x63 x64 x65 x66 x67 x68 x69 x70 x71 x72 x73 x74 x75 x76 x77 x78 x79 x80 x81 x82 x83 x84 x85 x86 x87 x88 x89 x90 x91 x92 x93 x94 x95 x96 x97 x98 x99 x100 x101 x102 x103 x104 x105 x106 x107 x108 x109 x110 x111 x112 x113 x114 x115 x116 x117 x118 : Value} {gk L cp : Nat} {ab : Option Addr} {ok : Bool} {K1 : List Value} {P : List Int} (w : World) {Q : Exit → Act → World → Prop}
    (HGK : Hid (w.heap[gk]? = some (.cells K1.toArray 49 (0, 0)))) (HKL : Hid (K1.length = 2)) (hL : L ≤ 600) (hcp : L ≤ cp) (hcm : cp ≤ 9223372036854775807) (HI : Hid (IntsK .u8 w ab L P)) (HOP : Hid (∀ w1 a len cap xs lg hs, len ≤ cap → cap ≤ 9223372036854775807 → len ≤ 1000000 → (0 ≤ lg ∧ lg < 18446744073709551616) → IntsK .u8 w1 a len xs → Makes Try.prog 19 #[.agg K1.toArray, .slice a len cap, .int .u64 lg, .bool hs] w1 (.bool true)))
    (hQp : ∀ c a d v w, Q (.panic c) (a.put d v) w → Q (.panic c) a w)
    (hQ : ∀ (y0 y9 y10 y53 y54 y55 y56 y57 y58 y59 y60 y61 y62 y63 y64 y65 y66 y67 y68 y69 y70 y71 y72 y73 y74 y75 y76 y77 y78 y79 y80 y81 y82 y83 y84 y85 y86 y87 y88 y89 y90 y91 y92 y93 y94 y95 y96 y97 y98 : Value) (w' : World), Below w.heap.size w w' → Q .normal ⟨List.toArray (y0 :: .pointer (some ⟨gk, 0, none⟩) :: x2 :: x3 :: x4 :: x5 :: x6 :: .slice ab L cp :: .bool ok :: y9 :: y10 :: x11 :: x12 :: x13 :: x14 :: x15 :: x16 :: x17 :: x18 :: x19 :: x20 :: x21 :: x22 :: x23 :: x24 :: x25 :: x26 :: x27 :: x28 :: x29 :: x30 :: x31 :: x32 :: x33 :: x34 :: x35 :: x36 :: x37 :: x38 :: x39 :: x40 :: x41 :: x42 :: x43 :: x44 :: x45 :: x46 :: x47 :: x48 :: x49 :: x50 :: x51 :: x52 :: y53 :: y54 :: y55 :: y56 :: y57 :: y58 :: y59 :: y60 :: y61 :: y62 :: y63 :: y64 :: y65 :: y66 :: y67 :: y68 :: y69 :: y70 :: y71 :: y72 :: y73 :: y74 :: y75 :: y76 :: y77 :: y78 :: y79 :: y80 :: y81 :: y82 :: y83 :: y84 :: y85 :: y86 :: y87 :: y88 :: y89 :: y90 :: y91 :: y92 :: y93 :: y94 :: y95 :: y96 :: y97 :: y98 :: x99 :: x100 :: x101 :: x102 :: x103 :: x104 :: x105 :: x106 :: x107 :: x108 :: x109 :: x110 :: x111 :: x112 :: x113 :: x114 :: x115 :: x116 :: x117 :: x118 :: []), []⟩ w') :
    Code.wp Try.prog (((Try.f5.body.bind (subBlock 6)).getD .skip)) Q ⟨List.toArray (x0 :: .pointer (some ⟨gk, 0, none⟩) :: x2 :: x3 :: x4 :: x5 :: x6 :: .slice ab L cp :: .bool ok :: .int .i64 0 :: x10 :: x11 :: x12 :: x13 :: x14 :: x15 :: x16 :: x17 :: x18 :: x19 :: x20 :: x21 :: x22 :: x23 :: x24 :: x25 :: x26 :: x27 :: x28 :: x29 :: x30 :: x31 :: x32 :: x33 :: x34 :: x35 :: x36 :: x37 :: x38 :: x39 :: x40 :: x41 :: x42 :: x43 :: x44 :: x45 :: x46 :: x47 :: x48 :: x49 :: x50 :: x51 :: x52 :: x53 :: x54 :: x55 :: x56 :: x57 :: x58 :: x59 :: x60 :: x61 :: x62 :: x63 :: x64 :: x65 :: x66 :: x67 :: x68 :: x69 :: x70 :: x71 :: x72 :: x73 :: x74 :: x75 :: x76 :: x77 :: x78 :: x79 :: x80 :: x81 :: x82 :: x83 :: x84 :: x85 :: x86 :: x87 :: x88 :: x89 :: x90 :: x91 :: x92 :: x93 :: x94 :: x95 :: x96 :: x97 :: x98 :: x99 :: x100 :: x101 :: x102 :: x103 :: x104 :: x105 :: x106 :: x107 :: x108 :: x109 :: x110 :: x111 :: x112 :: x113 :: x114 :: x115 :: x116 :: x117 :: x118 :: []), []⟩ w := by
  have HK := Lib.hid hQ; have HKP := Lib.hid hQp
  clear hQ hQp
  conv => arg 2; whnf
  have HB := Lib.hid (Below.refl w.heap.size w)
  have HCP := Lib.hid hcp; have HCM := Lib.hid hcm; clear hcp hcm
  cases ok with
  | false =>
    go_wp2_with fail
    go_loopw [9] (fun i wr => i = .int .i64 0 ∧ Hid (Below w.heap.size w wr)) (fun i _ => 0)
    case atStart => exact ⟨rfl, HB⟩
    case round =>
      clear HB
      obtain ⟨rfl, HB⟩ := hrel
      go_wp2_with fail
      exact HK.out _ _ _ _ _ _ _ _ _ _ _ _ _ _ _ _ _ _ _ _ _ _ _ _ _ _ _ _ _ _ _ _ _ _ _ _ _ _ _ _ _ _ _ _ _ _ _ _ _ _ HB.out
  | true =>
    go_wp2_with fail
    go_loopw [9] (fun i wr => ∃ k : Nat, i = .int .i64 k ∧ k ≤ L ∧ Hid (Below w.heap.size w wr)) (fun i _ => L - (intOf i).toNat)
    case atStart => exact ⟨0, rfl, by omega, HB⟩
    case round =>
      clear HB
      obtain ⟨k, rfl, hk, HB⟩ := hrel
      by_cases hlt : k < L
      · skip
        replace HGK := Lib.hid (bl_row HB.out (lt_of_block HGK.out) HGK.out); replace HI := Lib.hid (HI.out.below HB.out)
        have hpl := HI.out.1
        obtain ⟨pk, hpk⟩ : ∃ x, P[k]? = some x := ⟨_, List.getElem?_eq_getElem (by omega)⟩
        have HPK := Lib.hid hpk
        clear hpk hpl
        go_upto_region 20 with (first | (at_builtin; refine wpList_append_bytes rfl _ _ rfl wr.heap.size 0 (.slice (some ⟨wr.heap.size, 0, none⟩) 0 0) [] rfl (World.ownsRow_made _ _ _ (Nat.le_refl _) (by unfold maxLen; omega) (by rfl)) _ _ _ _ rfl (HI.out.below ((Below.refl _ _).alloc (Nat.le_refl _) _)) (by omega) (by simp) ?_; intro vb wb hown hgrow; rw [Nat.zero_add, List.nil_append] at hown; obtain ⟨bvb, cvb, rfl, _⟩ := own_slice hown; have HOb := Lib.hid hown; have HLb := Lib.hid (((Below.refl wr.heap.size wr).alloc (Nat.le_refl _) _).grown hgrow (by simp) (by intro k hk; simp [Value.ownBlock] at hk; omega)); clear hown hgrow) | fail)
        generalize decide ((k : Int) < (L : Int)) = q1
        obtain ⟨gy, ey, hgy, hyl, hfy, hcy, _⟩ := own_set HOb.out (Below.refl _ _) (i := k) hlt (.int .u8 0) rfl
        subst ey
        have hcj := hcy k _ (by rw [List.getElem?_map, HPK.out]; rfl)
        clear hcy hyl
        go_upto_region 21 with fail
        have hvw : (Lit.int .u8 (bits .xor .u8 pk ((2 : Int) ^ (k % 8) % 256))).wf = true := wf_bits _ _ _ _
        generalize bits .xor .u8 pk ((2 : Int) ^ (k % 8) % 256) = V at hvw ⊢
        have hput := own_put HOb.out (i := k) hlt (.int .u8 V) rfl
        rw [← List.map_set] at hput
        have hb := HLb.out.setCell (p := ⟨gy, k, none⟩) hgy (.int .u8 V)
        generalize wb.setCell ⟨gy, k, none⟩ (.int .u8 V) = wf at hput hb ⊢
        clear hcj hgy hfy HLb HOb
        obtain ⟨_, _, ey, hcx, hix, _⟩ := ints_of_own hput (set_wf HI.out.2.1 k V hvw)
        have hcmx := own_capm hput _ _ _ rfl
        injection ey with e1 e2 e3
        subst e1; subst e3
        clear e2 hput hvw HPK
        have HIX := Lib.hid hix
        clear hix
        replace HB := Lib.hid (bl_next HB.out HB.out.size hb); replace HGK := Lib.hid (bl_row hb (lt_of_block HGK.out) HGK.out); replace HI := Lib.hid (HI.out.below hb)
        clear hb
        have hcp := HCP.out; have hcm := HCM.out
        refine wp_plan (.t 0 (.t 1 (.u 2 (.t 3 (.t 4 (.t 5 (.t 6 (.t 7 (.t 8 (.u 9 (.t 10 (.t 11 (.t 12 (.t 13 (.t 15 (.t 17 (.t 18 (.t 19 (.u 14 (.u 16 (.u 20 (.u 21 (.t 22 (.t 23 .done)))))))))))))))))))))))) (fun y => Below wf.heap.size wf y) (by kernel_rfl) (by kernel_rfl) (by kernel_rfl) (fun c a d v w h => by first | (cases d <;> exact h) | exact HKP.out c a d v w h) (Below.refl _ _).drew ?_
        have hS : Below wf.heap.size wf wf.drew := (Below.refl _ _).drew
        generalize wf.drew = W0 at hS ⊢
        haveI hne2 : Nonempty (In (fun y => Below wf.heap.size wf y)) := ⟨⟨wf, Below.refl _ _⟩⟩
        repeat (first | (refine plan_t_load (by rfl) (by kernel_rfl) 49 _ rfl gk 0 rfl K1 _ (fun y hy => rngL (bl_row hy (lt_of_block HGK.out) HGK.out)) Try.underlying49 rfl (by rw [HKL.out]; rfl) ?_; simp only [Act.put, List.setIfInBounds_toArray, List.set_cons_succ, List.set_cons_zero]) | (refine plan_t (by rfl) ?_; (first | go_big_quiet_skip | (go_big_quiet_want; go_big_quiet_op; go_big_quiet_on)); refine wpQuiet_nil ?_))
        refine plan_us (by rfl) (by kernel_rfl) ?_
        intro K hK
        go_wp2_with fail
        refine Calls.mono (HOP.out _ _ _ _ _ _ _ hcx hcmx (by omega) (by omega) (HIX.out.below hS)) ?_
        rintro e w1 ⟨rfl, hb⟩
        replace hS := bl_next hS hS.size hb
        clear hb
        go_wp2_with fail
        refine ⟨hS, ?_⟩
        repeat (first | (refine plan_t_load (by rfl) (by kernel_rfl) 49 _ rfl gk 0 rfl K1 _ (fun y hy => rngL (bl_row hy (lt_of_block HGK.out) HGK.out)) Try.underlying49 rfl (by rw [HKL.out]; rfl) ?_; simp only [Act.put, List.setIfInBounds_toArray, List.set_cons_succ, List.set_cons_zero]) | (refine plan_t (by rfl) ?_; (first | go_big_quiet_skip | (go_big_quiet_want; go_big_quiet_op; go_big_quiet_on)); refine wpQuiet_nil ?_))
        refine plan_us (by rfl) (by kernel_rfl) ?_
        intro K hK
        go_wp2_with fail
        refine Calls.mono (HOP.out _ _ _ _ _ _ _ (by omega) hcm (by omega) (by omega) ((HI.out.below hS).pre k (by omega))) ?_
        rintro e w2 ⟨rfl, hb⟩
        replace hS := bl_next hS hS.size hb
        clear hb
        go_wp2_with fail
        refine ⟨hS, ?_⟩
        repeat (first | (refine plan_t_load (by rfl) (by kernel_rfl) 49 _ rfl gk 0 rfl K1 _ (fun y hy => rngL (bl_row hy (lt_of_block HGK.out) HGK.out)) Try.underlying49 rfl (by rw [HKL.out]; rfl) ?_; simp only [Act.put, List.setIfInBounds_toArray, List.set_cons_succ, List.set_cons_zero]) | (refine plan_t (by rfl) ?_; (first | go_big_quiet_skip | (go_big_quiet_want; go_big_quiet_op; go_big_quiet_on)); refine wpQuiet_nil ?_))
        refine plan_us (by rfl) (by kernel_rfl) ?_
        intro K hK
        go_wp2_with fail
        have hal := (Below.refl w2.heap.size w2).alloc (Nat.le_refl _) (.cells #[] 5)
        have ho : (w2.alloc (.cells #[] 5)).ownsRow wf.heap.size 5 1 (.slice (some ⟨w2.heap.size, 0, none⟩) 0 0) 0 (([] : List Int).map (Value.int .u8)) := own_of_row (xs := ([] : List Int).map (Value.int .u8)) (heap_alloc_new _ _) hS.size rfl (by unfold maxLen; omega)
        refine ⟨hS.alloc hS.size _, ?_⟩
        replace hS := bl_next hS hS.size hal
        generalize w2.alloc (.cells #[] 5) = w3 at hS hal ho ⊢
        generalize w2.heap.size = gw3 at ho hal ⊢
        have HO1 := Lib.hid ho
        clear ho hal
        refine plan_us (by rfl) (by kernel_rfl) ?_
        intro K hK
        refine wp_append_bytes_at _ _ rfl wf.heap.size 0 _ ([] : List Int) rfl HO1.out ab L cp _ rfl (HI.out.below hS) (by omega) hS.size ?_
        intro vw4 w4 hown hgrow hor
        have hS2 := hS.grown hgrow hS.size (own_base HO1.out)
        refine hK _ _ ⟨hS2, ?_⟩
        replace hS := hS2
        rw [Nat.zero_add, List.nil_append] at hown
        obtain ⟨bw4, cw4, rfl, _⟩ := own_slice hown
        have HO2 := Lib.hid hown
        clear hS2 hown hgrow hor
        refine plan_us (by rfl) (by kernel_rfl) ?_
        intro K hK
        refine wp_append_bytes_at _ _ rfl wf.heap.size L _ P rfl HO2.out ab k cp _ rfl ((HI.out.below hS).pre k (by omega)) (by omega) hS.size ?_
        intro vw5 w5 hown hgrow hor
        have hS2 := hS.grown hgrow hS.size (own_base HO2.out)
        refine hK _ _ ⟨hS2, ?_⟩
        replace hS := hS2
        obtain ⟨bw5, cw5, rfl, _⟩ := own_slice hown
        have HO3 := Lib.hid hown
        clear hS2 hown hgrow hor
        refine plan_us (by rfl) (by kernel_rfl) ?_
        intro K hK
        obtain ⟨_, _, ey, hcz, hiz, _⟩ := ints_of_own HO3.out (fun x hx => (List.mem_append.1 hx).elim (HI.out.2.1 x) (fun h => HI.out.2.1 x (List.mem_of_mem_take h)))
        have hcmz := own_capm HO3.out _ _ _ rfl
        injection ey with e1 e2 e3
        subst e1; subst e3
        clear e2
        go_wp2_with fail
        refine Calls.mono (HOP.out _ _ _ _ _ _ _ hcz hcmz (by omega) (by omega) hiz) ?_
        rintro e w6 ⟨rfl, hb⟩
        replace hS := bl_next hS hS.size hb
        clear hb
        go_wp2_with fail
        refine ⟨hS, ?_⟩
        repeat (first | (refine plan_t_load (by rfl) (by kernel_rfl) 49 _ rfl gk 0 rfl K1 _ (fun y hy => rngL (bl_row hy (lt_of_block HGK.out) HGK.out)) Try.underlying49 rfl (by rw [HKL.out]; rfl) ?_; simp only [Act.put, List.setIfInBounds_toArray, List.set_cons_succ, List.set_cons_zero]) | (refine plan_t (by rfl) ?_; (first | go_big_quiet_skip | (go_big_quiet_want; go_big_quiet_op; go_big_quiet_on)); refine wpQuiet_nil ?_))
        clear hne2
        show Exit.then _ _ _ _ _
        replace HB := Lib.hid (bl_next HB.out HB.out.size hS)
        clear hS hcp hcm
        go_wp2_with fail
        go_roundw
        case rel => exact ⟨k + 1, by go_num, by omega, HB⟩
        case measure => simp [intOf]; omega
      · go_wp2_with fail
        exact HK.out _ _ _ _ _ _ _ _ _ _ _ _ _ _ _ _ _ _ _ _ _ _ _ _ _ _ _ _ _ _ _ _ _ _ _ _ _ _ _ _ _ _ _ _ _ _ _ _ _ _ HB.out
end Go.Proofs.Ythofbckkjcidmaa
namespace Go.Proofs.Ythofbckkjcidmaa
open Go.RowKit
set_option linter.unusedVariables false
set_option linter.unusedSimpArgs false

def rN (s wd : Int) : List Value := [.int .i64 s, .int .u8 1, .int .u8 2, .int .u8 0, .int .u8 0, .int .u8 0, .int .u8 0, .int .u8 0, .int .u8 0, .int .u8 0, .int .u8 0, .int .u8 0, .int .u8 0, .int .u8 0, .int .u8 0, .int .u8 0, .int .u8 0, .slice none 0 0, .int .i64 wd, .bool false]
def hN (s wd : Int) : Hd := ⟨s, [1, 2, 0, 0, 0, 0, 0, 0], z8, [], wd, false⟩
theorem hN_row (s wd : Int) : (hN s wd).row none 0 = rN s wd := rfl

set_option maxRecDepth 100000 in
set_option maxHeartbeats 16000000 in
theorem numbers9_core (w : World) (K1 K2 : List Value) (HKL : Hid (K1.length = 2)) (HKO : Hid (∀ v ∈ K1, v.oneCell' = true))
    (HO1 : Hid (∀ w1, Makes Try.prog 16 #[.int .u64 77] w1 (.agg K1.toArray)))
    (HO2 : Hid (∀ w1, Makes Try.prog 16 #[.int .u64 78] w1 (.agg K2.toArray)))
    (HPT : Hid (∀ (s wd : Nat), s < 3 → wd < 6 → ∀ W a pl pc pls (n : Int), pl ≤ 1000 → (0 ≤ n ∧ n < 18446744073709551616) → IntsK .u8 W a pl pls → Makes Try.prog 17 #[.agg K1.toArray, .agg (rN s wd).toArray, .int .u64 n, .slice a pl pc] W (.bool true)))
    (HRP : Hid (∀ (s wd : Nat), s < 3 → wd < 6 → ∀ W a cp, IntsK .u8 W a 7 [112, 97, 121, 108, 111, 97, 100] → Calls Try.prog 18 #[.agg K1.toArray, .agg (rN s wd).toArray, .int .u64 5, .slice a 7 cp] W fun e w' =>
      Below W.heap.size W w' ∧ ∃ ok ab L c P, e = .returned (.tuple #[.slice ab L c, .bool ok]) ∧ L ≤ 600 ∧ L ≤ c ∧ c ≤ 9223372036854775807 ∧ IntsK .u8 w' ab L P))
    (HOP : Hid (∀ w1 a len cap xs lg hs, len ≤ cap → cap ≤ 9223372036854775807 → len ≤ 1000000 → (0 ≤ lg ∧ lg < 18446744073709551616) → IntsK .u8 w1 a len xs → Makes Try.prog 19 #[.agg K1.toArray, .slice a len cap, .int .u64 lg, .bool hs] w1 (.bool true)))
    (HOP2 : Hid (∀ w1 a len cap xs lg hs, len ≤ cap → cap ≤ 9223372036854775807 → len ≤ 1000000 → (0 ≤ lg ∧ lg < 18446744073709551616) → IntsK .u8 w1 a len xs → Makes Try.prog 19 #[.agg K2.toArray, .slice a len cap, .int .u64 lg, .bool hs] w1 (.bool true)))
    (HKN : Hid (∀ w1, Makes Try.prog 15 #[] w1 (.bool true))) :
    Makes Try.prog 5 #[] w (.bool true) := by
  have HB := Lib.hid (Below.refl w.heap.size w)
  go_enter Try.func5, Try.ntmps5
  go_wp2_with fail
  refine Calls.mono (HO1.out _) ?_
  rintro e w1 ⟨rfl, hb⟩
  replace HB := Lib.hid (bl_next HB.out HB.out.size hb)
  clear hb
  go_upto_region 2 with (first | (refine wpList_store_row rfl 49 _ _ rfl _ rfl K1 (.int .u64 0 :: .int .u64 0 :: []) rfl 49 (heap_alloc_new _ _) (by rw [HKL.out]; rfl) (by rw [HKL.out]; rfl) HKO.out ?_; intro w2 hr hg) | fail)
  have hal := (Below.refl w1.heap.size w1).alloc (Nat.le_refl _) (.cells ((.int .u64 0 :: .int .u64 0 :: [])).toArray 49)
  have hb : Below w1.heap.size w1 w2 := hal.grown hg hal.size (by intro k hk; injection hk with hk; omega)
  replace HB := Lib.hid (bl_next HB.out HB.out.size hb)
  have HGK := Lib.hid (hr)
  clear hr hg hal hb
  obtain ⟨gk, hg⟩ : ∃ g, w1.heap.size = g := ⟨_, rfl⟩
  rw [hg] at HGK ⊢
  clear hg
  go_wp2_with fail
  go_loopw [2] (fun i wr => ∃ s : Nat, i = .int .i64 s ∧ s ≤ 3 ∧ Hid (Below w.heap.size w wr) ∧ Hid (wr.heap[gk]? = some (.cells K1.toArray 49 (0, 0)))) (fun i _ => 3 - (intOf i).toNat)
  case atStart => exact ⟨0, rfl, by omega, HB, HGK⟩
  case round =>
    clear HB HGK
    obtain ⟨s, rfl, hs, HB, HGK⟩ := hrel
    by_cases hls : s < 3
    · skip
      have HPT1 := Lib.hid (HPT.out s)
      have HRP1 := Lib.hid (HRP.out s)
      go_wp2_with fail
      generalize decide ((s : Int) < 3) = q1
      go_loopw [3] (fun i wr => ∃ wd : Nat, i = .int .i64 wd ∧ wd ≤ 6 ∧ Hid (Below w.heap.size w wr) ∧ Hid (wr.heap[gk]? = some (.cells K1.toArray 49 (0, 0)))) (fun i _ => 6 - (intOf i).toNat)
      case atStart => exact ⟨0, rfl, by omega, HB, HGK⟩
      case round =>
        clear HB HGK
        obtain ⟨wd, rfl, hw, HB, HGK⟩ := hrel
        by_cases hlw : wd < 6
        · skip
          have HPT2 := Lib.hid (HPT1.out wd hls hlw)
          have HRP2 := Lib.hid (HRP1.out wd hls hlw)
          have HRL : Hid ((rN s wd).length = 20) := Lib.hid rfl
          have HRO : Hid (∀ v ∈ rN s wd, v.oneCell' = true) := Lib.hid (hN_row s wd ▸ row_one (hN s wd) none 0)
          go_upto_region 9 with (first | (refine wpList_store_row rfl 32 _ _ rfl _ rfl (rN s wd) (.int .i64 0 :: .int .u8 0 :: .int .u8 0 :: .int .u8 0 :: .int .u8 0 :: .int .u8 0 :: .int .u8 0 :: .int .u8 0 :: .int .u8 0 :: .int .u8 0 :: .int .u8 0 :: .int .u8 0 :: .int .u8 0 :: .int .u8 0 :: .int .u8 0 :: .int .u8 0 :: .int .u8 0 :: .slice none 0 0 :: .int .i64 0 :: .bool false :: []) rfl 32 (heap_alloc_new _ _) (by rw [HRL.out]; rfl) (by rw [HRL.out]; rfl) HRO.out ?_; intro w3 hr hg) | fail)
          have hal := (Below.refl wr.heap.size wr).alloc (Nat.le_refl _) (.cells ((.int .i64 0 :: .int .u8 0 :: .int .u8 0 :: .int .u8 0 :: .int .u8 0 :: .int .u8 0 :: .int .u8 0 :: .int .u8 0 :: .int .u8 0 :: .int .u8 0 :: .int .u8 0 :: .int .u8 0 :: .int .u8 0 :: .int .u8 0 :: .int .u8 0 :: .int .u8 0 :: .int .u8 0 :: .slice none 0 0 :: .int .i64 0 :: .bool false :: [])).toArray 32)
          have hb : Below wr.heap.size wr w3 := hal.grown hg hal.size (by intro k hk; injection hk with hk; omega)
          replace HB := Lib.hid (bl_next HB.out HB.out.size hb)
          replace HGK := Lib.hid (bl_row hb (lt_of_block HGK.out) HGK.out)
          have HGH := Lib.hid (hr)
          clear hr hg hal hb
          obtain ⟨gh, hg⟩ : ∃ g, wr.heap.size = g := ⟨_, rfl⟩
          rw [hg] at HGH ⊢
          clear hg
          generalize decide ((wd : Int) < 6) = q2
          obtain ⟨R, hR⟩ : ∃ R, rN s wd = R := ⟨_, rfl⟩
          rw [hR] at HPT2 HRP2 HRL HRO HGH
          try rw [hR]
          clear hR
          go_upto_block 4 with fail
          change Code.wp _ _ _ _ (w3.alloc (.cells ((([0, 1, 2, 3, 4, 20, 450, 480, 512] : List Int).map (Value.int .i64)).toArray) 3))
          have hb := (Below.refl w3.heap.size w3).alloc (Nat.le_refl _) (.cells ((([0, 1, 2, 3, 4, 20, 450, 480, 512] : List Int).map (Value.int .i64)).toArray) 3)
          replace HB := Lib.hid (bl_next HB.out HB.out.size hb)
          replace HGK := Lib.hid (bl_row hb (lt_of_block HGK.out) HGK.out)
          replace HGH := Lib.hid (bl_row hb (lt_of_block HGH.out) HGH.out)
          have HGN := Lib.hid (heap_alloc_new w3 (.cells ((([0, 1, 2, 3, 4, 20, 450, 480, 512] : List Int).map (Value.int .i64)).toArray) 3))
          clear hb
          generalize w3.alloc (.cells ((([0, 1, 2, 3, 4, 20, 450, 480, 512] : List Int).map (Value.int .i64)).toArray) 3) = w4 at HB HGK HGH HGN ⊢
          obtain ⟨gN, hg⟩ : ∃ g, w3.heap.size = g := ⟨_, rfl⟩
          rw [hg] at HGN ⊢
          clear hg
          refine num_sizes _ HGK HKL HGH HRL HGN (Lib.hid fun W a pl pc pls n _ h1 h2 h3 => HPT2.out W a pl pc pls n h1 h2 h3) (fun c a d v w h => by first | (cases d <;> exact h) | exact HKP.out c a d v w h) ?_
          rintro _ _ _ _ _ _ _ _ _ _ _ _ _ _ _ _ _ _ _ _ _ wp hb
          clear HGN HPT2
          replace HB := Lib.hid (bl_next HB.out HB.out.size hb)
          replace HGK := Lib.hid (bl_row hb (lt_of_block HGK.out) HGK.out)
          replace HGH := Lib.hid (bl_row hb (lt_of_block HGH.out) HGH.out)
          clear hb
          obtain ⟨wl, hcv, hbl, hil, hsz⟩ := lit_bytes wp [112, 97, 121, 108, 111, 97, 100] #[.int .u8 112, .int .u8 97, .int .u8 121, .int .u8 108, .int .u8 111, .int .u8 97, .int .u8 100] 7 rfl rfl (by decide)
          go_wp2_with (first | (refine wpList_load_mid rfl 49 _ rfl gk 0 rfl K1 _ (rngL HGK.out) Try.underlying49 rfl (by rw [HKL.out]; rfl) ?_) | (refine wpList_load_mid rfl 32 _ rfl gh 0 rfl R _ (rngL HGH.out) Try.underlying32 rfl (by rw [HRL.out]; rfl) ?_) | fail)
          replace HB := Lib.hid (bl_next HB.out HB.out.size hbl)
          replace HGK := Lib.hid (bl_row hbl (lt_of_block HGK.out) HGK.out)
          replace HGH := Lib.hid (bl_row hbl (lt_of_block HGH.out) HGH.out)
          clear hcv hbl hsz HGH
          refine Calls.mono (HRP2.out _ _ _ hil) ?_
          rintro e w6 ⟨hb, ok, ab, L, c, P, rfl, hL, hlc, hcm, hib⟩
          replace HB := Lib.hid (bl_next HB.out HB.out.size hb)
          replace HGK := Lib.hid (bl_row hb (lt_of_block HGK.out) HGK.out)
          clear hb hil
          have HI := Lib.hid (hib)
          clear hib HRP2
          go_upto_block 6 with fail
          refine num_cuts _ HGK HKL hL hlc hcm HI HOP (fun c a d v w h => by first | (cases d <;> exact h) | exact HKP.out c a d v w h) ?_
          rintro _ _ _ _ _ _ _ _ _ _ _ _ _ _ _ _ _ _ _ _ _ _ _ _ _ _ _ _ _ _ _ _ _ _ _ _ _ _ _ _ _ _ _ _ _ _ _ _ _ wc hb
          replace HB := Lib.hid (bl_next HB.out HB.out.size hb)
          replace HGK := Lib.hid (bl_row hb (lt_of_block HGK.out) HGK.out)
          replace HI := Lib.hid (HI.out.below hb)
          clear hb
          cases ok with
          | false =>
            go_wp2_with fail
            go_roundw
            case rel => exact ⟨wd + 1, by go_num, by omega, HB, HGK⟩
            case measure => simp [intOf]; omega
          | true =>
            go_wp2_with (first | (refine wpList_load_g 49 _ rfl (by kernel_rfl) gk 0 rfl K1 _ (rngL HGK.out) Try.underlying49 rfl (by rw [HKL.out]; rfl) ?_) | fail)
            refine Calls.mono (HOP.out _ _ _ _ _ _ _ hlc hcm (by omega) (by omega) HI.out) ?_
            rintro e w17 ⟨rfl, hb⟩
            replace HB := Lib.hid (bl_next HB.out HB.out.size hb)
            replace HGK := Lib.hid (bl_row hb (lt_of_block HGK.out) HGK.out)
            replace HI := Lib.hid (HI.out.below hb)
            clear hb
            go_wp2_with fail
            refine Calls.mono (HO2.out _) ?_
            rintro e w18 ⟨rfl, hb⟩
            replace HB := Lib.hid (bl_next HB.out HB.out.size hb)
            replace HGK := Lib.hid (bl_row hb (lt_of_block HGK.out) HGK.out)
            replace HI := Lib.hid (HI.out.below hb)
            clear hb
            go_wp2_with fail
            refine Calls.mono (HOP2.out _ _ _ _ _ _ _ hlc hcm (by omega) (by omega) HI.out) ?_
            rintro e w19 ⟨rfl, hb⟩
            replace HB := Lib.hid (bl_next HB.out HB.out.size hb)
            replace HGK := Lib.hid (bl_row hb (lt_of_block HGK.out) HGK.out)
            replace HI := Lib.hid (HI.out.below hb)
            clear hb
            go_wp2_with (first | (refine wpList_load_g 49 _ rfl (by kernel_rfl) gk 0 rfl K1 _ (rngL HGK.out) Try.underlying49 rfl (by rw [HKL.out]; rfl) ?_) | fail)
            refine Calls.mono (HOP.out _ _ _ _ _ _ _ hlc hcm (by omega) (by omega) HI.out) ?_
            rintro e w20 ⟨rfl, hb⟩
            replace HB := Lib.hid (bl_next HB.out HB.out.size hb)
            replace HGK := Lib.hid (bl_row hb (lt_of_block HGK.out) HGK.out)
            replace HI := Lib.hid (HI.out.below hb)
            clear hb
            go_wp2_with fail
            go_roundw
            case rel => exact ⟨wd + 1, by go_num, by omega, HB, HGK⟩
            case measure => simp [intOf]; omega
        · go_wp2_with fail
          go_roundw
          case rel => exact ⟨s + 1, by go_num, by omega, HB, HGK⟩
          case measure => simp [intOf]; omega
    · skip
      go_wp2_with fail
      refine Calls.mono (HKN.out _) ?_
      rintro e w21 ⟨rfl, hb⟩
      replace HB := Lib.hid (bl_next HB.out HB.out.size hb)
      clear hb
      go_wp2_with fail
      go_ret
      exact ⟨rfl, HB.out⟩
theorem hN_ok (s wd : Nat) (hs : s < 3) (hw : wd < 6) : (hN s wd).ok :=
  ⟨wf_i64_of (by show (-9223372036854775808 : Int) ≤ (s : Int); omega) (by show (s : Int) ≤ 9223372036854775807; omega), wf_i64_of (by show (-9223372036854775808 : Int) ≤ (wd : Int); omega) (by show (wd : Int) ≤ 9223372036854775807; omega), rfl, rfl, (by decide : ∀ x ∈ ([1, 2, 0, 0, 0, 0, 0, 0] : List Int), (Lit.int .u8 x).wf = true), (by decide : ∀ x ∈ z8, (Lit.int .u8 x).wf = true), (fun x hx => by cases hx)⟩
set_option maxHeartbeats 2000000 in
theorem numbers9_any (w : World) : Makes Try.prog 5 #[] w (.bool true) := by
  have hof := fun w1 => rkeysof_any w1 77
  have hof2 := fun w1 => rkeysof_any w1 78
  obtain ⟨k1, hk1⟩ : ∃ k, keyedM 77 [115, 101, 97, 108] = k := ⟨_, rfl⟩
  obtain ⟨k2, hk2⟩ : ∃ k, keyedM 77 [109, 97, 115, 107] = k := ⟨_, rfl⟩
  obtain ⟨o1, ho1⟩ : ∃ k, keyedM 78 [115, 101, 97, 108] = k := ⟨_, rfl⟩
  obtain ⟨o2, ho2⟩ : ∃ k, keyedM 78 [109, 97, 115, 107] = k := ⟨_, rfl⟩
  rw [hk1, hk2] at hof
  rw [ho1, ho2] at hof2
  refine numbers9_core w [.int .u64 k1, .int .u64 k2] [.int .u64 o1, .int .u64 o2] (Lib.hid rfl) (Lib.hid (by intro v hv; simp only [List.mem_cons, List.not_mem_nil, or_false] at hv; rcases hv with rfl | rfl <;> rfl)) (Lib.hid hof) (Lib.hid hof2)
    (Lib.hid ?pt) (Lib.hid ?rp)
    (Lib.hid fun w1 a len cap xs lg hs h1 h2 h3 h4 h5 => opens_any w1 k1 k2 a len cap xs lg hs h1 h2 h3 h4 h5)
    (Lib.hid fun w1 a len cap xs lg hs h1 h2 h3 h4 h5 => opens_any w1 o1 o2 a len cap xs lg hs h1 h2 h3 h4 h5) (Lib.hid known9_any)
  case pt =>
    intro s wd hs hw W a pl pc pls n h1 h2 h3
    rw [← hN_row]
    exact protects_any W k1 k2 n (hN s wd) none 0 a pl pc pls (hN_ok s wd hs hw) (by show 0 ≤ 1000000; omega) (IntsK.nil _ _ _) ⟨by show (-100 : Int) ≤ (wd : Int); omega, by show (wd : Int) ≤ 100; omega⟩ h2 (by omega) h3
  case rp =>
    intro s wd hs hw W a cp hI
    rw [← hN_row]
    refine (rprotect_any W k1 k2 5 (hN s wd) none 0 a 7 cp [112, 97, 121, 108, 111, 97, 100] (hN_ok s wd hs hw) (by show 0 ≤ 1000000; omega) (IntsK.nil _ _ _) ⟨by show (-100 : Int) ≤ (wd : Int); omega, by show (wd : Int) ≤ 100; omega⟩ (by omega) (by omega) hI).mono fun e w' hr => ?_
    obtain ⟨hb, ⟨_, he⟩ | ⟨b, g, cap', hsome, he, hwf, ho⟩⟩ := hr
    · exact ⟨hb, false, none, 0, 0, [], he, by omega, by omega, by omega, IntsK.nil _ _ _⟩
    · have hl := prot_len hsome
      have h2 := encH_le2 (hN s wd) (hN_ok s wd hs hw) (by show 0 ≤ 32; omega) ((hN s wd).w + ([112, 97, 121, 108, 111, 97, 100] : List Int).length + 8)
      have h3 : (hN s wd).w.toNat = wd := rfl
      rw [h3] at hl
      simp only [List.length_cons, List.length_nil] at hl h2
      obtain ⟨_, _, ey, hcp, hib, _⟩ := ints_of_own ho hwf
      have hcm := own_capm ho _ _ _ rfl
      injection ey with e1 e2 e3
      subst e1; subst e3
      exact ⟨hb, true, _, b.length, _, b, he, by omega, hcp, hcm, hib⟩
end Go.Proofs.Ythofbckkjcidmaa
