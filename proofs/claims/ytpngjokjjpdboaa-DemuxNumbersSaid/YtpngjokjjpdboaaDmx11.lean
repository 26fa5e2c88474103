/- demux: the walk of DemuxDrops. -/
import Derived.Test.YtpngjokjjpdboaaDmx10
namespace Go.Proofs.Ytpngjokjjpdboaa
open Go.RowKit
set_option linter.unusedVariables false

theorem Mp.grown {w w' : World} {N p g b : Nat} {ps : List (List Int × Int)} (h : Mp w N p g ps) (hg : w.grownBy w' (some b)) (h1 : b ≠ p) (h2 : b ≠ g) : Mp w' N p g ps := by
  obtain ⟨l, hT, hh⟩ := h.tab
  exact ⟨⟨l, ⟨hT.inv, hT.pls, hT.pow, hT.ne, grown_row hg (by intro e; injection e with e; exact h2 e.symm) hT.row, grown_row hg (by intro e; injection e with e; exact h1 e.symm) hT.box⟩, hh⟩, h.nd⟩
set_option maxRecDepth 100000 in
set_option maxHeartbeats 8000000 in
theorem drops23_any (w : World) (a : Option Addr) (L cap : Nat) (xs : List Int) (of : Int) (hL : L ≤ 9223372036854775807) (hI : IntsK .i64 w a L xs) (hof : -9223372036854775808 ≤ of ∧ of ≤ 9223372036854775807) :
    Makes Try.prog 4 #[.slice a L cap, .int .i64 of] w (.bool true) := by
  have HNW := Lib.hid (mnew_any w 32 (by omega))
  rw [show plc 32 = 32 by decide] at HNW
  have HI := Lib.hid hI
  clear hI
  go_enter Try.func4, Try.ntmps4
  go_wp2_with fail
  refine Calls.mono HNW.out ?_
  rintro e w1 ⟨hb, p, g, rfl, hp, hg, hM⟩
  have HB := Lib.hid hb; have HM := Lib.hid hM; have HP := Lib.hid hp; have HG := Lib.hid hg
  clear hb hM hp hg HNW
  go_wp2_with fail
  have hb := (Below.refl w1.heap.size w1).alloc (Nat.le_refl _) (.cells (inRow fun _ => false).toArray 39)
  change Code.wp _ _ _ _ (w1.alloc (.cells (inRow fun _ => false).toArray 39))
  have HIN := Lib.hid (heap_alloc_new w1 (.cells (inRow fun _ => false).toArray 39))
  have HNE : Hid (w1.heap.size ≠ p ∧ w1.heap.size ≠ g) := Lib.hid (by have := HM.out.bd; omega)
  have HGW0 := Lib.hid HB.out.size
  replace HB := Lib.hid (bl_next HB.out HB.out.size hb); replace HM := Lib.hid (HM.out.below hb)
  have HGW : Hid (w.heap.size ≤ w1.heap.size) := HGW0
  generalize w1.alloc (.cells (inRow fun _ => false).toArray 39) = w2 at HIN HB HM ⊢
  generalize w1.heap.size = gi at HIN HNE HGW ⊢
  clear hb
  have HM0 : Hid (Mp w2 32 p g (psD fun _ => false)) := Lib.hid (by rw [show psD (fun _ => false) = [] by decide]; exact HM.out)
  have HGI : Hid (gi ≠ p) := Lib.hid HNE.out.1
  have HGG : Hid (w.heap.size ≤ g ∧ gi ≠ g) := Lib.hid ⟨HG.out, HNE.out.2⟩
  clear HM HG HNE
  go_loopw [7] (fun s wr => ∃ (i : Nat) (f : Nat → Bool) (g : Nat), s = .int .i64 i ∧ i ≤ 100 ∧ Hid (Below w.heap.size w wr) ∧ Hid (Mp wr 32 p g (psD f)) ∧ Hid (wr.heap[gi]? = some (.cells (inRow f).toArray 39 (0, 0))) ∧ Hid (w.heap.size ≤ g ∧ gi ≠ g)) (fun s _ => 100 - (intOf s).toNat)
  case atStart => exact ⟨0, _, g, rfl, by omega, HB, HM0, HIN, HGG⟩
  case round =>
    clear HB HM0 HIN HGG
    obtain ⟨i, f, g, rfl, hi, HB, HM, HIN, HGG⟩ := hrel
    by_cases hlt : i < L ∧ i < 100
    · obtain ⟨h1, h2⟩ := hlt
      rcases HI.out.2.2 with h0 | ⟨lb, lo, rfl, hlb, hlc⟩
      · omega
      obtain ⟨x, hx⟩ : ∃ x, xs[i]? = some x := ⟨_, List.getElem?_eq_getElem (by rw [HI.out.1]; exact h1)⟩
      have hxb : -9223372036854775808 ≤ x ∧ x ≤ 9223372036854775807 := bdI64 (HI.out.2.1 x (List.mem_of_getElem? hx))
      have cl : wr.cell? ⟨lb, lo + i, none⟩ = some (.int .i64 x) := bl_cell HB.out hlb (by rw [hlc i h1, List.getD_eq_getElem?_getD, hx]; rfl)
      clear hlb hlc hx
      go_wp2_with fail
      refine Calls.mono (within_any _ x 0 19 (by omega) (by omega) (by omega) hxb) ?_
      rintro e wq ⟨rfl, rfl⟩
      have hwi := within_in x 0 19 (by omega)
      obtain ⟨k, ek⟩ : ∃ k : Nat, within x 0 19 = k := ⟨(within x 0 19).toNat, by omega⟩
      rw [ek] at hwi ⊢
      clear ek cl hxb
      go_upto_region 10 with fail
      have hbd := HM.out.bd
      change Code.wp _ _ _ _ (wr.alloc (.cells ((cd k).map (Value.int .u8)).toArray 30))
      have hb := (Below.refl wr.heap.size wr).alloc (Nat.le_refl _) (.cells ((cd k).map (Value.int .u8)).toArray 30)
      have HGC := Lib.hid (heap_alloc_new wr (.cells ((cd k).map (Value.int .u8)).toArray 30))
      have HNC : Hid (wr.heap.size ≠ p ∧ wr.heap.size ≠ g) := Lib.hid (by omega)
      replace HIN := Lib.hid (bl_row hb (lt_of_block HIN.out) HIN.out); replace HB := Lib.hid (bl_next HB.out HB.out.size hb); replace HM := Lib.hid (HM.out.below hb)
      generalize wr.alloc (.cells ((cd k).map (Value.int .u8)).toArray 30) = w3 at HGC HIN HB HM ⊢
      generalize wr.heap.size = gc at HGC HNC ⊢
      clear hb hbd
      have hk : k < 20 := by omega
      have HCL : Hid (((cd k).map (Value.int .u8)).length = 8) := Lib.hid rfl
      have HD := Lib.hid (fun w g ps (h : Mp w 32 p g ps) => mdrop_any w 32 p g ps (cd k) h rfl (cd_wf (by omega)))
      have e3 : ((k % 3 : Nat) : Int) = (k : Int) % 3 := by omega
      have HPU := Lib.hid (fun w g ps (h : Mp w 32 p g ps) => mput_any w 32 p g ps (cd k) ((k % 3 : Nat) : Int) h rfl (cd_wf (by omega)) (by omega))
      rw [e3] at HPU
      have HE3 := Lib.hid e3
      obtain ⟨C, hC⟩ : ∃ C, (cd k).map (Value.int .u8) = C := ⟨_, rfl⟩
      rw [hC] at HGC HCL HD HPU
      clear hC e3
      have c1 := cell_row HIN.out k _ (inRow_get f hk)
      have hin : f k = true ∨ f k = false := by cases f k <;> simp
      -- behind the call: the table holds what the flipped set says
      rcases hin with hf | hf
      · have hf' := Lib.hid hf
        rw [hf] at c1
        clear hf
        go_wp2_with (first | (refine wpList_load_mid rfl 30 _ rfl gc 0 rfl C _ (rngL HGC.out) Try.underlying30 rfl (by rw [HCL.out]; rfl) ?_) | fail)
        refine Calls.mono (HD.out _ _ _ HM.out) ?_
        rintro e w4 ⟨h2, hcase⟩
        rcases hcase with ⟨hno, _⟩ | ⟨_, rfl, g', hg', hM2⟩
        · exact absurd ((psD_mem _ _ _).2 ⟨k, hk, hf'.out, rfl, rfl⟩) (hno _)
        have HM2 := Lib.hid (hM2 _ (psD_nd _) (fun c n => psD_drop f k hk hf'.out c n))
        have HB2 := Lib.hid (Two.low HB.out HB.out.size h2 HP.out HGG.out.1)
        have HIN2 := Lib.hid (h2.row HIN.out HGI.out HGG.out.2)
        have HGC2 := Lib.hid (h2.row HGC.out HNC.out.1 HNC.out.2)
        have HGG2 : Hid (w.heap.size ≤ g' ∧ gi ≠ g') := Lib.hid ⟨Nat.le_trans HB.out.size hg', by have := lt_of_block HIN.out; omega⟩
        have HNC2 : Hid (gc ≠ p ∧ gc ≠ g') := Lib.hid ⟨HNC.out.1, by have := lt_of_block HGC.out; omega⟩
        clear h2 hM2 hg' HM HB HIN HGC HGG HNC c1
        go_wp2_with (first | (refine wpList_load_g 30 _ rfl (by kernel_rfl) gc 0 rfl C _ (rngL HGC2.out) Try.underlying30 rfl (by rw [HCL.out]; rfl) ?_) | fail)
        refine Calls.mono (HD.out _ _ _ HM2.out) ?_
        rintro e w5 ⟨h2, hcase⟩
        rcases hcase with ⟨_, rfl, hM3⟩ | ⟨⟨m, hm⟩, _⟩
        rotate_left
        · exact absurd rfl (((psD_drop f k hk hf'.out _ _).1 hm).2)
        have HM := Lib.hid hM3
        have HB := Lib.hid (Two.low HB2.out HB2.out.size h2 HP.out HGG2.out.1)
        have HIN := Lib.hid (h2.row HIN2.out HGI.out HGG2.out.2)
        have HGG := HGG2
        clear h2 hM3 HM2 HB2 HIN2 HGC2 HGG2 HNC2
        have HFK : Hid (f k = true) := hf'
        generalize g' = g1 at HM HGG
        have c1 := cell_row HIN.out k _ (inRow_get f hk)
        have z1 := row_free HIN.out k
        rw [HFK.out] at c1
        go_upto_region 16 with fail
        clear c1 z1
        have hs := ((At.base HIN.out).set k (.bool (!f k))).row
        rw [List.setIfInBounds_toArray, inRow_set f hk] at hs
        have hgr := grown_setCell w5 gi k (.bool (!f k))
        have hbs := HB.out.setCell (p := ⟨gi, k, none⟩) HGW.out (.bool (!f k))
        have hms := HM.out.grown hgr HGI.out HGG.out.2
        have hfk : (!f k) = false := by rw [HFK.out]; rfl
        rw [hfk] at hs hbs hms
        obtain ⟨F, hF⟩ : ∃ F, flip f k = F := ⟨_, rfl⟩
        rw [hF] at hs hms
        have HB3 := Lib.hid hbs; have HM3 := Lib.hid hms; have HIN3 := Lib.hid hs
        clear hs hgr hbs hms hfk hF HB HM HIN HFK HE3 hf' HD HPU
        generalize w5.setCell ⟨gi, k, none⟩ (.bool false) = w6 at HB3 HM3 HIN3 ⊢
        go_wp2_with fail
        go_loopw [10] (fun s wr => ∃ j : Nat, s = .int .i64 j ∧ j ≤ 20 ∧ Hid (Below w.heap.size w wr) ∧ Hid (Mp wr 32 p g1 (psD F)) ∧ Hid (wr.heap[gi]? = some (.cells (inRow F).toArray 39 (0, 0)))) (fun s _ => 20 - (intOf s).toNat)
        case atStart => exact ⟨0, rfl, by omega, HB3, HM3, HIN3⟩
        case round =>
          clear HB3 HM3 HIN3
          obtain ⟨j, rfl, hj, HB, HM, HIN⟩ := hrel
          by_cases hlj : j < 20
          · have HGE : Hid (Calls Try.prog 17 #[.pointer (some ⟨p, 0, none⟩), .agg #[.int .u8 (j : Int), .int .u8 9, .int .u8 0, .int .u8 0, .int .u8 0, .int .u8 0, .int .u8 0, .int .u8 0]] wr _) := Lib.hid (mget_any wr 32 p g1 (psD F) (cd j) HM.out rfl (cd_wf (by omega)))
            go_wp2_with fail
            refine Calls.mono HGE.out ?_
            clear HGE
            rintro e w7 ⟨hb, hcase⟩
            replace HB := Lib.hid (bl_next HB.out HB.out.size hb); replace HM := Lib.hid (HM.out.below hb); replace HIN := Lib.hid (bl_row hb (lt_of_block HIN.out) HIN.out)
            clear hb
            have c1 := cell_row HIN.out j _ (inRow_get F hlj)
            rcases hcase with ⟨n, hn, rfl⟩ | ⟨hno, rfl⟩
            · obtain ⟨j', _, h0, h3, rfl⟩ := (psD_mem _ _ _).1 hn
              obtain rfl := cd_inj h3
              have e4 : ((j % 3 : Nat) : Int) = (j : Int) % 3 := by omega
              rw [h0] at c1
              rw [e4]
              clear hn h0 h3 e4
              go_wp2_with fail
              go_roundw
              case rel => exact ⟨j + 1, by go_num, by omega, HB, HM, HIN⟩
              case measure => simp [intOf]; omega
            · have hf0 : F j = false := by
                cases hfj : F j with
                | false => rfl
                | true => exact absurd ((psD_mem _ _ _).2 ⟨j, hlj, hfj, rfl, rfl⟩) (hno _)
              rw [hf0] at c1
              clear hno hf0
              go_wp2_with fail
              go_roundw
              case rel => exact ⟨j + 1, by go_num, by omega, HB, HM, HIN⟩
              case measure => simp [intOf]; omega
          · go_wp2_with fail
            go_roundw
            case rel => exact ⟨i + 1, F, g1, by go_num, by omega, HB, HM, HIN, HGG⟩
            case measure => simp [intOf]; omega
      · have hf' := Lib.hid hf
        rw [hf] at c1
        clear hf
        go_wp2_with (first | (refine wpList_load_mid rfl 30 _ rfl gc 0 rfl C _ (rngL HGC.out) Try.underlying30 rfl (by rw [HCL.out]; rfl) ?_) | fail)
        refine Calls.mono (HPU.out _ _ _ HM.out) ?_
        rintro e w5 ⟨h2, hcase⟩
        rcases hcase with ⟨_, hf2, _⟩ | ⟨_, rfl, hM2⟩
        · have := psD_len f; omega
        have HM2 := Lib.hid (hM2 _ (by rw [← HE3.out]; exact psD_put f k hk hf'.out))
        have HB2 := Lib.hid (Two.low HB.out HB.out.size h2 HP.out HGG.out.1)
        have HIN2 := Lib.hid (h2.row HIN.out HGI.out HGG.out.2)
        clear h2 hM2 HM HB HIN HGC HNC c1
        have HM := HM2; have HB := HB2; have HIN := HIN2
        have HFK : Hid (f k = false) := hf'
        clear HM2 HB2 HIN2
        generalize g = g1 at HM HGG
        have c1 := cell_row HIN.out k _ (inRow_get f hk)
        have z1 := row_free HIN.out k
        rw [HFK.out] at c1
        go_upto_region 16 with fail
        clear c1 z1
        have hs := ((At.base HIN.out).set k (.bool (!f k))).row
        rw [List.setIfInBounds_toArray, inRow_set f hk] at hs
        have hgr := grown_setCell w5 gi k (.bool (!f k))
        have hbs := HB.out.setCell (p := ⟨gi, k, none⟩) HGW.out (.bool (!f k))
        have hms := HM.out.grown hgr HGI.out HGG.out.2
        have hfk : (!f k) = true := by rw [HFK.out]; rfl
        rw [hfk] at hs hbs hms
        obtain ⟨F, hF⟩ : ∃ F, flip f k = F := ⟨_, rfl⟩
        rw [hF] at hs hms
        have HB3 := Lib.hid hbs; have HM3 := Lib.hid hms; have HIN3 := Lib.hid hs
        clear hs hgr hbs hms hfk hF HB HM HIN HFK HE3 hf' HD HPU
        generalize w5.setCell ⟨gi, k, none⟩ (.bool true) = w6 at HB3 HM3 HIN3 ⊢
        go_wp2_with fail
        go_loopw [10] (fun s wr => ∃ j : Nat, s = .int .i64 j ∧ j ≤ 20 ∧ Hid (Below w.heap.size w wr) ∧ Hid (Mp wr 32 p g1 (psD F)) ∧ Hid (wr.heap[gi]? = some (.cells (inRow F).toArray 39 (0, 0)))) (fun s _ => 20 - (intOf s).toNat)
        case atStart => exact ⟨0, rfl, by omega, HB3, HM3, HIN3⟩
        case round =>
          clear HB3 HM3 HIN3
          obtain ⟨j, rfl, hj, HB, HM, HIN⟩ := hrel
          by_cases hlj : j < 20
          · have HGE : Hid (Calls Try.prog 17 #[.pointer (some ⟨p, 0, none⟩), .agg #[.int .u8 (j : Int), .int .u8 9, .int .u8 0, .int .u8 0, .int .u8 0, .int .u8 0, .int .u8 0, .int .u8 0]] wr _) := Lib.hid (mget_any wr 32 p g1 (psD F) (cd j) HM.out rfl (cd_wf (by omega)))
            go_wp2_with fail
            refine Calls.mono HGE.out ?_
            clear HGE
            rintro e w7 ⟨hb, hcase⟩
            replace HB := Lib.hid (bl_next HB.out HB.out.size hb); replace HM := Lib.hid (HM.out.below hb); replace HIN := Lib.hid (bl_row hb (lt_of_block HIN.out) HIN.out)
            clear hb
            have c1 := cell_row HIN.out j _ (inRow_get F hlj)
            rcases hcase with ⟨n, hn, rfl⟩ | ⟨hno, rfl⟩
            · obtain ⟨j', _, h0, h3, rfl⟩ := (psD_mem _ _ _).1 hn
              obtain rfl := cd_inj h3
              have e4 : ((j % 3 : Nat) : Int) = (j : Int) % 3 := by omega
              rw [h0] at c1
              rw [e4]
              clear hn h0 h3 e4
              go_wp2_with fail
              go_roundw
              case rel => exact ⟨j + 1, by go_num, by omega, HB, HM, HIN⟩
              case measure => simp [intOf]; omega
            · have hf0 : F j = false := by
                cases hfj : F j with
                | false => rfl
                | true => exact absurd ((psD_mem _ _ _).2 ⟨j, hlj, hfj, rfl, rfl⟩) (hno _)
              rw [hf0] at c1
              clear hno hf0
              go_wp2_with fail
              go_roundw
              case rel => exact ⟨j + 1, by go_num, by omega, HB, HM, HIN⟩
              case measure => simp [intOf]; omega
          · go_wp2_with fail
            go_roundw
            case rel => exact ⟨i + 1, F, g1, by go_num, by omega, HB, HM, HIN, HGG⟩
            case measure => simp [intOf]; omega
    · clear hi
      go_wp2_with fail
      all_goals (
        refine Calls.mono (within_any _ of 0 2 (by omega) (by omega) (by omega) hof) ?_
        rintro e wq ⟨rfl, rfl⟩
        have hwi := within_in of 0 2 (by omega)
        obtain ⟨q, eq⟩ : ∃ q : Nat, within of 0 2 = q := ⟨(within of 0 2).toNat, by omega⟩
        rw [eq] at hwi ⊢
        clear eq hlt
        go_wp2_with fail
        go_loop [14, 15, 16] (fun a b s => ∃ j : Nat, s = .int .i64 j ∧ j ≤ 20 ∧ a = .int .i64 (wantM f q j : Nat) ∧ b = .int .i64 (restM f q j : Nat)) (fun _ _ s => 20 - (intOf s).toNat)
        case atStart => exact ⟨0, rfl, by omega, rfl, rfl⟩
        case round =>
          obtain ⟨j, rfl, hj, rfl, rfl⟩ := hrel
          have HWS := Lib.hid (wantM_succ f q j); have HRS := Lib.hid (restM_succ f q j)
          have hwl : wantM f q j ≤ j := by unfold wantM; have := List.length_filter_le (fun i => f i && decide (((i % 3 : Nat) : Int) = (q : Int))) (List.range j); simpa using this
          have hrl : restM f q j ≤ j := by unfold restM; have := List.length_filter_le (fun i => f i && !decide (((i % 3 : Nat) : Int) = (q : Int))) (List.range j); simpa using this
          by_cases hlj : j < 20
          · have c1 := cell_row HIN.out j _ (inRow_get f hlj)
            have e3 : ((j % 3 : Nat) : Int) = (j : Int) % 3 := by omega
            rw [e3] at HWS HRS
            clear e3
            cases hfj : f j with
            | false =>
              rw [hfj] at c1 HWS HRS
              clear hfj
              have HW : Hid (wantM f q (j + 1) = wantM f q j) := Lib.hid (by rw [HWS.out, if_neg (by simp), Nat.add_zero])
              have HR : Hid (restM f q (j + 1) = restM f q j) := Lib.hid (by rw [HRS.out, if_neg (by simp), Nat.add_zero])
              generalize wantM f q j = a0 at *; generalize restM f q j = b0 at *
              go_wp2
              go_round
              case rel => exact ⟨j + 1, by go_num, by omega, by rw [HW.out], by rw [HR.out]⟩
              case measure => simp [intOf]; omega
            | true =>
              rw [hfj] at c1 HWS HRS
              clear hfj
              by_cases hq : (j : Int) % 3 = q
              · have HW : Hid (wantM f q (j + 1) = wantM f q j + 1) := Lib.hid (by rw [HWS.out, if_pos ⟨rfl, hq⟩])
                have HR : Hid (restM f q (j + 1) = restM f q j) := Lib.hid (by rw [HRS.out, if_neg (by simp [hq]), Nat.add_zero])
                generalize wantM f q j = a0 at *; generalize restM f q j = b0 at *
                go_wp2
                go_round
                case rel => exact ⟨j + 1, by go_num, by omega, by rw [HW.out]; go_num, by rw [HR.out]⟩
                case measure => simp [intOf]; omega
              · have HW : Hid (wantM f q (j + 1) = wantM f q j) := Lib.hid (by rw [HWS.out, if_neg (by simp [hq]), Nat.add_zero])
                have HR : Hid (restM f q (j + 1) = restM f q j + 1) := Lib.hid (by rw [HRS.out, if_pos ⟨rfl, hq⟩])
                generalize wantM f q j = a0 at *; generalize restM f q j = b0 at *
                go_wp2
                go_round
                case rel => exact ⟨j + 1, by go_num, by omega, by rw [HW.out], by rw [HR.out]; go_num⟩
                case measure => simp [intOf]; omega
          · obtain rfl : j = 20 := by omega
            have hsp := psD_split f q
            have hrl2 := psR_len f q
            have HDA := Lib.hid (mdropall_any wr 32 p g (psD f) (psR f q) q HM.out (psD_nd _) (psR_mem f q))
            rw [show ((psD f).length : Int) - (psR f q).length = (wantM f q 20 : Nat) by omega] at HDA
            have HRL := Lib.hid hrl2
            clear hsp hrl2 HWS HRS
            generalize wantM f q 20 = a0 at *
            go_wp2_with fail
            refine Calls.mono HDA.out ?_
            rintro e w8 ⟨h2, rfl, g2, hg2, hM2⟩
            have HB2 := Lib.hid (Two.low HB.out HB.out.size h2 HP.out HGG.out.1)
            have HM2 := Lib.hid hM2
            have HG2 : Hid (w.heap.size ≤ g2) := Lib.hid (Nat.le_trans HB.out.size hg2)
            clear h2 hM2 hg2 HDA HB HM HIN HGG
            go_wp2_with fail
            refine Calls.mono (mlen_any _ 32 p g2 _ HM2.out) ?_
            rintro e wq ⟨rfl, rfl⟩
            rw [HRL.out]
            generalize restM f q 20 = b0 at *
            have HDB := Lib.hid (mdropall_any w8 32 p g2 (psR f q) (psR f q) q HM2.out (psD_nd _) (fun c n => by rw [psR_mem]; exact ⟨fun h => ⟨h, h.2⟩, fun h => h.1⟩))
            rw [show ((psR f q).length : Int) - (psR f q).length = 0 by omega] at HDB
            go_wp2_with fail
            refine Calls.mono HDB.out ?_
            rintro e w9 ⟨h2, rfl, g3, hg3, hM3⟩
            have HB3 := Lib.hid (Two.low HB2.out HB2.out.size h2 HP.out HG2.out)
            clear h2 hg3 hM3 HDB HB2 HM2
            go_wp2_with fail
            refine Calls.mono (known23_any _) ?_
            rintro e w10 ⟨rfl, hb⟩
            have HB4 := Lib.hid (bl_next HB3.out HB3.out.size hb)
            clear hb
            go_wp2_with fail
            go_ret
            exact ⟨rfl, HB4.out⟩)
end Go.Proofs.Ytpngjokjjpdboaa
