/- heads: the reference's Parse. -/
import Derived.Test.YthofbckkjcidmaaHead9
namespace Go.Proofs.Ythofbckkjcidmaa
open Go.RowKit
set_option linter.unusedVariables false

theorem Rd.cells {W0 w : World} {L p : Nat} {T : TypeId} {bs : List Int} {bad : Bool} (h : Rd W0 w L p T bs bad) : ∃ a cap, w.cell? ⟨p, 0, none⟩ = some (.slice a bs.length cap) ∧ w.cell? ⟨p, 1, none⟩ = some (.bool bad) := by
  obtain ⟨a, n, cap, hr, _, _, hI, _⟩ := h.ex
  refine ⟨a, cap, ?_, row_cell hr 1 _ rfl⟩
  rw [hI.1]
  exact row_cell hr 0 _ rfl
def rParR (w : World) (bs : List Int) (e : Ending) (w' : World) : Prop :=
  Below w.heap.size w w' ∧
  ((parM bs = none ∧ e = .returned (.tuple #[.agg rowZ.toArray, .int .i64 0, .int .i64 0, .bool false])) ∨
   (∃ (h : Hd) (at' en : Nat) (a : Option Addr) (tc : Nat), parM bs = some (h, at', en) ∧ e = .returned (.tuple #[h.val a tc, .int .i64 at', .int .i64 en, .bool true]) ∧ IntsK .u8 w' a h.k.length h.k ∧ h.k.length ≤ tc ∧ (∀ x, a = some x → w.heap.size ≤ x.block)))
theorem and3 (f : Int) (h : 0 ≤ f ∧ f ≤ 255) : bits .and .u8 (f / 16) 3 = f / 16 % 4 := by
  have h2 : ∀ k : Fin 256, bits .and .u8 (((k.val : Nat) : Int) / 16) 3 = ((k.val : Nat) : Int) / 16 % 4 := by decide +kernel
  have h3 := h2 ⟨f.toNat, by omega⟩
  simp only [Int.toNat_of_nonneg h.1] at h3
  exact h3
theorem par_bad {bs : List Int} {x1 : Int} {x2 : List Int} (hx : byteM bs false = (x1, x2, true)) : parM bs = none := by
  unfold parM; simp only [hx]; rw [if_pos (.inl trivial)]
theorem par_nine {bs : List Int} {x1 : Int} {x2 y1 y2 : List Int} (hx : byteM bs false = (x1, x2, false)) (hy : rdM x2 false 8 = (y1, y2, false)) : bs.length - y2.length = 9 := by
  unfold byteM rdM at hx
  unfold rdM at hy
  split at hx
  · simp at hx
  · split at hy
    · simp at hy
    · rename_i h1 h2
      simp at hx hy h1 h2
      rw [← hy.2, ← hx.2]
      simp
      have := hx.2
      rw [← this] at h2
      simp at h2
      omega

set_option maxRecDepth 100000 in
set_option maxHeartbeats 8000000 in
theorem rparse_any (w : World) (a : Option Addr) (len cap : Nat) (bs : List Int) (hlc : len ≤ cap) (hcap : cap ≤ 9223372036854775807) (hlen : len ≤ 1000000000000) (hI : IntsK .u8 w a len bs) :
    Calls Try.prog 45 #[.slice a len cap] w (rParR w bs) := by
  have HI := Lib.hid hI; have HLB := Lib.hid hI.1
  have hx1b := byte_bd (bad := false) hI.2.1
  clear hI
  obtain ⟨Q, hQ⟩ : ∃ Q, rParR w bs = Q := ⟨_, rfl⟩
  rw [hQ]
  have HQQ := Lib.hid hQ
  clear hQ
  obtain ⟨⟨x1, x2, x3⟩, hx⟩ : ∃ r, byteM bs false = r := ⟨_, rfl⟩
  rw [hx] at hx1b
  simp only at hx1b
  have hlx : x2.length ≤ len := by have h := byte_len bs false; rw [hx, HLB.out] at h; exact h
  have HX := Lib.hid hx; have HLX := Lib.hid hlx
  clear hx hlx
  have HAND := Lib.hid (and48 x1 hx1b)
  have HAN3 := Lib.hid (and3 x1 hx1b)
  go_enter Try.func45, Try.ntmps45
  go_upto_region 1 with fail
  change Code.wp _ _ _ _ (w.alloc (.cells rowZ.toArray 32))
  have hbA := (Below.refl w.heap.size w).alloc (Nat.le_refl _) (.cells rowZ.toArray 32)
  have h0 := heap_alloc_new w (.cells rowZ.toArray 32)
  have hs0 : (w.alloc (.cells rowZ.toArray 32)).heap.size = w.heap.size + 1 := by simp
  generalize w.alloc (.cells rowZ.toArray 32) = W at h0 hbA hs0 ⊢
  have HS0 := Lib.hid hs0
  clear hs0
  go_upto_region 2 with fail
  have hbB := (Below.refl W.heap.size W).alloc (Nat.le_refl _) (.cells #[.slice a len cap, .bool false] 109)
  have hrd := heap_alloc_new W (.cells #[.slice a len cap, .bool false] 109)
  have hbb := bl_next hbA hbA.size hbB
  have hrow0 := bl_row hbB (lt_of_block h0) h0
  have HRD : Hid (Rd w (W.alloc (.cells #[.slice a len cap, .bool false] 109)) 0 W.heap.size 109 bs false) := Lib.hid ⟨by have := HS0.out; omega, fun i _ hi => hbb.block i hi, by have := HLB.out; omega, a, len, cap, hrd, hlc, hcap, HI.out, fun _ _ => Nat.zero_le _⟩
  have H0 := Lib.hid hrow0
  have HB := Lib.hid hbb
  generalize W.alloc (.cells #[.slice a len cap, .bool false] 109) = w1 at HRD H0 HB ⊢
  obtain ⟨p, hp⟩ : ∃ p, W.heap.size = p := ⟨_, rfl⟩
  obtain ⟨g0, hg⟩ : ∃ g0, w.heap.size = g0 := ⟨_, rfl⟩
  have hg0p : g0 < p := by have := HS0.out; omega
  have hwg0 : w.heap.size ≤ g0 := by omega
  rw [hp] at HRD ⊢
  rw [hg] at H0 ⊢
  clear hbA h0 HS0 hbB hrd hbb hrow0 hp hg
  go_wp2_with fail
  have hb := rbyte_any w w1 0 p bs false HRD.out
  rw [HX.out] at hb
  refine Calls.mono hb ?_
  clear hb
  rintro e w2 ⟨rfl, hR, hg1⟩
  replace HRD := Lib.hid hR
  replace H0 := Lib.hid (grown_row hg1 (by intro e; injection e with e; omega) H0.out)
  replace HB := Lib.hid (HB.out.grown hg1 HB.out.size (by intro k hk; injection hk with hk; omega))
  clear hR hg1
  go_upto_region 4 with (first | (refine wpList_store_row rfl 32 _ _ rfl _ rfl (row0 2) rowZ rfl 32 (heap_alloc_new _ _) rfl rfl row0_one ?_; intro w3 hr3 hg3) | fail)
  have hal := (Below.refl w2.heap.size w2).alloc (Nat.le_refl _) (.cells rowZ.toArray 32)
  have HR := Lib.hid hr3
  have hgp : w2.heap.size ≠ p := by have := HRD.out.lt; omega
  have hgW : w.heap.size ≤ w2.heap.size := HRD.out.size
  have hg0g : g0 < w2.heap.size := by have := HRD.out.lt; omega
  replace HRD := Lib.hid ((HRD.out.to hal).grownG hg3 hgp hgW)
  replace H0 := Lib.hid (grown_row hg3 (by intro e; injection e with e; have := lt_of_block H0.out; omega) (bl_row hal (lt_of_block H0.out) H0.out))
  replace HB := Lib.hid ((bl_next HB.out HB.out.size hal).grown hg3 (bl_next HB.out HB.out.size hal).size (by intro k hk; injection hk with hk; have := HB.out.size; omega))
  clear hr3 hg3 hal
  obtain ⟨g, hgg⟩ : ∃ g, w2.heap.size = g := ⟨_, rfl⟩
  rw [hgg] at HR hgp hgW hg0g ⊢
  clear hgg
  obtain ⟨ra, rc, hc0, hc1⟩ := HRD.out.cells
  cases x3 with
  | true =>
    clear hc0
    go_wp2_with (first | (refine wpList_store_row rfl 32 _ _ rfl g0 rfl rowZ rowZ rfl 32 H0.out rfl rfl rowZ_one ?_; intro wz hz hgz) | fail)
    (try simp only [Exit.inBlock, Exit.then])
    refine bodyPost_ret (results_cell4 rfl _ _ g0 rfl rowZ _ _ hz Try.underlying32 rfl rfl) rfl ?_
    rw [← HQQ.out]
    exact ⟨HB.out.grown hgz HB.out.size (by intro k hk; injection hk with hk; omega), .inl ⟨par_bad HX.out, rfl⟩⟩
  | false =>
    rcases (by omega : x1 / 64 % 2 = 0 ∨ x1 / 64 % 2 = 1) with h64 | h64
    · have hb64 : bits .and .u8 x1 64 = 0 := by rw [HAND.out.2.2, h64]; rfl
      clear hc0
      go_wp2_with (first | (refine wpList_store_row rfl 32 _ _ rfl g0 rfl rowZ rowZ rfl 32 H0.out rfl rfl rowZ_one ?_; intro wz hz hgz) | fail)
      (try simp only [Exit.inBlock, Exit.then])
      refine bodyPost_ret (results_cell4 rfl _ _ g0 rfl rowZ _ _ hz Try.underlying32 rfl rfl) rfl ?_
      rw [← HQQ.out]
      exact ⟨HB.out.grown hgz HB.out.size (by intro k hk; injection hk with hk; omega), .inl ⟨par_64 HX.out h64, rfl⟩⟩
    · have hb64 : bits .and .u8 x1 64 = 64 := by rw [HAND.out.2.2, h64]; rfl
      rcases (by omega : x1 / 128 % 2 = 0 ∨ x1 / 128 % 2 = 1) with h128 | h128
      · have hb128 : bits .and .u8 x1 128 = 0 := by rw [HAND.out.2.1, h128]; rfl
        go_upto_region 7 with fail
        clear hb128 hb64 hc0 hc1
        obtain ⟨⟨y1, y2, y3⟩, hy⟩ : ∃ r, rdM x2 false 8 = r := ⟨_, rfl⟩
        have hyl := rdM_len1 x2 false 8
        have hylr := rd_lenr x2 false 8
        rw [show ((8 : Nat) : Int) = 8 from rfl, hy] at hyl
        rw [hy] at hylr
        simp only at hyl hylr
        have hy2 : y2.length ≤ len := by have := HLX.out; omega
        have HY := Lib.hid hy; have HyL := Lib.hid hyl
        clear hy hyl hylr
        refine wp_plan (.t 0 (.t 1 (.t 2 (.u 3 (.u 4 .done))))) (fun y => True) (by kernel_rfl) (by kernel_rfl) (by kernel_rfl) (fun c a d v w h => by cases d <;> exact h) trivial ?_
        haveI hne : Nonempty (In fun y => True) := ⟨⟨w, trivial⟩⟩
        replace HB := Lib.hid HB.out.drew
        replace HRD := Lib.hid (HRD.out.to (Below.refl _ _).drew)
        replace HR : Hid (w3.drew.heap[g]? = some (.cells (row0 2).toArray 32 (0, 0))) := HR
        replace H0 : Hid (w3.drew.heap[g0]? = some (.cells rowZ.toArray 32 (0, 0))) := H0
        generalize w3.drew = u1 at HB HRD HR H0 ⊢
        repeat (refine plan_t (by rfl) ?_; (first | go_big_quiet_skip | (go_big_quiet_want; go_big_quiet_op; go_big_quiet_on)); refine wpQuiet_nil ?_)
        refine plan_us (by rfl) (by kernel_rfl) ?_
        intro K hK
        go_wp2_with fail
        have hb := rraw_any w u1 0 p x2 false 8 (by omega) HRD.out
        rw [HY.out] at hb
        refine Calls.mono hb ?_
        clear hb
        rintro e u2 ⟨b, m, cb, rfl, hm, hI, hR, hg1, hlo⟩
        replace HR := Lib.hid (grown_row hg1 (by intro e; injection e with e; exact hgp e) HR.out)
        replace H0 := Lib.hid (grown_row hg1 (by intro e; injection e with e; omega) H0.out)
        replace HB := Lib.hid (HB.out.grown hg1 HB.out.size (by intro k hk; injection hk with hk; omega))
        replace HRD := Lib.hid hR
        have hm8 : m ≤ 8 := by have h1 : y1.length = m := hI.1; have := HyL.out; omega
        have HCP := Lib.hid (ints_copy hI 8 hm8)
        have HFIT : Hid (1 + (y1.map (Value.int .u8)).length ≤ (row0 2).length) := Lib.hid (by rw [List.length_map, show (row0 2).length = 20 from rfl]; have := HyL.out; omega)
        clear hR hg1 hI hlo hm hm8
        go_wp2_with fail
        refine ⟨trivial, ?_⟩
        refine plan_us (by rfl) (by kernel_rfl) ?_
        intro K hK
        refine wp_copy_grown _ _ 23 23 rfl 5 Try.underlying23 infoU8t _ _ _ _ _ _ rfl rfl g 1 (row0 2) 32 HR.out (y1.map (Value.int .u8)) HCP.out.1 (fun h => ⟨rfl, HCP.out.2 h⟩) HFIT.out ints_one ?_
        intro u3 hr6 hg2
        replace HR := Lib.hid hr6
        replace H0 := Lib.hid (grown_row hg2 (by intro e; injection e with e; omega) H0.out)
        replace HRD := Lib.hid (HRD.out.grownG hg2 hgp hgW)
        replace HB := Lib.hid (HB.out.grown hg2 HB.out.size (by intro k hk; injection hk with hk; omega))
        refine hK _ _ ⟨trivial, ?_⟩
        clear hK hr6 hg2 hne HCP HFIT
        show Exit.then _ _ _ _ _
        simp only [Act.put, List.setIfInBounds_toArray, List.set_cons_succ, List.set_cons_zero]
        obtain ⟨ra, rc, hc0, hc1⟩ := HRD.out.cells
        cases y3 with
        | true =>
          go_wp2_with (first | (refine wpList_store_row rfl 32 _ _ rfl g0 rfl rowZ rowZ rfl 32 H0.out rfl rfl rowZ_one ?_; intro wz hz hgz) | fail)
          (try simp only [Exit.inBlock, Exit.then])
          refine bodyPost_ret (results_cell4 rfl _ _ g0 rfl rowZ _ _ hz Try.underlying32 rfl rfl) rfl ?_
          rw [← HQQ.out]
          exact ⟨HB.out.grown hgz HB.out.size (by intro k hk; injection hk with hk; omega), .inl ⟨par_d_x HX.out h128 HY.out (.inl rfl), rfl⟩⟩
        | false =>
          by_cases h12 : ((y2.length : Nat) : Int) < 12
          · skip
            go_wp2_with (first | (refine wpList_store_row rfl 32 _ _ rfl g0 rfl rowZ rowZ rfl 32 H0.out rfl rfl rowZ_one ?_; intro wz hz hgz) | fail)
            (try simp only [Exit.inBlock, Exit.then])
            refine bodyPost_ret (results_cell4 rfl _ _ g0 rfl rowZ _ _ hz Try.underlying32 rfl rfl) rfl ?_
            rw [← HQQ.out]
            exact ⟨HB.out.grown hgz HB.out.size (by intro k hk; injection hk with hk; omega), .inl ⟨par_d_x HX.out h128 HY.out (.inr (by omega)), rfl⟩⟩
          · have hl8 : y1.length = 8 := by have h := rd_ok8 (bs := x2) (bad := false) (by rw [HY.out]); rw [HY.out] at h; exact h
            have hl9 : bs.length - y2.length = 9 := by
              have h1 := HX.out
              have h2 := HY.out
              exact par_nine h1 h2
            have hrow := HR.out
            rw [drow_row y1 hl8] at hrow
            have HONE := Lib.hid (row_one ⟨2, y1, z8, [], 1, false⟩ none 0)
            have HRL := Lib.hid (row_len ⟨2, y1, z8, [], 1, false⟩ none 0 hl8 rfl)
            obtain ⟨RW, hRW⟩ : ∃ RW, (Hd.row ⟨2, y1, z8, [], 1, false⟩ none 0) = RW := ⟨_, rfl⟩
            rw [hRW] at hrow HONE HRL
            have HRW := Lib.hid hRW; have HROW := Lib.hid hrow
            clear hrow hRW HR
            go_wp2_with (first | (refine wpList_load_mid rfl 32 _ rfl g 0 rfl _ _ (rng20 HROW.out) Try.underlying32 rfl (by rw [HRL.out]; rfl) ?_) | (refine wpList_store_row rfl 32 _ _ rfl g0 rfl RW rowZ rfl 32 H0.out (by rw [HRL.out]; rfl) (by rw [HRL.out]; rfl) HONE.out ?_; intro wz hz hgz) | fail)
            (try simp only [Exit.inBlock, Exit.then])
            refine bodyPost_ret (results_cell4 rfl _ _ g0 rfl RW _ _ hz Try.underlying32 rfl (by rw [HRL.out]; rfl)) rfl ?_
            rw [← HQQ.out]
            refine ⟨HB.out.grown hgz HB.out.size (by intro k hk; injection hk with hk; omega), .inr ⟨_, _, _, none, 0, par_d_ok HX.out h128 (by omega) HY.out (by simp <;> omega), ?_, IntsK.nil _ _ _, Nat.le_refl _, fun x hx => by cases hx⟩⟩
            (try simp only)
            rw [show Hd.val ⟨2, y1, z8, [], 1, false⟩ none 0 = .agg RW.toArray by unfold Hd.val; rw [HRW.out]]
            exact tuple4_eq (by rw [hl9]; rfl) (by rw [HLB.out])
      · have hb128 : bits .and .u8 x1 128 = 128 := by rw [HAND.out.2.1, h128]; rfl
        clear hc0
        have hc0 : w3.cell? ⟨g, 0, none⟩ = some (.int .i64 2) := row_cell HR.out 0 _ rfl
        have hf0 := row_free HR.out 0
        have han3 := HAN3.out
        go_upto_region 12 with fail
        clear hc0 hf0 hc1 hb64 hb128 han3
        obtain ⟨q, hq⟩ : ∃ q, x1 / 16 % 4 = q := ⟨_, rfl⟩
        have hq3 : 0 ≤ q ∧ q ≤ 3 := by omega
        rw [hq]
        have HQ := Lib.hid hq
        clear hq
        have hA := ((At.base HR.out).set 0 (.int .i64 q)).conv (cs' := (row0 q).toArray) (by rfl)
        replace HR := Lib.hid hA.row
        replace H0 := Lib.hid (grown_row hA.rest (by intro e; injection e with e; omega) H0.out)
        replace HB := Lib.hid (HB.out.grown hA.rest HB.out.size (by intro k hk; injection hk with hk; omega))
        replace HRD := Lib.hid (HRD.out.grownG hA.rest hgp hgW)
        clear hA
        generalize w3.setCell ⟨g, 0, none⟩ (.int .i64 q) = w4 at HR H0 HB HRD ⊢
        go_wp2_with fail
        obtain ⟨⟨v1, v2, v3⟩, hv⟩ : ∃ r, rdM x2 false 4 = r := ⟨_, rfl⟩
        have hb := rraw_any w w4 0 p x2 false 4 (by omega) HRD.out
        rw [hv] at hb
        have HV := Lib.hid hv
        clear hv
        refine Calls.mono hb ?_
        clear hb
        rintro e w5 ⟨a9, m9, c9, rfl, hm, hI, hR, hg1, hlo⟩
        replace HR := Lib.hid (grown_row hg1 (by intro e; injection e with e; exact hgp e) HR.out)
        replace H0 := Lib.hid (grown_row hg1 (by intro e; injection e with e; omega) H0.out)
        replace HB := Lib.hid (HB.out.grown hg1 HB.out.size (by intro k hk; injection hk with hk; omega))
        replace HRD := Lib.hid hR
        have HI9 := Lib.hid hI
        clear hm hI hR hg1 hlo
        go_upto_region 13 with fail
        have hal := (Below.refl w5.heap.size w5).alloc (Nat.le_refl _) (.cells #[.int .u8 0, .int .u8 0, .int .u8 0, .int .u8 1] 5)
        have hga := heap_alloc_new w5 (.cells #[.int .u8 0, .int .u8 0, .int .u8 0, .int .u8 1] 5)
        have hc0 : w5.cell? ⟨g, 0, none⟩ = some (.int .i64 q) := row_cell HR.out 0 _ rfl
        rcases (by omega : q = 0 ∨ q = 1 ∨ 2 ≤ q) with rfl | rfl | hq2
        · have hcv1 : (convert 23 9 (.slice a9 m9 c9)).run Try.prog w5 = .ok (.string (strOfNums v1)) w5 := conv_ints _ 5 _ _ Try.underlying23 Try.underlying5 Try.underlying9 HI9.out
          have hcv2 : (convert 23 9 (.slice (some ⟨w5.heap.size, 0, none⟩) 4 4)).run Try.prog (w5.alloc (.cells #[.int .u8 0, .int .u8 0, .int .u8 0, .int .u8 1] 5)) = .ok (.string (strOfNums [0, 0, 0, 1])) (w5.alloc (.cells #[.int .u8 0, .int .u8 0, .int .u8 0, .int .u8 1] 5)) := conv_ints _ 5 _ _ Try.underlying23 Try.underlying5 Try.underlying9 (IntsK.of_row (zs := [0, 0, 0, 1]) hga (by decide))
          have HWV := Lib.hid HI9.out.2.1
          replace HR := Lib.hid (bl_row hal (lt_of_block HR.out) HR.out)
          replace H0 := Lib.hid (bl_row hal (lt_of_block H0.out) H0.out)
          replace HB := Lib.hid (bl_next HB.out HB.out.size hal)
          replace HRD := Lib.hid (HRD.out.to hal)
          clear hal hga HI9
          go_upto_region 14 with fail
          clear hcv1 hcv2 hc0
          generalize w5.heap.size = gn
          generalize w5.alloc (.cells #[.int .u8 0, .int .u8 0, .int .u8 0, .int .u8 1] 5) = w6 at HR H0 HB HRD ⊢
          by_cases heq : v1 = [0, 0, 0, 1]
          · subst heq
            rw [beq_self_eq_true]
            go_wp2_with fail
            obtain ⟨⟨z1, z2, z3⟩, hz⟩ : ∃ r, byteM v2 v3 = r := ⟨_, rfl⟩
            have hb := rbyte_any w w6 0 p v2 v3 HRD.out
            rw [hz] at hb
            have Hz := Lib.hid hz
            clear hz
            refine Calls.mono hb ?_
            clear hb
            rintro e u4 ⟨rfl, hR, hg1⟩
            replace HR := Lib.hid (grown_row hg1 (by intro e; injection e with e; exact hgp e) HR.out)
            replace H0 := Lib.hid (grown_row hg1 (by intro e; injection e with e; omega) H0.out)
            replace HB := Lib.hid (HB.out.grown hg1 HB.out.size (by intro k hk; injection hk with hk; omega))
            replace HRD := Lib.hid hR
            clear hR hg1
            by_cases h8z : z1 = 8
            · skip
              subst h8z
              go_upto_region 15 with fail
              obtain ⟨⟨n1, n2, n3⟩, hn⟩ : ∃ r, rdM z2 z3 8 = r := ⟨_, rfl⟩
              have hyl := rdM_len1 z2 z3 8
              rw [show ((8 : Nat) : Int) = 8 from rfl, hn] at hyl
              simp only at hyl
              have Hn := Lib.hid hn; have HnL := Lib.hid hyl
              clear hn hyl
              refine wp_plan (.t 0 (.t 1 (.t 2 (.u 3 (.u 4 .done))))) (fun y => True) (by kernel_rfl) (by kernel_rfl) (by kernel_rfl) (fun c a d v w h => by cases d <;> exact h) trivial ?_
              haveI hne : Nonempty (In fun y => True) := ⟨⟨w, trivial⟩⟩
              replace HB := Lib.hid HB.out.drew
              replace HRD := Lib.hid (HRD.out.to (Below.refl _ _).drew)
              replace HR : Hid (u4.drew.heap[g]? = some (.cells (row0 0).toArray 32 (0, 0))) := HR
              replace H0 : Hid (u4.drew.heap[g0]? = some (.cells rowZ.toArray 32 (0, 0))) := H0
              generalize u4.drew = u5 at HB HRD HR H0 ⊢
              repeat (refine plan_t (by rfl) ?_; (first | go_big_quiet_skip | (go_big_quiet_want; go_big_quiet_op; go_big_quiet_on)); refine wpQuiet_nil ?_)
              refine plan_us (by rfl) (by kernel_rfl) ?_
              intro K hK
              go_wp2_with fail
              have hb := rraw_any w u5 0 p z2 z3 8 (by omega) HRD.out
              rw [Hn.out] at hb
              refine Calls.mono hb ?_
              clear hb
              rintro e u6 ⟨b, m, cb, rfl, hm, hI, hR, hg1, hlo⟩
              replace HR := Lib.hid (grown_row hg1 (by intro e; injection e with e; exact hgp e) HR.out)
              replace H0 := Lib.hid (grown_row hg1 (by intro e; injection e with e; omega) H0.out)
              replace HB := Lib.hid (HB.out.grown hg1 HB.out.size (by intro k hk; injection hk with hk; omega))
              replace HRD := Lib.hid hR
              have hm8 : m ≤ 8 := by have h1 : n1.length = m := hI.1; have := HnL.out; omega
              have HCP := Lib.hid (ints_copy hI 8 hm8)
              have HFIT : Hid (1 + (n1.map (Value.int .u8)).length ≤ (row0 0).length) := Lib.hid (by rw [List.length_map, show (row0 0).length = 20 from rfl]; have := HnL.out; omega)
              clear hR hg1 hI hlo hm hm8
              go_wp2_with fail
              refine ⟨trivial, ?_⟩
              refine plan_us (by rfl) (by kernel_rfl) ?_
              intro K hK
              refine wp_copy_grown _ _ 23 23 rfl 5 Try.underlying23 infoU8t _ _ _ _ _ _ rfl rfl g 1 (row0 0) 32 HR.out (n1.map (Value.int .u8)) HCP.out.1 (fun h => ⟨rfl, HCP.out.2 h⟩) HFIT.out ints_one ?_
              intro u7 hr6 hg2
              replace HR := Lib.hid hr6
              replace H0 := Lib.hid (grown_row hg2 (by intro e; injection e with e; omega) H0.out)
              replace HRD := Lib.hid (HRD.out.grownG hg2 hgp hgW)
              replace HB := Lib.hid (HB.out.grown hg2 HB.out.size (by intro k hk; injection hk with hk; omega))
              refine hK _ _ ⟨trivial, ?_⟩
              clear hK hr6 hg2 hne HCP HFIT
              show Exit.then _ _ _ _ _
              simp only [Act.put, List.setIfInBounds_toArray, List.set_cons_succ, List.set_cons_zero]
              have HNn : Hid (nameM v2 v3 = (true, n1, n2, n3)) := Lib.hid (by unfold nameM; rw [Hz.out, Hn.out]; rfl)
              have hl1 : (splice (row0 0) 1 (n1.map (Value.int .u8))).length = 20 := length_splice _ _ _ (by rw [List.length_map]; have := HnL.out; show 1 + n1.length ≤ 20; omega)
              have HL1 := Lib.hid hl1
              clear hl1
              go_wp2_with fail
              obtain ⟨⟨t1, t2, t3⟩, ht⟩ : ∃ r, byteM n2 n3 = r := ⟨_, rfl⟩
              have hb := rbyte_any w u7 0 p n2 n3 HRD.out
              rw [ht] at hb
              have Ht := Lib.hid ht
              clear ht
              refine Calls.mono hb ?_
              clear hb
              rintro e u8 ⟨rfl, hR, hg1⟩
              replace HR := Lib.hid (grown_row hg1 (by intro e; injection e with e; exact hgp e) HR.out)
              replace H0 := Lib.hid (grown_row hg1 (by intro e; injection e with e; omega) H0.out)
              replace HB := Lib.hid (HB.out.grown hg1 HB.out.size (by intro k hk; injection hk with hk; omega))
              replace HRD := Lib.hid hR
              clear hR hg1
              by_cases h8t : t1 = 8
              · skip
                subst h8t
                go_upto_region 17 with fail
                obtain ⟨⟨o1, o2, o3⟩, ho⟩ : ∃ r, rdM t2 t3 8 = r := ⟨_, rfl⟩
                have hyl := rdM_len1 t2 t3 8
                rw [show ((8 : Nat) : Int) = 8 from rfl, ho] at hyl
                simp only at hyl
                have Ho := Lib.hid ho; have HoL := Lib.hid hyl
                clear ho hyl
                refine wp_plan (.t 0 (.t 1 (.t 2 (.u 3 (.u 4 .done))))) (fun y => True) (by kernel_rfl) (by kernel_rfl) (by kernel_rfl) (fun c a d v w h => by cases d <;> exact h) trivial ?_
                haveI hne : Nonempty (In fun y => True) := ⟨⟨w, trivial⟩⟩
                replace HB := Lib.hid HB.out.drew
                replace HRD := Lib.hid (HRD.out.to (Below.refl _ _).drew)
                replace HR : Hid (u8.drew.heap[g]? = some (.cells (splice (row0 0) 1 (n1.map (Value.int .u8))).toArray 32 (0, 0))) := HR
                replace H0 : Hid (u8.drew.heap[g0]? = some (.cells rowZ.toArray 32 (0, 0))) := H0
                generalize u8.drew = u9 at HB HRD HR H0 ⊢
                repeat (refine plan_t (by rfl) ?_; (first | go_big_quiet_skip | (go_big_quiet_want; go_big_quiet_op; go_big_quiet_on)); refine wpQuiet_nil ?_)
                refine plan_us (by rfl) (by kernel_rfl) ?_
                intro K hK
                go_wp2_with fail
                have hb := rraw_any w u9 0 p t2 t3 8 (by omega) HRD.out
                rw [Ho.out] at hb
                refine Calls.mono hb ?_
                clear hb
                rintro e u10 ⟨b, m, cb, rfl, hm, hI, hR, hg1, hlo⟩
                replace HR := Lib.hid (grown_row hg1 (by intro e; injection e with e; exact hgp e) HR.out)
                replace H0 := Lib.hid (grown_row hg1 (by intro e; injection e with e; omega) H0.out)
                replace HB := Lib.hid (HB.out.grown hg1 HB.out.size (by intro k hk; injection hk with hk; omega))
                replace HRD := Lib.hid hR
                have hm8 : m ≤ 8 := by have h1 : o1.length = m := hI.1; have := HoL.out; omega
                have HCP := Lib.hid (ints_copy hI 8 hm8)
                have HFIT : Hid (9 + (o1.map (Value.int .u8)).length ≤ (splice (row0 0) 1 (n1.map (Value.int .u8))).length) := Lib.hid (by rw [List.length_map, HL1.out]; have := HoL.out; omega)
                clear hR hg1 hI hlo hm hm8
                go_wp2_with fail
                refine ⟨trivial, ?_⟩
                refine plan_us (by rfl) (by kernel_rfl) ?_
                intro K hK
                refine wp_copy_grown _ _ 23 23 rfl 5 Try.underlying23 infoU8t _ _ _ _ _ _ rfl rfl g 9 (splice (row0 0) 1 (n1.map (Value.int .u8))) 32 HR.out (o1.map (Value.int .u8)) HCP.out.1 (fun h => ⟨rfl, HCP.out.2 h⟩) HFIT.out ints_one ?_
                intro u11 hr6 hg2
                replace HR := Lib.hid hr6
                replace H0 := Lib.hid (grown_row hg2 (by intro e; injection e with e; omega) H0.out)
                replace HRD := Lib.hid (HRD.out.grownG hg2 hgp hgW)
                replace HB := Lib.hid (HB.out.grown hg2 HB.out.size (by intro k hk; injection hk with hk; omega))
                refine hK _ _ ⟨trivial, ?_⟩
                clear hK hr6 hg2 hne HCP HFIT
                show Exit.then _ _ _ _ _
                simp only [Act.put, List.setIfInBounds_toArray, List.set_cons_succ, List.set_cons_zero]
                have HNo : Hid (nameM n2 n3 = (true, o1, o2, o3)) := Lib.hid (by unfold nameM; rw [Ht.out, Ho.out]; rfl)
                have hl2 : (splice (splice (row0 0) 1 (n1.map (Value.int .u8))) 9 (o1.map (Value.int .u8))).length = 20 := (length_splice _ _ _ (by rw [List.length_map, HL1.out]; have := HoL.out; omega)).trans HL1.out
                have HL2 := Lib.hid hl2
                have hat : ∀ k, k = 0 ∨ 17 ≤ k → (splice (splice (row0 0) 1 (n1.map (Value.int .u8))) 9 (o1.map (Value.int .u8)))[k]? = (row0 0)[k]? := fun k hk => by
                  rw [splice_at _ _ _ (by rw [List.length_map, HL1.out]; have := HoL.out; omega) k (by rw [List.length_map]; have := HoL.out; omega), splice_at _ _ _ (by rw [List.length_map]; have := HnL.out; show 1 + n1.length ≤ 20; omega) k (by rw [List.length_map]; have := HnL.out; omega)]
                have c0 : u11.cell? ⟨g, 0, none⟩ = some (.int .i64 0) := row_cell HR.out 0 _ (by rw [List.getElem?_toArray, hat 0 (by omega)]; rfl)
                have c17 : u11.cell? ⟨g, 17, none⟩ = some (.slice none 0 0) := row_cell HR.out 17 _ (by rw [List.getElem?_toArray, hat 17 (by omega)]; rfl)
                have hat17 := hat 17 (by omega)
                have C17 : Hid ((splice (splice (row0 0) 1 (n1.map (Value.int .u8))) 9 (o1.map (Value.int .u8)))[17]? = some (.slice none 0 0)) := Lib.hid (by rw [hat17]; rfl)
                clear hat hl2 hat17
                clear c17
                go_wp2_with fail
                obtain ⟨⟨k1, k2, k3⟩, hk⟩ : ∃ r, textM o2 o3 = r := ⟨_, rfl⟩
                have HK := Lib.hid (show tokM 0 o2 o3 = (k1, k2, k3) from hk)
                have hb := rtext_any w u11 0 p o2 o3 HRD.out
                rw [hk] at hb
                clear hk
                have hsz := HB.out.size
                refine Calls.mono hb ?_
                clear hb
                rintro e u12 ⟨b, n, cb, rfl, hm2, hI2, hR, hg1, hlo⟩
                have HGX : Hid (∀ x, b = some x → x.block ≠ g ∧ x.block ≠ p ∧ x.block ≠ g0) := Lib.hid (fun x hx => ⟨by have := hlo x hx; have := lt_of_block HR.out; omega, by have := hlo x hx; have := HRD.out.lt; omega, by have := hlo x hx; have := lt_of_block H0.out; omega⟩)
                replace HR := Lib.hid (grown_row hg1 (by intro e; injection e with e; exact hgp e) HR.out)
                replace H0 := Lib.hid (grown_row hg1 (by intro e; injection e with e; omega) H0.out)
                replace HB := Lib.hid (HB.out.grown hg1 HB.out.size (by intro k hk; injection hk with hk; omega))
                replace HRD := Lib.hid hR
                have HI5 := Lib.hid hI2
                have HLO := Lib.hid (fun x hx => Nat.le_trans hsz (hlo x hx))
                have HKL : Hid (k1.length = n) := Lib.hid hI2.1
                have HM2 := Lib.hid hm2
                clear hI2 hR hg1 hlo c0 hsz hm2
                have f17 := row_free HR.out 17
                have c17 : ∃ v, u12.cell? ⟨g, 17, none⟩ = some v := ⟨_, row_cell HR.out 17 _ (by rw [List.getElem?_toArray]; exact List.getElem?_eq_getElem (by rw [HL2.out]; decide))⟩
                obtain ⟨v17, c17⟩ := c17
                have hA := ((At.base HR.out).set 17 (.slice b n cb)).conv (cs' := (lrow 0 n1 o1 (.slice b n cb)).toArray) (by unfold lrow; rw [List.setIfInBounds_toArray])
                replace HI5 := Lib.hid (HI5.out.grownL hA.rest (fun h0 x hx e => by injection e with e; exact (HGX.out x hx).1 e))
                replace HR := Lib.hid hA.row
                replace H0 := Lib.hid (grown_row hA.rest (by intro e; injection e with e; omega) H0.out)
                replace HB := Lib.hid (HB.out.grown hA.rest HB.out.size (by intro k hk; injection hk with hk; omega))
                replace HRD := Lib.hid (HRD.out.grownG hA.rest hgp hgW)
                clear hA
                go_upto_region 20 with fail
                clear c17 f17
                generalize u12.setCell ⟨g, 17, none⟩ (.slice b n cb) = u13 at HI5 HR HB HRD H0 ⊢
                clear C17
                have c17 : u13.cell? ⟨g, 17, none⟩ = some (.slice b n cb) := row_cell HR.out 17 _ (by rw [List.getElem?_toArray]; unfold lrow; rw [List.getElem?_set_self (by rw [HL2.out]; decide)])
                go_upto_region 21 with fail
                clear c17
                by_cases h32 : n ≤ 32
                · have h32' : ((n : Nat) : Int) ≤ 32 := by omega
                  rw [decide_eq_true h32']
                  clear h32'
                  go_wp2_with fail
                  obtain ⟨⟨m1, m2, m3⟩, hN⟩ : ∃ r, varM k2 k3 = r := ⟨_, rfl⟩
                  have hb := rvar_any w u13 0 p k2 k3 HRD.out
                  rw [hN] at hb
                  have HN := Lib.hid hN
                  clear hN
                  refine Calls.mono hb ?_
                  clear hb
                  rintro e u14 ⟨rfl, hR, hg1⟩
                  replace HR := Lib.hid (grown_row hg1 (by intro e; injection e with e; exact hgp e) HR.out)
                  replace H0 := Lib.hid (grown_row hg1 (by intro e; injection e with e; omega) H0.out)
                  replace HB := Lib.hid (HB.out.grown hg1 HB.out.size (by intro k hk; injection hk with hk; omega))
                  replace HRD := Lib.hid hR
                  replace HI5 := Lib.hid (HI5.out.grownL hg1 (fun h0 x hx e => by injection e with e; exact (HGX.out x hx).2.1 e))
                  clear hR hg1
                  have HG := Lib.hid (lg_some HQ.out (by decide) HV.out HNn.out HNo.out HK.out (by rw [HKL.out]; exact h32) HN.out)
                  have hgrl : m2.length ≤ len := by have h := lg_lenr HG.out; simp only at h; have := HLX.out; omega
                  obtain ⟨ra, rc, hc0, hc1⟩ := HRD.out.cells
                  cases m3 with
                  | true =>
                    go_wp2_with (first | (refine wpList_store_row rfl 32 _ _ rfl g0 rfl rowZ rowZ rfl 32 H0.out rfl rfl rowZ_one ?_; intro wz hz hgz) | fail)
                    (try simp only [Exit.inBlock, Exit.then])
                    refine bodyPost_ret (results_cell4 rfl _ _ g0 rfl rowZ _ _ hz Try.underlying32 rfl rfl) rfl ?_
                    rw [← HQQ.out]
                    exact ⟨HB.out.grown hgz HB.out.size (by intro k hk; injection hk with hk; omega), .inl ⟨par_l_x HX.out h128 HG.out (.inl rfl), rfl⟩⟩
                  | false =>
                    by_cases hgt : ((m2.length : Nat) : Int) < m1
                    · skip
                      go_wp2_with (first | (refine wpList_store_row rfl 32 _ _ rfl g0 rfl rowZ rowZ rfl 32 H0.out rfl rfl rowZ_one ?_; intro wz hz hgz) | fail)
                      (try simp only [Exit.inBlock, Exit.then])
                      refine bodyPost_ret (results_cell4 rfl _ _ g0 rfl rowZ _ _ hz Try.underlying32 rfl rfl) rfl ?_
                      rw [← HQQ.out]
                      exact ⟨HB.out.grown hgz HB.out.size (by intro k hk; injection hk with hk; omega), .inl ⟨par_l_x HX.out h128 HG.out (.inr (.inr hgt)), rfl⟩⟩
                    · by_cases h12 : m1 < 12
                      · skip
                        go_wp2_with (first | (refine wpList_store_row rfl 32 _ _ rfl g0 rfl rowZ rowZ rfl 32 H0.out rfl rfl rowZ_one ?_; intro wz hz hgz) | fail)
                        (try simp only [Exit.inBlock, Exit.then])
                        refine bodyPost_ret (results_cell4 rfl _ _ g0 rfl rowZ _ _ hz Try.underlying32 rfl rfl) rfl ?_
                        rw [← HQQ.out]
                        exact ⟨HB.out.grown hgz HB.out.size (by intro k hk; injection hk with hk; omega), .inl ⟨par_l_x HX.out h128 HG.out (.inr (.inl h12)), rfl⟩⟩
                      · have hl8 := lg_lens HG.out rfl
                        have hrow := HR.out
                        simp only at hl8
                        rw [← HKL.out] at hrow
                        rw [lrow_row 0 n1 o1 k1 b cb hl8.1 hl8.2] at hrow
                        have HONE := Lib.hid (row_one ⟨0, n1, o1, k1, 1, false⟩ b cb)
                        have HRL := Lib.hid (row_len ⟨0, n1, o1, k1, 1, false⟩ b cb hl8.1 hl8.2)
                        obtain ⟨RW, hRW⟩ : ∃ RW, (Hd.row ⟨0, n1, o1, k1, 1, false⟩ b cb) = RW := ⟨_, rfl⟩
                        rw [hRW] at hrow HONE HRL
                        have HRW := Lib.hid hRW; have HROW := Lib.hid hrow
                        clear hrow hRW HR
                        go_wp2_with (first | (refine wpList_load_mid rfl 32 _ rfl g 0 rfl _ _ (rng20 HROW.out) Try.underlying32 rfl (by rw [HRL.out]; rfl) ?_) | (refine wpList_store_row rfl 32 _ _ rfl g0 rfl RW rowZ rfl 32 H0.out (by rw [HRL.out]; rfl) (by rw [HRL.out]; rfl) HONE.out ?_; intro wz hz hgz) | fail)
                        (try simp only [Exit.inBlock, Exit.then])
                        refine bodyPost_ret (results_cell4 rfl _ _ g0 rfl RW _ _ hz Try.underlying32 rfl (by rw [HRL.out]; rfl)) rfl ?_
                        rw [← HQQ.out]
                        refine ⟨HB.out.grown hgz HB.out.size (by intro k hk; injection hk with hk; omega), .inr ⟨_, _, _, b, cb, par_l_ok HX.out h128 (by omega) HG.out (by simp <;> omega), ?_, (by simp only; rw [HKL.out]; exact HI5.out.grown hgz (fun x hx e => by injection e with e; exact (HGX.out x hx).2.2 e)), (by simp only; rw [HKL.out]; exact HM2.out), HLO.out⟩⟩
                        (try simp only)
                        rw [show Hd.val ⟨0, n1, o1, k1, 1, false⟩ b cb = .agg RW.toArray by unfold Hd.val; rw [HRW.out]]
                        exact tuple4_eq (by rw [HLB.out]; omega) (by rw [HLB.out]; omega)
                · have h32' : ¬ ((n : Nat) : Int) ≤ 32 := by omega
                  rw [decide_eq_false h32']
                  clear h32'
                  have HNO : Hid (parM bs = none) := Lib.hid (par_l_no HX.out h128 (lg_no (by rw [HQ.out, HV.out]; simp only; rw [HNn.out]; simp only; rw [HNo.out]; simp only; rw [HK.out]; simp only; rw [HKL.out]; exact fun h => h32 h.2.2.2.2)))
                  go_wp2_with fail
                  obtain ⟨⟨m1, m2, m3⟩, hN⟩ : ∃ r, varM k2 k3 = r := ⟨_, rfl⟩
                  have hb := rvar_any w u13 0 p k2 k3 HRD.out
                  rw [hN] at hb
                  have HN := Lib.hid hN
                  clear hN
                  refine Calls.mono hb ?_
                  clear hb
                  rintro e u15 ⟨rfl, hR, hg1⟩
                  replace HR := Lib.hid (grown_row hg1 (by intro e; injection e with e; exact hgp e) HR.out)
                  replace H0 := Lib.hid (grown_row hg1 (by intro e; injection e with e; omega) H0.out)
                  replace HB := Lib.hid (HB.out.grown hg1 HB.out.size (by intro k hk; injection hk with hk; omega))
                  replace HRD := Lib.hid hR
                  clear hR hg1
                  go_wp2_with (first | (refine wpList_store_row rfl 32 _ _ rfl g0 rfl rowZ rowZ rfl 32 H0.out rfl rfl rowZ_one ?_; intro wz hz hgz) | fail)
                  (try simp only [Exit.inBlock, Exit.then])
                  refine bodyPost_ret (results_cell4 rfl _ _ g0 rfl rowZ _ _ hz Try.underlying32 rfl rfl) rfl ?_
                  rw [← HQQ.out]
                  exact ⟨HB.out.grown hgz HB.out.size (by intro k hk; injection hk with hk; omega), .inl ⟨HNO.out, rfl⟩⟩
              · skip
                have hz8 : (t1 == 8) = false := by rw [int_beq]; exact decide_eq_false h8t
                have HNO : Hid (parM bs = none) := Lib.hid (par_l_no HX.out h128 (lg_no (by
                  rw [HV.out]; simp only; rw [HNn.out]; refine fun h => ?_; have h := h.2.2.2.1; revert h; simp only; unfold nameM; rw [Ht.out]
                  exact fun h => h8t (of_decide_eq_true h))))
                go_upto_region 17 with fail
                clear hz8
                obtain ⟨⟨o1, o2, o3⟩, ho⟩ : ∃ r, rdM t2 t3 8 = r := ⟨_, rfl⟩
                have hyl := rdM_len1 t2 t3 8
                rw [show ((8 : Nat) : Int) = 8 from rfl, ho] at hyl
                simp only at hyl
                have Ho := Lib.hid ho; have HoL := Lib.hid hyl
                clear ho hyl
                refine wp_plan (.t 0 (.t 1 (.t 2 (.u 3 (.u 4 .done))))) (fun y => True) (by kernel_rfl) (by kernel_rfl) (by kernel_rfl) (fun c a d v w h => by cases d <;> exact h) trivial ?_
                haveI hne : Nonempty (In fun y => True) := ⟨⟨w, trivial⟩⟩
                replace HB := Lib.hid HB.out.drew
                replace HRD := Lib.hid (HRD.out.to (Below.refl _ _).drew)
                replace HR : Hid (u8.drew.heap[g]? = some (.cells (splice (row0 0) 1 (n1.map (Value.int .u8))).toArray 32 (0, 0))) := HR
                replace H0 : Hid (u8.drew.heap[g0]? = some (.cells rowZ.toArray 32 (0, 0))) := H0
                generalize u8.drew = u16 at HB HRD HR H0 ⊢
                repeat (refine plan_t (by rfl) ?_; (first | go_big_quiet_skip | (go_big_quiet_want; go_big_quiet_op; go_big_quiet_on)); refine wpQuiet_nil ?_)
                refine plan_us (by rfl) (by kernel_rfl) ?_
                intro K hK
                go_wp2_with fail
                have hb := rraw_any w u16 0 p t2 t3 8 (by omega) HRD.out
                rw [Ho.out] at hb
                refine Calls.mono hb ?_
                clear hb
                rintro e u17 ⟨b, m, cb, rfl, hm, hI, hR, hg1, hlo⟩
                replace HR := Lib.hid (grown_row hg1 (by intro e; injection e with e; exact hgp e) HR.out)
                replace H0 := Lib.hid (grown_row hg1 (by intro e; injection e with e; omega) H0.out)
                replace HB := Lib.hid (HB.out.grown hg1 HB.out.size (by intro k hk; injection hk with hk; omega))
                replace HRD := Lib.hid hR
                have hm8 : m ≤ 8 := by have h1 : o1.length = m := hI.1; have := HoL.out; omega
                have HCP := Lib.hid (ints_copy hI 8 hm8)
                have HFIT : Hid (9 + (o1.map (Value.int .u8)).length ≤ (splice (row0 0) 1 (n1.map (Value.int .u8))).length) := Lib.hid (by rw [List.length_map, HL1.out]; have := HoL.out; omega)
                clear hR hg1 hI hlo hm hm8
                go_wp2_with fail
                refine ⟨trivial, ?_⟩
                refine plan_us (by rfl) (by kernel_rfl) ?_
                intro K hK
                refine wp_copy_grown _ _ 23 23 rfl 5 Try.underlying23 infoU8t _ _ _ _ _ _ rfl rfl g 9 (splice (row0 0) 1 (n1.map (Value.int .u8))) 32 HR.out (o1.map (Value.int .u8)) HCP.out.1 (fun h => ⟨rfl, HCP.out.2 h⟩) HFIT.out ints_one ?_
                intro u18 hr6 hg2
                replace HR := Lib.hid hr6
                replace H0 := Lib.hid (grown_row hg2 (by intro e; injection e with e; omega) H0.out)
                replace HRD := Lib.hid (HRD.out.grownG hg2 hgp hgW)
                replace HB := Lib.hid (HB.out.grown hg2 HB.out.size (by intro k hk; injection hk with hk; omega))
                refine hK _ _ ⟨trivial, ?_⟩
                clear hK hr6 hg2 hne HCP HFIT
                show Exit.then _ _ _ _ _
                simp only [Act.put, List.setIfInBounds_toArray, List.set_cons_succ, List.set_cons_zero]
                have hl2 : (splice (splice (row0 0) 1 (n1.map (Value.int .u8))) 9 (o1.map (Value.int .u8))).length = 20 := (length_splice _ _ _ (by rw [List.length_map, HL1.out]; have := HoL.out; omega)).trans HL1.out
                have HL2 := Lib.hid hl2
                have hat : ∀ k, k = 0 ∨ 17 ≤ k → (splice (splice (row0 0) 1 (n1.map (Value.int .u8))) 9 (o1.map (Value.int .u8)))[k]? = (row0 0)[k]? := fun k hk => by
                  rw [splice_at _ _ _ (by rw [List.length_map, HL1.out]; have := HoL.out; omega) k (by rw [List.length_map]; have := HoL.out; omega), splice_at _ _ _ (by rw [List.length_map]; have := HnL.out; show 1 + n1.length ≤ 20; omega) k (by rw [List.length_map]; have := HnL.out; omega)]
                have c0 : u18.cell? ⟨g, 0, none⟩ = some (.int .i64 0) := row_cell HR.out 0 _ (by rw [List.getElem?_toArray, hat 0 (by omega)]; rfl)
                have c17 : u18.cell? ⟨g, 17, none⟩ = some (.slice none 0 0) := row_cell HR.out 17 _ (by rw [List.getElem?_toArray, hat 17 (by omega)]; rfl)
                have hat17 := hat 17 (by omega)
                have C17 : Hid ((splice (splice (row0 0) 1 (n1.map (Value.int .u8))) 9 (o1.map (Value.int .u8)))[17]? = some (.slice none 0 0)) := Lib.hid (by rw [hat17]; rfl)
                clear hat hl2 hat17
                clear c17
                go_wp2_with fail
                obtain ⟨⟨k1, k2, k3⟩, hk⟩ : ∃ r, textM o2 o3 = r := ⟨_, rfl⟩
                have HK := Lib.hid (show tokM 0 o2 o3 = (k1, k2, k3) from hk)
                have hb := rtext_any w u18 0 p o2 o3 HRD.out
                rw [hk] at hb
                clear hk
                have hsz := HB.out.size
                refine Calls.mono hb ?_
                clear hb
                rintro e u19 ⟨b, n, cb, rfl, hm2, hI2, hR, hg1, hlo⟩
                have HGX : Hid (∀ x, b = some x → x.block ≠ g ∧ x.block ≠ p ∧ x.block ≠ g0) := Lib.hid (fun x hx => ⟨by have := hlo x hx; have := lt_of_block HR.out; omega, by have := hlo x hx; have := HRD.out.lt; omega, by have := hlo x hx; have := lt_of_block H0.out; omega⟩)
                replace HR := Lib.hid (grown_row hg1 (by intro e; injection e with e; exact hgp e) HR.out)
                replace H0 := Lib.hid (grown_row hg1 (by intro e; injection e with e; omega) H0.out)
                replace HB := Lib.hid (HB.out.grown hg1 HB.out.size (by intro k hk; injection hk with hk; omega))
                replace HRD := Lib.hid hR
                have HI5 := Lib.hid hI2
                have HLO := Lib.hid (fun x hx => Nat.le_trans hsz (hlo x hx))
                have HKL : Hid (k1.length = n) := Lib.hid hI2.1
                have HM2 := Lib.hid hm2
                clear hI2 hR hg1 hlo c0 hsz hm2
                have f17 := row_free HR.out 17
                have c17 : ∃ v, u19.cell? ⟨g, 17, none⟩ = some v := ⟨_, row_cell HR.out 17 _ (by rw [List.getElem?_toArray]; exact List.getElem?_eq_getElem (by rw [HL2.out]; decide))⟩
                obtain ⟨v17, c17⟩ := c17
                have hA := ((At.base HR.out).set 17 (.slice b n cb)).conv (cs' := (lrow 0 n1 o1 (.slice b n cb)).toArray) (by unfold lrow; rw [List.setIfInBounds_toArray])
                replace HI5 := Lib.hid (HI5.out.grownL hA.rest (fun h0 x hx e => by injection e with e; exact (HGX.out x hx).1 e))
                replace HR := Lib.hid hA.row
                replace H0 := Lib.hid (grown_row hA.rest (by intro e; injection e with e; omega) H0.out)
                replace HB := Lib.hid (HB.out.grown hA.rest HB.out.size (by intro k hk; injection hk with hk; omega))
                replace HRD := Lib.hid (HRD.out.grownG hA.rest hgp hgW)
                clear hA
                go_upto_region 20 with fail
                clear c17 f17
                generalize u19.setCell ⟨g, 17, none⟩ (.slice b n cb) = u20 at HI5 HR HB HRD H0 ⊢
                clear C17
                go_upto_region 21 with fail
                go_wp2_with fail
                obtain ⟨⟨m1, m2, m3⟩, hN⟩ : ∃ r, varM k2 k3 = r := ⟨_, rfl⟩
                have hb := rvar_any w u20 0 p k2 k3 HRD.out
                rw [hN] at hb
                have HN := Lib.hid hN
                clear hN
                refine Calls.mono hb ?_
                clear hb
                rintro e u21 ⟨rfl, hR, hg1⟩
                replace HR := Lib.hid (grown_row hg1 (by intro e; injection e with e; exact hgp e) HR.out)
                replace H0 := Lib.hid (grown_row hg1 (by intro e; injection e with e; omega) H0.out)
                replace HB := Lib.hid (HB.out.grown hg1 HB.out.size (by intro k hk; injection hk with hk; omega))
                replace HRD := Lib.hid hR
                clear hR hg1
                go_wp2_with (first | (refine wpList_store_row rfl 32 _ _ rfl g0 rfl rowZ rowZ rfl 32 H0.out rfl rfl rowZ_one ?_; intro wz hz hgz) | fail)
                (try simp only [Exit.inBlock, Exit.then])
                refine bodyPost_ret (results_cell4 rfl _ _ g0 rfl rowZ _ _ hz Try.underlying32 rfl rfl) rfl ?_
                rw [← HQQ.out]
                exact ⟨HB.out.grown hgz HB.out.size (by intro k hk; injection hk with hk; omega), .inl ⟨HNO.out, rfl⟩⟩
            · skip
              have hz8 : (z1 == 8) = false := by rw [int_beq]; exact decide_eq_false h8z
              have HNO : Hid (parM bs = none) := Lib.hid (par_l_no HX.out h128 (lg_no (by
                rw [HV.out]; refine fun h => ?_; have h := h.2.2.1; revert h; unfold nameM; rw [Hz.out]
                exact fun h => h8z (of_decide_eq_true h))))
              go_upto_region 15 with fail
              clear hz8
              obtain ⟨⟨n1, n2, n3⟩, hn⟩ : ∃ r, rdM z2 z3 8 = r := ⟨_, rfl⟩
              have hyl := rdM_len1 z2 z3 8
              rw [show ((8 : Nat) : Int) = 8 from rfl, hn] at hyl
              simp only at hyl
              have Hn := Lib.hid hn; have HnL := Lib.hid hyl
              clear hn hyl
              refine wp_plan (.t 0 (.t 1 (.t 2 (.u 3 (.u 4 .done))))) (fun y => True) (by kernel_rfl) (by kernel_rfl) (by kernel_rfl) (fun c a d v w h => by cases d <;> exact h) trivial ?_
              haveI hne : Nonempty (In fun y => True) := ⟨⟨w, trivial⟩⟩
              replace HB := Lib.hid HB.out.drew
              replace HRD := Lib.hid (HRD.out.to (Below.refl _ _).drew)
              replace HR : Hid (u4.drew.heap[g]? = some (.cells (row0 0).toArray 32 (0, 0))) := HR
              replace H0 : Hid (u4.drew.heap[g0]? = some (.cells rowZ.toArray 32 (0, 0))) := H0
              generalize u4.drew = u22 at HB HRD HR H0 ⊢
              repeat (refine plan_t (by rfl) ?_; (first | go_big_quiet_skip | (go_big_quiet_want; go_big_quiet_op; go_big_quiet_on)); refine wpQuiet_nil ?_)
              refine plan_us (by rfl) (by kernel_rfl) ?_
              intro K hK
              go_wp2_with fail
              have hb := rraw_any w u22 0 p z2 z3 8 (by omega) HRD.out
              rw [Hn.out] at hb
              refine Calls.mono hb ?_
              clear hb
              rintro e u23 ⟨b, m, cb, rfl, hm, hI, hR, hg1, hlo⟩
              replace HR := Lib.hid (grown_row hg1 (by intro e; injection e with e; exact hgp e) HR.out)
              replace H0 := Lib.hid (grown_row hg1 (by intro e; injection e with e; omega) H0.out)
              replace HB := Lib.hid (HB.out.grown hg1 HB.out.size (by intro k hk; injection hk with hk; omega))
              replace HRD := Lib.hid hR
              have hm8 : m ≤ 8 := by have h1 : n1.length = m := hI.1; have := HnL.out; omega
              have HCP := Lib.hid (ints_copy hI 8 hm8)
              have HFIT : Hid (1 + (n1.map (Value.int .u8)).length ≤ (row0 0).length) := Lib.hid (by rw [List.length_map, show (row0 0).length = 20 from rfl]; have := HnL.out; omega)
              clear hR hg1 hI hlo hm hm8
              go_wp2_with fail
              refine ⟨trivial, ?_⟩
              refine plan_us (by rfl) (by kernel_rfl) ?_
              intro K hK
              refine wp_copy_grown _ _ 23 23 rfl 5 Try.underlying23 infoU8t _ _ _ _ _ _ rfl rfl g 1 (row0 0) 32 HR.out (n1.map (Value.int .u8)) HCP.out.1 (fun h => ⟨rfl, HCP.out.2 h⟩) HFIT.out ints_one ?_
              intro u24 hr6 hg2
              replace HR := Lib.hid hr6
              replace H0 := Lib.hid (grown_row hg2 (by intro e; injection e with e; omega) H0.out)
              replace HRD := Lib.hid (HRD.out.grownG hg2 hgp hgW)
              replace HB := Lib.hid (HB.out.grown hg2 HB.out.size (by intro k hk; injection hk with hk; omega))
              refine hK _ _ ⟨trivial, ?_⟩
              clear hK hr6 hg2 hne HCP HFIT
              show Exit.then _ _ _ _ _
              simp only [Act.put, List.setIfInBounds_toArray, List.set_cons_succ, List.set_cons_zero]
              have hl1 : (splice (row0 0) 1 (n1.map (Value.int .u8))).length = 20 := length_splice _ _ _ (by rw [List.length_map]; have := HnL.out; show 1 + n1.length ≤ 20; omega)
              have HL1 := Lib.hid hl1
              clear hl1
              go_wp2_with fail
              obtain ⟨⟨t1, t2, t3⟩, ht⟩ : ∃ r, byteM n2 n3 = r := ⟨_, rfl⟩
              have hb := rbyte_any w u24 0 p n2 n3 HRD.out
              rw [ht] at hb
              have Ht := Lib.hid ht
              clear ht
              refine Calls.mono hb ?_
              clear hb
              rintro e u25 ⟨rfl, hR, hg1⟩
              replace HR := Lib.hid (grown_row hg1 (by intro e; injection e with e; exact hgp e) HR.out)
              replace H0 := Lib.hid (grown_row hg1 (by intro e; injection e with e; omega) H0.out)
              replace HB := Lib.hid (HB.out.grown hg1 HB.out.size (by intro k hk; injection hk with hk; omega))
              replace HRD := Lib.hid hR
              clear hR hg1
              by_cases h8t : t1 = 8
              · skip
                subst h8t
                go_upto_region 17 with fail
                obtain ⟨⟨o1, o2, o3⟩, ho⟩ : ∃ r, rdM t2 t3 8 = r := ⟨_, rfl⟩
                have hyl := rdM_len1 t2 t3 8
                rw [show ((8 : Nat) : Int) = 8 from rfl, ho] at hyl
                simp only at hyl
                have Ho := Lib.hid ho; have HoL := Lib.hid hyl
                clear ho hyl
                refine wp_plan (.t 0 (.t 1 (.t 2 (.u 3 (.u 4 .done))))) (fun y => True) (by kernel_rfl) (by kernel_rfl) (by kernel_rfl) (fun c a d v w h => by cases d <;> exact h) trivial ?_
                haveI hne : Nonempty (In fun y => True) := ⟨⟨w, trivial⟩⟩
                replace HB := Lib.hid HB.out.drew
                replace HRD := Lib.hid (HRD.out.to (Below.refl _ _).drew)
                replace HR : Hid (u25.drew.heap[g]? = some (.cells (splice (row0 0) 1 (n1.map (Value.int .u8))).toArray 32 (0, 0))) := HR
                replace H0 : Hid (u25.drew.heap[g0]? = some (.cells rowZ.toArray 32 (0, 0))) := H0
                generalize u25.drew = u26 at HB HRD HR H0 ⊢
                repeat (refine plan_t (by rfl) ?_; (first | go_big_quiet_skip | (go_big_quiet_want; go_big_quiet_op; go_big_quiet_on)); refine wpQuiet_nil ?_)
                refine plan_us (by rfl) (by kernel_rfl) ?_
                intro K hK
                go_wp2_with fail
                have hb := rraw_any w u26 0 p t2 t3 8 (by omega) HRD.out
                rw [Ho.out] at hb
                refine Calls.mono hb ?_
                clear hb
                rintro e u27 ⟨b, m, cb, rfl, hm, hI, hR, hg1, hlo⟩
                replace HR := Lib.hid (grown_row hg1 (by intro e; injection e with e; exact hgp e) HR.out)
                replace H0 := Lib.hid (grown_row hg1 (by intro e; injection e with e; omega) H0.out)
                replace HB := Lib.hid (HB.out.grown hg1 HB.out.size (by intro k hk; injection hk with hk; omega))
                replace HRD := Lib.hid hR
                have hm8 : m ≤ 8 := by have h1 : o1.length = m := hI.1; have := HoL.out; omega
                have HCP := Lib.hid (ints_copy hI 8 hm8)
                have HFIT : Hid (9 + (o1.map (Value.int .u8)).length ≤ (splice (row0 0) 1 (n1.map (Value.int .u8))).length) := Lib.hid (by rw [List.length_map, HL1.out]; have := HoL.out; omega)
                clear hR hg1 hI hlo hm hm8
                go_wp2_with fail
                refine ⟨trivial, ?_⟩
                refine plan_us (by rfl) (by kernel_rfl) ?_
                intro K hK
                refine wp_copy_grown _ _ 23 23 rfl 5 Try.underlying23 infoU8t _ _ _ _ _ _ rfl rfl g 9 (splice (row0 0) 1 (n1.map (Value.int .u8))) 32 HR.out (o1.map (Value.int .u8)) HCP.out.1 (fun h => ⟨rfl, HCP.out.2 h⟩) HFIT.out ints_one ?_
                intro u28 hr6 hg2
                replace HR := Lib.hid hr6
                replace H0 := Lib.hid (grown_row hg2 (by intro e; injection e with e; omega) H0.out)
                replace HRD := Lib.hid (HRD.out.grownG hg2 hgp hgW)
                replace HB := Lib.hid (HB.out.grown hg2 HB.out.size (by intro k hk; injection hk with hk; omega))
                refine hK _ _ ⟨trivial, ?_⟩
                clear hK hr6 hg2 hne HCP HFIT
                show Exit.then _ _ _ _ _
                simp only [Act.put, List.setIfInBounds_toArray, List.set_cons_succ, List.set_cons_zero]
                have hl2 : (splice (splice (row0 0) 1 (n1.map (Value.int .u8))) 9 (o1.map (Value.int .u8))).length = 20 := (length_splice _ _ _ (by rw [List.length_map, HL1.out]; have := HoL.out; omega)).trans HL1.out
                have HL2 := Lib.hid hl2
                have hat : ∀ k, k = 0 ∨ 17 ≤ k → (splice (splice (row0 0) 1 (n1.map (Value.int .u8))) 9 (o1.map (Value.int .u8)))[k]? = (row0 0)[k]? := fun k hk => by
                  rw [splice_at _ _ _ (by rw [List.length_map, HL1.out]; have := HoL.out; omega) k (by rw [List.length_map]; have := HoL.out; omega), splice_at _ _ _ (by rw [List.length_map]; have := HnL.out; show 1 + n1.length ≤ 20; omega) k (by rw [List.length_map]; have := HnL.out; omega)]
                have c0 : u28.cell? ⟨g, 0, none⟩ = some (.int .i64 0) := row_cell HR.out 0 _ (by rw [List.getElem?_toArray, hat 0 (by omega)]; rfl)
                have c17 : u28.cell? ⟨g, 17, none⟩ = some (.slice none 0 0) := row_cell HR.out 17 _ (by rw [List.getElem?_toArray, hat 17 (by omega)]; rfl)
                have hat17 := hat 17 (by omega)
                have C17 : Hid ((splice (splice (row0 0) 1 (n1.map (Value.int .u8))) 9 (o1.map (Value.int .u8)))[17]? = some (.slice none 0 0)) := Lib.hid (by rw [hat17]; rfl)
                clear hat hl2 hat17
                clear c17
                go_wp2_with fail
                obtain ⟨⟨k1, k2, k3⟩, hk⟩ : ∃ r, textM o2 o3 = r := ⟨_, rfl⟩
                have HK := Lib.hid (show tokM 0 o2 o3 = (k1, k2, k3) from hk)
                have hb := rtext_any w u28 0 p o2 o3 HRD.out
                rw [hk] at hb
                clear hk
                have hsz := HB.out.size
                refine Calls.mono hb ?_
                clear hb
                rintro e u29 ⟨b, n, cb, rfl, hm2, hI2, hR, hg1, hlo⟩
                have HGX : Hid (∀ x, b = some x → x.block ≠ g ∧ x.block ≠ p ∧ x.block ≠ g0) := Lib.hid (fun x hx => ⟨by have := hlo x hx; have := lt_of_block HR.out; omega, by have := hlo x hx; have := HRD.out.lt; omega, by have := hlo x hx; have := lt_of_block H0.out; omega⟩)
                replace HR := Lib.hid (grown_row hg1 (by intro e; injection e with e; exact hgp e) HR.out)
                replace H0 := Lib.hid (grown_row hg1 (by intro e; injection e with e; omega) H0.out)
                replace HB := Lib.hid (HB.out.grown hg1 HB.out.size (by intro k hk; injection hk with hk; omega))
                replace HRD := Lib.hid hR
                have HI5 := Lib.hid hI2
                have HLO := Lib.hid (fun x hx => Nat.le_trans hsz (hlo x hx))
                have HKL : Hid (k1.length = n) := Lib.hid hI2.1
                have HM2 := Lib.hid hm2
                clear hI2 hR hg1 hlo c0 hsz hm2
                have f17 := row_free HR.out 17
                have c17 : ∃ v, u29.cell? ⟨g, 17, none⟩ = some v := ⟨_, row_cell HR.out 17 _ (by rw [List.getElem?_toArray]; exact List.getElem?_eq_getElem (by rw [HL2.out]; decide))⟩
                obtain ⟨v17, c17⟩ := c17
                have hA := ((At.base HR.out).set 17 (.slice b n cb)).conv (cs' := (lrow 0 n1 o1 (.slice b n cb)).toArray) (by unfold lrow; rw [List.setIfInBounds_toArray])
                replace HI5 := Lib.hid (HI5.out.grownL hA.rest (fun h0 x hx e => by injection e with e; exact (HGX.out x hx).1 e))
                replace HR := Lib.hid hA.row
                replace H0 := Lib.hid (grown_row hA.rest (by intro e; injection e with e; omega) H0.out)
                replace HB := Lib.hid (HB.out.grown hA.rest HB.out.size (by intro k hk; injection hk with hk; omega))
                replace HRD := Lib.hid (HRD.out.grownG hA.rest hgp hgW)
                clear hA
                go_upto_region 20 with fail
                clear c17 f17
                generalize u29.setCell ⟨g, 17, none⟩ (.slice b n cb) = u30 at HI5 HR HB HRD H0 ⊢
                clear C17
                go_upto_region 21 with fail
                go_wp2_with fail
                obtain ⟨⟨m1, m2, m3⟩, hN⟩ : ∃ r, varM k2 k3 = r := ⟨_, rfl⟩
                have hb := rvar_any w u30 0 p k2 k3 HRD.out
                rw [hN] at hb
                have HN := Lib.hid hN
                clear hN
                refine Calls.mono hb ?_
                clear hb
                rintro e u31 ⟨rfl, hR, hg1⟩
                replace HR := Lib.hid (grown_row hg1 (by intro e; injection e with e; exact hgp e) HR.out)
                replace H0 := Lib.hid (grown_row hg1 (by intro e; injection e with e; omega) H0.out)
                replace HB := Lib.hid (HB.out.grown hg1 HB.out.size (by intro k hk; injection hk with hk; omega))
                replace HRD := Lib.hid hR
                clear hR hg1
                go_wp2_with (first | (refine wpList_store_row rfl 32 _ _ rfl g0 rfl rowZ rowZ rfl 32 H0.out rfl rfl rowZ_one ?_; intro wz hz hgz) | fail)
                (try simp only [Exit.inBlock, Exit.then])
                refine bodyPost_ret (results_cell4 rfl _ _ g0 rfl rowZ _ _ hz Try.underlying32 rfl rfl) rfl ?_
                rw [← HQQ.out]
                exact ⟨HB.out.grown hgz HB.out.size (by intro k hk; injection hk with hk; omega), .inl ⟨HNO.out, rfl⟩⟩
              · skip
                have hz8 : (t1 == 8) = false := by rw [int_beq]; exact decide_eq_false h8t
                go_upto_region 17 with fail
                clear hz8
                obtain ⟨⟨o1, o2, o3⟩, ho⟩ : ∃ r, rdM t2 t3 8 = r := ⟨_, rfl⟩
                have hyl := rdM_len1 t2 t3 8
                rw [show ((8 : Nat) : Int) = 8 from rfl, ho] at hyl
                simp only at hyl
                have Ho := Lib.hid ho; have HoL := Lib.hid hyl
                clear ho hyl
                refine wp_plan (.t 0 (.t 1 (.t 2 (.u 3 (.u 4 .done))))) (fun y => True) (by kernel_rfl) (by kernel_rfl) (by kernel_rfl) (fun c a d v w h => by cases d <;> exact h) trivial ?_
                haveI hne : Nonempty (In fun y => True) := ⟨⟨w, trivial⟩⟩
                replace HB := Lib.hid HB.out.drew
                replace HRD := Lib.hid (HRD.out.to (Below.refl _ _).drew)
                replace HR : Hid (u25.drew.heap[g]? = some (.cells (splice (row0 0) 1 (n1.map (Value.int .u8))).toArray 32 (0, 0))) := HR
                replace H0 : Hid (u25.drew.heap[g0]? = some (.cells rowZ.toArray 32 (0, 0))) := H0
                generalize u25.drew = u32 at HB HRD HR H0 ⊢
                repeat (refine plan_t (by rfl) ?_; (first | go_big_quiet_skip | (go_big_quiet_want; go_big_quiet_op; go_big_quiet_on)); refine wpQuiet_nil ?_)
                refine plan_us (by rfl) (by kernel_rfl) ?_
                intro K hK
                go_wp2_with fail
                have hb := rraw_any w u32 0 p t2 t3 8 (by omega) HRD.out
                rw [Ho.out] at hb
                refine Calls.mono hb ?_
                clear hb
                rintro e u33 ⟨b, m, cb, rfl, hm, hI, hR, hg1, hlo⟩
                replace HR := Lib.hid (grown_row hg1 (by intro e; injection e with e; exact hgp e) HR.out)
                replace H0 := Lib.hid (grown_row hg1 (by intro e; injection e with e; omega) H0.out)
                replace HB := Lib.hid (HB.out.grown hg1 HB.out.size (by intro k hk; injection hk with hk; omega))
                replace HRD := Lib.hid hR
                have hm8 : m ≤ 8 := by have h1 : o1.length = m := hI.1; have := HoL.out; omega
                have HCP := Lib.hid (ints_copy hI 8 hm8)
                have HFIT : Hid (9 + (o1.map (Value.int .u8)).length ≤ (splice (row0 0) 1 (n1.map (Value.int .u8))).length) := Lib.hid (by rw [List.length_map, HL1.out]; have := HoL.out; omega)
                clear hR hg1 hI hlo hm hm8
                go_wp2_with fail
                refine ⟨trivial, ?_⟩
                refine plan_us (by rfl) (by kernel_rfl) ?_
                intro K hK
                refine wp_copy_grown _ _ 23 23 rfl 5 Try.underlying23 infoU8t _ _ _ _ _ _ rfl rfl g 9 (splice (row0 0) 1 (n1.map (Value.int .u8))) 32 HR.out (o1.map (Value.int .u8)) HCP.out.1 (fun h => ⟨rfl, HCP.out.2 h⟩) HFIT.out ints_one ?_
                intro u34 hr6 hg2
                replace HR := Lib.hid hr6
                replace H0 := Lib.hid (grown_row hg2 (by intro e; injection e with e; omega) H0.out)
                replace HRD := Lib.hid (HRD.out.grownG hg2 hgp hgW)
                replace HB := Lib.hid (HB.out.grown hg2 HB.out.size (by intro k hk; injection hk with hk; omega))
                refine hK _ _ ⟨trivial, ?_⟩
                clear hK hr6 hg2 hne HCP HFIT
                show Exit.then _ _ _ _ _
                simp only [Act.put, List.setIfInBounds_toArray, List.set_cons_succ, List.set_cons_zero]
                have hl2 : (splice (splice (row0 0) 1 (n1.map (Value.int .u8))) 9 (o1.map (Value.int .u8))).length = 20 := (length_splice _ _ _ (by rw [List.length_map, HL1.out]; have := HoL.out; omega)).trans HL1.out
                have HL2 := Lib.hid hl2
                have hat : ∀ k, k = 0 ∨ 17 ≤ k → (splice (splice (row0 0) 1 (n1.map (Value.int .u8))) 9 (o1.map (Value.int .u8)))[k]? = (row0 0)[k]? := fun k hk => by
                  rw [splice_at _ _ _ (by rw [List.length_map, HL1.out]; have := HoL.out; omega) k (by rw [List.length_map]; have := HoL.out; omega), splice_at _ _ _ (by rw [List.length_map]; have := HnL.out; show 1 + n1.length ≤ 20; omega) k (by rw [List.length_map]; have := HnL.out; omega)]
                have c0 : u34.cell? ⟨g, 0, none⟩ = some (.int .i64 0) := row_cell HR.out 0 _ (by rw [List.getElem?_toArray, hat 0 (by omega)]; rfl)
                have c17 : u34.cell? ⟨g, 17, none⟩ = some (.slice none 0 0) := row_cell HR.out 17 _ (by rw [List.getElem?_toArray, hat 17 (by omega)]; rfl)
                have hat17 := hat 17 (by omega)
                have C17 : Hid ((splice (splice (row0 0) 1 (n1.map (Value.int .u8))) 9 (o1.map (Value.int .u8)))[17]? = some (.slice none 0 0)) := Lib.hid (by rw [hat17]; rfl)
                clear hat hl2 hat17
                clear c17
                go_wp2_with fail
                obtain ⟨⟨k1, k2, k3⟩, hk⟩ : ∃ r, textM o2 o3 = r := ⟨_, rfl⟩
                have HK := Lib.hid (show tokM 0 o2 o3 = (k1, k2, k3) from hk)
                have hb := rtext_any w u34 0 p o2 o3 HRD.out
                rw [hk] at hb
                clear hk
                have hsz := HB.out.size
                refine Calls.mono hb ?_
                clear hb
                rintro e u35 ⟨b, n, cb, rfl, hm2, hI2, hR, hg1, hlo⟩
                have HGX : Hid (∀ x, b = some x → x.block ≠ g ∧ x.block ≠ p ∧ x.block ≠ g0) := Lib.hid (fun x hx => ⟨by have := hlo x hx; have := lt_of_block HR.out; omega, by have := hlo x hx; have := HRD.out.lt; omega, by have := hlo x hx; have := lt_of_block H0.out; omega⟩)
                replace HR := Lib.hid (grown_row hg1 (by intro e; injection e with e; exact hgp e) HR.out)
                replace H0 := Lib.hid (grown_row hg1 (by intro e; injection e with e; omega) H0.out)
                replace HB := Lib.hid (HB.out.grown hg1 HB.out.size (by intro k hk; injection hk with hk; omega))
                replace HRD := Lib.hid hR
                have HI5 := Lib.hid hI2
                have HLO := Lib.hid (fun x hx => Nat.le_trans hsz (hlo x hx))
                have HKL : Hid (k1.length = n) := Lib.hid hI2.1
                have HM2 := Lib.hid hm2
                clear hI2 hR hg1 hlo c0 hsz hm2
                have f17 := row_free HR.out 17
                have c17 : ∃ v, u35.cell? ⟨g, 17, none⟩ = some v := ⟨_, row_cell HR.out 17 _ (by rw [List.getElem?_toArray]; exact List.getElem?_eq_getElem (by rw [HL2.out]; decide))⟩
                obtain ⟨v17, c17⟩ := c17
                have hA := ((At.base HR.out).set 17 (.slice b n cb)).conv (cs' := (lrow 0 n1 o1 (.slice b n cb)).toArray) (by unfold lrow; rw [List.setIfInBounds_toArray])
                replace HI5 := Lib.hid (HI5.out.grownL hA.rest (fun h0 x hx e => by injection e with e; exact (HGX.out x hx).1 e))
                replace HR := Lib.hid hA.row
                replace H0 := Lib.hid (grown_row hA.rest (by intro e; injection e with e; omega) H0.out)
                replace HB := Lib.hid (HB.out.grown hA.rest HB.out.size (by intro k hk; injection hk with hk; omega))
                replace HRD := Lib.hid (HRD.out.grownG hA.rest hgp hgW)
                clear hA
                go_upto_region 20 with fail
                clear c17 f17
                generalize u35.setCell ⟨g, 17, none⟩ (.slice b n cb) = u36 at HI5 HR HB HRD H0 ⊢
                clear C17
                go_upto_region 21 with fail
                go_wp2_with fail
                obtain ⟨⟨m1, m2, m3⟩, hN⟩ : ∃ r, varM k2 k3 = r := ⟨_, rfl⟩
                have hb := rvar_any w u36 0 p k2 k3 HRD.out
                rw [hN] at hb
                have HN := Lib.hid hN
                clear hN
                refine Calls.mono hb ?_
                clear hb
                rintro e u37 ⟨rfl, hR, hg1⟩
                replace HR := Lib.hid (grown_row hg1 (by intro e; injection e with e; exact hgp e) HR.out)
                replace H0 := Lib.hid (grown_row hg1 (by intro e; injection e with e; omega) H0.out)
                replace HB := Lib.hid (HB.out.grown hg1 HB.out.size (by intro k hk; injection hk with hk; omega))
                replace HRD := Lib.hid hR
                clear hR hg1
                go_wp2_with (first | (refine wpList_store_row rfl 32 _ _ rfl g0 rfl rowZ rowZ rfl 32 H0.out rfl rfl rowZ_one ?_; intro wz hz hgz) | fail)
                (try simp only [Exit.inBlock, Exit.then])
                refine bodyPost_ret (results_cell4 rfl _ _ g0 rfl rowZ _ _ hz Try.underlying32 rfl rfl) rfl ?_
                rw [← HQQ.out]
                exact ⟨HB.out.grown hgz HB.out.size (by intro k hk; injection hk with hk; omega), .inl ⟨HNO.out, rfl⟩⟩
          · have hne1 := str_ne v1 [0, 0, 0, 1] HWV.out (by decide) heq
            rw [hne1]
            clear hne1
            have HNO : Hid (parM bs = none) := Lib.hid (par_l_no HX.out h128 (lg_no (by rw [HV.out]; exact fun h => heq h.2.1)))
            clear heq
            go_wp2_with fail
            obtain ⟨⟨z1, z2, z3⟩, hz⟩ : ∃ r, byteM v2 v3 = r := ⟨_, rfl⟩
            have hb := rbyte_any w w6 0 p v2 v3 HRD.out
            rw [hz] at hb
            have Hz := Lib.hid hz
            clear hz
            refine Calls.mono hb ?_
            clear hb
            rintro e u38 ⟨rfl, hR, hg1⟩
            replace HR := Lib.hid (grown_row hg1 (by intro e; injection e with e; exact hgp e) HR.out)
            replace H0 := Lib.hid (grown_row hg1 (by intro e; injection e with e; omega) H0.out)
            replace HB := Lib.hid (HB.out.grown hg1 HB.out.size (by intro k hk; injection hk with hk; omega))
            replace HRD := Lib.hid hR
            clear hR hg1
            by_cases h8z : z1 = 8
            · skip
              subst h8z
              go_upto_region 15 with fail
              obtain ⟨⟨n1, n2, n3⟩, hn⟩ : ∃ r, rdM z2 z3 8 = r := ⟨_, rfl⟩
              have hyl := rdM_len1 z2 z3 8
              rw [show ((8 : Nat) : Int) = 8 from rfl, hn] at hyl
              simp only at hyl
              have Hn := Lib.hid hn; have HnL := Lib.hid hyl
              clear hn hyl
              refine wp_plan (.t 0 (.t 1 (.t 2 (.u 3 (.u 4 .done))))) (fun y => True) (by kernel_rfl) (by kernel_rfl) (by kernel_rfl) (fun c a d v w h => by cases d <;> exact h) trivial ?_
              haveI hne : Nonempty (In fun y => True) := ⟨⟨w, trivial⟩⟩
              replace HB := Lib.hid HB.out.drew
              replace HRD := Lib.hid (HRD.out.to (Below.refl _ _).drew)
              replace HR : Hid (u38.drew.heap[g]? = some (.cells (row0 0).toArray 32 (0, 0))) := HR
              replace H0 : Hid (u38.drew.heap[g0]? = some (.cells rowZ.toArray 32 (0, 0))) := H0
              generalize u38.drew = u39 at HB HRD HR H0 ⊢
              repeat (refine plan_t (by rfl) ?_; (first | go_big_quiet_skip | (go_big_quiet_want; go_big_quiet_op; go_big_quiet_on)); refine wpQuiet_nil ?_)
              refine plan_us (by rfl) (by kernel_rfl) ?_
              intro K hK
              go_wp2_with fail
              have hb := rraw_any w u39 0 p z2 z3 8 (by omega) HRD.out
              rw [Hn.out] at hb
              refine Calls.mono hb ?_
              clear hb
              rintro e u40 ⟨b, m, cb, rfl, hm, hI, hR, hg1, hlo⟩
              replace HR := Lib.hid (grown_row hg1 (by intro e; injection e with e; exact hgp e) HR.out)
              replace H0 := Lib.hid (grown_row hg1 (by intro e; injection e with e; omega) H0.out)
              replace HB := Lib.hid (HB.out.grown hg1 HB.out.size (by intro k hk; injection hk with hk; omega))
              replace HRD := Lib.hid hR
              have hm8 : m ≤ 8 := by have h1 : n1.length = m := hI.1; have := HnL.out; omega
              have HCP := Lib.hid (ints_copy hI 8 hm8)
              have HFIT : Hid (1 + (n1.map (Value.int .u8)).length ≤ (row0 0).length) := Lib.hid (by rw [List.length_map, show (row0 0).length = 20 from rfl]; have := HnL.out; omega)
              clear hR hg1 hI hlo hm hm8
              go_wp2_with fail
              refine ⟨trivial, ?_⟩
              refine plan_us (by rfl) (by kernel_rfl) ?_
              intro K hK
              refine wp_copy_grown _ _ 23 23 rfl 5 Try.underlying23 infoU8t _ _ _ _ _ _ rfl rfl g 1 (row0 0) 32 HR.out (n1.map (Value.int .u8)) HCP.out.1 (fun h => ⟨rfl, HCP.out.2 h⟩) HFIT.out ints_one ?_
              intro u41 hr6 hg2
              replace HR := Lib.hid hr6
              replace H0 := Lib.hid (grown_row hg2 (by intro e; injection e with e; omega) H0.out)
              replace HRD := Lib.hid (HRD.out.grownG hg2 hgp hgW)
              replace HB := Lib.hid (HB.out.grown hg2 HB.out.size (by intro k hk; injection hk with hk; omega))
              refine hK _ _ ⟨trivial, ?_⟩
              clear hK hr6 hg2 hne HCP HFIT
              show Exit.then _ _ _ _ _
              simp only [Act.put, List.setIfInBounds_toArray, List.set_cons_succ, List.set_cons_zero]
              have hl1 : (splice (row0 0) 1 (n1.map (Value.int .u8))).length = 20 := length_splice _ _ _ (by rw [List.length_map]; have := HnL.out; show 1 + n1.length ≤ 20; omega)
              have HL1 := Lib.hid hl1
              clear hl1
              go_wp2_with fail
              obtain ⟨⟨t1, t2, t3⟩, ht⟩ : ∃ r, byteM n2 n3 = r := ⟨_, rfl⟩
              have hb := rbyte_any w u41 0 p n2 n3 HRD.out
              rw [ht] at hb
              have Ht := Lib.hid ht
              clear ht
              refine Calls.mono hb ?_
              clear hb
              rintro e u42 ⟨rfl, hR, hg1⟩
              replace HR := Lib.hid (grown_row hg1 (by intro e; injection e with e; exact hgp e) HR.out)
              replace H0 := Lib.hid (grown_row hg1 (by intro e; injection e with e; omega) H0.out)
              replace HB := Lib.hid (HB.out.grown hg1 HB.out.size (by intro k hk; injection hk with hk; omega))
              replace HRD := Lib.hid hR
              clear hR hg1
              by_cases h8t : t1 = 8
              · skip
                subst h8t
                go_upto_region 17 with fail
                obtain ⟨⟨o1, o2, o3⟩, ho⟩ : ∃ r, rdM t2 t3 8 = r := ⟨_, rfl⟩
                have hyl := rdM_len1 t2 t3 8
                rw [show ((8 : Nat) : Int) = 8 from rfl, ho] at hyl
                simp only at hyl
                have Ho := Lib.hid ho; have HoL := Lib.hid hyl
                clear ho hyl
                refine wp_plan (.t 0 (.t 1 (.t 2 (.u 3 (.u 4 .done))))) (fun y => True) (by kernel_rfl) (by kernel_rfl) (by kernel_rfl) (fun c a d v w h => by cases d <;> exact h) trivial ?_
                haveI hne : Nonempty (In fun y => True) := ⟨⟨w, trivial⟩⟩
                replace HB := Lib.hid HB.out.drew
                replace HRD := Lib.hid (HRD.out.to (Below.refl _ _).drew)
                replace HR : Hid (u42.drew.heap[g]? = some (.cells (splice (row0 0) 1 (n1.map (Value.int .u8))).toArray 32 (0, 0))) := HR
                replace H0 : Hid (u42.drew.heap[g0]? = some (.cells rowZ.toArray 32 (0, 0))) := H0
                generalize u42.drew = u43 at HB HRD HR H0 ⊢
                repeat (refine plan_t (by rfl) ?_; (first | go_big_quiet_skip | (go_big_quiet_want; go_big_quiet_op; go_big_quiet_on)); refine wpQuiet_nil ?_)
                refine plan_us (by rfl) (by kernel_rfl) ?_
                intro K hK
                go_wp2_with fail
                have hb := rraw_any w u43 0 p t2 t3 8 (by omega) HRD.out
                rw [Ho.out] at hb
                refine Calls.mono hb ?_
                clear hb
                rintro e u44 ⟨b, m, cb, rfl, hm, hI, hR, hg1, hlo⟩
                replace HR := Lib.hid (grown_row hg1 (by intro e; injection e with e; exact hgp e) HR.out)
                replace H0 := Lib.hid (grown_row hg1 (by intro e; injection e with e; omega) H0.out)
                replace HB := Lib.hid (HB.out.grown hg1 HB.out.size (by intro k hk; injection hk with hk; omega))
                replace HRD := Lib.hid hR
                have hm8 : m ≤ 8 := by have h1 : o1.length = m := hI.1; have := HoL.out; omega
                have HCP := Lib.hid (ints_copy hI 8 hm8)
                have HFIT : Hid (9 + (o1.map (Value.int .u8)).length ≤ (splice (row0 0) 1 (n1.map (Value.int .u8))).length) := Lib.hid (by rw [List.length_map, HL1.out]; have := HoL.out; omega)
                clear hR hg1 hI hlo hm hm8
                go_wp2_with fail
                refine ⟨trivial, ?_⟩
                refine plan_us (by rfl) (by kernel_rfl) ?_
                intro K hK
                refine wp_copy_grown _ _ 23 23 rfl 5 Try.underlying23 infoU8t _ _ _ _ _ _ rfl rfl g 9 (splice (row0 0) 1 (n1.map (Value.int .u8))) 32 HR.out (o1.map (Value.int .u8)) HCP.out.1 (fun h => ⟨rfl, HCP.out.2 h⟩) HFIT.out ints_one ?_
                intro u45 hr6 hg2
                replace HR := Lib.hid hr6
                replace H0 := Lib.hid (grown_row hg2 (by intro e; injection e with e; omega) H0.out)
                replace HRD := Lib.hid (HRD.out.grownG hg2 hgp hgW)
                replace HB := Lib.hid (HB.out.grown hg2 HB.out.size (by intro k hk; injection hk with hk; omega))
                refine hK _ _ ⟨trivial, ?_⟩
                clear hK hr6 hg2 hne HCP HFIT
                show Exit.then _ _ _ _ _
                simp only [Act.put, List.setIfInBounds_toArray, List.set_cons_succ, List.set_cons_zero]
                have hl2 : (splice (splice (row0 0) 1 (n1.map (Value.int .u8))) 9 (o1.map (Value.int .u8))).length = 20 := (length_splice _ _ _ (by rw [List.length_map, HL1.out]; have := HoL.out; omega)).trans HL1.out
                have HL2 := Lib.hid hl2
                have hat : ∀ k, k = 0 ∨ 17 ≤ k → (splice (splice (row0 0) 1 (n1.map (Value.int .u8))) 9 (o1.map (Value.int .u8)))[k]? = (row0 0)[k]? := fun k hk => by
                  rw [splice_at _ _ _ (by rw [List.length_map, HL1.out]; have := HoL.out; omega) k (by rw [List.length_map]; have := HoL.out; omega), splice_at _ _ _ (by rw [List.length_map]; have := HnL.out; show 1 + n1.length ≤ 20; omega) k (by rw [List.length_map]; have := HnL.out; omega)]
                have c0 : u45.cell? ⟨g, 0, none⟩ = some (.int .i64 0) := row_cell HR.out 0 _ (by rw [List.getElem?_toArray, hat 0 (by omega)]; rfl)
                have c17 : u45.cell? ⟨g, 17, none⟩ = some (.slice none 0 0) := row_cell HR.out 17 _ (by rw [List.getElem?_toArray, hat 17 (by omega)]; rfl)
                have hat17 := hat 17 (by omega)
                have C17 : Hid ((splice (splice (row0 0) 1 (n1.map (Value.int .u8))) 9 (o1.map (Value.int .u8)))[17]? = some (.slice none 0 0)) := Lib.hid (by rw [hat17]; rfl)
                clear hat hl2 hat17
                clear c17
                go_wp2_with fail
                obtain ⟨⟨k1, k2, k3⟩, hk⟩ : ∃ r, textM o2 o3 = r := ⟨_, rfl⟩
                have HK := Lib.hid (show tokM 0 o2 o3 = (k1, k2, k3) from hk)
                have hb := rtext_any w u45 0 p o2 o3 HRD.out
                rw [hk] at hb
                clear hk
                have hsz := HB.out.size
                refine Calls.mono hb ?_
                clear hb
                rintro e u46 ⟨b, n, cb, rfl, hm2, hI2, hR, hg1, hlo⟩
                have HGX : Hid (∀ x, b = some x → x.block ≠ g ∧ x.block ≠ p ∧ x.block ≠ g0) := Lib.hid (fun x hx => ⟨by have := hlo x hx; have := lt_of_block HR.out; omega, by have := hlo x hx; have := HRD.out.lt; omega, by have := hlo x hx; have := lt_of_block H0.out; omega⟩)
                replace HR := Lib.hid (grown_row hg1 (by intro e; injection e with e; exact hgp e) HR.out)
                replace H0 := Lib.hid (grown_row hg1 (by intro e; injection e with e; omega) H0.out)
                replace HB := Lib.hid (HB.out.grown hg1 HB.out.size (by intro k hk; injection hk with hk; omega))
                replace HRD := Lib.hid hR
                have HI5 := Lib.hid hI2
                have HLO := Lib.hid (fun x hx => Nat.le_trans hsz (hlo x hx))
                have HKL : Hid (k1.length = n) := Lib.hid hI2.1
                have HM2 := Lib.hid hm2
                clear hI2 hR hg1 hlo c0 hsz hm2
                have f17 := row_free HR.out 17
                have c17 : ∃ v, u46.cell? ⟨g, 17, none⟩ = some v := ⟨_, row_cell HR.out 17 _ (by rw [List.getElem?_toArray]; exact List.getElem?_eq_getElem (by rw [HL2.out]; decide))⟩
                obtain ⟨v17, c17⟩ := c17
                have hA := ((At.base HR.out).set 17 (.slice b n cb)).conv (cs' := (lrow 0 n1 o1 (.slice b n cb)).toArray) (by unfold lrow; rw [List.setIfInBounds_toArray])
                replace HI5 := Lib.hid (HI5.out.grownL hA.rest (fun h0 x hx e => by injection e with e; exact (HGX.out x hx).1 e))
                replace HR := Lib.hid hA.row
                replace H0 := Lib.hid (grown_row hA.rest (by intro e; injection e with e; omega) H0.out)
                replace HB := Lib.hid (HB.out.grown hA.rest HB.out.size (by intro k hk; injection hk with hk; omega))
                replace HRD := Lib.hid (HRD.out.grownG hA.rest hgp hgW)
                clear hA
                go_upto_region 20 with fail
                clear c17 f17
                generalize u46.setCell ⟨g, 17, none⟩ (.slice b n cb) = u47 at HI5 HR HB HRD H0 ⊢
                clear C17
                go_upto_region 21 with fail
                go_wp2_with fail
                obtain ⟨⟨m1, m2, m3⟩, hN⟩ : ∃ r, varM k2 k3 = r := ⟨_, rfl⟩
                have hb := rvar_any w u47 0 p k2 k3 HRD.out
                rw [hN] at hb
                have HN := Lib.hid hN
                clear hN
                refine Calls.mono hb ?_
                clear hb
                rintro e u48 ⟨rfl, hR, hg1⟩
                replace HR := Lib.hid (grown_row hg1 (by intro e; injection e with e; exact hgp e) HR.out)
                replace H0 := Lib.hid (grown_row hg1 (by intro e; injection e with e; omega) H0.out)
                replace HB := Lib.hid (HB.out.grown hg1 HB.out.size (by intro k hk; injection hk with hk; omega))
                replace HRD := Lib.hid hR
                clear hR hg1
                go_wp2_with (first | (refine wpList_store_row rfl 32 _ _ rfl g0 rfl rowZ rowZ rfl 32 H0.out rfl rfl rowZ_one ?_; intro wz hz hgz) | fail)
                (try simp only [Exit.inBlock, Exit.then])
                refine bodyPost_ret (results_cell4 rfl _ _ g0 rfl rowZ _ _ hz Try.underlying32 rfl rfl) rfl ?_
                rw [← HQQ.out]
                exact ⟨HB.out.grown hgz HB.out.size (by intro k hk; injection hk with hk; omega), .inl ⟨HNO.out, rfl⟩⟩
              · skip
                have hz8 : (t1 == 8) = false := by rw [int_beq]; exact decide_eq_false h8t
                go_upto_region 17 with fail
                clear hz8
                obtain ⟨⟨o1, o2, o3⟩, ho⟩ : ∃ r, rdM t2 t3 8 = r := ⟨_, rfl⟩
                have hyl := rdM_len1 t2 t3 8
                rw [show ((8 : Nat) : Int) = 8 from rfl, ho] at hyl
                simp only at hyl
                have Ho := Lib.hid ho; have HoL := Lib.hid hyl
                clear ho hyl
                refine wp_plan (.t 0 (.t 1 (.t 2 (.u 3 (.u 4 .done))))) (fun y => True) (by kernel_rfl) (by kernel_rfl) (by kernel_rfl) (fun c a d v w h => by cases d <;> exact h) trivial ?_
                haveI hne : Nonempty (In fun y => True) := ⟨⟨w, trivial⟩⟩
                replace HB := Lib.hid HB.out.drew
                replace HRD := Lib.hid (HRD.out.to (Below.refl _ _).drew)
                replace HR : Hid (u42.drew.heap[g]? = some (.cells (splice (row0 0) 1 (n1.map (Value.int .u8))).toArray 32 (0, 0))) := HR
                replace H0 : Hid (u42.drew.heap[g0]? = some (.cells rowZ.toArray 32 (0, 0))) := H0
                generalize u42.drew = u49 at HB HRD HR H0 ⊢
                repeat (refine plan_t (by rfl) ?_; (first | go_big_quiet_skip | (go_big_quiet_want; go_big_quiet_op; go_big_quiet_on)); refine wpQuiet_nil ?_)
                refine plan_us (by rfl) (by kernel_rfl) ?_
                intro K hK
                go_wp2_with fail
                have hb := rraw_any w u49 0 p t2 t3 8 (by omega) HRD.out
                rw [Ho.out] at hb
                refine Calls.mono hb ?_
                clear hb
                rintro e u50 ⟨b, m, cb, rfl, hm, hI, hR, hg1, hlo⟩
                replace HR := Lib.hid (grown_row hg1 (by intro e; injection e with e; exact hgp e) HR.out)
                replace H0 := Lib.hid (grown_row hg1 (by intro e; injection e with e; omega) H0.out)
                replace HB := Lib.hid (HB.out.grown hg1 HB.out.size (by intro k hk; injection hk with hk; omega))
                replace HRD := Lib.hid hR
                have hm8 : m ≤ 8 := by have h1 : o1.length = m := hI.1; have := HoL.out; omega
                have HCP := Lib.hid (ints_copy hI 8 hm8)
                have HFIT : Hid (9 + (o1.map (Value.int .u8)).length ≤ (splice (row0 0) 1 (n1.map (Value.int .u8))).length) := Lib.hid (by rw [List.length_map, HL1.out]; have := HoL.out; omega)
                clear hR hg1 hI hlo hm hm8
                go_wp2_with fail
                refine ⟨trivial, ?_⟩
                refine plan_us (by rfl) (by kernel_rfl) ?_
                intro K hK
                refine wp_copy_grown _ _ 23 23 rfl 5 Try.underlying23 infoU8t _ _ _ _ _ _ rfl rfl g 9 (splice (row0 0) 1 (n1.map (Value.int .u8))) 32 HR.out (o1.map (Value.int .u8)) HCP.out.1 (fun h => ⟨rfl, HCP.out.2 h⟩) HFIT.out ints_one ?_
                intro u51 hr6 hg2
                replace HR := Lib.hid hr6
                replace H0 := Lib.hid (grown_row hg2 (by intro e; injection e with e; omega) H0.out)
                replace HRD := Lib.hid (HRD.out.grownG hg2 hgp hgW)
                replace HB := Lib.hid (HB.out.grown hg2 HB.out.size (by intro k hk; injection hk with hk; omega))
                refine hK _ _ ⟨trivial, ?_⟩
                clear hK hr6 hg2 hne HCP HFIT
                show Exit.then _ _ _ _ _
                simp only [Act.put, List.setIfInBounds_toArray, List.set_cons_succ, List.set_cons_zero]
                have hl2 : (splice (splice (row0 0) 1 (n1.map (Value.int .u8))) 9 (o1.map (Value.int .u8))).length = 20 := (length_splice _ _ _ (by rw [List.length_map, HL1.out]; have := HoL.out; omega)).trans HL1.out
                have HL2 := Lib.hid hl2
                have hat : ∀ k, k = 0 ∨ 17 ≤ k → (splice (splice (row0 0) 1 (n1.map (Value.int .u8))) 9 (o1.map (Value.int .u8)))[k]? = (row0 0)[k]? := fun k hk => by
                  rw [splice_at _ _ _ (by rw [List.length_map, HL1.out]; have := HoL.out; omega) k (by rw [List.length_map]; have := HoL.out; omega), splice_at _ _ _ (by rw [List.length_map]; have := HnL.out; show 1 + n1.length ≤ 20; omega) k (by rw [List.length_map]; have := HnL.out; omega)]
                have c0 : u51.cell? ⟨g, 0, none⟩ = some (.int .i64 0) := row_cell HR.out 0 _ (by rw [List.getElem?_toArray, hat 0 (by omega)]; rfl)
                have c17 : u51.cell? ⟨g, 17, none⟩ = some (.slice none 0 0) := row_cell HR.out 17 _ (by rw [List.getElem?_toArray, hat 17 (by omega)]; rfl)
                have hat17 := hat 17 (by omega)
                have C17 : Hid ((splice (splice (row0 0) 1 (n1.map (Value.int .u8))) 9 (o1.map (Value.int .u8)))[17]? = some (.slice none 0 0)) := Lib.hid (by rw [hat17]; rfl)
                clear hat hl2 hat17
                clear c17
                go_wp2_with fail
                obtain ⟨⟨k1, k2, k3⟩, hk⟩ : ∃ r, textM o2 o3 = r := ⟨_, rfl⟩
                have HK := Lib.hid (show tokM 0 o2 o3 = (k1, k2, k3) from hk)
                have hb := rtext_any w u51 0 p o2 o3 HRD.out
                rw [hk] at hb
                clear hk
                have hsz := HB.out.size
                refine Calls.mono hb ?_
                clear hb
                rintro e u52 ⟨b, n, cb, rfl, hm2, hI2, hR, hg1, hlo⟩
                have HGX : Hid (∀ x, b = some x → x.block ≠ g ∧ x.block ≠ p ∧ x.block ≠ g0) := Lib.hid (fun x hx => ⟨by have := hlo x hx; have := lt_of_block HR.out; omega, by have := hlo x hx; have := HRD.out.lt; omega, by have := hlo x hx; have := lt_of_block H0.out; omega⟩)
                replace HR := Lib.hid (grown_row hg1 (by intro e; injection e with e; exact hgp e) HR.out)
                replace H0 := Lib.hid (grown_row hg1 (by intro e; injection e with e; omega) H0.out)
                replace HB := Lib.hid (HB.out.grown hg1 HB.out.size (by intro k hk; injection hk with hk; omega))
                replace HRD := Lib.hid hR
                have HI5 := Lib.hid hI2
                have HLO := Lib.hid (fun x hx => Nat.le_trans hsz (hlo x hx))
                have HKL : Hid (k1.length = n) := Lib.hid hI2.1
                have HM2 := Lib.hid hm2
                clear hI2 hR hg1 hlo c0 hsz hm2
                have f17 := row_free HR.out 17
                have c17 : ∃ v, u52.cell? ⟨g, 17, none⟩ = some v := ⟨_, row_cell HR.out 17 _ (by rw [List.getElem?_toArray]; exact List.getElem?_eq_getElem (by rw [HL2.out]; decide))⟩
                obtain ⟨v17, c17⟩ := c17
                have hA := ((At.base HR.out).set 17 (.slice b n cb)).conv (cs' := (lrow 0 n1 o1 (.slice b n cb)).toArray) (by unfold lrow; rw [List.setIfInBounds_toArray])
                replace HI5 := Lib.hid (HI5.out.grownL hA.rest (fun h0 x hx e => by injection e with e; exact (HGX.out x hx).1 e))
                replace HR := Lib.hid hA.row
                replace H0 := Lib.hid (grown_row hA.rest (by intro e; injection e with e; omega) H0.out)
                replace HB := Lib.hid (HB.out.grown hA.rest HB.out.size (by intro k hk; injection hk with hk; omega))
                replace HRD := Lib.hid (HRD.out.grownG hA.rest hgp hgW)
                clear hA
                go_upto_region 20 with fail
                clear c17 f17
                generalize u52.setCell ⟨g, 17, none⟩ (.slice b n cb) = u53 at HI5 HR HB HRD H0 ⊢
                clear C17
                go_upto_region 21 with fail
                go_wp2_with fail
                obtain ⟨⟨m1, m2, m3⟩, hN⟩ : ∃ r, varM k2 k3 = r := ⟨_, rfl⟩
                have hb := rvar_any w u53 0 p k2 k3 HRD.out
                rw [hN] at hb
                have HN := Lib.hid hN
                clear hN
                refine Calls.mono hb ?_
                clear hb
                rintro e u54 ⟨rfl, hR, hg1⟩
                replace HR := Lib.hid (grown_row hg1 (by intro e; injection e with e; exact hgp e) HR.out)
                replace H0 := Lib.hid (grown_row hg1 (by intro e; injection e with e; omega) H0.out)
                replace HB := Lib.hid (HB.out.grown hg1 HB.out.size (by intro k hk; injection hk with hk; omega))
                replace HRD := Lib.hid hR
                clear hR hg1
                go_wp2_with (first | (refine wpList_store_row rfl 32 _ _ rfl g0 rfl rowZ rowZ rfl 32 H0.out rfl rfl rowZ_one ?_; intro wz hz hgz) | fail)
                (try simp only [Exit.inBlock, Exit.then])
                refine bodyPost_ret (results_cell4 rfl _ _ g0 rfl rowZ _ _ hz Try.underlying32 rfl rfl) rfl ?_
                rw [← HQQ.out]
                exact ⟨HB.out.grown hgz HB.out.size (by intro k hk; injection hk with hk; omega), .inl ⟨HNO.out, rfl⟩⟩
            · skip
              have hz8 : (z1 == 8) = false := by rw [int_beq]; exact decide_eq_false h8z
              go_upto_region 15 with fail
              clear hz8
              obtain ⟨⟨n1, n2, n3⟩, hn⟩ : ∃ r, rdM z2 z3 8 = r := ⟨_, rfl⟩
              have hyl := rdM_len1 z2 z3 8
              rw [show ((8 : Nat) : Int) = 8 from rfl, hn] at hyl
              simp only at hyl
              have Hn := Lib.hid hn; have HnL := Lib.hid hyl
              clear hn hyl
              refine wp_plan (.t 0 (.t 1 (.t 2 (.u 3 (.u 4 .done))))) (fun y => True) (by kernel_rfl) (by kernel_rfl) (by kernel_rfl) (fun c a d v w h => by cases d <;> exact h) trivial ?_
              haveI hne : Nonempty (In fun y => True) := ⟨⟨w, trivial⟩⟩
              replace HB := Lib.hid HB.out.drew
              replace HRD := Lib.hid (HRD.out.to (Below.refl _ _).drew)
              replace HR : Hid (u38.drew.heap[g]? = some (.cells (row0 0).toArray 32 (0, 0))) := HR
              replace H0 : Hid (u38.drew.heap[g0]? = some (.cells rowZ.toArray 32 (0, 0))) := H0
              generalize u38.drew = u55 at HB HRD HR H0 ⊢
              repeat (refine plan_t (by rfl) ?_; (first | go_big_quiet_skip | (go_big_quiet_want; go_big_quiet_op; go_big_quiet_on)); refine wpQuiet_nil ?_)
              refine plan_us (by rfl) (by kernel_rfl) ?_
              intro K hK
              go_wp2_with fail
              have hb := rraw_any w u55 0 p z2 z3 8 (by omega) HRD.out
              rw [Hn.out] at hb
              refine Calls.mono hb ?_
              clear hb
              rintro e u56 ⟨b, m, cb, rfl, hm, hI, hR, hg1, hlo⟩
              replace HR := Lib.hid (grown_row hg1 (by intro e; injection e with e; exact hgp e) HR.out)
              replace H0 := Lib.hid (grown_row hg1 (by intro e; injection e with e; omega) H0.out)
              replace HB := Lib.hid (HB.out.grown hg1 HB.out.size (by intro k hk; injection hk with hk; omega))
              replace HRD := Lib.hid hR
              have hm8 : m ≤ 8 := by have h1 : n1.length = m := hI.1; have := HnL.out; omega
              have HCP := Lib.hid (ints_copy hI 8 hm8)
              have HFIT : Hid (1 + (n1.map (Value.int .u8)).length ≤ (row0 0).length) := Lib.hid (by rw [List.length_map, show (row0 0).length = 20 from rfl]; have := HnL.out; omega)
              clear hR hg1 hI hlo hm hm8
              go_wp2_with fail
              refine ⟨trivial, ?_⟩
              refine plan_us (by rfl) (by kernel_rfl) ?_
              intro K hK
              refine wp_copy_grown _ _ 23 23 rfl 5 Try.underlying23 infoU8t _ _ _ _ _ _ rfl rfl g 1 (row0 0) 32 HR.out (n1.map (Value.int .u8)) HCP.out.1 (fun h => ⟨rfl, HCP.out.2 h⟩) HFIT.out ints_one ?_
              intro u57 hr6 hg2
              replace HR := Lib.hid hr6
              replace H0 := Lib.hid (grown_row hg2 (by intro e; injection e with e; omega) H0.out)
              replace HRD := Lib.hid (HRD.out.grownG hg2 hgp hgW)
              replace HB := Lib.hid (HB.out.grown hg2 HB.out.size (by intro k hk; injection hk with hk; omega))
              refine hK _ _ ⟨trivial, ?_⟩
              clear hK hr6 hg2 hne HCP HFIT
              show Exit.then _ _ _ _ _
              simp only [Act.put, List.setIfInBounds_toArray, List.set_cons_succ, List.set_cons_zero]
              have hl1 : (splice (row0 0) 1 (n1.map (Value.int .u8))).length = 20 := length_splice _ _ _ (by rw [List.length_map]; have := HnL.out; show 1 + n1.length ≤ 20; omega)
              have HL1 := Lib.hid hl1
              clear hl1
              go_wp2_with fail
              obtain ⟨⟨t1, t2, t3⟩, ht⟩ : ∃ r, byteM n2 n3 = r := ⟨_, rfl⟩
              have hb := rbyte_any w u57 0 p n2 n3 HRD.out
              rw [ht] at hb
              have Ht := Lib.hid ht
              clear ht
              refine Calls.mono hb ?_
              clear hb
              rintro e u58 ⟨rfl, hR, hg1⟩
              replace HR := Lib.hid (grown_row hg1 (by intro e; injection e with e; exact hgp e) HR.out)
              replace H0 := Lib.hid (grown_row hg1 (by intro e; injection e with e; omega) H0.out)
              replace HB := Lib.hid (HB.out.grown hg1 HB.out.size (by intro k hk; injection hk with hk; omega))
              replace HRD := Lib.hid hR
              clear hR hg1
              by_cases h8t : t1 = 8
              · skip
                subst h8t
                go_upto_region 17 with fail
                obtain ⟨⟨o1, o2, o3⟩, ho⟩ : ∃ r, rdM t2 t3 8 = r := ⟨_, rfl⟩
                have hyl := rdM_len1 t2 t3 8
                rw [show ((8 : Nat) : Int) = 8 from rfl, ho] at hyl
                simp only at hyl
                have Ho := Lib.hid ho; have HoL := Lib.hid hyl
                clear ho hyl
                refine wp_plan (.t 0 (.t 1 (.t 2 (.u 3 (.u 4 .done))))) (fun y => True) (by kernel_rfl) (by kernel_rfl) (by kernel_rfl) (fun c a d v w h => by cases d <;> exact h) trivial ?_
                haveI hne : Nonempty (In fun y => True) := ⟨⟨w, trivial⟩⟩
                replace HB := Lib.hid HB.out.drew
                replace HRD := Lib.hid (HRD.out.to (Below.refl _ _).drew)
                replace HR : Hid (u58.drew.heap[g]? = some (.cells (splice (row0 0) 1 (n1.map (Value.int .u8))).toArray 32 (0, 0))) := HR
                replace H0 : Hid (u58.drew.heap[g0]? = some (.cells rowZ.toArray 32 (0, 0))) := H0
                generalize u58.drew = u59 at HB HRD HR H0 ⊢
                repeat (refine plan_t (by rfl) ?_; (first | go_big_quiet_skip | (go_big_quiet_want; go_big_quiet_op; go_big_quiet_on)); refine wpQuiet_nil ?_)
                refine plan_us (by rfl) (by kernel_rfl) ?_
                intro K hK
                go_wp2_with fail
                have hb := rraw_any w u59 0 p t2 t3 8 (by omega) HRD.out
                rw [Ho.out] at hb
                refine Calls.mono hb ?_
                clear hb
                rintro e u60 ⟨b, m, cb, rfl, hm, hI, hR, hg1, hlo⟩
                replace HR := Lib.hid (grown_row hg1 (by intro e; injection e with e; exact hgp e) HR.out)
                replace H0 := Lib.hid (grown_row hg1 (by intro e; injection e with e; omega) H0.out)
                replace HB := Lib.hid (HB.out.grown hg1 HB.out.size (by intro k hk; injection hk with hk; omega))
                replace HRD := Lib.hid hR
                have hm8 : m ≤ 8 := by have h1 : o1.length = m := hI.1; have := HoL.out; omega
                have HCP := Lib.hid (ints_copy hI 8 hm8)
                have HFIT : Hid (9 + (o1.map (Value.int .u8)).length ≤ (splice (row0 0) 1 (n1.map (Value.int .u8))).length) := Lib.hid (by rw [List.length_map, HL1.out]; have := HoL.out; omega)
                clear hR hg1 hI hlo hm hm8
                go_wp2_with fail
                refine ⟨trivial, ?_⟩
                refine plan_us (by rfl) (by kernel_rfl) ?_
                intro K hK
                refine wp_copy_grown _ _ 23 23 rfl 5 Try.underlying23 infoU8t _ _ _ _ _ _ rfl rfl g 9 (splice (row0 0) 1 (n1.map (Value.int .u8))) 32 HR.out (o1.map (Value.int .u8)) HCP.out.1 (fun h => ⟨rfl, HCP.out.2 h⟩) HFIT.out ints_one ?_
                intro u61 hr6 hg2
                replace HR := Lib.hid hr6
                replace H0 := Lib.hid (grown_row hg2 (by intro e; injection e with e; omega) H0.out)
                replace HRD := Lib.hid (HRD.out.grownG hg2 hgp hgW)
                replace HB := Lib.hid (HB.out.grown hg2 HB.out.size (by intro k hk; injection hk with hk; omega))
                refine hK _ _ ⟨trivial, ?_⟩
                clear hK hr6 hg2 hne HCP HFIT
                show Exit.then _ _ _ _ _
                simp only [Act.put, List.setIfInBounds_toArray, List.set_cons_succ, List.set_cons_zero]
                have hl2 : (splice (splice (row0 0) 1 (n1.map (Value.int .u8))) 9 (o1.map (Value.int .u8))).length = 20 := (length_splice _ _ _ (by rw [List.length_map, HL1.out]; have := HoL.out; omega)).trans HL1.out
                have HL2 := Lib.hid hl2
                have hat : ∀ k, k = 0 ∨ 17 ≤ k → (splice (splice (row0 0) 1 (n1.map (Value.int .u8))) 9 (o1.map (Value.int .u8)))[k]? = (row0 0)[k]? := fun k hk => by
                  rw [splice_at _ _ _ (by rw [List.length_map, HL1.out]; have := HoL.out; omega) k (by rw [List.length_map]; have := HoL.out; omega), splice_at _ _ _ (by rw [List.length_map]; have := HnL.out; show 1 + n1.length ≤ 20; omega) k (by rw [List.length_map]; have := HnL.out; omega)]
                have c0 : u61.cell? ⟨g, 0, none⟩ = some (.int .i64 0) := row_cell HR.out 0 _ (by rw [List.getElem?_toArray, hat 0 (by omega)]; rfl)
                have c17 : u61.cell? ⟨g, 17, none⟩ = some (.slice none 0 0) := row_cell HR.out 17 _ (by rw [List.getElem?_toArray, hat 17 (by omega)]; rfl)
                have hat17 := hat 17 (by omega)
                have C17 : Hid ((splice (splice (row0 0) 1 (n1.map (Value.int .u8))) 9 (o1.map (Value.int .u8)))[17]? = some (.slice none 0 0)) := Lib.hid (by rw [hat17]; rfl)
                clear hat hl2 hat17
                clear c17
                go_wp2_with fail
                obtain ⟨⟨k1, k2, k3⟩, hk⟩ : ∃ r, textM o2 o3 = r := ⟨_, rfl⟩
                have HK := Lib.hid (show tokM 0 o2 o3 = (k1, k2, k3) from hk)
                have hb := rtext_any w u61 0 p o2 o3 HRD.out
                rw [hk] at hb
                clear hk
                have hsz := HB.out.size
                refine Calls.mono hb ?_
                clear hb
                rintro e u62 ⟨b, n, cb, rfl, hm2, hI2, hR, hg1, hlo⟩
                have HGX : Hid (∀ x, b = some x → x.block ≠ g ∧ x.block ≠ p ∧ x.block ≠ g0) := Lib.hid (fun x hx => ⟨by have := hlo x hx; have := lt_of_block HR.out; omega, by have := hlo x hx; have := HRD.out.lt; omega, by have := hlo x hx; have := lt_of_block H0.out; omega⟩)
                replace HR := Lib.hid (grown_row hg1 (by intro e; injection e with e; exact hgp e) HR.out)
                replace H0 := Lib.hid (grown_row hg1 (by intro e; injection e with e; omega) H0.out)
                replace HB := Lib.hid (HB.out.grown hg1 HB.out.size (by intro k hk; injection hk with hk; omega))
                replace HRD := Lib.hid hR
                have HI5 := Lib.hid hI2
                have HLO := Lib.hid (fun x hx => Nat.le_trans hsz (hlo x hx))
                have HKL : Hid (k1.length = n) := Lib.hid hI2.1
                have HM2 := Lib.hid hm2
                clear hI2 hR hg1 hlo c0 hsz hm2
                have f17 := row_free HR.out 17
                have c17 : ∃ v, u62.cell? ⟨g, 17, none⟩ = some v := ⟨_, row_cell HR.out 17 _ (by rw [List.getElem?_toArray]; exact List.getElem?_eq_getElem (by rw [HL2.out]; decide))⟩
                obtain ⟨v17, c17⟩ := c17
                have hA := ((At.base HR.out).set 17 (.slice b n cb)).conv (cs' := (lrow 0 n1 o1 (.slice b n cb)).toArray) (by unfold lrow; rw [List.setIfInBounds_toArray])
                replace HI5 := Lib.hid (HI5.out.grownL hA.rest (fun h0 x hx e => by injection e with e; exact (HGX.out x hx).1 e))
                replace HR := Lib.hid hA.row
                replace H0 := Lib.hid (grown_row hA.rest (by intro e; injection e with e; omega) H0.out)
                replace HB := Lib.hid (HB.out.grown hA.rest HB.out.size (by intro k hk; injection hk with hk; omega))
                replace HRD := Lib.hid (HRD.out.grownG hA.rest hgp hgW)
                clear hA
                go_upto_region 20 with fail
                clear c17 f17
                generalize u62.setCell ⟨g, 17, none⟩ (.slice b n cb) = u63 at HI5 HR HB HRD H0 ⊢
                clear C17
                go_upto_region 21 with fail
                go_wp2_with fail
                obtain ⟨⟨m1, m2, m3⟩, hN⟩ : ∃ r, varM k2 k3 = r := ⟨_, rfl⟩
                have hb := rvar_any w u63 0 p k2 k3 HRD.out
                rw [hN] at hb
                have HN := Lib.hid hN
                clear hN
                refine Calls.mono hb ?_
                clear hb
                rintro e u64 ⟨rfl, hR, hg1⟩
                replace HR := Lib.hid (grown_row hg1 (by intro e; injection e with e; exact hgp e) HR.out)
                replace H0 := Lib.hid (grown_row hg1 (by intro e; injection e with e; omega) H0.out)
                replace HB := Lib.hid (HB.out.grown hg1 HB.out.size (by intro k hk; injection hk with hk; omega))
                replace HRD := Lib.hid hR
                clear hR hg1
                go_wp2_with (first | (refine wpList_store_row rfl 32 _ _ rfl g0 rfl rowZ rowZ rfl 32 H0.out rfl rfl rowZ_one ?_; intro wz hz hgz) | fail)
                (try simp only [Exit.inBlock, Exit.then])
                refine bodyPost_ret (results_cell4 rfl _ _ g0 rfl rowZ _ _ hz Try.underlying32 rfl rfl) rfl ?_
                rw [← HQQ.out]
                exact ⟨HB.out.grown hgz HB.out.size (by intro k hk; injection hk with hk; omega), .inl ⟨HNO.out, rfl⟩⟩
              · skip
                have hz8 : (t1 == 8) = false := by rw [int_beq]; exact decide_eq_false h8t
                go_upto_region 17 with fail
                clear hz8
                obtain ⟨⟨o1, o2, o3⟩, ho⟩ : ∃ r, rdM t2 t3 8 = r := ⟨_, rfl⟩
                have hyl := rdM_len1 t2 t3 8
                rw [show ((8 : Nat) : Int) = 8 from rfl, ho] at hyl
                simp only at hyl
                have Ho := Lib.hid ho; have HoL := Lib.hid hyl
                clear ho hyl
                refine wp_plan (.t 0 (.t 1 (.t 2 (.u 3 (.u 4 .done))))) (fun y => True) (by kernel_rfl) (by kernel_rfl) (by kernel_rfl) (fun c a d v w h => by cases d <;> exact h) trivial ?_
                haveI hne : Nonempty (In fun y => True) := ⟨⟨w, trivial⟩⟩
                replace HB := Lib.hid HB.out.drew
                replace HRD := Lib.hid (HRD.out.to (Below.refl _ _).drew)
                replace HR : Hid (u58.drew.heap[g]? = some (.cells (splice (row0 0) 1 (n1.map (Value.int .u8))).toArray 32 (0, 0))) := HR
                replace H0 : Hid (u58.drew.heap[g0]? = some (.cells rowZ.toArray 32 (0, 0))) := H0
                generalize u58.drew = u65 at HB HRD HR H0 ⊢
                repeat (refine plan_t (by rfl) ?_; (first | go_big_quiet_skip | (go_big_quiet_want; go_big_quiet_op; go_big_quiet_on)); refine wpQuiet_nil ?_)
                refine plan_us (by rfl) (by kernel_rfl) ?_
                intro K hK
                go_wp2_with fail
                have hb := rraw_any w u65 0 p t2 t3 8 (by omega) HRD.out
                rw [Ho.out] at hb
                refine Calls.mono hb ?_
                clear hb
                rintro e u66 ⟨b, m, cb, rfl, hm, hI, hR, hg1, hlo⟩
                replace HR := Lib.hid (grown_row hg1 (by intro e; injection e with e; exact hgp e) HR.out)
                replace H0 := Lib.hid (grown_row hg1 (by intro e; injection e with e; omega) H0.out)
                replace HB := Lib.hid (HB.out.grown hg1 HB.out.size (by intro k hk; injection hk with hk; omega))
                replace HRD := Lib.hid hR
                have hm8 : m ≤ 8 := by have h1 : o1.length = m := hI.1; have := HoL.out; omega
                have HCP := Lib.hid (ints_copy hI 8 hm8)
                have HFIT : Hid (9 + (o1.map (Value.int .u8)).length ≤ (splice (row0 0) 1 (n1.map (Value.int .u8))).length) := Lib.hid (by rw [List.length_map, HL1.out]; have := HoL.out; omega)
                clear hR hg1 hI hlo hm hm8
                go_wp2_with fail
                refine ⟨trivial, ?_⟩
                refine plan_us (by rfl) (by kernel_rfl) ?_
                intro K hK
                refine wp_copy_grown _ _ 23 23 rfl 5 Try.underlying23 infoU8t _ _ _ _ _ _ rfl rfl g 9 (splice (row0 0) 1 (n1.map (Value.int .u8))) 32 HR.out (o1.map (Value.int .u8)) HCP.out.1 (fun h => ⟨rfl, HCP.out.2 h⟩) HFIT.out ints_one ?_
                intro u67 hr6 hg2
                replace HR := Lib.hid hr6
                replace H0 := Lib.hid (grown_row hg2 (by intro e; injection e with e; omega) H0.out)
                replace HRD := Lib.hid (HRD.out.grownG hg2 hgp hgW)
                replace HB := Lib.hid (HB.out.grown hg2 HB.out.size (by intro k hk; injection hk with hk; omega))
                refine hK _ _ ⟨trivial, ?_⟩
                clear hK hr6 hg2 hne HCP HFIT
                show Exit.then _ _ _ _ _
                simp only [Act.put, List.setIfInBounds_toArray, List.set_cons_succ, List.set_cons_zero]
                have hl2 : (splice (splice (row0 0) 1 (n1.map (Value.int .u8))) 9 (o1.map (Value.int .u8))).length = 20 := (length_splice _ _ _ (by rw [List.length_map, HL1.out]; have := HoL.out; omega)).trans HL1.out
                have HL2 := Lib.hid hl2
                have hat : ∀ k, k = 0 ∨ 17 ≤ k → (splice (splice (row0 0) 1 (n1.map (Value.int .u8))) 9 (o1.map (Value.int .u8)))[k]? = (row0 0)[k]? := fun k hk => by
                  rw [splice_at _ _ _ (by rw [List.length_map, HL1.out]; have := HoL.out; omega) k (by rw [List.length_map]; have := HoL.out; omega), splice_at _ _ _ (by rw [List.length_map]; have := HnL.out; show 1 + n1.length ≤ 20; omega) k (by rw [List.length_map]; have := HnL.out; omega)]
                have c0 : u67.cell? ⟨g, 0, none⟩ = some (.int .i64 0) := row_cell HR.out 0 _ (by rw [List.getElem?_toArray, hat 0 (by omega)]; rfl)
                have c17 : u67.cell? ⟨g, 17, none⟩ = some (.slice none 0 0) := row_cell HR.out 17 _ (by rw [List.getElem?_toArray, hat 17 (by omega)]; rfl)
                have hat17 := hat 17 (by omega)
                have C17 : Hid ((splice (splice (row0 0) 1 (n1.map (Value.int .u8))) 9 (o1.map (Value.int .u8)))[17]? = some (.slice none 0 0)) := Lib.hid (by rw [hat17]; rfl)
                clear hat hl2 hat17
                clear c17
                go_wp2_with fail
                obtain ⟨⟨k1, k2, k3⟩, hk⟩ : ∃ r, textM o2 o3 = r := ⟨_, rfl⟩
                have HK := Lib.hid (show tokM 0 o2 o3 = (k1, k2, k3) from hk)
                have hb := rtext_any w u67 0 p o2 o3 HRD.out
                rw [hk] at hb
                clear hk
                have hsz := HB.out.size
                refine Calls.mono hb ?_
                clear hb
                rintro e u68 ⟨b, n, cb, rfl, hm2, hI2, hR, hg1, hlo⟩
                have HGX : Hid (∀ x, b = some x → x.block ≠ g ∧ x.block ≠ p ∧ x.block ≠ g0) := Lib.hid (fun x hx => ⟨by have := hlo x hx; have := lt_of_block HR.out; omega, by have := hlo x hx; have := HRD.out.lt; omega, by have := hlo x hx; have := lt_of_block H0.out; omega⟩)
                replace HR := Lib.hid (grown_row hg1 (by intro e; injection e with e; exact hgp e) HR.out)
                replace H0 := Lib.hid (grown_row hg1 (by intro e; injection e with e; omega) H0.out)
                replace HB := Lib.hid (HB.out.grown hg1 HB.out.size (by intro k hk; injection hk with hk; omega))
                replace HRD := Lib.hid hR
                have HI5 := Lib.hid hI2
                have HLO := Lib.hid (fun x hx => Nat.le_trans hsz (hlo x hx))
                have HKL : Hid (k1.length = n) := Lib.hid hI2.1
                have HM2 := Lib.hid hm2
                clear hI2 hR hg1 hlo c0 hsz hm2
                have f17 := row_free HR.out 17
                have c17 : ∃ v, u68.cell? ⟨g, 17, none⟩ = some v := ⟨_, row_cell HR.out 17 _ (by rw [List.getElem?_toArray]; exact List.getElem?_eq_getElem (by rw [HL2.out]; decide))⟩
                obtain ⟨v17, c17⟩ := c17
                have hA := ((At.base HR.out).set 17 (.slice b n cb)).conv (cs' := (lrow 0 n1 o1 (.slice b n cb)).toArray) (by unfold lrow; rw [List.setIfInBounds_toArray])
                replace HI5 := Lib.hid (HI5.out.grownL hA.rest (fun h0 x hx e => by injection e with e; exact (HGX.out x hx).1 e))
                replace HR := Lib.hid hA.row
                replace H0 := Lib.hid (grown_row hA.rest (by intro e; injection e with e; omega) H0.out)
                replace HB := Lib.hid (HB.out.grown hA.rest HB.out.size (by intro k hk; injection hk with hk; omega))
                replace HRD := Lib.hid (HRD.out.grownG hA.rest hgp hgW)
                clear hA
                go_upto_region 20 with fail
                clear c17 f17
                generalize u68.setCell ⟨g, 17, none⟩ (.slice b n cb) = u69 at HI5 HR HB HRD H0 ⊢
                clear C17
                go_upto_region 21 with fail
                go_wp2_with fail
                obtain ⟨⟨m1, m2, m3⟩, hN⟩ : ∃ r, varM k2 k3 = r := ⟨_, rfl⟩
                have hb := rvar_any w u69 0 p k2 k3 HRD.out
                rw [hN] at hb
                have HN := Lib.hid hN
                clear hN
                refine Calls.mono hb ?_
                clear hb
                rintro e u70 ⟨rfl, hR, hg1⟩
                replace HR := Lib.hid (grown_row hg1 (by intro e; injection e with e; exact hgp e) HR.out)
                replace H0 := Lib.hid (grown_row hg1 (by intro e; injection e with e; omega) H0.out)
                replace HB := Lib.hid (HB.out.grown hg1 HB.out.size (by intro k hk; injection hk with hk; omega))
                replace HRD := Lib.hid hR
                clear hR hg1
                go_wp2_with (first | (refine wpList_store_row rfl 32 _ _ rfl g0 rfl rowZ rowZ rfl 32 H0.out rfl rfl rowZ_one ?_; intro wz hz hgz) | fail)
                (try simp only [Exit.inBlock, Exit.then])
                refine bodyPost_ret (results_cell4 rfl _ _ g0 rfl rowZ _ _ hz Try.underlying32 rfl rfl) rfl ?_
                rw [← HQQ.out]
                exact ⟨HB.out.grown hgz HB.out.size (by intro k hk; injection hk with hk; omega), .inl ⟨HNO.out, rfl⟩⟩
        · have hcv1 : (convert 23 9 (.slice a9 m9 c9)).run Try.prog w5 = .ok (.string (strOfNums v1)) w5 := conv_ints _ 5 _ _ Try.underlying23 Try.underlying5 Try.underlying9 HI9.out
          have hcv2 : (convert 23 9 (.slice (some ⟨w5.heap.size, 0, none⟩) 4 4)).run Try.prog (w5.alloc (.cells #[.int .u8 0, .int .u8 0, .int .u8 0, .int .u8 1] 5)) = .ok (.string (strOfNums [0, 0, 0, 1])) (w5.alloc (.cells #[.int .u8 0, .int .u8 0, .int .u8 0, .int .u8 1] 5)) := conv_ints _ 5 _ _ Try.underlying23 Try.underlying5 Try.underlying9 (IntsK.of_row (zs := [0, 0, 0, 1]) hga (by decide))
          have HWV := Lib.hid HI9.out.2.1
          replace HR := Lib.hid (bl_row hal (lt_of_block HR.out) HR.out)
          replace H0 := Lib.hid (bl_row hal (lt_of_block H0.out) H0.out)
          replace HB := Lib.hid (bl_next HB.out HB.out.size hal)
          replace HRD := Lib.hid (HRD.out.to hal)
          clear hal hga HI9
          go_upto_region 14 with fail
          clear hcv1 hcv2 hc0
          generalize w5.heap.size = gn
          generalize w5.alloc (.cells #[.int .u8 0, .int .u8 0, .int .u8 0, .int .u8 1] 5) = w6 at HR H0 HB HRD ⊢
          by_cases heq : v1 = [0, 0, 0, 1]
          · subst heq
            rw [beq_self_eq_true]
            go_wp2_with fail
            obtain ⟨⟨z1, z2, z3⟩, hz⟩ : ∃ r, byteM v2 v3 = r := ⟨_, rfl⟩
            have hb := rbyte_any w w6 0 p v2 v3 HRD.out
            rw [hz] at hb
            have Hz := Lib.hid hz
            clear hz
            refine Calls.mono hb ?_
            clear hb
            rintro e u71 ⟨rfl, hR, hg1⟩
            replace HR := Lib.hid (grown_row hg1 (by intro e; injection e with e; exact hgp e) HR.out)
            replace H0 := Lib.hid (grown_row hg1 (by intro e; injection e with e; omega) H0.out)
            replace HB := Lib.hid (HB.out.grown hg1 HB.out.size (by intro k hk; injection hk with hk; omega))
            replace HRD := Lib.hid hR
            clear hR hg1
            by_cases h8z : z1 = 8
            · skip
              subst h8z
              go_upto_region 15 with fail
              obtain ⟨⟨n1, n2, n3⟩, hn⟩ : ∃ r, rdM z2 z3 8 = r := ⟨_, rfl⟩
              have hyl := rdM_len1 z2 z3 8
              rw [show ((8 : Nat) : Int) = 8 from rfl, hn] at hyl
              simp only at hyl
              have Hn := Lib.hid hn; have HnL := Lib.hid hyl
              clear hn hyl
              refine wp_plan (.t 0 (.t 1 (.t 2 (.u 3 (.u 4 .done))))) (fun y => True) (by kernel_rfl) (by kernel_rfl) (by kernel_rfl) (fun c a d v w h => by cases d <;> exact h) trivial ?_
              haveI hne : Nonempty (In fun y => True) := ⟨⟨w, trivial⟩⟩
              replace HB := Lib.hid HB.out.drew
              replace HRD := Lib.hid (HRD.out.to (Below.refl _ _).drew)
              replace HR : Hid (u71.drew.heap[g]? = some (.cells (row0 1).toArray 32 (0, 0))) := HR
              replace H0 : Hid (u71.drew.heap[g0]? = some (.cells rowZ.toArray 32 (0, 0))) := H0
              generalize u71.drew = u72 at HB HRD HR H0 ⊢
              repeat (refine plan_t (by rfl) ?_; (first | go_big_quiet_skip | (go_big_quiet_want; go_big_quiet_op; go_big_quiet_on)); refine wpQuiet_nil ?_)
              refine plan_us (by rfl) (by kernel_rfl) ?_
              intro K hK
              go_wp2_with fail
              have hb := rraw_any w u72 0 p z2 z3 8 (by omega) HRD.out
              rw [Hn.out] at hb
              refine Calls.mono hb ?_
              clear hb
              rintro e u73 ⟨b, m, cb, rfl, hm, hI, hR, hg1, hlo⟩
              replace HR := Lib.hid (grown_row hg1 (by intro e; injection e with e; exact hgp e) HR.out)
              replace H0 := Lib.hid (grown_row hg1 (by intro e; injection e with e; omega) H0.out)
              replace HB := Lib.hid (HB.out.grown hg1 HB.out.size (by intro k hk; injection hk with hk; omega))
              replace HRD := Lib.hid hR
              have hm8 : m ≤ 8 := by have h1 : n1.length = m := hI.1; have := HnL.out; omega
              have HCP := Lib.hid (ints_copy hI 8 hm8)
              have HFIT : Hid (1 + (n1.map (Value.int .u8)).length ≤ (row0 1).length) := Lib.hid (by rw [List.length_map, show (row0 1).length = 20 from rfl]; have := HnL.out; omega)
              clear hR hg1 hI hlo hm hm8
              go_wp2_with fail
              refine ⟨trivial, ?_⟩
              refine plan_us (by rfl) (by kernel_rfl) ?_
              intro K hK
              refine wp_copy_grown _ _ 23 23 rfl 5 Try.underlying23 infoU8t _ _ _ _ _ _ rfl rfl g 1 (row0 1) 32 HR.out (n1.map (Value.int .u8)) HCP.out.1 (fun h => ⟨rfl, HCP.out.2 h⟩) HFIT.out ints_one ?_
              intro u74 hr6 hg2
              replace HR := Lib.hid hr6
              replace H0 := Lib.hid (grown_row hg2 (by intro e; injection e with e; omega) H0.out)
              replace HRD := Lib.hid (HRD.out.grownG hg2 hgp hgW)
              replace HB := Lib.hid (HB.out.grown hg2 HB.out.size (by intro k hk; injection hk with hk; omega))
              refine hK _ _ ⟨trivial, ?_⟩
              clear hK hr6 hg2 hne HCP HFIT
              show Exit.then _ _ _ _ _
              simp only [Act.put, List.setIfInBounds_toArray, List.set_cons_succ, List.set_cons_zero]
              have HNn : Hid (nameM v2 v3 = (true, n1, n2, n3)) := Lib.hid (by unfold nameM; rw [Hz.out, Hn.out]; rfl)
              have hl1 : (splice (row0 1) 1 (n1.map (Value.int .u8))).length = 20 := length_splice _ _ _ (by rw [List.length_map]; have := HnL.out; show 1 + n1.length ≤ 20; omega)
              have HL1 := Lib.hid hl1
              clear hl1
              go_wp2_with fail
              obtain ⟨⟨t1, t2, t3⟩, ht⟩ : ∃ r, byteM n2 n3 = r := ⟨_, rfl⟩
              have hb := rbyte_any w u74 0 p n2 n3 HRD.out
              rw [ht] at hb
              have Ht := Lib.hid ht
              clear ht
              refine Calls.mono hb ?_
              clear hb
              rintro e u75 ⟨rfl, hR, hg1⟩
              replace HR := Lib.hid (grown_row hg1 (by intro e; injection e with e; exact hgp e) HR.out)
              replace H0 := Lib.hid (grown_row hg1 (by intro e; injection e with e; omega) H0.out)
              replace HB := Lib.hid (HB.out.grown hg1 HB.out.size (by intro k hk; injection hk with hk; omega))
              replace HRD := Lib.hid hR
              clear hR hg1
              by_cases h8t : t1 = 8
              · skip
                subst h8t
                go_upto_region 17 with fail
                obtain ⟨⟨o1, o2, o3⟩, ho⟩ : ∃ r, rdM t2 t3 8 = r := ⟨_, rfl⟩
                have hyl := rdM_len1 t2 t3 8
                rw [show ((8 : Nat) : Int) = 8 from rfl, ho] at hyl
                simp only at hyl
                have Ho := Lib.hid ho; have HoL := Lib.hid hyl
                clear ho hyl
                refine wp_plan (.t 0 (.t 1 (.t 2 (.u 3 (.u 4 .done))))) (fun y => True) (by kernel_rfl) (by kernel_rfl) (by kernel_rfl) (fun c a d v w h => by cases d <;> exact h) trivial ?_
                haveI hne : Nonempty (In fun y => True) := ⟨⟨w, trivial⟩⟩
                replace HB := Lib.hid HB.out.drew
                replace HRD := Lib.hid (HRD.out.to (Below.refl _ _).drew)
                replace HR : Hid (u75.drew.heap[g]? = some (.cells (splice (row0 1) 1 (n1.map (Value.int .u8))).toArray 32 (0, 0))) := HR
                replace H0 : Hid (u75.drew.heap[g0]? = some (.cells rowZ.toArray 32 (0, 0))) := H0
                generalize u75.drew = u76 at HB HRD HR H0 ⊢
                repeat (refine plan_t (by rfl) ?_; (first | go_big_quiet_skip | (go_big_quiet_want; go_big_quiet_op; go_big_quiet_on)); refine wpQuiet_nil ?_)
                refine plan_us (by rfl) (by kernel_rfl) ?_
                intro K hK
                go_wp2_with fail
                have hb := rraw_any w u76 0 p t2 t3 8 (by omega) HRD.out
                rw [Ho.out] at hb
                refine Calls.mono hb ?_
                clear hb
                rintro e u77 ⟨b, m, cb, rfl, hm, hI, hR, hg1, hlo⟩
                replace HR := Lib.hid (grown_row hg1 (by intro e; injection e with e; exact hgp e) HR.out)
                replace H0 := Lib.hid (grown_row hg1 (by intro e; injection e with e; omega) H0.out)
                replace HB := Lib.hid (HB.out.grown hg1 HB.out.size (by intro k hk; injection hk with hk; omega))
                replace HRD := Lib.hid hR
                have hm8 : m ≤ 8 := by have h1 : o1.length = m := hI.1; have := HoL.out; omega
                have HCP := Lib.hid (ints_copy hI 8 hm8)
                have HFIT : Hid (9 + (o1.map (Value.int .u8)).length ≤ (splice (row0 1) 1 (n1.map (Value.int .u8))).length) := Lib.hid (by rw [List.length_map, HL1.out]; have := HoL.out; omega)
                clear hR hg1 hI hlo hm hm8
                go_wp2_with fail
                refine ⟨trivial, ?_⟩
                refine plan_us (by rfl) (by kernel_rfl) ?_
                intro K hK
                refine wp_copy_grown _ _ 23 23 rfl 5 Try.underlying23 infoU8t _ _ _ _ _ _ rfl rfl g 9 (splice (row0 1) 1 (n1.map (Value.int .u8))) 32 HR.out (o1.map (Value.int .u8)) HCP.out.1 (fun h => ⟨rfl, HCP.out.2 h⟩) HFIT.out ints_one ?_
                intro u78 hr6 hg2
                replace HR := Lib.hid hr6
                replace H0 := Lib.hid (grown_row hg2 (by intro e; injection e with e; omega) H0.out)
                replace HRD := Lib.hid (HRD.out.grownG hg2 hgp hgW)
                replace HB := Lib.hid (HB.out.grown hg2 HB.out.size (by intro k hk; injection hk with hk; omega))
                refine hK _ _ ⟨trivial, ?_⟩
                clear hK hr6 hg2 hne HCP HFIT
                show Exit.then _ _ _ _ _
                simp only [Act.put, List.setIfInBounds_toArray, List.set_cons_succ, List.set_cons_zero]
                have HNo : Hid (nameM n2 n3 = (true, o1, o2, o3)) := Lib.hid (by unfold nameM; rw [Ht.out, Ho.out]; rfl)
                have hl2 : (splice (splice (row0 1) 1 (n1.map (Value.int .u8))) 9 (o1.map (Value.int .u8))).length = 20 := (length_splice _ _ _ (by rw [List.length_map, HL1.out]; have := HoL.out; omega)).trans HL1.out
                have HL2 := Lib.hid hl2
                have hat : ∀ k, k = 0 ∨ 17 ≤ k → (splice (splice (row0 1) 1 (n1.map (Value.int .u8))) 9 (o1.map (Value.int .u8)))[k]? = (row0 1)[k]? := fun k hk => by
                  rw [splice_at _ _ _ (by rw [List.length_map, HL1.out]; have := HoL.out; omega) k (by rw [List.length_map]; have := HoL.out; omega), splice_at _ _ _ (by rw [List.length_map]; have := HnL.out; show 1 + n1.length ≤ 20; omega) k (by rw [List.length_map]; have := HnL.out; omega)]
                have c0 : u78.cell? ⟨g, 0, none⟩ = some (.int .i64 1) := row_cell HR.out 0 _ (by rw [List.getElem?_toArray, hat 0 (by omega)]; rfl)
                have c17 : u78.cell? ⟨g, 17, none⟩ = some (.slice none 0 0) := row_cell HR.out 17 _ (by rw [List.getElem?_toArray, hat 17 (by omega)]; rfl)
                have hat17 := hat 17 (by omega)
                have C17 : Hid ((splice (splice (row0 1) 1 (n1.map (Value.int .u8))) 9 (o1.map (Value.int .u8)))[17]? = some (.slice none 0 0)) := Lib.hid (by rw [hat17]; rfl)
                clear hat hl2 hat17
                have HK : Hid (tokM 1 o2 o3 = ([], o2, o3)) := Lib.hid (by unfold tokM; rw [if_neg (by decide)])
                go_upto_region 20 with fail
                clear c0 c17
                replace HR : Hid (u78.heap[g]? = some (.cells (lrow 1 n1 o1 (.slice none 0 0)).toArray 32 (0, 0))) := Lib.hid (by
                  have h := HR.out
                  have e : lrow 1 n1 o1 (.slice none 0 0) = (splice (splice (row0 1) 1 (n1.map (Value.int .u8))) 9 (o1.map (Value.int .u8))) := by
                    unfold lrow
                    refine List.ext_getElem? fun i => ?_
                    rw [List.getElem?_set]
                    split
                    · rename_i hi
                      subst hi
                      rw [if_pos (by rw [HL2.out]; decide)]
                      exact (C17.out).symm
                    · rfl
                  rw [e]
                  exact h)
                clear C17
                have c17 : u78.cell? ⟨g, 17, none⟩ = some (.slice none 0 0) := row_cell HR.out 17 _ (by rw [List.getElem?_toArray]; unfold lrow; rw [List.getElem?_set_self (by rw [HL2.out]; decide)])
                go_upto_region 21 with fail
                clear c17
                go_wp2_with fail
                obtain ⟨⟨m1, m2, m3⟩, hN⟩ : ∃ r, varM o2 o3 = r := ⟨_, rfl⟩
                have hb := rvar_any w u78 0 p o2 o3 HRD.out
                rw [hN] at hb
                have HN := Lib.hid hN
                clear hN
                refine Calls.mono hb ?_
                clear hb
                rintro e u79 ⟨rfl, hR, hg1⟩
                replace HR := Lib.hid (grown_row hg1 (by intro e; injection e with e; exact hgp e) HR.out)
                replace H0 := Lib.hid (grown_row hg1 (by intro e; injection e with e; omega) H0.out)
                replace HB := Lib.hid (HB.out.grown hg1 HB.out.size (by intro k hk; injection hk with hk; omega))
                replace HRD := Lib.hid hR
                clear hR hg1
                have HG := Lib.hid (lg_some HQ.out (by decide) HV.out HNn.out HNo.out HK.out (by decide) HN.out)
                have hgrl : m2.length ≤ len := by have h := lg_lenr HG.out; simp only at h; have := HLX.out; omega
                obtain ⟨ra, rc, hc0, hc1⟩ := HRD.out.cells
                cases m3 with
                | true =>
                  go_wp2_with (first | (refine wpList_store_row rfl 32 _ _ rfl g0 rfl rowZ rowZ rfl 32 H0.out rfl rfl rowZ_one ?_; intro wz hz hgz) | fail)
                  (try simp only [Exit.inBlock, Exit.then])
                  refine bodyPost_ret (results_cell4 rfl _ _ g0 rfl rowZ _ _ hz Try.underlying32 rfl rfl) rfl ?_
                  rw [← HQQ.out]
                  exact ⟨HB.out.grown hgz HB.out.size (by intro k hk; injection hk with hk; omega), .inl ⟨par_l_x HX.out h128 HG.out (.inl rfl), rfl⟩⟩
                | false =>
                  by_cases hgt : ((m2.length : Nat) : Int) < m1
                  · skip
                    go_wp2_with (first | (refine wpList_store_row rfl 32 _ _ rfl g0 rfl rowZ rowZ rfl 32 H0.out rfl rfl rowZ_one ?_; intro wz hz hgz) | fail)
                    (try simp only [Exit.inBlock, Exit.then])
                    refine bodyPost_ret (results_cell4 rfl _ _ g0 rfl rowZ _ _ hz Try.underlying32 rfl rfl) rfl ?_
                    rw [← HQQ.out]
                    exact ⟨HB.out.grown hgz HB.out.size (by intro k hk; injection hk with hk; omega), .inl ⟨par_l_x HX.out h128 HG.out (.inr (.inr hgt)), rfl⟩⟩
                  · by_cases h12 : m1 < 12
                    · skip
                      go_wp2_with (first | (refine wpList_store_row rfl 32 _ _ rfl g0 rfl rowZ rowZ rfl 32 H0.out rfl rfl rowZ_one ?_; intro wz hz hgz) | fail)
                      (try simp only [Exit.inBlock, Exit.then])
                      refine bodyPost_ret (results_cell4 rfl _ _ g0 rfl rowZ _ _ hz Try.underlying32 rfl rfl) rfl ?_
                      rw [← HQQ.out]
                      exact ⟨HB.out.grown hgz HB.out.size (by intro k hk; injection hk with hk; omega), .inl ⟨par_l_x HX.out h128 HG.out (.inr (.inl h12)), rfl⟩⟩
                    · have hl8 := lg_lens HG.out rfl
                      have hrow := HR.out
                      simp only at hl8
                      rw [show lrow 1 n1 o1 (.slice none 0 0) = (Hd.mk 1 n1 o1 [] 1 false).row none 0 from lrow_row 1 n1 o1 [] none 0 hl8.1 hl8.2] at hrow
                      have HONE := Lib.hid (row_one ⟨1, n1, o1, [], 1, false⟩ none 0)
                      have HRL := Lib.hid (row_len ⟨1, n1, o1, [], 1, false⟩ none 0 hl8.1 hl8.2)
                      obtain ⟨RW, hRW⟩ : ∃ RW, (Hd.row ⟨1, n1, o1, [], 1, false⟩ none 0) = RW := ⟨_, rfl⟩
                      rw [hRW] at hrow HONE HRL
                      have HRW := Lib.hid hRW; have HROW := Lib.hid hrow
                      clear hrow hRW HR
                      go_wp2_with (first | (refine wpList_load_mid rfl 32 _ rfl g 0 rfl _ _ (rng20 HROW.out) Try.underlying32 rfl (by rw [HRL.out]; rfl) ?_) | (refine wpList_store_row rfl 32 _ _ rfl g0 rfl RW rowZ rfl 32 H0.out (by rw [HRL.out]; rfl) (by rw [HRL.out]; rfl) HONE.out ?_; intro wz hz hgz) | fail)
                      (try simp only [Exit.inBlock, Exit.then])
                      refine bodyPost_ret (results_cell4 rfl _ _ g0 rfl RW _ _ hz Try.underlying32 rfl (by rw [HRL.out]; rfl)) rfl ?_
                      rw [← HQQ.out]
                      refine ⟨HB.out.grown hgz HB.out.size (by intro k hk; injection hk with hk; omega), .inr ⟨_, _, _, none, 0, par_l_ok HX.out h128 (by omega) HG.out (by simp <;> omega), ?_, IntsK.nil _ _ _, Nat.le_refl _, fun x hx => by cases hx⟩⟩
                      (try simp only)
                      rw [show Hd.val ⟨1, n1, o1, [], 1, false⟩ none 0 = .agg RW.toArray by unfold Hd.val; rw [HRW.out]]
                      exact tuple4_eq (by rw [HLB.out]; omega) (by rw [HLB.out]; omega)
              · skip
                have hz8 : (t1 == 8) = false := by rw [int_beq]; exact decide_eq_false h8t
                have HNO : Hid (parM bs = none) := Lib.hid (par_l_no HX.out h128 (lg_no (by
                  rw [HV.out]; simp only; rw [HNn.out]; refine fun h => ?_; have h := h.2.2.2.1; revert h; simp only; unfold nameM; rw [Ht.out]
                  exact fun h => h8t (of_decide_eq_true h))))
                go_upto_region 17 with fail
                clear hz8
                obtain ⟨⟨o1, o2, o3⟩, ho⟩ : ∃ r, rdM t2 t3 8 = r := ⟨_, rfl⟩
                have hyl := rdM_len1 t2 t3 8
                rw [show ((8 : Nat) : Int) = 8 from rfl, ho] at hyl
                simp only at hyl
                have Ho := Lib.hid ho; have HoL := Lib.hid hyl
                clear ho hyl
                refine wp_plan (.t 0 (.t 1 (.t 2 (.u 3 (.u 4 .done))))) (fun y => True) (by kernel_rfl) (by kernel_rfl) (by kernel_rfl) (fun c a d v w h => by cases d <;> exact h) trivial ?_
                haveI hne : Nonempty (In fun y => True) := ⟨⟨w, trivial⟩⟩
                replace HB := Lib.hid HB.out.drew
                replace HRD := Lib.hid (HRD.out.to (Below.refl _ _).drew)
                replace HR : Hid (u75.drew.heap[g]? = some (.cells (splice (row0 1) 1 (n1.map (Value.int .u8))).toArray 32 (0, 0))) := HR
                replace H0 : Hid (u75.drew.heap[g0]? = some (.cells rowZ.toArray 32 (0, 0))) := H0
                generalize u75.drew = u80 at HB HRD HR H0 ⊢
                repeat (refine plan_t (by rfl) ?_; (first | go_big_quiet_skip | (go_big_quiet_want; go_big_quiet_op; go_big_quiet_on)); refine wpQuiet_nil ?_)
                refine plan_us (by rfl) (by kernel_rfl) ?_
                intro K hK
                go_wp2_with fail
                have hb := rraw_any w u80 0 p t2 t3 8 (by omega) HRD.out
                rw [Ho.out] at hb
                refine Calls.mono hb ?_
                clear hb
                rintro e u81 ⟨b, m, cb, rfl, hm, hI, hR, hg1, hlo⟩
                replace HR := Lib.hid (grown_row hg1 (by intro e; injection e with e; exact hgp e) HR.out)
                replace H0 := Lib.hid (grown_row hg1 (by intro e; injection e with e; omega) H0.out)
                replace HB := Lib.hid (HB.out.grown hg1 HB.out.size (by intro k hk; injection hk with hk; omega))
                replace HRD := Lib.hid hR
                have hm8 : m ≤ 8 := by have h1 : o1.length = m := hI.1; have := HoL.out; omega
                have HCP := Lib.hid (ints_copy hI 8 hm8)
                have HFIT : Hid (9 + (o1.map (Value.int .u8)).length ≤ (splice (row0 1) 1 (n1.map (Value.int .u8))).length) := Lib.hid (by rw [List.length_map, HL1.out]; have := HoL.out; omega)
                clear hR hg1 hI hlo hm hm8
                go_wp2_with fail
                refine ⟨trivial, ?_⟩
                refine plan_us (by rfl) (by kernel_rfl) ?_
                intro K hK
                refine wp_copy_grown _ _ 23 23 rfl 5 Try.underlying23 infoU8t _ _ _ _ _ _ rfl rfl g 9 (splice (row0 1) 1 (n1.map (Value.int .u8))) 32 HR.out (o1.map (Value.int .u8)) HCP.out.1 (fun h => ⟨rfl, HCP.out.2 h⟩) HFIT.out ints_one ?_
                intro u82 hr6 hg2
                replace HR := Lib.hid hr6
                replace H0 := Lib.hid (grown_row hg2 (by intro e; injection e with e; omega) H0.out)
                replace HRD := Lib.hid (HRD.out.grownG hg2 hgp hgW)
                replace HB := Lib.hid (HB.out.grown hg2 HB.out.size (by intro k hk; injection hk with hk; omega))
                refine hK _ _ ⟨trivial, ?_⟩
                clear hK hr6 hg2 hne HCP HFIT
                show Exit.then _ _ _ _ _
                simp only [Act.put, List.setIfInBounds_toArray, List.set_cons_succ, List.set_cons_zero]
                have hl2 : (splice (splice (row0 1) 1 (n1.map (Value.int .u8))) 9 (o1.map (Value.int .u8))).length = 20 := (length_splice _ _ _ (by rw [List.length_map, HL1.out]; have := HoL.out; omega)).trans HL1.out
                have HL2 := Lib.hid hl2
                have hat : ∀ k, k = 0 ∨ 17 ≤ k → (splice (splice (row0 1) 1 (n1.map (Value.int .u8))) 9 (o1.map (Value.int .u8)))[k]? = (row0 1)[k]? := fun k hk => by
                  rw [splice_at _ _ _ (by rw [List.length_map, HL1.out]; have := HoL.out; omega) k (by rw [List.length_map]; have := HoL.out; omega), splice_at _ _ _ (by rw [List.length_map]; have := HnL.out; show 1 + n1.length ≤ 20; omega) k (by rw [List.length_map]; have := HnL.out; omega)]
                have c0 : u82.cell? ⟨g, 0, none⟩ = some (.int .i64 1) := row_cell HR.out 0 _ (by rw [List.getElem?_toArray, hat 0 (by omega)]; rfl)
                have c17 : u82.cell? ⟨g, 17, none⟩ = some (.slice none 0 0) := row_cell HR.out 17 _ (by rw [List.getElem?_toArray, hat 17 (by omega)]; rfl)
                have hat17 := hat 17 (by omega)
                have C17 : Hid ((splice (splice (row0 1) 1 (n1.map (Value.int .u8))) 9 (o1.map (Value.int .u8)))[17]? = some (.slice none 0 0)) := Lib.hid (by rw [hat17]; rfl)
                clear hat hl2 hat17
                have HK : Hid (tokM 1 o2 o3 = ([], o2, o3)) := Lib.hid (by unfold tokM; rw [if_neg (by decide)])
                go_upto_region 20 with fail
                clear c0 c17
                replace HR : Hid (u82.heap[g]? = some (.cells (lrow 1 n1 o1 (.slice none 0 0)).toArray 32 (0, 0))) := Lib.hid (by
                  have h := HR.out
                  have e : lrow 1 n1 o1 (.slice none 0 0) = (splice (splice (row0 1) 1 (n1.map (Value.int .u8))) 9 (o1.map (Value.int .u8))) := by
                    unfold lrow
                    refine List.ext_getElem? fun i => ?_
                    rw [List.getElem?_set]
                    split
                    · rename_i hi
                      subst hi
                      rw [if_pos (by rw [HL2.out]; decide)]
                      exact (C17.out).symm
                    · rfl
                  rw [e]
                  exact h)
                clear C17
                go_upto_region 21 with fail
                go_wp2_with fail
                obtain ⟨⟨m1, m2, m3⟩, hN⟩ : ∃ r, varM o2 o3 = r := ⟨_, rfl⟩
                have hb := rvar_any w u82 0 p o2 o3 HRD.out
                rw [hN] at hb
                have HN := Lib.hid hN
                clear hN
                refine Calls.mono hb ?_
                clear hb
                rintro e u83 ⟨rfl, hR, hg1⟩
                replace HR := Lib.hid (grown_row hg1 (by intro e; injection e with e; exact hgp e) HR.out)
                replace H0 := Lib.hid (grown_row hg1 (by intro e; injection e with e; omega) H0.out)
                replace HB := Lib.hid (HB.out.grown hg1 HB.out.size (by intro k hk; injection hk with hk; omega))
                replace HRD := Lib.hid hR
                clear hR hg1
                go_wp2_with (first | (refine wpList_store_row rfl 32 _ _ rfl g0 rfl rowZ rowZ rfl 32 H0.out rfl rfl rowZ_one ?_; intro wz hz hgz) | fail)
                (try simp only [Exit.inBlock, Exit.then])
                refine bodyPost_ret (results_cell4 rfl _ _ g0 rfl rowZ _ _ hz Try.underlying32 rfl rfl) rfl ?_
                rw [← HQQ.out]
                exact ⟨HB.out.grown hgz HB.out.size (by intro k hk; injection hk with hk; omega), .inl ⟨HNO.out, rfl⟩⟩
            · skip
              have hz8 : (z1 == 8) = false := by rw [int_beq]; exact decide_eq_false h8z
              have HNO : Hid (parM bs = none) := Lib.hid (par_l_no HX.out h128 (lg_no (by
                rw [HV.out]; refine fun h => ?_; have h := h.2.2.1; revert h; unfold nameM; rw [Hz.out]
                exact fun h => h8z (of_decide_eq_true h))))
              go_upto_region 15 with fail
              clear hz8
              obtain ⟨⟨n1, n2, n3⟩, hn⟩ : ∃ r, rdM z2 z3 8 = r := ⟨_, rfl⟩
              have hyl := rdM_len1 z2 z3 8
              rw [show ((8 : Nat) : Int) = 8 from rfl, hn] at hyl
              simp only at hyl
              have Hn := Lib.hid hn; have HnL := Lib.hid hyl
              clear hn hyl
              refine wp_plan (.t 0 (.t 1 (.t 2 (.u 3 (.u 4 .done))))) (fun y => True) (by kernel_rfl) (by kernel_rfl) (by kernel_rfl) (fun c a d v w h => by cases d <;> exact h) trivial ?_
              haveI hne : Nonempty (In fun y => True) := ⟨⟨w, trivial⟩⟩
              replace HB := Lib.hid HB.out.drew
              replace HRD := Lib.hid (HRD.out.to (Below.refl _ _).drew)
              replace HR : Hid (u71.drew.heap[g]? = some (.cells (row0 1).toArray 32 (0, 0))) := HR
              replace H0 : Hid (u71.drew.heap[g0]? = some (.cells rowZ.toArray 32 (0, 0))) := H0
              generalize u71.drew = u84 at HB HRD HR H0 ⊢
              repeat (refine plan_t (by rfl) ?_; (first | go_big_quiet_skip | (go_big_quiet_want; go_big_quiet_op; go_big_quiet_on)); refine wpQuiet_nil ?_)
              refine plan_us (by rfl) (by kernel_rfl) ?_
              intro K hK
              go_wp2_with fail
              have hb := rraw_any w u84 0 p z2 z3 8 (by omega) HRD.out
              rw [Hn.out] at hb
              refine Calls.mono hb ?_
              clear hb
              rintro e u85 ⟨b, m, cb, rfl, hm, hI, hR, hg1, hlo⟩
              replace HR := Lib.hid (grown_row hg1 (by intro e; injection e with e; exact hgp e) HR.out)
              replace H0 := Lib.hid (grown_row hg1 (by intro e; injection e with e; omega) H0.out)
              replace HB := Lib.hid (HB.out.grown hg1 HB.out.size (by intro k hk; injection hk with hk; omega))
              replace HRD := Lib.hid hR
              have hm8 : m ≤ 8 := by have h1 : n1.length = m := hI.1; have := HnL.out; omega
              have HCP := Lib.hid (ints_copy hI 8 hm8)
              have HFIT : Hid (1 + (n1.map (Value.int .u8)).length ≤ (row0 1).length) := Lib.hid (by rw [List.length_map, show (row0 1).length = 20 from rfl]; have := HnL.out; omega)
              clear hR hg1 hI hlo hm hm8
              go_wp2_with fail
              refine ⟨trivial, ?_⟩
              refine plan_us (by rfl) (by kernel_rfl) ?_
              intro K hK
              refine wp_copy_grown _ _ 23 23 rfl 5 Try.underlying23 infoU8t _ _ _ _ _ _ rfl rfl g 1 (row0 1) 32 HR.out (n1.map (Value.int .u8)) HCP.out.1 (fun h => ⟨rfl, HCP.out.2 h⟩) HFIT.out ints_one ?_
              intro u86 hr6 hg2
              replace HR := Lib.hid hr6
              replace H0 := Lib.hid (grown_row hg2 (by intro e; injection e with e; omega) H0.out)
              replace HRD := Lib.hid (HRD.out.grownG hg2 hgp hgW)
              replace HB := Lib.hid (HB.out.grown hg2 HB.out.size (by intro k hk; injection hk with hk; omega))
              refine hK _ _ ⟨trivial, ?_⟩
              clear hK hr6 hg2 hne HCP HFIT
              show Exit.then _ _ _ _ _
              simp only [Act.put, List.setIfInBounds_toArray, List.set_cons_succ, List.set_cons_zero]
              have hl1 : (splice (row0 1) 1 (n1.map (Value.int .u8))).length = 20 := length_splice _ _ _ (by rw [List.length_map]; have := HnL.out; show 1 + n1.length ≤ 20; omega)
              have HL1 := Lib.hid hl1
              clear hl1
              go_wp2_with fail
              obtain ⟨⟨t1, t2, t3⟩, ht⟩ : ∃ r, byteM n2 n3 = r := ⟨_, rfl⟩
              have hb := rbyte_any w u86 0 p n2 n3 HRD.out
              rw [ht] at hb
              have Ht := Lib.hid ht
              clear ht
              refine Calls.mono hb ?_
              clear hb
              rintro e u87 ⟨rfl, hR, hg1⟩
              replace HR := Lib.hid (grown_row hg1 (by intro e; injection e with e; exact hgp e) HR.out)
              replace H0 := Lib.hid (grown_row hg1 (by intro e; injection e with e; omega) H0.out)
              replace HB := Lib.hid (HB.out.grown hg1 HB.out.size (by intro k hk; injection hk with hk; omega))
              replace HRD := Lib.hid hR
              clear hR hg1
              by_cases h8t : t1 = 8
              · skip
                subst h8t
                go_upto_region 17 with fail
                obtain ⟨⟨o1, o2, o3⟩, ho⟩ : ∃ r, rdM t2 t3 8 = r := ⟨_, rfl⟩
                have hyl := rdM_len1 t2 t3 8
                rw [show ((8 : Nat) : Int) = 8 from rfl, ho] at hyl
                simp only at hyl
                have Ho := Lib.hid ho; have HoL := Lib.hid hyl
                clear ho hyl
                refine wp_plan (.t 0 (.t 1 (.t 2 (.u 3 (.u 4 .done))))) (fun y => True) (by kernel_rfl) (by kernel_rfl) (by kernel_rfl) (fun c a d v w h => by cases d <;> exact h) trivial ?_
                haveI hne : Nonempty (In fun y => True) := ⟨⟨w, trivial⟩⟩
                replace HB := Lib.hid HB.out.drew
                replace HRD := Lib.hid (HRD.out.to (Below.refl _ _).drew)
                replace HR : Hid (u87.drew.heap[g]? = some (.cells (splice (row0 1) 1 (n1.map (Value.int .u8))).toArray 32 (0, 0))) := HR
                replace H0 : Hid (u87.drew.heap[g0]? = some (.cells rowZ.toArray 32 (0, 0))) := H0
                generalize u87.drew = u88 at HB HRD HR H0 ⊢
                repeat (refine plan_t (by rfl) ?_; (first | go_big_quiet_skip | (go_big_quiet_want; go_big_quiet_op; go_big_quiet_on)); refine wpQuiet_nil ?_)
                refine plan_us (by rfl) (by kernel_rfl) ?_
                intro K hK
                go_wp2_with fail
                have hb := rraw_any w u88 0 p t2 t3 8 (by omega) HRD.out
                rw [Ho.out] at hb
                refine Calls.mono hb ?_
                clear hb
                rintro e u89 ⟨b, m, cb, rfl, hm, hI, hR, hg1, hlo⟩
                replace HR := Lib.hid (grown_row hg1 (by intro e; injection e with e; exact hgp e) HR.out)
                replace H0 := Lib.hid (grown_row hg1 (by intro e; injection e with e; omega) H0.out)
                replace HB := Lib.hid (HB.out.grown hg1 HB.out.size (by intro k hk; injection hk with hk; omega))
                replace HRD := Lib.hid hR
                have hm8 : m ≤ 8 := by have h1 : o1.length = m := hI.1; have := HoL.out; omega
                have HCP := Lib.hid (ints_copy hI 8 hm8)
                have HFIT : Hid (9 + (o1.map (Value.int .u8)).length ≤ (splice (row0 1) 1 (n1.map (Value.int .u8))).length) := Lib.hid (by rw [List.length_map, HL1.out]; have := HoL.out; omega)
                clear hR hg1 hI hlo hm hm8
                go_wp2_with fail
                refine ⟨trivial, ?_⟩
                refine plan_us (by rfl) (by kernel_rfl) ?_
                intro K hK
                refine wp_copy_grown _ _ 23 23 rfl 5 Try.underlying23 infoU8t _ _ _ _ _ _ rfl rfl g 9 (splice (row0 1) 1 (n1.map (Value.int .u8))) 32 HR.out (o1.map (Value.int .u8)) HCP.out.1 (fun h => ⟨rfl, HCP.out.2 h⟩) HFIT.out ints_one ?_
                intro u90 hr6 hg2
                replace HR := Lib.hid hr6
                replace H0 := Lib.hid (grown_row hg2 (by intro e; injection e with e; omega) H0.out)
                replace HRD := Lib.hid (HRD.out.grownG hg2 hgp hgW)
                replace HB := Lib.hid (HB.out.grown hg2 HB.out.size (by intro k hk; injection hk with hk; omega))
                refine hK _ _ ⟨trivial, ?_⟩
                clear hK hr6 hg2 hne HCP HFIT
                show Exit.then _ _ _ _ _
                simp only [Act.put, List.setIfInBounds_toArray, List.set_cons_succ, List.set_cons_zero]
                have hl2 : (splice (splice (row0 1) 1 (n1.map (Value.int .u8))) 9 (o1.map (Value.int .u8))).length = 20 := (length_splice _ _ _ (by rw [List.length_map, HL1.out]; have := HoL.out; omega)).trans HL1.out
                have HL2 := Lib.hid hl2
                have hat : ∀ k, k = 0 ∨ 17 ≤ k → (splice (splice (row0 1) 1 (n1.map (Value.int .u8))) 9 (o1.map (Value.int .u8)))[k]? = (row0 1)[k]? := fun k hk => by
                  rw [splice_at _ _ _ (by rw [List.length_map, HL1.out]; have := HoL.out; omega) k (by rw [List.length_map]; have := HoL.out; omega), splice_at _ _ _ (by rw [List.length_map]; have := HnL.out; show 1 + n1.length ≤ 20; omega) k (by rw [List.length_map]; have := HnL.out; omega)]
                have c0 : u90.cell? ⟨g, 0, none⟩ = some (.int .i64 1) := row_cell HR.out 0 _ (by rw [List.getElem?_toArray, hat 0 (by omega)]; rfl)
                have c17 : u90.cell? ⟨g, 17, none⟩ = some (.slice none 0 0) := row_cell HR.out 17 _ (by rw [List.getElem?_toArray, hat 17 (by omega)]; rfl)
                have hat17 := hat 17 (by omega)
                have C17 : Hid ((splice (splice (row0 1) 1 (n1.map (Value.int .u8))) 9 (o1.map (Value.int .u8)))[17]? = some (.slice none 0 0)) := Lib.hid (by rw [hat17]; rfl)
                clear hat hl2 hat17
                have HK : Hid (tokM 1 o2 o3 = ([], o2, o3)) := Lib.hid (by unfold tokM; rw [if_neg (by decide)])
                go_upto_region 20 with fail
                clear c0 c17
                replace HR : Hid (u90.heap[g]? = some (.cells (lrow 1 n1 o1 (.slice none 0 0)).toArray 32 (0, 0))) := Lib.hid (by
                  have h := HR.out
                  have e : lrow 1 n1 o1 (.slice none 0 0) = (splice (splice (row0 1) 1 (n1.map (Value.int .u8))) 9 (o1.map (Value.int .u8))) := by
                    unfold lrow
                    refine List.ext_getElem? fun i => ?_
                    rw [List.getElem?_set]
                    split
                    · rename_i hi
                      subst hi
                      rw [if_pos (by rw [HL2.out]; decide)]
                      exact (C17.out).symm
                    · rfl
                  rw [e]
                  exact h)
                clear C17
                go_upto_region 21 with fail
                go_wp2_with fail
                obtain ⟨⟨m1, m2, m3⟩, hN⟩ : ∃ r, varM o2 o3 = r := ⟨_, rfl⟩
                have hb := rvar_any w u90 0 p o2 o3 HRD.out
                rw [hN] at hb
                have HN := Lib.hid hN
                clear hN
                refine Calls.mono hb ?_
                clear hb
                rintro e u91 ⟨rfl, hR, hg1⟩
                replace HR := Lib.hid (grown_row hg1 (by intro e; injection e with e; exact hgp e) HR.out)
                replace H0 := Lib.hid (grown_row hg1 (by intro e; injection e with e; omega) H0.out)
                replace HB := Lib.hid (HB.out.grown hg1 HB.out.size (by intro k hk; injection hk with hk; omega))
                replace HRD := Lib.hid hR
                clear hR hg1
                go_wp2_with (first | (refine wpList_store_row rfl 32 _ _ rfl g0 rfl rowZ rowZ rfl 32 H0.out rfl rfl rowZ_one ?_; intro wz hz hgz) | fail)
                (try simp only [Exit.inBlock, Exit.then])
                refine bodyPost_ret (results_cell4 rfl _ _ g0 rfl rowZ _ _ hz Try.underlying32 rfl rfl) rfl ?_
                rw [← HQQ.out]
                exact ⟨HB.out.grown hgz HB.out.size (by intro k hk; injection hk with hk; omega), .inl ⟨HNO.out, rfl⟩⟩
              · skip
                have hz8 : (t1 == 8) = false := by rw [int_beq]; exact decide_eq_false h8t
                go_upto_region 17 with fail
                clear hz8
                obtain ⟨⟨o1, o2, o3⟩, ho⟩ : ∃ r, rdM t2 t3 8 = r := ⟨_, rfl⟩
                have hyl := rdM_len1 t2 t3 8
                rw [show ((8 : Nat) : Int) = 8 from rfl, ho] at hyl
                simp only at hyl
                have Ho := Lib.hid ho; have HoL := Lib.hid hyl
                clear ho hyl
                refine wp_plan (.t 0 (.t 1 (.t 2 (.u 3 (.u 4 .done))))) (fun y => True) (by kernel_rfl) (by kernel_rfl) (by kernel_rfl) (fun c a d v w h => by cases d <;> exact h) trivial ?_
                haveI hne : Nonempty (In fun y => True) := ⟨⟨w, trivial⟩⟩
                replace HB := Lib.hid HB.out.drew
                replace HRD := Lib.hid (HRD.out.to (Below.refl _ _).drew)
                replace HR : Hid (u87.drew.heap[g]? = some (.cells (splice (row0 1) 1 (n1.map (Value.int .u8))).toArray 32 (0, 0))) := HR
                replace H0 : Hid (u87.drew.heap[g0]? = some (.cells rowZ.toArray 32 (0, 0))) := H0
                generalize u87.drew = u92 at HB HRD HR H0 ⊢
                repeat (refine plan_t (by rfl) ?_; (first | go_big_quiet_skip | (go_big_quiet_want; go_big_quiet_op; go_big_quiet_on)); refine wpQuiet_nil ?_)
                refine plan_us (by rfl) (by kernel_rfl) ?_
                intro K hK
                go_wp2_with fail
                have hb := rraw_any w u92 0 p t2 t3 8 (by omega) HRD.out
                rw [Ho.out] at hb
                refine Calls.mono hb ?_
                clear hb
                rintro e u93 ⟨b, m, cb, rfl, hm, hI, hR, hg1, hlo⟩
                replace HR := Lib.hid (grown_row hg1 (by intro e; injection e with e; exact hgp e) HR.out)
                replace H0 := Lib.hid (grown_row hg1 (by intro e; injection e with e; omega) H0.out)
                replace HB := Lib.hid (HB.out.grown hg1 HB.out.size (by intro k hk; injection hk with hk; omega))
                replace HRD := Lib.hid hR
                have hm8 : m ≤ 8 := by have h1 : o1.length = m := hI.1; have := HoL.out; omega
                have HCP := Lib.hid (ints_copy hI 8 hm8)
                have HFIT : Hid (9 + (o1.map (Value.int .u8)).length ≤ (splice (row0 1) 1 (n1.map (Value.int .u8))).length) := Lib.hid (by rw [List.length_map, HL1.out]; have := HoL.out; omega)
                clear hR hg1 hI hlo hm hm8
                go_wp2_with fail
                refine ⟨trivial, ?_⟩
                refine plan_us (by rfl) (by kernel_rfl) ?_
                intro K hK
                refine wp_copy_grown _ _ 23 23 rfl 5 Try.underlying23 infoU8t _ _ _ _ _ _ rfl rfl g 9 (splice (row0 1) 1 (n1.map (Value.int .u8))) 32 HR.out (o1.map (Value.int .u8)) HCP.out.1 (fun h => ⟨rfl, HCP.out.2 h⟩) HFIT.out ints_one ?_
                intro u94 hr6 hg2
                replace HR := Lib.hid hr6
                replace H0 := Lib.hid (grown_row hg2 (by intro e; injection e with e; omega) H0.out)
                replace HRD := Lib.hid (HRD.out.grownG hg2 hgp hgW)
                replace HB := Lib.hid (HB.out.grown hg2 HB.out.size (by intro k hk; injection hk with hk; omega))
                refine hK _ _ ⟨trivial, ?_⟩
                clear hK hr6 hg2 hne HCP HFIT
                show Exit.then _ _ _ _ _
                simp only [Act.put, List.setIfInBounds_toArray, List.set_cons_succ, List.set_cons_zero]
                have hl2 : (splice (splice (row0 1) 1 (n1.map (Value.int .u8))) 9 (o1.map (Value.int .u8))).length = 20 := (length_splice _ _ _ (by rw [List.length_map, HL1.out]; have := HoL.out; omega)).trans HL1.out
                have HL2 := Lib.hid hl2
                have hat : ∀ k, k = 0 ∨ 17 ≤ k → (splice (splice (row0 1) 1 (n1.map (Value.int .u8))) 9 (o1.map (Value.int .u8)))[k]? = (row0 1)[k]? := fun k hk => by
                  rw [splice_at _ _ _ (by rw [List.length_map, HL1.out]; have := HoL.out; omega) k (by rw [List.length_map]; have := HoL.out; omega), splice_at _ _ _ (by rw [List.length_map]; have := HnL.out; show 1 + n1.length ≤ 20; omega) k (by rw [List.length_map]; have := HnL.out; omega)]
                have c0 : u94.cell? ⟨g, 0, none⟩ = some (.int .i64 1) := row_cell HR.out 0 _ (by rw [List.getElem?_toArray, hat 0 (by omega)]; rfl)
                have c17 : u94.cell? ⟨g, 17, none⟩ = some (.slice none 0 0) := row_cell HR.out 17 _ (by rw [List.getElem?_toArray, hat 17 (by omega)]; rfl)
                have hat17 := hat 17 (by omega)
                have C17 : Hid ((splice (splice (row0 1) 1 (n1.map (Value.int .u8))) 9 (o1.map (Value.int .u8)))[17]? = some (.slice none 0 0)) := Lib.hid (by rw [hat17]; rfl)
                clear hat hl2 hat17
                have HK : Hid (tokM 1 o2 o3 = ([], o2, o3)) := Lib.hid (by unfold tokM; rw [if_neg (by decide)])
                go_upto_region 20 with fail
                clear c0 c17
                replace HR : Hid (u94.heap[g]? = some (.cells (lrow 1 n1 o1 (.slice none 0 0)).toArray 32 (0, 0))) := Lib.hid (by
                  have h := HR.out
                  have e : lrow 1 n1 o1 (.slice none 0 0) = (splice (splice (row0 1) 1 (n1.map (Value.int .u8))) 9 (o1.map (Value.int .u8))) := by
                    unfold lrow
                    refine List.ext_getElem? fun i => ?_
                    rw [List.getElem?_set]
                    split
                    · rename_i hi
                      subst hi
                      rw [if_pos (by rw [HL2.out]; decide)]
                      exact (C17.out).symm
                    · rfl
                  rw [e]
                  exact h)
                clear C17
                go_upto_region 21 with fail
                go_wp2_with fail
                obtain ⟨⟨m1, m2, m3⟩, hN⟩ : ∃ r, varM o2 o3 = r := ⟨_, rfl⟩
                have hb := rvar_any w u94 0 p o2 o3 HRD.out
                rw [hN] at hb
                have HN := Lib.hid hN
                clear hN
                refine Calls.mono hb ?_
                clear hb
                rintro e u95 ⟨rfl, hR, hg1⟩
                replace HR := Lib.hid (grown_row hg1 (by intro e; injection e with e; exact hgp e) HR.out)
                replace H0 := Lib.hid (grown_row hg1 (by intro e; injection e with e; omega) H0.out)
                replace HB := Lib.hid (HB.out.grown hg1 HB.out.size (by intro k hk; injection hk with hk; omega))
                replace HRD := Lib.hid hR
                clear hR hg1
                go_wp2_with (first | (refine wpList_store_row rfl 32 _ _ rfl g0 rfl rowZ rowZ rfl 32 H0.out rfl rfl rowZ_one ?_; intro wz hz hgz) | fail)
                (try simp only [Exit.inBlock, Exit.then])
                refine bodyPost_ret (results_cell4 rfl _ _ g0 rfl rowZ _ _ hz Try.underlying32 rfl rfl) rfl ?_
                rw [← HQQ.out]
                exact ⟨HB.out.grown hgz HB.out.size (by intro k hk; injection hk with hk; omega), .inl ⟨HNO.out, rfl⟩⟩
          · have hne1 := str_ne v1 [0, 0, 0, 1] HWV.out (by decide) heq
            rw [hne1]
            clear hne1
            have HNO : Hid (parM bs = none) := Lib.hid (par_l_no HX.out h128 (lg_no (by rw [HV.out]; exact fun h => heq h.2.1)))
            clear heq
            go_wp2_with fail
            obtain ⟨⟨z1, z2, z3⟩, hz⟩ : ∃ r, byteM v2 v3 = r := ⟨_, rfl⟩
            have hb := rbyte_any w w6 0 p v2 v3 HRD.out
            rw [hz] at hb
            have Hz := Lib.hid hz
            clear hz
            refine Calls.mono hb ?_
            clear hb
            rintro e u96 ⟨rfl, hR, hg1⟩
            replace HR := Lib.hid (grown_row hg1 (by intro e; injection e with e; exact hgp e) HR.out)
            replace H0 := Lib.hid (grown_row hg1 (by intro e; injection e with e; omega) H0.out)
            replace HB := Lib.hid (HB.out.grown hg1 HB.out.size (by intro k hk; injection hk with hk; omega))
            replace HRD := Lib.hid hR
            clear hR hg1
            by_cases h8z : z1 = 8
            · skip
              subst h8z
              go_upto_region 15 with fail
              obtain ⟨⟨n1, n2, n3⟩, hn⟩ : ∃ r, rdM z2 z3 8 = r := ⟨_, rfl⟩
              have hyl := rdM_len1 z2 z3 8
              rw [show ((8 : Nat) : Int) = 8 from rfl, hn] at hyl
              simp only at hyl
              have Hn := Lib.hid hn; have HnL := Lib.hid hyl
              clear hn hyl
              refine wp_plan (.t 0 (.t 1 (.t 2 (.u 3 (.u 4 .done))))) (fun y => True) (by kernel_rfl) (by kernel_rfl) (by kernel_rfl) (fun c a d v w h => by cases d <;> exact h) trivial ?_
              haveI hne : Nonempty (In fun y => True) := ⟨⟨w, trivial⟩⟩
              replace HB := Lib.hid HB.out.drew
              replace HRD := Lib.hid (HRD.out.to (Below.refl _ _).drew)
              replace HR : Hid (u96.drew.heap[g]? = some (.cells (row0 1).toArray 32 (0, 0))) := HR
              replace H0 : Hid (u96.drew.heap[g0]? = some (.cells rowZ.toArray 32 (0, 0))) := H0
              generalize u96.drew = u97 at HB HRD HR H0 ⊢
              repeat (refine plan_t (by rfl) ?_; (first | go_big_quiet_skip | (go_big_quiet_want; go_big_quiet_op; go_big_quiet_on)); refine wpQuiet_nil ?_)
              refine plan_us (by rfl) (by kernel_rfl) ?_
              intro K hK
              go_wp2_with fail
              have hb := rraw_any w u97 0 p z2 z3 8 (by omega) HRD.out
              rw [Hn.out] at hb
              refine Calls.mono hb ?_
              clear hb
              rintro e u98 ⟨b, m, cb, rfl, hm, hI, hR, hg1, hlo⟩
              replace HR := Lib.hid (grown_row hg1 (by intro e; injection e with e; exact hgp e) HR.out)
              replace H0 := Lib.hid (grown_row hg1 (by intro e; injection e with e; omega) H0.out)
              replace HB := Lib.hid (HB.out.grown hg1 HB.out.size (by intro k hk; injection hk with hk; omega))
              replace HRD := Lib.hid hR
              have hm8 : m ≤ 8 := by have h1 : n1.length = m := hI.1; have := HnL.out; omega
              have HCP := Lib.hid (ints_copy hI 8 hm8)
              have HFIT : Hid (1 + (n1.map (Value.int .u8)).length ≤ (row0 1).length) := Lib.hid (by rw [List.length_map, show (row0 1).length = 20 from rfl]; have := HnL.out; omega)
              clear hR hg1 hI hlo hm hm8
              go_wp2_with fail
              refine ⟨trivial, ?_⟩
              refine plan_us (by rfl) (by kernel_rfl) ?_
              intro K hK
              refine wp_copy_grown _ _ 23 23 rfl 5 Try.underlying23 infoU8t _ _ _ _ _ _ rfl rfl g 1 (row0 1) 32 HR.out (n1.map (Value.int .u8)) HCP.out.1 (fun h => ⟨rfl, HCP.out.2 h⟩) HFIT.out ints_one ?_
              intro u99 hr6 hg2
              replace HR := Lib.hid hr6
              replace H0 := Lib.hid (grown_row hg2 (by intro e; injection e with e; omega) H0.out)
              replace HRD := Lib.hid (HRD.out.grownG hg2 hgp hgW)
              replace HB := Lib.hid (HB.out.grown hg2 HB.out.size (by intro k hk; injection hk with hk; omega))
              refine hK _ _ ⟨trivial, ?_⟩
              clear hK hr6 hg2 hne HCP HFIT
              show Exit.then _ _ _ _ _
              simp only [Act.put, List.setIfInBounds_toArray, List.set_cons_succ, List.set_cons_zero]
              have hl1 : (splice (row0 1) 1 (n1.map (Value.int .u8))).length = 20 := length_splice _ _ _ (by rw [List.length_map]; have := HnL.out; show 1 + n1.length ≤ 20; omega)
              have HL1 := Lib.hid hl1
              clear hl1
              go_wp2_with fail
              obtain ⟨⟨t1, t2, t3⟩, ht⟩ : ∃ r, byteM n2 n3 = r := ⟨_, rfl⟩
              have hb := rbyte_any w u99 0 p n2 n3 HRD.out
              rw [ht] at hb
              have Ht := Lib.hid ht
              clear ht
              refine Calls.mono hb ?_
              clear hb
              rintro e u100 ⟨rfl, hR, hg1⟩
              replace HR := Lib.hid (grown_row hg1 (by intro e; injection e with e; exact hgp e) HR.out)
              replace H0 := Lib.hid (grown_row hg1 (by intro e; injection e with e; omega) H0.out)
              replace HB := Lib.hid (HB.out.grown hg1 HB.out.size (by intro k hk; injection hk with hk; omega))
              replace HRD := Lib.hid hR
              clear hR hg1
              by_cases h8t : t1 = 8
              · skip
                subst h8t
                go_upto_region 17 with fail
                obtain ⟨⟨o1, o2, o3⟩, ho⟩ : ∃ r, rdM t2 t3 8 = r := ⟨_, rfl⟩
                have hyl := rdM_len1 t2 t3 8
                rw [show ((8 : Nat) : Int) = 8 from rfl, ho] at hyl
                simp only at hyl
                have Ho := Lib.hid ho; have HoL := Lib.hid hyl
                clear ho hyl
                refine wp_plan (.t 0 (.t 1 (.t 2 (.u 3 (.u 4 .done))))) (fun y => True) (by kernel_rfl) (by kernel_rfl) (by kernel_rfl) (fun c a d v w h => by cases d <;> exact h) trivial ?_
                haveI hne : Nonempty (In fun y => True) := ⟨⟨w, trivial⟩⟩
                replace HB := Lib.hid HB.out.drew
                replace HRD := Lib.hid (HRD.out.to (Below.refl _ _).drew)
                replace HR : Hid (u100.drew.heap[g]? = some (.cells (splice (row0 1) 1 (n1.map (Value.int .u8))).toArray 32 (0, 0))) := HR
                replace H0 : Hid (u100.drew.heap[g0]? = some (.cells rowZ.toArray 32 (0, 0))) := H0
                generalize u100.drew = u101 at HB HRD HR H0 ⊢
                repeat (refine plan_t (by rfl) ?_; (first | go_big_quiet_skip | (go_big_quiet_want; go_big_quiet_op; go_big_quiet_on)); refine wpQuiet_nil ?_)
                refine plan_us (by rfl) (by kernel_rfl) ?_
                intro K hK
                go_wp2_with fail
                have hb := rraw_any w u101 0 p t2 t3 8 (by omega) HRD.out
                rw [Ho.out] at hb
                refine Calls.mono hb ?_
                clear hb
                rintro e u102 ⟨b, m, cb, rfl, hm, hI, hR, hg1, hlo⟩
                replace HR := Lib.hid (grown_row hg1 (by intro e; injection e with e; exact hgp e) HR.out)
                replace H0 := Lib.hid (grown_row hg1 (by intro e; injection e with e; omega) H0.out)
                replace HB := Lib.hid (HB.out.grown hg1 HB.out.size (by intro k hk; injection hk with hk; omega))
                replace HRD := Lib.hid hR
                have hm8 : m ≤ 8 := by have h1 : o1.length = m := hI.1; have := HoL.out; omega
                have HCP := Lib.hid (ints_copy hI 8 hm8)
                have HFIT : Hid (9 + (o1.map (Value.int .u8)).length ≤ (splice (row0 1) 1 (n1.map (Value.int .u8))).length) := Lib.hid (by rw [List.length_map, HL1.out]; have := HoL.out; omega)
                clear hR hg1 hI hlo hm hm8
                go_wp2_with fail
                refine ⟨trivial, ?_⟩
                refine plan_us (by rfl) (by kernel_rfl) ?_
                intro K hK
                refine wp_copy_grown _ _ 23 23 rfl 5 Try.underlying23 infoU8t _ _ _ _ _ _ rfl rfl g 9 (splice (row0 1) 1 (n1.map (Value.int .u8))) 32 HR.out (o1.map (Value.int .u8)) HCP.out.1 (fun h => ⟨rfl, HCP.out.2 h⟩) HFIT.out ints_one ?_
                intro u103 hr6 hg2
                replace HR := Lib.hid hr6
                replace H0 := Lib.hid (grown_row hg2 (by intro e; injection e with e; omega) H0.out)
                replace HRD := Lib.hid (HRD.out.grownG hg2 hgp hgW)
                replace HB := Lib.hid (HB.out.grown hg2 HB.out.size (by intro k hk; injection hk with hk; omega))
                refine hK _ _ ⟨trivial, ?_⟩
                clear hK hr6 hg2 hne HCP HFIT
                show Exit.then _ _ _ _ _
                simp only [Act.put, List.setIfInBounds_toArray, List.set_cons_succ, List.set_cons_zero]
                have hl2 : (splice (splice (row0 1) 1 (n1.map (Value.int .u8))) 9 (o1.map (Value.int .u8))).length = 20 := (length_splice _ _ _ (by rw [List.length_map, HL1.out]; have := HoL.out; omega)).trans HL1.out
                have HL2 := Lib.hid hl2
                have hat : ∀ k, k = 0 ∨ 17 ≤ k → (splice (splice (row0 1) 1 (n1.map (Value.int .u8))) 9 (o1.map (Value.int .u8)))[k]? = (row0 1)[k]? := fun k hk => by
                  rw [splice_at _ _ _ (by rw [List.length_map, HL1.out]; have := HoL.out; omega) k (by rw [List.length_map]; have := HoL.out; omega), splice_at _ _ _ (by rw [List.length_map]; have := HnL.out; show 1 + n1.length ≤ 20; omega) k (by rw [List.length_map]; have := HnL.out; omega)]
                have c0 : u103.cell? ⟨g, 0, none⟩ = some (.int .i64 1) := row_cell HR.out 0 _ (by rw [List.getElem?_toArray, hat 0 (by omega)]; rfl)
                have c17 : u103.cell? ⟨g, 17, none⟩ = some (.slice none 0 0) := row_cell HR.out 17 _ (by rw [List.getElem?_toArray, hat 17 (by omega)]; rfl)
                have hat17 := hat 17 (by omega)
                have C17 : Hid ((splice (splice (row0 1) 1 (n1.map (Value.int .u8))) 9 (o1.map (Value.int .u8)))[17]? = some (.slice none 0 0)) := Lib.hid (by rw [hat17]; rfl)
                clear hat hl2 hat17
                have HK : Hid (tokM 1 o2 o3 = ([], o2, o3)) := Lib.hid (by unfold tokM; rw [if_neg (by decide)])
                go_upto_region 20 with fail
                clear c0 c17
                replace HR : Hid (u103.heap[g]? = some (.cells (lrow 1 n1 o1 (.slice none 0 0)).toArray 32 (0, 0))) := Lib.hid (by
                  have h := HR.out
                  have e : lrow 1 n1 o1 (.slice none 0 0) = (splice (splice (row0 1) 1 (n1.map (Value.int .u8))) 9 (o1.map (Value.int .u8))) := by
                    unfold lrow
                    refine List.ext_getElem? fun i => ?_
                    rw [List.getElem?_set]
                    split
                    · rename_i hi
                      subst hi
                      rw [if_pos (by rw [HL2.out]; decide)]
                      exact (C17.out).symm
                    · rfl
                  rw [e]
                  exact h)
                clear C17
                go_upto_region 21 with fail
                go_wp2_with fail
                obtain ⟨⟨m1, m2, m3⟩, hN⟩ : ∃ r, varM o2 o3 = r := ⟨_, rfl⟩
                have hb := rvar_any w u103 0 p o2 o3 HRD.out
                rw [hN] at hb
                have HN := Lib.hid hN
                clear hN
                refine Calls.mono hb ?_
                clear hb
                rintro e u104 ⟨rfl, hR, hg1⟩
                replace HR := Lib.hid (grown_row hg1 (by intro e; injection e with e; exact hgp e) HR.out)
                replace H0 := Lib.hid (grown_row hg1 (by intro e; injection e with e; omega) H0.out)
                replace HB := Lib.hid (HB.out.grown hg1 HB.out.size (by intro k hk; injection hk with hk; omega))
                replace HRD := Lib.hid hR
                clear hR hg1
                go_wp2_with (first | (refine wpList_store_row rfl 32 _ _ rfl g0 rfl rowZ rowZ rfl 32 H0.out rfl rfl rowZ_one ?_; intro wz hz hgz) | fail)
                (try simp only [Exit.inBlock, Exit.then])
                refine bodyPost_ret (results_cell4 rfl _ _ g0 rfl rowZ _ _ hz Try.underlying32 rfl rfl) rfl ?_
                rw [← HQQ.out]
                exact ⟨HB.out.grown hgz HB.out.size (by intro k hk; injection hk with hk; omega), .inl ⟨HNO.out, rfl⟩⟩
              · skip
                have hz8 : (t1 == 8) = false := by rw [int_beq]; exact decide_eq_false h8t
                go_upto_region 17 with fail
                clear hz8
                obtain ⟨⟨o1, o2, o3⟩, ho⟩ : ∃ r, rdM t2 t3 8 = r := ⟨_, rfl⟩
                have hyl := rdM_len1 t2 t3 8
                rw [show ((8 : Nat) : Int) = 8 from rfl, ho] at hyl
                simp only at hyl
                have Ho := Lib.hid ho; have HoL := Lib.hid hyl
                clear ho hyl
                refine wp_plan (.t 0 (.t 1 (.t 2 (.u 3 (.u 4 .done))))) (fun y => True) (by kernel_rfl) (by kernel_rfl) (by kernel_rfl) (fun c a d v w h => by cases d <;> exact h) trivial ?_
                haveI hne : Nonempty (In fun y => True) := ⟨⟨w, trivial⟩⟩
                replace HB := Lib.hid HB.out.drew
                replace HRD := Lib.hid (HRD.out.to (Below.refl _ _).drew)
                replace HR : Hid (u100.drew.heap[g]? = some (.cells (splice (row0 1) 1 (n1.map (Value.int .u8))).toArray 32 (0, 0))) := HR
                replace H0 : Hid (u100.drew.heap[g0]? = some (.cells rowZ.toArray 32 (0, 0))) := H0
                generalize u100.drew = u105 at HB HRD HR H0 ⊢
                repeat (refine plan_t (by rfl) ?_; (first | go_big_quiet_skip | (go_big_quiet_want; go_big_quiet_op; go_big_quiet_on)); refine wpQuiet_nil ?_)
                refine plan_us (by rfl) (by kernel_rfl) ?_
                intro K hK
                go_wp2_with fail
                have hb := rraw_any w u105 0 p t2 t3 8 (by omega) HRD.out
                rw [Ho.out] at hb
                refine Calls.mono hb ?_
                clear hb
                rintro e u106 ⟨b, m, cb, rfl, hm, hI, hR, hg1, hlo⟩
                replace HR := Lib.hid (grown_row hg1 (by intro e; injection e with e; exact hgp e) HR.out)
                replace H0 := Lib.hid (grown_row hg1 (by intro e; injection e with e; omega) H0.out)
                replace HB := Lib.hid (HB.out.grown hg1 HB.out.size (by intro k hk; injection hk with hk; omega))
                replace HRD := Lib.hid hR
                have hm8 : m ≤ 8 := by have h1 : o1.length = m := hI.1; have := HoL.out; omega
                have HCP := Lib.hid (ints_copy hI 8 hm8)
                have HFIT : Hid (9 + (o1.map (Value.int .u8)).length ≤ (splice (row0 1) 1 (n1.map (Value.int .u8))).length) := Lib.hid (by rw [List.length_map, HL1.out]; have := HoL.out; omega)
                clear hR hg1 hI hlo hm hm8
                go_wp2_with fail
                refine ⟨trivial, ?_⟩
                refine plan_us (by rfl) (by kernel_rfl) ?_
                intro K hK
                refine wp_copy_grown _ _ 23 23 rfl 5 Try.underlying23 infoU8t _ _ _ _ _ _ rfl rfl g 9 (splice (row0 1) 1 (n1.map (Value.int .u8))) 32 HR.out (o1.map (Value.int .u8)) HCP.out.1 (fun h => ⟨rfl, HCP.out.2 h⟩) HFIT.out ints_one ?_
                intro u107 hr6 hg2
                replace HR := Lib.hid hr6
                replace H0 := Lib.hid (grown_row hg2 (by intro e; injection e with e; omega) H0.out)
                replace HRD := Lib.hid (HRD.out.grownG hg2 hgp hgW)
                replace HB := Lib.hid (HB.out.grown hg2 HB.out.size (by intro k hk; injection hk with hk; omega))
                refine hK _ _ ⟨trivial, ?_⟩
                clear hK hr6 hg2 hne HCP HFIT
                show Exit.then _ _ _ _ _
                simp only [Act.put, List.setIfInBounds_toArray, List.set_cons_succ, List.set_cons_zero]
                have hl2 : (splice (splice (row0 1) 1 (n1.map (Value.int .u8))) 9 (o1.map (Value.int .u8))).length = 20 := (length_splice _ _ _ (by rw [List.length_map, HL1.out]; have := HoL.out; omega)).trans HL1.out
                have HL2 := Lib.hid hl2
                have hat : ∀ k, k = 0 ∨ 17 ≤ k → (splice (splice (row0 1) 1 (n1.map (Value.int .u8))) 9 (o1.map (Value.int .u8)))[k]? = (row0 1)[k]? := fun k hk => by
                  rw [splice_at _ _ _ (by rw [List.length_map, HL1.out]; have := HoL.out; omega) k (by rw [List.length_map]; have := HoL.out; omega), splice_at _ _ _ (by rw [List.length_map]; have := HnL.out; show 1 + n1.length ≤ 20; omega) k (by rw [List.length_map]; have := HnL.out; omega)]
                have c0 : u107.cell? ⟨g, 0, none⟩ = some (.int .i64 1) := row_cell HR.out 0 _ (by rw [List.getElem?_toArray, hat 0 (by omega)]; rfl)
                have c17 : u107.cell? ⟨g, 17, none⟩ = some (.slice none 0 0) := row_cell HR.out 17 _ (by rw [List.getElem?_toArray, hat 17 (by omega)]; rfl)
                have hat17 := hat 17 (by omega)
                have C17 : Hid ((splice (splice (row0 1) 1 (n1.map (Value.int .u8))) 9 (o1.map (Value.int .u8)))[17]? = some (.slice none 0 0)) := Lib.hid (by rw [hat17]; rfl)
                clear hat hl2 hat17
                have HK : Hid (tokM 1 o2 o3 = ([], o2, o3)) := Lib.hid (by unfold tokM; rw [if_neg (by decide)])
                go_upto_region 20 with fail
                clear c0 c17
                replace HR : Hid (u107.heap[g]? = some (.cells (lrow 1 n1 o1 (.slice none 0 0)).toArray 32 (0, 0))) := Lib.hid (by
                  have h := HR.out
                  have e : lrow 1 n1 o1 (.slice none 0 0) = (splice (splice (row0 1) 1 (n1.map (Value.int .u8))) 9 (o1.map (Value.int .u8))) := by
                    unfold lrow
                    refine List.ext_getElem? fun i => ?_
                    rw [List.getElem?_set]
                    split
                    · rename_i hi
                      subst hi
                      rw [if_pos (by rw [HL2.out]; decide)]
                      exact (C17.out).symm
                    · rfl
                  rw [e]
                  exact h)
                clear C17
                go_upto_region 21 with fail
                go_wp2_with fail
                obtain ⟨⟨m1, m2, m3⟩, hN⟩ : ∃ r, varM o2 o3 = r := ⟨_, rfl⟩
                have hb := rvar_any w u107 0 p o2 o3 HRD.out
                rw [hN] at hb
                have HN := Lib.hid hN
                clear hN
                refine Calls.mono hb ?_
                clear hb
                rintro e u108 ⟨rfl, hR, hg1⟩
                replace HR := Lib.hid (grown_row hg1 (by intro e; injection e with e; exact hgp e) HR.out)
                replace H0 := Lib.hid (grown_row hg1 (by intro e; injection e with e; omega) H0.out)
                replace HB := Lib.hid (HB.out.grown hg1 HB.out.size (by intro k hk; injection hk with hk; omega))
                replace HRD := Lib.hid hR
                clear hR hg1
                go_wp2_with (first | (refine wpList_store_row rfl 32 _ _ rfl g0 rfl rowZ rowZ rfl 32 H0.out rfl rfl rowZ_one ?_; intro wz hz hgz) | fail)
                (try simp only [Exit.inBlock, Exit.then])
                refine bodyPost_ret (results_cell4 rfl _ _ g0 rfl rowZ _ _ hz Try.underlying32 rfl rfl) rfl ?_
                rw [← HQQ.out]
                exact ⟨HB.out.grown hgz HB.out.size (by intro k hk; injection hk with hk; omega), .inl ⟨HNO.out, rfl⟩⟩
            · skip
              have hz8 : (z1 == 8) = false := by rw [int_beq]; exact decide_eq_false h8z
              go_upto_region 15 with fail
              clear hz8
              obtain ⟨⟨n1, n2, n3⟩, hn⟩ : ∃ r, rdM z2 z3 8 = r := ⟨_, rfl⟩
              have hyl := rdM_len1 z2 z3 8
              rw [show ((8 : Nat) : Int) = 8 from rfl, hn] at hyl
              simp only at hyl
              have Hn := Lib.hid hn; have HnL := Lib.hid hyl
              clear hn hyl
              refine wp_plan (.t 0 (.t 1 (.t 2 (.u 3 (.u 4 .done))))) (fun y => True) (by kernel_rfl) (by kernel_rfl) (by kernel_rfl) (fun c a d v w h => by cases d <;> exact h) trivial ?_
              haveI hne : Nonempty (In fun y => True) := ⟨⟨w, trivial⟩⟩
              replace HB := Lib.hid HB.out.drew
              replace HRD := Lib.hid (HRD.out.to (Below.refl _ _).drew)
              replace HR : Hid (u96.drew.heap[g]? = some (.cells (row0 1).toArray 32 (0, 0))) := HR
              replace H0 : Hid (u96.drew.heap[g0]? = some (.cells rowZ.toArray 32 (0, 0))) := H0
              generalize u96.drew = u109 at HB HRD HR H0 ⊢
              repeat (refine plan_t (by rfl) ?_; (first | go_big_quiet_skip | (go_big_quiet_want; go_big_quiet_op; go_big_quiet_on)); refine wpQuiet_nil ?_)
              refine plan_us (by rfl) (by kernel_rfl) ?_
              intro K hK
              go_wp2_with fail
              have hb := rraw_any w u109 0 p z2 z3 8 (by omega) HRD.out
              rw [Hn.out] at hb
              refine Calls.mono hb ?_
              clear hb
              rintro e u110 ⟨b, m, cb, rfl, hm, hI, hR, hg1, hlo⟩
              replace HR := Lib.hid (grown_row hg1 (by intro e; injection e with e; exact hgp e) HR.out)
              replace H0 := Lib.hid (grown_row hg1 (by intro e; injection e with e; omega) H0.out)
              replace HB := Lib.hid (HB.out.grown hg1 HB.out.size (by intro k hk; injection hk with hk; omega))
              replace HRD := Lib.hid hR
              have hm8 : m ≤ 8 := by have h1 : n1.length = m := hI.1; have := HnL.out; omega
              have HCP := Lib.hid (ints_copy hI 8 hm8)
              have HFIT : Hid (1 + (n1.map (Value.int .u8)).length ≤ (row0 1).length) := Lib.hid (by rw [List.length_map, show (row0 1).length = 20 from rfl]; have := HnL.out; omega)
              clear hR hg1 hI hlo hm hm8
              go_wp2_with fail
              refine ⟨trivial, ?_⟩
              refine plan_us (by rfl) (by kernel_rfl) ?_
              intro K hK
              refine wp_copy_grown _ _ 23 23 rfl 5 Try.underlying23 infoU8t _ _ _ _ _ _ rfl rfl g 1 (row0 1) 32 HR.out (n1.map (Value.int .u8)) HCP.out.1 (fun h => ⟨rfl, HCP.out.2 h⟩) HFIT.out ints_one ?_
              intro u111 hr6 hg2
              replace HR := Lib.hid hr6
              replace H0 := Lib.hid (grown_row hg2 (by intro e; injection e with e; omega) H0.out)
              replace HRD := Lib.hid (HRD.out.grownG hg2 hgp hgW)
              replace HB := Lib.hid (HB.out.grown hg2 HB.out.size (by intro k hk; injection hk with hk; omega))
              refine hK _ _ ⟨trivial, ?_⟩
              clear hK hr6 hg2 hne HCP HFIT
              show Exit.then _ _ _ _ _
              simp only [Act.put, List.setIfInBounds_toArray, List.set_cons_succ, List.set_cons_zero]
              have hl1 : (splice (row0 1) 1 (n1.map (Value.int .u8))).length = 20 := length_splice _ _ _ (by rw [List.length_map]; have := HnL.out; show 1 + n1.length ≤ 20; omega)
              have HL1 := Lib.hid hl1
              clear hl1
              go_wp2_with fail
              obtain ⟨⟨t1, t2, t3⟩, ht⟩ : ∃ r, byteM n2 n3 = r := ⟨_, rfl⟩
              have hb := rbyte_any w u111 0 p n2 n3 HRD.out
              rw [ht] at hb
              have Ht := Lib.hid ht
              clear ht
              refine Calls.mono hb ?_
              clear hb
              rintro e u112 ⟨rfl, hR, hg1⟩
              replace HR := Lib.hid (grown_row hg1 (by intro e; injection e with e; exact hgp e) HR.out)
              replace H0 := Lib.hid (grown_row hg1 (by intro e; injection e with e; omega) H0.out)
              replace HB := Lib.hid (HB.out.grown hg1 HB.out.size (by intro k hk; injection hk with hk; omega))
              replace HRD := Lib.hid hR
              clear hR hg1
              by_cases h8t : t1 = 8
              · skip
                subst h8t
                go_upto_region 17 with fail
                obtain ⟨⟨o1, o2, o3⟩, ho⟩ : ∃ r, rdM t2 t3 8 = r := ⟨_, rfl⟩
                have hyl := rdM_len1 t2 t3 8
                rw [show ((8 : Nat) : Int) = 8 from rfl, ho] at hyl
                simp only at hyl
                have Ho := Lib.hid ho; have HoL := Lib.hid hyl
                clear ho hyl
                refine wp_plan (.t 0 (.t 1 (.t 2 (.u 3 (.u 4 .done))))) (fun y => True) (by kernel_rfl) (by kernel_rfl) (by kernel_rfl) (fun c a d v w h => by cases d <;> exact h) trivial ?_
                haveI hne : Nonempty (In fun y => True) := ⟨⟨w, trivial⟩⟩
                replace HB := Lib.hid HB.out.drew
                replace HRD := Lib.hid (HRD.out.to (Below.refl _ _).drew)
                replace HR : Hid (u112.drew.heap[g]? = some (.cells (splice (row0 1) 1 (n1.map (Value.int .u8))).toArray 32 (0, 0))) := HR
                replace H0 : Hid (u112.drew.heap[g0]? = some (.cells rowZ.toArray 32 (0, 0))) := H0
                generalize u112.drew = u113 at HB HRD HR H0 ⊢
                repeat (refine plan_t (by rfl) ?_; (first | go_big_quiet_skip | (go_big_quiet_want; go_big_quiet_op; go_big_quiet_on)); refine wpQuiet_nil ?_)
                refine plan_us (by rfl) (by kernel_rfl) ?_
                intro K hK
                go_wp2_with fail
                have hb := rraw_any w u113 0 p t2 t3 8 (by omega) HRD.out
                rw [Ho.out] at hb
                refine Calls.mono hb ?_
                clear hb
                rintro e u114 ⟨b, m, cb, rfl, hm, hI, hR, hg1, hlo⟩
                replace HR := Lib.hid (grown_row hg1 (by intro e; injection e with e; exact hgp e) HR.out)
                replace H0 := Lib.hid (grown_row hg1 (by intro e; injection e with e; omega) H0.out)
                replace HB := Lib.hid (HB.out.grown hg1 HB.out.size (by intro k hk; injection hk with hk; omega))
                replace HRD := Lib.hid hR
                have hm8 : m ≤ 8 := by have h1 : o1.length = m := hI.1; have := HoL.out; omega
                have HCP := Lib.hid (ints_copy hI 8 hm8)
                have HFIT : Hid (9 + (o1.map (Value.int .u8)).length ≤ (splice (row0 1) 1 (n1.map (Value.int .u8))).length) := Lib.hid (by rw [List.length_map, HL1.out]; have := HoL.out; omega)
                clear hR hg1 hI hlo hm hm8
                go_wp2_with fail
                refine ⟨trivial, ?_⟩
                refine plan_us (by rfl) (by kernel_rfl) ?_
                intro K hK
                refine wp_copy_grown _ _ 23 23 rfl 5 Try.underlying23 infoU8t _ _ _ _ _ _ rfl rfl g 9 (splice (row0 1) 1 (n1.map (Value.int .u8))) 32 HR.out (o1.map (Value.int .u8)) HCP.out.1 (fun h => ⟨rfl, HCP.out.2 h⟩) HFIT.out ints_one ?_
                intro u115 hr6 hg2
                replace HR := Lib.hid hr6
                replace H0 := Lib.hid (grown_row hg2 (by intro e; injection e with e; omega) H0.out)
                replace HRD := Lib.hid (HRD.out.grownG hg2 hgp hgW)
                replace HB := Lib.hid (HB.out.grown hg2 HB.out.size (by intro k hk; injection hk with hk; omega))
                refine hK _ _ ⟨trivial, ?_⟩
                clear hK hr6 hg2 hne HCP HFIT
                show Exit.then _ _ _ _ _
                simp only [Act.put, List.setIfInBounds_toArray, List.set_cons_succ, List.set_cons_zero]
                have hl2 : (splice (splice (row0 1) 1 (n1.map (Value.int .u8))) 9 (o1.map (Value.int .u8))).length = 20 := (length_splice _ _ _ (by rw [List.length_map, HL1.out]; have := HoL.out; omega)).trans HL1.out
                have HL2 := Lib.hid hl2
                have hat : ∀ k, k = 0 ∨ 17 ≤ k → (splice (splice (row0 1) 1 (n1.map (Value.int .u8))) 9 (o1.map (Value.int .u8)))[k]? = (row0 1)[k]? := fun k hk => by
                  rw [splice_at _ _ _ (by rw [List.length_map, HL1.out]; have := HoL.out; omega) k (by rw [List.length_map]; have := HoL.out; omega), splice_at _ _ _ (by rw [List.length_map]; have := HnL.out; show 1 + n1.length ≤ 20; omega) k (by rw [List.length_map]; have := HnL.out; omega)]
                have c0 : u115.cell? ⟨g, 0, none⟩ = some (.int .i64 1) := row_cell HR.out 0 _ (by rw [List.getElem?_toArray, hat 0 (by omega)]; rfl)
                have c17 : u115.cell? ⟨g, 17, none⟩ = some (.slice none 0 0) := row_cell HR.out 17 _ (by rw [List.getElem?_toArray, hat 17 (by omega)]; rfl)
                have hat17 := hat 17 (by omega)
                have C17 : Hid ((splice (splice (row0 1) 1 (n1.map (Value.int .u8))) 9 (o1.map (Value.int .u8)))[17]? = some (.slice none 0 0)) := Lib.hid (by rw [hat17]; rfl)
                clear hat hl2 hat17
                have HK : Hid (tokM 1 o2 o3 = ([], o2, o3)) := Lib.hid (by unfold tokM; rw [if_neg (by decide)])
                go_upto_region 20 with fail
                clear c0 c17
                replace HR : Hid (u115.heap[g]? = some (.cells (lrow 1 n1 o1 (.slice none 0 0)).toArray 32 (0, 0))) := Lib.hid (by
                  have h := HR.out
                  have e : lrow 1 n1 o1 (.slice none 0 0) = (splice (splice (row0 1) 1 (n1.map (Value.int .u8))) 9 (o1.map (Value.int .u8))) := by
                    unfold lrow
                    refine List.ext_getElem? fun i => ?_
                    rw [List.getElem?_set]
                    split
                    · rename_i hi
                      subst hi
                      rw [if_pos (by rw [HL2.out]; decide)]
                      exact (C17.out).symm
                    · rfl
                  rw [e]
                  exact h)
                clear C17
                go_upto_region 21 with fail
                go_wp2_with fail
                obtain ⟨⟨m1, m2, m3⟩, hN⟩ : ∃ r, varM o2 o3 = r := ⟨_, rfl⟩
                have hb := rvar_any w u115 0 p o2 o3 HRD.out
                rw [hN] at hb
                have HN := Lib.hid hN
                clear hN
                refine Calls.mono hb ?_
                clear hb
                rintro e u116 ⟨rfl, hR, hg1⟩
                replace HR := Lib.hid (grown_row hg1 (by intro e; injection e with e; exact hgp e) HR.out)
                replace H0 := Lib.hid (grown_row hg1 (by intro e; injection e with e; omega) H0.out)
                replace HB := Lib.hid (HB.out.grown hg1 HB.out.size (by intro k hk; injection hk with hk; omega))
                replace HRD := Lib.hid hR
                clear hR hg1
                go_wp2_with (first | (refine wpList_store_row rfl 32 _ _ rfl g0 rfl rowZ rowZ rfl 32 H0.out rfl rfl rowZ_one ?_; intro wz hz hgz) | fail)
                (try simp only [Exit.inBlock, Exit.then])
                refine bodyPost_ret (results_cell4 rfl _ _ g0 rfl rowZ _ _ hz Try.underlying32 rfl rfl) rfl ?_
                rw [← HQQ.out]
                exact ⟨HB.out.grown hgz HB.out.size (by intro k hk; injection hk with hk; omega), .inl ⟨HNO.out, rfl⟩⟩
              · skip
                have hz8 : (t1 == 8) = false := by rw [int_beq]; exact decide_eq_false h8t
                go_upto_region 17 with fail
                clear hz8
                obtain ⟨⟨o1, o2, o3⟩, ho⟩ : ∃ r, rdM t2 t3 8 = r := ⟨_, rfl⟩
                have hyl := rdM_len1 t2 t3 8
                rw [show ((8 : Nat) : Int) = 8 from rfl, ho] at hyl
                simp only at hyl
                have Ho := Lib.hid ho; have HoL := Lib.hid hyl
                clear ho hyl
                refine wp_plan (.t 0 (.t 1 (.t 2 (.u 3 (.u 4 .done))))) (fun y => True) (by kernel_rfl) (by kernel_rfl) (by kernel_rfl) (fun c a d v w h => by cases d <;> exact h) trivial ?_
                haveI hne : Nonempty (In fun y => True) := ⟨⟨w, trivial⟩⟩
                replace HB := Lib.hid HB.out.drew
                replace HRD := Lib.hid (HRD.out.to (Below.refl _ _).drew)
                replace HR : Hid (u112.drew.heap[g]? = some (.cells (splice (row0 1) 1 (n1.map (Value.int .u8))).toArray 32 (0, 0))) := HR
                replace H0 : Hid (u112.drew.heap[g0]? = some (.cells rowZ.toArray 32 (0, 0))) := H0
                generalize u112.drew = u117 at HB HRD HR H0 ⊢
                repeat (refine plan_t (by rfl) ?_; (first | go_big_quiet_skip | (go_big_quiet_want; go_big_quiet_op; go_big_quiet_on)); refine wpQuiet_nil ?_)
                refine plan_us (by rfl) (by kernel_rfl) ?_
                intro K hK
                go_wp2_with fail
                have hb := rraw_any w u117 0 p t2 t3 8 (by omega) HRD.out
                rw [Ho.out] at hb
                refine Calls.mono hb ?_
                clear hb
                rintro e u118 ⟨b, m, cb, rfl, hm, hI, hR, hg1, hlo⟩
                replace HR := Lib.hid (grown_row hg1 (by intro e; injection e with e; exact hgp e) HR.out)
                replace H0 := Lib.hid (grown_row hg1 (by intro e; injection e with e; omega) H0.out)
                replace HB := Lib.hid (HB.out.grown hg1 HB.out.size (by intro k hk; injection hk with hk; omega))
                replace HRD := Lib.hid hR
                have hm8 : m ≤ 8 := by have h1 : o1.length = m := hI.1; have := HoL.out; omega
                have HCP := Lib.hid (ints_copy hI 8 hm8)
                have HFIT : Hid (9 + (o1.map (Value.int .u8)).length ≤ (splice (row0 1) 1 (n1.map (Value.int .u8))).length) := Lib.hid (by rw [List.length_map, HL1.out]; have := HoL.out; omega)
                clear hR hg1 hI hlo hm hm8
                go_wp2_with fail
                refine ⟨trivial, ?_⟩
                refine plan_us (by rfl) (by kernel_rfl) ?_
                intro K hK
                refine wp_copy_grown _ _ 23 23 rfl 5 Try.underlying23 infoU8t _ _ _ _ _ _ rfl rfl g 9 (splice (row0 1) 1 (n1.map (Value.int .u8))) 32 HR.out (o1.map (Value.int .u8)) HCP.out.1 (fun h => ⟨rfl, HCP.out.2 h⟩) HFIT.out ints_one ?_
                intro u119 hr6 hg2
                replace HR := Lib.hid hr6
                replace H0 := Lib.hid (grown_row hg2 (by intro e; injection e with e; omega) H0.out)
                replace HRD := Lib.hid (HRD.out.grownG hg2 hgp hgW)
                replace HB := Lib.hid (HB.out.grown hg2 HB.out.size (by intro k hk; injection hk with hk; omega))
                refine hK _ _ ⟨trivial, ?_⟩
                clear hK hr6 hg2 hne HCP HFIT
                show Exit.then _ _ _ _ _
                simp only [Act.put, List.setIfInBounds_toArray, List.set_cons_succ, List.set_cons_zero]
                have hl2 : (splice (splice (row0 1) 1 (n1.map (Value.int .u8))) 9 (o1.map (Value.int .u8))).length = 20 := (length_splice _ _ _ (by rw [List.length_map, HL1.out]; have := HoL.out; omega)).trans HL1.out
                have HL2 := Lib.hid hl2
                have hat : ∀ k, k = 0 ∨ 17 ≤ k → (splice (splice (row0 1) 1 (n1.map (Value.int .u8))) 9 (o1.map (Value.int .u8)))[k]? = (row0 1)[k]? := fun k hk => by
                  rw [splice_at _ _ _ (by rw [List.length_map, HL1.out]; have := HoL.out; omega) k (by rw [List.length_map]; have := HoL.out; omega), splice_at _ _ _ (by rw [List.length_map]; have := HnL.out; show 1 + n1.length ≤ 20; omega) k (by rw [List.length_map]; have := HnL.out; omega)]
                have c0 : u119.cell? ⟨g, 0, none⟩ = some (.int .i64 1) := row_cell HR.out 0 _ (by rw [List.getElem?_toArray, hat 0 (by omega)]; rfl)
                have c17 : u119.cell? ⟨g, 17, none⟩ = some (.slice none 0 0) := row_cell HR.out 17 _ (by rw [List.getElem?_toArray, hat 17 (by omega)]; rfl)
                have hat17 := hat 17 (by omega)
                have C17 : Hid ((splice (splice (row0 1) 1 (n1.map (Value.int .u8))) 9 (o1.map (Value.int .u8)))[17]? = some (.slice none 0 0)) := Lib.hid (by rw [hat17]; rfl)
                clear hat hl2 hat17
                have HK : Hid (tokM 1 o2 o3 = ([], o2, o3)) := Lib.hid (by unfold tokM; rw [if_neg (by decide)])
                go_upto_region 20 with fail
                clear c0 c17
                replace HR : Hid (u119.heap[g]? = some (.cells (lrow 1 n1 o1 (.slice none 0 0)).toArray 32 (0, 0))) := Lib.hid (by
                  have h := HR.out
                  have e : lrow 1 n1 o1 (.slice none 0 0) = (splice (splice (row0 1) 1 (n1.map (Value.int .u8))) 9 (o1.map (Value.int .u8))) := by
                    unfold lrow
                    refine List.ext_getElem? fun i => ?_
                    rw [List.getElem?_set]
                    split
                    · rename_i hi
                      subst hi
                      rw [if_pos (by rw [HL2.out]; decide)]
                      exact (C17.out).symm
                    · rfl
                  rw [e]
                  exact h)
                clear C17
                go_upto_region 21 with fail
                go_wp2_with fail
                obtain ⟨⟨m1, m2, m3⟩, hN⟩ : ∃ r, varM o2 o3 = r := ⟨_, rfl⟩
                have hb := rvar_any w u119 0 p o2 o3 HRD.out
                rw [hN] at hb
                have HN := Lib.hid hN
                clear hN
                refine Calls.mono hb ?_
                clear hb
                rintro e u120 ⟨rfl, hR, hg1⟩
                replace HR := Lib.hid (grown_row hg1 (by intro e; injection e with e; exact hgp e) HR.out)
                replace H0 := Lib.hid (grown_row hg1 (by intro e; injection e with e; omega) H0.out)
                replace HB := Lib.hid (HB.out.grown hg1 HB.out.size (by intro k hk; injection hk with hk; omega))
                replace HRD := Lib.hid hR
                clear hR hg1
                go_wp2_with (first | (refine wpList_store_row rfl 32 _ _ rfl g0 rfl rowZ rowZ rfl 32 H0.out rfl rfl rowZ_one ?_; intro wz hz hgz) | fail)
                (try simp only [Exit.inBlock, Exit.then])
                refine bodyPost_ret (results_cell4 rfl _ _ g0 rfl rowZ _ _ hz Try.underlying32 rfl rfl) rfl ?_
                rw [← HQQ.out]
                exact ⟨HB.out.grown hgz HB.out.size (by intro k hk; injection hk with hk; omega), .inl ⟨HNO.out, rfl⟩⟩
        · have hqd : decide (q ≤ 1) = false := decide_eq_false (by omega)
          go_upto_region 14 with fail
          clear hqd hc0 hal hga HI9
          have HNO : Hid (parM bs = none) := Lib.hid (par_l_no HX.out h128 (lg_no (by rw [HQ.out]; intro h; have := h.1; omega)))
          go_wp2_with fail
          obtain ⟨⟨z1, z2, z3⟩, hz⟩ : ∃ r, byteM v2 v3 = r := ⟨_, rfl⟩
          have hb := rbyte_any w w5 0 p v2 v3 HRD.out
          rw [hz] at hb
          have Hz := Lib.hid hz
          clear hz
          refine Calls.mono hb ?_
          clear hb
          rintro e u121 ⟨rfl, hR, hg1⟩
          replace HR := Lib.hid (grown_row hg1 (by intro e; injection e with e; exact hgp e) HR.out)
          replace H0 := Lib.hid (grown_row hg1 (by intro e; injection e with e; omega) H0.out)
          replace HB := Lib.hid (HB.out.grown hg1 HB.out.size (by intro k hk; injection hk with hk; omega))
          replace HRD := Lib.hid hR
          clear hR hg1
          by_cases h8z : z1 = 8
          · skip
            subst h8z
            go_upto_region 15 with fail
            obtain ⟨⟨n1, n2, n3⟩, hn⟩ : ∃ r, rdM z2 z3 8 = r := ⟨_, rfl⟩
            have hyl := rdM_len1 z2 z3 8
            rw [show ((8 : Nat) : Int) = 8 from rfl, hn] at hyl
            simp only at hyl
            have Hn := Lib.hid hn; have HnL := Lib.hid hyl
            clear hn hyl
            refine wp_plan (.t 0 (.t 1 (.t 2 (.u 3 (.u 4 .done))))) (fun y => True) (by kernel_rfl) (by kernel_rfl) (by kernel_rfl) (fun c a d v w h => by cases d <;> exact h) trivial ?_
            haveI hne : Nonempty (In fun y => True) := ⟨⟨w, trivial⟩⟩
            replace HB := Lib.hid HB.out.drew
            replace HRD := Lib.hid (HRD.out.to (Below.refl _ _).drew)
            replace HR : Hid (u121.drew.heap[g]? = some (.cells (row0 q).toArray 32 (0, 0))) := HR
            replace H0 : Hid (u121.drew.heap[g0]? = some (.cells rowZ.toArray 32 (0, 0))) := H0
            generalize u121.drew = u122 at HB HRD HR H0 ⊢
            repeat (refine plan_t (by rfl) ?_; (first | go_big_quiet_skip | (go_big_quiet_want; go_big_quiet_op; go_big_quiet_on)); refine wpQuiet_nil ?_)
            refine plan_us (by rfl) (by kernel_rfl) ?_
            intro K hK
            go_wp2_with fail
            have hb := rraw_any w u122 0 p z2 z3 8 (by omega) HRD.out
            rw [Hn.out] at hb
            refine Calls.mono hb ?_
            clear hb
            rintro e u123 ⟨b, m, cb, rfl, hm, hI, hR, hg1, hlo⟩
            replace HR := Lib.hid (grown_row hg1 (by intro e; injection e with e; exact hgp e) HR.out)
            replace H0 := Lib.hid (grown_row hg1 (by intro e; injection e with e; omega) H0.out)
            replace HB := Lib.hid (HB.out.grown hg1 HB.out.size (by intro k hk; injection hk with hk; omega))
            replace HRD := Lib.hid hR
            have hm8 : m ≤ 8 := by have h1 : n1.length = m := hI.1; have := HnL.out; omega
            have HCP := Lib.hid (ints_copy hI 8 hm8)
            have HFIT : Hid (1 + (n1.map (Value.int .u8)).length ≤ (row0 q).length) := Lib.hid (by rw [List.length_map, show (row0 q).length = 20 from rfl]; have := HnL.out; omega)
            clear hR hg1 hI hlo hm hm8
            go_wp2_with fail
            refine ⟨trivial, ?_⟩
            refine plan_us (by rfl) (by kernel_rfl) ?_
            intro K hK
            refine wp_copy_grown _ _ 23 23 rfl 5 Try.underlying23 infoU8t _ _ _ _ _ _ rfl rfl g 1 (row0 q) 32 HR.out (n1.map (Value.int .u8)) HCP.out.1 (fun h => ⟨rfl, HCP.out.2 h⟩) HFIT.out ints_one ?_
            intro u124 hr6 hg2
            replace HR := Lib.hid hr6
            replace H0 := Lib.hid (grown_row hg2 (by intro e; injection e with e; omega) H0.out)
            replace HRD := Lib.hid (HRD.out.grownG hg2 hgp hgW)
            replace HB := Lib.hid (HB.out.grown hg2 HB.out.size (by intro k hk; injection hk with hk; omega))
            refine hK _ _ ⟨trivial, ?_⟩
            clear hK hr6 hg2 hne HCP HFIT
            show Exit.then _ _ _ _ _
            simp only [Act.put, List.setIfInBounds_toArray, List.set_cons_succ, List.set_cons_zero]
            have hl1 : (splice (row0 q) 1 (n1.map (Value.int .u8))).length = 20 := length_splice _ _ _ (by rw [List.length_map]; have := HnL.out; show 1 + n1.length ≤ 20; omega)
            have HL1 := Lib.hid hl1
            clear hl1
            go_wp2_with fail
            obtain ⟨⟨t1, t2, t3⟩, ht⟩ : ∃ r, byteM n2 n3 = r := ⟨_, rfl⟩
            have hb := rbyte_any w u124 0 p n2 n3 HRD.out
            rw [ht] at hb
            have Ht := Lib.hid ht
            clear ht
            refine Calls.mono hb ?_
            clear hb
            rintro e u125 ⟨rfl, hR, hg1⟩
            replace HR := Lib.hid (grown_row hg1 (by intro e; injection e with e; exact hgp e) HR.out)
            replace H0 := Lib.hid (grown_row hg1 (by intro e; injection e with e; omega) H0.out)
            replace HB := Lib.hid (HB.out.grown hg1 HB.out.size (by intro k hk; injection hk with hk; omega))
            replace HRD := Lib.hid hR
            clear hR hg1
            by_cases h8t : t1 = 8
            · skip
              subst h8t
              go_upto_region 17 with fail
              obtain ⟨⟨o1, o2, o3⟩, ho⟩ : ∃ r, rdM t2 t3 8 = r := ⟨_, rfl⟩
              have hyl := rdM_len1 t2 t3 8
              rw [show ((8 : Nat) : Int) = 8 from rfl, ho] at hyl
              simp only at hyl
              have Ho := Lib.hid ho; have HoL := Lib.hid hyl
              clear ho hyl
              refine wp_plan (.t 0 (.t 1 (.t 2 (.u 3 (.u 4 .done))))) (fun y => True) (by kernel_rfl) (by kernel_rfl) (by kernel_rfl) (fun c a d v w h => by cases d <;> exact h) trivial ?_
              haveI hne : Nonempty (In fun y => True) := ⟨⟨w, trivial⟩⟩
              replace HB := Lib.hid HB.out.drew
              replace HRD := Lib.hid (HRD.out.to (Below.refl _ _).drew)
              replace HR : Hid (u125.drew.heap[g]? = some (.cells (splice (row0 q) 1 (n1.map (Value.int .u8))).toArray 32 (0, 0))) := HR
              replace H0 : Hid (u125.drew.heap[g0]? = some (.cells rowZ.toArray 32 (0, 0))) := H0
              generalize u125.drew = u126 at HB HRD HR H0 ⊢
              repeat (refine plan_t (by rfl) ?_; (first | go_big_quiet_skip | (go_big_quiet_want; go_big_quiet_op; go_big_quiet_on)); refine wpQuiet_nil ?_)
              refine plan_us (by rfl) (by kernel_rfl) ?_
              intro K hK
              go_wp2_with fail
              have hb := rraw_any w u126 0 p t2 t3 8 (by omega) HRD.out
              rw [Ho.out] at hb
              refine Calls.mono hb ?_
              clear hb
              rintro e u127 ⟨b, m, cb, rfl, hm, hI, hR, hg1, hlo⟩
              replace HR := Lib.hid (grown_row hg1 (by intro e; injection e with e; exact hgp e) HR.out)
              replace H0 := Lib.hid (grown_row hg1 (by intro e; injection e with e; omega) H0.out)
              replace HB := Lib.hid (HB.out.grown hg1 HB.out.size (by intro k hk; injection hk with hk; omega))
              replace HRD := Lib.hid hR
              have hm8 : m ≤ 8 := by have h1 : o1.length = m := hI.1; have := HoL.out; omega
              have HCP := Lib.hid (ints_copy hI 8 hm8)
              have HFIT : Hid (9 + (o1.map (Value.int .u8)).length ≤ (splice (row0 q) 1 (n1.map (Value.int .u8))).length) := Lib.hid (by rw [List.length_map, HL1.out]; have := HoL.out; omega)
              clear hR hg1 hI hlo hm hm8
              go_wp2_with fail
              refine ⟨trivial, ?_⟩
              refine plan_us (by rfl) (by kernel_rfl) ?_
              intro K hK
              refine wp_copy_grown _ _ 23 23 rfl 5 Try.underlying23 infoU8t _ _ _ _ _ _ rfl rfl g 9 (splice (row0 q) 1 (n1.map (Value.int .u8))) 32 HR.out (o1.map (Value.int .u8)) HCP.out.1 (fun h => ⟨rfl, HCP.out.2 h⟩) HFIT.out ints_one ?_
              intro u128 hr6 hg2
              replace HR := Lib.hid hr6
              replace H0 := Lib.hid (grown_row hg2 (by intro e; injection e with e; omega) H0.out)
              replace HRD := Lib.hid (HRD.out.grownG hg2 hgp hgW)
              replace HB := Lib.hid (HB.out.grown hg2 HB.out.size (by intro k hk; injection hk with hk; omega))
              refine hK _ _ ⟨trivial, ?_⟩
              clear hK hr6 hg2 hne HCP HFIT
              show Exit.then _ _ _ _ _
              simp only [Act.put, List.setIfInBounds_toArray, List.set_cons_succ, List.set_cons_zero]
              have hl2 : (splice (splice (row0 q) 1 (n1.map (Value.int .u8))) 9 (o1.map (Value.int .u8))).length = 20 := (length_splice _ _ _ (by rw [List.length_map, HL1.out]; have := HoL.out; omega)).trans HL1.out
              have HL2 := Lib.hid hl2
              have hat : ∀ k, k = 0 ∨ 17 ≤ k → (splice (splice (row0 q) 1 (n1.map (Value.int .u8))) 9 (o1.map (Value.int .u8)))[k]? = (row0 q)[k]? := fun k hk => by
                rw [splice_at _ _ _ (by rw [List.length_map, HL1.out]; have := HoL.out; omega) k (by rw [List.length_map]; have := HoL.out; omega), splice_at _ _ _ (by rw [List.length_map]; have := HnL.out; show 1 + n1.length ≤ 20; omega) k (by rw [List.length_map]; have := HnL.out; omega)]
              have c0 : u128.cell? ⟨g, 0, none⟩ = some (.int .i64 q) := row_cell HR.out 0 _ (by rw [List.getElem?_toArray, hat 0 (by omega)]; rfl)
              have c17 : u128.cell? ⟨g, 17, none⟩ = some (.slice none 0 0) := row_cell HR.out 17 _ (by rw [List.getElem?_toArray, hat 17 (by omega)]; rfl)
              have hat17 := hat 17 (by omega)
              have C17 : Hid ((splice (splice (row0 q) 1 (n1.map (Value.int .u8))) 9 (o1.map (Value.int .u8)))[17]? = some (.slice none 0 0)) := Lib.hid (by rw [hat17]; rfl)
              clear hat hl2 hat17
              have HK : Hid (tokM q o2 o3 = ([], o2, o3)) := Lib.hid (by unfold tokM; rw [if_neg (by omega)])
              go_upto_region 20 with fail
              clear c0 c17
              replace HR : Hid (u128.heap[g]? = some (.cells (lrow q n1 o1 (.slice none 0 0)).toArray 32 (0, 0))) := Lib.hid (by
                have h := HR.out
                have e : lrow q n1 o1 (.slice none 0 0) = (splice (splice (row0 q) 1 (n1.map (Value.int .u8))) 9 (o1.map (Value.int .u8))) := by
                  unfold lrow
                  refine List.ext_getElem? fun i => ?_
                  rw [List.getElem?_set]
                  split
                  · rename_i hi
                    subst hi
                    rw [if_pos (by rw [HL2.out]; decide)]
                    exact (C17.out).symm
                  · rfl
                rw [e]
                exact h)
              clear C17
              go_upto_region 21 with fail
              go_wp2_with fail
              obtain ⟨⟨m1, m2, m3⟩, hN⟩ : ∃ r, varM o2 o3 = r := ⟨_, rfl⟩
              have hb := rvar_any w u128 0 p o2 o3 HRD.out
              rw [hN] at hb
              have HN := Lib.hid hN
              clear hN
              refine Calls.mono hb ?_
              clear hb
              rintro e u129 ⟨rfl, hR, hg1⟩
              replace HR := Lib.hid (grown_row hg1 (by intro e; injection e with e; exact hgp e) HR.out)
              replace H0 := Lib.hid (grown_row hg1 (by intro e; injection e with e; omega) H0.out)
              replace HB := Lib.hid (HB.out.grown hg1 HB.out.size (by intro k hk; injection hk with hk; omega))
              replace HRD := Lib.hid hR
              clear hR hg1
              go_wp2_with (first | (refine wpList_store_row rfl 32 _ _ rfl g0 rfl rowZ rowZ rfl 32 H0.out rfl rfl rowZ_one ?_; intro wz hz hgz) | fail)
              (try simp only [Exit.inBlock, Exit.then])
              refine bodyPost_ret (results_cell4 rfl _ _ g0 rfl rowZ _ _ hz Try.underlying32 rfl rfl) rfl ?_
              rw [← HQQ.out]
              exact ⟨HB.out.grown hgz HB.out.size (by intro k hk; injection hk with hk; omega), .inl ⟨HNO.out, rfl⟩⟩
            · skip
              have hz8 : (t1 == 8) = false := by rw [int_beq]; exact decide_eq_false h8t
              go_upto_region 17 with fail
              clear hz8
              obtain ⟨⟨o1, o2, o3⟩, ho⟩ : ∃ r, rdM t2 t3 8 = r := ⟨_, rfl⟩
              have hyl := rdM_len1 t2 t3 8
              rw [show ((8 : Nat) : Int) = 8 from rfl, ho] at hyl
              simp only at hyl
              have Ho := Lib.hid ho; have HoL := Lib.hid hyl
              clear ho hyl
              refine wp_plan (.t 0 (.t 1 (.t 2 (.u 3 (.u 4 .done))))) (fun y => True) (by kernel_rfl) (by kernel_rfl) (by kernel_rfl) (fun c a d v w h => by cases d <;> exact h) trivial ?_
              haveI hne : Nonempty (In fun y => True) := ⟨⟨w, trivial⟩⟩
              replace HB := Lib.hid HB.out.drew
              replace HRD := Lib.hid (HRD.out.to (Below.refl _ _).drew)
              replace HR : Hid (u125.drew.heap[g]? = some (.cells (splice (row0 q) 1 (n1.map (Value.int .u8))).toArray 32 (0, 0))) := HR
              replace H0 : Hid (u125.drew.heap[g0]? = some (.cells rowZ.toArray 32 (0, 0))) := H0
              generalize u125.drew = u130 at HB HRD HR H0 ⊢
              repeat (refine plan_t (by rfl) ?_; (first | go_big_quiet_skip | (go_big_quiet_want; go_big_quiet_op; go_big_quiet_on)); refine wpQuiet_nil ?_)
              refine plan_us (by rfl) (by kernel_rfl) ?_
              intro K hK
              go_wp2_with fail
              have hb := rraw_any w u130 0 p t2 t3 8 (by omega) HRD.out
              rw [Ho.out] at hb
              refine Calls.mono hb ?_
              clear hb
              rintro e u131 ⟨b, m, cb, rfl, hm, hI, hR, hg1, hlo⟩
              replace HR := Lib.hid (grown_row hg1 (by intro e; injection e with e; exact hgp e) HR.out)
              replace H0 := Lib.hid (grown_row hg1 (by intro e; injection e with e; omega) H0.out)
              replace HB := Lib.hid (HB.out.grown hg1 HB.out.size (by intro k hk; injection hk with hk; omega))
              replace HRD := Lib.hid hR
              have hm8 : m ≤ 8 := by have h1 : o1.length = m := hI.1; have := HoL.out; omega
              have HCP := Lib.hid (ints_copy hI 8 hm8)
              have HFIT : Hid (9 + (o1.map (Value.int .u8)).length ≤ (splice (row0 q) 1 (n1.map (Value.int .u8))).length) := Lib.hid (by rw [List.length_map, HL1.out]; have := HoL.out; omega)
              clear hR hg1 hI hlo hm hm8
              go_wp2_with fail
              refine ⟨trivial, ?_⟩
              refine plan_us (by rfl) (by kernel_rfl) ?_
              intro K hK
              refine wp_copy_grown _ _ 23 23 rfl 5 Try.underlying23 infoU8t _ _ _ _ _ _ rfl rfl g 9 (splice (row0 q) 1 (n1.map (Value.int .u8))) 32 HR.out (o1.map (Value.int .u8)) HCP.out.1 (fun h => ⟨rfl, HCP.out.2 h⟩) HFIT.out ints_one ?_
              intro u132 hr6 hg2
              replace HR := Lib.hid hr6
              replace H0 := Lib.hid (grown_row hg2 (by intro e; injection e with e; omega) H0.out)
              replace HRD := Lib.hid (HRD.out.grownG hg2 hgp hgW)
              replace HB := Lib.hid (HB.out.grown hg2 HB.out.size (by intro k hk; injection hk with hk; omega))
              refine hK _ _ ⟨trivial, ?_⟩
              clear hK hr6 hg2 hne HCP HFIT
              show Exit.then _ _ _ _ _
              simp only [Act.put, List.setIfInBounds_toArray, List.set_cons_succ, List.set_cons_zero]
              have hl2 : (splice (splice (row0 q) 1 (n1.map (Value.int .u8))) 9 (o1.map (Value.int .u8))).length = 20 := (length_splice _ _ _ (by rw [List.length_map, HL1.out]; have := HoL.out; omega)).trans HL1.out
              have HL2 := Lib.hid hl2
              have hat : ∀ k, k = 0 ∨ 17 ≤ k → (splice (splice (row0 q) 1 (n1.map (Value.int .u8))) 9 (o1.map (Value.int .u8)))[k]? = (row0 q)[k]? := fun k hk => by
                rw [splice_at _ _ _ (by rw [List.length_map, HL1.out]; have := HoL.out; omega) k (by rw [List.length_map]; have := HoL.out; omega), splice_at _ _ _ (by rw [List.length_map]; have := HnL.out; show 1 + n1.length ≤ 20; omega) k (by rw [List.length_map]; have := HnL.out; omega)]
              have c0 : u132.cell? ⟨g, 0, none⟩ = some (.int .i64 q) := row_cell HR.out 0 _ (by rw [List.getElem?_toArray, hat 0 (by omega)]; rfl)
              have c17 : u132.cell? ⟨g, 17, none⟩ = some (.slice none 0 0) := row_cell HR.out 17 _ (by rw [List.getElem?_toArray, hat 17 (by omega)]; rfl)
              have hat17 := hat 17 (by omega)
              have C17 : Hid ((splice (splice (row0 q) 1 (n1.map (Value.int .u8))) 9 (o1.map (Value.int .u8)))[17]? = some (.slice none 0 0)) := Lib.hid (by rw [hat17]; rfl)
              clear hat hl2 hat17
              have HK : Hid (tokM q o2 o3 = ([], o2, o3)) := Lib.hid (by unfold tokM; rw [if_neg (by omega)])
              go_upto_region 20 with fail
              clear c0 c17
              replace HR : Hid (u132.heap[g]? = some (.cells (lrow q n1 o1 (.slice none 0 0)).toArray 32 (0, 0))) := Lib.hid (by
                have h := HR.out
                have e : lrow q n1 o1 (.slice none 0 0) = (splice (splice (row0 q) 1 (n1.map (Value.int .u8))) 9 (o1.map (Value.int .u8))) := by
                  unfold lrow
                  refine List.ext_getElem? fun i => ?_
                  rw [List.getElem?_set]
                  split
                  · rename_i hi
                    subst hi
                    rw [if_pos (by rw [HL2.out]; decide)]
                    exact (C17.out).symm
                  · rfl
                rw [e]
                exact h)
              clear C17
              go_upto_region 21 with fail
              go_wp2_with fail
              obtain ⟨⟨m1, m2, m3⟩, hN⟩ : ∃ r, varM o2 o3 = r := ⟨_, rfl⟩
              have hb := rvar_any w u132 0 p o2 o3 HRD.out
              rw [hN] at hb
              have HN := Lib.hid hN
              clear hN
              refine Calls.mono hb ?_
              clear hb
              rintro e u133 ⟨rfl, hR, hg1⟩
              replace HR := Lib.hid (grown_row hg1 (by intro e; injection e with e; exact hgp e) HR.out)
              replace H0 := Lib.hid (grown_row hg1 (by intro e; injection e with e; omega) H0.out)
              replace HB := Lib.hid (HB.out.grown hg1 HB.out.size (by intro k hk; injection hk with hk; omega))
              replace HRD := Lib.hid hR
              clear hR hg1
              go_wp2_with (first | (refine wpList_store_row rfl 32 _ _ rfl g0 rfl rowZ rowZ rfl 32 H0.out rfl rfl rowZ_one ?_; intro wz hz hgz) | fail)
              (try simp only [Exit.inBlock, Exit.then])
              refine bodyPost_ret (results_cell4 rfl _ _ g0 rfl rowZ _ _ hz Try.underlying32 rfl rfl) rfl ?_
              rw [← HQQ.out]
              exact ⟨HB.out.grown hgz HB.out.size (by intro k hk; injection hk with hk; omega), .inl ⟨HNO.out, rfl⟩⟩
          · skip
            have hz8 : (z1 == 8) = false := by rw [int_beq]; exact decide_eq_false h8z
            go_upto_region 15 with fail
            clear hz8
            obtain ⟨⟨n1, n2, n3⟩, hn⟩ : ∃ r, rdM z2 z3 8 = r := ⟨_, rfl⟩
            have hyl := rdM_len1 z2 z3 8
            rw [show ((8 : Nat) : Int) = 8 from rfl, hn] at hyl
            simp only at hyl
            have Hn := Lib.hid hn; have HnL := Lib.hid hyl
            clear hn hyl
            refine wp_plan (.t 0 (.t 1 (.t 2 (.u 3 (.u 4 .done))))) (fun y => True) (by kernel_rfl) (by kernel_rfl) (by kernel_rfl) (fun c a d v w h => by cases d <;> exact h) trivial ?_
            haveI hne : Nonempty (In fun y => True) := ⟨⟨w, trivial⟩⟩
            replace HB := Lib.hid HB.out.drew
            replace HRD := Lib.hid (HRD.out.to (Below.refl _ _).drew)
            replace HR : Hid (u121.drew.heap[g]? = some (.cells (row0 q).toArray 32 (0, 0))) := HR
            replace H0 : Hid (u121.drew.heap[g0]? = some (.cells rowZ.toArray 32 (0, 0))) := H0
            generalize u121.drew = u134 at HB HRD HR H0 ⊢
            repeat (refine plan_t (by rfl) ?_; (first | go_big_quiet_skip | (go_big_quiet_want; go_big_quiet_op; go_big_quiet_on)); refine wpQuiet_nil ?_)
            refine plan_us (by rfl) (by kernel_rfl) ?_
            intro K hK
            go_wp2_with fail
            have hb := rraw_any w u134 0 p z2 z3 8 (by omega) HRD.out
            rw [Hn.out] at hb
            refine Calls.mono hb ?_
            clear hb
            rintro e u135 ⟨b, m, cb, rfl, hm, hI, hR, hg1, hlo⟩
            replace HR := Lib.hid (grown_row hg1 (by intro e; injection e with e; exact hgp e) HR.out)
            replace H0 := Lib.hid (grown_row hg1 (by intro e; injection e with e; omega) H0.out)
            replace HB := Lib.hid (HB.out.grown hg1 HB.out.size (by intro k hk; injection hk with hk; omega))
            replace HRD := Lib.hid hR
            have hm8 : m ≤ 8 := by have h1 : n1.length = m := hI.1; have := HnL.out; omega
            have HCP := Lib.hid (ints_copy hI 8 hm8)
            have HFIT : Hid (1 + (n1.map (Value.int .u8)).length ≤ (row0 q).length) := Lib.hid (by rw [List.length_map, show (row0 q).length = 20 from rfl]; have := HnL.out; omega)
            clear hR hg1 hI hlo hm hm8
            go_wp2_with fail
            refine ⟨trivial, ?_⟩
            refine plan_us (by rfl) (by kernel_rfl) ?_
            intro K hK
            refine wp_copy_grown _ _ 23 23 rfl 5 Try.underlying23 infoU8t _ _ _ _ _ _ rfl rfl g 1 (row0 q) 32 HR.out (n1.map (Value.int .u8)) HCP.out.1 (fun h => ⟨rfl, HCP.out.2 h⟩) HFIT.out ints_one ?_
            intro u136 hr6 hg2
            replace HR := Lib.hid hr6
            replace H0 := Lib.hid (grown_row hg2 (by intro e; injection e with e; omega) H0.out)
            replace HRD := Lib.hid (HRD.out.grownG hg2 hgp hgW)
            replace HB := Lib.hid (HB.out.grown hg2 HB.out.size (by intro k hk; injection hk with hk; omega))
            refine hK _ _ ⟨trivial, ?_⟩
            clear hK hr6 hg2 hne HCP HFIT
            show Exit.then _ _ _ _ _
            simp only [Act.put, List.setIfInBounds_toArray, List.set_cons_succ, List.set_cons_zero]
            have hl1 : (splice (row0 q) 1 (n1.map (Value.int .u8))).length = 20 := length_splice _ _ _ (by rw [List.length_map]; have := HnL.out; show 1 + n1.length ≤ 20; omega)
            have HL1 := Lib.hid hl1
            clear hl1
            go_wp2_with fail
            obtain ⟨⟨t1, t2, t3⟩, ht⟩ : ∃ r, byteM n2 n3 = r := ⟨_, rfl⟩
            have hb := rbyte_any w u136 0 p n2 n3 HRD.out
            rw [ht] at hb
            have Ht := Lib.hid ht
            clear ht
            refine Calls.mono hb ?_
            clear hb
            rintro e u137 ⟨rfl, hR, hg1⟩
            replace HR := Lib.hid (grown_row hg1 (by intro e; injection e with e; exact hgp e) HR.out)
            replace H0 := Lib.hid (grown_row hg1 (by intro e; injection e with e; omega) H0.out)
            replace HB := Lib.hid (HB.out.grown hg1 HB.out.size (by intro k hk; injection hk with hk; omega))
            replace HRD := Lib.hid hR
            clear hR hg1
            by_cases h8t : t1 = 8
            · skip
              subst h8t
              go_upto_region 17 with fail
              obtain ⟨⟨o1, o2, o3⟩, ho⟩ : ∃ r, rdM t2 t3 8 = r := ⟨_, rfl⟩
              have hyl := rdM_len1 t2 t3 8
              rw [show ((8 : Nat) : Int) = 8 from rfl, ho] at hyl
              simp only at hyl
              have Ho := Lib.hid ho; have HoL := Lib.hid hyl
              clear ho hyl
              refine wp_plan (.t 0 (.t 1 (.t 2 (.u 3 (.u 4 .done))))) (fun y => True) (by kernel_rfl) (by kernel_rfl) (by kernel_rfl) (fun c a d v w h => by cases d <;> exact h) trivial ?_
              haveI hne : Nonempty (In fun y => True) := ⟨⟨w, trivial⟩⟩
              replace HB := Lib.hid HB.out.drew
              replace HRD := Lib.hid (HRD.out.to (Below.refl _ _).drew)
              replace HR : Hid (u137.drew.heap[g]? = some (.cells (splice (row0 q) 1 (n1.map (Value.int .u8))).toArray 32 (0, 0))) := HR
              replace H0 : Hid (u137.drew.heap[g0]? = some (.cells rowZ.toArray 32 (0, 0))) := H0
              generalize u137.drew = u138 at HB HRD HR H0 ⊢
              repeat (refine plan_t (by rfl) ?_; (first | go_big_quiet_skip | (go_big_quiet_want; go_big_quiet_op; go_big_quiet_on)); refine wpQuiet_nil ?_)
              refine plan_us (by rfl) (by kernel_rfl) ?_
              intro K hK
              go_wp2_with fail
              have hb := rraw_any w u138 0 p t2 t3 8 (by omega) HRD.out
              rw [Ho.out] at hb
              refine Calls.mono hb ?_
              clear hb
              rintro e u139 ⟨b, m, cb, rfl, hm, hI, hR, hg1, hlo⟩
              replace HR := Lib.hid (grown_row hg1 (by intro e; injection e with e; exact hgp e) HR.out)
              replace H0 := Lib.hid (grown_row hg1 (by intro e; injection e with e; omega) H0.out)
              replace HB := Lib.hid (HB.out.grown hg1 HB.out.size (by intro k hk; injection hk with hk; omega))
              replace HRD := Lib.hid hR
              have hm8 : m ≤ 8 := by have h1 : o1.length = m := hI.1; have := HoL.out; omega
              have HCP := Lib.hid (ints_copy hI 8 hm8)
              have HFIT : Hid (9 + (o1.map (Value.int .u8)).length ≤ (splice (row0 q) 1 (n1.map (Value.int .u8))).length) := Lib.hid (by rw [List.length_map, HL1.out]; have := HoL.out; omega)
              clear hR hg1 hI hlo hm hm8
              go_wp2_with fail
              refine ⟨trivial, ?_⟩
              refine plan_us (by rfl) (by kernel_rfl) ?_
              intro K hK
              refine wp_copy_grown _ _ 23 23 rfl 5 Try.underlying23 infoU8t _ _ _ _ _ _ rfl rfl g 9 (splice (row0 q) 1 (n1.map (Value.int .u8))) 32 HR.out (o1.map (Value.int .u8)) HCP.out.1 (fun h => ⟨rfl, HCP.out.2 h⟩) HFIT.out ints_one ?_
              intro u140 hr6 hg2
              replace HR := Lib.hid hr6
              replace H0 := Lib.hid (grown_row hg2 (by intro e; injection e with e; omega) H0.out)
              replace HRD := Lib.hid (HRD.out.grownG hg2 hgp hgW)
              replace HB := Lib.hid (HB.out.grown hg2 HB.out.size (by intro k hk; injection hk with hk; omega))
              refine hK _ _ ⟨trivial, ?_⟩
              clear hK hr6 hg2 hne HCP HFIT
              show Exit.then _ _ _ _ _
              simp only [Act.put, List.setIfInBounds_toArray, List.set_cons_succ, List.set_cons_zero]
              have hl2 : (splice (splice (row0 q) 1 (n1.map (Value.int .u8))) 9 (o1.map (Value.int .u8))).length = 20 := (length_splice _ _ _ (by rw [List.length_map, HL1.out]; have := HoL.out; omega)).trans HL1.out
              have HL2 := Lib.hid hl2
              have hat : ∀ k, k = 0 ∨ 17 ≤ k → (splice (splice (row0 q) 1 (n1.map (Value.int .u8))) 9 (o1.map (Value.int .u8)))[k]? = (row0 q)[k]? := fun k hk => by
                rw [splice_at _ _ _ (by rw [List.length_map, HL1.out]; have := HoL.out; omega) k (by rw [List.length_map]; have := HoL.out; omega), splice_at _ _ _ (by rw [List.length_map]; have := HnL.out; show 1 + n1.length ≤ 20; omega) k (by rw [List.length_map]; have := HnL.out; omega)]
              have c0 : u140.cell? ⟨g, 0, none⟩ = some (.int .i64 q) := row_cell HR.out 0 _ (by rw [List.getElem?_toArray, hat 0 (by omega)]; rfl)
              have c17 : u140.cell? ⟨g, 17, none⟩ = some (.slice none 0 0) := row_cell HR.out 17 _ (by rw [List.getElem?_toArray, hat 17 (by omega)]; rfl)
              have hat17 := hat 17 (by omega)
              have C17 : Hid ((splice (splice (row0 q) 1 (n1.map (Value.int .u8))) 9 (o1.map (Value.int .u8)))[17]? = some (.slice none 0 0)) := Lib.hid (by rw [hat17]; rfl)
              clear hat hl2 hat17
              have HK : Hid (tokM q o2 o3 = ([], o2, o3)) := Lib.hid (by unfold tokM; rw [if_neg (by omega)])
              go_upto_region 20 with fail
              clear c0 c17
              replace HR : Hid (u140.heap[g]? = some (.cells (lrow q n1 o1 (.slice none 0 0)).toArray 32 (0, 0))) := Lib.hid (by
                have h := HR.out
                have e : lrow q n1 o1 (.slice none 0 0) = (splice (splice (row0 q) 1 (n1.map (Value.int .u8))) 9 (o1.map (Value.int .u8))) := by
                  unfold lrow
                  refine List.ext_getElem? fun i => ?_
                  rw [List.getElem?_set]
                  split
                  · rename_i hi
                    subst hi
                    rw [if_pos (by rw [HL2.out]; decide)]
                    exact (C17.out).symm
                  · rfl
                rw [e]
                exact h)
              clear C17
              go_upto_region 21 with fail
              go_wp2_with fail
              obtain ⟨⟨m1, m2, m3⟩, hN⟩ : ∃ r, varM o2 o3 = r := ⟨_, rfl⟩
              have hb := rvar_any w u140 0 p o2 o3 HRD.out
              rw [hN] at hb
              have HN := Lib.hid hN
              clear hN
              refine Calls.mono hb ?_
              clear hb
              rintro e u141 ⟨rfl, hR, hg1⟩
              replace HR := Lib.hid (grown_row hg1 (by intro e; injection e with e; exact hgp e) HR.out)
              replace H0 := Lib.hid (grown_row hg1 (by intro e; injection e with e; omega) H0.out)
              replace HB := Lib.hid (HB.out.grown hg1 HB.out.size (by intro k hk; injection hk with hk; omega))
              replace HRD := Lib.hid hR
              clear hR hg1
              go_wp2_with (first | (refine wpList_store_row rfl 32 _ _ rfl g0 rfl rowZ rowZ rfl 32 H0.out rfl rfl rowZ_one ?_; intro wz hz hgz) | fail)
              (try simp only [Exit.inBlock, Exit.then])
              refine bodyPost_ret (results_cell4 rfl _ _ g0 rfl rowZ _ _ hz Try.underlying32 rfl rfl) rfl ?_
              rw [← HQQ.out]
              exact ⟨HB.out.grown hgz HB.out.size (by intro k hk; injection hk with hk; omega), .inl ⟨HNO.out, rfl⟩⟩
            · skip
              have hz8 : (t1 == 8) = false := by rw [int_beq]; exact decide_eq_false h8t
              go_upto_region 17 with fail
              clear hz8
              obtain ⟨⟨o1, o2, o3⟩, ho⟩ : ∃ r, rdM t2 t3 8 = r := ⟨_, rfl⟩
              have hyl := rdM_len1 t2 t3 8
              rw [show ((8 : Nat) : Int) = 8 from rfl, ho] at hyl
              simp only at hyl
              have Ho := Lib.hid ho; have HoL := Lib.hid hyl
              clear ho hyl
              refine wp_plan (.t 0 (.t 1 (.t 2 (.u 3 (.u 4 .done))))) (fun y => True) (by kernel_rfl) (by kernel_rfl) (by kernel_rfl) (fun c a d v w h => by cases d <;> exact h) trivial ?_
              haveI hne : Nonempty (In fun y => True) := ⟨⟨w, trivial⟩⟩
              replace HB := Lib.hid HB.out.drew
              replace HRD := Lib.hid (HRD.out.to (Below.refl _ _).drew)
              replace HR : Hid (u137.drew.heap[g]? = some (.cells (splice (row0 q) 1 (n1.map (Value.int .u8))).toArray 32 (0, 0))) := HR
              replace H0 : Hid (u137.drew.heap[g0]? = some (.cells rowZ.toArray 32 (0, 0))) := H0
              generalize u137.drew = u142 at HB HRD HR H0 ⊢
              repeat (refine plan_t (by rfl) ?_; (first | go_big_quiet_skip | (go_big_quiet_want; go_big_quiet_op; go_big_quiet_on)); refine wpQuiet_nil ?_)
              refine plan_us (by rfl) (by kernel_rfl) ?_
              intro K hK
              go_wp2_with fail
              have hb := rraw_any w u142 0 p t2 t3 8 (by omega) HRD.out
              rw [Ho.out] at hb
              refine Calls.mono hb ?_
              clear hb
              rintro e u143 ⟨b, m, cb, rfl, hm, hI, hR, hg1, hlo⟩
              replace HR := Lib.hid (grown_row hg1 (by intro e; injection e with e; exact hgp e) HR.out)
              replace H0 := Lib.hid (grown_row hg1 (by intro e; injection e with e; omega) H0.out)
              replace HB := Lib.hid (HB.out.grown hg1 HB.out.size (by intro k hk; injection hk with hk; omega))
              replace HRD := Lib.hid hR
              have hm8 : m ≤ 8 := by have h1 : o1.length = m := hI.1; have := HoL.out; omega
              have HCP := Lib.hid (ints_copy hI 8 hm8)
              have HFIT : Hid (9 + (o1.map (Value.int .u8)).length ≤ (splice (row0 q) 1 (n1.map (Value.int .u8))).length) := Lib.hid (by rw [List.length_map, HL1.out]; have := HoL.out; omega)
              clear hR hg1 hI hlo hm hm8
              go_wp2_with fail
              refine ⟨trivial, ?_⟩
              refine plan_us (by rfl) (by kernel_rfl) ?_
              intro K hK
              refine wp_copy_grown _ _ 23 23 rfl 5 Try.underlying23 infoU8t _ _ _ _ _ _ rfl rfl g 9 (splice (row0 q) 1 (n1.map (Value.int .u8))) 32 HR.out (o1.map (Value.int .u8)) HCP.out.1 (fun h => ⟨rfl, HCP.out.2 h⟩) HFIT.out ints_one ?_
              intro u144 hr6 hg2
              replace HR := Lib.hid hr6
              replace H0 := Lib.hid (grown_row hg2 (by intro e; injection e with e; omega) H0.out)
              replace HRD := Lib.hid (HRD.out.grownG hg2 hgp hgW)
              replace HB := Lib.hid (HB.out.grown hg2 HB.out.size (by intro k hk; injection hk with hk; omega))
              refine hK _ _ ⟨trivial, ?_⟩
              clear hK hr6 hg2 hne HCP HFIT
              show Exit.then _ _ _ _ _
              simp only [Act.put, List.setIfInBounds_toArray, List.set_cons_succ, List.set_cons_zero]
              have hl2 : (splice (splice (row0 q) 1 (n1.map (Value.int .u8))) 9 (o1.map (Value.int .u8))).length = 20 := (length_splice _ _ _ (by rw [List.length_map, HL1.out]; have := HoL.out; omega)).trans HL1.out
              have HL2 := Lib.hid hl2
              have hat : ∀ k, k = 0 ∨ 17 ≤ k → (splice (splice (row0 q) 1 (n1.map (Value.int .u8))) 9 (o1.map (Value.int .u8)))[k]? = (row0 q)[k]? := fun k hk => by
                rw [splice_at _ _ _ (by rw [List.length_map, HL1.out]; have := HoL.out; omega) k (by rw [List.length_map]; have := HoL.out; omega), splice_at _ _ _ (by rw [List.length_map]; have := HnL.out; show 1 + n1.length ≤ 20; omega) k (by rw [List.length_map]; have := HnL.out; omega)]
              have c0 : u144.cell? ⟨g, 0, none⟩ = some (.int .i64 q) := row_cell HR.out 0 _ (by rw [List.getElem?_toArray, hat 0 (by omega)]; rfl)
              have c17 : u144.cell? ⟨g, 17, none⟩ = some (.slice none 0 0) := row_cell HR.out 17 _ (by rw [List.getElem?_toArray, hat 17 (by omega)]; rfl)
              have hat17 := hat 17 (by omega)
              have C17 : Hid ((splice (splice (row0 q) 1 (n1.map (Value.int .u8))) 9 (o1.map (Value.int .u8)))[17]? = some (.slice none 0 0)) := Lib.hid (by rw [hat17]; rfl)
              clear hat hl2 hat17
              have HK : Hid (tokM q o2 o3 = ([], o2, o3)) := Lib.hid (by unfold tokM; rw [if_neg (by omega)])
              go_upto_region 20 with fail
              clear c0 c17
              replace HR : Hid (u144.heap[g]? = some (.cells (lrow q n1 o1 (.slice none 0 0)).toArray 32 (0, 0))) := Lib.hid (by
                have h := HR.out
                have e : lrow q n1 o1 (.slice none 0 0) = (splice (splice (row0 q) 1 (n1.map (Value.int .u8))) 9 (o1.map (Value.int .u8))) := by
                  unfold lrow
                  refine List.ext_getElem? fun i => ?_
                  rw [List.getElem?_set]
                  split
                  · rename_i hi
                    subst hi
                    rw [if_pos (by rw [HL2.out]; decide)]
                    exact (C17.out).symm
                  · rfl
                rw [e]
                exact h)
              clear C17
              go_upto_region 21 with fail
              go_wp2_with fail
              obtain ⟨⟨m1, m2, m3⟩, hN⟩ : ∃ r, varM o2 o3 = r := ⟨_, rfl⟩
              have hb := rvar_any w u144 0 p o2 o3 HRD.out
              rw [hN] at hb
              have HN := Lib.hid hN
              clear hN
              refine Calls.mono hb ?_
              clear hb
              rintro e u145 ⟨rfl, hR, hg1⟩
              replace HR := Lib.hid (grown_row hg1 (by intro e; injection e with e; exact hgp e) HR.out)
              replace H0 := Lib.hid (grown_row hg1 (by intro e; injection e with e; omega) H0.out)
              replace HB := Lib.hid (HB.out.grown hg1 HB.out.size (by intro k hk; injection hk with hk; omega))
              replace HRD := Lib.hid hR
              clear hR hg1
              go_wp2_with (first | (refine wpList_store_row rfl 32 _ _ rfl g0 rfl rowZ rowZ rfl 32 H0.out rfl rfl rowZ_one ?_; intro wz hz hgz) | fail)
              (try simp only [Exit.inBlock, Exit.then])
              refine bodyPost_ret (results_cell4 rfl _ _ g0 rfl rowZ _ _ hz Try.underlying32 rfl rfl) rfl ?_
              rw [← HQQ.out]
              exact ⟨HB.out.grown hgz HB.out.size (by intro k hk; injection hk with hk; omega), .inl ⟨HNO.out, rfl⟩⟩
end Go.Proofs.Ythofbckkjcidmaa
