/- chapter 6's walks: ParamNumbers. -/
import Derived.Test.YtooneejimladdaaPrmC
import Derived.Test.YtooneejimladdaaGrow3
import Derived.Test.YtooneejimladdaaRowst
namespace Go.Proofs.Ytooneejimladdaa
open Go.RowKit
set_option linter.unusedVariables false

def PS : List Pm := [⟨0, 0, 0, 0, [0, 0, 0, 0, 0, 0, 0, 0]⟩, ⟨1073741824, 0, 0, 0, [0, 0, 0, 0, 0, 0, 0, 0]⟩, ⟨1073741825, 0, 0, 0, [0, 0, 0, 0, 0, 0, 0, 0]⟩, ⟨0, 1099511627776, 0, 0, [0, 0, 0, 0, 0, 0, 0, 0]⟩,
  ⟨0, 1099511627777, 0, 0, [0, 0, 0, 0, 0, 0, 0, 0]⟩, ⟨0, 0, 1099511627777, 0, [0, 0, 0, 0, 0, 0, 0, 0]⟩, ⟨0, 0, 0, 1048576, [0, 0, 0, 0, 0, 0, 0, 0]⟩, ⟨1, 2, 3, 4, [5, 0, 0, 0, 0, 0, 0, 0]⟩]
theorem PS_ok : ∀ p ∈ PS, p.ok := by
  intro p hp
  have h : ((decide ((Lit.int .u64 p.i).wf = true ∧ (Lit.int .u64 p.d).wf = true ∧ (Lit.int .u64 p.s).wf = true ∧ (Lit.int .u64 p.m).wf = true ∧ p.f.length = 8 ∧ ∀ x ∈ p.f, (Lit.int .u8 x).wf = true)) = true) := by
    revert p; decide
  obtain ⟨h1, h2, h3, h4, h5, h6⟩ := of_decide_eq_true h
  exact ⟨h1, h2, h3, h4, h5, h6⟩
def ALLP : List Value := PS.flatMap Pm.row
theorem allp_get : ∀ k, k < 8 → ∃ p : Pm, p.ok ∧ ∀ (j : Nat) (v : Value), p.row[j]? = some v → ALLP[k * 12 + j]? = some v := by
  intro k hk
  refine ⟨PS[k]'(by simp only [PS, List.length_cons, List.length_nil]; omega), PS_ok _ (List.getElem_mem _), fun j v hv => ?_⟩
  have hj : j < 12 := by
    have h1 := lt_of_get hv
    have h2 := (PS_ok _ (List.getElem_mem (l := PS) (n := k) (by simp only [PS, List.length_cons, List.length_nil]; omega))).len
    simp only [Pm.row, List.length_append, List.length_map, h2] at h1
    exact h1
  rw [← hv]
  have h : ∀ (a : Fin 8) (b : Fin 12), ALLP[a.val * 12 + b.val]? = (PS[a.val]'(by have := a.isLt; simp only [PS, List.length_cons, List.length_nil]; omega)).row[b.val]? := by
    intro a b
    rcases a with ⟨a, ha⟩; rcases b with ⟨b, hb⟩
    simp only
    rcases (by omega : a = 0 ∨ a = 1 ∨ a = 2 ∨ a = 3 ∨ a = 4 ∨ a = 5 ∨ a = 6 ∨ a = 7) with rfl | rfl | rfl | rfl | rfl | rfl | rfl | rfl <;>
      rcases (by omega : b = 0 ∨ b = 1 ∨ b = 2 ∨ b = 3 ∨ b = 4 ∨ b = 5 ∨ b = 6 ∨ b = 7 ∨ b = 8 ∨ b = 9 ∨ b = 10 ∨ b = 11) with rfl | rfl | rfl | rfl | rfl | rfl | rfl | rfl | rfl | rfl | rfl | rfl <;> rfl
  exact h ⟨k, hk⟩ ⟨j, hj⟩
theorem prow_len (p : Pm) (hl : p.f.length = 8) : p.row.length = 12 := by simp [Pm.row, hl]
theorem prow_one (p : Pm) : ∀ v ∈ p.row, v.oneCell' = true := by
  intro v hv
  simp only [Pm.row, List.mem_append, List.mem_cons, List.not_mem_nil, or_false] at hv
  rcases hv with (rfl | rfl | rfl | rfl) | hv
  · rfl
  · rfl
  · rfl
  · rfl
  · exact ints_one v hv

/-- a value that is a short slice of bytes. -/
def SL (w : World) (v : Value) : Prop := ∃ (a : Option Addr) (l c : Nat) (zs : List Int), v = .slice a l c ∧ l ≤ 20 ∧ l ≤ c ∧ c ≤ 1000 ∧ IntsK .u8 w a l zs
theorem SL.below {w w' : World} {v : Value} (h : SL w v) (hb : Below w.heap.size w w') : SL w' v := by
  obtain ⟨a, l, c, zs, h1, h2, h3, h4, h5⟩ := h
  exact ⟨a, l, c, zs, h1, h2, h3, h4, h5.below hb⟩
theorem SL.made (w : World) (zs : List Int) (n : Nat) (hz : zs.length = n) (hn : n ≤ 20) (hw : ∀ x ∈ zs, (Lit.int .u8 x).wf = true) : SL (w.alloc (.cells (zs.map (Value.int .u8)).toArray 5)) (.slice (some ⟨w.heap.size, 0, none⟩) n n) := by
  have h := IntsK.of_row (k := .u8) (zs := zs) (heap_alloc_new w (.cells (zs.map (Value.int .u8)).toArray 5)) hw
  rw [hz] at h
  exact ⟨_, n, n, zs, rfl, hn, Nat.le_refl _, by omega, h⟩
theorem byte_wf {x : Nat} (h : x < 64) {zs : List Int} (hz : ∀ y ∈ zs, (Lit.int .u8 y).wf = true) : ∀ y ∈ ((x : Int) :: zs), (Lit.int .u8 y).wf = true := by
  intro y hy
  rcases List.mem_cons.1 hy with rfl | hy
  · exact wf_u8_of (by omega) (by omega)
  · exact hz y hy

set_option maxRecDepth 100000 in
set_option maxHeartbeats 8000000 in
theorem numbers6_any (w : World) : Makes Try.prog 3 #[] w (.bool true) := by
  have HB := Lib.hid (Below.refl w.heap.size w)
  go_enter Try.func3, Try.ntmps3
  go_wp2_with fail
  change Code.wp _ _ _ _ (w.alloc (.cells ALLP.toArray 26))
  have hb := (Below.refl w.heap.size w).alloc (Nat.le_refl _) (.cells ALLP.toArray 26)
  replace HB := Lib.hid (bl_next HB.out HB.out.size hb)
  have HGA := Lib.hid (heap_alloc_new w (.cells ALLP.toArray 26))
  clear hb
  generalize w.alloc (.cells ALLP.toArray 26) = w1 at HB HGA ⊢
  obtain ⟨gA, hg⟩ : ∃ g, w.heap.size = g := ⟨_, rfl⟩
  rw [hg] at HGA ⊢
  clear hg
  go_loopw [20] (fun i wr => ∃ k : Nat, i = .int .i64 k ∧ k ≤ 8 ∧ Hid (Below w.heap.size w wr) ∧ Hid (wr.heap[gA]? = some (.cells ALLP.toArray 26 (0, 0)))) (fun i _ => 8 - (intOf i).toNat)
  case atStart => exact ⟨0, rfl, by omega, HB, HGA⟩
  case round =>
    clear HB HGA
    obtain ⟨k, rfl, hk, HB, HGA⟩ := hrel
    by_cases hlt : k < 8
    · obtain ⟨p, hpok, hprow⟩ := allp_get k hlt
      have hlen := hpok.len
      have HOK := Lib.hid hpok
      have HRT := Lib.hid (rng_row HGA.out (k * 12) p.row hprow)
      clear hpok hprow
      have HEN := Lib.hid (fun w => encodes6_any w p HOK.out)
      have HRI := Lib.hid (fun w => rright_any w p HOK.out.len)
      have HRE := Lib.hid (fun w (h : rightM p = true) => rpencode_any w p HOK.out h)
      have hle := encP_len p hlen
      have HL1 := Lib.hid (prow_len p hlen); have HO1 := Lib.hid (prow_one p)
      clear hlen
      simp only [Pm.val] at HEN HRI HRE
      obtain ⟨R1, hR1⟩ : ∃ R, p.row = R := ⟨_, rfl⟩
      rw [hR1] at HRT HL1 HO1 HEN HRI HRE
      clear hR1
      go_upto_region 4 with (first | (refine wpList_load_mid rfl 26 _ rfl gA (k * 12) rfl R1 _ HRT.out Try.underlying26 rfl (by rw [HL1.out]; rfl) ?_) | (refine wpList_store_row rfl 26 _ _ rfl _ rfl R1 [.int .u64 0, .int .u64 0, .int .u64 0, .int .u64 0, .int .u8 0, .int .u8 0, .int .u8 0, .int .u8 0, .int .u8 0, .int .u8 0, .int .u8 0, .int .u8 0] rfl 26 (heap_alloc_new _ _) (by rw [HL1.out]; rfl) (by rw [HL1.out]; rfl) HO1.out ?_; intro w2 hr hg) | fail)
      have hal := (Below.refl wr.heap.size wr).alloc (Nat.le_refl _) (.cells ([.int .u64 0, .int .u64 0, .int .u64 0, .int .u64 0, .int .u8 0, .int .u8 0, .int .u8 0, .int .u8 0, .int .u8 0, .int .u8 0, .int .u8 0, .int .u8 0]).toArray 26)
      have hb : Below wr.heap.size wr w2 := hal.grown hg hal.size (by intro k hk; injection hk with hk; omega)
      replace HB := Lib.hid (bl_next HB.out HB.out.size hb)
      replace HGA := Lib.hid (bl_row hb (lt_of_block HGA.out) HGA.out)
      have HGP := Lib.hid (hr)
      clear hr hg hal hb
      obtain ⟨gp, hg⟩ : ∃ g, wr.heap.size = g := ⟨_, rfl⟩
      rw [hg] at HGP ⊢
      clear hg
      go_wp2_with (first | (refine wpList_load_mid rfl 26 _ rfl gp 0 rfl R1 _ (rngL HGP.out) Try.underlying26 rfl (by rw [HL1.out]; rfl) ?_) | fail)
      refine Calls.mono (HEN.out _) ?_
      rintro e w3 ⟨rfl, hb⟩
      replace HB := Lib.hid (bl_next HB.out HB.out.size hb)
      replace HGA := Lib.hid (bl_row hb (lt_of_block HGA.out) HGA.out)
      replace HGP := Lib.hid (bl_row hb (lt_of_block HGP.out) HGP.out)
      clear hb
      clear HEN
      go_wp2_with (first | (refine wpList_load_mid rfl 26 _ rfl gp 0 rfl R1 _ (rngL HGP.out) Try.underlying26 rfl (by rw [HL1.out]; rfl) ?_) | fail)
      refine Calls.mono (HRI.out _) ?_
      rintro e w4 ⟨rfl, hb⟩
      replace HB := Lib.hid (bl_next HB.out HB.out.size hb)
      replace HGA := Lib.hid (bl_row hb (lt_of_block HGA.out) HGA.out)
      replace HGP := Lib.hid (bl_row hb (lt_of_block HGP.out) HGP.out)
      clear hb
      clear HRI
      generalize decide ((k : Int) < 8) = q1
      rcases hrm : rightM p with _ | _
      · clear HRE hrm
        go_wp2_with fail
        go_roundw
        case rel => exact ⟨k + 1, by go_num, by omega, HB, HGA⟩
        case measure => simp [intOf]; omega
      · replace HRE := Lib.hid (fun w => HRE.out w hrm)
        have HRM := Lib.hid hrm
        clear hrm
        go_wp2_with (first | (refine wpList_load_mid rfl 26 _ rfl gp 0 rfl R1 _ (rngL HGP.out) Try.underlying26 rfl (by rw [HL1.out]; rfl) ?_) | fail)
        refine Calls.mono (HRE.out _) ?_
        rintro e w5 ⟨v1, rfl, hb, ho1⟩
        replace HB := Lib.hid (bl_next HB.out HB.out.size hb)
        replace HGA := Lib.hid (bl_row hb (lt_of_block HGA.out) HGA.out)
        replace HGP := Lib.hid (bl_row hb (lt_of_block HGP.out) HGP.out)
        clear hb HRE
        have hew : ∀ x ∈ encP p, (Lit.int .u8 x).wf = true := encP_wf p HOK.out HRM.out
        obtain ⟨b, cp, rfl, hcp, hib, _⟩ := ints_of_own ho1 hew
        have hcm := own_capm ho1 _ _ _ rfl
        have HEW := Lib.hid hew
        have HI := Lib.hid hib
        clear ho1 hew hib HGP HOK HL1 HO1 HRT
        obtain ⟨es, hes⟩ : ∃ es, encP p = es := ⟨_, rfl⟩
        rw [hes] at HI HEW hle hcp ⊢
        clear hes
        obtain ⟨L, hL⟩ : ∃ L, es.length = L := ⟨_, rfl⟩
        rw [hL] at HI hle hcp ⊢
        clear hL
        have HLE := Lib.hid hle; have HCP := Lib.hid hcp; have HCM := Lib.hid hcm
        clear hcp hcm
        go_wp2_with fail
        go_loopw [4] (fun i wr => ∃ n : Nat, i = .int .i64 n ∧ n ≤ L + 1 ∧ Hid (Below w.heap.size w wr) ∧ Hid (wr.heap[gA]? = some (.cells ALLP.toArray 26 (0, 0))) ∧ Hid (IntsK .u8 wr b L es)) (fun i _ => L + 1 - (intOf i).toNat)
        case atStart => exact ⟨0, rfl, by omega, HB, HGA, HI⟩
        case round =>
          clear HB HGA HI
          obtain ⟨n, rfl, hn, HB, HGA, HI⟩ := hrel
          by_cases hln : n ≤ L
          · skip
            go_upto_region 11 with fail
            generalize decide ((n : Int) ≤ (L : Int)) = q2
            have hcp := HCP.out; have hcm := HCM.out; have hle := HLE.out
            refine wp_plan (.t 0 (.t 1 (.t 2 (.u 3 (.t 4 (.t 5 (.t 7 (.t 9 (.t 10 (.t 11 (.u 6 (.u 8 (.u 12 (.u 13 (.t 14 (.t 15 (.t 16 (.t 18 (.t 19 (.t 20 (.t 22 (.u 17 (.u 21 (.u 23 (.u 24 (.t 25 (.t 26 .done))))))))))))))))))))))))))) (fun y => Below wr.heap.size wr y) (by kernel_rfl) (by kernel_rfl) (by kernel_rfl) (fun c a d v w h => by cases d <;> exact h) (Below.refl _ _).drew ?_
            have hS : Below wr.heap.size wr wr.drew := (Below.refl _ _).drew
            generalize wr.drew = Wa at hS ⊢
            haveI hne : Nonempty (In fun y => Below wr.heap.size wr y) := ⟨⟨wr, Below.refl _ _⟩⟩
            repeat (refine plan_t (by rfl) ?_; (first | go_big_quiet_skip | (go_big_quiet_want; go_big_quiet_op; go_big_quiet_on)); refine wpQuiet_nil ?_)
            refine plan_us (by rfl) (by kernel_rfl) ?_
            intro K hK
            go_wp2_with fail
            refine Calls.mono (decodes6_any _ b n cp (es.take n) (by omega) (by omega) hcm ((HI.out.pre n hln).below hS)) ?_
            rintro e w6 ⟨rfl, hb⟩
            replace hS := bl_next hS hS.size hb
            clear hb
            go_wp2_with fail
            refine ⟨hS, ?_⟩
            repeat (refine plan_t (by rfl) ?_; (first | go_big_quiet_skip | (go_big_quiet_want; go_big_quiet_op; go_big_quiet_on)); refine wpQuiet_nil ?_)
            refine plan_us (by rfl) (by kernel_rfl) ?_
            intro K hK
            go_wp2_with fail
            have hal := (Below.refl w6.heap.size w6).alloc (Nat.le_refl _) (.cells #[] 5)
            have hga := heap_alloc_new w6 (.cells #[] 5)
            have hge : wr.heap.size ≤ w6.heap.size := hS.size
            refine ⟨hS.alloc hS.size _, ?_⟩
            replace hS := bl_next hS hS.size hal
            generalize w6.alloc (.cells #[] 5) = Wb at hS hga hal ⊢
            generalize w6.heap.size = gWb at hga hal hge ⊢
            have ho : Wb.ownsRow wr.heap.size 5 1 (.slice (some ⟨gWb, 0, none⟩) 0 0) 0 (([] : List Int).map (Value.int .u8)) := own_of_row (xs := ([] : List Int).map (Value.int .u8)) hga hge rfl (by unfold maxLen; omega)
            have HO1 := Lib.hid ho
            clear ho hga hge hal
            refine plan_us (by rfl) (by kernel_rfl) ?_
            intro K hK
            refine wp_append_bytes_at _ _ rfl wr.heap.size 0 _ ([] : List Int) rfl HO1.out b L cp _ rfl (HI.out.below hS) (by omega) hS.size ?_
            intro v2 Wc hown hgrow hor
            have hS2 := hS.grown hgrow hS.size (own_base HO1.out)
            refine hK _ _ ⟨hS2, ?_⟩
            replace hS := hS2
            rw [Nat.zero_add, List.nil_append] at hown
            have HO2 := Lib.hid hown
            clear hS2 hown hgrow hor
            refine plan_us (by rfl) (by kernel_rfl) ?_
            intro K hK
            refine wp_append_bytes_at _ _ rfl wr.heap.size L _ es rfl HO2.out b n cp _ rfl ((HI.out.pre n hln).below hS) (by omega) hS.size ?_
            intro v3 Wd hown hgrow hor
            have hS2 := hS.grown hgrow hS.size (own_base HO2.out)
            refine hK _ _ ⟨hS2, ?_⟩
            replace hS := hS2
            skip
            have HO3 := Lib.hid hown
            clear hS2 hown hgrow hor
            obtain ⟨b3, cp3, rfl, hc3, hi3, _⟩ := ints_of_own HO3.out (by intro x hx; rcases List.mem_append.1 hx with h | h; exact HEW.out x h; exact HEW.out x (List.mem_of_mem_take h))
            have hm3 := own_capm HO3.out _ _ _ rfl
            refine plan_us (by rfl) (by kernel_rfl) ?_
            intro K hK
            go_wp2_with fail
            refine Calls.mono (decodes6_any _ b3 (L + n) cp3 _ (by omega) hc3 hm3 hi3) ?_
            rintro e w7 ⟨rfl, hb⟩
            replace hS := bl_next hS hS.size hb
            clear hb
            go_wp2_with fail
            refine ⟨hS, ?_⟩
            clear HO1 HO2 HO3 hc3 hi3 hm3
            repeat (refine plan_t (by rfl) ?_; (first | go_big_quiet_skip | (go_big_quiet_want; go_big_quiet_op; go_big_quiet_on)); refine wpQuiet_nil ?_)
            refine plan_us (by rfl) (by kernel_rfl) ?_
            intro K hK
            go_wp2_with fail
            have hal := (Below.refl w7.heap.size w7).alloc (Nat.le_refl _) (.cells #[.int .u8 9, .int .u8 2, .int .u8 1, .int .u8 1] 5)
            have hga := heap_alloc_new w7 (.cells #[.int .u8 9, .int .u8 2, .int .u8 1, .int .u8 1] 5)
            have hge : wr.heap.size ≤ w7.heap.size := hS.size
            refine ⟨hS.alloc hS.size _, ?_⟩
            replace hS := bl_next hS hS.size hal
            generalize w7.alloc (.cells #[.int .u8 9, .int .u8 2, .int .u8 1, .int .u8 1] 5) = We at hS hga hal ⊢
            generalize w7.heap.size = gWe at hga hal hge ⊢
            have ho : We.ownsRow wr.heap.size 5 1 (.slice (some ⟨gWe, 0, none⟩) 4 4) 4 (([9, 2, 1, 1] : List Int).map (Value.int .u8)) := own_of_row (xs := ([9, 2, 1, 1] : List Int).map (Value.int .u8)) hga hge rfl (by unfold maxLen; omega)
            have HO1 := Lib.hid ho
            clear ho hga hge hal
            refine plan_us (by rfl) (by kernel_rfl) ?_
            intro K hK
            refine wp_append_bytes_at _ _ rfl wr.heap.size 4 _ ([9, 2, 1, 1] : List Int) rfl HO1.out b n cp _ rfl ((HI.out.pre n hln).below hS) (by omega) hS.size ?_
            intro v5 Wf hown hgrow hor
            have hS2 := hS.grown hgrow hS.size (own_base HO1.out)
            refine hK _ _ ⟨hS2, ?_⟩
            replace hS := hS2
            skip
            have HO2 := Lib.hid hown
            clear hS2 hown hgrow hor
            refine plan_us (by rfl) (by kernel_rfl) ?_
            intro K hK
            refine wp_append_bytes_at _ _ rfl wr.heap.size (4 + n) _ ([9, 2, 1, 1] ++ es.take n) rfl HO2.out b L cp _ rfl (HI.out.below hS) (by omega) hS.size ?_
            intro v6 Wg hown hgrow hor
            have hS2 := hS.grown hgrow hS.size (own_base HO2.out)
            refine hK _ _ ⟨hS2, ?_⟩
            replace hS := hS2
            skip
            have HO3 := Lib.hid hown
            clear hS2 hown hgrow hor
            obtain ⟨b3, cp3, rfl, hc3, hi3, _⟩ := ints_of_own HO3.out (by intro x hx; rcases List.mem_append.1 hx with h | h; (rcases List.mem_append.1 h with h | h; exact (by decide : ∀ x ∈ ([9, 2, 1, 1] : List Int), (Lit.int .u8 x).wf = true) x h; exact HEW.out x (List.mem_of_mem_take h)); exact HEW.out x h)
            have hm3 := own_capm HO3.out _ _ _ rfl
            refine plan_us (by rfl) (by kernel_rfl) ?_
            intro K hK
            go_wp2_with fail
            refine Calls.mono (decodes6_any _ b3 (4 + n + L) cp3 _ (by omega) hc3 hm3 hi3) ?_
            rintro e w8 ⟨rfl, hb⟩
            replace hS := bl_next hS hS.size hb
            clear hb
            go_wp2_with fail
            refine ⟨hS, ?_⟩
            clear HO1 HO2 HO3 hc3 hi3 hm3
            repeat (refine plan_t (by rfl) ?_; (first | go_big_quiet_skip | (go_big_quiet_want; go_big_quiet_op; go_big_quiet_on)); refine wpQuiet_nil ?_)
            replace HB := Lib.hid (bl_next HB.out HB.out.size hS); replace HGA := Lib.hid (bl_row hS (lt_of_block HGA.out) HGA.out); replace HI := Lib.hid (HI.out.below hS)
            clear hS hcp hcm hle
            clear hne
            show Exit.then _ _ _ _ _
            go_wp2_with fail
            go_roundw
            case rel => exact ⟨n + 1, by go_num, by omega, HB, HGA, HI⟩
            case measure => simp [intOf]; omega
          · go_wp2_with fail
            go_roundw
            case rel => exact ⟨k + 1, by go_num, by omega, HB, HGA⟩
            case measure => simp [intOf]; omega
    · skip
      clear HGA
      go_wp2_with fail
      have hx := IntsK.of_row (k := .u8) (zs := [0, 8, 1, 2, 3, 4, 5, 6, 7, 8]) (heap_alloc_new wr (.cells (([0, 8, 1, 2, 3, 4, 5, 6, 7, 8] : List Int).map (Value.int .u8)).toArray 5)) (by decide)
      change Code.wp _ _ _ _ (wr.alloc (.cells (([0, 8, 1, 2, 3, 4, 5, 6, 7, 8] : List Int).map (Value.int .u8)).toArray 5))
      have hb := (Below.refl wr.heap.size wr).alloc (Nat.le_refl _) (.cells (([0, 8, 1, 2, 3, 4, 5, 6, 7, 8] : List Int).map (Value.int .u8)).toArray 5)
      replace HB := Lib.hid (bl_next HB.out HB.out.size hb)
      have HN := Lib.hid (hx)
      clear hb hx
      generalize wr.alloc (.cells (([0, 8, 1, 2, 3, 4, 5, 6, 7, 8] : List Int).map (Value.int .u8)).toArray 5) = wn at HB HN ⊢
      obtain ⟨gN, hgN⟩ : ∃ g, wr.heap.size = g := ⟨_, rfl⟩
      rw [hgN] at HN ⊢
      clear hgN
      generalize decide ((k : Int) < 8) = q5
      go_loopw [6] (fun i wr => ∃ x : Nat, i = .int .i64 x ∧ x ≤ 64 ∧ Hid (Below w.heap.size w wr) ∧ Hid (IntsK .u8 wr (some ⟨gN, 0, none⟩) 10 [0, 8, 1, 2, 3, 4, 5, 6, 7, 8])) (fun i _ => 64 - (intOf i).toNat)
      case atStart => exact ⟨0, rfl, by omega, HB, HN⟩
      case round =>
        clear HB HN
        obtain ⟨x, rfl, hxx, HB, HN⟩ := hrel
        by_cases hlx : x < 64
        · skip
          go_wp2_with fail
          generalize decide ((x : Int) < 64) = q6
          obtain ⟨g0, hg0⟩ : ∃ g, wr.heap.size = g := ⟨_, rfl⟩
          have hs1 : (wr.alloc (.cells #[(.int .u8 (x : Int)), .int .u8 1, .int .u8 5] 5)).heap.size = g0 + 1 := by simp [hg0]
          have hm0 : SL (wr.alloc (.cells #[(.int .u8 (x : Int)), .int .u8 1, .int .u8 5] 5)) _ := SL.made wr ((x : Int) :: [1, 5]) 3 rfl (by omega) (byte_wf hlx (by decide))
          rw [hg0] at hm0
          have hb := (Below.refl wr.heap.size wr).alloc (Nat.le_refl _) (.cells #[(.int .u8 (x : Int)), .int .u8 1, .int .u8 5] 5)
          replace HB := Lib.hid (bl_next HB.out HB.out.size hb)
          replace HN := Lib.hid (HN.out.below hb)
          clear hb
          rw [hg0]
          generalize wr.alloc (.cells #[(.int .u8 (x : Int)), .int .u8 1, .int .u8 5] 5) = wv0 at HB HN hm0 hs1 ⊢
          have hg1 := hs1
          clear hs1 hg0
          have hs2 : (wv0.alloc (.cells #[(.int .u8 (x : Int)), .int .u8 0] 5)).heap.size = g0 + 1 + 1 := by simp [hg1]
          have hm1 : SL (wv0.alloc (.cells #[(.int .u8 (x : Int)), .int .u8 0] 5)) _ := SL.made wv0 ((x : Int) :: [0]) 2 rfl (by omega) (byte_wf hlx (by decide))
          rw [hg1] at hm1
          have hb := (Below.refl wv0.heap.size wv0).alloc (Nat.le_refl _) (.cells #[(.int .u8 (x : Int)), .int .u8 0] 5)
          replace HB := Lib.hid (bl_next HB.out HB.out.size hb)
          replace HN := Lib.hid (HN.out.below hb)
          replace hm0 := hm0.below hb
          clear hb
          skip
          generalize wv0.alloc (.cells #[(.int .u8 (x : Int)), .int .u8 0] 5) = wv1 at HB HN hm0 hm1 hs2 ⊢
          have hg2 := hs2
          clear hs2 hg1
          have hs3 : (wv1.alloc (.cells #[(.int .u8 (x : Int)), .int .u8 2, .int .u8 64, .int .u8 5] 5)).heap.size = g0 + 1 + 1 + 1 := by simp [hg2]
          have hm2 : SL (wv1.alloc (.cells #[(.int .u8 (x : Int)), .int .u8 2, .int .u8 64, .int .u8 5] 5)) _ := SL.made wv1 ((x : Int) :: [2, 64, 5]) 4 rfl (by omega) (byte_wf hlx (by decide))
          rw [hg2] at hm2
          have hb := (Below.refl wv1.heap.size wv1).alloc (Nat.le_refl _) (.cells #[(.int .u8 (x : Int)), .int .u8 2, .int .u8 64, .int .u8 5] 5)
          replace HB := Lib.hid (bl_next HB.out HB.out.size hb)
          replace HN := Lib.hid (HN.out.below hb)
          replace hm0 := hm0.below hb
          replace hm1 := hm1.below hb
          clear hb
          skip
          generalize wv1.alloc (.cells #[(.int .u8 (x : Int)), .int .u8 2, .int .u8 64, .int .u8 5] 5) = wv2 at HB HN hm0 hm1 hm2 hs3 ⊢
          have hg3 := hs3
          clear hs3 hg2
          have hs4 : (wv2.alloc (.cells #[(.int .u8 (x : Int)), .int .u8 2, .int .u8 5, .int .u8 5] 5)).heap.size = g0 + 1 + 1 + 1 + 1 := by simp [hg3]
          have hm3 : SL (wv2.alloc (.cells #[(.int .u8 (x : Int)), .int .u8 2, .int .u8 5, .int .u8 5] 5)) _ := SL.made wv2 ((x : Int) :: [2, 5, 5]) 4 rfl (by omega) (byte_wf hlx (by decide))
          rw [hg3] at hm3
          have hb := (Below.refl wv2.heap.size wv2).alloc (Nat.le_refl _) (.cells #[(.int .u8 (x : Int)), .int .u8 2, .int .u8 5, .int .u8 5] 5)
          replace HB := Lib.hid (bl_next HB.out HB.out.size hb)
          replace HN := Lib.hid (HN.out.below hb)
          replace hm0 := hm0.below hb
          replace hm1 := hm1.below hb
          replace hm2 := hm2.below hb
          clear hb
          skip
          generalize wv2.alloc (.cells #[(.int .u8 (x : Int)), .int .u8 2, .int .u8 5, .int .u8 5] 5) = wv3 at HB HN hm0 hm1 hm2 hm3 hs4 ⊢
          have hg4 := hs4
          clear hs4 hg3
          have hs5 : (wv3.alloc (.cells #[(.int .u8 (x : Int)), .int .u8 8, .int .u8 192, .int .u8 0, .int .u8 1, .int .u8 0, .int .u8 0, .int .u8 0, .int .u8 0, .int .u8 0] 5)).heap.size = g0 + 1 + 1 + 1 + 1 + 1 := by simp [hg4]
          have hm4 : SL (wv3.alloc (.cells #[(.int .u8 (x : Int)), .int .u8 8, .int .u8 192, .int .u8 0, .int .u8 1, .int .u8 0, .int .u8 0, .int .u8 0, .int .u8 0, .int .u8 0] 5)) _ := SL.made wv3 ((x : Int) :: [8, 192, 0, 1, 0, 0, 0, 0, 0]) 10 rfl (by omega) (byte_wf hlx (by decide))
          rw [hg4] at hm4
          have hb := (Below.refl wv3.heap.size wv3).alloc (Nat.le_refl _) (.cells #[(.int .u8 (x : Int)), .int .u8 8, .int .u8 192, .int .u8 0, .int .u8 1, .int .u8 0, .int .u8 0, .int .u8 0, .int .u8 0, .int .u8 0] 5)
          replace HB := Lib.hid (bl_next HB.out HB.out.size hb)
          replace HN := Lib.hid (HN.out.below hb)
          replace hm0 := hm0.below hb
          replace hm1 := hm1.below hb
          replace hm2 := hm2.below hb
          replace hm3 := hm3.below hb
          clear hb
          skip
          generalize wv3.alloc (.cells #[(.int .u8 (x : Int)), .int .u8 8, .int .u8 192, .int .u8 0, .int .u8 1, .int .u8 0, .int .u8 0, .int .u8 0, .int .u8 0, .int .u8 0] 5) = wv4 at HB HN hm0 hm1 hm2 hm3 hm4 hs5 ⊢
          have hg5 := hs5
          clear hs5 hg4
          have hs6 : (wv4.alloc (.cells #[(.int .u8 (x : Int)), .int .u8 8, .int .u8 192, .int .u8 0, .int .u8 2, .int .u8 0, .int .u8 0, .int .u8 0, .int .u8 0, .int .u8 0] 5)).heap.size = g0 + 1 + 1 + 1 + 1 + 1 + 1 := by simp [hg5]
          have hm5 : SL (wv4.alloc (.cells #[(.int .u8 (x : Int)), .int .u8 8, .int .u8 192, .int .u8 0, .int .u8 2, .int .u8 0, .int .u8 0, .int .u8 0, .int .u8 0, .int .u8 0] 5)) _ := SL.made wv4 ((x : Int) :: [8, 192, 0, 2, 0, 0, 0, 0, 0]) 10 rfl (by omega) (byte_wf hlx (by decide))
          rw [hg5] at hm5
          have hb := (Below.refl wv4.heap.size wv4).alloc (Nat.le_refl _) (.cells #[(.int .u8 (x : Int)), .int .u8 8, .int .u8 192, .int .u8 0, .int .u8 2, .int .u8 0, .int .u8 0, .int .u8 0, .int .u8 0, .int .u8 0] 5)
          replace HB := Lib.hid (bl_next HB.out HB.out.size hb)
          replace HN := Lib.hid (HN.out.below hb)
          replace hm0 := hm0.below hb
          replace hm1 := hm1.below hb
          replace hm2 := hm2.below hb
          replace hm3 := hm3.below hb
          replace hm4 := hm4.below hb
          clear hb
          skip
          generalize wv4.alloc (.cells #[(.int .u8 (x : Int)), .int .u8 8, .int .u8 192, .int .u8 0, .int .u8 2, .int .u8 0, .int .u8 0, .int .u8 0, .int .u8 0, .int .u8 0] 5) = wv5 at HB HN hm0 hm1 hm2 hm3 hm4 hm5 hs6 ⊢
          have hg6 := hs6
          clear hs6 hg5
          have hs7 : (wv5.alloc (.cells #[(.int .u8 (x : Int)), .int .u8 9] 5)).heap.size = g0 + 1 + 1 + 1 + 1 + 1 + 1 + 1 := by simp [hg6]
          have hm6 : SL (wv5.alloc (.cells #[(.int .u8 (x : Int)), .int .u8 9] 5)) _ := SL.made wv5 ((x : Int) :: [9]) 2 rfl (by omega) (byte_wf hlx (by decide))
          rw [hg6] at hm6
          have hb := (Below.refl wv5.heap.size wv5).alloc (Nat.le_refl _) (.cells #[(.int .u8 (x : Int)), .int .u8 9] 5)
          replace HB := Lib.hid (bl_next HB.out HB.out.size hb)
          replace HN := Lib.hid (HN.out.below hb)
          replace hm0 := hm0.below hb
          replace hm1 := hm1.below hb
          replace hm2 := hm2.below hb
          replace hm3 := hm3.below hb
          replace hm4 := hm4.below hb
          replace hm5 := hm5.below hb
          clear hb
          skip
          generalize wv5.alloc (.cells #[(.int .u8 (x : Int)), .int .u8 9] 5) = wv6 at HB HN hm0 hm1 hm2 hm3 hm4 hm5 hm6 hs7 ⊢
          have hg7 := hs7
          clear hs7 hg6
          have hall : ∀ v ∈ ([.slice (some ⟨g0, 0, none⟩) 3 3, .slice (some ⟨g0 + 1, 0, none⟩) 2 2, .slice (some ⟨g0 + 1 + 1, 0, none⟩) 4 4, .slice (some ⟨g0 + 1 + 1 + 1, 0, none⟩) 4 4, .slice (some ⟨g0 + 1 + 1 + 1 + 1, 0, none⟩) 10 10, .slice (some ⟨g0 + 1 + 1 + 1 + 1 + 1, 0, none⟩) 10 10, .slice (some ⟨g0 + 1 + 1 + 1 + 1 + 1 + 1, 0, none⟩) 2 2] : List Value), SL wv6 v := by
            intro v hv
            simp only [List.mem_cons, List.not_mem_nil, or_false] at hv
            rcases hv with rfl | rfl | rfl | rfl | rfl | rfl | rfl
            · exact hm0
            · exact hm1
            · exact hm2
            · exact hm3
            · exact hm4
            · exact hm5
            · exact hm6
          obtain ⟨VS, hVS⟩ : ∃ V : List Value, [.slice (some ⟨g0, 0, none⟩) 3 3, .slice (some ⟨g0 + 1, 0, none⟩) 2 2, .slice (some ⟨g0 + 1 + 1, 0, none⟩) 4 4, .slice (some ⟨g0 + 1 + 1 + 1, 0, none⟩) 4 4, .slice (some ⟨g0 + 1 + 1 + 1 + 1, 0, none⟩) 10 10, .slice (some ⟨g0 + 1 + 1 + 1 + 1 + 1, 0, none⟩) 10 10, .slice (some ⟨g0 + 1 + 1 + 1 + 1 + 1 + 1, 0, none⟩) 2 2] = V := ⟨_, rfl⟩
          have hVL : VS.length = 7 := by rw [← hVS]; rfl
          rw [hVS] at hall
          have hrow := heap_alloc_new wv6 (.cells ([.slice (some ⟨g0, 0, none⟩) 3 3, .slice (some ⟨g0 + 1, 0, none⟩) 2 2, .slice (some ⟨g0 + 1 + 1, 0, none⟩) 4 4, .slice (some ⟨g0 + 1 + 1 + 1, 0, none⟩) 4 4, .slice (some ⟨g0 + 1 + 1 + 1 + 1, 0, none⟩) 10 10, .slice (some ⟨g0 + 1 + 1 + 1 + 1 + 1, 0, none⟩) 10 10, .slice (some ⟨g0 + 1 + 1 + 1 + 1 + 1 + 1, 0, none⟩) 2 2] : List Value).toArray 29)
          rw [hVS] at hrow
          have hb := (Below.refl wv6.heap.size wv6).alloc (Nat.le_refl _) (.cells ([.slice (some ⟨g0, 0, none⟩) 3 3, .slice (some ⟨g0 + 1, 0, none⟩) 2 2, .slice (some ⟨g0 + 1 + 1, 0, none⟩) 4 4, .slice (some ⟨g0 + 1 + 1 + 1, 0, none⟩) 4 4, .slice (some ⟨g0 + 1 + 1 + 1 + 1, 0, none⟩) 10 10, .slice (some ⟨g0 + 1 + 1 + 1 + 1 + 1, 0, none⟩) 10 10, .slice (some ⟨g0 + 1 + 1 + 1 + 1 + 1 + 1, 0, none⟩) 2 2] : List Value).toArray 29)
          rw [hVS] at hb
          replace HB := Lib.hid (bl_next HB.out HB.out.size hb)
          replace HN := Lib.hid (HN.out.below hb)
          have HALL : Hid (∀ v ∈ VS, SL _ v) := Lib.hid fun v hv => (hall v hv).below hb
          change Code.wp _ _ _ _ (wv6.alloc (.cells ([.slice (some ⟨g0, 0, none⟩) 3 3, .slice (some ⟨g0 + 1, 0, none⟩) 2 2, .slice (some ⟨g0 + 1 + 1, 0, none⟩) 4 4, .slice (some ⟨g0 + 1 + 1 + 1, 0, none⟩) 4 4, .slice (some ⟨g0 + 1 + 1 + 1 + 1, 0, none⟩) 10 10, .slice (some ⟨g0 + 1 + 1 + 1 + 1 + 1, 0, none⟩) 10 10, .slice (some ⟨g0 + 1 + 1 + 1 + 1 + 1 + 1, 0, none⟩) 2 2] : List Value).toArray 29))
          rw [hVS]
          have HROW := Lib.hid hrow
          have HVL := Lib.hid hVL
          clear hb hall hm0 hm1 hm2 hm3 hm4 hm5 hm6 hVS hrow hVL
          generalize wv6.alloc (.cells VS.toArray 29) = wz at HB HN HALL HROW ⊢
          rw [hg7] at HROW
          clear hg7
          obtain ⟨gR, hgR⟩ : ∃ g, g0 + 1 + 1 + 1 + 1 + 1 + 1 + 1 = g := ⟨_, rfl⟩
          rw [hgR] at HROW ⊢
          clear hgR
          go_loopw [94] (fun i wr => ∃ k7 : Nat, i = .int .i64 k7 ∧ k7 ≤ 7 ∧ Hid (Below w.heap.size w wr) ∧ Hid (IntsK .u8 wr (some ⟨gN, 0, none⟩) 10 [0, 8, 1, 2, 3, 4, 5, 6, 7, 8]) ∧ Hid (∀ v ∈ VS, SL wr v) ∧ Hid (wr.heap[gR]? = some (.cells VS.toArray 29 (0, 0)))) (fun i _ => 7 - (intOf i).toNat)
          case atStart => exact ⟨0, rfl, by omega, HB, HN, HALL, HROW⟩
          case round =>
            clear HB HN HALL HROW
            obtain ⟨k7, rfl, hk7, HB, HN, HALL, HROW⟩ := hrel
            by_cases hl7 : k7 < 7
            · skip
              have hve := List.getElem?_eq_getElem (l := VS) (i := k7) (by rw [HVL.out]; exact hl7)
              obtain ⟨ya, yl, yc, ys, hyv, hyl, hylc, hyc, hyI⟩ := HALL.out _ (List.getElem_mem (l := VS) (n := k7) (by rw [HVL.out]; exact hl7))
              rw [hyv] at hve
              have c0 := cell_row HROW.out k7 _ hve
              have HY := Lib.hid hyI
              clear hve hyv hyI
              go_upto_region 21 with fail
              clear c0
              generalize decide ((k7 : Int) < 7) = q7
              go_wp2_with (first | (at_builtin; refine wpList_append_bytes rfl _ _ rfl wr.heap.size 0 (.slice (some ⟨wr.heap.size, 0, none⟩) 0 0) [] rfl (World.ownsRow_made _ _ _ (Nat.le_refl _) (by unfold maxLen; omega) (by rfl)) _ _ _ _ rfl (HY.out.below ((Below.refl _ _).alloc (Nat.le_refl _) _)) (by omega) (by simp) ?_; intro va0 wa0 hown hgrow; rw [Nat.zero_add, List.nil_append] at hown; obtain ⟨bva0, cva0, rfl, _⟩ := own_slice hown; have HOa := Lib.hid hown; have HLa := Lib.hid (((Below.refl wr.heap.size wr).alloc (Nat.le_refl _) _).grown hgrow (by simp) (by intro k hk; simp [Value.ownBlock] at hk; omega)); clear hown hgrow) | (at_builtin; refine wpList_append_bytes rfl _ _ rfl wr.heap.size _ _ _ rfl HOa.out _ _ _ _ rfl (HN.out.below HLa.out) (by omega) HLa.out.size ?_; intro vb0 wb0 hown hgrow; obtain ⟨bvb0, cvb0, rfl, _⟩ := own_slice hown; have HOb := Lib.hid hown; have HLb := Lib.hid (HLa.out.grown hgrow HLa.out.size (fun k hk => own_base HOa.out k hk)); clear hown hgrow) | fail)
              obtain ⟨bf, cf, e, hcf, hif, _⟩ := ints_of_own HOb.out (by intro x hx; rcases List.mem_append.1 hx with h | h; exact HY.out.2.1 x h; exact HN.out.2.1 x h)
              have hcm := own_capm HOb.out _ _ _ rfl
              injection e with e1 e2 e3
              subst e1; subst e3
              clear e2
              have hb := HLb.out
              have HALL2 : Hid (∀ v ∈ VS, SL _ v) := Lib.hid fun v hv => (HALL.out v hv).below hb
              replace HB := Lib.hid (bl_next HB.out HB.out.size hb)
              replace HN := Lib.hid (HN.out.below hb)
              replace HROW := Lib.hid (bl_row hb (lt_of_block HROW.out) HROW.out)
              replace HY := Lib.hid (HY.out.below hb)
              clear hb HOa HOb HLa HLb HALL
              have HALL := HALL2
              clear HALL2
              refine Calls.mono (decodes6_any _ _ (yl + 10) _ _ (by omega) hcf hcm hif) ?_
              rintro e w9 ⟨rfl, hb⟩
              have HALL2 : Hid (∀ v ∈ VS, SL _ v) := Lib.hid fun v hv => (HALL.out v hv).below hb
              replace HB := Lib.hid (bl_next HB.out HB.out.size hb)
              replace HN := Lib.hid (HN.out.below hb)
              replace HROW := Lib.hid (bl_row hb (lt_of_block HROW.out) HROW.out)
              replace HY := Lib.hid (HY.out.below hb)
              clear hb hcf hcm hif HALL
              have HALL := HALL2
              clear HALL2
              go_wp2_with (first | (at_builtin; refine wpList_append_bytes_g (by kernel_rfl) _ _ rfl w9.heap.size 0 (.slice (some ⟨w9.heap.size, 0, none⟩) 0 0) [] rfl (World.ownsRow_made _ _ _ (Nat.le_refl _) (by unfold maxLen; omega) (by rfl)) _ _ _ _ rfl (HN.out.below ((Below.refl _ _).alloc (Nat.le_refl _) _)) (by omega) (by simp) ?_; intro va1 wa1 hown hgrow; rw [Nat.zero_add, List.nil_append] at hown; obtain ⟨bva1, cva1, rfl, _⟩ := own_slice hown; have HOa := Lib.hid hown; have HLa := Lib.hid (((Below.refl w9.heap.size w9).alloc (Nat.le_refl _) _).grown hgrow (by simp) (by intro k hk; simp [Value.ownBlock] at hk; omega)); clear hown hgrow) | (at_builtin; refine wpList_append_bytes_g (by kernel_rfl) _ _ rfl w9.heap.size _ _ _ rfl HOa.out _ _ _ _ rfl (HY.out.below HLa.out) (by omega) HLa.out.size ?_; intro vb1 wb1 hown hgrow; obtain ⟨bvb1, cvb1, rfl, _⟩ := own_slice hown; have HOb := Lib.hid hown; have HLb := Lib.hid (HLa.out.grown hgrow HLa.out.size (fun k hk => own_base HOa.out k hk)); clear hown hgrow) | fail)
              obtain ⟨bf, cf, e, hcf, hif, _⟩ := ints_of_own HOb.out (by intro x hx; rcases List.mem_append.1 hx with h | h; exact HN.out.2.1 x h; exact HY.out.2.1 x h)
              have hcm := own_capm HOb.out _ _ _ rfl
              injection e with e1 e2 e3
              subst e1; subst e3
              clear e2
              have hb := HLb.out
              have HALL2 : Hid (∀ v ∈ VS, SL _ v) := Lib.hid fun v hv => (HALL.out v hv).below hb
              replace HB := Lib.hid (bl_next HB.out HB.out.size hb)
              replace HN := Lib.hid (HN.out.below hb)
              replace HROW := Lib.hid (bl_row hb (lt_of_block HROW.out) HROW.out)
              replace HY := Lib.hid (HY.out.below hb)
              clear hb HOa HOb HLa HLb HALL
              have HALL := HALL2
              clear HALL2
              refine Calls.mono (decodes6_any _ _ (10 + yl) _ _ (by omega) hcf hcm hif) ?_
              rintro e w10 ⟨rfl, hb⟩
              have HALL2 : Hid (∀ v ∈ VS, SL _ v) := Lib.hid fun v hv => (HALL.out v hv).below hb
              replace HB := Lib.hid (bl_next HB.out HB.out.size hb)
              replace HN := Lib.hid (HN.out.below hb)
              replace HROW := Lib.hid (bl_row hb (lt_of_block HROW.out) HROW.out)
              replace HY := Lib.hid (HY.out.below hb)
              clear hb hcf hcm hif HALL
              have HALL := HALL2
              clear HALL2
              go_wp2_with fail
              go_roundw
              case rel => exact ⟨k7 + 1, by go_num, by omega, HB, HN, HALL, HROW⟩
              case measure => simp [intOf]; omega
            · go_wp2_with fail
              go_roundw
              case rel => exact ⟨x + 1, by go_num, by omega, HB, HN⟩
              case measure => simp [intOf]; omega
        · go_wp2_with fail
          refine Calls.mono (known6_any _) ?_
          rintro e wk ⟨rfl, hb⟩
          have HB2 := Lib.hid (bl_next HB.out HB.out.size hb)
          clear hb
          go_wp2_with fail
          go_ret
          exact ⟨rfl, HB2.out⟩
end Go.Proofs.Ytooneejimladdaa
