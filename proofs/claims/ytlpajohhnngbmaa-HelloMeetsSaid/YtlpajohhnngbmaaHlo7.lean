/- hello: greeted. -/
import Derived.Test.YtlpajohhnngbmaaHlo6
namespace Go.Proofs.Ytlpajohhnngbmaa
open Go.RowKit
set_option linter.unusedVariables false
set_option linter.unusedSimpArgs false

theorem setOther {y : World} {p i j : Nat} {u v : Value} (h : y.cell? ⟨p, i, none⟩ = some u) (hij : i ≠ j) : (y.setCell ⟨p, j, none⟩ v).cell? ⟨p, i, none⟩ = some u := by
  rw [World.cell?_setCell_other]
  · exact h
  · intro e; injection e with e1 e2; first | exact hij e2 | exact hij e2.symm
set_option maxRecDepth 100000 in
set_option maxHeartbeats 16000000 in
theorem greeted_any (w : World) (p : Nat) (M J : List Nat) (s : Sd) (a0 a1 b0 b1 : Option Addr) (k0 k1 d0 d1 : Nat) (h : SdAt w p M J s a0 a1 b0 b1 k0 k1 d0 d1) (ga go len cap : Nat) (bs : List Int) (hga : ga ≠ p) (h3 : 3 ≤ len) (hlc : len ≤ cap) (hlen : len ≤ 1000) (hI : IntsK .u8 w (some ⟨ga, go, none⟩) len bs) :
    Calls Try.prog 39 #[.pointer (some ⟨p, 0, none⟩), .slice (some ⟨ga, go, none⟩) len cap] w fun e w' => e = .returned (.int .i64 (greetM s bs).2) ∧ ∃ K2 e0 e1 f0 f1, SdAt w' p M K2 (greetM s bs).1 e0 e1 b0 b1 f0 f1 d0 d1 ∧ Off [p] w w' ∧ (∀ x ∈ K2, x ∈ J ∨ w.heap.size ≤ x) := by
  have H := Lib.hid h
  have HI := Lib.hid hI
  have hbl := hI.1
  have HB := Lib.hid (Below.refl w.heap.size w)
  clear hI
  by_cases h11 : len < 11
  · have e : greetM s bs = (s, 8) := by unfold greetM; rw [if_pos (by omega)]
    clear h
    go_enter Try.func39, Try.ntmps39
    go_wp2_with fail
    go_ret
    rw [e]
    exact ⟨rfl, J, a0, a1, k0, k1, H.out, Off.refl _ _, fun x hx => .inl hx⟩
  have HDK := Lib.hid (decF_ok (bs.drop 11) (fun y hy => HI.out.2.1 y (List.mem_of_mem_drop hy)))
  obtain ⟨d, hd⟩ : ∃ d, (decF (bs.drop 11)).1 = d := ⟨_, rfl⟩
  obtain ⟨er, her⟩ : ∃ er, pcode (decF (bs.drop 11)).2 = er := ⟨_, rfl⟩
  have HDV : Hid ((decF (bs.drop 11)).1.val = .agg d.row.toArray) := Lib.hid (by rw [hd]; rfl)
  have HER := Lib.hid her
  rw [hd] at HDK
  have HDL := Lib.hid (pm_len HDK.out.len)
  have HDO := Lib.hid (pm_one d)
  have HD := Lib.hid hd
  have hr := h.row
  rw [sdRow_eq] at hr
  have HR := Lib.hid hr
  have HTL := Lib.hid (pm_len h.ok.len)
  clear h hr hd
  go_enter Try.func39, Try.ntmps39
  go_upto_region 3 with fail
  refine greeted_r3 _ (by omega) hlc (by omega) HI HDL HDO HDV HER (fun c a d v w h => by first | (cases d <;> exact h) | exact HKP.out c a d v w h) ?_
  rintro _ _ _ _ _ _ gq wA hb hq hge
  have HB1 := Lib.hid hb; have HQ := Lib.hid hq
  clear hb hq
  cases hok : (decF (bs.drop 11)).2 with
  | false =>
    obtain rfl : 12 = er := by rw [← her, hok]; rfl
    have e : greetM s bs = (s, 8) := by unfold greetM; rw [if_neg (by omega), if_pos hok]
    go_wp2_with fail
    go_ret
    rw [e]
    exact ⟨rfl, J, a0, a1, k0, k1, H.out.below HB1.out, Off.of_below HB1.out, fun x hx => .inl hx⟩
  | true =>
    obtain rfl : 0 = er := by rw [← her, hok]; rfl
    have HGA : Hid (s.asks = true → greetM s bs = ({ s with th := d, knows := true, sh := keyedM s.psk (s.o0 ++ bs) }, 0)) := Lib.hid (fun ha => by unfold greetM; rw [if_neg (by omega), if_neg (by rw [hok]; decide), if_pos ha, HD.out])
    have HGB : Hid (s.asks = false → greetM s bs = ({ s with th := d, knows := true, o0 := s.o1, sh := keyedM s.psk (bs ++ s.o1), o1 := msgM 20 (finM (keyedM s.psk (bs ++ s.o1)) false) }, 0)) := Lib.hid (fun ha => by unfold greetM; rw [if_neg (by omega), if_neg (by rw [hok]; decide), if_neg (by rw [ha]; decide), HD.out])
    replace HR := Lib.hid (bl_row HB1.out (lt_of_block HR.out) HR.out)
    have HO1 := Lib.hid (Off.of_below (M := [p]) HB1.out)
    clear her hok HER HDV
    obtain ⟨V, hV⟩ : ∃ V, sdHead s (.slice a0 s.o0.length k0) (.slice a1 s.o1.length k1) (.slice b0 s.i0.length d0) (.slice b1 s.i1.length d1) = V := ⟨_, rfl⟩
    have HVL : Hid (V.length = 11) := Lib.hid (by rw [← hV]; rfl)
    have HV9 : Hid (V[9]? = some (.bool s.knows)) := Lib.hid (by rw [← hV]; rfl)
    rw [hV] at HR
    have HVE := Lib.hid hV
    clear hV
    go_upto_region 7 with (first | (refine wpList_load_mid rfl 26 _ rfl gq 0 rfl d.row _ (rngL HQ.out) Try.underlying26 rfl (by rw [HDL.out]; rfl) ?_) | (refine wpList_store_part rfl 26 _ _ rfl p 11 rfl d.row 69 V s.th.row [.int .i64 s.code] rfl HR.out HVL.out (HTL.out.trans HDL.out.symm) (by rw [HDL.out]; rfl) HDO.out ?_; intro wB hr2 hg2; have c9 := cell_row hr2 9 _ (by rw [List.getElem?_append_left (by rw [HVL.out]; omega)]; exact HV9.out); have z9 := row_free hr2 9) | fail)
    clear c9 z9
    have HO2 := Lib.hid ((HO1.out.grown hg2).setCell (k := 9) (.bool true))
    have hrs := row_set hr2 9 (.bool true)
    clear hr2 hg2 HO1 HB1 HQ
    generalize wB.setCell ⟨p, 9, none⟩ (.bool true) = wC at HO2 hrs ⊢
    obtain ⟨s1, hs1⟩ : ∃ s1 : Sd, s1 = { s with th := d, knows := true } := ⟨_, rfl⟩
    have hrC : wC.heap[p]? = some (.cells (sdRow s1 (.slice a0 s.o0.length k0) (.slice a1 s.o1.length k1) (.slice b0 s.i0.length d0) (.slice b1 s.i1.length d1)).toArray 69 (0, 0)) := by rw [hs1]; rw [← HVE.out] at hrs; exact hrs
    have HS1 := Lib.hid hs1
    clear hrs hs1
    have HI1 := Lib.hid (HI.out.off HO2.out (fun _ x hx hm => by injection hx with hx; subst hx; simp only [List.mem_singleton] at hm; exact hga hm))
    have hp0 : ∀ b, b ∈ J → b ∉ [p] := fun b hb hm => H.out.dis _ hb (by simp only [List.mem_singleton] at hm; rw [hm]; exact H.out.pm)
    have HT0 := Lib.hid (H.out.t0.off HO2.out (fun _ x hx => hp0 _ (H.out.k0 x hx)))
    have HT1 := Lib.hid (H.out.t1.off HO2.out (fun _ x hx => hp0 _ (H.out.k1 x hx)))
    obtain ⟨R, hR⟩ : ∃ R, sdRow s1 (.slice a0 s.o0.length k0) (.slice a1 s.o1.length k1) (.slice b0 s.i0.length d0) (.slice b1 s.i1.length d1) = R := ⟨_, rfl⟩
    have HRE := Lib.hid hR
    rw [hR] at hrC
    have HRC := Lib.hid hrC
    clear hrC
    obtain ⟨ak, hak⟩ : ∃ ak, s.asks = ak := ⟨_, rfl⟩
    have HAK := Lib.hid hak
    have G0 : R[0]? = some (.bool ak) := by rw [← hR, HS1.out, ← hak]; rfl
    have G1 : R[1]? = some (.int .u64 s.psk) := by rw [← hR, HS1.out]; rfl
    have G2 : R[2]? = some (.slice a0 s.o0.length k0) := by rw [← hR]; rfl
    have G3 : R[3]? = some (.slice a1 s.o1.length k1) := by rw [← hR]; rfl
    have G8 : R[8]? = some (.int .u64 s.sh) := by rw [← hR, HS1.out]; rfl
    clear hR hak
    have hn0 := H.out.n0; have hn1 := H.out.n1
    have c0 := cell_row HRC.out 0 _ G0
    cases ak with
    | false =>
      go_upto_region 10 with fail
      clear c0
      have f3 : ∀ t : In (fun y => y.cell? ⟨p, 3, none⟩ = some (.slice a1 s.o1.length k1)), t.w.cell? ⟨p, 3, none⟩ = some (.slice a1 s.o1.length k1) := fun t => t.h
      have hS3 : wC.drew.cell? ⟨p, 3, none⟩ = some (.slice a1 s.o1.length k1) := cell_row HRC.out 3 _ G3
      refine wp_plan (.t 0 (.t 1 (.t 2 (.t 3 (.t 4 (.t 5 (.t 6 (.t 7 (.t 8 (.u 9 .done)))))))))) (fun y => y.cell? ⟨p, 3, none⟩ = some (.slice a1 s.o1.length k1)) (by kernel_rfl) (by kernel_rfl) (by kernel_rfl) (fun c a d v w h => by cases d <;> exact h) hS3 ?_
      have hrw : wC.drew.heap[p]? = some (.cells R.toArray 69 (0, 0)) := HRC.out
      have ho0 := HO2.out.next (Below.refl _ _).drew
      generalize wC.drew = W0 at hS3 hrw ho0 ⊢
      haveI hne2 : Nonempty (In (fun y => y.cell? ⟨p, 3, none⟩ = some (.slice a1 s.o1.length k1))) := ⟨⟨W0, hS3⟩⟩
      repeat (first | (refine plan_t (by rfl) ?_; (first | go_big_quiet_skip | (go_big_quiet_want; go_big_quiet_op; go_big_quiet_on)); refine wpQuiet_nil ?_))
      clear f3
      refine plan_us (by rfl) (by kernel_rfl) ?_
      intro K hK
      have c2 := cell_row hrw 2 _ G2
      have z2 := row_free hrw 2
      have hos := ho0.setCell (k := 2) (.slice a1 s.o1.length k1)
      have hrs := row_set hrw 2 (.slice a1 s.o1.length k1)
      go_wp2_with fail
      refine ⟨setOther hS3 (by omega), ?_⟩
      clear c2 z2
      generalize W0.setCell ⟨p, 2, none⟩ (.slice a1 s.o1.length k1) = wD at hos hrs ⊢
      clear hne2 hS3
      show Exit.then _ _ _ _ _
      have HO4 := Lib.hid hos
      have HR4 := Lib.hid hrs
      clear hos hrs
      have G1 : (R.set 2 (.slice a1 s.o1.length k1))[1]? = some (.int .u64 s.psk) := by rw [List.getElem?_set_ne (by omega)]; exact G1
      have G2 : (R.set 2 (.slice a1 s.o1.length k1))[2]? = some (.slice a1 s.o1.length k1) := by rw [List.getElem?_set_self (lt_of_get G2)]
      have G8 : (R.set 2 (.slice a1 s.o1.length k1))[8]? = some (.int .u64 s.sh) := by rw [List.getElem?_set_ne (by omega)]; exact G8
      have G3 : (R.set 2 (.slice a1 s.o1.length k1))[3]? = some (.slice a1 s.o1.length k1) := by rw [List.getElem?_set_ne (by omega)]; exact G3
      have HI2 := Lib.hid (HI.out.off HO4.out (fun _ x hx hm => by injection hx with hx; subst hx; simp only [List.mem_singleton] at hm; exact hga hm))
      have HT2 := Lib.hid (H.out.t1.off HO4.out (fun _ x hx => hp0 _ (H.out.k1 x hx)))
      obtain ⟨R4, hR4⟩ : ∃ R4, R.set 2 (.slice a1 s.o1.length k1) = R4 := ⟨_, rfl⟩
      rw [hR4] at G1 G2 G3 G8 HR4
      have HE4 := Lib.hid hR4
      clear hR4 HRC HI1 HT0 HT1 HO2
      go_upto_region 11 with fail
      have hSc : ∀ y, Below wD.heap.size wD y → (y.cell? ⟨p, 1, none⟩ = some (.int .u64 s.psk) ∧ y.cell? ⟨p, 2, none⟩ = some (.slice a1 s.o1.length k1)) := fun y hy => ⟨cell_row (bl_row hy (lt_of_block HR4.out) HR4.out) 1 _ G1, cell_row (bl_row hy (lt_of_block HR4.out) HR4.out) 2 _ G2⟩
      have f1 : ∀ t : In (fun y => y.cell? ⟨p, 1, none⟩ = some (.int .u64 s.psk) ∧ y.cell? ⟨p, 2, none⟩ = some (.slice a1 s.o1.length k1)), t.w.cell? ⟨p, 1, none⟩ = some (.int .u64 s.psk) := fun t => t.h.1
      have f2 : ∀ t : In (fun y => y.cell? ⟨p, 1, none⟩ = some (.int .u64 s.psk) ∧ y.cell? ⟨p, 2, none⟩ = some (.slice a1 s.o1.length k1)), t.w.cell? ⟨p, 2, none⟩ = some (.slice a1 s.o1.length k1) := fun t => t.h.2
      refine wp_plan (.t 0 (.t 1 (.t 2 (.t 3 (.t 4 (.t 5 (.t 7 (.t 8 (.t 9 (.t 10 (.t 11 (.u 6 (.u 12 (.u 13 (.t 14 (.t 15 (.u 16 .done))))))))))))))))) (fun y => y.cell? ⟨p, 1, none⟩ = some (.int .u64 s.psk) ∧ y.cell? ⟨p, 2, none⟩ = some (.slice a1 s.o1.length k1)) (by kernel_rfl) (by kernel_rfl) (by kernel_rfl) (fun c a d v w h => by cases d <;> exact h) (hSc _ (Below.refl _ _).drew) ?_
      have hS : Below wD.heap.size wD wD.drew := (Below.refl _ _).drew
      generalize wD.drew = W0 at hS ⊢
      haveI hne2 : Nonempty (In (fun y => y.cell? ⟨p, 1, none⟩ = some (.int .u64 s.psk) ∧ y.cell? ⟨p, 2, none⟩ = some (.slice a1 s.o1.length k1))) := ⟨⟨wD, hSc _ (Below.refl _ _)⟩⟩
      repeat (first | (refine plan_t (by rfl) ?_; (first | go_big_quiet_skip | (go_big_quiet_want; go_big_quiet_op; go_big_quiet_on)); refine wpQuiet_nil ?_))
      clear f1 f2
      refine plan_us (by rfl) (by kernel_rfl) ?_
      intro K hK
      go_wp2_with fail
      refine Calls.mono (clone_any8 W0 (some ⟨ga, go, none⟩) len cap bs (by omega) (HI2.out.below hS)) ?_
      rintro e w2 ⟨v, rfl, hb, ho⟩
      have HBS := Lib.hid hS.size
      obtain ⟨WB, hWB⟩ : ∃ B, W0.heap.size = B := ⟨_, rfl⟩
      rw [hWB] at ho HBS
      have HO := Lib.hid ho
      replace hS := bl_next hS hS.size hb
      have hwb : WB ≤ w2.heap.size := by rw [← hWB]; exact hb.size
      clear hb ho hWB
      go_wp2_with fail
      refine ⟨hSc _ hS, ?_⟩
      refine plan_us (by rfl) (by kernel_rfl) ?_
      intro K hK
      refine wp_append_bytes_at _ _ rfl WB len _ bs rfl HO.out a1 s.o1.length k1 s.o1 rfl (HT2.out.below hS) (by omega) hwb ?_
      intro v2 w3 ho2 hg2 hor
      have hS2 := hS.grown hg2 hS.size (fun k hk => Nat.le_trans HBS.out (own_base HO.out k hk))
      refine hK _ _ ⟨hSc _ hS2, ?_⟩
      replace hS := hS2
      obtain ⟨av, ac, ev, hac, hia, _⟩ := ints_of_own ho2 (fun x hx => (List.mem_append.1 hx).elim (fun h => HI.out.2.1 x h) (fun h => HT2.out.2.1 x h))
      subst ev
      clear hS2 ho2 hg2 hor hwb HO HBS
      refine plan_us (by rfl) (by kernel_rfl) ?_
      intro K hK
      go_wp2_with fail
      refine Calls.mono (Quiet.makes (keyed_any w3 s.psk av _ ac _ (by omega) hia)) ?_
      rintro e w4 ⟨rfl, hb⟩
      replace hS := bl_next hS hS.size hb
      clear hb hia hac
      obtain ⟨kx, hkx⟩ : ∃ kx, keyedM s.psk (bs ++ s.o1) = kx := ⟨_, rfl⟩
      rw [hkx]
      go_wp2_with fail
      refine ⟨hSc _ hS, ?_⟩
      repeat (first | (refine plan_t (by rfl) ?_; (first | go_big_quiet_skip | (go_big_quiet_want; go_big_quiet_op; go_big_quiet_on)); refine wpQuiet_nil ?_))
      refine plan_us (by rfl) (by kernel_rfl) ?_
      intro K hK
      have hrw := bl_row hS (lt_of_block HR4.out) HR4.out
      have c8 := cell_row hrw 8 _ G8
      have z8 := row_free hrw 8
      have hos := (HO4.out.next hS).setCell (k := 8) (.int .u64 kx)
      have hrs := row_set hrw 8 (.int .u64 kx)
      go_wp2_with fail
      refine ⟨⟨setOther (hSc _ hS).1 (by omega), setOther (hSc _ hS).2 (by omega)⟩, ?_⟩
      clear c8 z8
      generalize w4.setCell ⟨p, 8, none⟩ (.int .u64 kx) = wE at hos hrs ⊢
      clear hne2 hS hSc
      show Exit.then _ _ _ _ _
      have HO5 := Lib.hid hos
      have HR5 := Lib.hid hrs
      clear hos hrs
      have G3 : (R4.set 8 (.int .u64 kx))[3]? = some (.slice a1 s.o1.length k1) := by rw [List.getElem?_set_ne (by omega)]; exact G3
      have G8 : (R4.set 8 (.int .u64 kx))[8]? = some (.int .u64 kx) := by rw [List.getElem?_set_self (lt_of_get G8)]
      obtain ⟨R5, hR5⟩ : ∃ R5, R4.set 8 (.int .u64 kx) = R5 := ⟨_, rfl⟩
      rw [hR5] at G3 G8 HR5
      have HE5 := Lib.hid hR5
      clear hR5 HR4 HI2 HT2 HO4 G1 G2
      have HF := Lib.hid (fun W (hb : Below wE.heap.size wE W) => finish_any W p R5 kx false (bl_row hb (lt_of_block HR5.out) HR5.out) G8)
      go_upto_region 12 with fail
      refine wp_plan (.t 0 (.t 1 (.t 4 (.t 5 (.u 2 (.u 3 (.t 6 (.u 7 .done)))))))) (fun _ => True) (by kernel_rfl) (by kernel_rfl) (by kernel_rfl) (fun c a d v w h => by cases d <;> exact h) trivial ?_
      have hS : Below wE.heap.size wE wE.drew := (Below.refl _ _).drew
      generalize wE.drew = W0 at hS ⊢
      haveI hne2 : Nonempty (In (fun _ : World => True)) := ⟨⟨wE, trivial⟩⟩
      repeat (first | (refine plan_t (by rfl) ?_; (first | go_big_quiet_skip | (go_big_quiet_want; go_big_quiet_op; go_big_quiet_on)); refine wpQuiet_nil ?_))
      refine plan_us (by rfl) (by kernel_rfl) ?_
      intro K hK
      go_wp2_with fail
      refine Calls.mono (HF.out _ hS) ?_
      rintro e w6 ⟨gf, rfl, hb, hif, hge⟩
      replace hS := bl_next hS hS.size hb
      clear hb
      go_wp2_with fail
      refine ⟨trivial, ?_⟩
      refine plan_us (by rfl) (by kernel_rfl) ?_
      intro K hK
      go_wp2_with fail
      refine Calls.mono (message_any w6 20 _ 8 8 _ (by decide) (by omega) hif) ?_
      rintro e w7 ⟨am, cm, rfl, hb, him, hcm1, hcm2, hge2⟩
      have hszm : wE.heap.size ≤ w6.heap.size := hS.size
      replace hS := bl_next hS hS.size hb
      clear hb
      go_wp2_with fail
      refine ⟨trivial, ?_⟩
      repeat (first | (refine plan_t (by rfl) ?_; (first | go_big_quiet_skip | (go_big_quiet_want; go_big_quiet_op; go_big_quiet_on)); refine wpQuiet_nil ?_))
      refine plan_us (by rfl) (by kernel_rfl) ?_
      intro K hK
      have hrw := bl_row hS (lt_of_block HR5.out) HR5.out
      have c3 := cell_row hrw 3 _ G3
      have z3 := row_free hrw 3
      have hos := (HO5.out.next hS).setCell (k := 3) (.slice am (3 + 8) cm)
      have hrs := row_set hrw 3 (.slice am (3 + 8) cm)
      have him2 : IntsK .u8 (w7.setCell ⟨p, 3, none⟩ (.slice am (3 + 8) cm)) am (3 + 8) _ := him.off (M := [p]) ((Off.refl [p] w7).setCell _) (fun _ x hx hm => by simp only [List.mem_singleton] at hm; have h1 := hge2 x hx; have h2 := H.out.lt p (.inl H.out.pm); have h3 := HO5.out.size; omega)
      go_wp2_with fail
      refine ⟨trivial, ?_⟩
      generalize w7.setCell ⟨p, 3, none⟩ (.slice am (3 + 8) cm) = w8 at hos hrs him2 ⊢
      clear hne2 c3 z3
      show Exit.then _ _ _ _ _
      go_wp2_with fail
      go_ret
      rw [HGB.out HAK.out, hkx]
      obtain ⟨xm, hxm⟩ : ∃ x, am = some x := by rcases him2.2.2 with h | ⟨b, o, h, _⟩; omega; exact ⟨_, h⟩
      have hfl : (msgM 20 (finM kx false)).length = 3 + 8 := by rw [msgM_len, finM_len]
      have hlx : xm.block < w8.heap.size := by rcases him2.2.2 with h | ⟨b, o, h, hl, _⟩; omega; rw [hxm] at h; injection h with h; rw [h]; exact hl
      refine ⟨rfl, xm.block :: J, a1, am, k1, cm, ?_, hos, fun x hx => ?_⟩
      · refine H.out.next hos (by rw [← HE5.out, ← HE4.out, ← HRE.out, HS1.out] at hrs; rw [hfl]; exact hrs) rfl rfl HDK.out (by rw [← hkx]; exact wf_end _) (H.out.t1.off hos (fun _ x hx => hp0 _ (H.out.k1 x hx))) (by rw [hfl]; exact him2) hn1 (by rw [hfl]; omega) (fun x hx => List.mem_cons_of_mem _ (H.out.k1 x hx)) (fun x hx => by rw [hxm] at hx; injection hx with hx; rw [hx]; exact List.mem_cons_self) (fun x hx => ?_)
        rcases List.mem_cons.1 hx with rfl | hx
        · exact ⟨.inr (by have := hge2 xm hxm; have := HO5.out.size; omega), hlx⟩
        · exact ⟨.inl hx, Nat.lt_of_lt_of_le (H.out.lt x (.inr hx)) hos.size⟩
      · rcases List.mem_cons.1 hx with rfl | hx
        · exact .inr (by have := hge2 xm hxm; have := HO5.out.size; omega)
        · exact .inl hx
    | true =>
      go_upto_region 8 with fail
      clear c0
      have hSc : ∀ y, Below wC.heap.size wC y → (y.cell? ⟨p, 1, none⟩ = some (.int .u64 s.psk) ∧ y.cell? ⟨p, 2, none⟩ = some (.slice a0 s.o0.length k0)) := fun y hy => ⟨cell_row (bl_row hy (lt_of_block HRC.out) HRC.out) 1 _ G1, cell_row (bl_row hy (lt_of_block HRC.out) HRC.out) 2 _ G2⟩
      have f1 : ∀ t : In (fun y => y.cell? ⟨p, 1, none⟩ = some (.int .u64 s.psk) ∧ y.cell? ⟨p, 2, none⟩ = some (.slice a0 s.o0.length k0)), t.w.cell? ⟨p, 1, none⟩ = some (.int .u64 s.psk) := fun t => t.h.1
      have f2 : ∀ t : In (fun y => y.cell? ⟨p, 1, none⟩ = some (.int .u64 s.psk) ∧ y.cell? ⟨p, 2, none⟩ = some (.slice a0 s.o0.length k0)), t.w.cell? ⟨p, 2, none⟩ = some (.slice a0 s.o0.length k0) := fun t => t.h.2
      refine wp_plan (.t 0 (.t 1 (.t 2 (.t 3 (.t 4 (.t 5 (.t 6 (.t 7 (.t 8 (.t 9 (.t 11 (.u 10 (.u 12 (.u 13 (.t 14 (.t 15 (.u 16 .done))))))))))))))))) (fun y => y.cell? ⟨p, 1, none⟩ = some (.int .u64 s.psk) ∧ y.cell? ⟨p, 2, none⟩ = some (.slice a0 s.o0.length k0)) (by kernel_rfl) (by kernel_rfl) (by kernel_rfl) (fun c a d v w h => by cases d <;> exact h) (hSc _ (Below.refl _ _).drew) ?_
      have hS : Below wC.heap.size wC wC.drew := (Below.refl _ _).drew
      generalize wC.drew = W0 at hS ⊢
      haveI hne2 : Nonempty (In (fun y => y.cell? ⟨p, 1, none⟩ = some (.int .u64 s.psk) ∧ y.cell? ⟨p, 2, none⟩ = some (.slice a0 s.o0.length k0))) := ⟨⟨wC, hSc _ (Below.refl _ _)⟩⟩
      repeat (first | (refine plan_t (by rfl) ?_; (first | go_big_quiet_skip | (go_big_quiet_want; go_big_quiet_op; go_big_quiet_on)); refine wpQuiet_nil ?_))
      clear f1 f2
      refine plan_us (by rfl) (by kernel_rfl) ?_
      intro K hK
      go_wp2_with fail
      refine Calls.mono (clone_any8 W0 a0 s.o0.length k0 s.o0 (by omega) (HT0.out.below hS)) ?_
      rintro e w9 ⟨v, rfl, hb, ho⟩
      have HBS := Lib.hid hS.size
      obtain ⟨WB, hWB⟩ : ∃ B, W0.heap.size = B := ⟨_, rfl⟩
      rw [hWB] at ho HBS
      have HO := Lib.hid ho
      replace hS := bl_next hS hS.size hb
      have hwb : WB ≤ w9.heap.size := by rw [← hWB]; exact hb.size
      clear hb ho hWB
      go_wp2_with fail
      refine ⟨hSc _ hS, ?_⟩
      refine plan_us (by rfl) (by kernel_rfl) ?_
      intro K hK
      refine wp_append_bytes_at _ _ rfl WB s.o0.length _ s.o0 rfl HO.out (some ⟨ga, go, none⟩) len cap bs rfl (HI1.out.below hS) (by omega) hwb ?_
      intro v2 w10 ho2 hg2 hor
      have hS2 := hS.grown hg2 hS.size (fun k hk => Nat.le_trans HBS.out (own_base HO.out k hk))
      refine hK _ _ ⟨hSc _ hS2, ?_⟩
      replace hS := hS2
      obtain ⟨av, ac, ev, hac, hia, _⟩ := ints_of_own ho2 (fun x hx => (List.mem_append.1 hx).elim (fun h => HT0.out.2.1 x h) (fun h => HI1.out.2.1 x h))
      subst ev
      clear hS2 ho2 hg2 hor hwb HO HBS
      refine plan_us (by rfl) (by kernel_rfl) ?_
      intro K hK
      go_wp2_with fail
      refine Calls.mono (Quiet.makes (keyed_any w10 s.psk av _ ac _ (by omega) hia)) ?_
      rintro e w11 ⟨rfl, hb⟩
      replace hS := bl_next hS hS.size hb
      clear hb hia hac
      obtain ⟨kx, hkx⟩ : ∃ kx, keyedM s.psk (s.o0 ++ bs) = kx := ⟨_, rfl⟩
      rw [hkx]
      go_wp2_with fail
      refine ⟨hSc _ hS, ?_⟩
      repeat (first | (refine plan_t (by rfl) ?_; (first | go_big_quiet_skip | (go_big_quiet_want; go_big_quiet_op; go_big_quiet_on)); refine wpQuiet_nil ?_))
      refine plan_us (by rfl) (by kernel_rfl) ?_
      intro K hK
      have hrw := bl_row hS (lt_of_block HRC.out) HRC.out
      have c8 := cell_row hrw 8 _ G8
      have z8 := row_free hrw 8
      have hos := (HO2.out.next hS).setCell (k := 8) (.int .u64 kx)
      have hrs := row_set hrw 8 (.int .u64 kx)
      go_wp2_with fail
      refine ⟨⟨setOther (hSc _ hS).1 (by omega), setOther (hSc _ hS).2 (by omega)⟩, ?_⟩
      clear c8 z8
      generalize w11.setCell ⟨p, 8, none⟩ (.int .u64 kx) = w12 at hos hrs ⊢
      clear hne2
      show Exit.then _ _ _ _ _
      go_wp2_with fail
      go_ret
      rw [HGA.out HAK.out, hkx]
      refine ⟨rfl, J, a0, a1, k0, k1, ?_, hos, fun x hx => .inl hx⟩
      refine H.out.next hos (by rw [← HRE.out, HS1.out] at hrs; exact hrs) rfl rfl HDK.out (by rw [← hkx]; exact wf_end _) (H.out.t0.off hos (fun _ x hx => hp0 _ (H.out.k0 x hx))) (H.out.t1.off hos (fun _ x hx => hp0 _ (H.out.k1 x hx))) hn0 hn1 H.out.k0 H.out.k1 (fun x hx => ⟨.inl hx, Nat.lt_of_lt_of_le (H.out.lt x (.inr hx)) hos.size⟩)
end Go.Proofs.Ytlpajohhnngbmaa
