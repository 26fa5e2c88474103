/- texts of the proof, laid together: Cid21, Cid22, Cid23, Cid24, Cid25, Cid26, Cid27, Cid28. -/
import Derived.Test.YtjdcmhclamjcjaaV5
namespace Go.Proofs.Ytjdcmhclamjcjaa
open Go.RowKit
set_option linter.unusedVariables false
set_option linter.unusedSimpArgs false

/-- the same, and the header alone has turned. -/
def RtP (w : World) (p : Nat) (B : List Nat) (w' : World) (N' : Nat) (S' : Th) : Prop := RtU w p B w' N' S' ∧ Off [p] w w'
set_option maxRecDepth 100000 in
set_option maxHeartbeats 8000000 in
theorem rdueP_any (w : World) (p : Nat) (B : List Nat) (N : Nat) (S : Th) (h : RH) (hr : RtAt w p B N S h) (s : Int) (hs : U64 s) (hsrt : S.due.Pairwise (· < ·)) (hN : N < 100000) :
    Calls Try.prog 42 #[.pointer (some ⟨p, 0, none⟩), .int .u64 s] w fun e w' => e = .returned (.tuple #[]) ∧ RtP w p B w' (N + 1) ⟨S.L, S.came, dueM S.due s, S.was, S.now⟩ := by
  have H := Lib.hid hr
  have HROW := Lib.hid hr.row; have HD := Lib.hid hr.r; have hln := hr.len.2.2.1; have HSR := Lib.hid hsrt; have HUS := Lib.hid hs
  obtain ⟨ra, hra⟩ : ∃ a, h.ra = a := ⟨_, rfl⟩
  obtain ⟨rc, hrc⟩ : ∃ a, h.rc = a := ⟨_, rfl⟩
  have HRA := Lib.hid hra; have HRC := Lib.hid hrc
  rw [hra] at HD HROW; rw [hrc] at HROW
  obtain ⟨n, hn⟩ : ∃ n, S.due.length = n := ⟨_, rfl⟩
  have HN := Lib.hid hn
  obtain ⟨due, hdue⟩ : ∃ d, S.due = d := ⟨_, rfl⟩
  have HDU := Lib.hid hdue
  rw [hn] at HROW HD hln
  rw [hdue] at HD HSR HN
  clear hr hn hdue hsrt hra hrc
  go_enter Try.func42, Try.ntmps42
  go_wp2_with fail
  have HO0 : Hid (w.ownsRow w.heap.size 24 1 (.slice none 0 0) 0 (u64K.flat (dueG (due.take 0) s false))) := Lib.hid ⟨rfl, .inl ⟨rfl, rfl⟩⟩
  have HI0 : Hid (dueI (due.take 0) s false) := Lib.hid (dueI_none s)
  go_loopw [4, 5, 6] (fun s4 s5 s6 wr => ∃ (i k cq : Nat) (b : Option Addr) (put : Bool), s4 = .slice b k cq ∧ s5 = .bool put ∧ s6 = .int .i64 i ∧ i ≤ n ∧ k ≤ i + 1 ∧ (put = false → k ≤ i) ∧ Hid (Below w.heap.size w wr) ∧ Hid (wr.ownsRow w.heap.size 24 1 (.slice b k cq) k (u64K.flat (dueG (due.take i) s put))) ∧ Hid (dueI (due.take i) s put)) (fun _ _ s _ => n - (intOf s).toNat)
  case atStart => exact ⟨0, 0, 0, none, false, rfl, rfl, rfl, by omega, by omega, fun _ => by omega, Lib.hid (Below.refl _ _), HO0, HI0⟩
  case round =>
    clear HO0 HI0
    obtain ⟨i, k, cq, b, put, rfl, rfl, rfl, hi, hk, hk2, HB, HO, HI⟩ := hrel
    have HO0 := HO
    have HRW := Lib.hid (bl_row HB.out (lt_of_block HROW.out) HROW.out)
    have hcell := cell_row HRW.out 2 _ (rtRow_2 ..)
    by_cases hlt : i < n
    · skip
      obtain ⟨ab, ao, d, rfl, hab, hx, hok, hrg⟩ := (HD.out).at hlt
      have cd : wr.cell? ⟨ab, ao + i, none⟩ = some (.int .u64 d) := bl_cell HB.out (p := ⟨ab, ao + i, none⟩) hab (u64_cell hrg)
      have HX := Lib.hid hx; have HOKD := Lib.hid hok
      clear hx hrg hab
      have hdb := hok
      unfold u64K at hdb
      replace hdb : 0 ≤ d ∧ d < 18446744073709551616 := hdb
      have hts := Lib.hid (take_snd' HX.out)
      by_cases heq : d = s
      · skip
        subst heq
        go_wp2_with fail
        (try simp only [Exit.inBlock, Exit.then])
        refine bodyPost_ret (results_none rfl _ _ _) rfl ?_
        have hdm : dueM due d = due := by
          have hl := lt_of_get HX.out
          have hxe : due[i] = d := by have := List.getElem?_eq_getElem hl; rw [HX.out] at this; injection this with this; exact this.symm
          have e : due = due.take i ++ d :: due.drop (i + 1) := by rw [← hxe, ← List.drop_eq_getElem_cons hl, List.take_append_drop]
          have hs2 := HSR.out
          rw [e] at hs2
          have h2 := dueM_in (l2 := due.drop (i + 1)) (fun z hz => (List.pairwise_append.1 hs2).2.2 z hz d (List.mem_cons_self ..))
          rw [← e] at h2; exact h2
        rw [HDU.out, hdm, ← HDU.out]
        exact ⟨rfl, ⟨B, h, UpdO.of_below HB.out, (H.out.below HB.out).mono⟩, Off.of_below HB.out⟩
      · skip
        have hne : (d == s) = false := by simpa using heq
        cases put with
        | true =>
          go_wp2_with (first | (refine wpList_build_rk u64T rfl _ rfl d HOKD.out rfl ?_) | (at_builtin; refine wpList_append_rk u64T rfl _ _ rfl w.heap.size k (.slice b k cq) (dueG (due.take i) s true) rfl (own_below HO.out ((Below.refl _ _).alloc (Nat.le_refl _) _)) _ 1 1 [d] rfl (RK.At.of_row (K := u64K) (t := 24) (l := [d]) (heap_alloc_new _ _) (fun y hy => by rw [List.mem_singleton.1 hy]; exact HOKD.out)) (by omega) (HB.out.alloc HB.out.size _).size ?_; intro v' w' hown hgrow _; obtain ⟨b2, c2, rfl, _⟩ := sl_own hown; replace HO := Lib.hid hown; replace HB := Lib.hid ((HB.out.alloc HB.out.size _).grown hgrow (HB.out.alloc HB.out.size _).size (own_base HO0.out)); clear hown hgrow) | fail)
          go_roundw
          case rel => exact ⟨i + 1, k + 1, c2, b2, true, rfl, rfl, by go_num, by omega, by omega, fun e => (by cases e), HB, Lib.hid (by rw [hts.out]; have h9 := HO.out; unfold dueG at h9 ⊢; rw [if_pos rfl] at h9 ⊢; rw [dueM_app2 HI.out]; exact h9), Lib.hid (by rw [hts.out]; obtain ⟨z, hz, hz2⟩ := HI.out; exact ⟨z, List.mem_append_left _ hz, hz2⟩)⟩
          case measure => simp [intOf]; omega
        | false =>
          have hk3 := hk2 rfl
          clear hk2
          by_cases hgt : s < d
          · skip
            go_upto_region 7 with fail
            go_upto_region 9 with (first | (refine wpList_build_rk u64T rfl _ rfl s HUS.out rfl ?_) | (at_builtin; refine wpList_append_rk u64T rfl _ _ rfl w.heap.size k (.slice b k cq) (dueG (due.take i) s false) rfl (own_below HO.out ((Below.refl _ _).alloc (Nat.le_refl _) _)) _ 1 1 [s] rfl (RK.At.of_row (K := u64K) (t := 24) (l := [s]) (heap_alloc_new _ _) (fun y hy => by rw [List.mem_singleton.1 hy]; exact HUS.out)) (by omega) (HB.out.alloc HB.out.size _).size ?_; intro v' w' hown hgrow _; obtain ⟨b2, c2, rfl, _⟩ := sl_own hown; replace HO := Lib.hid hown; replace HB := Lib.hid ((HB.out.alloc HB.out.size _).grown hgrow (HB.out.alloc HB.out.size _).size (own_base HO0.out)); clear hown hgrow) | fail)
            try simp only [Act.put]
            clear HO0 cd hcell HRW
            have HO0 := HO
            have HRW := Lib.hid (bl_row HB.out (lt_of_block HROW.out) HROW.out)
            have hcell := cell_row HRW.out 2 _ (rtRow_2 ..)
            obtain ⟨ab', ao', d', e9, hab, hx, hok, hrg⟩ := (HD.out).at hlt
            injection e9 with e9; injection e9 with e9 e10; subst e9; subst e10
            rw [HX.out] at hx; injection hx with hx; subst hx
            have cd : w'.cell? ⟨ab, ao + i, none⟩ = some (.int .u64 d) := bl_cell HB.out (p := ⟨ab, ao + i, none⟩) hab (u64_cell hrg)
            clear hrg hab hok
            go_wp2_with (first | (refine wpList_build_rk u64T rfl _ rfl d HOKD.out rfl ?_) | (at_builtin; refine wpList_append_rk u64T rfl _ _ rfl w.heap.size (k + 1) (.slice b2 (k + 1) c2) (dueG (due.take i) s false ++ [s]) rfl (own_below HO.out ((Below.refl _ _).alloc (Nat.le_refl _) _)) _ 1 1 [d] rfl (RK.At.of_row (K := u64K) (t := 24) (l := [d]) (heap_alloc_new _ _) (fun y hy => by rw [List.mem_singleton.1 hy]; exact HOKD.out)) (by omega) (HB.out.alloc HB.out.size _).size ?_; intro v' w' hown hgrow _; obtain ⟨b3, c3, rfl, _⟩ := sl_own hown; replace HO := Lib.hid hown; replace HB := Lib.hid ((HB.out.alloc HB.out.size _).grown hgrow (HB.out.alloc HB.out.size _).size (own_base HO0.out)); clear hown hgrow) | fail)
            go_roundw
            case rel => exact ⟨i + 1, k + 1 + 1, c3, b3, true, rfl, rfl, by go_num, by omega, by omega, fun e => (by cases e), HB, Lib.hid (by rw [hts.out]; have h9 := HO.out; unfold dueG at h9 ⊢; rw [if_pos rfl]; simp only [Bool.false_eq_true, if_false] at h9; rw [dueM_app1 HI.out, show dueM [d] s = [s, d] by simp only [dueM]; rw [if_neg (by omega), if_neg heq]]; rw [List.append_assoc] at h9; exact h9), Lib.hid (by rw [hts.out]; exact ⟨d, by simp, hgt⟩)⟩
            case measure => simp [intOf]; omega
          · skip
            go_wp2_with (first | (refine wpList_build_rk u64T rfl _ rfl d HOKD.out rfl ?_) | (at_builtin; refine wpList_append_rk u64T rfl _ _ rfl w.heap.size k (.slice b k cq) (dueG (due.take i) s false) rfl (own_below HO.out ((Below.refl _ _).alloc (Nat.le_refl _) _)) _ 1 1 [d] rfl (RK.At.of_row (K := u64K) (t := 24) (l := [d]) (heap_alloc_new _ _) (fun y hy => by rw [List.mem_singleton.1 hy]; exact HOKD.out)) (by omega) (HB.out.alloc HB.out.size _).size ?_; intro v' w' hown hgrow _; obtain ⟨b2, c2, rfl, _⟩ := sl_own hown; replace HO := Lib.hid hown; replace HB := Lib.hid ((HB.out.alloc HB.out.size _).grown hgrow (HB.out.alloc HB.out.size _).size (own_base HO0.out)); clear hown hgrow) | fail)
            go_roundw
            case rel => exact ⟨i + 1, k + 1, c2, b2, false, rfl, rfl, by go_num, by omega, by omega, fun _ => by omega, HB, Lib.hid (by rw [hts.out]; have h9 := HO.out; unfold dueG at h9 ⊢; simp only [Bool.false_eq_true, if_false] at h9 ⊢; exact h9), Lib.hid (by rw [hts.out]; intro z hz; rcases List.mem_append.1 hz with e | e; exact HI.out z e; rw [List.mem_singleton.1 e]; omega)⟩
            case measure => simp [intOf]; omega
    · obtain rfl : n = i := by omega
      have htk : due.take n = due := List.take_of_length_le (by rw [HN.out]; exact Nat.le_refl _)
      rw [htk] at HO HI HO0
      clear htk
      have hfin : ∀ (k2 cq2 : Nat) (b2 : Option Addr) (W : World) (_ : Hid (Below w.heap.size w W)) (_ : Hid (W.ownsRow w.heap.size 24 1 (.slice b2 k2 cq2) k2 (u64K.flat (dueM due s)))), RtP w p B (W.setCell ⟨p, 2, none⟩ (.slice b2 k2 cq2)) (N + 1) ⟨S.L, S.came, dueM S.due s, S.was, S.now⟩ := by
        intro k2 cq2 b2 W HBW HOW
        have HRW := bl_row HBW.out (lt_of_block HROW.out) HROW.out
        have hok2 : ∀ x ∈ dueM due s, u64K.ok x := fun x hx => by rcases dueM_mem.1 hx with e | e; exact e ▸ HUS.out; exact HD.out.2.1 x e
        have hkl : (dueM due s).length = k2 := by have h9 := HOW.out.1; rw [u64K.flat_len _ hok2] at h9; exact Nat.eq_of_mul_eq_mul_right u64K.pos h9
        skip
        have hgs := grown_setCell W p 2 (.slice b2 k2 cq2)
        have hrs := row_setL HRW 2 (.slice b2 k2 cq2)
        rw [rtRow_set2] at hrs
        have ho9 : Off [p] w (W.setCell ⟨p, 2, none⟩ (.slice b2 k2 cq2)) := (Off.of_below (M := [p]) HBW.out).setCell (k := 2) (List.mem_singleton.2 rfl) _
        have he9 := own_grown HOW.out hgs (fun g hg e => own_ne HOW.out HRW (by decide) (hg.trans e))
        obtain ⟨_, _, e0, hc1, hc2⟩ := sl_own he9
        injection e0 with e0 e1 e2; subst e2
        rw [HDU.out]
        subst hkl
        skip
        refine ⟨H.out.newr ho9 hrs (RK.At.of_own he9 hok2) ⟨hc1, hc2⟩ (fun x hx => ?_) ⟨by omega, ?_⟩, ho9⟩
        · subst hx; exact ⟨own_base HOW.out _ rfl, own_ltS he9 rfl, own_addr he9⟩
        · have := dueM_len due s; rw [HN.out] at this; omega
      have HFIN := Lib.hid hfin
      clear hfin
      cases put with
      | true =>
        have f2 := row_free HRW.out 2
        go_wp2_with fail
        refine bodyPost_end (results_none rfl _ _ _) rfl ?_
        exact ⟨rfl, HFIN.out _ _ _ _ HB HO⟩
      | false =>
        have hk3 := hk2 rfl
        clear hk2
        go_upto_region 12 with (first | (refine wpList_build_rk u64T rfl _ rfl s HUS.out rfl ?_) | (at_builtin; refine wpList_append_rk u64T rfl _ _ rfl w.heap.size k (.slice b k cq) (dueG due s false) rfl (own_below HO.out ((Below.refl _ _).alloc (Nat.le_refl _) _)) _ 1 1 [s] rfl (RK.At.of_row (K := u64K) (t := 24) (l := [s]) (heap_alloc_new _ _) (fun y hy => by rw [List.mem_singleton.1 hy]; exact HUS.out)) (by omega) (HB.out.alloc HB.out.size _).size ?_; intro v' w' hown hgrow _; obtain ⟨b2, c2, rfl, _⟩ := sl_own hown; replace HO := Lib.hid hown; replace HB := Lib.hid ((HB.out.alloc HB.out.size _).grown hgrow (HB.out.alloc HB.out.size _).size (own_base HO0.out)); clear hown hgrow) | fail)
        try simp only [Act.put]
        clear HRW hcell
        have HRW := Lib.hid (bl_row HB.out (lt_of_block HROW.out) HROW.out)
        have hcell := cell_row HRW.out 2 _ (rtRow_2 ..)
        have f2 := row_free HRW.out 2
        go_wp2_with fail
        refine bodyPost_end (results_none rfl _ _ _) rfl ?_
        have hd9 : dueG due s false ++ [s] = dueM due s := by unfold dueG; simp only [Bool.false_eq_true, if_false]; have h9 := dueM_app1 (X := []) HI.out; rw [List.append_nil] at h9; rw [h9]; rfl
        exact ⟨rfl, HFIN.out _ _ _ _ HB (Lib.hid (by rw [← hd9]; exact HO.out))⟩
theorem rdue_any (w : World) (p : Nat) (B : List Nat) (N : Nat) (S : Th) (h : RH) (hr : RtAt w p B N S h) (s : Int) (hs : U64 s) (hsrt : S.due.Pairwise (· < ·)) (hN : N < 100000) :
    Calls Try.prog 42 #[.pointer (some ⟨p, 0, none⟩), .int .u64 s] w fun e w' => e = .returned (.tuple #[]) ∧ RtU w p B w' (N + 1) ⟨S.L, S.came, dueM S.due s, S.was, S.now⟩ :=
  (rdueP_any w p B N S h hr s hs hsrt hN).mono fun e w' h => ⟨h.1, h.2.1⟩
end Go.Proofs.Ytjdcmhclamjcjaa
namespace Go.Proofs.Ytjdcmhclamjcjaa
open Go.RowKit
set_option linter.unusedVariables false
set_option linter.unusedSimpArgs false

def retS (S : Th) (s : Int) : Th := ⟨S.L.filter (fun x => decide (x.1 ≠ s)), S.came, dueM S.due s, S.was ++ [s], S.now⟩
set_option maxRecDepth 100000 in
set_option maxHeartbeats 8000000 in
theorem rretP_any (w : World) (p : Nat) (B : List Nat) (N : Nat) (S : Th) (h : RH) (hr : RtAt w p B N S h) (s : Int) (hs : U64 s) (hsrt : S.due.Pairwise (· < ·)) (hN : N < 90000) :
    Calls Try.prog 39 #[.pointer (some ⟨p, 0, none⟩), .int .u64 s] w fun e w' => e = .returned (.tuple #[]) ∧ RtP w p B w' (N + 2) (retS S s) := by
  have H := Lib.hid hr
  have HROW := Lib.hid hr.row; have HD := Lib.hid hr.l; have hln := hr.len.1; have hlw := hr.len.2.2.2; have HSR := Lib.hid hsrt; have HUS := Lib.hid hs
  obtain ⟨la, hla⟩ : ∃ a, h.la = a := ⟨_, rfl⟩
  obtain ⟨lc, hlc⟩ : ∃ a, h.lc = a := ⟨_, rfl⟩
  have HLA := Lib.hid hla; have HLC := Lib.hid hlc
  rw [hla] at HD HROW; rw [hlc] at HROW
  obtain ⟨n, hn⟩ : ∃ n, S.L.length = n := ⟨_, rfl⟩
  have HN := Lib.hid hn
  obtain ⟨L, hL⟩ : ∃ d, S.L = d := ⟨_, rfl⟩
  have HLE := Lib.hid hL
  obtain ⟨m, hm⟩ : ∃ n, S.was.length = n := ⟨_, rfl⟩
  have HM := Lib.hid hm
  rw [hn] at HROW HD hln
  rw [hm] at hlw
  rw [hL] at HD HN
  have HLO := Lib.hid HD.out.2.1
  clear hr hn hL hsrt hla hlc hm
  go_enter Try.func39, Try.ntmps39
  go_wp2_with fail
  have HO0 : Hid (w.ownsRow w.heap.size 75 nmK.N (.slice none 0 0) 0 (nmK.flat ((L.take 0).filter fun x => decide (x.1 ≠ s)))) := Lib.hid ⟨rfl, .inl ⟨rfl, rfl⟩⟩
  go_loopw [4, 5] (fun s4 s6 wr => ∃ (i k cq : Nat) (b : Option Addr), s4 = .slice b k cq ∧ s6 = .int .i64 i ∧ i ≤ n ∧ k ≤ i ∧ Hid (Below w.heap.size w wr) ∧ Hid (wr.ownsRow w.heap.size 75 nmK.N (.slice b k cq) k (nmK.flat ((L.take i).filter fun x => decide (x.1 ≠ s))))) (fun _ s _ => n - (intOf s).toNat)
  case atStart => exact ⟨0, 0, 0, none, rfl, rfl, by omega, by omega, Lib.hid (Below.refl _ _), HO0⟩
  case round =>
    clear HO0
    obtain ⟨i, k, cq, b, rfl, rfl, hi, hk, HB, HO⟩ := hrel
    have HO0 := HO
    have HRW := Lib.hid (bl_row HB.out (lt_of_block HROW.out) HROW.out)
    have hcell := cell_row HRW.out 0 _ (rtRow_0 ..)
    by_cases hlt : i < n
    · skip
      obtain ⟨ab, ao, x, rfl, hab, hx, hok, hrg0⟩ := HD.out.at hlt
      have hrg : wr.rangeAt ab (ao + i * nmK.N) (nmK.enc x) := fun j v hv => bl_cell HB.out (p := ⟨ab, ao + i * nmK.N + j, none⟩) hab (hrg0 j v hv)
      have HX := Lib.hid hx; have HOK := Lib.hid hok; have HRG := Lib.hid hrg
      have hxu := hok.1
      clear hx hok hrg hrg0 hab
      have hl9 := nmK.len x HOK.out; have ho9 := nmK.one x HOK.out
      obtain ⟨RX, hRX⟩ : ∃ R, nmK.enc x = R := ⟨_, rfl⟩
      have HRX := Lib.hid hRX
      rw [hRX] at hl9 ho9
      rw [hRX] at HRG
      have HL9 : Hid (RX.length = 9) := Lib.hid hl9; have HO9 := Lib.hid ho9
      clear hl9 ho9 hRX
      have hq0 : wr.cell? ⟨ab, ao + i * 9, none⟩ = some (.int .u64 x.1) := by have h9 := HRG.out 0 _ (nm_head HRX.out); rw [Nat.add_zero] at h9; exact h9
      have hft := filter_take HX.out (fun x => decide (x.1 ≠ s))
      have HFT := Lib.hid hft
      clear hft
      obtain ⟨d, hd⟩ : ∃ d, x.1 = d := ⟨_, rfl⟩
      have HDX := Lib.hid hd
      rw [hd] at hq0 hxu
      clear hd
      by_cases heq : d = s
      · skip
        subst heq
        go_wp2_with fail
        go_roundw
        case rel => exact ⟨i + 1, k, cq, b, rfl, by go_num, by omega, by omega, HB, Lib.hid (by rw [HFT.out, HDX.out]; simp only [ne_eq, not_true_eq_false, decide_false, Bool.false_eq_true, if_false, List.append_nil]; exact HO.out)⟩
        case measure => simp [intOf]; omega
      · skip
        have hne : (d == s) = false := by simpa using heq
        go_wp2_with (first | (refine wpList_load_mid rfl 75 _ rfl ab (ao + i * 9) rfl RX _ (HRG.out) Try.underlying75 rfl (by rw [HL9.out]; rfl) ?_) | (refine wpList_build_rk rnmT rfl _ rfl x HOK.out (by show Value.agg _ = _; rw [HRX.out]) ?_) | (at_builtin; refine wpList_append_rk rnmT rfl _ _ rfl w.heap.size k (.slice b k cq) ((L.take i).filter fun x => decide (x.1 ≠ s)) rfl (own_below HO.out ((Below.refl _ _).alloc (Nat.le_refl _) _)) _ 1 1 [x] rfl (RK.At.of_row (K := nmK) (t := 75) (l := [x]) (heap_alloc_new _ _) (fun y hy => by rw [List.mem_singleton.1 hy]; exact HOK.out)) (by omega) (HB.out.alloc HB.out.size _).size ?_; intro v' w' hown hgrow _; obtain ⟨b2, c2, rfl, _⟩ := sl_own hown; replace HO := Lib.hid hown; replace HB := Lib.hid ((HB.out.alloc HB.out.size _).grown hgrow (HB.out.alloc HB.out.size _).size (own_base HO0.out)); clear hown hgrow) | fail)
        go_roundw
        case rel => exact ⟨i + 1, k + 1, c2, b2, rfl, by go_num, by omega, by omega, HB, Lib.hid (by rw [HFT.out, HDX.out]; simp only [ne_eq, heq, not_false_eq_true, decide_true, if_true]; exact HO.out)⟩
        case measure => simp [intOf]; omega
    · obtain rfl : n = i := by omega
      have htk : L.take n = L := List.take_of_length_le (by rw [HN.out]; exact Nat.le_refl _)
      rw [htk] at HO HO0
      clear htk HO0
      obtain ⟨LL, hLL⟩ : ∃ l, (L.filter fun x => decide (x.1 ≠ s)) = l := ⟨_, rfl⟩
      have HLL := Lib.hid hLL
      rw [hLL] at HO
      clear hLL
      have hokl : ∀ y ∈ LL, nmK.ok y := fun y hy => HLO.out y (by rw [← HLL.out] at hy; exact (List.mem_filter.1 hy).1)
      have hlk : LL.length = k := by have h9 := HO.out.1; rw [nmK.flat_len LL hokl] at h9; exact Nat.eq_of_mul_eq_mul_right nmK.pos h9
      have hot : Off [p] w (wr.setCell ⟨p, 0, none⟩ (.slice b k cq)) := (Off.of_below (M := [p]) HB.out).setCell (k := 0) (List.mem_singleton.2 rfl) _
      have HOT := Lib.hid hot
      clear hot
      have hnew : RtU w p B (wr.setCell ⟨p, 0, none⟩ (.slice b k cq)) N ⟨LL, S.came, S.due, S.was, S.now⟩ := by
        have hgs := grown_setCell wr p 0 (.slice b k cq)
        have hrs := row_setL HRW.out 0 (.slice b k cq)
        rw [rtRow_set0] at hrs
        have ho9 : Off [p] w (wr.setCell ⟨p, 0, none⟩ (.slice b k cq)) := (Off.of_below (M := [p]) HB.out).setCell (k := 0) (List.mem_singleton.2 rfl) _
        have he9 := own_grown HO.out hgs (fun g hg e => own_ne HO.out HRW.out (by decide) (hg.trans e))
        obtain ⟨_, _, e0, hc1, hc2⟩ := sl_own he9
        injection e0 with e0 e1 e2; subst e2
        subst hlk
        refine H.out.newl ho9 hrs (RK.At.of_own he9 hokl) ⟨hc1, hc2⟩ (fun x hx => ?_) ⟨by omega, by omega⟩
        subst hx; exact ⟨own_base HO.out _ rfl, own_ltS he9 rfl, own_addr he9⟩
      have HNEW := Lib.hid hnew
      clear hnew hokl hlk
      have f2 := row_free HRW.out 0
      go_upto_region 7 with fail
      try simp only [Act.put]
      clear f2 hcell HRW HO
      generalize wr.setCell ⟨p, 0, none⟩ (.slice b k cq) = w1 at HNEW HOT ⊢
      obtain ⟨B1, h1, hu1, ht1⟩ := HNEW.out
      have HU1 := Lib.hid hu1; have HT1 := Lib.hid ht1
      clear hu1 ht1 HNEW
      go_wp2_with fail
      refine Calls.mono (rdueP_any w1 p B1 N _ h1 HT1.out s HUS.out HSR.out (by omega)) ?_
      rintro e w2 ⟨rfl, ⟨B2, h2, hu2, ht2⟩, ho2⟩
      replace HOT := Lib.hid (HOT.out.trans ho2 (fun x hx => .inl hx))
      clear ho2
      have HU2 := Lib.hid (HU1.out.trans hu2); have HT2 := Lib.hid ht2
      clear hu2 ht2 HU1 HT1
      have HR2 := Lib.hid HT2.out.row
      have HWS := Lib.hid HT2.out.s
      simp only at HWS HR2
      rw [HM.out] at HWS HR2
      obtain ⟨wa, hwa⟩ : ∃ a, h2.wa = a := ⟨_, rfl⟩
      obtain ⟨wc, hwc⟩ : ∃ a, h2.wc = a := ⟨_, rfl⟩
      have HWA := Lib.hid hwa; have HWC := Lib.hid hwc
      rw [hwa] at HWS HR2; rw [hwc] at HR2
      clear hwa hwc
      have hcell := cell_row (bl_row ((Below.refl w2.heap.size w2).alloc (Nat.le_refl _) (.cells #[] 24)) (lt_of_block HR2.out) HR2.out) 3 _ (rtRow_3 ..)
      have HWO := Lib.hid HWS.out.2.1
      have hal := (Below.refl w2.heap.size w2).alloc (Nat.le_refl _) (.cells #[] 24)
      have hee : (w2.alloc (.cells #[] 24)).ownsRow w2.heap.size 24 u64K.N (.slice (some ⟨w2.heap.size, 0, none⟩) 0 0) 0 (u64K.flat []) := ⟨rfl, .inr ⟨_, 0, #[], rfl, Nat.le_refl _, heap_alloc_new w2 (.cells #[] 24), Nat.le_refl _, by unfold maxLen; omega, rfl, rfl⟩⟩
      have hwa := HWS.out.below hal
      have HE := Lib.hid hee; have HWS3 := Lib.hid hwa; have HB3 := Lib.hid hal
      clear hee hwa hal HWS
      go_wp2_with (first | (at_builtin; refine wpList_append_rk u64T rfl _ _ rfl w2.heap.size 0 (.slice (some ⟨w2.heap.size, 0, none⟩) 0 0) [] rfl HE.out wa m _ S.was rfl HWS3.out (by omega) HB3.out.size ?_; intro v1 w3 hown hgrow _; obtain ⟨b3, c3, rfl, _⟩ := sl_own hown; simp only [Nat.zero_add] at hown ⊢; rw [List.nil_append] at hown; have HO3 := Lib.hid hown; replace HB3 := Lib.hid (HB3.out.grown hgrow HB3.out.size (own_base HE.out)); clear hown hgrow) | (refine wpList_build_rk u64T rfl _ rfl s HUS.out rfl ?_) | (at_builtin; refine wpList_append_rk u64T rfl _ _ rfl w2.heap.size m (.slice b3 m c3) S.was rfl (own_below HO3.out ((Below.refl _ _).alloc (Nat.le_refl _) _)) _ 1 1 [s] rfl (RK.At.of_row (K := u64K) (t := 24) (l := [s]) (heap_alloc_new _ _) (fun y hy => by rw [List.mem_singleton.1 hy]; exact HUS.out)) (by omega) (HB3.out.alloc HB3.out.size _).size ?_; intro v' w4 hown hgrow _; obtain ⟨b4, c4, rfl, _⟩ := sl_own hown; have HO4 := Lib.hid hown; have HB4 := Lib.hid ((HB3.out.alloc HB3.out.size _).grown hgrow (HB3.out.alloc HB3.out.size _).size (own_base HO3.out)); clear hown hgrow; have HR4 := Lib.hid (bl_row HB4.out (lt_of_block HR2.out) HR2.out); have f3 := row_free HR4.out 3; have hcell4 := cell_row HR4.out 3 _ (rtRow_3 ..)) | fail)
      (try simp only [Exit.inBlock, Exit.then])
      refine bodyPost_end (results_none rfl _ _ _) rfl ?_
      have hokw : ∀ y ∈ S.was ++ [s], u64K.ok y := fun y hy => by rcases List.mem_append.1 hy with e | e; exact HWO.out y e; rw [List.mem_singleton.1 e]; exact HUS.out
      have hlw9 : (S.was ++ [s]).length = m + 1 := by simp [HM.out]
      have hgs := grown_setCell w4 p 3 (.slice b4 (m + 1) c4)
      have hrs := row_setL HR4.out 3 (.slice b4 (m + 1) c4)
      rw [rtRow_set3] at hrs
      have ho9 : Off [p] w2 (w4.setCell ⟨p, 3, none⟩ (.slice b4 (m + 1) c4)) := (Off.of_below (M := [p]) HB4.out).setCell (k := 3) (List.mem_singleton.2 rfl) _
      have he9 := own_grown HO4.out hgs (fun g hg e => own_ne HO4.out HR4.out (by decide) (hg.trans e))
      obtain ⟨_, _, e0, hc1, hc2⟩ := sl_own he9
      injection e0 with e0 e1 e2; subst e2
      obtain ⟨B9, h9, hu9, ht9⟩ := HT2.out.news (N' := N + 2) ho9 (by simp only; rw [hlw9]; exact hrs) (by rw [hlw9]; exact RK.At.of_own he9 hokw) (by rw [hlw9]; exact ⟨hc1, hc2⟩) (fun x hx => by subst hx; exact ⟨own_base HO4.out _ rfl, own_ltS he9 rfl, own_addr he9⟩) ⟨by omega, by rw [hlw9]; omega⟩
      refine ⟨rfl, ⟨B9, h9, HU2.out.trans hu9, ?_⟩, HOT.out.trans ho9 (fun x hx => .inl hx)⟩
      have hrs : retS S s = ⟨LL, S.came, dueM S.due s, S.was ++ [s], S.now⟩ := by unfold retS; rw [HLE.out, HLL.out]
      rw [hrs]; exact ht9
theorem rret20_any (w : World) (p : Nat) (B : List Nat) (N : Nat) (S : Th) (h : RH) (hr : RtAt w p B N S h) (s : Int) (hs : U64 s) (hsrt : S.due.Pairwise (· < ·)) (hN : N < 90000) :
    Calls Try.prog 39 #[.pointer (some ⟨p, 0, none⟩), .int .u64 s] w fun e w' => e = .returned (.tuple #[]) ∧ RtU w p B w' (N + 2) (retS S s) :=
  (rretP_any w p B N S h hr s hs hsrt hN).mono fun e w' h => ⟨h.1, h.2.1⟩
end Go.Proofs.Ytjdcmhclamjcjaa
namespace Go.Proofs.Ytjdcmhclamjcjaa
open Go.RowKit
set_option linter.unusedVariables false
set_option linter.unusedSimpArgs false

set_option maxRecDepth 100000 in
set_option maxHeartbeats 8000000 in
theorem rnext20_any (w : World) (p : Nat) (B : List Nat) (N : Nat) (S : Th) (h : RH) (hr : RtAt w p B N S h) (hN : N < 90000) :
    Calls Try.prog 21 #[.pointer (some ⟨p, 0, none⟩)] w fun e w' => e = .returned (nextV S.due) ∧ RtU w p B w' N (nextS S) := by
  have H := Lib.hid hr
  have HRC := Lib.hid hr.rc
  have HROW := Lib.hid hr.row
  have hln := hr.len.2.2.1
  obtain ⟨ra, hra⟩ : ∃ a, h.ra = a := ⟨_, rfl⟩
  obtain ⟨rc, hrc⟩ : ∃ a, h.rc = a := ⟨_, rfl⟩
  have HRA0 := Lib.hid hra; have HRC0 := Lib.hid hrc
  rw [hra] at HROW; rw [hrc] at HROW HRC
  have HRA : Hid (ra = none ∨ ∃ b o, ra = some ⟨b, o, none⟩) := Lib.hid (by cases ra with | none => exact .inl rfl | some x => obtain ⟨_, _, b, o, e⟩ := H.out.ad x (.inr (.inr (.inl hra))); exact .inr ⟨b, o, by rw [e]⟩)
  obtain ⟨due, hdue⟩ : ∃ d, S.due = d := ⟨_, rfl⟩
  have HDU := Lib.hid hdue
  rw [hdue] at HROW HRC hln
  rw [hdue]
  clear hr hdue hra hrc
  go_enter Try.func21, Try.ntmps21
  go_upto_region 1 with fail
  change Code.wp _ _ _ _ (w.alloc (.cells ([.int .i64 0, .int .u64 0, .int .u64 0, .slice none 0 0, .bool false, .int .u64 0, .int .u64 0, .int .u64 0, .int .u64 0, .int .u64 0, .slice none 0 0, .int .u8 0, .int .u8 0, .int .u8 0, .int .u8 0, .int .u8 0, .int .u8 0, .int .u8 0, .int .u8 0] : List Value).toArray 53))
  have HB := Lib.hid (Below.refl w.heap.size w)
  have hb := (Below.refl w.heap.size w).alloc (Nat.le_refl _) (.cells ([.int .i64 0, .int .u64 0, .int .u64 0, .slice none 0 0, .bool false, .int .u64 0, .int .u64 0, .int .u64 0, .int .u64 0, .int .u64 0, .slice none 0 0, .int .u8 0, .int .u8 0, .int .u8 0, .int .u8 0, .int .u8 0, .int .u8 0, .int .u8 0, .int .u8 0] : List Value).toArray 53)
  replace HROW := Lib.hid (bl_row hb (lt_of_block HROW.out) HROW.out)
  replace HB := Lib.hid (bl_next HB.out HB.out.size hb)
  have HZ := Lib.hid (heap_alloc_new w (.cells ([.int .i64 0, .int .u64 0, .int .u64 0, .slice none 0 0, .bool false, .int .u64 0, .int .u64 0, .int .u64 0, .int .u64 0, .int .u64 0, .slice none 0 0, .int .u8 0, .int .u8 0, .int .u8 0, .int .u8 0, .int .u8 0, .int .u8 0, .int .u8 0, .int .u8 0] : List Value).toArray 53))
  clear hb
  generalize w.alloc (.cells ([.int .i64 0, .int .u64 0, .int .u64 0, .slice none 0 0, .bool false, .int .u64 0, .int .u64 0, .int .u64 0, .int .u64 0, .int .u64 0, .slice none 0 0, .int .u8 0, .int .u8 0, .int .u8 0, .int .u8 0, .int .u8 0, .int .u8 0, .int .u8 0, .int .u8 0] : List Value).toArray 53) = w1 at HROW HB HZ ⊢
  obtain ⟨gz, hg⟩ : ∃ g, w.heap.size = g := ⟨_, rfl⟩
  rw [hg] at HZ ⊢
  have HGZ := Lib.hid hg
  clear hg
  have hcell := cell_row HROW.out 2 _ (rtRow_2 ..)
  cases due with
  | nil =>
    simp only [List.length_nil] at hcell
    go_wp2_with (first | (refine wpList_store_row rfl 53 _ _ rfl gz rfl [.int .i64 0, .int .u64 0, .int .u64 0, .slice none 0 0, .bool false, .int .u64 0, .int .u64 0, .int .u64 0, .int .u64 0, .int .u64 0, .slice none 0 0, .int .u8 0, .int .u8 0, .int .u8 0, .int .u8 0, .int .u8 0, .int .u8 0, .int .u8 0, .int .u8 0] [.int .i64 0, .int .u64 0, .int .u64 0, .slice none 0 0, .bool false, .int .u64 0, .int .u64 0, .int .u64 0, .int .u64 0, .int .u64 0, .slice none 0 0, .int .u8 0, .int .u8 0, .int .u8 0, .int .u8 0, .int .u8 0, .int .u8 0, .int .u8 0, .int .u8 0] rfl 53 HZ.out rfl rfl (one19 rfl rfl) ?_; intro w9 hz hg9; have HZ9 := Lib.hid hz; have HG9 := Lib.hid hg9; clear hz hg9) | fail)
    refine bodyPost_ret (results_cell2 rfl _ _ gz rfl [.int .i64 0, .int .u64 0, .int .u64 0, .slice none 0 0, .bool false, .int .u64 0, .int .u64 0, .int .u64 0, .int .u64 0, .int .u64 0, .slice none 0 0, .int .u8 0, .int .u8 0, .int .u8 0, .int .u8 0, .int .u8 0, .int .u8 0, .int .u8 0, .int .u8 0] _ _ HZ9.out Try.underlying53 rfl rfl) rfl ?_
    have hbz : Below w.heap.size w w9 := HB.out.grown HG9.out HB.out.size (by intro k hk; injection hk with hk; have := HGZ.out; omega)
    have hs : nextS S = S := by have h9 := HDU.out; cases S; simp only at h9; subst h9; rfl
    refine ⟨rfl, ?_⟩
    rw [hs]
    exact ⟨B, h, UpdO.of_below hbz, H.out.below hbz⟩
  | cons d l =>
    have hr := H.out.r
    rw [HDU.out, HRA0.out] at hr
    rcases HRA.out with rfl | ⟨rb, ro, rfl⟩
    · rcases hr.2.2 with h | ⟨_, _, h, _⟩; cases h; cases h
    · skip
      have HR0 := Lib.hid hr
      obtain ⟨ab, ao, d', e9, hab, hx, hok, hrg⟩ := hr.at (j := 0) (by simp)
      injection e9 with e9; injection e9 with e9 e10; subst e9; subst e10
      obtain rfl : d = d' := by simpa using hx
      have hd0 := u64_cell hrg
      rw [Nat.add_zero] at hd0
      have hd1 : w1.cell? ⟨rb, ro, none⟩ = some (.int .u64 d) := bl_cell HB.out (p := ⟨rb, ro, none⟩) hab hd0
      have HD1 := Lib.hid hd1
      have hdu : 0 ≤ d ∧ d < 18446744073709551616 := hok
      have HOKL := Lib.hid hr.2.1
      clear hx hok hrg hd0 hab hd1 hr
      obtain ⟨n, hn⟩ : ∃ n, l.length = n := ⟨_, rfl⟩
      have HN := Lib.hid hn
      simp only [List.length_cons, hn] at hcell HROW HRC hln HR0
      clear hn
      obtain ⟨hrc, hrcm⟩ := HRC.out
      have hd1 := HD1.out
      have hsf := HR0.out.sufC 1 rc (by omega) (by omega)
      rw [show n + 1 - 1 = n by omega, show 1 * u64K.N = 1 from rfl] at hsf
      have HSF := Lib.hid hsf
      clear hsf
      have hal := (Below.refl w1.heap.size w1).alloc (Nat.le_refl _) (.cells #[] 24)
      have hee : (w1.alloc (.cells #[] 24)).ownsRow w1.heap.size 24 u64K.N (.slice (some ⟨w1.heap.size, 0, none⟩) 0 0) 0 (u64K.flat []) := ⟨rfl, .inr ⟨_, 0, #[], rfl, Nat.le_refl _, heap_alloc_new w1 (.cells #[] 24), Nat.le_refl _, by unfold maxLen; omega, rfl, rfl⟩⟩
      have hcell2 := cell_row (bl_row hal (lt_of_block HROW.out) HROW.out) 2 _ (rtRow_2 ..)
      have HE := Lib.hid hee; have HB3 := Lib.hid hal
      clear hee hal
      by_cases hr1 : rc = 1
      · skip
        have HS1 : Hid (u64K.At w (some ⟨rb, ro, none⟩) n l) := Lib.hid (by have h9 := HSF.out; rw [if_pos hr1] at h9; exact h9)
        have HS2 := Lib.hid ((HS1.out.below HB.out).below HB3.out)
        clear HSF
        go_upto_region 5 with (first | (at_builtin; refine wpList_append_rk u64T rfl _ _ rfl w1.heap.size 0 (.slice (some ⟨w1.heap.size, 0, none⟩) 0 0) [] rfl HE.out (some ⟨rb, ro, none⟩) n _ l rfl HS2.out (by omega) HB3.out.size ?_; intro v1 w3 hown hgrow _; obtain ⟨b3, c3, rfl, _⟩ := sl_own hown; simp only [Nat.zero_add] at hown ⊢; rw [List.nil_append] at hown; have HO3 := Lib.hid hown; replace HB3 := Lib.hid (HB3.out.grown hgrow HB3.out.size (own_base HE.out)); clear hown hgrow; have HR3 := Lib.hid (bl_row HB3.out (lt_of_block HROW.out) HROW.out); have HZ3 := Lib.hid (bl_row HB3.out (lt_of_block HZ.out) HZ.out); have f3 := row_free HR3.out 2; have hcell3 := cell_row HR3.out 2 _ (rtRow_2 ..)) | fail)
        try simp only [Act.put]
        clear hcell hcell2 hcell3 f3
        have hgs := grown_setCell w3 p 2 (.slice b3 n c3)
        have hrs := row_setL HR3.out 2 (.slice b3 n c3)
        rw [rtRow_set2] at hrs
        have hb13 : Below w.heap.size w w3 := bl_next HB.out HB.out.size HB3.out
        have ho9 : Off [p] w (w3.setCell ⟨p, 2, none⟩ (.slice b3 n c3)) := (Off.of_below (M := [p]) hb13).setCell (k := 2) (List.mem_singleton.2 rfl) _
        have hz9 := grown_row hgs (row_ne HZ3.out HR3.out (by decide)) HZ3.out
        have he9 := own_grown HO3.out hgs (fun g hg e => own_ne HO3.out HR3.out (by decide) (hg.trans e))
        have HO9 := Lib.hid ho9; have HR9 := Lib.hid hrs; have HZ9 := Lib.hid hz9; have HE9 := Lib.hid he9
        clear hgs hrs ho9 hz9 he9 hb13
        generalize w3.setCell ⟨p, 2, none⟩ (.slice b3 n c3) = w5 at HO9 HR9 HZ9 HE9 ⊢
        go_wp2_with (first | (refine wpList_store_row rfl 53 _ _ rfl gz rfl [.int .i64 25, .int .u64 0, .int .u64 0, .slice none 0 0, .bool false, .int .u64 0, .int .u64 0, .int .u64 0, .int .u64 d, .int .u64 0, .slice none 0 0, .int .u8 0, .int .u8 0, .int .u8 0, .int .u8 0, .int .u8 0, .int .u8 0, .int .u8 0, .int .u8 0] [.int .i64 0, .int .u64 0, .int .u64 0, .slice none 0 0, .bool false, .int .u64 0, .int .u64 0, .int .u64 0, .int .u64 0, .int .u64 0, .slice none 0 0, .int .u8 0, .int .u8 0, .int .u8 0, .int .u8 0, .int .u8 0, .int .u8 0, .int .u8 0, .int .u8 0] rfl 53 HZ9.out rfl rfl (one19 rfl rfl) ?_; intro w9 hz hg9; have HZ10 := Lib.hid hz; have HG9 := Lib.hid hg9; clear hz hg9) | fail)
        refine bodyPost_ret (results_cell2 rfl _ _ gz rfl [.int .i64 25, .int .u64 0, .int .u64 0, .slice none 0 0, .bool false, .int .u64 0, .int .u64 0, .int .u64 0, .int .u64 d, .int .u64 0, .slice none 0 0, .int .u8 0, .int .u8 0, .int .u8 0, .int .u8 0, .int .u8 0, .int .u8 0, .int .u8 0, .int .u8 0] _ _ HZ10.out Try.underlying53 rfl rfl) rfl ?_
        have ho10 : Off [p] w w9 := HO9.out.fresh HG9.out (by rw [HGZ.out]; exact Nat.le_refl _)
        have hr10 := grown_row HG9.out (row_ne HR9.out HZ9.out (by decide)) HR9.out
        have he10 := own_grown HE9.out HG9.out (fun g hg e => own_ne HE9.out HZ9.out (by decide) (hg.trans e))
        obtain ⟨_, _, e0, hc1, hc2⟩ := sl_own he10
        injection e0 with e0 e1 e2; subst e2
        have hw1 := HB.out.size
        obtain ⟨B9, h9, hu9, ht9⟩ := H.out.newr (l := l) (N' := N) ho10 (by rw [HN.out]; exact hr10) (by rw [HN.out]; exact RK.At.of_own he10 (fun y hy => HOKL.out y (List.mem_cons_of_mem _ hy))) (by rw [HN.out]; exact ⟨hc1, hc2⟩) (fun x hx => by subst hx; exact ⟨Nat.le_trans hw1 (own_base HE9.out _ rfl), own_ltS he10 rfl, own_addr he10⟩) ⟨Nat.le_refl _, by rw [HN.out]; omega⟩
        refine ⟨rfl, B9, h9, hu9, ?_⟩
        unfold nextS; rw [HDU.out]; exact ht9
      · skip
        have HS1 : Hid (u64K.At w (some ⟨rb, ro + 1, none⟩) n l) := Lib.hid (by have h9 := HSF.out; rw [if_neg hr1] at h9; exact h9)
        have HS2 := Lib.hid ((HS1.out.below HB.out).below HB3.out)
        clear HSF
        go_upto_region 5 with (first | (at_builtin; refine wpList_append_rk u64T rfl _ _ rfl w1.heap.size 0 (.slice (some ⟨w1.heap.size, 0, none⟩) 0 0) [] rfl HE.out (some ⟨rb, ro + 1, none⟩) n _ l rfl HS2.out (by omega) HB3.out.size ?_; intro v1 w3 hown hgrow _; obtain ⟨b3, c3, rfl, _⟩ := sl_own hown; simp only [Nat.zero_add] at hown ⊢; rw [List.nil_append] at hown; have HO3 := Lib.hid hown; replace HB3 := Lib.hid (HB3.out.grown hgrow HB3.out.size (own_base HE.out)); clear hown hgrow; have HR3 := Lib.hid (bl_row HB3.out (lt_of_block HROW.out) HROW.out); have HZ3 := Lib.hid (bl_row HB3.out (lt_of_block HZ.out) HZ.out); have f3 := row_free HR3.out 2; have hcell3 := cell_row HR3.out 2 _ (rtRow_2 ..)) | fail)
        try simp only [Act.put]
        clear hcell hcell2 hcell3 f3
        have hgs := grown_setCell w3 p 2 (.slice b3 n c3)
        have hrs := row_setL HR3.out 2 (.slice b3 n c3)
        rw [rtRow_set2] at hrs
        have hb13 : Below w.heap.size w w3 := bl_next HB.out HB.out.size HB3.out
        have ho9 : Off [p] w (w3.setCell ⟨p, 2, none⟩ (.slice b3 n c3)) := (Off.of_below (M := [p]) hb13).setCell (k := 2) (List.mem_singleton.2 rfl) _
        have hz9 := grown_row hgs (row_ne HZ3.out HR3.out (by decide)) HZ3.out
        have he9 := own_grown HO3.out hgs (fun g hg e => own_ne HO3.out HR3.out (by decide) (hg.trans e))
        have HO9 := Lib.hid ho9; have HR9 := Lib.hid hrs; have HZ9 := Lib.hid hz9; have HE9 := Lib.hid he9
        clear hgs hrs ho9 hz9 he9 hb13
        generalize w3.setCell ⟨p, 2, none⟩ (.slice b3 n c3) = w5 at HO9 HR9 HZ9 HE9 ⊢
        go_wp2_with (first | (refine wpList_store_row rfl 53 _ _ rfl gz rfl [.int .i64 25, .int .u64 0, .int .u64 0, .slice none 0 0, .bool false, .int .u64 0, .int .u64 0, .int .u64 0, .int .u64 d, .int .u64 0, .slice none 0 0, .int .u8 0, .int .u8 0, .int .u8 0, .int .u8 0, .int .u8 0, .int .u8 0, .int .u8 0, .int .u8 0] [.int .i64 0, .int .u64 0, .int .u64 0, .slice none 0 0, .bool false, .int .u64 0, .int .u64 0, .int .u64 0, .int .u64 0, .int .u64 0, .slice none 0 0, .int .u8 0, .int .u8 0, .int .u8 0, .int .u8 0, .int .u8 0, .int .u8 0, .int .u8 0, .int .u8 0] rfl 53 HZ9.out rfl rfl (one19 rfl rfl) ?_; intro w9 hz hg9; have HZ10 := Lib.hid hz; have HG9 := Lib.hid hg9; clear hz hg9) | fail)
        refine bodyPost_ret (results_cell2 rfl _ _ gz rfl [.int .i64 25, .int .u64 0, .int .u64 0, .slice none 0 0, .bool false, .int .u64 0, .int .u64 0, .int .u64 0, .int .u64 d, .int .u64 0, .slice none 0 0, .int .u8 0, .int .u8 0, .int .u8 0, .int .u8 0, .int .u8 0, .int .u8 0, .int .u8 0, .int .u8 0] _ _ HZ10.out Try.underlying53 rfl rfl) rfl ?_
        have ho10 : Off [p] w w9 := HO9.out.fresh HG9.out (by rw [HGZ.out]; exact Nat.le_refl _)
        have hr10 := grown_row HG9.out (row_ne HR9.out HZ9.out (by decide)) HR9.out
        have he10 := own_grown HE9.out HG9.out (fun g hg e => own_ne HE9.out HZ9.out (by decide) (hg.trans e))
        obtain ⟨_, _, e0, hc1, hc2⟩ := sl_own he10
        injection e0 with e0 e1 e2; subst e2
        have hw1 := HB.out.size
        obtain ⟨B9, h9, hu9, ht9⟩ := H.out.newr (l := l) (N' := N) ho10 (by rw [HN.out]; exact hr10) (by rw [HN.out]; exact RK.At.of_own he10 (fun y hy => HOKL.out y (List.mem_cons_of_mem _ hy))) (by rw [HN.out]; exact ⟨hc1, hc2⟩) (fun x hx => by subst hx; exact ⟨Nat.le_trans hw1 (own_base HE9.out _ rfl), own_ltS he10 rfl, own_addr he10⟩) ⟨Nat.le_refl _, by rw [HN.out]; omega⟩
        refine ⟨rfl, B9, h9, hu9, ?_⟩
        unfold nextS; rw [HDU.out]; exact ht9
end Go.Proofs.Ytjdcmhclamjcjaa
namespace Go.Proofs.Ytjdcmhclamjcjaa
open Go.RowKit
set_option linter.unusedVariables false
set_option linter.unusedSimpArgs false

set_option maxRecDepth 100000 in
set_option maxHeartbeats 8000000 in
theorem rlost20_any (w : World) (p : Nat) (B : List Nat) (N : Nat) (S : Th) (h : RH) (hr : RtAt w p B N S h) (f : Fr) (hf : f.Wf) (dv rv : Value) (hsrt : S.due.Pairwise (· < ·)) (hN : N < 90000) :
    Calls Try.prog 24 #[.pointer (some ⟨p, 0, none⟩), .agg (f.cells dv rv).toArray] w fun e w' => e = .returned (.tuple #[]) ∧ RtU w p B w' (N + 1) (lostM S f.kind f.se) := by
  have H := Lib.hid hr
  have HROW := Lib.hid hr.row; have HD := Lib.hid hr.s; have hln := hr.len.2.2.2; have HSR := Lib.hid hsrt
  have hse := hf.se; have hkd := hf.kind
  obtain ⟨f0, f5, f8⟩ := frc (f := f) (dv := dv) (rv := rv)
  obtain ⟨RF, hRF⟩ : ∃ R, f.cells dv rv = R := ⟨_, rfl⟩
  rw [hRF] at f0 f5 f8 ⊢
  have HF0 := Lib.hid f0; have HF8 := Lib.hid f8
  obtain ⟨k, hk⟩ : ∃ k, f.kind = k := ⟨_, rfl⟩
  obtain ⟨se, hs⟩ : ∃ k, f.se = k := ⟨_, rfl⟩
  rw [hk] at hkd HF0 ⊢; rw [hs] at hse HF8 ⊢
  obtain ⟨wa, hwa⟩ : ∃ a, h.wa = a := ⟨_, rfl⟩
  obtain ⟨wc, hwc⟩ : ∃ a, h.wc = a := ⟨_, rfl⟩
  rw [hwa] at HD HROW; rw [hwc] at HROW
  obtain ⟨n, hn⟩ : ∃ n, S.was.length = n := ⟨_, rfl⟩
  have HN := Lib.hid hn
  rw [hn] at HROW HD hln
  have HUS := Lib.hid hse
  clear hr hf f0 f5 f8 hk hs hRF hn hsrt hwa hwc hse
  go_enter Try.func24, Try.ntmps24
  go_upto_region 1 with fail
  change Code.wp _ _ _ _ (w.alloc (.cells RF.toArray 53))
  have HB := Lib.hid (Below.refl w.heap.size w)
  have hb := (Below.refl w.heap.size w).alloc (Nat.le_refl _) (.cells RF.toArray 53)
  replace HROW := Lib.hid (bl_row hb (lt_of_block HROW.out) HROW.out)
  replace HD := Lib.hid (HD.out.below hb)
  replace HB := Lib.hid (bl_next HB.out HB.out.size hb)
  have HF := Lib.hid (heap_alloc_new w (.cells RF.toArray 53))
  clear hb
  generalize w.alloc (.cells RF.toArray 53) = w1 at HROW HD HB HF ⊢
  obtain ⟨gf, hg⟩ : ∃ g, w.heap.size = g := ⟨_, rfl⟩
  rw [hg] at HF ⊢
  have HGF := Lib.hid hg
  clear hg
  go_wp2_with fail
  go_loopw [4] (fun s4 wr => ∃ (i : Nat), s4 = .int .i64 i ∧ i ≤ n ∧ Hid (Below w1.heap.size w1 wr) ∧ Hid (k = 25 → se ∉ S.was.take i)) (fun s4 _ => n - (intOf s4).toNat)
  case atStart => exact ⟨0, rfl, by omega, Lib.hid (Below.refl _ _), Lib.hid (by simp)⟩
  case round =>
    obtain ⟨i, rfl, hi, HBW, HA⟩ := hrel
    have hbw := HBW.out
    replace HROW := Lib.hid (bl_row hbw (lt_of_block HROW.out) HROW.out)
    replace HD := Lib.hid (HD.out.below hbw)
    replace HB := Lib.hid (bl_next HB.out HB.out.size hbw)
    replace HF := Lib.hid (bl_row hbw (lt_of_block HF.out) HF.out)
    have HQ := HBW
    clear HBW hbw
    have hcell := cell_row HROW.out 3 _ (rtRow_3 ..)
    by_cases hlt : i < n
    · skip
      obtain ⟨ab, ao, d, rfl, _, hx, hok, hrg⟩ := HD.out.at hlt
      have cd := u64_cell hrg
      have HX := Lib.hid hx; have HCD := Lib.hid cd; have hdu : 0 ≤ d ∧ d < 18446744073709551616 := hok
      clear hx hok hrg cd
      have HTS := Lib.hid (take_snd' HX.out)
      go_upto_region 4 with fail
      try simp only [Act.put]
      clear hcell
      by_cases hk : k = 25
      · skip
        have hke : (k == 25) = true := by simpa using hk
        by_cases heq : d = se
        · skip
          have hde : (d == se) = true := by simpa using heq
          have HEQ := Lib.hid heq
          clear heq
          have g0 : ∀ z : In (fun y => y.heap[p]? = some (.cells (rtRow (.slice h.la S.L.length h.lc) (.slice h.ca S.came.length h.cc) (.slice h.ra S.due.length h.rc) (.slice (some ⟨ab, ao, none⟩) n wc) S.now).toArray RTT (0, 0)) ∧ y.heap[gf]? = some (.cells RF.toArray 53 (0, 0)) ∧ y.cell? ⟨ab, ao + i, none⟩ = some (.int .u64 d)), z.w.cell? ⟨p, 3, none⟩ = some (.slice (some ⟨ab, ao, none⟩) n wc) := fun z => cell_row z.h.1 3 _ (rtRow_3 ..)
          have g1 : ∀ z : In (fun y => y.heap[p]? = some (.cells (rtRow (.slice h.la S.L.length h.lc) (.slice h.ca S.came.length h.cc) (.slice h.ra S.due.length h.rc) (.slice (some ⟨ab, ao, none⟩) n wc) S.now).toArray RTT (0, 0)) ∧ y.heap[gf]? = some (.cells RF.toArray 53 (0, 0)) ∧ y.cell? ⟨ab, ao + i, none⟩ = some (.int .u64 d)), z.w.cell? ⟨gf, 0, none⟩ = some (.int .i64 k) := fun z => cell_row z.h.2.1 0 _ HF0.out
          have g2 : ∀ z : In (fun y => y.heap[p]? = some (.cells (rtRow (.slice h.la S.L.length h.lc) (.slice h.ca S.came.length h.cc) (.slice h.ra S.due.length h.rc) (.slice (some ⟨ab, ao, none⟩) n wc) S.now).toArray RTT (0, 0)) ∧ y.heap[gf]? = some (.cells RF.toArray 53 (0, 0)) ∧ y.cell? ⟨ab, ao + i, none⟩ = some (.int .u64 d)), z.w.cell? ⟨gf, 8, none⟩ = some (.int .u64 se) := fun z => cell_row z.h.2.1 8 _ HF8.out
          have g3 : ∀ z : In (fun y => y.heap[p]? = some (.cells (rtRow (.slice h.la S.L.length h.lc) (.slice h.ca S.came.length h.cc) (.slice h.ra S.due.length h.rc) (.slice (some ⟨ab, ao, none⟩) n wc) S.now).toArray RTT (0, 0)) ∧ y.heap[gf]? = some (.cells RF.toArray 53 (0, 0)) ∧ y.cell? ⟨ab, ao + i, none⟩ = some (.int .u64 d)), z.w.cell? ⟨ab, ao + i, none⟩ = some (.int .u64 d) := fun z => z.h.2.2
          refine wp_plan (.t 0 (.t 1 (.t 2 (.t 3 (.t 4 (.t 5 (.t 6 (.t 7 (.t 8 (.t 9 (.t 10 (.t 11 (.t 12 (.t 13 (.t 14 .done))))))))))))))) (fun y => y.heap[p]? = some (.cells (rtRow (.slice h.la S.L.length h.lc) (.slice h.ca S.came.length h.cc) (.slice h.ra S.due.length h.rc) (.slice (some ⟨ab, ao, none⟩) n wc) S.now).toArray RTT (0, 0)) ∧ y.heap[gf]? = some (.cells RF.toArray 53 (0, 0)) ∧ y.cell? ⟨ab, ao + i, none⟩ = some (.int .u64 d)) (by kernel_rfl) (by kernel_rfl) (by kernel_rfl) (fun c a d v w h => by cases d <;> exact h) ⟨HROW.out, HF.out, HCD.out⟩ ?_
          haveI hne : Nonempty (In (fun y => y.heap[p]? = some (.cells (rtRow (.slice h.la S.L.length h.lc) (.slice h.ca S.came.length h.cc) (.slice h.ra S.due.length h.rc) (.slice (some ⟨ab, ao, none⟩) n wc) S.now).toArray RTT (0, 0)) ∧ y.heap[gf]? = some (.cells RF.toArray 53 (0, 0)) ∧ y.cell? ⟨ab, ao + i, none⟩ = some (.int .u64 d))) := ⟨⟨wr, ⟨HROW.out, HF.out, HCD.out⟩⟩⟩
          repeat (first | (refine plan_t (by rfl) ?_; (first | go_big_quiet_skip | (go_big_quiet_want; go_big_quiet_op; go_big_quiet_on)); refine wpQuiet_nil ?_))
          clear hne g0 g1 g2 g3
          show Exit.then _ _ _ _ _
          have hdr := (Below.refl wr.heap.size wr).drew
          replace HROW := Lib.hid (bl_row hdr (lt_of_block HROW.out) HROW.out)
          replace HD := Lib.hid (HD.out.below hdr)
          replace HB := Lib.hid (bl_next HB.out HB.out.size hdr)
          replace HF := Lib.hid (bl_row hdr (lt_of_block HF.out) HF.out)
          replace HQ := Lib.hid (bl_next HQ.out HQ.out.size hdr)
          clear hdr HCD
          generalize wr.drew = w5 at HROW HD HB HF HQ ⊢
          have c8 := cell_row HF.out 8 _ HF8.out
          have hrt := H.out.below ((bl_next HB.out HB.out.size (Below.refl _ _)))
          have HRT := Lib.hid hrt
          clear hrt
          go_wp2_with fail
          refine Calls.mono (rdue_any w5 p B N S h HRT.out se HUS.out HSR.out (by omega)) ?_
          rintro e w6 ⟨rfl, B6, h6, hu6, ht6⟩
          have hm : se ∈ S.was := by rw [← HEQ.out]; exact List.mem_of_getElem? HX.out
          have hl : lostM S k se = ⟨S.L, S.came, dueM S.due se, S.was, S.now⟩ := by unfold lostM; rw [if_pos ⟨hk, hm⟩]
          have HL9 : Hid (RtU w p B w6 (N + 1) (lostM S k se)) := Lib.hid (by rw [hl]; exact ⟨B6, h6, (UpdO.of_below HB.out).trans hu6, ht6⟩)
          clear hu6 ht6 hl c8
          go_wp2_with fail
          (try simp only [Exit.inBlock, Exit.then])
          refine bodyPost_ret (results_none rfl _ _ _) rfl ⟨rfl, HL9.out⟩
        · skip
          have hde : (d == se) = false := by simpa using heq
          have g0 : ∀ z : In (fun y => y.heap[p]? = some (.cells (rtRow (.slice h.la S.L.length h.lc) (.slice h.ca S.came.length h.cc) (.slice h.ra S.due.length h.rc) (.slice (some ⟨ab, ao, none⟩) n wc) S.now).toArray RTT (0, 0)) ∧ y.heap[gf]? = some (.cells RF.toArray 53 (0, 0)) ∧ y.cell? ⟨ab, ao + i, none⟩ = some (.int .u64 d)), z.w.cell? ⟨p, 3, none⟩ = some (.slice (some ⟨ab, ao, none⟩) n wc) := fun z => cell_row z.h.1 3 _ (rtRow_3 ..)
          have g1 : ∀ z : In (fun y => y.heap[p]? = some (.cells (rtRow (.slice h.la S.L.length h.lc) (.slice h.ca S.came.length h.cc) (.slice h.ra S.due.length h.rc) (.slice (some ⟨ab, ao, none⟩) n wc) S.now).toArray RTT (0, 0)) ∧ y.heap[gf]? = some (.cells RF.toArray 53 (0, 0)) ∧ y.cell? ⟨ab, ao + i, none⟩ = some (.int .u64 d)), z.w.cell? ⟨gf, 0, none⟩ = some (.int .i64 k) := fun z => cell_row z.h.2.1 0 _ HF0.out
          have g2 : ∀ z : In (fun y => y.heap[p]? = some (.cells (rtRow (.slice h.la S.L.length h.lc) (.slice h.ca S.came.length h.cc) (.slice h.ra S.due.length h.rc) (.slice (some ⟨ab, ao, none⟩) n wc) S.now).toArray RTT (0, 0)) ∧ y.heap[gf]? = some (.cells RF.toArray 53 (0, 0)) ∧ y.cell? ⟨ab, ao + i, none⟩ = some (.int .u64 d)), z.w.cell? ⟨gf, 8, none⟩ = some (.int .u64 se) := fun z => cell_row z.h.2.1 8 _ HF8.out
          have g3 : ∀ z : In (fun y => y.heap[p]? = some (.cells (rtRow (.slice h.la S.L.length h.lc) (.slice h.ca S.came.length h.cc) (.slice h.ra S.due.length h.rc) (.slice (some ⟨ab, ao, none⟩) n wc) S.now).toArray RTT (0, 0)) ∧ y.heap[gf]? = some (.cells RF.toArray 53 (0, 0)) ∧ y.cell? ⟨ab, ao + i, none⟩ = some (.int .u64 d)), z.w.cell? ⟨ab, ao + i, none⟩ = some (.int .u64 d) := fun z => z.h.2.2
          refine wp_plan (.t 0 (.t 1 (.t 2 (.t 3 (.t 4 (.t 5 (.t 6 (.t 7 (.t 8 (.t 9 (.t 10 (.t 11 (.t 12 (.t 13 (.t 14 .done))))))))))))))) (fun y => y.heap[p]? = some (.cells (rtRow (.slice h.la S.L.length h.lc) (.slice h.ca S.came.length h.cc) (.slice h.ra S.due.length h.rc) (.slice (some ⟨ab, ao, none⟩) n wc) S.now).toArray RTT (0, 0)) ∧ y.heap[gf]? = some (.cells RF.toArray 53 (0, 0)) ∧ y.cell? ⟨ab, ao + i, none⟩ = some (.int .u64 d)) (by kernel_rfl) (by kernel_rfl) (by kernel_rfl) (fun c a d v w h => by cases d <;> exact h) ⟨HROW.out, HF.out, HCD.out⟩ ?_
          haveI hne : Nonempty (In (fun y => y.heap[p]? = some (.cells (rtRow (.slice h.la S.L.length h.lc) (.slice h.ca S.came.length h.cc) (.slice h.ra S.due.length h.rc) (.slice (some ⟨ab, ao, none⟩) n wc) S.now).toArray RTT (0, 0)) ∧ y.heap[gf]? = some (.cells RF.toArray 53 (0, 0)) ∧ y.cell? ⟨ab, ao + i, none⟩ = some (.int .u64 d))) := ⟨⟨wr, ⟨HROW.out, HF.out, HCD.out⟩⟩⟩
          repeat (first | (refine plan_t (by rfl) ?_; (first | go_big_quiet_skip | (go_big_quiet_want; go_big_quiet_op; go_big_quiet_on)); refine wpQuiet_nil ?_))
          clear hne g0 g1 g2 g3
          show Exit.then _ _ _ _ _
          have hdr := (Below.refl wr.heap.size wr).drew
          replace HROW := Lib.hid (bl_row hdr (lt_of_block HROW.out) HROW.out)
          replace HD := Lib.hid (HD.out.below hdr)
          replace HB := Lib.hid (bl_next HB.out HB.out.size hdr)
          replace HF := Lib.hid (bl_row hdr (lt_of_block HF.out) HF.out)
          replace HQ := Lib.hid (bl_next HQ.out HQ.out.size hdr)
          clear hdr HCD
          generalize wr.drew = w5 at HROW HD HB HF HQ ⊢
          go_wp2_with fail
          go_roundw
          case rel => exact ⟨i + 1, by go_num, by omega, HQ, Lib.hid (fun e hm => by rw [HTS.out] at hm; rcases List.mem_append.1 hm with hm | hm; exact HA.out e hm; rw [List.mem_singleton] at hm; exact heq hm.symm)⟩
          case measure => simp [intOf]; omega
      · skip
        have hke : (k == 25) = false := by simpa using hk
        have g0 : ∀ z : In (fun y => y.heap[p]? = some (.cells (rtRow (.slice h.la S.L.length h.lc) (.slice h.ca S.came.length h.cc) (.slice h.ra S.due.length h.rc) (.slice (some ⟨ab, ao, none⟩) n wc) S.now).toArray RTT (0, 0)) ∧ y.heap[gf]? = some (.cells RF.toArray 53 (0, 0)) ∧ y.cell? ⟨ab, ao + i, none⟩ = some (.int .u64 d)), z.w.cell? ⟨p, 3, none⟩ = some (.slice (some ⟨ab, ao, none⟩) n wc) := fun z => cell_row z.h.1 3 _ (rtRow_3 ..)
        have g1 : ∀ z : In (fun y => y.heap[p]? = some (.cells (rtRow (.slice h.la S.L.length h.lc) (.slice h.ca S.came.length h.cc) (.slice h.ra S.due.length h.rc) (.slice (some ⟨ab, ao, none⟩) n wc) S.now).toArray RTT (0, 0)) ∧ y.heap[gf]? = some (.cells RF.toArray 53 (0, 0)) ∧ y.cell? ⟨ab, ao + i, none⟩ = some (.int .u64 d)), z.w.cell? ⟨gf, 0, none⟩ = some (.int .i64 k) := fun z => cell_row z.h.2.1 0 _ HF0.out
        have g2 : ∀ z : In (fun y => y.heap[p]? = some (.cells (rtRow (.slice h.la S.L.length h.lc) (.slice h.ca S.came.length h.cc) (.slice h.ra S.due.length h.rc) (.slice (some ⟨ab, ao, none⟩) n wc) S.now).toArray RTT (0, 0)) ∧ y.heap[gf]? = some (.cells RF.toArray 53 (0, 0)) ∧ y.cell? ⟨ab, ao + i, none⟩ = some (.int .u64 d)), z.w.cell? ⟨gf, 8, none⟩ = some (.int .u64 se) := fun z => cell_row z.h.2.1 8 _ HF8.out
        have g3 : ∀ z : In (fun y => y.heap[p]? = some (.cells (rtRow (.slice h.la S.L.length h.lc) (.slice h.ca S.came.length h.cc) (.slice h.ra S.due.length h.rc) (.slice (some ⟨ab, ao, none⟩) n wc) S.now).toArray RTT (0, 0)) ∧ y.heap[gf]? = some (.cells RF.toArray 53 (0, 0)) ∧ y.cell? ⟨ab, ao + i, none⟩ = some (.int .u64 d)), z.w.cell? ⟨ab, ao + i, none⟩ = some (.int .u64 d) := fun z => z.h.2.2
        refine wp_plan (.t 0 (.t 1 (.t 2 (.t 3 (.t 4 (.t 5 (.t 6 (.t 7 (.t 8 (.t 9 (.t 10 (.t 11 (.t 12 (.t 13 (.t 14 .done))))))))))))))) (fun y => y.heap[p]? = some (.cells (rtRow (.slice h.la S.L.length h.lc) (.slice h.ca S.came.length h.cc) (.slice h.ra S.due.length h.rc) (.slice (some ⟨ab, ao, none⟩) n wc) S.now).toArray RTT (0, 0)) ∧ y.heap[gf]? = some (.cells RF.toArray 53 (0, 0)) ∧ y.cell? ⟨ab, ao + i, none⟩ = some (.int .u64 d)) (by kernel_rfl) (by kernel_rfl) (by kernel_rfl) (fun c a d v w h => by cases d <;> exact h) ⟨HROW.out, HF.out, HCD.out⟩ ?_
        haveI hne : Nonempty (In (fun y => y.heap[p]? = some (.cells (rtRow (.slice h.la S.L.length h.lc) (.slice h.ca S.came.length h.cc) (.slice h.ra S.due.length h.rc) (.slice (some ⟨ab, ao, none⟩) n wc) S.now).toArray RTT (0, 0)) ∧ y.heap[gf]? = some (.cells RF.toArray 53 (0, 0)) ∧ y.cell? ⟨ab, ao + i, none⟩ = some (.int .u64 d))) := ⟨⟨wr, ⟨HROW.out, HF.out, HCD.out⟩⟩⟩
        repeat (first | (refine plan_t (by rfl) ?_; (first | go_big_quiet_skip | (go_big_quiet_want; go_big_quiet_op; go_big_quiet_on)); refine wpQuiet_nil ?_))
        clear hne g0 g1 g2 g3
        show Exit.then _ _ _ _ _
        have hdr := (Below.refl wr.heap.size wr).drew
        replace HROW := Lib.hid (bl_row hdr (lt_of_block HROW.out) HROW.out)
        replace HD := Lib.hid (HD.out.below hdr)
        replace HB := Lib.hid (bl_next HB.out HB.out.size hdr)
        replace HF := Lib.hid (bl_row hdr (lt_of_block HF.out) HF.out)
        replace HQ := Lib.hid (bl_next HQ.out HQ.out.size hdr)
        clear hdr HCD
        generalize wr.drew = w5 at HROW HD HB HF HQ ⊢
        go_wp2_with fail
        go_roundw
        case rel => exact ⟨i + 1, by go_num, by omega, HQ, Lib.hid (fun e hm => by rw [HTS.out] at hm; rcases List.mem_append.1 hm with hm | hm; exact HA.out e hm; rw [List.mem_singleton] at hm; exact hk e)⟩
        case measure => simp [intOf]; omega
    · obtain rfl : n = i := by omega
      have hl : lostM S k se = S := by
        unfold lostM; rw [if_neg]; rintro ⟨e1, e2⟩
        have h9 := HA.out e1; rw [List.take_of_length_le (by rw [HN.out]; exact Nat.le_refl _)] at h9; exact h9 e2
      have HL := Lib.hid hl
      clear hl
      go_wp2_with fail
      (try simp only [Exit.inBlock, Exit.then])
      refine bodyPost_end (results_none rfl _ _ _) rfl ?_
      rw [HL.out]
      exact ⟨rfl, B, h, UpdO.of_below HB.out, (H.out.below HB.out).mono⟩
end Go.Proofs.Ytjdcmhclamjcjaa
namespace Go.Proofs.Ytjdcmhclamjcjaa
open Go.RowKit
set_option linter.unusedVariables false
set_option linter.unusedSimpArgs false

def rturnM (S : Th) : Th × Bool := match S.L.find? (fun x => decide (S.now.1 < x.1)) with
  | none => (S, false)
  | some x => (retS ⟨S.L, S.came, S.due, S.was, x⟩ S.now.1, true)
theorem RtAt.newnow {w y : World} {p N : Nat} {B : List Nat} {S : Th} {h : RH} {x : Nm} (hr : RtAt w p B N S h) (ho : Off [p] w y) (hx : nmK.ok x)
    (hrow : y.heap[p]? = some (.cells (rtRow (.slice h.la S.L.length h.lc) (.slice h.ca S.came.length h.cc) (.slice h.ra S.due.length h.rc) (.slice h.wa S.was.length h.wc) x).toArray RTT (0, 0))) : RtAt y p B N ⟨S.L, S.came, S.due, S.was, x⟩ h :=
  ⟨hrow, hr.l_off ho, hr.c_off ho, hr.r_off ho, hr.s_off ho, hr.lc, hr.cc, hr.rc, hr.wc, hx, hr.pm, hr.ad, fun g hg => Nat.lt_of_lt_of_le (hr.lt g hg) ho.size, hr.len⟩
set_option maxRecDepth 100000 in
set_option maxHeartbeats 8000000 in
theorem rturn20_any (w : World) (p : Nat) (B : List Nat) (N : Nat) (S : Th) (h : RH) (hr : RtAt w p B N S h) (hsrt : S.due.Pairwise (· < ·)) (hN : N < 90000) :
    Calls Try.prog 19 #[.pointer (some ⟨p, 0, none⟩)] w fun e w' => e = .returned (.bool (rturnM S).2) ∧ RtU w p B w' (N + 2) (rturnM S).1 := by
  have H := Lib.hid hr
  have HROW := Lib.hid hr.row; have HD := Lib.hid hr.l; have hln := hr.len.1; have HSR := Lib.hid hsrt; have HNOW := Lib.hid hr.now
  obtain ⟨la, hla⟩ : ∃ a, h.la = a := ⟨_, rfl⟩
  obtain ⟨lc, hlc⟩ : ∃ a, h.lc = a := ⟨_, rfl⟩
  have HLA := Lib.hid hla; have HLC := Lib.hid hlc
  rw [hla] at HD HROW; rw [hlc] at HROW
  obtain ⟨n, hn⟩ : ∃ n, S.L.length = n := ⟨_, rfl⟩
  have HN := Lib.hid hn
  obtain ⟨L, hL⟩ : ∃ d, S.L = d := ⟨_, rfl⟩
  have HLE := Lib.hid hL
  rw [hn] at HROW HD hln
  rw [hL] at HD HN
  have hnu := hr.now.1
  have hl9 := nmK.len _ hr.now; have ho9 := nmK.one _ hr.now
  obtain ⟨R0, hR0⟩ : ∃ R, nmK.enc S.now = R := ⟨_, rfl⟩
  have HR0 := Lib.hid hR0
  rw [hR0] at hl9 ho9
  have HL0 : Hid (R0.length = 9) := Lib.hid hl9
  obtain ⟨q, hq⟩ : ∃ q, S.now.1 = q := ⟨_, rfl⟩
  have HQN := Lib.hid hq
  rw [hq] at hnu
  clear hr hn hL hsrt hla hlc hl9 ho9 hR0 hq
  go_enter Try.func19, Try.ntmps19
  go_wp2_with fail
  go_loopw [3] (fun s4 wr => ∃ (i : Nat), s4 = .int .i64 i ∧ i ≤ n ∧ Hid (Below w.heap.size w wr) ∧ Hid (∀ y ∈ L.take i, decide (q < y.1) = false)) (fun s4 _ => n - (intOf s4).toNat)
  case atStart => exact ⟨0, rfl, by omega, Lib.hid (Below.refl _ _), Lib.hid (by simp)⟩
  case round =>
    obtain ⟨i, rfl, hi, HB, HA⟩ := hrel
    have HRW := Lib.hid (bl_row HB.out (lt_of_block HROW.out) HROW.out)
    have hcell := cell_row HRW.out 0 _ (rtRow_0 ..)
    by_cases hlt : i < n
    · skip
      obtain ⟨ab, ao, x, rfl, _, hx, hok, hrg⟩ := (HD.out.below HB.out).at hlt
      have HX := Lib.hid hx; have HOK := Lib.hid hok; have HRG := Lib.hid hrg
      have hxu := hok.1
      clear hx hok hrg
      have hl9 := nmK.len x HOK.out; have ho9 := nmK.one x HOK.out
      obtain ⟨RX, hRX⟩ : ∃ R, nmK.enc x = R := ⟨_, rfl⟩
      have HRX := Lib.hid hRX
      rw [hRX] at hl9 ho9
      rw [hRX] at HRG
      have HL9 : Hid (RX.length = 9) := Lib.hid hl9; have HO9 := Lib.hid ho9
      clear hl9 ho9 hRX
      have hq0 : wr.cell? ⟨ab, ao + i * 9, none⟩ = some (.int .u64 x.1) := by have h9 := HRG.out 0 _ (nm_head HRX.out); rw [Nat.add_zero] at h9; exact h9
      have HTS := Lib.hid (take_snd' HX.out)
      obtain ⟨d, hd⟩ : ∃ d, x.1 = d := ⟨_, rfl⟩
      have HDX := Lib.hid hd
      rw [hd] at hq0 hxu
      have HQ0 := Lib.hid hq0
      clear hd hq0
      go_upto_region 4 with fail
      try simp only [Act.put]
      clear hcell
      have g0 : ∀ z : In (fun y => y.heap[p]? = some (.cells (rtRow (.slice (some ⟨ab, ao, none⟩) n lc) (.slice h.ca S.came.length h.cc) (.slice h.ra S.due.length h.rc) (.slice h.wa S.was.length h.wc) S.now).toArray RTT (0, 0)) ∧ y.cell? ⟨ab, ao + i * 9, none⟩ = some (.int .u64 d)), z.w.cell? ⟨p, 0, none⟩ = some (.slice (some ⟨ab, ao, none⟩) n lc) := fun z => cell_row z.h.1 0 _ (rtRow_0 ..)
      have g1 : ∀ z : In (fun y => y.heap[p]? = some (.cells (rtRow (.slice (some ⟨ab, ao, none⟩) n lc) (.slice h.ca S.came.length h.cc) (.slice h.ra S.due.length h.rc) (.slice h.wa S.was.length h.wc) S.now).toArray RTT (0, 0)) ∧ y.cell? ⟨ab, ao + i * 9, none⟩ = some (.int .u64 d)), z.w.cell? ⟨p, 4, none⟩ = some (.int .u64 q) := fun z => cell_row z.h.1 4 _ (by rw [← HQN.out]; exact rtRow_4 ..)
      have g3 : ∀ z : In (fun y => y.heap[p]? = some (.cells (rtRow (.slice (some ⟨ab, ao, none⟩) n lc) (.slice h.ca S.came.length h.cc) (.slice h.ra S.due.length h.rc) (.slice h.wa S.was.length h.wc) S.now).toArray RTT (0, 0)) ∧ y.cell? ⟨ab, ao + i * 9, none⟩ = some (.int .u64 d)), z.w.cell? ⟨ab, ao + i * 9, none⟩ = some (.int .u64 d) := fun z => z.h.2
      refine wp_plan (.t 0 (.t 1 (.t 2 (.t 3 (.t 4 (.t 5 (.t 6 (.t 7 (.t 8 (.t 9 (.t 10 (.t 11 (.t 12 (.t 13 .done)))))))))))))) (fun y => y.heap[p]? = some (.cells (rtRow (.slice (some ⟨ab, ao, none⟩) n lc) (.slice h.ca S.came.length h.cc) (.slice h.ra S.due.length h.rc) (.slice h.wa S.was.length h.wc) S.now).toArray RTT (0, 0)) ∧ y.cell? ⟨ab, ao + i * 9, none⟩ = some (.int .u64 d)) (by kernel_rfl) (by kernel_rfl) (by kernel_rfl) (fun c a d v w h => by cases d <;> exact h) ⟨HRW.out, HQ0.out⟩ ?_
      haveI hne : Nonempty (In (fun y => y.heap[p]? = some (.cells (rtRow (.slice (some ⟨ab, ao, none⟩) n lc) (.slice h.ca S.came.length h.cc) (.slice h.ra S.due.length h.rc) (.slice h.wa S.was.length h.wc) S.now).toArray RTT (0, 0)) ∧ y.cell? ⟨ab, ao + i * 9, none⟩ = some (.int .u64 d))) := ⟨⟨wr, ⟨HRW.out, HQ0.out⟩⟩⟩
      repeat (first | (refine plan_t (by rfl) ?_; (first | go_big_quiet_skip | (go_big_quiet_want; go_big_quiet_op; go_big_quiet_on)); refine wpQuiet_nil ?_))
      clear hne g0 g1 g3
      show Exit.then _ _ _ _ _
      have hdr := (Below.refl wr.heap.size wr).drew
      replace HRW := Lib.hid (bl_row hdr (lt_of_block HRW.out) HRW.out)
      replace HRG : Hid (wr.drew.rangeAt ab (ao + i * nmK.N) RX) := Lib.hid HRG.out
      replace HB := Lib.hid (bl_next HB.out HB.out.size hdr)
      clear hdr HQ0
      generalize wr.drew = w5 at HRW HRG HB ⊢
      by_cases hgt : q < d
      · skip
        have hgd : decide (q < d) = true := by simpa using hgt
        have hfind : S.L.find? (fun x => decide (S.now.1 < x.1)) = some x := by rw [HLE.out, HQN.out]; exact find_at HX.out HA.out (by rw [HDX.out]; simpa using hgt)
        have HFI := Lib.hid hfind
        clear hfind
        have hc4 : w5.cell? ⟨p, 4, none⟩ = some (.int .u64 q) := cell_row HRW.out 4 _ (by rw [← HQN.out]; exact rtRow_4 ..)
        have hcell := cell_row HRW.out 0 _ (rtRow_0 ..)
        have hrow : w5.heap[p]? = some (.cells ([.slice (some ⟨ab, ao, none⟩) n lc, .slice h.ca S.came.length h.cc, .slice h.ra S.due.length h.rc, .slice h.wa S.was.length h.wc] ++ (R0 ++ []) : List Value).toArray RTT (0, 0)) := by have h9 := HRW.out; unfold rtRow at h9; rw [HR0.out] at h9; rw [List.append_nil]; exact h9
        have HRP := Lib.hid hrow
        clear hrow
        go_upto_region 7 with (first | (refine wpList_load_mid rfl 75 _ rfl ab (ao + i * 9) rfl RX _ (HRG.out) Try.underlying75 rfl (by rw [HL9.out]; rfl) ?_) | (refine wpList_store_part rfl 75 _ _ rfl p 4 rfl RX RTT [.slice (some ⟨ab, ao, none⟩) n lc, .slice h.ca S.came.length h.cc, .slice h.ra S.due.length h.rc, .slice h.wa S.was.length h.wc] R0 [] rfl HRP.out rfl (by rw [HL0.out, HL9.out]) (by rw [HL9.out]; rfl) HO9.out ?_; intro w6 hr hg; have HR6 := Lib.hid hr; have HG6 := Lib.hid hg; clear hr hg) | fail)
        try simp only [Act.put]
        clear hc4 hcell
        have ho6 : Off [p] w5 w6 := Off.of_grown HG6.out (fun g hg => by injection hg with hg; subst hg; simp)
        have hrow6 : w6.heap[p]? = some (.cells (rtRow (.slice h.la S.L.length h.lc) (.slice h.ca S.came.length h.cc) (.slice h.ra S.due.length h.rc) (.slice h.wa S.was.length h.wc) x).toArray RTT (0, 0)) := by have h9 := HR6.out; rw [List.append_nil, ← HRX.out] at h9; unfold rtRow; rw [HLA.out, HLC.out, HLE.out, HN.out]; exact h9
        have hth := (H.out.below HB.out).newnow ho6 HOK.out hrow6
        have HT6 := Lib.hid hth
        have HU6 : Hid (UpdO B w w6 B) := Lib.hid ((UpdO.of_below HB.out).trans ⟨ho6.wide (fun y hy => by rw [List.mem_singleton.1 hy]; exact H.out.pm), fun g hg => .inl hg⟩)
        clear hth hrow6 ho6
        go_wp2_with fail
        refine Calls.mono (rret20_any w6 p B N _ h HT6.out q hnu HSR.out (by omega)) ?_
        rintro e w7 ⟨rfl, B7, h7, hu7, ht7⟩
        have ht : rturnM S = (retS ⟨S.L, S.came, S.due, S.was, x⟩ q, true) := by unfold rturnM; rw [HFI.out, HQN.out]
        have HT9 : Hid (RtU w p B w7 (N + 2) (rturnM S).1) := Lib.hid (by rw [ht]; exact ⟨B7, h7, HU6.out.trans hu7, ht7⟩)
        have HTB : Hid ((rturnM S).2 = true) := Lib.hid (by rw [ht])
        clear hu7 ht7 ht
        go_wp2_with fail
        (try simp only [Exit.inBlock, Exit.then])
        go_ret
        exact ⟨by rw [HTB.out]; rfl, HT9.out⟩
      · skip
        have hgd : decide (q < d) = false := by simpa using hgt
        go_wp2_with fail
        go_roundw
        case rel => exact ⟨i + 1, by go_num, by omega, HB, Lib.hid (fun y hy => by rw [HTS.out] at hy; rcases List.mem_append.1 hy with hm | hm; exact HA.out y hm; rw [List.mem_singleton.1 hm, HDX.out]; exact hgd)⟩
        case measure => simp [intOf]; omega
    · obtain rfl : n = i := by omega
      have hfind : S.L.find? (fun x => decide (S.now.1 < x.1)) = none := by rw [HLE.out, HQN.out, List.find?_eq_none]; intro y hy; have h9 := HA.out y (by rw [List.take_of_length_le (by rw [HN.out]; exact Nat.le_refl _)]; exact hy); rw [h9]; simp
      have ht : rturnM S = (S, false) := by unfold rturnM; rw [hfind]
      have HT := Lib.hid ht
      clear ht hfind
      go_wp2_with fail
      go_ret
      exact ⟨by rw [HT.out]; rfl, by rw [HT.out]; exact ⟨B, h, UpdO.of_below HB.out, (H.out.below HB.out).mono⟩⟩
end Go.Proofs.Ytjdcmhclamjcjaa
namespace Go.Proofs.Ytjdcmhclamjcjaa
open Go.RowKit
set_option linter.unusedVariables false
set_option linter.unusedSimpArgs false

def retF9 (M : List Nm) (T : Th) : Th := M.foldl (fun T y => retS T y.1) T
theorem retF9_eq : ∀ (M : List Nm) (T : Th), retF9 M T = ⟨T.L.filter (fun z => M.all fun y => decide (z.1 ≠ y.1)), T.came, M.foldl (fun d y => dueM d y.1) T.due, T.was ++ M.map Prod.fst, T.now⟩
  | [], T => by
    have : T.L.filter (fun z => ([] : List Nm).all fun y => decide (z.1 ≠ y.1)) = T.L := List.filter_eq_self.2 (fun z _ => rfl)
    unfold retF9; rw [this]; simp
  | y :: M, T => by
    have ih := retF9_eq M (retS T y.1)
    have e : retF9 (y :: M) T = retF9 M (retS T y.1) := rfl
    rw [e, ih]
    unfold retS
    simp only [List.filter_filter, List.all_cons, List.foldl_cons, List.map_cons, List.append_assoc, List.singleton_append]
    congr 1
    exact List.filter_congr (fun z _ => by rw [Bool.and_comm])
theorem srt_ne {L : List Nm} (h : L.Pairwise (fun x y => x.1 < y.1)) {x y : Nm} (hx : x ∈ L) (hy : y ∈ L) (e : x.1 = y.1) : x = y := by
  induction L with
  | nil => cases hx
  | cons z L ih =>
    obtain ⟨h1, h2⟩ := List.pairwise_cons.1 h
    rcases List.mem_cons.1 hx with rfl | hx
    · rcases List.mem_cons.1 hy with rfl | hy
      · rfl
      · have := h1 y hy; omega
    · rcases List.mem_cons.1 hy with e2 | hy
      · have := h1 x hx; rw [← e2, e] at this; omega
      · exact ih h2 hx hy
theorem filt_all {L : List Nm} (h : L.Pairwise (fun x y => x.1 < y.1)) (is : Nm → Bool) : L.filter (fun z => (L.filter is).all fun y => decide (z.1 ≠ y.1)) = L.filter (fun z => !is z) := by
  refine List.filter_congr (fun z hz => ?_)
  cases hi : is z with
  | true =>
    rw [Bool.not_true, List.all_eq_false]
    exact ⟨z, List.mem_filter.2 ⟨hz, hi⟩, by simp⟩
  | false =>
    rw [Bool.not_false, List.all_eq_true]
    intro y hy
    obtain ⟨hy, hi2⟩ := List.mem_filter.1 hy
    simp only [ne_eq, decide_not, Bool.not_eq_true', decide_eq_false_iff_not]
    intro e
    have := srt_ne h hz hy e
    rw [this, hi2] at hi; cases hi
/-- what the document does with those that go. -/
def rdropM (S : Th) (li : Int) : Th :=
  let T := retF9 (S.L.filter fun x => decide (x.1 < li)) S
  if S.now.1 < li ∧ 0 < T.L.length then ⟨T.L, T.came, T.due, T.was, T.L.headD S.now⟩ else T
theorem rdropM_eq {S : Th} {li : Int} (hs : S.L.Pairwise (fun x y => x.1 < y.1)) (hn : S.now ∈ S.L) (hd : ∀ y ∈ S.L, y.1 ∉ S.was) : rdropM S li = dropM S (fun x => decide (x.1 < li)) := by
  have hw : S.now.1 ∈ S.was ++ (S.L.filter fun x => decide (x.1 < li)).map Prod.fst ↔ S.now.1 < li := by
    rw [List.mem_append]
    constructor
    · rintro (h | h)
      · exact absurd h (hd _ hn)
      · obtain ⟨y, hy, e⟩ := List.mem_map.1 h
        obtain ⟨_, hy2⟩ := List.mem_filter.1 hy
        have : y.1 < li := by simpa using hy2
        rw [← e]; exact this
    · intro h; exact .inr (List.mem_map.2 ⟨S.now, List.mem_filter.2 ⟨hn, by simpa using h⟩, rfl⟩)
  unfold rdropM dropM
  simp only [retF9_eq, filt_all hs, hw]
  split <;> rfl
theorem filt_one {L : List Nm} (h : L.Pairwise (fun x y => x.1 < y.1)) {x : Nm} (hx : x ∈ L) : L.filter (fun y => decide (y = x)) = [x] := by
  induction L with
  | nil => cases hx
  | cons z L ih =>
    obtain ⟨h1, h2⟩ := List.pairwise_cons.1 h
    by_cases e : z = x
    · subst e
      rw [List.filter_cons_of_pos (by simp)]
      have : L.filter (fun y => decide (y = z)) = [] := List.filter_eq_nil_iff.2 (fun y hy => by simp; intro e; have := h1 y hy; rw [e] at this; omega)
      rw [this]
    · rw [List.filter_cons_of_neg (by simpa using e)]
      rcases List.mem_cons.1 hx with rfl | hx
      · exact absurd rfl e
      · exact ih h2 hx
theorem rturnM_eq {S : Th} (hs : S.L.Pairwise (fun x y => x.1 < y.1)) (hn : S.now ∈ S.L) (hd : ∀ y ∈ S.L, y.1 ∉ S.was) : rturnM S = turnM S := by
  unfold rturnM turnM
  cases hf : S.L.find? (fun x => decide (S.now.1 < x.1)) with
  | none => rfl
  | some x =>
    have hx := List.mem_of_find?_eq_some hf
    have hx2 := List.find?_some hf
    simp only [decide_eq_true_eq] at hx2
    simp only
    congr 1
    unfold retS dropM
    simp only [filt_one hs hn, List.foldl_cons, List.foldl_nil, List.map_cons, List.map_nil]
    have hw : ¬ (x.1 ∈ S.was ++ [S.now.1]) := by
      rw [List.mem_append, List.mem_singleton]
      rintro (h | h)
      · exact hd x hx h
      · omega
    have hfe : S.L.filter (fun z => decide (z.1 ≠ S.now.1)) = S.L.filter (fun z => !decide (z = S.now)) := by
      refine List.filter_congr (fun z hz => ?_)
      by_cases e : z = S.now
      · subst e; simp
      · have : z.1 ≠ S.now.1 := fun h => e (srt_ne hs hz hn h)
        simp [e, this]
    rw [hfe, if_neg (fun h => hw h.1)]
/-- what `dropM` keeps: those that go are not all, the present one may go. -/
theorem TI.drop {S : Th} (is : Nm → Bool) (ok : ∀ y ∈ S.came, nmK.ok y) (due : S.due.Pairwise (· < ·)) (srt : S.L.Pairwise (fun x y => x.1 < y.1)) (sub : ∀ y ∈ S.L, y ∈ S.came) (now : S.now ∈ S.L) (dis : ∀ y ∈ S.L, y.1 ∉ S.was)
    (n1 : S.came.Pairwise (fun x y => x.1 ≠ y.1)) (n2 : S.came.Pairwise (fun x y => x.2 ≠ y.2)) (len : S.L.length + S.was.length = S.came.length) (dw : ∀ s ∈ S.due, s ∈ S.was) (hne : ∃ y ∈ S.L, is y = false) : TI (dropM S is) := by
  have hpos : 0 < (S.L.filter fun x => !is x).length := by
    obtain ⟨y, hy, hi⟩ := hne
    exact List.length_pos_of_mem (List.mem_filter.2 ⟨hy, by rw [hi]; rfl⟩)
  have hlen : (S.L.filter fun x => !is x).length + (S.L.filter is).length = S.L.length := by
    have key : ∀ l : List Nm, (l.filter fun x => !is x).length + (l.filter is).length = l.length := by
      intro l
      induction l with
      | nil => rfl
      | cons z l ih => simp only [List.filter_cons]; cases is z <;> simp <;> omega
    exact key S.L
  refine ⟨ok, fold_sorted _ _ due, srt.filter _, fun y hy => sub y (List.mem_filter.1 hy).1, ?_, ?_, n1, n2, ?_, ?_⟩
  · show (if _ then _ else _) ∈ _
    split
    · rename_i h
      cases hl : S.L.filter (fun x => !is x) with
      | nil => rw [hl] at hpos; cases hpos
      | cons z l => show z ∈ S.L.filter (fun x => !is x); rw [hl]; exact List.mem_cons_self ..
    · rename_i h
      refine List.mem_filter.2 ⟨now, ?_⟩
      cases hi : is S.now with
      | false => rfl
      | true => exact absurd ⟨List.mem_append_right _ (List.mem_map.2 ⟨S.now, List.mem_filter.2 ⟨now, hi⟩, rfl⟩), hpos⟩ h
  · intro y hy
    obtain ⟨hy, hi⟩ := List.mem_filter.1 hy
    show y.1 ∉ S.was ++ _
    rw [List.mem_append]
    rintro (h | h)
    · exact dis y hy h
    · obtain ⟨z, hz, e⟩ := List.mem_map.1 h
      obtain ⟨hz, hi2⟩ := List.mem_filter.1 hz
      have := srt_ne srt hz hy e
      rw [this] at hi2; rw [hi2] at hi; cases hi
  · show (S.L.filter fun x => !is x).length + (S.was ++ (S.L.filter is).map Prod.fst).length = S.came.length
    rw [List.length_append, List.length_map]; omega
  · intro s hs
    show s ∈ S.was ++ (S.L.filter is).map Prod.fst
    have key : ∀ (M : List Nm) (d : List Int), s ∈ M.foldl (fun d x => dueM d x.1) d → s ∈ d ∨ s ∈ M.map Prod.fst := by
      intro M
      induction M with
      | nil => intro d h; exact .inl h
      | cons z M ih =>
        intro d h
        rcases ih _ h with h | h
        · rcases dueM_mem.1 h with h | h
          · exact .inr (by rw [h]; simp)
          · exact .inl h
        · exact .inr (by simp only [List.map_cons]; exact List.mem_cons_of_mem _ h)
    rcases key _ _ hs with h | h
    · exact List.mem_append_left _ (dw s h)
    · exact List.mem_append_right _ h
theorem TI.turn {S : Th} (h : TI S) : TI (turnM S).1 := by
  unfold turnM
  cases hf : S.L.find? (fun x => decide (S.now.1 < x.1)) with
  | none => exact h
  | some x =>
    have hx := List.mem_of_find?_eq_some hf
    have hx2 := List.find?_some hf
    simp only [decide_eq_true_eq] at hx2
    exact TI.drop (S := ⟨S.L, S.came, S.due, S.was, x⟩) _ h.ok h.due h.srt h.sub hx h.dis h.n1 h.n2 h.len h.dw ⟨x, hx, by simp; intro e; rw [e] at hx2; omega⟩
theorem TI.next {S : Th} (h : TI S) : TI (nextS S) :=
  ⟨h.ok, h.due.sublist (List.tail_sublist _), h.srt, h.sub, h.now, h.dis, h.n1, h.n2, h.len, fun s hs => h.dw s (List.mem_of_mem_tail hs)⟩
theorem TI.lost {S : Th} (h : TI S) (k s : Int) : TI (lostM S k s) := by
  unfold lostM; split
  · rename_i e
    exact ⟨h.ok, dueM_sorted h.due, h.srt, h.sub, h.now, h.dis, h.n1, h.n2, h.len, fun z hz => by rcases dueM_mem.1 hz with r | r; exact r ▸ e.2; exact h.dw z r⟩
  · exact h
theorem insM_sorted : ∀ {l : List Nm} {x : Nm}, l.Pairwise (fun x y => x.1 < y.1) → (∀ y ∈ l, y.1 ≠ x.1) → (insM l x).Pairwise (fun x y => x.1 < y.1)
  | [], x, _, _ => by simp [insM]
  | y :: l, x, h, hn => by
    obtain ⟨h1, h2⟩ := List.pairwise_cons.1 h
    have hy := hn y (List.mem_cons_self ..)
    simp only [insM]; split
    · rename_i hl
      refine List.pairwise_cons.2 ⟨fun z hz => ?_, insM_sorted h2 (fun z hz => hn z (List.mem_cons_of_mem _ hz))⟩
      rcases insM_mem.1 hz with rfl | hz
      · exact hl
      · exact h1 z hz
    · rename_i hl
      refine List.pairwise_cons.2 ⟨fun z hz => ?_, h⟩
      rcases List.mem_cons.1 hz with rfl | hz
      · omega
      · have := h1 z hz; omega
/-- names that went had come. -/
def TW (S : Th) : Prop := ∀ s ∈ S.was, ∃ y ∈ S.came, y.1 = s
theorem TW.drop {S : Th} (h : TW S) (sub : ∀ y ∈ S.L, y ∈ S.came) (is : Nm → Bool) : TW (dropM S is) := fun s hs => by
  rcases List.mem_append.1 (show s ∈ S.was ++ _ from hs) with hs | hs
  · exact h s hs
  · obtain ⟨y, hy, e⟩ := List.mem_map.1 hs
    exact ⟨y, sub y (List.mem_filter.1 hy).1, e⟩
theorem TW.turn {S : Th} (h : TW S) (ti : TI S) : TW (turnM S).1 := by
  unfold turnM
  cases hf : S.L.find? (fun x => decide (S.now.1 < x.1)) with
  | none => exact h
  | some x => exact TW.drop (S := ⟨S.L, S.came, S.due, S.was, x⟩) h ti.sub _
theorem TW.next {S : Th} (h : TW S) : TW (nextS S) := h
theorem TW.lost {S : Th} (h : TW S) (k s : Int) : TW (lostM S k s) := by unfold lostM; split <;> exact h
theorem TI.on {S : Th} (h : TI S) (hw : TW S) {k se li : Int} {c : List Int} (hc : nmK.ok (se, c)) : TI (onM S k se li c).1 ∧ TW (onM S k se li c).1 := by
  unfold onM
  split
  · exact ⟨h, hw⟩
  · rename_i hb
    split
    · exact ⟨h, hw⟩
    · rename_i hl
      split
      · exact ⟨h, hw⟩
      · rename_i hn
        have hn9 : lookN S.came se = none := by cases e : lookN S.came se with | none => rfl | some _ => rw [e] at hn; simp at hn
        have hs9 : lookS S.came c = none := by
          cases e : lookS S.came c with
          | none => rfl
          | some q =>
            have hq := lookS_some e
            have : q ≠ se := fun e2 => lookN_none hn9 _ hq e2
            exfalso; apply hb; unfold badB; rw [hn9, e]; simp [this]
        have hnl : ∀ y ∈ S.L, y.1 ≠ se := fun y hy => lookN_none hn9 y (h.sub y hy)
        have hsub : ∀ y ∈ insM S.L (se, c), y ∈ S.came ++ [(se, c)] := fun y hy => by
          rcases insM_mem.1 hy with rfl | hy
          · simp
          · exact List.mem_append_left _ (h.sub y hy)
        refine ⟨TI.drop (S := ⟨insM S.L (se, c), S.came ++ [(se, c)], S.due, S.was, S.now⟩) _ ?_ h.due (insM_sorted h.srt hnl) hsub (insM_mem.2 (.inr h.now)) ?_ ?_ ?_ ?_ h.dw ⟨(se, c), insM_mem.2 (.inl rfl), by simpa using hl⟩, TW.drop (S := ⟨insM S.L (se, c), S.came ++ [(se, c)], S.due, S.was, S.now⟩) ?_ hsub _⟩
        · intro y hy
          rcases List.mem_append.1 hy with hy | hy
          · exact h.ok y hy
          · rw [List.mem_singleton.1 hy]; exact hc
        · intro y hy
          rcases insM_mem.1 hy with rfl | hy
          · intro hm; obtain ⟨z, hz, e⟩ := hw _ hm; exact lookN_none hn9 z hz e
          · exact h.dis y hy
        · exact List.pairwise_append.2 ⟨h.n1, by simp, fun a ha b hb => by rw [List.mem_singleton.1 hb]; exact lookN_none hn9 a ha⟩
        · exact List.pairwise_append.2 ⟨h.n2, by simp, fun a ha b hb => by rw [List.mem_singleton.1 hb]; exact lookS_none hs9 a ha⟩
        · have := h.len; simp only [insM_len, List.length_append, List.length_singleton]; omega
        · intro s hs
          obtain ⟨y, hy, e⟩ := hw s hs
          exact ⟨y, List.mem_append_left _ hy, e⟩
end Go.Proofs.Ytjdcmhclamjcjaa
namespace Go.Proofs.Ytjdcmhclamjcjaa
open Go.RowKit
set_option linter.unusedVariables false
set_option linter.unusedSimpArgs false

theorem rof_mem (w : World) (A : Obj) (x : Nm) (hx : nmK.ok x) :
    Below w.heap.size w (((((w.alloc A).alloc (.cells (nmK.flat [x]).toArray 75)).alloc (.cells (nmK.flat [x]).toArray 75)).alloc (.cells (nmK.flat [x]).toArray 75)).alloc (.cells (rtRow (.slice (some ⟨w.heap.size + 1 + 1, 0, none⟩) 1 1) (.slice (some ⟨w.heap.size + 1 + 1 + 1, 0, none⟩) 1 1) (.slice none 0 0) (.slice none 0 0) x).toArray RTT)) ∧
    RtAt (((((w.alloc A).alloc (.cells (nmK.flat [x]).toArray 75)).alloc (.cells (nmK.flat [x]).toArray 75)).alloc (.cells (nmK.flat [x]).toArray 75)).alloc (.cells (rtRow (.slice (some ⟨w.heap.size + 1 + 1, 0, none⟩) 1 1) (.slice (some ⟨w.heap.size + 1 + 1 + 1, 0, none⟩) 1 1) (.slice none 0 0) (.slice none 0 0) x).toArray RTT)) (w.heap.size + 1 + 1 + 1 + 1) [w.heap.size + 1 + 1 + 1 + 1, w.heap.size + 1 + 1, w.heap.size + 1 + 1 + 1] 1 ⟨[x], [x], [], [], x⟩ ⟨some ⟨w.heap.size + 1 + 1, 0, none⟩, 1, some ⟨w.heap.size + 1 + 1 + 1, 0, none⟩, 1, none, 0, none, 0⟩ := by
  have h1 := (Below.refl w.heap.size w).alloc (Nat.le_refl _) A
  have s1 : (w.alloc A).heap.size = w.heap.size + 1 := by simp
  generalize w.alloc A = w1 at h1 s1 ⊢
  have h2 := h1.alloc h1.size (.cells (nmK.flat [x]).toArray 75)
  have s2 : (w1.alloc (.cells (nmK.flat [x]).toArray 75)).heap.size = w.heap.size + 1 + 1 := by simp [s1]
  generalize w1.alloc (.cells (nmK.flat [x]).toArray 75) = w2 at h2 s2 ⊢
  have h3 := h2.alloc h2.size (.cells (nmK.flat [x]).toArray 75)
  have r3 := heap_alloc_new w2 (.cells (nmK.flat [x]).toArray 75)
  have s3 : (w2.alloc (.cells (nmK.flat [x]).toArray 75)).heap.size = w.heap.size + 1 + 1 + 1 := by simp [s2]
  rw [s2] at r3
  generalize w2.alloc (.cells (nmK.flat [x]).toArray 75) = w3 at h3 s3 r3 ⊢
  have h4 := h3.alloc h3.size (.cells (nmK.flat [x]).toArray 75)
  have r4 := heap_alloc_new w3 (.cells (nmK.flat [x]).toArray 75)
  have r3' := bl_row ((Below.refl w3.heap.size w3).alloc (Nat.le_refl _) (.cells (nmK.flat [x]).toArray 75)) (lt_of_block r3) r3
  have s4 : (w3.alloc (.cells (nmK.flat [x]).toArray 75)).heap.size = w.heap.size + 1 + 1 + 1 + 1 := by simp [s3]
  rw [s3] at r4
  generalize w3.alloc (.cells (nmK.flat [x]).toArray 75) = w4 at h4 s4 r4 r3' ⊢
  have hok : ∀ y ∈ [x], nmK.ok y := fun y hy => by rw [List.mem_singleton.1 hy]; exact hx
  generalize hH : (Obj.cells (rtRow (.slice (some ⟨w.heap.size + 1 + 1, 0, none⟩) 1 1) (.slice (some ⟨w.heap.size + 1 + 1 + 1, 0, none⟩) 1 1) (.slice none 0 0) (.slice none 0 0) x).toArray RTT (0, 0)) = Hd
  have h5 := h4.alloc h4.size Hd
  have r5 := heap_alloc_new w4 Hd
  have b5 := (Below.refl w4.heap.size w4).alloc (Nat.le_refl _) Hd
  have r3'' := bl_row b5 (lt_of_block r3') r3'
  have r4' := bl_row b5 (lt_of_block r4) r4
  have s5 : (w4.alloc Hd).heap.size = w.heap.size + 1 + 1 + 1 + 1 + 1 := by simp [s4]
  rw [s4] at r5
  generalize w4.alloc Hd = w5 at h5 r5 r3'' r4' s5 ⊢
  refine ⟨h5, ⟨by rw [r5, ← hH]; rfl, RK.At.of_row r3'' hok, RK.At.of_row r4' hok, RK.At.nil _ _, RK.At.nil _ _, by simp, by simp, by simp, by simp, hx, by simp, ?_, ?_, by simp⟩⟩
  · intro y hy
    rcases hy with e | e | e | e
    · injection e with e; subst e; exact ⟨by simp, by simp only; omega, _, _, rfl⟩
    · injection e with e; subst e; exact ⟨by simp, by simp only; omega, _, _, rfl⟩
    · cases e
    · cases e
  · intro g hg; simp at hg; omega
set_option maxRecDepth 100000 in
set_option maxHeartbeats 8000000 in
theorem rof_any (w : World) (c : List Int) (hc : cidOk c) :
    Calls Try.prog 11 #[cidV c] w fun e w' => ∃ p B h, e = .returned (.pointer (some ⟨p, 0, none⟩)) ∧ Below w.heap.size w w' ∧ RtAt w' p B 1 ⟨[(0, c)], [(0, c)], [], [], (0, c)⟩ h ∧ ∀ g ∈ B, w.heap.size ≤ g := by
  obtain ⟨c0, c1, c2, c3, c4, c5, c6, c7, rfl⟩ := Kc.len8 hc.1
  have HC := Lib.hid hc
  clear hc
  simp only [cidV, List.map_cons, List.map_nil]
  go_enter Try.func11, Try.ntmps11
  go_wp2_with fail
  go_ret
  have hm := rof_mem w (.cells ([.int .u8 c0, .int .u8 c1, .int .u8 c2, .int .u8 c3, .int .u8 c4, .int .u8 c5, .int .u8 c6, .int .u8 c7] : List Value).toArray 38) (0, [c0, c1, c2, c3, c4, c5, c6, c7]) ⟨⟨Int.le_refl 0, (by decide : (0 : Int) < 18446744073709551616)⟩, HC.out⟩
  exact ⟨_, _, _, rfl, hm.1, hm.2, fun g hg => by simp at hg; omega⟩
end Go.Proofs.Ytjdcmhclamjcjaa
namespace Go.Proofs.Ytjdcmhclamjcjaa
open Go.RowKit
set_option linter.unusedVariables false
set_option linter.unusedSimpArgs false

set_option maxRecDepth 100000 in
set_option maxHeartbeats 4000000 in
theorem ron_came {x1 x2 x3 x4 x5 x6 x7 x8 x10 x11 x12 x13 x14 x15 x16 x17 x18 x19 x20 x21 x22 x23 x24 x25 x26 x27 x28 x29 x30 x31 x32 x33 x34 x35 x36 x37 x38 x39 x40 x41 x42 x43 x44 x45 x46 x47 x48 x49 x50 x51 x52 x53 x54 x55 x56 x57 x58 x59 x60 x61 x62 x63 x64 x65 x66 x67 x68 x69 x70 x71 x72 x73 x74 x75 x76 x77 x78 x79 x80 x81 x82 x83 x84 x85 x86 x87 x88 x89 x90 x91 x92 x93 x94 x95 x96 x97 x98 x99 x100 x101 x102 x103 x104 x105 x106 x107 x108 x109 x110 x111 x112 x113 x114 x115 x116 x117 x118 x119 x120 x121 x122 x123 x124 x125 x126 x127 x128 x129 x130 x131 x132 x133 x134 x135 x136 x137 x138 x139 x140 x141 x142 x143 x144 x145 x146 x147 x148 x149 x150 x151 x152 x153 x154 x155 x156 x157 x158 x159 x160 x161 x162 x163 x164 x165 x166 x167 x168 x169 x170 x171 x172 x173 x174 x175 : Value} {p gx N : Nat} {B : List Nat} {S : Th} {h : RH} {x : Nm} {RX : List Value} (w : World) {Q : Exit → Act → World → Prop}
    (hN : N < 90000) (HT : Hid (RtAt w p B N S h)) (HX : Hid (w.heap[gx]? = some (.cells RX.toArray 75 (0, 0)))) (HRX : Hid (nmK.enc x = RX)) (HXO : Hid (nmK.ok x))
    (hQp : ∀ c a d v w, Q (.panic c) (a.put d v) w → Q (.panic c) a w)
    (hQ : ∀ (y65 y66 y67 y68 y69 y70 y71 y72 y73 y74 y75 y76 : Value) (w' : World), Hid (RtU w p B w' (N + 1) ⟨S.L, S.came ++ [x], S.due, S.was, S.now⟩) → Hid (w'.heap[gx]? = some (.cells RX.toArray 75 (0, 0))) → Q .normal ⟨List.toArray (.pointer (some ⟨p, 0, none⟩) :: x1 :: x2 :: x3 :: x4 :: x5 :: x6 :: x7 :: x8 :: .pointer (some ⟨gx, 0, none⟩) :: x10 :: x11 :: x12 :: x13 :: x14 :: x15 :: x16 :: x17 :: x18 :: x19 :: x20 :: x21 :: x22 :: x23 :: x24 :: x25 :: x26 :: x27 :: x28 :: x29 :: x30 :: x31 :: x32 :: x33 :: x34 :: x35 :: x36 :: x37 :: x38 :: x39 :: x40 :: x41 :: x42 :: x43 :: x44 :: x45 :: x46 :: x47 :: x48 :: x49 :: x50 :: x51 :: x52 :: x53 :: x54 :: x55 :: x56 :: x57 :: x58 :: x59 :: x60 :: x61 :: x62 :: x63 :: x64 :: y65 :: y66 :: y67 :: y68 :: y69 :: y70 :: y71 :: y72 :: y73 :: y74 :: y75 :: y76 :: x77 :: x78 :: x79 :: x80 :: x81 :: x82 :: x83 :: x84 :: x85 :: x86 :: x87 :: x88 :: x89 :: x90 :: x91 :: x92 :: x93 :: x94 :: x95 :: x96 :: x97 :: x98 :: x99 :: x100 :: x101 :: x102 :: x103 :: x104 :: x105 :: x106 :: x107 :: x108 :: x109 :: x110 :: x111 :: x112 :: x113 :: x114 :: x115 :: x116 :: x117 :: x118 :: x119 :: x120 :: x121 :: x122 :: x123 :: x124 :: x125 :: x126 :: x127 :: x128 :: x129 :: x130 :: x131 :: x132 :: x133 :: x134 :: x135 :: x136 :: x137 :: x138 :: x139 :: x140 :: x141 :: x142 :: x143 :: x144 :: x145 :: x146 :: x147 :: x148 :: x149 :: x150 :: x151 :: x152 :: x153 :: x154 :: x155 :: x156 :: x157 :: x158 :: x159 :: x160 :: x161 :: x162 :: x163 :: x164 :: x165 :: x166 :: x167 :: x168 :: x169 :: x170 :: x171 :: x172 :: x173 :: x174 :: x175 :: []), []⟩ w') :
    Code.wp Try.prog (((Try.f17.body.bind (subRegion 16)).getD .skip)) Q ⟨List.toArray (.pointer (some ⟨p, 0, none⟩) :: x1 :: x2 :: x3 :: x4 :: x5 :: x6 :: x7 :: x8 :: .pointer (some ⟨gx, 0, none⟩) :: x10 :: x11 :: x12 :: x13 :: x14 :: x15 :: x16 :: x17 :: x18 :: x19 :: x20 :: x21 :: x22 :: x23 :: x24 :: x25 :: x26 :: x27 :: x28 :: x29 :: x30 :: x31 :: x32 :: x33 :: x34 :: x35 :: x36 :: x37 :: x38 :: x39 :: x40 :: x41 :: x42 :: x43 :: x44 :: x45 :: x46 :: x47 :: x48 :: x49 :: x50 :: x51 :: x52 :: x53 :: x54 :: x55 :: x56 :: x57 :: x58 :: x59 :: x60 :: x61 :: x62 :: x63 :: x64 :: x65 :: x66 :: x67 :: x68 :: x69 :: x70 :: x71 :: x72 :: x73 :: x74 :: x75 :: x76 :: x77 :: x78 :: x79 :: x80 :: x81 :: x82 :: x83 :: x84 :: x85 :: x86 :: x87 :: x88 :: x89 :: x90 :: x91 :: x92 :: x93 :: x94 :: x95 :: x96 :: x97 :: x98 :: x99 :: x100 :: x101 :: x102 :: x103 :: x104 :: x105 :: x106 :: x107 :: x108 :: x109 :: x110 :: x111 :: x112 :: x113 :: x114 :: x115 :: x116 :: x117 :: x118 :: x119 :: x120 :: x121 :: x122 :: x123 :: x124 :: x125 :: x126 :: x127 :: x128 :: x129 :: x130 :: x131 :: x132 :: x133 :: x134 :: x135 :: x136 :: x137 :: x138 :: x139 :: x140 :: x141 :: x142 :: x143 :: x144 :: x145 :: x146 :: x147 :: x148 :: x149 :: x150 :: x151 :: x152 :: x153 :: x154 :: x155 :: x156 :: x157 :: x158 :: x159 :: x160 :: x161 :: x162 :: x163 :: x164 :: x165 :: x166 :: x167 :: x168 :: x169 :: x170 :: x171 :: x172 :: x173 :: x174 :: x175 :: []), []⟩ w := by
  have HK := Lib.hid hQ; have HKP := Lib.hid hQp
  clear hQ hQp
  conv => arg 2; whnf
  have HROW := Lib.hid HT.out.row
  have HGX0 : Hid (gx < w.heap.size) := Lib.hid (lt_of_block HX.out)
  have HCM := Lib.hid HT.out.c
  have hln := HT.out.len.2.1
  have HO := Lib.hid (Off.refl [p] w)
  obtain ⟨ca, hca⟩ : ∃ a, h.ca = a := ⟨_, rfl⟩
  obtain ⟨cc, hcc⟩ : ∃ a, h.cc = a := ⟨_, rfl⟩
  have HCA := Lib.hid hca; have HCC := Lib.hid hcc
  rw [hca] at HROW HCM; rw [hcc] at HROW
  obtain ⟨n, hn⟩ : ∃ n, S.came.length = n := ⟨_, rfl⟩
  have HN := Lib.hid hn
  rw [hn] at HROW HCM hln
  clear hca hcc hn
  have hl9 := nmK.len x HXO.out; have ho9 := nmK.one x HXO.out
  rw [HRX.out] at hl9 ho9
  have HL9 : Hid (RX.length = 9) := Lib.hid hl9; have HO9 := Lib.hid ho9
  have HCK := Lib.hid HCM.out.2.1
  clear hl9 ho9
  have g0 : ∀ z : In (fun y => y.heap[p]? = some (.cells (rtRow (.slice h.la S.L.length h.lc) (.slice ca n cc) (.slice h.ra S.due.length h.rc) (.slice h.wa S.was.length h.wc) S.now).toArray RTT (0, 0)) ∧ y.heap[gx]? = some (.cells RX.toArray 75 (0, 0))), z.w.cell? ⟨p, 1, none⟩ = some (.slice ca n cc) := fun z => cell_row z.h.1 1 _ (rtRow_1 ..)
  refine wp_plan2 10 (.t 0 (.t 2 (.t 3 (.t 4 (.t 5 (.t 7 (.b 1 (.b 6 (.u 8 (.u 9 .done)) 8 (.u 6 (.u 9 .done))) 8 (.u 1 (.u 6 (.u 9 .done)))))))))) (.t 10 (.t 11 (.u 12 .done))) (fun y => y.heap[p]? = some (.cells (rtRow (.slice h.la S.L.length h.lc) (.slice ca n cc) (.slice h.ra S.due.length h.rc) (.slice h.wa S.was.length h.wc) S.now).toArray RTT (0, 0)) ∧ y.heap[gx]? = some (.cells RX.toArray 75 (0, 0))) (by kernel_rfl) (by kernel_rfl) (by kernel_rfl) (fun c a d v w h => by first | (cases d <;> exact h) | exact HKP.out c a d v w h) ⟨HROW.out, HX.out⟩ ?_
  have hb := (Below.refl w.heap.size w).drew
  replace HO := Lib.hid (HO.out.next hb)
  replace HROW := Lib.hid (bl_row hb (lt_of_block HROW.out) HROW.out)
  replace HX := Lib.hid (bl_row hb (lt_of_block HX.out) HX.out)
  replace HCM := Lib.hid (HCM.out.below hb)
  clear hb
  generalize w.drew = w1 at HROW HX HCM HO ⊢
  haveI hne : Nonempty (In (fun y => y.heap[p]? = some (.cells (rtRow (.slice h.la S.L.length h.lc) (.slice ca n cc) (.slice h.ra S.due.length h.rc) (.slice h.wa S.was.length h.wc) S.now).toArray RTT (0, 0)) ∧ y.heap[gx]? = some (.cells RX.toArray 75 (0, 0)))) := ⟨⟨w1, ⟨HROW.out, HX.out⟩⟩⟩
  repeat (first | (refine plan_t_load (by rfl) (by kernel_rfl) 75 _ rfl gx 0 rfl RX _ (fun y hy => rngL hy.2) Try.underlying75 rfl (by rw [HL9.out]; rfl) ?_; simp only [Act.put, List.setIfInBounds_toArray, List.set_cons_succ, List.set_cons_zero]) | (refine plan_t (by rfl) ?_; (first | go_big_quiet_skip | (go_big_quiet_want; go_big_quiet_op; go_big_quiet_on)); refine wpQuiet_nil ?_))
  clear g0
  have HGXL : Hid (gx < w.heap.size) := HGX0
  refine plan_b ?_ ?_
  · refine plan_half (by rfl) (by kernel_rfl) ?_
    intro K hK
    go_wp2_with fail
    have hal := (Below.refl w1.heap.size w1).alloc (Nat.le_refl _) (.cells #[] 75)
    have hee : (w1.alloc (.cells #[] 75)).ownsRow 0 75 nmK.N (.slice (some ⟨w1.heap.size, 0, none⟩) 0 0) 0 (nmK.flat []) := ⟨rfl, .inr ⟨_, 0, #[], rfl, Nat.zero_le _, heap_alloc_new w1 (.cells #[] 75), Nat.le_refl _, by unfold maxLen; omega, rfl, rfl⟩⟩
    have HGE : Hid (w.heap.size ≤ w1.heap.size) := Lib.hid HO.out.size
    replace HO := Lib.hid (HO.out.next hal)
    replace HROW := Lib.hid (bl_row hal (lt_of_block HROW.out) HROW.out)
    replace HX := Lib.hid (bl_row hal (lt_of_block HX.out) HX.out)
    replace HCM := Lib.hid (HCM.out.below hal)
    have HE := Lib.hid hee
    refine ⟨⟨HROW.out, HX.out⟩, ?_⟩
    clear hal hee
    (try change Plan.wp _ _ _ _ _ _ (w1.alloc (.cells #[] 75)))
    generalize w1.alloc (.cells #[] 75) = w2 at HROW HX HCM HO HE ⊢
    obtain ⟨ge, hge⟩ : ∃ g, w1.heap.size = g := ⟨_, rfl⟩
    rw [hge] at HE HGE ⊢
    clear hge
    refine plan_b ?_ ?_
    · refine plan_half (by rfl) (by kernel_rfl) ?_
      intro K hK
      refine wp_append_rk rnmT _ _ rfl 0 0 (.slice (some ⟨ge, 0, none⟩) 0 0) [] rfl HE.out _ n _ S.came rfl HCM.out (by omega) (Nat.zero_le _) ?_
      intro v' w3 ho2 hg2 hor
      replace HROW := Lib.hid (grown_row hg2 (fun e => own_ne HE.out HROW.out (by decide) e.symm) HROW.out)
      replace HX := Lib.hid (grown_row hg2 (fun e => by injection e with e; have e3 : gx = ge := e; have := HGXL.out; have := HGE.out; omega) HX.out)
      have hgz : w.heap.size ≤ w2.heap.size := HO.out.size
      replace HO := Lib.hid (HO.out.fresh hg2 HGE.out)
      obtain ⟨ab2, ac2, rfl, _⟩ := sl_own ho2
      simp only [Nat.zero_add] at ho2 hor hK ⊢
      rw [List.nil_append] at ho2
      replace HE := Lib.hid ho2
      have HAB : Hid (∀ x, ab2 = some x → w.heap.size ≤ x.block ∧ (x.block = ge ∨ x.block = w2.heap.size)) := Lib.hid (fun x hx => by subst hx; rcases hor with e | e <;> (have e2 : some x.block = some _ := e; injection e2 with e2; rw [e2]); exact ⟨HGE.out, .inl rfl⟩; exact ⟨hgz, .inr rfl⟩)
      clear ho2 hor hg2 hgz HCM
      refine hK _ _ ⟨⟨HROW.out, HX.out⟩, ?_⟩
      clear hK K
      simp only [Act.put, List.setIfInBounds_toArray, List.set_cons_succ, List.set_cons_zero]
      refine plan_us (by rfl) (by kernel_rfl) ?_
      intro K hK
      refine wp_build_rk rnmT _ rfl x HXO.out (by show Value.agg _ = _; rw [HRX.out]) ?_
      have hal := (Below.refl w3.heap.size w3).alloc (Nat.le_refl _) (.cells (nmK.flat [x]).toArray 75)
      replace HO := Lib.hid (HO.out.next hal)
      replace HROW := Lib.hid (bl_row hal (lt_of_block HROW.out) HROW.out)
      replace HX := Lib.hid (bl_row hal (lt_of_block HX.out) HX.out)
      replace HE := Lib.hid (own_below HE.out hal)
      have HLT := Lib.hid (RK.At.of_row (K := nmK) (t := 75) (l := [x]) (heap_alloc_new w3 _) (fun y hy => by rw [List.mem_singleton.1 hy]; exact HXO.out))
      refine hK _ _ ⟨⟨HROW.out, HX.out⟩, ?_⟩
      clear hal hK K
      simp only [Act.put, List.setIfInBounds_toArray, List.set_cons_succ, List.set_cons_zero]
      generalize w3.alloc (.cells (nmK.flat [x]).toArray 75) = w4 at HROW HX HE HO HLT ⊢
      obtain ⟨gs, hgs⟩ : ∃ g, w3.heap.size = g := ⟨_, rfl⟩
      rw [hgs] at HLT ⊢
      clear hgs
      refine plan_us (by rfl) (by kernel_rfl) ?_
      intro K hK
      refine wp_append_rk rnmT _ _ rfl 0 n (.slice ab2 n ac2) S.came rfl HE.out _ 1 1 [x] rfl HLT.out (by omega) (Nat.zero_le _) ?_
      intro v' w5 ho2 hg2 hor
      have hgz : w.heap.size ≤ w4.heap.size := HO.out.size
      replace HROW := Lib.hid (grown_row hg2 (fun e => own_ne HE.out HROW.out (by decide) e.symm) HROW.out)
      replace HX := Lib.hid (grown_row hg2 (fun e => by cases ab2 with | none => cases e | some y => have e2 : some gx = some y.block := e; injection e2 with e2; have := HGXL.out; have := (HAB.out y rfl).1; omega) HX.out)
      replace HO := Lib.hid (HO.out.freshS hg2 (fun x hx => (HAB.out x hx).1))
      obtain ⟨ab3, ac3, rfl, _⟩ := sl_own ho2
      replace HE := Lib.hid ho2
      have HAC : Hid (∀ x, ab3 = some x → w.heap.size ≤ x.block) := Lib.hid (fun x hx => by subst hx; rcases hor with e | e; (cases ab2 with | none => cases e | some y => have e2 : some x.block = some y.block := e; injection e2 with e2; rw [e2]; exact (HAB.out y rfl).1); (have e2 : some x.block = some _ := e; injection e2 with e2; rw [e2]; exact hgz))
      clear ho2 hor hg2 hgz HLT HAB
      refine hK _ _ ⟨⟨HROW.out, HX.out⟩, ?_⟩
      clear hK K
      simp only [Act.put, List.setIfInBounds_toArray, List.set_cons_succ, List.set_cons_zero]
      clear hne
      refine ⟨fun _ => True, trivial, ?_⟩
      haveI hne : Nonempty (In (fun _ => True)) := ⟨⟨w5, trivial⟩⟩
      repeat (first | (refine plan_t (by rfl) ?_; (first | go_big_quiet_skip | (go_big_quiet_want; go_big_quiet_op; go_big_quiet_on)); refine wpQuiet_nil ?_))
      refine plan_us (by rfl) (by kernel_rfl) ?_
      intro K hK
      have hcell := cell_row HROW.out 1 _ (rtRow_1 ..)
      have f0 := row_free HROW.out 1
      go_wp2_with fail
      clear hcell f0
      have hgs := grown_setCell w5 p 1 (.slice ab3 (n + 1) ac3)
      have hrs := row_setL HROW.out 1 (.slice ab3 (n + 1) ac3)
      rw [rtRow_set1] at hrs
      have ho9 := HO.out.setCell (k := 1) (List.mem_singleton.2 rfl) (.slice ab3 (n + 1) ac3)
      have he9 := own_grown HE.out hgs (fun g hg e => own_ne HE.out HROW.out (by decide) (hg.trans e))
      have hx9 := grown_row hgs (row_ne HX.out HROW.out (by decide)) HX.out
      have HE9 := Lib.hid he9; have HO9 := Lib.hid ho9; have HR9 := Lib.hid hrs; have HX9 := Lib.hid hx9
      clear hgs hrs ho9 he9 hx9
      generalize w5.setCell ⟨p, 1, none⟩ (.slice ab3 (n + 1) ac3) = w99 at HE9 HO9 HR9 HX9 ⊢
      try refine ⟨trivial, ?_⟩
      clear hne
      simp only [Plan.wp]
      have hle : (S.came ++ [x]).length = n + 1 := by simp [HN.out]
      have hokl : ∀ y ∈ S.came ++ [x], nmK.ok y := fun y hy => by rcases List.mem_append.1 hy with hy | hy; exact HCK.out y hy; rw [List.mem_singleton.1 hy]; exact HXO.out
      obtain ⟨_, _, e0, hc1, hc2⟩ := sl_own HE9.out
      injection e0 with e0 e1 e2; subst e2
      have hnew : RtU w p B w99 (N + 1) ⟨S.L, S.came ++ [x], S.due, S.was, S.now⟩ := HT.out.newc HO9.out (by rw [hle]; exact HR9.out) (by rw [hle]; exact RK.At.of_own HE9.out hokl) (by rw [hle]; exact ⟨hc1, hc2⟩) (fun y hy => ⟨HAC.out y hy, by subst hy; exact own_ltS HE9.out rfl, by subst hy; exact own_addr HE9.out⟩) ⟨by omega, by rw [hle]; omega⟩
      show Q _ _ _
      exact HK.out _ _ _ _ _ _ _ _ _ _ _ _ w99 (Lib.hid hnew) HX9
    · refine plan_half (by rfl) (by kernel_rfl) ?_
      intro K hK
      have HNS : Hid (w2.heap.size ≠ ge) := Lib.hid (Nat.ne_of_gt (own_lt HE.out rfl))
      refine wp_build_rk rnmT _ rfl x HXO.out (by show Value.agg _ = _; rw [HRX.out]) ?_
      have hal := (Below.refl w2.heap.size w2).alloc (Nat.le_refl _) (.cells (nmK.flat [x]).toArray 75)
      replace HO := Lib.hid (HO.out.next hal)
      replace HROW := Lib.hid (bl_row hal (lt_of_block HROW.out) HROW.out)
      replace HX := Lib.hid (bl_row hal (lt_of_block HX.out) HX.out)
      replace HCM := Lib.hid (HCM.out.below hal)
      replace HE := Lib.hid (own_below HE.out hal)
      have HLT := Lib.hid (RK.At.of_row (K := nmK) (t := 75) (l := [x]) (heap_alloc_new w2 _) (fun y hy => by rw [List.mem_singleton.1 hy]; exact HXO.out))
      refine hK _ _ ⟨⟨HROW.out, HX.out⟩, ?_⟩
      clear hal hK K
      simp only [Act.put, List.setIfInBounds_toArray, List.set_cons_succ, List.set_cons_zero]
      generalize w2.alloc (.cells (nmK.flat [x]).toArray 75) = w6 at HROW HX HCM HE HO HLT ⊢
      obtain ⟨gs, hgs⟩ : ∃ g, w2.heap.size = g := ⟨_, rfl⟩
      rw [hgs] at HLT HNS ⊢
      clear hgs
      refine plan_us (by rfl) (by kernel_rfl) ?_
      intro K hK
      refine wp_append_rk rnmT _ _ rfl 0 0 (.slice (some ⟨ge, 0, none⟩) 0 0) [] rfl HE.out _ n _ S.came rfl HCM.out (by omega) (Nat.zero_le _) ?_
      intro v' w7 ho2 hg2 hor
      replace HROW := Lib.hid (grown_row hg2 (fun e => own_ne HE.out HROW.out (by decide) e.symm) HROW.out)
      replace HX := Lib.hid (grown_row hg2 (fun e => by injection e with e; have e3 : gx = ge := e; have := HGXL.out; have := HGE.out; omega) HX.out)
      have hgz : w.heap.size ≤ w6.heap.size := HO.out.size
      replace HO := Lib.hid (HO.out.fresh hg2 HGE.out)
      replace HLT := Lib.hid (HLT.out.grown hg2 (fun x hx e => by injection hx with hx; subst hx; injection e with e; exact HNS.out e))
      obtain ⟨ab2, ac2, rfl, _⟩ := sl_own ho2
      simp only [Nat.zero_add] at ho2 hor hK ⊢
      rw [List.nil_append] at ho2
      replace HE := Lib.hid ho2
      have HAB : Hid (∀ x, ab2 = some x → w.heap.size ≤ x.block ∧ (x.block = ge ∨ x.block = w6.heap.size)) := Lib.hid (fun x hx => by subst hx; rcases hor with e | e <;> (have e2 : some x.block = some _ := e; injection e2 with e2; rw [e2]); exact ⟨HGE.out, .inl rfl⟩; exact ⟨hgz, .inr rfl⟩)
      clear ho2 hor hg2 hgz HCM
      refine hK _ _ ⟨⟨HROW.out, HX.out⟩, ?_⟩
      clear hK K
      simp only [Act.put, List.setIfInBounds_toArray, List.set_cons_succ, List.set_cons_zero]
      refine plan_us (by rfl) (by kernel_rfl) ?_
      intro K hK
      refine wp_append_rk rnmT _ _ rfl 0 n (.slice ab2 n ac2) S.came rfl HE.out _ 1 1 [x] rfl HLT.out (by omega) (Nat.zero_le _) ?_
      intro v' w8 ho2 hg2 hor
      have hgz : w.heap.size ≤ w7.heap.size := HO.out.size
      replace HROW := Lib.hid (grown_row hg2 (fun e => own_ne HE.out HROW.out (by decide) e.symm) HROW.out)
      replace HX := Lib.hid (grown_row hg2 (fun e => by cases ab2 with | none => cases e | some y => have e2 : some gx = some y.block := e; injection e2 with e2; have := HGXL.out; have := (HAB.out y rfl).1; omega) HX.out)
      replace HO := Lib.hid (HO.out.freshS hg2 (fun x hx => (HAB.out x hx).1))
      obtain ⟨ab3, ac3, rfl, _⟩ := sl_own ho2
      replace HE := Lib.hid ho2
      have HAC : Hid (∀ x, ab3 = some x → w.heap.size ≤ x.block) := Lib.hid (fun x hx => by subst hx; rcases hor with e | e; (cases ab2 with | none => cases e | some y => have e2 : some x.block = some y.block := e; injection e2 with e2; rw [e2]; exact (HAB.out y rfl).1); (have e2 : some x.block = some _ := e; injection e2 with e2; rw [e2]; exact hgz))
      clear ho2 hor hg2 hgz HLT HAB
      refine hK _ _ ⟨⟨HROW.out, HX.out⟩, ?_⟩
      clear hK K
      simp only [Act.put, List.setIfInBounds_toArray, List.set_cons_succ, List.set_cons_zero]
      clear hne
      refine ⟨fun _ => True, trivial, ?_⟩
      haveI hne : Nonempty (In (fun _ => True)) := ⟨⟨w8, trivial⟩⟩
      repeat (first | (refine plan_t (by rfl) ?_; (first | go_big_quiet_skip | (go_big_quiet_want; go_big_quiet_op; go_big_quiet_on)); refine wpQuiet_nil ?_))
      refine plan_us (by rfl) (by kernel_rfl) ?_
      intro K hK
      have hcell := cell_row HROW.out 1 _ (rtRow_1 ..)
      have f0 := row_free HROW.out 1
      go_wp2_with fail
      clear hcell f0
      have hgs := grown_setCell w8 p 1 (.slice ab3 (n + 1) ac3)
      have hrs := row_setL HROW.out 1 (.slice ab3 (n + 1) ac3)
      rw [rtRow_set1] at hrs
      have ho9 := HO.out.setCell (k := 1) (List.mem_singleton.2 rfl) (.slice ab3 (n + 1) ac3)
      have he9 := own_grown HE.out hgs (fun g hg e => own_ne HE.out HROW.out (by decide) (hg.trans e))
      have hx9 := grown_row hgs (row_ne HX.out HROW.out (by decide)) HX.out
      have HE9 := Lib.hid he9; have HO9 := Lib.hid ho9; have HR9 := Lib.hid hrs; have HX9 := Lib.hid hx9
      clear hgs hrs ho9 he9 hx9
      generalize w8.setCell ⟨p, 1, none⟩ (.slice ab3 (n + 1) ac3) = w99 at HE9 HO9 HR9 HX9 ⊢
      try refine ⟨trivial, ?_⟩
      clear hne
      simp only [Plan.wp]
      have hle : (S.came ++ [x]).length = n + 1 := by simp [HN.out]
      have hokl : ∀ y ∈ S.came ++ [x], nmK.ok y := fun y hy => by rcases List.mem_append.1 hy with hy | hy; exact HCK.out y hy; rw [List.mem_singleton.1 hy]; exact HXO.out
      obtain ⟨_, _, e0, hc1, hc2⟩ := sl_own HE9.out
      injection e0 with e0 e1 e2; subst e2
      have hnew : RtU w p B w99 (N + 1) ⟨S.L, S.came ++ [x], S.due, S.was, S.now⟩ := HT.out.newc HO9.out (by rw [hle]; exact HR9.out) (by rw [hle]; exact RK.At.of_own HE9.out hokl) (by rw [hle]; exact ⟨hc1, hc2⟩) (fun y hy => ⟨HAC.out y hy, by subst hy; exact own_ltS HE9.out rfl, by subst hy; exact own_addr HE9.out⟩) ⟨by omega, by rw [hle]; omega⟩
      show Q _ _ _
      exact HK.out _ _ _ _ _ _ _ _ _ _ _ _ w99 (Lib.hid hnew) HX9
  · refine plan_half (by rfl) (by kernel_rfl) ?_
    intro K hK
    refine wp_build_rk rnmT _ rfl x HXO.out (by show Value.agg _ = _; rw [HRX.out]) ?_
    have hal := (Below.refl w1.heap.size w1).alloc (Nat.le_refl _) (.cells (nmK.flat [x]).toArray 75)
    replace HO := Lib.hid (HO.out.next hal)
    replace HROW := Lib.hid (bl_row hal (lt_of_block HROW.out) HROW.out)
    replace HX := Lib.hid (bl_row hal (lt_of_block HX.out) HX.out)
    replace HCM := Lib.hid (HCM.out.below hal)
    have HLT := Lib.hid (RK.At.of_row (K := nmK) (t := 75) (l := [x]) (heap_alloc_new w1 _) (fun y hy => by rw [List.mem_singleton.1 hy]; exact HXO.out))
    refine hK _ _ ⟨⟨HROW.out, HX.out⟩, ?_⟩
    clear hal hK K
    simp only [Act.put, List.setIfInBounds_toArray, List.set_cons_succ, List.set_cons_zero]
    generalize w1.alloc (.cells (nmK.flat [x]).toArray 75) = w9 at HROW HX HCM HO HLT ⊢
    obtain ⟨gs, hgs⟩ : ∃ g, w1.heap.size = g := ⟨_, rfl⟩
    rw [hgs] at HLT ⊢
    clear hgs
    have HSL := HLT
    refine plan_us (by rfl) (by kernel_rfl) ?_
    intro K hK
    go_wp2_with fail
    have hal := (Below.refl w9.heap.size w9).alloc (Nat.le_refl _) (.cells #[] 75)
    have hee : (w9.alloc (.cells #[] 75)).ownsRow 0 75 nmK.N (.slice (some ⟨w9.heap.size, 0, none⟩) 0 0) 0 (nmK.flat []) := ⟨rfl, .inr ⟨_, 0, #[], rfl, Nat.zero_le _, heap_alloc_new w9 (.cells #[] 75), Nat.le_refl _, by unfold maxLen; omega, rfl, rfl⟩⟩
    have HGE : Hid (w.heap.size ≤ w9.heap.size) := Lib.hid HO.out.size
    replace HO := Lib.hid (HO.out.next hal)
    replace HROW := Lib.hid (bl_row hal (lt_of_block HROW.out) HROW.out)
    replace HX := Lib.hid (bl_row hal (lt_of_block HX.out) HX.out)
    replace HCM := Lib.hid (HCM.out.below hal)
    replace HLT := Lib.hid (HLT.out.below hal)
    have HE := Lib.hid hee
    refine ⟨⟨HROW.out, HX.out⟩, ?_⟩
    clear hal hee
    (try change Plan.wp _ _ _ _ _ _ (w9.alloc (.cells #[] 75)))
    generalize w9.alloc (.cells #[] 75) = w10 at HROW HX HCM HLT HO HE ⊢
    have HNS : Hid (gs ≠ w9.heap.size) := Lib.hid (Nat.ne_of_lt (HSL.out.lt _ rfl Nat.one_ne_zero))
    clear HSL
    obtain ⟨ge, hge⟩ : ∃ g, w9.heap.size = g := ⟨_, rfl⟩
    rw [hge] at HE HGE HNS ⊢
    clear hge
    refine plan_us (by rfl) (by kernel_rfl) ?_
    intro K hK
    refine wp_append_rk rnmT _ _ rfl 0 0 (.slice (some ⟨ge, 0, none⟩) 0 0) [] rfl HE.out _ n _ S.came rfl HCM.out (by omega) (Nat.zero_le _) ?_
    intro v' w11 ho2 hg2 hor
    replace HROW := Lib.hid (grown_row hg2 (fun e => own_ne HE.out HROW.out (by decide) e.symm) HROW.out)
    replace HX := Lib.hid (grown_row hg2 (fun e => by injection e with e; have e3 : gx = ge := e; have := HGXL.out; have := HGE.out; omega) HX.out)
    have hgz : w.heap.size ≤ w10.heap.size := HO.out.size
    replace HO := Lib.hid (HO.out.fresh hg2 HGE.out)
    replace HLT := Lib.hid (HLT.out.grown hg2 (fun x hx e => by injection hx with hx; subst hx; injection e with e; exact HNS.out e))
    obtain ⟨ab2, ac2, rfl, _⟩ := sl_own ho2
    simp only [Nat.zero_add] at ho2 hor hK ⊢
    rw [List.nil_append] at ho2
    replace HE := Lib.hid ho2
    have HAB : Hid (∀ x, ab2 = some x → w.heap.size ≤ x.block ∧ (x.block = ge ∨ x.block = w10.heap.size)) := Lib.hid (fun x hx => by subst hx; rcases hor with e | e <;> (have e2 : some x.block = some _ := e; injection e2 with e2; rw [e2]); exact ⟨HGE.out, .inl rfl⟩; exact ⟨hgz, .inr rfl⟩)
    clear ho2 hor hg2 hgz HCM
    refine hK _ _ ⟨⟨HROW.out, HX.out⟩, ?_⟩
    clear hK K
    simp only [Act.put, List.setIfInBounds_toArray, List.set_cons_succ, List.set_cons_zero]
    refine plan_us (by rfl) (by kernel_rfl) ?_
    intro K hK
    refine wp_append_rk rnmT _ _ rfl 0 n (.slice ab2 n ac2) S.came rfl HE.out _ 1 1 [x] rfl HLT.out (by omega) (Nat.zero_le _) ?_
    intro v' w12 ho2 hg2 hor
    have hgz : w.heap.size ≤ w11.heap.size := HO.out.size
    replace HROW := Lib.hid (grown_row hg2 (fun e => own_ne HE.out HROW.out (by decide) e.symm) HROW.out)
    replace HX := Lib.hid (grown_row hg2 (fun e => by cases ab2 with | none => cases e | some y => have e2 : some gx = some y.block := e; injection e2 with e2; have := HGXL.out; have := (HAB.out y rfl).1; omega) HX.out)
    replace HO := Lib.hid (HO.out.freshS hg2 (fun x hx => (HAB.out x hx).1))
    obtain ⟨ab3, ac3, rfl, _⟩ := sl_own ho2
    replace HE := Lib.hid ho2
    have HAC : Hid (∀ x, ab3 = some x → w.heap.size ≤ x.block) := Lib.hid (fun x hx => by subst hx; rcases hor with e | e; (cases ab2 with | none => cases e | some y => have e2 : some x.block = some y.block := e; injection e2 with e2; rw [e2]; exact (HAB.out y rfl).1); (have e2 : some x.block = some _ := e; injection e2 with e2; rw [e2]; exact hgz))
    clear ho2 hor hg2 hgz HLT HAB
    refine hK _ _ ⟨⟨HROW.out, HX.out⟩, ?_⟩
    clear hK K
    simp only [Act.put, List.setIfInBounds_toArray, List.set_cons_succ, List.set_cons_zero]
    clear hne
    refine ⟨fun _ => True, trivial, ?_⟩
    haveI hne : Nonempty (In (fun _ => True)) := ⟨⟨w12, trivial⟩⟩
    repeat (first | (refine plan_t (by rfl) ?_; (first | go_big_quiet_skip | (go_big_quiet_want; go_big_quiet_op; go_big_quiet_on)); refine wpQuiet_nil ?_))
    refine plan_us (by rfl) (by kernel_rfl) ?_
    intro K hK
    have hcell := cell_row HROW.out 1 _ (rtRow_1 ..)
    have f0 := row_free HROW.out 1
    go_wp2_with fail
    clear hcell f0
    have hgs := grown_setCell w12 p 1 (.slice ab3 (n + 1) ac3)
    have hrs := row_setL HROW.out 1 (.slice ab3 (n + 1) ac3)
    rw [rtRow_set1] at hrs
    have ho9 := HO.out.setCell (k := 1) (List.mem_singleton.2 rfl) (.slice ab3 (n + 1) ac3)
    have he9 := own_grown HE.out hgs (fun g hg e => own_ne HE.out HROW.out (by decide) (hg.trans e))
    have hx9 := grown_row hgs (row_ne HX.out HROW.out (by decide)) HX.out
    have HE9 := Lib.hid he9; have HO9 := Lib.hid ho9; have HR9 := Lib.hid hrs; have HX9 := Lib.hid hx9
    clear hgs hrs ho9 he9 hx9
    generalize w12.setCell ⟨p, 1, none⟩ (.slice ab3 (n + 1) ac3) = w99 at HE9 HO9 HR9 HX9 ⊢
    try refine ⟨trivial, ?_⟩
    clear hne
    simp only [Plan.wp]
    have hle : (S.came ++ [x]).length = n + 1 := by simp [HN.out]
    have hokl : ∀ y ∈ S.came ++ [x], nmK.ok y := fun y hy => by rcases List.mem_append.1 hy with hy | hy; exact HCK.out y hy; rw [List.mem_singleton.1 hy]; exact HXO.out
    obtain ⟨_, _, e0, hc1, hc2⟩ := sl_own HE9.out
    injection e0 with e0 e1 e2; subst e2
    have hnew : RtU w p B w99 (N + 1) ⟨S.L, S.came ++ [x], S.due, S.was, S.now⟩ := HT.out.newc HO9.out (by rw [hle]; exact HR9.out) (by rw [hle]; exact RK.At.of_own HE9.out hokl) (by rw [hle]; exact ⟨hc1, hc2⟩) (fun y hy => ⟨HAC.out y hy, by subst hy; exact own_ltS HE9.out rfl, by subst hy; exact own_addr HE9.out⟩) ⟨by omega, by rw [hle]; omega⟩
    show Q _ _ _
    exact HK.out _ _ _ _ _ _ _ _ _ _ _ _ w99 (Lib.hid hnew) HX9
end Go.Proofs.Ytjdcmhclamjcjaa
