/- texts of the proof, laid together: Cid13, Cid14, Cid15, Cid16, Cid17, Cid18, Cid19, Cid20. -/
import Derived.Test.YtjdcmhclamjcjaaV4
namespace Go.Proofs.Ytjdcmhclamjcjaa
open Go.RowKit
set_option linter.unusedVariables false
set_option linter.unusedSimpArgs false

open Go.Maps (Keyed)
set_option maxRecDepth 100000 in
set_option maxHeartbeats 16000000 in
theorem drop_turn (w : World) (p : Nat) (B : List Nat) (N : Nat) (S : Th) (la ra : Option Addr) (lc rc bn bs bg : Nat) (h : ThAt w p B N S la ra lc rc bn bs bg) (is : Nm → Bool) (cap : Nat) (o : Obj) (hcap : w.heap[cap]? = some o) (hcb : cap ∉ B)
    (HF : ∀ (W : World) (x : Nm), W.heap[cap]? = some o → nmK.ok x → Calls Try.prog 40 #[.agg (nmK.enc x).toArray, .pointer (some ⟨cap, 0, none⟩)] W fun e W' => e = .returned (.bool (is x)) ∧ Below W.heap.size W W')
    (hsrt : S.due.Pairwise (· < ·)) (hN : N + S.L.length < 100000) :
    Calls Try.prog 37 #[.pointer (some ⟨p, 0, none⟩), .func (.func 40) #[] #[.pointer (some ⟨cap, 0, none⟩)]] w fun e w' => e = .returned (.tuple #[]) ∧ ThU w p B bn bs bg w' (N + S.L.length) (dropM S is) := by
  have H := Lib.hid h
  have HFH := Lib.hid HF; have HCAP := Lib.hid hcap; have HCB := Lib.hid hcb; have HSR := Lib.hid hsrt; have HNOW := Lib.hid h.now
  have HROW := Lib.hid h.row; have HD := Lib.hid h.l; have HLC := Lib.hid h.lc
  have HT0 := Lib.hid h
  obtain ⟨n, hn⟩ : ∃ n, S.L.length = n := ⟨_, rfl⟩
  have HN := Lib.hid hn
  obtain ⟨L, hL⟩ : ∃ d, S.L = d := ⟨_, rfl⟩
  have HLE := Lib.hid hL
  rw [hn] at HROW HD HLC hN ⊢
  rw [hL] at HD HN
  have HLO := Lib.hid HD.out.2.1
  have hcl := lt_of_block hcap
  have HST : Hid (ThAt w p B (N + 0) ⟨S.L, S.came, ((L.take 0).filter is).foldl (fun d x => dueM d x.1) S.due, S.was ++ ((L.take 0).filter is).map Prod.fst, S.now⟩ la ra lc rc bn bs bg) := Lib.hid (by simp only [List.take_zero, List.filter_nil, List.foldl_nil, List.map_nil, List.append_nil]; exact h)
  clear h hn hL hcap hcb hsrt HF
  go_enter Try.func37, Try.ntmps37
  have c0 := cell_row HROW.out 0 _ (thRow_l ..)
  go_wp2_with fail
  clear c0 HROW
  have HU0 : Hid (UpdO B w w B) := Lib.hid (UpdO.refl B w)
  have HO0 : Hid (w.ownsRow 0 65 nmK.N (.slice none 0 0) 0 (nmK.flat ((L.take 0).filter fun x => !is x))) := Lib.hid ⟨rfl, .inl ⟨rfl, rfl⟩⟩
  go_loopw [4, 12] (fun s4 s12 wr => ∃ (i k cl N2 rc2 : Nat) (al ra2 : Option Addr) (B2 : List Nat), s4 = .slice al k cl ∧ s12 = .int .i64 i ∧ i ≤ n ∧ k ≤ i ∧ N2 ≤ N + i ∧ Hid (UpdO B w wr B2) ∧ Hid (ThAt wr p B2 N2 ⟨S.L, S.came, ((L.take i).filter is).foldl (fun d x => dueM d x.1) S.due, S.was ++ ((L.take i).filter is).map Prod.fst, S.now⟩ la ra2 lc rc2 bn bs bg) ∧ Hid (wr.ownsRow 0 65 nmK.N (.slice al k cl) k (nmK.flat ((L.take i).filter fun x => !is x))) ∧ Hid (∀ x, al = some x → w.heap.size ≤ x.block ∧ x.block ∉ B2)) (fun _ s _ => n - (intOf s).toNat)
  case atStart => exact ⟨0, 0, 0, N, rc, none, ra, B, rfl, rfl, by omega, by omega, by omega, HU0, HST, HO0, Lib.hid (fun x hx => by cases hx)⟩
  case round =>
    clear HU0 HST HO0
    obtain ⟨i, k, cl, N2, rc2, al, ra2, B2, rfl, rfl, hi, hk, hN2, HU, HST, HO, HAL⟩ := hrel
    by_cases hlt : i < n
    · skip
      have hla : nmK.At wr la n L := by have h9 := HST.out.l; simp only at h9; rwa [HLE.out, HN.out] at h9
      obtain ⟨ab, ao, x, rfl, _, hx, hok, hrg⟩ := hla.at hlt
      have HX := Lib.hid hx; have HOK := Lib.hid hok; have HRG := Lib.hid hrg
      have hxu := hok.1
      clear hx hok hrg hla
      have hl9 := nmK.len x HOK.out; have ho9 := nmK.one x HOK.out
      have HFX := Lib.hid (fun W hW => HFH.out W x hW HOK.out)
      obtain ⟨RX, hRX⟩ : ∃ R, nmK.enc x = R := ⟨_, rfl⟩
      have HRX := Lib.hid hRX
      rw [hRX] at hl9 ho9 HFX
      rw [hRX] at HRG
      have HL9 : Hid (RX.length = 9) := Lib.hid hl9; have HO9 := Lib.hid ho9
      clear hl9 ho9 hRX
      go_upto_region 4 with (first | (refine wpList_load_mid rfl 65 _ rfl ab (ao + i * 9) rfl RX _ (HRG.out) Try.underlying65 rfl (by rw [HL9.out]; rfl) ?_) | (refine wpList_store_row rfl 65 _ _ rfl wr.heap.size rfl RX [.int .u64 0, .int .u8 0, .int .u8 0, .int .u8 0, .int .u8 0, .int .u8 0, .int .u8 0, .int .u8 0, .int .u8 0] rfl 65 (heap_alloc_new _ _) (by rw [HL9.out]; rfl) (by rw [HL9.out]; rfl) HO9.out ?_; intro w5 hr5 hg5) | fail)
      have hb5 := below_boxed hg5
      have HX5 := Lib.hid hr5
      have HNB : Hid (wr.heap.size ∉ B2) := Lib.hid (fun hm => by have := HST.out.lt _ hm; omega)
      have HNA : Hid (∀ x, al = some x → x.block ≠ wr.heap.size) := Lib.hid (fun x hx => by subst hx; have := own_ltS HO.out rfl; omega)
      have HCW : Hid (w5.heap[cap]? = some o) := Lib.hid ((hb5.block cap (Nat.lt_of_lt_of_le hcl HU.out.off.size)).trans ((HU.out.off.block cap hcl HCB.out).trans HCAP.out))
      replace HU := Lib.hid (HU.out.next hb5); replace HST := Lib.hid (HST.out.below hb5); replace HO := Lib.hid (own_below HO.out hb5)
      clear hb5 hg5 hr5
      obtain ⟨gx, hgx⟩ : ∃ g, wr.heap.size = g := ⟨_, rfl⟩
      rw [hgx] at HX5 HNB HNA ⊢
      clear hgx
      try simp only [Act.put]
      go_wp2_with (first | (refine wpList_load_mid rfl 65 _ rfl gx (0) rfl RX _ (rngL HX5.out) Try.underlying65 rfl (by rw [HL9.out]; rfl) ?_) | fail)
      refine Calls.mono (HFX.out _ HCW.out) ?_
      rintro e w6 ⟨rfl, hb6⟩
      replace HX5 := Lib.hid (bl_row hb6 (lt_of_block HX5.out) HX5.out); replace HU := Lib.hid (HU.out.next hb6); replace HST := Lib.hid (HST.out.below hb6); replace HO := Lib.hid (own_below HO.out hb6)
      clear hb6 HCW HFX
      cases his : is x
      · skip
        have HIS := Lib.hid his
        clear his
        go_wp2_with (first | (refine wpList_load_mid rfl 65 _ rfl gx (0) rfl RX _ (rngL HX5.out) Try.underlying65 rfl (by rw [HL9.out]; rfl) ?_) | (refine wpList_build_rk nmT rfl _ rfl x HOK.out (by show Value.agg _ = _; rw [HRX.out]) ?_) | (at_builtin; refine wpList_append_rk nmT rfl _ _ rfl 0 k (.slice al k cl) ((L.take i).filter fun x => !is x) rfl (own_below HO.out ((Below.refl _ _).alloc (Nat.le_refl _) _)) _ 1 1 [x] rfl (RK.At.of_row (K := nmK) (t := 65) (l := [x]) (heap_alloc_new _ _) (fun y hy => by rw [List.mem_singleton.1 hy]; exact HOK.out)) (by omega) (Nat.zero_le _) ?_; intro v' w' hown hgrow hor; obtain ⟨b2, c2, rfl, _⟩ := sl_own hown; have HO6 := Lib.hid hown; have HG6 := Lib.hid hgrow; have HOR := Lib.hid hor; clear hown hgrow hor) | fail)
        have hal := (Below.refl w6.heap.size w6).alloc (Nat.le_refl _) (.cells (nmK.flat [x]).toArray 65)
        have hu7 := HU.out.next hal
        have hs7 := HST.out.below hal
        have HS8 := Lib.hid (hs7.grownS HG6.out (fun x hx => (HAL.out x hx).2))
        have HU8 := Lib.hid (UpdO.grownF hu7 HG6.out (fun x hx => (HAL.out x hx).1))
        have hsz : w.heap.size ≤ w6.heap.size := HU.out.off.size
        have HAL2 : Hid (∀ x, b2 = some x → w.heap.size ≤ x.block ∧ x.block ∉ B2) := Lib.hid (fun z hz => by subst hz; rcases HOR.out with e | e; (cases al with | none => cases e | some y => have e2 : some z.block = some y.block := e; injection e2 with e2; rw [e2]; exact HAL.out y rfl); (have e2 : some z.block = some _ := e; injection e2 with e2; rw [e2]; exact ⟨Nat.le_trans hsz (hal.size), fun hm => by have := hs7.lt _ hm; omega⟩))
        clear hal hu7 hs7 hsz HO HU HST
        have hft := filter_take HX.out (fun x => !is x)
        rw [HIS.out] at hft
        have hft2 := filter_take HX.out is
        rw [HIS.out] at hft2
        simp only [Bool.not_false, if_true, Bool.false_eq_true, if_false, List.append_nil] at hft hft2
        go_roundw
        case rel => exact ⟨i + 1, k + 1, c2, N2, rc2, b2, ra2, B2, rfl, by go_num, by omega, by omega, by omega, HU8, Lib.hid (by rw [hft2]; exact HS8.out), Lib.hid (by rw [hft]; exact HO6.out), HAL2⟩
        case measure => simp [intOf]; omega
      · skip
        have HIS := Lib.hid his
        clear his
        go_upto_region 5 with fail
        refine gone_put _ HST HX5 HRX HOK.out (fun c a d v w h => by cases d <;> exact h) ?_
        rintro _ _ _ _ _ _ w7 HU7 HT7 HF7
        have HX7 := Lib.hid (HF7.out.row HX5.out (by rw [List.mem_singleton]; intro e; exact HNB.out (by rw [e]; exact HST.out.bm.2.2)))
        have hx0 := cell_row HX7.out 0 _ (nm_head HRX.out)
        go_wp2_with fail
        refine Calls.mono (ask_any w7 p B2 N2 _ _ _ _ _ _ _ _ HT7.out x.1 hxu (fold_sorted _ _ HSR.out) (by omega)) ?_
        rintro e w8 ⟨rfl, B3, ra3, rc3, hu8, ht8⟩
        have HO8 : Hid (w8.ownsRow 0 65 nmK.N (.slice al k cl) k (nmK.flat ((L.take i).filter fun x => !is x))) := Lib.hid (own_off (own_off HO.out HF7.out (fun g hg hm => by cases al with | none => simp [Value.ownBlock] at hg | some z => simp [Value.ownBlock] at hg; exact (HAL.out z rfl).2 (by rw [hg, List.mem_singleton.1 hm]; exact HST.out.bm.2.2))) hu8.off (fun g hg hm => by cases al with | none => simp [Value.ownBlock] at hg | some z => simp [Value.ownBlock] at hg; exact (HAL.out z rfl).2 (by rw [hg]; exact hm)))
        have HU8 := Lib.hid ((HU.out.trans HU7.out).trans hu8)
        have HAL2 : Hid (∀ x, al = some x → w.heap.size ≤ x.block ∧ x.block ∉ B3) := Lib.hid (fun z hz => ⟨(HAL.out z hz).1, fun hm => by rcases hu8.new _ hm with h | h; exact (HAL.out z hz).2 h; have h9 := HO.out; rw [hz] at h9; have := own_ltS h9 rfl; have := HF7.out.size; omega⟩)
        have HT8 := Lib.hid ht8
        clear hu8 ht8 hx0
        have hft := filter_take HX.out (fun x => !is x)
        rw [HIS.out] at hft
        have hft2 := filter_take HX.out is
        rw [HIS.out] at hft2
        simp only [Bool.not_true, if_true, Bool.false_eq_true, if_false, List.append_nil] at hft hft2
        go_wp2_with fail
        go_roundw
        case rel => exact ⟨i + 1, k, cl, N2 + 1, rc3, al, ra3, B3, rfl, by go_num, by omega, by omega, by omega, HU8, Lib.hid (by rw [hft2]; have h9 := HT8.out; simp only [List.foldl_append, List.map_append, List.foldl_cons, List.foldl_nil, List.map_cons, List.map_nil, ← List.append_assoc] at h9 ⊢; exact h9), Lib.hid (by rw [hft]; exact HO8.out), HAL2⟩
        case measure => simp [intOf]; omega
    · obtain rfl : n = i := by omega
      have hlt9 : L.take n = L := List.take_of_length_le (by rw [HN.out]; exact Nat.le_refl _)
      rw [hlt9] at HST HO
      obtain ⟨LL, hLL⟩ : ∃ l, (L.filter fun x => !is x) = l := ⟨_, rfl⟩
      have HLL := Lib.hid hLL
      rw [hLL] at HO
      clear hLL hlt9
      obtain ⟨WS, hWS⟩ : ∃ l, S.was ++ (L.filter is).map Prod.fst = l := ⟨_, rfl⟩
      have HWS := Lib.hid hWS
      rw [hWS] at HST
      clear hWS
      obtain ⟨DU, hDU⟩ : ∃ l, (L.filter is).foldl (fun d x => dueM d x.1) S.due = l := ⟨_, rfl⟩
      have HDU := Lib.hid hDU
      rw [hDU] at HST
      clear hDU
      have hlk : LL.length = k := by have h9 := HO.out.1; rw [nmK.flat_len LL (fun y hy => HLO.out y (by rw [← HLL.out] at hy; exact (List.mem_filter.1 hy).1))] at h9; exact Nat.eq_of_mul_eq_mul_right nmK.pos h9
      have HLK := Lib.hid hlk
      clear hlk
      have HR := Lib.hid HST.out.row
      have c0 := cell_row HR.out 0 _ (thRow_l ..)
      have f0 := row_free HR.out 0
      go_upto_region 10 with fail
      clear c0 f0
      have hgs := grown_setCell wr p 0 (.slice al k cl)
      have hrs := row_setL HR.out 0 (.slice al k cl)
      rw [thRow_setl] at hrs
      have ho9 := (Off.refl [p] wr).setCell (k := 0) (List.mem_singleton.2 rfl) (.slice al k cl)
      have HAL0 := Lib.hid (fun x hx => (HAL.out x hx).1)
      obtain ⟨_, _, e0, hcl1, hcl2⟩ := sl_own HO.out
      injection e0 with e0 e1 e2; subst e2; clear e0 e1
      have hoo := own_grown HO.out hgs (fun g hg e => own_ne HO.out HR.out (by decide) (hg.trans e))
      have hrk := RK.At.of_own hoo (fun y hy => HLO.out y (by rw [← HLL.out] at hy; exact (List.mem_filter.1 hy).1))
      have hsz : w.heap.size ≤ wr.heap.size := HU.out.off.size
      have hpp := lt_of_block H.out.row
      have hth : ThAt (wr.setCell ⟨p, 0, none⟩ (.slice al k cl)) p (B2 ++ blkS al) (N + n) ⟨LL, S.came, DU, WS, S.now⟩ al ra2 cl rc2 bn bs bg := HST.out.turn ho9 (by rw [HLK.out]; exact hrs) (by rw [HLK.out]; exact hrk) (HST.out.r_off ho9) (by rw [HLK.out]; exact ⟨hcl1, hcl2⟩) HST.out.rc HST.out.now (fun g hg => List.mem_append_left _ hg) (fun g hg => by rcases List.mem_append.1 hg with hg | hg; (have := HST.out.lt g hg; simpa using this); (obtain ⟨y, rfl, rfl⟩ := blkS_mem.1 hg; have := own_ltS hoo rfl; exact this)) (fun y hy => ⟨List.mem_append_right _ (blkS_mem.2 ⟨y, hy, rfl⟩), fun e => by have := HAL0.out y hy; omega, by subst hy; exact own_addr HO.out⟩) (fun y hy => ⟨List.mem_append_left _ (HST.out.ra y hy).1, (HST.out.ra y hy).2⟩) ⟨by rw [HLK.out]; omega, by have := HST.out.len.2; simp only at this; omega⟩
      have hup : UpdO B w (wr.setCell ⟨p, 0, none⟩ (.slice al k cl)) (B2 ++ blkS al) := ⟨HU.out.off.trans (N := [p]) ho9 (fun x hx => by rw [List.mem_singleton.1 hx]; exact .inl H.out.pm), fun g hg => by rcases List.mem_append.1 hg with hg | hg; exact HU.out.new g hg; (obtain ⟨y, rfl, rfl⟩ := blkS_mem.1 hg; exact .inr (HAL0.out y rfl))⟩
      have HT9 := Lib.hid hth; have HU9 := Lib.hid hup
      clear hth hup hoo hrk hrs ho9 hgs hsz hpp
      generalize wr.setCell ⟨p, 0, none⟩ (.slice al k cl) = w9 at HT9 HU9 ⊢
      clear HO HU HST HR HD HFH HT0
      have hdrop : dropM S is = ⟨LL, S.came, DU, WS, if S.now.1 ∈ WS ∧ 0 < LL.length then LL.headD S.now else S.now⟩ := by unfold dropM; simp only [HLE.out, HLL.out, HWS.out, HDU.out]
      have HDR := Lib.hid hdrop
      clear hdrop
      have hns := HNOW.out.1
      have HR9 := Lib.hid HT9.out.row
      obtain ⟨ng, fg, hg, hgf⟩ := HT9.out.gn
      have HGm := Lib.hid hg
      have hgv := hgf S.now.1 hns
      clear hg hgf
      try simp only [Act.put]
      rw [HLK.out] at HR9
      by_cases hin : S.now.1 ∈ WS
      · skip
        rw [if_pos hin] at hgv
        by_cases hk0 : 0 < k
        · skip
          have g12 : ∀ z : In (fun y => y.heap[p]? = some (.cells (thRow (.slice al k cl) bn bs S.now bg (.slice ra2 DU.length rc2)).toArray THT (0, 0)) ∧ HM Try.prog U64T y bg ng fg), z.w.cell? ⟨p, 12, none⟩ = some (.map (some bg)) := fun z => cell_row z.h.1 12 _ (thRow_g _ _ _ _ _ HNOW.out)
          have g3 : ∀ z : In (fun y => y.heap[p]? = some (.cells (thRow (.slice al k cl) bn bs S.now bg (.slice ra2 DU.length rc2)).toArray THT (0, 0)) ∧ HM Try.prog U64T y bg ng fg), z.w.cell? ⟨p, 3, none⟩ = some (.int .u64 S.now.1) := fun z => cell_row z.h.1 3 _ (thRow_w ..)
          refine wp_plan (.t 0 (.t 1 (.t 2 (.t 3 (.t 4 (.t 5 (.t 6 (.t 7 (.t 8 (.t 9 (.t 10 (.t 11 (.t 12 (.t 13 (.t 14 .done))))))))))))))) (fun y => y.heap[p]? = some (.cells (thRow (.slice al k cl) bn bs S.now bg (.slice ra2 DU.length rc2)).toArray THT (0, 0)) ∧ HM Try.prog U64T y bg ng fg) (by kernel_rfl) (by kernel_rfl) (by kernel_rfl) (fun c a d v w h => by cases d <;> exact h) ⟨HR9.out, HGm.out.below (Below.refl _ _).drew⟩ ?_
          haveI hne : Nonempty (In (fun y => y.heap[p]? = some (.cells (thRow (.slice al k cl) bn bs S.now bg (.slice ra2 DU.length rc2)).toArray THT (0, 0)) ∧ HM Try.prog U64T y bg ng fg)) := ⟨⟨w9, ⟨HR9.out, HGm.out⟩⟩⟩
          repeat (first | (refine plan_t (by rfl) ?_; (first | go_big_quiet_skip | (go_big_quiet_want; go_big_quiet_op; go_big_quiet_on)); refine wpQuiet_nil ?_))
          refine plan_t_hm (z := .bool false) (key := .int .u64 S.now.1) (f := fg) (by rfl) (by kernel_rfl) _ _ _ rfl keyU Try.underlying71 zeroB rfl rfl (keyUof hns) (fun y hy => ⟨_, hy.2⟩) ?_
          rw [hgv]
          simp only [Act.put, List.setIfInBounds_toArray, List.set_cons_succ, List.set_cons_zero]
          simp only [Option.getD_some, Option.getD_none, Bool.false_eq_true, if_false]
          repeat (first | (refine plan_t (by rfl) ?_; (first | go_big_quiet_skip | (go_big_quiet_want; go_big_quiet_op; go_big_quiet_on)); refine wpQuiet_nil ?_))
          clear hne g12 g3
          show Exit.then _ _ _ _ _
          have hdr := (Below.refl w9.heap.size w9).drew
          have HT10 := Lib.hid (HT9.out.below hdr); have HU10 := Lib.hid (HU9.out.next hdr)
          clear hdr HR9 HGm
          generalize w9.drew = w10 at HT10 HU10 ⊢
          obtain ⟨hb, ho, x0, rfl, _, hx0, hok0, hrg0⟩ := HT10.out.l.at (j := 0) (by rw [HLK.out]; exact hk0)
          simp only at hx0
          rw [show ho + 0 * nmK.N = ho by rw [Nat.zero_mul, Nat.add_zero]] at hrg0
          have HX0 := Lib.hid hx0; have HOK0 := Lib.hid hok0; have hl9 := nmK.len x0 hok0; have ho9 := nmK.one x0 hok0
          obtain ⟨R0, hR0⟩ : ∃ R, nmK.enc x0 = R := ⟨_, rfl⟩
          have HR0 := Lib.hid hR0
          rw [hR0] at hl9 ho9 hrg0
          have HL9 : Hid (R0.length = 9) := Lib.hid hl9; have HO9 := Lib.hid ho9; have HRG0 := Lib.hid hrg0
          clear hl9 ho9 hrg0 hx0 hok0 hR0
          have hrow : w10.heap[p]? = some (.cells (([.slice (some ⟨hb, ho, none⟩) k cl, .map (some bn), .map (some bs)] : List Value) ++ (nmK.enc S.now ++ ([.map (some bg), .slice ra2 DU.length rc2] : List Value))).toArray THT (0, 0)) := by have h9 := HT10.out.row; simp only [HLK.out] at h9; unfold thRow at h9; rw [List.append_assoc] at h9; exact h9
          have hnl := nmK.len S.now HNOW.out
          obtain ⟨R1, hR1⟩ : ∃ R, nmK.enc S.now = R := ⟨_, rfl⟩
          rw [hR1] at hrow hnl
          have HROW := Lib.hid hrow; have HNL : Hid (R1.length = 9) := Lib.hid hnl
          clear hrow hnl hR1
          go_wp2_with (first | (refine wpList_load_mid rfl 65 _ rfl hb (ho) rfl R0 _ (HRG0.out) Try.underlying65 rfl (by rw [HL9.out]; rfl) ?_) | (refine wpList_store_part rfl 65 _ _ rfl p 3 rfl R0 THT [.slice (some ⟨hb, ho, none⟩) k cl, .map (some bn), .map (some bs)] R1 [.map (some bg), .slice ra2 DU.length rc2] rfl HROW.out rfl (by rw [HNL.out, HL9.out]) (by rw [HL9.out]; rfl) HO9.out ?_; intro w11 hr hg; have HR11 := Lib.hid hr; have HG11 := Lib.hid hg; clear hr hg) | fail)
          (try simp only [Exit.inBlock, Exit.then])
          refine bodyPost_end (results_none rfl _ _ _) rfl ?_
          have ho11 : Off [p] w10 w11 := Off.of_grown HG11.out (fun g hg => by injection hg with hg; subst hg; simp)
          have hrow : w11.heap[p]? = some (.cells (thRow (.slice (some ⟨hb, ho, none⟩) LL.length cl) bn bs x0 bg (.slice ra2 DU.length rc2)).toArray THT (0, 0)) := by have h9 := HR11.out; rw [← HR0.out] at h9; unfold thRow; rw [HLK.out, List.append_assoc]; exact h9
          have hth := HT10.out.turn ho11 hrow (HT10.out.l_off ho11) (HT10.out.r_off ho11) HT10.out.lc HT10.out.rc HOK0.out (fun g hg => hg) (fun g hg => Nat.lt_of_lt_of_le (HT10.out.lt g hg) ho11.size) HT10.out.la HT10.out.ra HT10.out.len
          refine ⟨rfl, _, some ⟨hb, ho, none⟩, ra2, cl, rc2, HU10.out.trans ⟨ho11.wide (fun y hy => by rw [List.mem_singleton.1 hy]; exact HT10.out.pm), fun g hg => .inl hg⟩, ?_⟩
          rw [HDR.out, if_pos ⟨hin, by rw [HLK.out]; exact hk0⟩, List.headD_eq_head?_getD, List.head?_eq_getElem?, HX0.out]
          exact hth
        · skip
          have g12 : ∀ z : In (fun y => y.heap[p]? = some (.cells (thRow (.slice al k cl) bn bs S.now bg (.slice ra2 DU.length rc2)).toArray THT (0, 0)) ∧ HM Try.prog U64T y bg ng fg), z.w.cell? ⟨p, 12, none⟩ = some (.map (some bg)) := fun z => cell_row z.h.1 12 _ (thRow_g _ _ _ _ _ HNOW.out)
          have g3 : ∀ z : In (fun y => y.heap[p]? = some (.cells (thRow (.slice al k cl) bn bs S.now bg (.slice ra2 DU.length rc2)).toArray THT (0, 0)) ∧ HM Try.prog U64T y bg ng fg), z.w.cell? ⟨p, 3, none⟩ = some (.int .u64 S.now.1) := fun z => cell_row z.h.1 3 _ (thRow_w ..)
          refine wp_plan (.t 0 (.t 1 (.t 2 (.t 3 (.t 4 (.t 5 (.t 6 (.t 7 (.t 8 (.t 9 (.t 10 (.t 11 (.t 12 (.t 13 (.t 14 .done))))))))))))))) (fun y => y.heap[p]? = some (.cells (thRow (.slice al k cl) bn bs S.now bg (.slice ra2 DU.length rc2)).toArray THT (0, 0)) ∧ HM Try.prog U64T y bg ng fg) (by kernel_rfl) (by kernel_rfl) (by kernel_rfl) (fun c a d v w h => by cases d <;> exact h) ⟨HR9.out, HGm.out.below (Below.refl _ _).drew⟩ ?_
          haveI hne : Nonempty (In (fun y => y.heap[p]? = some (.cells (thRow (.slice al k cl) bn bs S.now bg (.slice ra2 DU.length rc2)).toArray THT (0, 0)) ∧ HM Try.prog U64T y bg ng fg)) := ⟨⟨w9, ⟨HR9.out, HGm.out⟩⟩⟩
          repeat (first | (refine plan_t (by rfl) ?_; (first | go_big_quiet_skip | (go_big_quiet_want; go_big_quiet_op; go_big_quiet_on)); refine wpQuiet_nil ?_))
          refine plan_t_hm (z := .bool false) (key := .int .u64 S.now.1) (f := fg) (by rfl) (by kernel_rfl) _ _ _ rfl keyU Try.underlying71 zeroB rfl rfl (keyUof hns) (fun y hy => ⟨_, hy.2⟩) ?_
          rw [hgv]
          simp only [Act.put, List.setIfInBounds_toArray, List.set_cons_succ, List.set_cons_zero]
          simp only [Option.getD_some, Option.getD_none, Bool.false_eq_true, if_false]
          repeat (first | (refine plan_t (by rfl) ?_; (first | go_big_quiet_skip | (go_big_quiet_want; go_big_quiet_op; go_big_quiet_on)); refine wpQuiet_nil ?_))
          clear hne g12 g3
          show Exit.then _ _ _ _ _
          have hdr := (Below.refl w9.heap.size w9).drew
          have HT10 := Lib.hid (HT9.out.below hdr); have HU10 := Lib.hid (HU9.out.next hdr)
          clear hdr HR9 HGm
          generalize w9.drew = w10 at HT10 HU10 ⊢
          go_wp2_with fail
          (try simp only [Exit.inBlock, Exit.then])
          refine bodyPost_end (results_none rfl _ _ _) rfl ?_
          refine ⟨rfl, _, al, ra2, cl, rc2, HU10.out, ?_⟩
          rw [HDR.out, if_neg (fun h => hk0 (by rw [← HLK.out]; exact h.2))]
          exact HT10.out
      · skip
        rw [if_neg hin] at hgv
        by_cases hk0 : 0 < k
        · skip
          have g12 : ∀ z : In (fun y => y.heap[p]? = some (.cells (thRow (.slice al k cl) bn bs S.now bg (.slice ra2 DU.length rc2)).toArray THT (0, 0)) ∧ HM Try.prog U64T y bg ng fg), z.w.cell? ⟨p, 12, none⟩ = some (.map (some bg)) := fun z => cell_row z.h.1 12 _ (thRow_g _ _ _ _ _ HNOW.out)
          have g3 : ∀ z : In (fun y => y.heap[p]? = some (.cells (thRow (.slice al k cl) bn bs S.now bg (.slice ra2 DU.length rc2)).toArray THT (0, 0)) ∧ HM Try.prog U64T y bg ng fg), z.w.cell? ⟨p, 3, none⟩ = some (.int .u64 S.now.1) := fun z => cell_row z.h.1 3 _ (thRow_w ..)
          refine wp_plan (.t 0 (.t 1 (.t 2 (.t 3 (.t 4 (.t 5 (.t 6 (.t 7 (.t 8 (.t 9 (.t 10 (.t 11 (.t 12 (.t 13 (.t 14 .done))))))))))))))) (fun y => y.heap[p]? = some (.cells (thRow (.slice al k cl) bn bs S.now bg (.slice ra2 DU.length rc2)).toArray THT (0, 0)) ∧ HM Try.prog U64T y bg ng fg) (by kernel_rfl) (by kernel_rfl) (by kernel_rfl) (fun c a d v w h => by cases d <;> exact h) ⟨HR9.out, HGm.out.below (Below.refl _ _).drew⟩ ?_
          haveI hne : Nonempty (In (fun y => y.heap[p]? = some (.cells (thRow (.slice al k cl) bn bs S.now bg (.slice ra2 DU.length rc2)).toArray THT (0, 0)) ∧ HM Try.prog U64T y bg ng fg)) := ⟨⟨w9, ⟨HR9.out, HGm.out⟩⟩⟩
          repeat (first | (refine plan_t (by rfl) ?_; (first | go_big_quiet_skip | (go_big_quiet_want; go_big_quiet_op; go_big_quiet_on)); refine wpQuiet_nil ?_))
          refine plan_t_hm (z := .bool false) (key := .int .u64 S.now.1) (f := fg) (by rfl) (by kernel_rfl) _ _ _ rfl keyU Try.underlying71 zeroB rfl rfl (keyUof hns) (fun y hy => ⟨_, hy.2⟩) ?_
          rw [hgv]
          simp only [Act.put, List.setIfInBounds_toArray, List.set_cons_succ, List.set_cons_zero]
          simp only [Option.getD_some, Option.getD_none, Bool.false_eq_true, if_false]
          repeat (first | (refine plan_t (by rfl) ?_; (first | go_big_quiet_skip | (go_big_quiet_want; go_big_quiet_op; go_big_quiet_on)); refine wpQuiet_nil ?_))
          clear hne g12 g3
          show Exit.then _ _ _ _ _
          have hdr := (Below.refl w9.heap.size w9).drew
          have HT10 := Lib.hid (HT9.out.below hdr); have HU10 := Lib.hid (HU9.out.next hdr)
          clear hdr HR9 HGm
          generalize w9.drew = w10 at HT10 HU10 ⊢
          go_wp2_with fail
          (try simp only [Exit.inBlock, Exit.then])
          refine bodyPost_end (results_none rfl _ _ _) rfl ?_
          refine ⟨rfl, _, al, ra2, cl, rc2, HU10.out, ?_⟩
          rw [HDR.out, if_neg (fun h => hin h.1)]
          exact HT10.out
        · skip
          have g12 : ∀ z : In (fun y => y.heap[p]? = some (.cells (thRow (.slice al k cl) bn bs S.now bg (.slice ra2 DU.length rc2)).toArray THT (0, 0)) ∧ HM Try.prog U64T y bg ng fg), z.w.cell? ⟨p, 12, none⟩ = some (.map (some bg)) := fun z => cell_row z.h.1 12 _ (thRow_g _ _ _ _ _ HNOW.out)
          have g3 : ∀ z : In (fun y => y.heap[p]? = some (.cells (thRow (.slice al k cl) bn bs S.now bg (.slice ra2 DU.length rc2)).toArray THT (0, 0)) ∧ HM Try.prog U64T y bg ng fg), z.w.cell? ⟨p, 3, none⟩ = some (.int .u64 S.now.1) := fun z => cell_row z.h.1 3 _ (thRow_w ..)
          refine wp_plan (.t 0 (.t 1 (.t 2 (.t 3 (.t 4 (.t 5 (.t 6 (.t 7 (.t 8 (.t 9 (.t 10 (.t 11 (.t 12 (.t 13 (.t 14 .done))))))))))))))) (fun y => y.heap[p]? = some (.cells (thRow (.slice al k cl) bn bs S.now bg (.slice ra2 DU.length rc2)).toArray THT (0, 0)) ∧ HM Try.prog U64T y bg ng fg) (by kernel_rfl) (by kernel_rfl) (by kernel_rfl) (fun c a d v w h => by cases d <;> exact h) ⟨HR9.out, HGm.out.below (Below.refl _ _).drew⟩ ?_
          haveI hne : Nonempty (In (fun y => y.heap[p]? = some (.cells (thRow (.slice al k cl) bn bs S.now bg (.slice ra2 DU.length rc2)).toArray THT (0, 0)) ∧ HM Try.prog U64T y bg ng fg)) := ⟨⟨w9, ⟨HR9.out, HGm.out⟩⟩⟩
          repeat (first | (refine plan_t (by rfl) ?_; (first | go_big_quiet_skip | (go_big_quiet_want; go_big_quiet_op; go_big_quiet_on)); refine wpQuiet_nil ?_))
          refine plan_t_hm (z := .bool false) (key := .int .u64 S.now.1) (f := fg) (by rfl) (by kernel_rfl) _ _ _ rfl keyU Try.underlying71 zeroB rfl rfl (keyUof hns) (fun y hy => ⟨_, hy.2⟩) ?_
          rw [hgv]
          simp only [Act.put, List.setIfInBounds_toArray, List.set_cons_succ, List.set_cons_zero]
          simp only [Option.getD_some, Option.getD_none, Bool.false_eq_true, if_false]
          repeat (first | (refine plan_t (by rfl) ?_; (first | go_big_quiet_skip | (go_big_quiet_want; go_big_quiet_op; go_big_quiet_on)); refine wpQuiet_nil ?_))
          clear hne g12 g3
          show Exit.then _ _ _ _ _
          have hdr := (Below.refl w9.heap.size w9).drew
          have HT10 := Lib.hid (HT9.out.below hdr); have HU10 := Lib.hid (HU9.out.next hdr)
          clear hdr HR9 HGm
          generalize w9.drew = w10 at HT10 HU10 ⊢
          go_wp2_with fail
          (try simp only [Exit.inBlock, Exit.then])
          refine bodyPost_end (results_none rfl _ _ _) rfl ?_
          refine ⟨rfl, _, al, ra2, cl, rc2, HU10.out, ?_⟩
          rw [HDR.out, if_neg (fun h => hin h.1)]
          exact HT10.out
end Go.Proofs.Ytjdcmhclamjcjaa
namespace Go.Proofs.Ytjdcmhclamjcjaa
open Go.RowKit
set_option linter.unusedVariables false
set_option linter.unusedSimpArgs false

theorem eqin9 (w : World) (xs ys : List Int) (wx : cidOk xs) (wy : cidOk ys) : (Op.equalIn 9999 38 (.agg (xs.map (Value.int .u8)).toArray) (.agg (ys.map (Value.int .u8)).toArray)).run Try.prog w = .ok (xs == ys) w := by
  have h := run_equalIn_bytes (P := Try.prog) w 9997 38 5 8 Try.underlying38 Try.underlying5 sizeU8 (xs.map toU) (ys.map toU) (by simp [wx.1]) (by simp [wy.1])
  rw [map_toU wx.2, map_toU wy.2, toU_inj wx.2 wy.2] at h
  exact h
set_option maxRecDepth 100000 in
set_option maxHeartbeats 8000000 in
theorem onc_any (w : World) (x : Nm) (hx : nmK.ok x) (cap : Nat) (RF : List Value) (lim : Int) (hc : w.heap[cap]? = some (.cells RF.toArray 53 (0, 0))) (hl : RF[5]? = some (.int .u64 lim)) :
    Calls Try.prog 38 #[.agg (nmK.enc x).toArray, .pointer (some ⟨cap, 0, none⟩)] w fun e w' => e = .returned (.bool (decide (x.1 < lim))) ∧ Below w.heap.size w w' := by
  have hl9 := nmK.len x hx
  obtain ⟨RX, hRX⟩ : ∃ R, nmK.enc x = R := ⟨_, rfl⟩
  have HRX := Lib.hid hRX
  rw [hRX] at hl9 ⊢
  have hxu := hx.1
  have HC := Lib.hid (row_cell hc 5 _ (by rw [List.getElem?_toArray]; exact hl))
  have HR := Lib.hid hc
  clear hRX hx hc hl hl9
  go_enter Try.func38, Try.ntmps38
  go_upto_region 1 with fail
  change Code.wp _ _ _ _ (w.alloc (.cells RX.toArray 65))
  have HB := Lib.hid (Below.refl w.heap.size w)
  have hlc := lt_of_block HR.out
  have hc5 : (w.alloc (.cells RX.toArray 65)).cell? ⟨cap, 5, none⟩ = some (.int .u64 lim) := by rw [← HC.out]; exact ((Below.refl w.heap.size w).alloc (Nat.le_refl _) _).cell (p := ⟨cap, 5, none⟩) hlc
  have HC5 := Lib.hid hc5
  clear hc5
  have hb := (Below.refl w.heap.size w).alloc (Nat.le_refl _) (.cells RX.toArray 65)
  have HX := Lib.hid (heap_alloc_new w (.cells RX.toArray 65))
  generalize w.alloc (.cells RX.toArray 65) = w1 at HC5 HX hb ⊢
  obtain ⟨gx, hgx⟩ : ∃ g, w.heap.size = g := ⟨_, rfl⟩
  rw [hgx] at HX ⊢
  clear hgx
  have x0 := cell_row HX.out 0 _ (nm_head HRX.out)
  have c5 := HC5.out
  go_wp2_with fail
  go_ret
  exact ⟨rfl, hb⟩
set_option maxRecDepth 100000 in
set_option maxHeartbeats 8000000 in
theorem turnc_any (w : World) (x y : Nm) (hx : nmK.ok x) (hy : nmK.ok y) (cap : Nat) (hc : w.heap[cap]? = some (.cells (nmK.enc y).toArray 65 (0, 0))) :
    Calls Try.prog 40 #[.agg (nmK.enc x).toArray, .pointer (some ⟨cap, 0, none⟩)] w fun e w' => e = .returned (.bool (decide (x = y))) ∧ Below w.heap.size w w' := by
  obtain ⟨xs, xc⟩ := x
  obtain ⟨ys, yc⟩ := y
  have HEQ := Lib.hid (fun W => eqin9 W xc yc hx.2 hy.2)
  have hdx : decide ((xs, xc) = (ys, yc)) = (decide (xs = ys) && (xc == yc)) := by
    rw [Bool.eq_iff_iff]; simp
  obtain ⟨x0, x1, x2, x3, x4, x5, x6, x7, rfl⟩ := Kc.len8 hx.2.1
  obtain ⟨y0, y1, y2, y3, y4, y5, y6, y7, rfl⟩ := Kc.len8 hy.2.1
  obtain ⟨b, hb⟩ : ∃ b, ([x0, x1, x2, x3, x4, x5, x6, x7] == [y0, y1, y2, y3, y4, y5, y6, y7]) = b := ⟨_, rfl⟩
  rw [hb] at HEQ hdx
  rw [hdx]
  have hxu := hx.1; have hyu := hy.1
  clear hb hdx hx hy
  simp only [List.map_cons, List.map_nil] at HEQ
  have hc2 : w.heap[cap]? = some (.cells ([.int .u64 ys, .int .u8 y0, .int .u8 y1, .int .u8 y2, .int .u8 y3, .int .u8 y4, .int .u8 y5, .int .u8 y6, .int .u8 y7] : List Value).toArray 65 (0, 0)) := hc
  change Calls Try.prog _ #[.agg ([.int .u64 xs, .int .u8 x0, .int .u8 x1, .int .u8 x2, .int .u8 x3, .int .u8 x4, .int .u8 x5, .int .u8 x6, .int .u8 x7] : List Value).toArray, _] w _
  have HR := Lib.hid hc2
  have HB := Lib.hid (Below.refl w.heap.size w)
  clear hc hc2
  go_enter Try.func40, Try.ntmps40
  go_upto_region 1 with fail
  change Code.wp _ _ _ _ (w.alloc (.cells ([.int .u64 xs, .int .u8 x0, .int .u8 x1, .int .u8 x2, .int .u8 x3, .int .u8 x4, .int .u8 x5, .int .u8 x6, .int .u8 x7] : List Value).toArray 65))
  have hb := (Below.refl w.heap.size w).alloc (Nat.le_refl _) (.cells ([.int .u64 xs, .int .u8 x0, .int .u8 x1, .int .u8 x2, .int .u8 x3, .int .u8 x4, .int .u8 x5, .int .u8 x6, .int .u8 x7] : List Value).toArray 65)
  replace HR := Lib.hid (bl_row hb (lt_of_block HR.out) HR.out)
  replace HB := Lib.hid (bl_next HB.out HB.out.size hb)
  have HX := Lib.hid (heap_alloc_new w (.cells ([.int .u64 xs, .int .u8 x0, .int .u8 x1, .int .u8 x2, .int .u8 x3, .int .u8 x4, .int .u8 x5, .int .u8 x6, .int .u8 x7] : List Value).toArray 65))
  clear hb
  generalize w.alloc (.cells ([.int .u64 xs, .int .u8 x0, .int .u8 x1, .int .u8 x2, .int .u8 x3, .int .u8 x4, .int .u8 x5, .int .u8 x6, .int .u8 x7] : List Value).toArray 65) = w1 at HR HB HX ⊢
  obtain ⟨gx, hg⟩ : ∃ g, w.heap.size = g := ⟨_, rfl⟩
  rw [hg] at HX ⊢
  clear hg
  have heq := HEQ.out w1
  go_wp2_with (first | (refine wpList_load_mid rfl 65 _ rfl gx 0 rfl ([.int .u64 xs, .int .u8 x0, .int .u8 x1, .int .u8 x2, .int .u8 x3, .int .u8 x4, .int .u8 x5, .int .u8 x6, .int .u8 x7] : List Value) _ (rngL HX.out) Try.underlying65 rfl rfl ?_) | (refine wpList_load_mid rfl 65 _ rfl cap 0 rfl ([.int .u64 ys, .int .u8 y0, .int .u8 y1, .int .u8 y2, .int .u8 y3, .int .u8 y4, .int .u8 y5, .int .u8 y6, .int .u8 y7] : List Value) _ (rngL HR.out) Try.underlying65 rfl rfl ?_) | fail)
  all_goals (go_ret; exact ⟨by first | rfl | simp, HB.out⟩)
end Go.Proofs.Ytjdcmhclamjcjaa
namespace Go.Proofs.Ytjdcmhclamjcjaa
open Go.RowKit
set_option linter.unusedVariables false
set_option linter.unusedSimpArgs false

/-- is it a frame that contradicts what came? -/
def badB (S : Th) (k se : Int) (c : List Int) : Bool :=
  decide (k ≠ 24) || (match lookN S.came se with | some d => !(d == c) | none => false) || (match lookS S.came c with | some q => decide (q ≠ se) | none => false)
def onM (S : Th) (k se li : Int) (c : List Int) : Th × Int :=
  if badB S k se c then (S, 10)
  else if se < li then (S, 7)
  else if (lookN S.came se).isSome then (S, 0)
  else
    let T := dropM ⟨insM S.L (se, c), S.came ++ [(se, c)], S.due, S.was, S.now⟩ (fun x => decide (x.1 < li))
    (T, if 4 < T.L.length then 10 else 0)
structure TI (S : Th) : Prop where
  ok : ∀ y ∈ S.came, nmK.ok y
  due : S.due.Pairwise (· < ·)
  srt : S.L.Pairwise (fun x y => x.1 < y.1)
  sub : ∀ y ∈ S.L, y ∈ S.came
  now : S.now ∈ S.L
  dis : ∀ y ∈ S.L, y.1 ∉ S.was
  n1 : S.came.Pairwise (fun x y => x.1 ≠ y.1)
  n2 : S.came.Pairwise (fun x y => x.2 ≠ y.2)
  len : S.L.length + S.was.length = S.came.length
  dw : ∀ s ∈ S.due, s ∈ S.was
theorem lookN_none {C : List Nm} {s : Int} (h : lookN C s = none) : ∀ y ∈ C, y.1 ≠ s := fun y hy e => by
  unfold lookN at h
  rw [Option.map_eq_none_iff, List.find?_eq_none] at h
  exact h y hy (by simp [e])
theorem lookS_none {C : List Nm} {c : List Int} (h : lookS C c = none) : ∀ y ∈ C, y.2 ≠ c := fun y hy e => by
  unfold lookS at h
  rw [Option.map_eq_none_iff, List.find?_eq_none] at h
  exact h y hy (by simp [e])
theorem lookN_some {C : List Nm} {s : Int} {c : List Int} (h : lookN C s = some c) : (s, c) ∈ C := by
  unfold lookN at h
  rw [Option.map_eq_some_iff] at h
  obtain ⟨x, hx, rfl⟩ := h
  have h1 := List.mem_of_find?_eq_some hx
  have h2 := List.find?_some hx
  simp only [decide_eq_true_eq] at h2
  rw [← h2]; exact h1
theorem lookS_some {C : List Nm} {s : Int} {c : List Int} (h : lookS C c = some s) : (s, c) ∈ C := by
  unfold lookS at h
  rw [Option.map_eq_some_iff] at h
  obtain ⟨x, hx, rfl⟩ := h
  have h1 := List.mem_of_find?_eq_some hx
  have h2 := List.find?_some hx
  simp only [decide_eq_true_eq] at h2
  rw [← h2]; exact h1
theorem map_getD_cid (o : Option (List Int)) : (o.map cidV).getD (cidV Z8) = cidV (o.getD Z8) := by cases o <;> rfl
theorem map_getD_u64 (o : Option Int) : (o.map (Value.int .u64)).getD (.int .u64 0) = .int .u64 (o.getD 0) := by cases o <;> rfl
theorem frc {f : Fr} {dv rv : Value} : (f.cells dv rv)[0]? = some (.int .i64 f.kind) ∧ (f.cells dv rv)[5]? = some (.int .u64 f.li) ∧ (f.cells dv rv)[8]? = some (.int .u64 f.se) := ⟨rfl, rfl, rfl⟩
theorem frc_cid {f : Fr} {dv rv : Value} (j : Nat) (v : Value) (h : (f.cid.map (Value.int .u8))[j]? = some v) : (f.cells dv rv)[11 + j]? = some v := by
  unfold Fr.cells
  rw [List.getElem?_append_right (by simp)]
  simpa using h
end Go.Proofs.Ytjdcmhclamjcjaa
namespace Go.Proofs.Ytjdcmhclamjcjaa
open Go.RowKit
set_option linter.unusedVariables false
set_option linter.unusedSimpArgs false

open Go.Maps (Keyed)
set_option maxRecDepth 100000 in
set_option maxHeartbeats 16000000 in
theorem on_any (w : World) (p : Nat) (B : List Nat) (N : Nat) (S : Th) (la ra : Option Addr) (lc rc bn bs bg : Nat) (h : ThAt w p B N S la ra lc rc bn bs bg) (ti : TI S) (f : Fr) (hf : f.Wf) (dv rv : Value) (hd1 : dv.oneCell' = true) (hr1 : rv.oneCell' = true) (hN : 2 * N < 90000) :
    Calls Try.prog 16 #[.pointer (some ⟨p, 0, none⟩), .agg (f.cells dv rv).toArray] w fun e w' => e = .returned (.int .i64 (onM S f.kind f.se f.li f.cid).2) ∧ ThU w p B bn bs bg w' (N + N + 3) (onM S f.kind f.se f.li f.cid).1 := by
  have H := Lib.hid h; have HTI := Lib.hid ti
  have hse := hf.se; have hli := hf.li; have hkd := hf.kind
  have HCO : Hid (cidOk f.cid) := Lib.hid ⟨hf.cidl, hf.cid⟩
  obtain ⟨f0, f5, f8⟩ := frc (f := f) (dv := dv) (rv := rv)
  have HFC := Lib.hid (frc_cid (f := f) (dv := dv) (rv := rv))
  have hfl : (f.cells dv rv).length = 19 := by simp [Fr.cells, hf.cidl]
  obtain ⟨RF, hRF⟩ : ∃ R, f.cells dv rv = R := ⟨_, rfl⟩
  rw [hRF] at f0 f5 f8 HFC hfl ⊢
  have HF0 := Lib.hid f0; have HF5 := Lib.hid f5; have HF8 := Lib.hid f8
  obtain ⟨kl, hkl⟩ := key_cid HCO.out
  have HKL := Lib.hid hkl
  obtain ⟨k, hk⟩ : ∃ k, f.kind = k := ⟨_, rfl⟩
  obtain ⟨se, hs⟩ : ∃ k, f.se = k := ⟨_, rfl⟩
  obtain ⟨li, hl⟩ : ∃ k, f.li = k := ⟨_, rfl⟩
  obtain ⟨c, hc⟩ : ∃ k, f.cid = k := ⟨_, rfl⟩
  rw [hk] at hkd HF0 ⊢; rw [hs] at hse HF8 ⊢; rw [hl] at hli HF5 ⊢; rw [hc] at HCO HFC HKL ⊢
  have hcl : (c.map (Value.int .u8)).length = 8 := by simp [HCO.out.1]
  obtain ⟨CX, hCX⟩ : ∃ C, c.map (Value.int .u8) = C := ⟨_, rfl⟩
  have HCX := Lib.hid hCX
  rw [hCX] at hcl HFC
  have HCXL := Lib.hid hcl
  obtain ⟨o1, ho1⟩ : ∃ o, lookN S.came se = o := ⟨_, rfl⟩
  obtain ⟨o2, ho2⟩ : ∃ o, lookS S.came c = o := ⟨_, rfl⟩
  have HO1 := Lib.hid ho1; have HO2 := Lib.hid ho2
  clear h ti hf f0 f5 f8 hfl hkl hk hs hl hc hRF hcl hCX ho1 ho2 hd1 hr1
  go_enter Try.func16, Try.ntmps16
  go_upto_region 1 with fail
  change Code.wp _ _ _ _ (w.alloc (.cells RF.toArray 53))
  have HTH := H
  have HB := Lib.hid (Below.refl w.heap.size w)
  have HB2 := HB
  have hb := (Below.refl w.heap.size w).alloc (Nat.le_refl _) (.cells RF.toArray 53)
  replace HTH := Lib.hid (HTH.out.below hb)
  replace HB := Lib.hid (bl_next HB.out HB.out.size hb)
  have HF := Lib.hid (heap_alloc_new w (.cells RF.toArray 53))
  clear hb
  generalize w.alloc (.cells RF.toArray 53) = w1 at HTH HB HF ⊢
  obtain ⟨gf, hg⟩ : ∃ g, w.heap.size = g := ⟨_, rfl⟩
  rw [hg] at HF ⊢
  have HGF := Lib.hid hg
  clear hg
  clear HB2
  obtain ⟨nn, fn, hnm, hnf⟩ := HTH.out.nm
  have HNM := Lib.hid hnm
  have hnv := hnf se hse
  rw [HO1.out] at hnv
  have HROW := Lib.hid HTH.out.row
  clear hnm hnf
  have g1 : ∀ z : In (fun y => y.heap[p]? = some (.cells (thRow (.slice la S.L.length lc) bn bs S.now bg (.slice ra S.due.length rc)).toArray THT (0, 0)) ∧ y.heap[gf]? = some (.cells RF.toArray 53 (0, 0)) ∧ HM Try.prog U64T y bn nn fn), z.w.cell? ⟨p, 1, none⟩ = some (.map (some bn)) := fun z => cell_row z.h.1 1 _ (thRow_n ..)
  have g2 : ∀ z : In (fun y => y.heap[p]? = some (.cells (thRow (.slice la S.L.length lc) bn bs S.now bg (.slice ra S.due.length rc)).toArray THT (0, 0)) ∧ y.heap[gf]? = some (.cells RF.toArray 53 (0, 0)) ∧ HM Try.prog U64T y bn nn fn), z.w.cell? ⟨gf, 8, none⟩ = some (.int .u64 se) := fun z => cell_row z.h.2.1 8 _ HF8.out
  refine wp_plan (.t 0 (.t 1 (.t 2 (.t 3 (.t 4 (.t 5 (.t 6 (.t 7 (.t 8 (.t 9 (.u 10 (.u 11 (.t 12 .done))))))))))))) (fun y => y.heap[p]? = some (.cells (thRow (.slice la S.L.length lc) bn bs S.now bg (.slice ra S.due.length rc)).toArray THT (0, 0)) ∧ y.heap[gf]? = some (.cells RF.toArray 53 (0, 0)) ∧ HM Try.prog U64T y bn nn fn) (by kernel_rfl) (by kernel_rfl) (by kernel_rfl) (fun c a d v w h => by cases d <;> exact h) ⟨HROW.out, HF.out, HNM.out.below (Below.refl _ _).drew⟩ ?_
  haveI hne : Nonempty (In (fun y => y.heap[p]? = some (.cells (thRow (.slice la S.L.length lc) bn bs S.now bg (.slice ra S.due.length rc)).toArray THT (0, 0)) ∧ y.heap[gf]? = some (.cells RF.toArray 53 (0, 0)) ∧ HM Try.prog U64T y bn nn fn)) := ⟨⟨w1, ⟨HROW.out, HF.out, HNM.out⟩⟩⟩
  have hdr := (Below.refl w1.heap.size w1).drew
  replace HTH := Lib.hid (HTH.out.below hdr)
  replace HB := Lib.hid (bl_next HB.out HB.out.size hdr)
  replace HF := Lib.hid (bl_row hdr (lt_of_block HF.out) HF.out)
  replace HROW := Lib.hid (bl_row hdr (lt_of_block HROW.out) HROW.out)
  replace HNM := Lib.hid (HNM.out.below hdr)
  clear hdr
  generalize w1.drew = w2 at HTH HB HF HROW HNM ⊢
  repeat (first | (refine plan_t (by rfl) ?_; (first | go_big_quiet_skip | (go_big_quiet_want; go_big_quiet_op; go_big_quiet_on)); refine wpQuiet_nil ?_))
  refine plan_t_hm (z := cidV Z8) (key := .int .u64 se) (f := fn) (by rfl) (by kernel_rfl) _ _ _ rfl keyU Try.underlying69 zeroC rfl rfl (keyUof hse) (fun y hy => ⟨_, hy.2.2⟩) ?_
  rw [hnv, map_getD_cid, Option.isSome_map]
  simp only [if_true]
  unfold cidV
  simp only [Act.put, List.setIfInBounds_toArray, List.set_cons_succ, List.set_cons_zero]
  have hwo : cidOk (o1.getD Z8) := by
    cases ho : o1 with
    | none => exact z8_ok
    | some d => have h9 := HO1.out; rw [ho] at h9; exact (HTI.out.ok _ (lookN_some h9)).2
  have HWO := Lib.hid hwo
  have hwl : ((o1.getD Z8).map (Value.int .u8)).length = 8 := by simp [hwo.1]
  have hw1 : ∀ v ∈ (o1.getD Z8).map (Value.int .u8), v.oneCell' = true := cdK.one _ hwo
  obtain ⟨WX, hWX⟩ : ∃ C, (o1.getD Z8).map (Value.int .u8) = C := ⟨_, rfl⟩
  have HWX := Lib.hid hWX
  rw [hWX] at hwl hw1 ⊢
  have HWL := Lib.hid hwl; have HW1 := Lib.hid hw1
  clear hwo hwl hw1 hWX g1 g2
  repeat (first | (refine plan_t (by rfl) ?_; (first | go_big_quiet_skip | (go_big_quiet_want; go_big_quiet_op; go_big_quiet_on)); refine wpQuiet_nil ?_))
  refine plan_us (by rfl) (by kernel_rfl) ?_
  intro K hK
  have HBS : Hid (w.heap.size ≤ w2.heap.size) := Lib.hid HB.out.size
  go_wp2_with fail
  have hal := (Below.refl w2.heap.size w2).alloc (Nat.le_refl _) (.cells ([.int .u8 0, .int .u8 0, .int .u8 0, .int .u8 0, .int .u8 0, .int .u8 0, .int .u8 0, .int .u8 0] : List Value).toArray 38)
  replace HTH := Lib.hid (HTH.out.below hal)
  replace HB := Lib.hid (bl_next HB.out HB.out.size hal)
  replace HF := Lib.hid (bl_row hal (lt_of_block HF.out) HF.out)
  replace HROW := Lib.hid (bl_row hal (lt_of_block HROW.out) HROW.out)
  replace HNM := Lib.hid (HNM.out.below hal)
  have HW := Lib.hid (heap_alloc_new w2 (.cells ([.int .u8 0, .int .u8 0, .int .u8 0, .int .u8 0, .int .u8 0, .int .u8 0, .int .u8 0, .int .u8 0] : List Value).toArray 38))
  refine ⟨⟨HROW.out, HF.out, HNM.out⟩, ?_⟩
  clear hal
  (try change Plan.wp _ _ _ _ _ _ (w2.alloc (.cells ([.int .u8 0, .int .u8 0, .int .u8 0, .int .u8 0, .int .u8 0, .int .u8 0, .int .u8 0, .int .u8 0] : List Value).toArray 38)))
  generalize w2.alloc (.cells ([.int .u8 0, .int .u8 0, .int .u8 0, .int .u8 0, .int .u8 0, .int .u8 0, .int .u8 0, .int .u8 0] : List Value).toArray 38) = w3 at HTH HB HF HROW HNM HW ⊢
  obtain ⟨gw, hgw⟩ : ∃ g, w2.heap.size = g := ⟨_, rfl⟩
  have HGW : Hid (w.heap.size ≤ gw) := Lib.hid (by rw [← hgw]; exact HBS.out)
  rw [hgw] at HW ⊢
  clear hgw
  refine plan_us (by rfl) (by kernel_rfl) ?_
  intro K hK
  refine wp_store_row 38 _ _ rfl gw rfl WX [.int .u8 0, .int .u8 0, .int .u8 0, .int .u8 0, .int .u8 0, .int .u8 0, .int .u8 0, .int .u8 0] rfl 38 HW.out (by rw [HWL.out]; rfl) (by rw [HWL.out]; rfl) HW1.out ?_
  intro w4 hr hg
  have hb4 : Below w.heap.size w w4 := HB.out.grown hg HB.out.size (by intro k hk; injection hk with hk; have := HGW.out; omega)
  have ht4 := HTH.out.off (Off.of_grown (M := [gw]) hg (fun g hg => by injection hg with hg; subst hg; simp)) (fun z hz hm => by have h8 := H.out.lt z hz; have h9 := HGW.out; rw [List.mem_singleton.1 hm] at h8; omega)
  replace HF := Lib.hid (grown_row hg (row_ne HF.out HW.out (by decide)) HF.out)
  replace HROW := Lib.hid ht4.row
  replace HNM := Lib.hid (HNM.out.grown hg (fun e => by injection e with e; exact hm_ne HNM.out HW.out e))
  replace HW := Lib.hid hr
  replace HTH := Lib.hid ht4
  replace HB := Lib.hid hb4
  clear hr hg hb4 ht4
  refine hK _ _ ⟨⟨HROW.out, HF.out, HNM.out⟩, ?_⟩
  clear hK K
  simp only [Act.put, List.setIfInBounds_toArray, List.set_cons_succ, List.set_cons_zero]
  repeat (first | (refine plan_t (by rfl) ?_; (first | go_big_quiet_skip | (go_big_quiet_want; go_big_quiet_op; go_big_quiet_on)); refine wpQuiet_nil ?_))
  clear hne
  show Exit.then _ _ _ _ _
  clear HNM hnv
  obtain ⟨ns, fs, hsm, hsf⟩ := HTH.out.sq
  have hsv := hsf c HCO.out
  rw [HO2.out] at hsv
  have HSM := Lib.hid hsm
  clear hsm hsf
  try simp only [Act.put, List.setIfInBounds_toArray, List.set_cons_succ, List.set_cons_zero]
  go_upto_region 2 with fail
  have g1 : ∀ z : In (fun y => y.heap[p]? = some (.cells (thRow (.slice la S.L.length lc) bn bs S.now bg (.slice ra S.due.length rc)).toArray THT (0, 0)) ∧ y.heap[gf]? = some (.cells RF.toArray 53 (0, 0)) ∧ HM Try.prog CIDT y bs ns fs), z.w.cell? ⟨p, 2, none⟩ = some (.map (some bs)) := fun z => cell_row z.h.1 2 _ (thRow_s ..)
  refine wp_plan (.t 0 (.t 1 (.t 2 (.t 3 (.t 4 (.t 5 (.t 6 (.t 7 (.t 8 (.t 9 (.t 10 (.t 11 .done)))))))))))) (fun y => y.heap[p]? = some (.cells (thRow (.slice la S.L.length lc) bn bs S.now bg (.slice ra S.due.length rc)).toArray THT (0, 0)) ∧ y.heap[gf]? = some (.cells RF.toArray 53 (0, 0)) ∧ HM Try.prog CIDT y bs ns fs) (by kernel_rfl) (by kernel_rfl) (by kernel_rfl) (fun c a d v w h => by cases d <;> exact h) ⟨HROW.out, HF.out, HSM.out.below (Below.refl _ _).drew⟩ ?_
  haveI hne : Nonempty (In (fun y => y.heap[p]? = some (.cells (thRow (.slice la S.L.length lc) bn bs S.now bg (.slice ra S.due.length rc)).toArray THT (0, 0)) ∧ y.heap[gf]? = some (.cells RF.toArray 53 (0, 0)) ∧ HM Try.prog CIDT y bs ns fs)) := ⟨⟨w4, ⟨HROW.out, HF.out, HSM.out⟩⟩⟩
  have hdr := (Below.refl w4.heap.size w4).drew
  replace HTH := Lib.hid (HTH.out.below hdr)
  replace HB := Lib.hid (bl_next HB.out HB.out.size hdr)
  replace HF := Lib.hid (bl_row hdr (lt_of_block HF.out) HF.out)
  replace HROW := Lib.hid (bl_row hdr (lt_of_block HROW.out) HROW.out)
  replace HW := Lib.hid (bl_row hdr (lt_of_block HW.out) HW.out)
  replace HSM := Lib.hid (HSM.out.below hdr)
  clear hdr
  generalize w4.drew = w5 at HTH HB HF HROW HW HSM ⊢
  repeat (first | (refine plan_t_load (by rfl) (by kernel_rfl) 38 _ rfl gf 11 rfl CX _ (fun y hy => rng_row hy.2.1 11 _ HFC.out) Try.underlying38 rfl (by rw [HCXL.out]; rfl) ?_; simp only [Act.put, List.setIfInBounds_toArray, List.set_cons_succ, List.set_cons_zero]) | (refine plan_t (by rfl) ?_; (first | go_big_quiet_skip | (go_big_quiet_want; go_big_quiet_op; go_big_quiet_on)); refine wpQuiet_nil ?_))
  refine plan_t_hm (z := .int .u64 0) (key := cidV c) (f := fs) (by rfl) (by kernel_rfl) _ _ _ rfl keyC Try.underlying70 zeroU rfl (by unfold cidV; rw [HCX.out]; rfl) HKL.out (fun y hy => ⟨_, hy.2.2⟩) ?_
  rw [hsv, map_getD_u64, Option.isSome_map]
  simp only [if_true]
  simp only [Act.put, List.setIfInBounds_toArray, List.set_cons_succ, List.set_cons_zero]
  repeat (first | (refine plan_t (by rfl) ?_; (first | go_big_quiet_skip | (go_big_quiet_want; go_big_quiet_op; go_big_quiet_on)); refine wpQuiet_nil ?_))
  clear hne g1 HSM hsv
  show Exit.then _ _ _ _ _
  try simp only [Act.put, List.setIfInBounds_toArray, List.set_cons_succ, List.set_cons_zero]
  have c0 := cell_row HF.out 0 _ HF0.out; have c5 := cell_row HF.out 5 _ HF5.out; have c8 := cell_row HF.out 8 _ HF8.out
  have hrc := rng_row HF.out 11 _ HFC.out
  have HRC := Lib.hid hrc
  clear hrc
  by_cases hk24 : k = 24
  · skip
    have hke : (k == 24) = true := by simpa using hk24
    cases o1 with
    | none =>
      cases o2 with
      | none =>
        by_cases hls : se < li
        · skip
          go_wp2_with fail
          go_ret
          have hon : onM S k se li c = (S, 7) := by simp [onM, badB, HO1.out, HO2.out, *]
          first | rw [hon] | (rw [hk24] at hon; rw [hon])
          exact ⟨rfl, B, la, ra, lc, rc, UpdO.of_below HB.out, HTH.out.mono⟩
        · skip
          obtain ⟨c0', c1', c2', c3', c4', c5', c6', c7', rfl⟩ := Kc.len8 HCO.out.1
          obtain rfl : [.int .u8 c0', .int .u8 c1', .int .u8 c2', .int .u8 c3', .int .u8 c4', .int .u8 c5', .int .u8 c6', .int .u8 c7'] = CX := HCX.out
          have hgB : gf ∉ B := fun hm => by have := H.out.lt _ hm; have := HGF.out; omega
          have hgl := lt_of_block HF.out
          have HGB := Lib.hid hgB; have HGL := Lib.hid hgl
          clear hgB hgl
          go_wp2_with (first | (refine wpList_load_mid rfl 38 _ rfl gf 11 rfl [.int .u8 c0', .int .u8 c1', .int .u8 c2', .int .u8 c3', .int .u8 c4', .int .u8 c5', .int .u8 c6', .int .u8 c7'] _ HRC.out Try.underlying38 rfl rfl ?_) | fail)
          refine Calls.mono (put_any w5 p B N S la ra lc rc bn bs bg HTH.out (se, [c0', c1', c2', c3', c4', c5', c6', c7']) ⟨hse, HCO.out⟩ (lookN_none HO1.out) (lookS_none HO2.out) (by omega)) ?_
          rintro e w6 ⟨rfl, B6, la6, ra6, lc6, rc6, hu6, ht6⟩
          have HU6 := Lib.hid hu6; have HT6 := Lib.hid ht6; have HF6 := Lib.hid (hu6.off.row HF.out HGB.out)
          have HG6 : Hid (gf ∉ B6) := Lib.hid (fun hm => by rcases hu6.new _ hm with h | h; exact HGB.out h; have := HGL.out; omega)
          have hln6 : (insM S.L (se, [c0', c1', c2', c3', c4', c5', c6', c7'])).length = S.L.length + 1 := insM_len _ _
          have hSL := HTH.out.len.1
          clear hu6 ht6 c0 c5 c8
          have hdr := drop_on w6 p B6 (N + 1) _ la6 ra6 lc6 rc6 bn bs bg HT6.out (fun x => decide (x.1 < li)) gf (.cells RF.toArray 53 (0, 0)) HF6.out HG6.out (fun W x hW hx => onc_any W x hx gf RF li hW HF5.out) HTI.out.due (by simp only [hln6]; omega)
          have HDR := Lib.hid hdr
          clear hdr
          go_wp2_with fail
          refine Calls.mono HDR.out ?_
          rintro e w7 ⟨rfl, B7, la7, ra7, lc7, rc7, hu7, ht7⟩
          obtain ⟨T, hT⟩ : ∃ T, dropM ⟨insM S.L (se, [c0', c1', c2', c3', c4', c5', c6', c7']), S.came ++ [(se, [c0', c1', c2', c3', c4', c5', c6', c7'])], S.due, S.was, S.now⟩ (fun x => decide (x.1 < li)) = T := ⟨_, rfl⟩
          have HT := Lib.hid hT
          rw [hT] at ht7
          have HT7 := Lib.hid (ht7.mono (N2 := N + N + 3) (by simp only [hln6]; omega)); have HU7 := Lib.hid (((UpdO.of_below HB.out).trans HU6.out).trans hu7)
          clear hT hu7 ht7 HDR
          have c0 := cell_row HT7.out.row 0 _ (thRow_l ..)
          by_cases h4 : 4 < T.L.length
          · skip
            go_wp2_with fail
            go_ret
            have hon : onM S k se li [c0', c1', c2', c3', c4', c5', c6', c7'] = (T, 10) := by
              have hbad : badB S k se [c0', c1', c2', c3', c4', c5', c6', c7'] = false := by simp [badB, HO1.out, HO2.out, hk24]
              unfold onM; rw [hbad, HO1.out]; simp only [Bool.false_eq_true, if_false, Option.isSome_none]; rw [if_neg (by omega), HT.out, if_pos h4]
            rw [hon]
            exact ⟨rfl, B7, la7, ra7, lc7, rc7, HU7.out, HT7.out⟩
          · skip
            go_wp2_with fail
            go_ret
            have hon : onM S k se li [c0', c1', c2', c3', c4', c5', c6', c7'] = (T, 0) := by
              have hbad : badB S k se [c0', c1', c2', c3', c4', c5', c6', c7'] = false := by simp [badB, HO1.out, HO2.out, hk24]
              unfold onM; rw [hbad, HO1.out]; simp only [Bool.false_eq_true, if_false, Option.isSome_none]; rw [if_neg (by omega), HT.out, if_neg h4]
            rw [hon]
            exact ⟨rfl, B7, la7, ra7, lc7, rc7, HU7.out, HT7.out⟩
      | some q =>
        by_cases hq : q = se
        · exact absurd hq (lookN_none HO1.out _ (lookS_some HO2.out))
        · skip
          have hqe : (q == se) = false := by simpa using hq
          have hqu : U64 q := (HTI.out.ok _ (lookS_some HO2.out)).1
          go_wp2_with fail
          go_ret
          have hon : onM S k se li c = (S, 10) := by simp [onM, badB, HO1.out, HO2.out, *]
          first | rw [hon] | (rw [hk24] at hon; rw [hon])
          exact ⟨rfl, B, la, ra, lc, rc, UpdO.of_below HB.out, HTH.out.mono⟩
    | some d =>
      have hdk : cidOk d := HWO.out
      have hdx : d.map (Value.int .u8) = WX := HWX.out
      have HDX := Lib.hid hdx; have HDK := Lib.hid hdk
      clear hdx hdk
      by_cases hdc : d = c
      · skip
        have hbe : (d == c) = true := by simpa using hdc
        cases o2 with
        | none => exact absurd hdc (lookS_none HO2.out (se, d) (lookN_some HO1.out))
        | some q =>
          have hqu : U64 q := (HTI.out.ok _ (lookS_some HO2.out)).1
          by_cases hq : q = se
          · skip
            have hqe : (q == se) = true := by simpa using hq
            have HQ := Lib.hid hq; have HDC := Lib.hid hdc
            clear hq hdc
            by_cases hls : se < li
            · skip
              go_wp2_with (first | (refine wpList_load_g 38 _ rfl (by kernel_rfl) gw 0 rfl WX _ (rngL HW.out) Try.underlying38 rfl (by rw [HWL.out]; rfl) ?_) | (refine wpList_load_g 38 _ rfl (by kernel_rfl) gf 11 rfl CX _ HRC.out Try.underlying38 rfl (by rw [HCXL.out]; rfl) ?_) | (refine wpList_neq_cid_g (by kernel_rfl) _ _ _ rfl d c (by rw [HDX.out]; rfl) (by rw [HCX.out]; rfl) HDK.out HCO.out ?_; rw [hbe]; simp only [Bool.not_true, Bool.not_false]) | fail)
              go_ret
              have hq := HQ.out; have hdc := HDC.out
              have hon : onM S k se li c = (S, 7) := by simp [onM, badB, HO1.out, HO2.out, *]
              first | rw [hon] | (rw [hk24] at hon; rw [hon])
              exact ⟨rfl, B, la, ra, lc, rc, UpdO.of_below HB.out, HTH.out.mono⟩
            · skip
              go_wp2_with (first | (refine wpList_load_g 38 _ rfl (by kernel_rfl) gw 0 rfl WX _ (rngL HW.out) Try.underlying38 rfl (by rw [HWL.out]; rfl) ?_) | (refine wpList_load_g 38 _ rfl (by kernel_rfl) gf 11 rfl CX _ HRC.out Try.underlying38 rfl (by rw [HCXL.out]; rfl) ?_) | (refine wpList_neq_cid_g (by kernel_rfl) _ _ _ rfl d c (by rw [HDX.out]; rfl) (by rw [HCX.out]; rfl) HDK.out HCO.out ?_; rw [hbe]; simp only [Bool.not_true, Bool.not_false]) | fail)
              go_ret
              have hq := HQ.out; have hdc := HDC.out
              have hon : onM S k se li c = (S, 0) := by simp [onM, badB, HO1.out, HO2.out, *]
              first | rw [hon] | (rw [hk24] at hon; rw [hon])
              exact ⟨rfl, B, la, ra, lc, rc, UpdO.of_below HB.out, HTH.out.mono⟩
          · skip
            have hqe : (q == se) = false := by simpa using hq
            go_wp2_with (first | (refine wpList_load_g 38 _ rfl (by kernel_rfl) gw 0 rfl WX _ (rngL HW.out) Try.underlying38 rfl (by rw [HWL.out]; rfl) ?_) | (refine wpList_load_g 38 _ rfl (by kernel_rfl) gf 11 rfl CX _ HRC.out Try.underlying38 rfl (by rw [HCXL.out]; rfl) ?_) | (refine wpList_neq_cid_g (by kernel_rfl) _ _ _ rfl d c (by rw [HDX.out]; rfl) (by rw [HCX.out]; rfl) HDK.out HCO.out ?_; rw [hbe]; simp only [Bool.not_true, Bool.not_false]) | fail)
            go_ret
            have hon : onM S k se li c = (S, 10) := by simp [onM, badB, HO1.out, HO2.out, *]
            first | rw [hon] | (rw [hk24] at hon; rw [hon])
            exact ⟨rfl, B, la, ra, lc, rc, UpdO.of_below HB.out, HTH.out.mono⟩
      · skip
        have hbe : (d == c) = false := by simpa using hdc
        go_wp2_with (first | (refine wpList_load_g 38 _ rfl (by kernel_rfl) gw 0 rfl WX _ (rngL HW.out) Try.underlying38 rfl (by rw [HWL.out]; rfl) ?_) | (refine wpList_load_g 38 _ rfl (by kernel_rfl) gf 11 rfl CX _ HRC.out Try.underlying38 rfl (by rw [HCXL.out]; rfl) ?_) | (refine wpList_neq_cid_g (by kernel_rfl) _ _ _ rfl d c (by rw [HDX.out]; rfl) (by rw [HCX.out]; rfl) HDK.out HCO.out ?_; rw [hbe]; simp only [Bool.not_true, Bool.not_false]) | fail)
        go_ret
        have hon : onM S k se li c = (S, 10) := by simp [onM, badB, HO1.out, HO2.out, *]
        first | rw [hon] | (rw [hk24] at hon; rw [hon])
        exact ⟨rfl, B, la, ra, lc, rc, UpdO.of_below HB.out, HTH.out.mono⟩
  · skip
    go_wp2_with fail
    go_ret
    have hon : onM S k se li c = (S, 10) := by simp [onM, badB, HO1.out, HO2.out, *]
    first | rw [hon] | (rw [hk24] at hon; rw [hon])
    exact ⟨rfl, B, la, ra, lc, rc, UpdO.of_below HB.out, HTH.out.mono⟩
end Go.Proofs.Ytjdcmhclamjcjaa
namespace Go.Proofs.Ytjdcmhclamjcjaa
open Go.RowKit
set_option linter.unusedVariables false
set_option linter.unusedSimpArgs false

open Go.Maps (Keyed)
def turnM (S : Th) : Th × Bool := match S.L.find? (fun x => decide (S.now.1 < x.1)) with
  | none => (S, false)
  | some x => (dropM ⟨S.L, S.came, S.due, S.was, x⟩ (fun y => decide (y = S.now)), true)
theorem thRow_rng {w : World} {p : Nat} {lv rv : Value} {bn bs bg : Nat} {now : Nm} (h : w.heap[p]? = some (.cells (thRow lv bn bs now bg rv).toArray THT (0, 0))) : w.rangeAt p 3 (nmK.enc now) := rng_row h 3 _ (fun j v hv => thRow_now _ _ _ _ _ _ j v hv)
theorem find_at {L : List Nm} {i : Nat} {x : Nm} {f : Nm → Bool} (hx : L[i]? = some x) (h : ∀ y ∈ L.take i, f y = false) (hf : f x = true) : L.find? f = some x := by
  have hl := lt_of_get hx
  have hxe : L[i] = x := by have := List.getElem?_eq_getElem hl; rw [hx] at this; injection this with this; exact this.symm
  have e : L = L.take i ++ x :: L.drop (i + 1) := by rw [← hxe, ← List.drop_eq_getElem_cons hl, List.take_append_drop]
  rw [e, List.find?_append]
  have : (L.take i).find? f = none := by rw [List.find?_eq_none]; intro y hy; rw [h y hy]; simp
  rw [this]; simp [hf]
set_option maxRecDepth 100000 in
set_option maxHeartbeats 8000000 in
theorem turn_any (w : World) (p : Nat) (B : List Nat) (N : Nat) (S : Th) (la ra : Option Addr) (lc rc bn bs bg : Nat) (h : ThAt w p B N S la ra lc rc bn bs bg) (ti : TI S) (hN : 2 * N < 90000) :
    Calls Try.prog 18 #[.pointer (some ⟨p, 0, none⟩)] w fun e w' => e = .returned (.bool (turnM S).2) ∧ ThU w p B bn bs bg w' (N + N) (turnM S).1 := by
  have H := Lib.hid h; have HTI := Lib.hid ti; have HNOW := Lib.hid h.now
  obtain ⟨L, hL⟩ : ∃ d, S.L = d := ⟨_, rfl⟩
  have HLE := Lib.hid hL
  obtain ⟨n, hn⟩ : ∃ n, L.length = n := ⟨_, rfl⟩
  have HN := Lib.hid hn
  have hnN : n ≤ N := by have := h.len.1; rw [hL, hn] at this; exact this
  have hl9 := nmK.len _ h.now; have ho9 := nmK.one _ h.now
  obtain ⟨R0, hR0⟩ : ∃ R, nmK.enc S.now = R := ⟨_, rfl⟩
  have HR0 := Lib.hid hR0
  rw [hR0] at hl9 ho9
  have HL0 : Hid (R0.length = 9) := Lib.hid hl9; have HO0 := Lib.hid ho9
  have hnu := h.now.1
  have HROW := Lib.hid h.row
  have HRG := Lib.hid (thRow_rng h.row)
  rw [hR0] at HRG
  rw [hL, hn] at HROW
  clear h ti hL hn hl9 ho9 hR0
  go_enter Try.func18, Try.ntmps18
  go_upto_region 2 with (first | (refine wpList_load_mid rfl 65 _ rfl p (3) rfl R0 _ (HRG.out) Try.underlying65 rfl (by rw [HL0.out]; rfl) ?_) | (refine wpList_store_row rfl 65 _ _ rfl w.heap.size rfl R0 [.int .u64 0, .int .u8 0, .int .u8 0, .int .u8 0, .int .u8 0, .int .u8 0, .int .u8 0, .int .u8 0, .int .u8 0] rfl 65 (heap_alloc_new _ _) (by rw [HL0.out]; rfl) (by rw [HL0.out]; rfl) HO0.out ?_; intro w1 hr1 hg1) | fail)
  have hb1 := below_boxed hg1
  have HOX := Lib.hid hr1
  have HB := Lib.hid hb1
  replace HROW := Lib.hid (bl_row hb1 (lt_of_block HROW.out) HROW.out)
  have HTH := Lib.hid (H.out.below hb1)
  clear hb1 hg1 hr1 HRG
  obtain ⟨go, hgo⟩ : ∃ g, w.heap.size = g := ⟨_, rfl⟩
  have HGO := Lib.hid hgo
  rw [hgo] at HOX ⊢
  clear hgo
  try simp only [Act.put]
  have c0 := cell_row HROW.out 0 _ (thRow_l ..)
  go_wp2_with fail
  clear c0
  go_loopw [15] (fun s1 wr => ∃ (i : Nat), s1 = .int .i64 i ∧ i ≤ n ∧ Hid (Below w1.heap.size w1 wr) ∧ Hid (∀ y ∈ L.take i, decide (S.now.1 < y.1) = false)) (fun s1 _ => n - (intOf s1).toNat)
  case atStart => exact ⟨0, rfl, by omega, Lib.hid (Below.refl _ _), Lib.hid (by simp)⟩
  case round =>
    obtain ⟨i, rfl, hi, HBW, HA⟩ := hrel
    have hbw := HBW.out
    replace HB := Lib.hid (bl_next HB.out HB.out.size hbw); replace HTH := Lib.hid (HTH.out.below hbw); replace HOX := Lib.hid (bl_row hbw (lt_of_block HOX.out) HOX.out)
    clear hbw HROW
    by_cases hlt : i < n
    · skip
      have hla : nmK.At wr la n L := by have h9 := HTH.out.l; rwa [HLE.out, HN.out] at h9
      obtain ⟨ab, ao, x, rfl, _, hx, hok, hrg⟩ := hla.at hlt
      have HX := Lib.hid hx; have HOK := Lib.hid hok; have HRG := Lib.hid hrg
      have hxu := hok.1
      clear hx hok hrg hla
      have hl9 := nmK.len x HOK.out; have ho9 := nmK.one x HOK.out
      obtain ⟨RX, hRX⟩ : ∃ R, nmK.enc x = R := ⟨_, rfl⟩
      have HRX := Lib.hid hRX
      rw [hRX] at hl9 ho9
      rw [hRX] at HRG
      have HL9 : Hid (RX.length = 9) := Lib.hid hl9; have HO9 := Lib.hid ho9
      clear hl9 ho9 hRX
      go_upto_region 5 with (first | (refine wpList_load_mid rfl 65 _ rfl ab (ao + i * 9) rfl RX _ (HRG.out) Try.underlying65 rfl (by rw [HL9.out]; rfl) ?_) | (refine wpList_store_row rfl 65 _ _ rfl wr.heap.size rfl RX [.int .u64 0, .int .u8 0, .int .u8 0, .int .u8 0, .int .u8 0, .int .u8 0, .int .u8 0, .int .u8 0, .int .u8 0] rfl 65 (heap_alloc_new _ _) (by rw [HL9.out]; rfl) (by rw [HL9.out]; rfl) HO9.out ?_; intro w5 hr5 hg5) | fail)
      have hb5 := below_boxed hg5
      have HX5 := Lib.hid hr5
      have HQ := Lib.hid (bl_next HBW.out HBW.out.size hb5)
      replace HB := Lib.hid (bl_next HB.out HB.out.size hb5); replace HTH := Lib.hid (HTH.out.below hb5); replace HOX := Lib.hid (bl_row hb5 (lt_of_block HOX.out) HOX.out)
      clear hb5 hg5 hr5 HBW
      obtain ⟨gx, hgx⟩ : ∃ g, wr.heap.size = g := ⟨_, rfl⟩
      rw [hgx] at HX5 ⊢
      clear hgx
      try simp only [Act.put]
      have x0 := cell_row HX5.out 0 _ (nm_head HRX.out); have o0 := cell_row HOX.out 0 _ (nm_head HR0.out)
      by_cases hgt : S.now.1 < x.1
      · skip
        have hfind : S.L.find? (fun x => decide (S.now.1 < x.1)) = some x := by rw [HLE.out]; exact find_at HX.out HA.out (by simpa using hgt)
        have HFI := Lib.hid hfind
        clear hfind
        have hrow : w5.heap[p]? = some (.cells ([.slice (some ⟨ab, ao, none⟩) S.L.length lc, .map (some bn), .map (some bs)] ++ (R0 ++ [.map (some bg), .slice ra S.due.length rc]) : List Value).toArray THT (0, 0)) := by have h9 := HTH.out.row; unfold thRow at h9; rw [List.append_assoc, HR0.out] at h9; exact h9
        have HROW := Lib.hid hrow
        clear hrow
        go_upto_region 7 with (first | (refine wpList_load_mid rfl 65 _ rfl gx (0) rfl RX _ (rngL HX5.out) Try.underlying65 rfl (by rw [HL9.out]; rfl) ?_) | (refine wpList_store_part rfl 65 _ _ rfl p 3 rfl RX THT [.slice (some ⟨ab, ao, none⟩) S.L.length lc, .map (some bn), .map (some bs)] R0 [.map (some bg), .slice ra S.due.length rc] rfl HROW.out rfl (by rw [HL0.out, HL9.out]) (by rw [HL9.out]; rfl) HO9.out ?_; intro w6 hr hg; have HR6 := Lib.hid hr; have HG6 := Lib.hid hg; clear hr hg) | fail)
        have ho6 : Off [p] w5 w6 := Off.of_grown HG6.out (fun g hg => by injection hg with hg; subst hg; simp)
        have hrow6 : w6.heap[p]? = some (.cells (thRow (.slice (some ⟨ab, ao, none⟩) S.L.length lc) bn bs x bg (.slice ra S.due.length rc)).toArray THT (0, 0)) := by have h9 := HR6.out; rw [← HRX.out] at h9; unfold thRow; rw [List.append_assoc]; exact h9
        have hth := HTH.out.turn ho6 hrow6 (HTH.out.l_off ho6) (HTH.out.r_off ho6) HTH.out.lc HTH.out.rc HOK.out (fun g hg => hg) (fun g hg => Nat.lt_of_lt_of_le (HTH.out.lt g hg) ho6.size) HTH.out.la HTH.out.ra HTH.out.len
        have HT6 := Lib.hid hth
        have hpo : p ≠ go := fun e => by have := H.out.lt _ H.out.pm; have := HGO.out; omega
        have HOX6 := Lib.hid (ho6.row HOX.out (by rw [List.mem_singleton]; exact fun e => hpo e.symm))
        have HGB : Hid (go ∉ B) := Lib.hid (fun hm => by have := H.out.lt _ hm; have := HGO.out; omega)
        have HU6 : Hid (UpdO B w w6 B) := Lib.hid ((UpdO.of_below HB.out).trans ⟨ho6.wide (fun y hy => by rw [List.mem_singleton.1 hy]; exact H.out.pm), fun g hg => .inl hg⟩)
        have hSL := HTH.out.len.1
        have hdr := drop_turn w6 p B N _ _ _ _ _ bn bs bg HT6.out (fun y => decide (y = S.now)) go (.cells R0.toArray 65 (0, 0)) HOX6.out HGB.out (fun W y hW hy => turnc_any W y S.now hy HNOW.out go (by rw [HR0.out]; exact hW)) HTI.out.due (by simp only; omega)
        have HDR := Lib.hid hdr
        clear hdr hth hrow6 ho6 hpo x0 o0
        try simp only [Act.put, List.setIfInBounds_toArray, List.set_cons_succ, List.set_cons_zero]
        go_wp2_with fail
        refine Calls.mono HDR.out ?_
        rintro e w7 ⟨rfl, B7, la7, ra7, lc7, rc7, hu7, ht7⟩
        have HU7 := Lib.hid (HU6.out.trans hu7); have HT7 := Lib.hid (ht7.mono (N2 := N + N) (by first | omega | (simp only; omega)))
        clear hu7 ht7 HDR
        go_wp2_with fail
        go_ret
        have htm : turnM S = (dropM ⟨S.L, S.came, S.due, S.was, x⟩ (fun y => decide (y = S.now)), true) := by unfold turnM; rw [HFI.out]
        rw [htm]
        exact ⟨rfl, B7, la7, ra7, lc7, rc7, HU7.out, HT7.out⟩
      · skip
        have hnf : decide (S.now.1 < x.1) = false := decide_eq_false hgt
        have HNF := Lib.hid hnf
        clear hnf
        go_wp2_with fail
        go_roundw
        case rel => exact ⟨i + 1, by go_num, by omega, HQ, Lib.hid (fun y hy => by rw [take_snd' HX.out] at hy; rcases List.mem_append.1 hy with hy | hy; exact HA.out y hy; rw [List.mem_singleton.1 hy]; exact HNF.out)⟩
        case measure => simp [intOf]; omega
    · obtain rfl : n = i := by omega
      have hfind : S.L.find? (fun x => decide (S.now.1 < x.1)) = none := by
        rw [HLE.out, List.find?_eq_none]
        intro y hy
        rw [HA.out y (by rw [List.take_of_length_le (by rw [HN.out]; exact Nat.le_refl _)]; exact hy)]; simp
      have HFI := Lib.hid hfind
      clear hfind
      go_wp2_with fail
      go_ret
      have htm : turnM S = (S, false) := by unfold turnM; rw [HFI.out]
      rw [htm]
      exact ⟨rfl, B, la, ra, lc, rc, UpdO.of_below HB.out, HTH.out.mono⟩
end Go.Proofs.Ytjdcmhclamjcjaa
namespace Go.Proofs.Ytjdcmhclamjcjaa
open Go.RowKit
set_option linter.unusedVariables false
set_option linter.unusedSimpArgs false

open Go.Maps (Keyed)
def retF (s : Int) : Fr := ⟨25, 0, 0, [], false, 0, 0, 0, s, 0, [], [0, 0, 0, 0, 0, 0, 0, 0]⟩
def nextS (S : Th) : Th := ⟨S.L, S.came, S.due.tail, S.was, S.now⟩
def nextV : List Int → Value
  | [] => .tuple #[.agg ((zeroF 0).cells NILV NILV).toArray, .bool false]
  | d :: _ => .tuple #[.agg ((retF d).cells NILV NILV).toArray, .bool true]
def lostM (S : Th) (k s : Int) : Th := if k = 25 ∧ s ∈ S.was then ⟨S.L, S.came, dueM S.due s, S.was, S.now⟩ else S
set_option maxRecDepth 100000 in
set_option maxHeartbeats 8000000 in
theorem next20_any (w : World) (p : Nat) (B : List Nat) (N : Nat) (S : Th) (la ra : Option Addr) (lc rc bn bs bg : Nat) (h : ThAt w p B N S la ra lc rc bn bs bg) :
    Calls Try.prog 20 #[.pointer (some ⟨p, 0, none⟩)] w fun e w' => e = .returned (nextV S.due) ∧ ThU w p B bn bs bg w' N (nextS S) := by
  have H := Lib.hid h; have HNOW := Lib.hid h.now
  have HRC := Lib.hid h.rc
  have HROW := Lib.hid h.row
  have HRA : Hid (ra = none ∨ ∃ b o, ra = some ⟨b, o, none⟩) := Lib.hid (by cases ra with | none => exact .inl rfl | some x => obtain ⟨_, _, b, o, e⟩ := H.out.ra x rfl; exact .inr ⟨b, o, by rw [e]⟩)
  obtain ⟨due, hdue⟩ : ∃ d, S.due = d := ⟨_, rfl⟩
  have HDU := Lib.hid hdue
  rw [hdue] at HROW HRC
  rw [hdue]
  clear h hdue
  go_enter Try.func20, Try.ntmps20
  go_upto_region 1 with fail
  change Code.wp _ _ _ _ (w.alloc (.cells ([.int .i64 0, .int .u64 0, .int .u64 0, .slice none 0 0, .bool false, .int .u64 0, .int .u64 0, .int .u64 0, .int .u64 0, .int .u64 0, .slice none 0 0, .int .u8 0, .int .u8 0, .int .u8 0, .int .u8 0, .int .u8 0, .int .u8 0, .int .u8 0, .int .u8 0] : List Value).toArray 53))
  have HB := Lib.hid (Below.refl w.heap.size w)
  have hb := (Below.refl w.heap.size w).alloc (Nat.le_refl _) (.cells ([.int .i64 0, .int .u64 0, .int .u64 0, .slice none 0 0, .bool false, .int .u64 0, .int .u64 0, .int .u64 0, .int .u64 0, .int .u64 0, .slice none 0 0, .int .u8 0, .int .u8 0, .int .u8 0, .int .u8 0, .int .u8 0, .int .u8 0, .int .u8 0, .int .u8 0] : List Value).toArray 53)
  replace HROW := Lib.hid (bl_row hb (lt_of_block HROW.out) HROW.out)
  replace HB := Lib.hid (bl_next HB.out HB.out.size hb)
  have HZ := Lib.hid (heap_alloc_new w (.cells ([.int .i64 0, .int .u64 0, .int .u64 0, .slice none 0 0, .bool false, .int .u64 0, .int .u64 0, .int .u64 0, .int .u64 0, .int .u64 0, .slice none 0 0, .int .u8 0, .int .u8 0, .int .u8 0, .int .u8 0, .int .u8 0, .int .u8 0, .int .u8 0, .int .u8 0] : List Value).toArray 53))
  clear hb
  generalize w.alloc (.cells ([.int .i64 0, .int .u64 0, .int .u64 0, .slice none 0 0, .bool false, .int .u64 0, .int .u64 0, .int .u64 0, .int .u64 0, .int .u64 0, .slice none 0 0, .int .u8 0, .int .u8 0, .int .u8 0, .int .u8 0, .int .u8 0, .int .u8 0, .int .u8 0, .int .u8 0] : List Value).toArray 53) = w1 at HROW HB HZ ⊢
  obtain ⟨gz, hg⟩ : ∃ g, w.heap.size = g := ⟨_, rfl⟩
  rw [hg] at HZ ⊢
  have HGZ := Lib.hid hg
  clear hg
  have c13 := cell_row HROW.out 13 _ (thRow_r _ _ _ _ _ HNOW.out)
  cases due with
  | nil =>
    simp only [List.length_nil] at c13
    go_wp2_with (first | (refine wpList_store_row rfl 53 _ _ rfl gz rfl [.int .i64 0, .int .u64 0, .int .u64 0, .slice none 0 0, .bool false, .int .u64 0, .int .u64 0, .int .u64 0, .int .u64 0, .int .u64 0, .slice none 0 0, .int .u8 0, .int .u8 0, .int .u8 0, .int .u8 0, .int .u8 0, .int .u8 0, .int .u8 0, .int .u8 0] [.int .i64 0, .int .u64 0, .int .u64 0, .slice none 0 0, .bool false, .int .u64 0, .int .u64 0, .int .u64 0, .int .u64 0, .int .u64 0, .slice none 0 0, .int .u8 0, .int .u8 0, .int .u8 0, .int .u8 0, .int .u8 0, .int .u8 0, .int .u8 0, .int .u8 0] rfl 53 HZ.out rfl rfl (one19 rfl rfl) ?_; intro w9 hz hg9; have HZ9 := Lib.hid hz; have HG9 := Lib.hid hg9; clear hz hg9) | fail)
    refine bodyPost_ret (results_cell2 rfl _ _ gz rfl [.int .i64 0, .int .u64 0, .int .u64 0, .slice none 0 0, .bool false, .int .u64 0, .int .u64 0, .int .u64 0, .int .u64 0, .int .u64 0, .slice none 0 0, .int .u8 0, .int .u8 0, .int .u8 0, .int .u8 0, .int .u8 0, .int .u8 0, .int .u8 0, .int .u8 0] _ _ HZ9.out Try.underlying53 rfl rfl) rfl ?_
    have hbz : Below w.heap.size w w9 := HB.out.grown HG9.out HB.out.size (by intro k hk; injection hk with hk; have := HGZ.out; omega)
    have hs : nextS S = S := by have h9 := HDU.out; cases S; simp only at h9; subst h9; rfl
    refine ⟨rfl, ?_⟩
    rw [hs]
    exact ⟨B, la, ra, lc, rc, UpdO.of_below hbz, H.out.below hbz⟩
  | cons d l =>
    have hr := H.out.r
    rw [HDU.out] at hr
    rcases HRA.out with rfl | ⟨rb, ro, rfl⟩
    · rcases hr.2.2 with h | ⟨_, _, h, _⟩; cases h; cases h
    · skip
      obtain ⟨ab, ao, d', e9, hab, hx, hok, hrg⟩ := hr.at (j := 0) (by simp)
      injection e9 with e9; injection e9 with e9 e10; subst e9; subst e10
      obtain rfl : d = d' := by simpa using hx
      have hd0 := u64_cell hrg
      rw [Nat.add_zero] at hd0
      have hd1 : w1.cell? ⟨rb, ro, none⟩ = some (.int .u64 d) := bl_cell HB.out (p := ⟨rb, ro, none⟩) hab hd0
      have HD1 := Lib.hid hd1
      have hdu : 0 ≤ d ∧ d < 18446744073709551616 := hok
      clear hx hok hrg hd0 hab hd1 hr
      obtain ⟨n, hn⟩ : ∃ n, l.length = n := ⟨_, rfl⟩
      have HN := Lib.hid hn
      simp only [List.length_cons, hn] at c13 HROW HRC
      clear hn
      obtain ⟨hrc, hrcm⟩ := HRC.out
      have hd1 := HD1.out
      have f13 := row_free HROW.out 13
      go_upto_region 5 with fail
      clear c13 f13 hd1
      have hgs := grown_setCell w1 p 13 (.slice (if rc = 1 then (some ⟨rb, ro, none⟩ : Option Addr) else some ⟨rb, ro + 1, none⟩) n (rc - 1))
      have hrs := row_setL HROW.out 13 (.slice (if rc = 1 then (some ⟨rb, ro, none⟩ : Option Addr) else some ⟨rb, ro + 1, none⟩) n (rc - 1))
      rw [thRow_setr _ _ _ _ _ _ HNOW.out] at hrs
      have ho9 : Off [p] w (w1.setCell ⟨p, 13, none⟩ (.slice (if rc = 1 then (some ⟨rb, ro, none⟩ : Option Addr) else some ⟨rb, ro + 1, none⟩) n (rc - 1))) := (Off.of_below (M := [p]) HB.out).setCell (k := 13) (List.mem_singleton.2 rfl) (.slice (if rc = 1 then (some ⟨rb, ro, none⟩ : Option Addr) else some ⟨rb, ro + 1, none⟩) n (rc - 1))
      have hz9 := grown_row hgs (row_ne HZ.out HROW.out (by decide)) HZ.out
      have HO9 := Lib.hid ho9; have HR9 := Lib.hid hrs; have HZ9 := Lib.hid hz9
      clear hgs hrs ho9 hz9
      generalize w1.setCell ⟨p, 13, none⟩ (.slice (if rc = 1 then (some ⟨rb, ro, none⟩ : Option Addr) else some ⟨rb, ro + 1, none⟩) n (rc - 1)) = w5 at HO9 HR9 HZ9 ⊢
      have HIF : Hid (∀ y, (if rc = 1 then (some ⟨rb, ro, none⟩ : Option Addr) else some ⟨rb, ro + 1, none⟩) = some y → y.block = rb ∧ ∃ b o, y = ⟨b, o, none⟩) := Lib.hid (fun y hy => by split at hy <;> (injection hy with hy; subst hy; exact ⟨rfl, _, _, rfl⟩))
      have hro := H.out.r_off HO9.out
      rw [HDU.out] at hro
      simp only [List.length_cons, HN.out] at hro
      have hsf := hro.sufC 1 rc (by omega) (by omega)
      rw [show n + 1 - 1 = n by omega, show 1 * u64K.N = 1 from rfl] at hsf
      have HSF := Lib.hid hsf
      clear hro hsf
      generalize (if rc = 1 then (some ⟨rb, ro, none⟩ : Option Addr) else some ⟨rb, ro + 1, none⟩) = dsx at HIF HSF HR9 ⊢
      go_wp2_with (first | (refine wpList_store_row rfl 53 _ _ rfl gz rfl [.int .i64 25, .int .u64 0, .int .u64 0, .slice none 0 0, .bool false, .int .u64 0, .int .u64 0, .int .u64 0, .int .u64 d, .int .u64 0, .slice none 0 0, .int .u8 0, .int .u8 0, .int .u8 0, .int .u8 0, .int .u8 0, .int .u8 0, .int .u8 0, .int .u8 0] [.int .i64 0, .int .u64 0, .int .u64 0, .slice none 0 0, .bool false, .int .u64 0, .int .u64 0, .int .u64 0, .int .u64 0, .int .u64 0, .slice none 0 0, .int .u8 0, .int .u8 0, .int .u8 0, .int .u8 0, .int .u8 0, .int .u8 0, .int .u8 0, .int .u8 0] rfl 53 HZ9.out rfl rfl (one19 rfl rfl) ?_; intro w9 hz hg9; have HZ10 := Lib.hid hz; have HG9 := Lib.hid hg9; clear hz hg9) | fail)
      refine bodyPost_ret (results_cell2 rfl _ _ gz rfl [.int .i64 25, .int .u64 0, .int .u64 0, .slice none 0 0, .bool false, .int .u64 0, .int .u64 0, .int .u64 0, .int .u64 d, .int .u64 0, .slice none 0 0, .int .u8 0, .int .u8 0, .int .u8 0, .int .u8 0, .int .u8 0, .int .u8 0, .int .u8 0, .int .u8 0] _ _ HZ10.out Try.underlying53 rfl rfl) rfl ?_
      have ho10 : Off [p] w w9 := HO9.out.fresh HG9.out (by rw [HGZ.out]; exact Nat.le_refl _)
      have hr10 := grown_row HG9.out (row_ne HR9.out HZ9.out (by decide)) HR9.out
      have hsf2 : u64K.At w9 dsx n l := HSF.out.grown HG9.out (fun y hy e => by injection e with e; have h8 := H.out.lt _ (H.out.ra _ rfl).1; have := HGZ.out; rw [(HIF.out y hy).1] at e; simp only at h8; omega)
      refine ⟨rfl, B, la, dsx, lc, rc - 1, ⟨ho10.wide (fun y hy => by rw [List.mem_singleton.1 hy]; exact H.out.pm), fun g hg => .inl hg⟩, ?_⟩
      unfold nextS; rw [HDU.out]
      exact H.out.turn ho10 (by simp only [List.tail_cons, HN.out]; exact hr10) (H.out.l_off ho10) (by simp only [List.tail_cons, HN.out]; exact hsf2) H.out.lc (by simp only [List.tail_cons, HN.out]; omega) HNOW.out (fun g hg => hg) (fun g hg => Nat.lt_of_lt_of_le (H.out.lt g hg) ho10.size) H.out.la (fun y hy => ⟨by have h8 := (H.out.ra _ rfl).1; rw [(HIF.out y hy).1]; exact h8, by have h8 := (H.out.ra _ rfl).2.1; rw [(HIF.out y hy).1]; exact h8, (HIF.out y hy).2⟩) ⟨H.out.len.1, by have h8 := H.out.len.2; rw [HDU.out] at h8; simp only [List.length_cons, HN.out] at h8; simp only [List.tail_cons, HN.out]; omega⟩
end Go.Proofs.Ytjdcmhclamjcjaa
namespace Go.Proofs.Ytjdcmhclamjcjaa
open Go.RowKit
set_option linter.unusedVariables false
set_option linter.unusedSimpArgs false

open Go.Maps (Keyed)
set_option maxRecDepth 100000 in
set_option maxHeartbeats 8000000 in
theorem lost20_any (w : World) (p : Nat) (B : List Nat) (N : Nat) (S : Th) (la ra : Option Addr) (lc rc bn bs bg : Nat) (h : ThAt w p B N S la ra lc rc bn bs bg) (ti : TI S) (f : Fr) (hf : f.Wf) (dv rv : Value) (hd1 : dv.oneCell' = true) (hr1 : rv.oneCell' = true) (hN : N < 90000) :
    Calls Try.prog 23 #[.pointer (some ⟨p, 0, none⟩), .agg (f.cells dv rv).toArray] w fun e w' => e = .returned (.tuple #[]) ∧ ThU w p B bn bs bg w' (N + 1) (lostM S f.kind f.se) := by
  have H := Lib.hid h; have HTI := Lib.hid ti
  have HNOW := Lib.hid h.now
  have hse := hf.se; have hkd := hf.kind
  obtain ⟨f0, f5, f8⟩ := frc (f := f) (dv := dv) (rv := rv)
  have hfl : (f.cells dv rv).length = 19 := by simp [Fr.cells, hf.cidl]
  obtain ⟨RF, hRF⟩ : ∃ R, f.cells dv rv = R := ⟨_, rfl⟩
  rw [hRF] at f0 f5 f8 hfl ⊢
  have HF0 := Lib.hid f0; have HF8 := Lib.hid f8
  obtain ⟨k, hk⟩ : ∃ k, f.kind = k := ⟨_, rfl⟩
  obtain ⟨se, hs⟩ : ∃ k, f.se = k := ⟨_, rfl⟩
  rw [hk] at hkd HF0 ⊢; rw [hs] at hse HF8 ⊢
  clear h ti hf f0 f5 f8 hfl hk hs hRF hd1 hr1
  go_enter Try.func23, Try.ntmps23
  go_upto_region 1 with fail
  change Code.wp _ _ _ _ (w.alloc (.cells RF.toArray 53))
  have HTH := H
  have HB := Lib.hid (Below.refl w.heap.size w)
  have HB2 := HB
  have hb := (Below.refl w.heap.size w).alloc (Nat.le_refl _) (.cells RF.toArray 53)
  replace HTH := Lib.hid (HTH.out.below hb)
  replace HB := Lib.hid (bl_next HB.out HB.out.size hb)
  have HF := Lib.hid (heap_alloc_new w (.cells RF.toArray 53))
  clear hb
  generalize w.alloc (.cells RF.toArray 53) = w1 at HTH HB HF ⊢
  obtain ⟨gf, hg⟩ : ∃ g, w.heap.size = g := ⟨_, rfl⟩
  rw [hg] at HF ⊢
  have HGF := Lib.hid hg
  clear hg
  clear HB2
  obtain ⟨ng, fg, hgm, hgf⟩ := HTH.out.gn
  have HGM := Lib.hid hgm
  have hgv := hgf se hse
  have HROW := Lib.hid HTH.out.row
  clear hgm hgf
  by_cases hk : k = 25
  · skip
    have hke : (k == 25) = true := by simpa using hk
    by_cases hm : se ∈ S.was
    · skip
      rw [if_pos hm] at hgv
      have HGV := Lib.hid hgv
      clear hgv
      have g1 : ∀ z : In (fun y => y.heap[p]? = some (.cells (thRow (.slice la S.L.length lc) bn bs S.now bg (.slice ra S.due.length rc)).toArray THT (0, 0)) ∧ y.heap[gf]? = some (.cells RF.toArray 53 (0, 0)) ∧ HM Try.prog U64T y bg ng fg), z.w.cell? ⟨p, 12, none⟩ = some (.map (some bg)) := fun z => cell_row z.h.1 12 _ (thRow_g _ _ _ _ _ HNOW.out)
      have g2 : ∀ z : In (fun y => y.heap[p]? = some (.cells (thRow (.slice la S.L.length lc) bn bs S.now bg (.slice ra S.due.length rc)).toArray THT (0, 0)) ∧ y.heap[gf]? = some (.cells RF.toArray 53 (0, 0)) ∧ HM Try.prog U64T y bg ng fg), z.w.cell? ⟨gf, 8, none⟩ = some (.int .u64 se) := fun z => cell_row z.h.2.1 8 _ HF8.out
      have g3 : ∀ z : In (fun y => y.heap[p]? = some (.cells (thRow (.slice la S.L.length lc) bn bs S.now bg (.slice ra S.due.length rc)).toArray THT (0, 0)) ∧ y.heap[gf]? = some (.cells RF.toArray 53 (0, 0)) ∧ HM Try.prog U64T y bg ng fg), z.w.cell? ⟨gf, 0, none⟩ = some (.int .i64 k) := fun z => cell_row z.h.2.1 0 _ HF0.out
      refine wp_plan (.t 0 (.t 1 (.t 2 (.t 3 (.t 4 (.t 5 (.t 6 (.t 7 (.t 8 (.t 9 (.t 10 (.t 11 .done)))))))))))) (fun y => y.heap[p]? = some (.cells (thRow (.slice la S.L.length lc) bn bs S.now bg (.slice ra S.due.length rc)).toArray THT (0, 0)) ∧ y.heap[gf]? = some (.cells RF.toArray 53 (0, 0)) ∧ HM Try.prog U64T y bg ng fg) (by kernel_rfl) (by kernel_rfl) (by kernel_rfl) (fun c a d v w h => by cases d <;> exact h) ⟨HROW.out, HF.out, HGM.out.below (Below.refl _ _).drew⟩ ?_
      haveI hne : Nonempty (In (fun y => y.heap[p]? = some (.cells (thRow (.slice la S.L.length lc) bn bs S.now bg (.slice ra S.due.length rc)).toArray THT (0, 0)) ∧ y.heap[gf]? = some (.cells RF.toArray 53 (0, 0)) ∧ HM Try.prog U64T y bg ng fg)) := ⟨⟨w1, ⟨HROW.out, HF.out, HGM.out⟩⟩⟩
      have hdr := (Below.refl w1.heap.size w1).drew
      replace HTH := Lib.hid (HTH.out.below hdr)
      replace HB := Lib.hid (bl_next HB.out HB.out.size hdr)
      replace HF := Lib.hid (bl_row hdr (lt_of_block HF.out) HF.out)
      replace HROW := Lib.hid (bl_row hdr (lt_of_block HROW.out) HROW.out)
      replace HGM := Lib.hid (HGM.out.below hdr)
      clear hdr
      generalize w1.drew = w2 at HTH HB HF HROW HGM ⊢
      repeat (first | (refine plan_t (by rfl) ?_; (first | go_big_quiet_skip | (go_big_quiet_want; go_big_quiet_op; go_big_quiet_on)); refine wpQuiet_nil ?_))
      refine plan_t_hm (z := .bool false) (key := .int .u64 se) (f := fg) (by rfl) (by kernel_rfl) _ _ _ rfl keyU Try.underlying71 zeroB rfl rfl (keyUof hse) (fun y hy => ⟨_, hy.2.2⟩) ?_
      rw [HGV.out]
      simp only [Act.put, List.setIfInBounds_toArray, List.set_cons_succ, List.set_cons_zero]
      simp only [Option.getD_some, Option.getD_none, Bool.false_eq_true, if_false]
      repeat (first | (refine plan_t (by rfl) ?_; (first | go_big_quiet_skip | (go_big_quiet_want; go_big_quiet_op; go_big_quiet_on)); refine wpQuiet_nil ?_))
      clear hne g1 g2 g3
      show Exit.then _ _ _ _ _
      have c8 := cell_row HF.out 8 _ HF8.out
      go_wp2_with fail
      refine Calls.mono (ask_any w2 p B N S la ra lc rc bn bs bg HTH.out se hse HTI.out.due (by omega)) ?_
      rintro e w6 ⟨rfl, B6, ra6, rc6, hu6, ht6⟩
      have hl : lostM S k se = ⟨S.L, S.came, dueM S.due se, S.was, S.now⟩ := by unfold lostM; rw [if_pos ⟨hk, hm⟩]
      have HL9 : Hid (ThU w p B bn bs bg w6 (N + 1) (lostM S k se)) := Lib.hid (by rw [hl]; exact ⟨B6, la, ra6, lc, rc6, (UpdO.of_below HB.out).trans hu6, ht6⟩)
      clear hu6 ht6 hl c8
      go_wp2_with fail
      (try simp only [Exit.inBlock, Exit.then])
      refine bodyPost_end (results_none rfl _ _ _) rfl ⟨rfl, HL9.out⟩
    · skip
      rw [if_neg hm] at hgv
      have HGV := Lib.hid hgv
      clear hgv
      have g1 : ∀ z : In (fun y => y.heap[p]? = some (.cells (thRow (.slice la S.L.length lc) bn bs S.now bg (.slice ra S.due.length rc)).toArray THT (0, 0)) ∧ y.heap[gf]? = some (.cells RF.toArray 53 (0, 0)) ∧ HM Try.prog U64T y bg ng fg), z.w.cell? ⟨p, 12, none⟩ = some (.map (some bg)) := fun z => cell_row z.h.1 12 _ (thRow_g _ _ _ _ _ HNOW.out)
      have g2 : ∀ z : In (fun y => y.heap[p]? = some (.cells (thRow (.slice la S.L.length lc) bn bs S.now bg (.slice ra S.due.length rc)).toArray THT (0, 0)) ∧ y.heap[gf]? = some (.cells RF.toArray 53 (0, 0)) ∧ HM Try.prog U64T y bg ng fg), z.w.cell? ⟨gf, 8, none⟩ = some (.int .u64 se) := fun z => cell_row z.h.2.1 8 _ HF8.out
      have g3 : ∀ z : In (fun y => y.heap[p]? = some (.cells (thRow (.slice la S.L.length lc) bn bs S.now bg (.slice ra S.due.length rc)).toArray THT (0, 0)) ∧ y.heap[gf]? = some (.cells RF.toArray 53 (0, 0)) ∧ HM Try.prog U64T y bg ng fg), z.w.cell? ⟨gf, 0, none⟩ = some (.int .i64 k) := fun z => cell_row z.h.2.1 0 _ HF0.out
      refine wp_plan (.t 0 (.t 1 (.t 2 (.t 3 (.t 4 (.t 5 (.t 6 (.t 7 (.t 8 (.t 9 (.t 10 (.t 11 .done)))))))))))) (fun y => y.heap[p]? = some (.cells (thRow (.slice la S.L.length lc) bn bs S.now bg (.slice ra S.due.length rc)).toArray THT (0, 0)) ∧ y.heap[gf]? = some (.cells RF.toArray 53 (0, 0)) ∧ HM Try.prog U64T y bg ng fg) (by kernel_rfl) (by kernel_rfl) (by kernel_rfl) (fun c a d v w h => by cases d <;> exact h) ⟨HROW.out, HF.out, HGM.out.below (Below.refl _ _).drew⟩ ?_
      haveI hne : Nonempty (In (fun y => y.heap[p]? = some (.cells (thRow (.slice la S.L.length lc) bn bs S.now bg (.slice ra S.due.length rc)).toArray THT (0, 0)) ∧ y.heap[gf]? = some (.cells RF.toArray 53 (0, 0)) ∧ HM Try.prog U64T y bg ng fg)) := ⟨⟨w1, ⟨HROW.out, HF.out, HGM.out⟩⟩⟩
      have hdr := (Below.refl w1.heap.size w1).drew
      replace HTH := Lib.hid (HTH.out.below hdr)
      replace HB := Lib.hid (bl_next HB.out HB.out.size hdr)
      replace HF := Lib.hid (bl_row hdr (lt_of_block HF.out) HF.out)
      replace HROW := Lib.hid (bl_row hdr (lt_of_block HROW.out) HROW.out)
      replace HGM := Lib.hid (HGM.out.below hdr)
      clear hdr
      generalize w1.drew = w2 at HTH HB HF HROW HGM ⊢
      repeat (first | (refine plan_t (by rfl) ?_; (first | go_big_quiet_skip | (go_big_quiet_want; go_big_quiet_op; go_big_quiet_on)); refine wpQuiet_nil ?_))
      refine plan_t_hm (z := .bool false) (key := .int .u64 se) (f := fg) (by rfl) (by kernel_rfl) _ _ _ rfl keyU Try.underlying71 zeroB rfl rfl (keyUof hse) (fun y hy => ⟨_, hy.2.2⟩) ?_
      rw [HGV.out]
      simp only [Act.put, List.setIfInBounds_toArray, List.set_cons_succ, List.set_cons_zero]
      simp only [Option.getD_some, Option.getD_none, Bool.false_eq_true, if_false]
      repeat (first | (refine plan_t (by rfl) ?_; (first | go_big_quiet_skip | (go_big_quiet_want; go_big_quiet_op; go_big_quiet_on)); refine wpQuiet_nil ?_))
      clear hne g1 g2 g3
      show Exit.then _ _ _ _ _
      have c8 := cell_row HF.out 8 _ HF8.out
      go_wp2_with fail
      have hl : lostM S k se = S := by unfold lostM; rw [if_neg (fun e => hm e.2)]
      (try simp only [Exit.inBlock, Exit.then])
      rw [hl]
      refine bodyPost_end (results_none rfl _ _ _) rfl ⟨rfl, B, la, ra, lc, rc, UpdO.of_below HB.out, HTH.out.mono⟩
  · skip
    have hke : (k == 25) = false := by simpa using hk
    have g1 : ∀ z : In (fun y => y.heap[p]? = some (.cells (thRow (.slice la S.L.length lc) bn bs S.now bg (.slice ra S.due.length rc)).toArray THT (0, 0)) ∧ y.heap[gf]? = some (.cells RF.toArray 53 (0, 0)) ∧ HM Try.prog U64T y bg ng fg), z.w.cell? ⟨p, 12, none⟩ = some (.map (some bg)) := fun z => cell_row z.h.1 12 _ (thRow_g _ _ _ _ _ HNOW.out)
    have g2 : ∀ z : In (fun y => y.heap[p]? = some (.cells (thRow (.slice la S.L.length lc) bn bs S.now bg (.slice ra S.due.length rc)).toArray THT (0, 0)) ∧ y.heap[gf]? = some (.cells RF.toArray 53 (0, 0)) ∧ HM Try.prog U64T y bg ng fg), z.w.cell? ⟨gf, 8, none⟩ = some (.int .u64 se) := fun z => cell_row z.h.2.1 8 _ HF8.out
    have g3 : ∀ z : In (fun y => y.heap[p]? = some (.cells (thRow (.slice la S.L.length lc) bn bs S.now bg (.slice ra S.due.length rc)).toArray THT (0, 0)) ∧ y.heap[gf]? = some (.cells RF.toArray 53 (0, 0)) ∧ HM Try.prog U64T y bg ng fg), z.w.cell? ⟨gf, 0, none⟩ = some (.int .i64 k) := fun z => cell_row z.h.2.1 0 _ HF0.out
    refine wp_plan (.t 0 (.t 1 (.t 2 (.t 3 (.t 4 (.t 5 (.t 6 (.t 7 (.t 8 (.t 9 (.t 10 (.t 11 .done)))))))))))) (fun y => y.heap[p]? = some (.cells (thRow (.slice la S.L.length lc) bn bs S.now bg (.slice ra S.due.length rc)).toArray THT (0, 0)) ∧ y.heap[gf]? = some (.cells RF.toArray 53 (0, 0)) ∧ HM Try.prog U64T y bg ng fg) (by kernel_rfl) (by kernel_rfl) (by kernel_rfl) (fun c a d v w h => by cases d <;> exact h) ⟨HROW.out, HF.out, HGM.out.below (Below.refl _ _).drew⟩ ?_
    haveI hne : Nonempty (In (fun y => y.heap[p]? = some (.cells (thRow (.slice la S.L.length lc) bn bs S.now bg (.slice ra S.due.length rc)).toArray THT (0, 0)) ∧ y.heap[gf]? = some (.cells RF.toArray 53 (0, 0)) ∧ HM Try.prog U64T y bg ng fg)) := ⟨⟨w1, ⟨HROW.out, HF.out, HGM.out⟩⟩⟩
    have hdr := (Below.refl w1.heap.size w1).drew
    replace HTH := Lib.hid (HTH.out.below hdr)
    replace HB := Lib.hid (bl_next HB.out HB.out.size hdr)
    replace HF := Lib.hid (bl_row hdr (lt_of_block HF.out) HF.out)
    replace HROW := Lib.hid (bl_row hdr (lt_of_block HROW.out) HROW.out)
    replace HGM := Lib.hid (HGM.out.below hdr)
    clear hdr
    generalize w1.drew = w2 at HTH HB HF HROW HGM ⊢
    repeat (first | (refine plan_t (by rfl) ?_; (first | go_big_quiet_skip | (go_big_quiet_want; go_big_quiet_op; go_big_quiet_on)); refine wpQuiet_nil ?_))
    clear hne g1 g2 g3
    show Exit.then _ _ _ _ _
    go_wp2_with fail
    have hl : lostM S k se = S := by unfold lostM; rw [if_neg (fun e => hk e.1)]
    (try simp only [Exit.inBlock, Exit.then])
    rw [hl]
    refine bodyPost_end (results_none rfl _ _ _) rfl ⟨rfl, B, la, ra, lc, rc, UpdO.of_below HB.out, HTH.out.mono⟩
set_option maxRecDepth 100000 in
theorem len20_any (w : World) (p : Nat) (B : List Nat) (N : Nat) (S : Th) (la ra : Option Addr) (lc rc bn bs bg : Nat) (h : ThAt w p B N S la ra lc rc bn bs bg) : Calls Try.prog 49 #[.pointer (some ⟨p, 0, none⟩)] w fun e w' => e = .returned (.int .i64 S.L.length) ∧ Below w.heap.size w w' := by
  have HROW := Lib.hid h.row
  clear h
  have c0 := cell_row HROW.out 0 _ (thRow_l ..)
  go_enter Try.func49, Try.ntmps49
  go_wp2_with fail
  go_ret
  exact ⟨rfl, Below.refl _ _⟩
set_option maxRecDepth 100000 in
theorem now20_any (w : World) (p : Nat) (B : List Nat) (N : Nat) (S : Th) (la ra : Option Addr) (lc rc bn bs bg : Nat) (h : ThAt w p B N S la ra lc rc bn bs bg) : Calls Try.prog 30 #[.pointer (some ⟨p, 0, none⟩)] w fun e w' => e = .returned (cidV S.now.2) ∧ Below w.heap.size w w' := by
  have HROW := Lib.hid h.row
  have HNOW := Lib.hid h.now
  clear h
  have hcl : (S.now.2.map (Value.int .u8)).length = 8 := by simp [HNOW.out.2.1]
  have htl := fun j v h => thRow_now (.slice la S.L.length lc) (.slice ra S.due.length rc) bn bs bg S.now (1 + j) v (nm_tail (R := nmK.enc S.now) rfl j v h)
  have hw1 : ∀ v ∈ S.now.2.map (Value.int .u8), v.oneCell' = true := cdK.one _ HNOW.out.2
  obtain ⟨CX, hCX⟩ : ∃ C, S.now.2.map (Value.int .u8) = C := ⟨_, rfl⟩
  have HCX := Lib.hid hCX
  rw [hCX] at hcl htl hw1
  have HCXL := Lib.hid hcl; have HW1 := Lib.hid hw1; have HTL := Lib.hid htl
  clear hcl htl hw1 hCX
  go_enter Try.func30, Try.ntmps30
  go_upto_region 1 with fail
  change Code.wp _ _ _ _ (w.alloc (.cells ([.int .u8 0, .int .u8 0, .int .u8 0, .int .u8 0, .int .u8 0, .int .u8 0, .int .u8 0, .int .u8 0] : List Value).toArray 38))
  have HB := Lib.hid (Below.refl w.heap.size w)
  have HB2 := HB
  have hb := (Below.refl w.heap.size w).alloc (Nat.le_refl _) (.cells ([.int .u8 0, .int .u8 0, .int .u8 0, .int .u8 0, .int .u8 0, .int .u8 0, .int .u8 0, .int .u8 0] : List Value).toArray 38)
  replace HROW := Lib.hid (bl_row hb (lt_of_block HROW.out) HROW.out)
  replace HB := Lib.hid (bl_next HB.out HB.out.size hb)
  have HZ := Lib.hid (heap_alloc_new w (.cells ([.int .u8 0, .int .u8 0, .int .u8 0, .int .u8 0, .int .u8 0, .int .u8 0, .int .u8 0, .int .u8 0] : List Value).toArray 38))
  clear hb
  generalize w.alloc (.cells ([.int .u8 0, .int .u8 0, .int .u8 0, .int .u8 0, .int .u8 0, .int .u8 0, .int .u8 0, .int .u8 0] : List Value).toArray 38) = w1 at HROW HB HZ ⊢
  obtain ⟨gz, hg⟩ : ∃ g, w.heap.size = g := ⟨_, rfl⟩
  rw [hg] at HZ ⊢
  have HGZ := Lib.hid hg
  clear hg
  clear HB2
  have hrc := rng_row HROW.out 4 CX (fun j v h => by have h9 := HTL.out j v h; rwa [show 3 + (1 + j) = 4 + j by omega] at h9)
  have HRC := Lib.hid hrc
  clear hrc
  go_wp2_with (first | (refine wpList_load_g 38 _ rfl (by kernel_rfl) p 4 rfl CX _ HRC.out Try.underlying38 rfl (by rw [HCXL.out]; rfl) ?_) | (refine wpList_store_row rfl 38 _ _ rfl gz rfl CX [.int .u8 0, .int .u8 0, .int .u8 0, .int .u8 0, .int .u8 0, .int .u8 0, .int .u8 0, .int .u8 0] rfl 38 HZ.out (by rw [HCXL.out]; rfl) (by rw [HCXL.out]; rfl) HW1.out ?_; intro w9 hz hg9; have HZ9 := Lib.hid hz; have HG9 := Lib.hid hg9; clear hz hg9) | fail)
  refine bodyPost_ret (results_cell1 rfl _ _ gz rfl CX _ _ HZ9.out Try.underlying38 rfl (by rw [HCXL.out]; rfl)) rfl ?_
  refine ⟨by unfold cidV; rw [HCX.out], HB.out.grown HG9.out HB.out.size (by intro k hk; injection hk with hk; have := HGZ.out; omega)⟩
end Go.Proofs.Ytjdcmhclamjcjaa
namespace Go.Proofs.Ytjdcmhclamjcjaa
open Go.RowKit
set_option linter.unusedVariables false
set_option linter.unusedSimpArgs false

structure RH where
  la : Option Addr
  lc : Nat
  ca : Option Addr
  cc : Nat
  ra : Option Addr
  rc : Nat
  wa : Option Addr
  wc : Nat
abbrev RTT : TypeId := 80
def rtRow (v0 v1 v2 v3 : Value) (now : Nm) : List Value := [v0, v1, v2, v3] ++ nmK.enc now
def RH.has (h : RH) (x : Addr) : Prop := h.la = some x ∨ h.ca = some x ∨ h.ra = some x ∨ h.wa = some x
structure RtAt (w : World) (p : Nat) (B : List Nat) (N : Nat) (S : Th) (h : RH) : Prop where
  row : w.heap[p]? = some (.cells (rtRow (.slice h.la S.L.length h.lc) (.slice h.ca S.came.length h.cc) (.slice h.ra S.due.length h.rc) (.slice h.wa S.was.length h.wc) S.now).toArray RTT (0, 0))
  l : nmK.At w h.la S.L.length S.L
  c : nmK.At w h.ca S.came.length S.came
  r : u64K.At w h.ra S.due.length S.due
  s : u64K.At w h.wa S.was.length S.was
  lc : S.L.length ≤ h.lc ∧ h.lc ≤ 9223372036854775807
  cc : S.came.length ≤ h.cc ∧ h.cc ≤ 9223372036854775807
  rc : S.due.length ≤ h.rc ∧ h.rc ≤ 9223372036854775807
  wc : S.was.length ≤ h.wc ∧ h.wc ≤ 9223372036854775807
  now : nmK.ok S.now
  pm : p ∈ B
  ad : ∀ x, h.has x → x.block ∈ B ∧ x.block ≠ p ∧ ∃ b o, x = ⟨b, o, none⟩
  lt : ∀ g ∈ B, g < w.heap.size
  len : S.L.length ≤ N ∧ S.came.length ≤ N ∧ S.due.length ≤ N ∧ S.was.length ≤ N
section
variable {w y : World} {p N : Nat} {B M : List Nat} {S : Th} {h : RH}
theorem RtAt.off (hr : RtAt w p B N S h) (ho : Off M w y) (hd : ∀ g ∈ B, g ∉ M) : RtAt y p B N S h :=
  ⟨ho.row hr.row (hd _ hr.pm), ho.rk hr.l (fun x hx => hd _ (hr.ad x (.inl hx)).1), ho.rk hr.c (fun x hx => hd _ (hr.ad x (.inr (.inl hx))).1), ho.rk hr.r (fun x hx => hd _ (hr.ad x (.inr (.inr (.inl hx)))).1), ho.rk hr.s (fun x hx => hd _ (hr.ad x (.inr (.inr (.inr hx)))).1), hr.lc, hr.cc, hr.rc, hr.wc, hr.now, hr.pm, hr.ad, fun g hg => Nat.lt_of_lt_of_le (hr.lt g hg) ho.size, hr.len⟩
theorem RtAt.below (hr : RtAt w p B N S h) (hb : Below w.heap.size w y) : RtAt y p B N S h := hr.off (M := []) (Off.of_below hb) (fun g _ hg => by cases hg)
theorem RtAt.mono (hr : RtAt w p B N S h) {N2 : Nat} (hN : N ≤ N2 := by omega) : RtAt w p B N2 S h :=
  ⟨hr.row, hr.l, hr.c, hr.r, hr.s, hr.lc, hr.cc, hr.rc, hr.wc, hr.now, hr.pm, hr.ad, hr.lt, Nat.le_trans hr.len.1 hN, Nat.le_trans hr.len.2.1 hN, Nat.le_trans hr.len.2.2.1 hN, Nat.le_trans hr.len.2.2.2 hN⟩
theorem RtAt.l_off (hr : RtAt w p B N S h) (ho : Off [p] w y) : nmK.At y h.la S.L.length S.L := ho.rk hr.l (fun x hx => by simpa using (hr.ad x (.inl hx)).2.1)
theorem RtAt.c_off (hr : RtAt w p B N S h) (ho : Off [p] w y) : nmK.At y h.ca S.came.length S.came := ho.rk hr.c (fun x hx => by simpa using (hr.ad x (.inr (.inl hx))).2.1)
theorem RtAt.r_off (hr : RtAt w p B N S h) (ho : Off [p] w y) : u64K.At y h.ra S.due.length S.due := ho.rk hr.r (fun x hx => by simpa using (hr.ad x (.inr (.inr (.inl hx)))).2.1)
theorem RtAt.s_off (hr : RtAt w p B N S h) (ho : Off [p] w y) : u64K.At y h.wa S.was.length S.was := ho.rk hr.s (fun x hx => by simpa using (hr.ad x (.inr (.inr (.inr hx)))).2.1)
theorem rtRow_now (a b c d : Value) (now : Nm) (j : Nat) (v : Value) (h : (nmK.enc now)[j]? = some v) : (rtRow a b c d now)[4 + j]? = some v := by
  unfold rtRow
  rw [List.getElem?_append_right (by simp)]
  simpa using h
theorem rtRow_0 (a b c d : Value) (now : Nm) : (rtRow a b c d now)[0]? = some a := rfl
theorem rtRow_1 (a b c d : Value) (now : Nm) : (rtRow a b c d now)[1]? = some b := rfl
theorem rtRow_2 (a b c d : Value) (now : Nm) : (rtRow a b c d now)[2]? = some c := rfl
theorem rtRow_3 (a b c d : Value) (now : Nm) : (rtRow a b c d now)[3]? = some d := rfl
theorem rtRow_4 (a b c d : Value) (now : Nm) : (rtRow a b c d now)[4]? = some (.int .u64 now.1) := rfl
theorem rtRow_set0 (a b c d x : Value) (now : Nm) : (rtRow a b c d now).set 0 x = rtRow x b c d now := rfl
theorem rtRow_set1 (a b c d x : Value) (now : Nm) : (rtRow a b c d now).set 1 x = rtRow a x c d now := rfl
theorem rtRow_set2 (a b c d x : Value) (now : Nm) : (rtRow a b c d now).set 2 x = rtRow a b x d now := rfl
theorem rtRow_set3 (a b c d x : Value) (now : Nm) : (rtRow a b c d now).set 3 x = rtRow a b c x now := rfl
end
/-- what an operation leaves. -/
def RtU (w : World) (p : Nat) (B : List Nat) (w' : World) (N' : Nat) (S' : Th) : Prop := ∃ B' h', UpdO B w w' B' ∧ RtAt w' p B' N' S' h'
/-- a new row in the place of one of them. -/
theorem RtAt.newl {w y : World} {p N N' : Nat} {B : List Nat} {S : Th} {h : RH} (hr : RtAt w p B N S h) (ho : Off [p] w y) {a : Option Addr} {c : Nat} {l : List Nm}
    (hrow : y.heap[p]? = some (.cells (rtRow (.slice a l.length c) (.slice h.ca S.came.length h.cc) (.slice h.ra S.due.length h.rc) (.slice h.wa S.was.length h.wc) S.now).toArray RTT (0, 0)))
    (hl : nmK.At y a l.length l) (hc : l.length ≤ c ∧ c ≤ 9223372036854775807) (ha : ∀ x, a = some x → w.heap.size ≤ x.block ∧ x.block < y.heap.size ∧ ∃ b o, x = ⟨b, o, none⟩) (hN : N ≤ N' ∧ l.length ≤ N') :
    RtU w p B y N' ⟨l, S.came, S.due, S.was, S.now⟩ := by
  have hp := lt_of_block hr.row
  refine ⟨B ++ blkS a, ⟨a, c, h.ca, h.cc, h.ra, h.rc, h.wa, h.wc⟩, ⟨ho.wide (fun x hx => by rw [List.mem_singleton.1 hx]; exact hr.pm), fun g hg => ?_⟩, ⟨hrow, hl, hr.c_off ho, hr.r_off ho, hr.s_off ho, hc, hr.cc, hr.rc, hr.wc, hr.now, List.mem_append_left _ hr.pm, fun x hx => ?_, fun g hg => ?_, ?_⟩⟩
  · rcases List.mem_append.1 hg with hg | hg
    · exact .inl hg
    · obtain ⟨x, hx, rfl⟩ := blkS_mem.1 hg; exact .inr (ha x hx).1
  · rcases hx with hx | hx
    · have := ha x hx; exact ⟨List.mem_append_right _ (blkS_mem.2 ⟨x, hx, rfl⟩), by omega, this.2.2⟩
    · have := hr.ad x (.inr hx); exact ⟨List.mem_append_left _ this.1, this.2⟩
  · rcases List.mem_append.1 hg with hg | hg
    · exact Nat.lt_of_lt_of_le (hr.lt g hg) ho.size
    · obtain ⟨x, hx, rfl⟩ := blkS_mem.1 hg; exact (ha x hx).2.1
  · have := hr.len; simp only; omega
theorem RtAt.newr {w y : World} {p N N' : Nat} {B : List Nat} {S : Th} {h : RH} (hr : RtAt w p B N S h) (ho : Off [p] w y) {a : Option Addr} {c : Nat} {l : List Int}
    (hrow : y.heap[p]? = some (.cells (rtRow (.slice h.la S.L.length h.lc) (.slice h.ca S.came.length h.cc) (.slice a l.length c) (.slice h.wa S.was.length h.wc) S.now).toArray RTT (0, 0)))
    (hl : u64K.At y a l.length l) (hc : l.length ≤ c ∧ c ≤ 9223372036854775807) (ha : ∀ x, a = some x → w.heap.size ≤ x.block ∧ x.block < y.heap.size ∧ ∃ b o, x = ⟨b, o, none⟩) (hN : N ≤ N' ∧ l.length ≤ N') :
    RtU w p B y N' ⟨S.L, S.came, l, S.was, S.now⟩ := by
  have hp := lt_of_block hr.row
  refine ⟨B ++ blkS a, ⟨h.la, h.lc, h.ca, h.cc, a, c, h.wa, h.wc⟩, ⟨ho.wide (fun x hx => by rw [List.mem_singleton.1 hx]; exact hr.pm), fun g hg => ?_⟩, ⟨hrow, hr.l_off ho, hr.c_off ho, hl, hr.s_off ho, hr.lc, hr.cc, hc, hr.wc, hr.now, List.mem_append_left _ hr.pm, fun x hx => ?_, fun g hg => ?_, ?_⟩⟩
  · rcases List.mem_append.1 hg with hg | hg
    · exact .inl hg
    · obtain ⟨x, hx, rfl⟩ := blkS_mem.1 hg; exact .inr (ha x hx).1
  · rcases hx with hx | hx | hx | hx
    · have := hr.ad x (.inl hx); exact ⟨List.mem_append_left _ this.1, this.2⟩
    · have := hr.ad x (.inr (.inl hx)); exact ⟨List.mem_append_left _ this.1, this.2⟩
    · have := ha x hx; exact ⟨List.mem_append_right _ (blkS_mem.2 ⟨x, hx, rfl⟩), by omega, this.2.2⟩
    · have := hr.ad x (.inr (.inr (.inr hx))); exact ⟨List.mem_append_left _ this.1, this.2⟩
  · rcases List.mem_append.1 hg with hg | hg
    · exact Nat.lt_of_lt_of_le (hr.lt g hg) ho.size
    · obtain ⟨x, hx, rfl⟩ := blkS_mem.1 hg; exact (ha x hx).2.1
  · have := hr.len; simp only; omega
theorem RtAt.newc {w y : World} {p N N' : Nat} {B : List Nat} {S : Th} {h : RH} (hr : RtAt w p B N S h) (ho : Off [p] w y) {a : Option Addr} {c : Nat} {l : List Nm}
    (hrow : y.heap[p]? = some (.cells (rtRow (.slice h.la S.L.length h.lc) (.slice a l.length c) (.slice h.ra S.due.length h.rc) (.slice h.wa S.was.length h.wc) S.now).toArray RTT (0, 0)))
    (hl : nmK.At y a l.length l) (hc : l.length ≤ c ∧ c ≤ 9223372036854775807) (ha : ∀ x, a = some x → w.heap.size ≤ x.block ∧ x.block < y.heap.size ∧ ∃ b o, x = ⟨b, o, none⟩) (hN : N ≤ N' ∧ l.length ≤ N') :
    RtU w p B y N' ⟨S.L, l, S.due, S.was, S.now⟩ := by
  have hp := lt_of_block hr.row
  refine ⟨B ++ blkS a, ⟨h.la, h.lc, a, c, h.ra, h.rc, h.wa, h.wc⟩, ⟨ho.wide (fun x hx => by rw [List.mem_singleton.1 hx]; exact hr.pm), fun g hg => ?_⟩, ⟨hrow, hr.l_off ho, hl, hr.r_off ho, hr.s_off ho, hr.lc, hc, hr.rc, hr.wc, hr.now, List.mem_append_left _ hr.pm, fun x hx => ?_, fun g hg => ?_, ?_⟩⟩
  · rcases List.mem_append.1 hg with hg | hg
    · exact .inl hg
    · obtain ⟨x, hx, rfl⟩ := blkS_mem.1 hg; exact .inr (ha x hx).1
  · rcases hx with hx | hx | hx | hx
    · have := hr.ad x (.inl hx); exact ⟨List.mem_append_left _ this.1, this.2⟩
    · have := ha x hx; exact ⟨List.mem_append_right _ (blkS_mem.2 ⟨x, hx, rfl⟩), by omega, this.2.2⟩
    · have := hr.ad x (.inr (.inr (.inl hx))); exact ⟨List.mem_append_left _ this.1, this.2⟩
    · have := hr.ad x (.inr (.inr (.inr hx))); exact ⟨List.mem_append_left _ this.1, this.2⟩
  · rcases List.mem_append.1 hg with hg | hg
    · exact Nat.lt_of_lt_of_le (hr.lt g hg) ho.size
    · obtain ⟨x, hx, rfl⟩ := blkS_mem.1 hg; exact (ha x hx).2.1
  · have := hr.len; simp only; omega
theorem RtAt.news {w y : World} {p N N' : Nat} {B : List Nat} {S : Th} {h : RH} (hr : RtAt w p B N S h) (ho : Off [p] w y) {a : Option Addr} {c : Nat} {l : List Int}
    (hrow : y.heap[p]? = some (.cells (rtRow (.slice h.la S.L.length h.lc) (.slice h.ca S.came.length h.cc) (.slice h.ra S.due.length h.rc) (.slice a l.length c) S.now).toArray RTT (0, 0)))
    (hl : u64K.At y a l.length l) (hc : l.length ≤ c ∧ c ≤ 9223372036854775807) (ha : ∀ x, a = some x → w.heap.size ≤ x.block ∧ x.block < y.heap.size ∧ ∃ b o, x = ⟨b, o, none⟩) (hN : N ≤ N' ∧ l.length ≤ N') :
    RtU w p B y N' ⟨S.L, S.came, S.due, l, S.now⟩ := by
  have hp := lt_of_block hr.row
  refine ⟨B ++ blkS a, ⟨h.la, h.lc, h.ca, h.cc, h.ra, h.rc, a, c⟩, ⟨ho.wide (fun x hx => by rw [List.mem_singleton.1 hx]; exact hr.pm), fun g hg => ?_⟩, ⟨hrow, hr.l_off ho, hr.c_off ho, hr.r_off ho, hl, hr.lc, hr.cc, hr.rc, hc, hr.now, List.mem_append_left _ hr.pm, fun x hx => ?_, fun g hg => ?_, ?_⟩⟩
  · rcases List.mem_append.1 hg with hg | hg
    · exact .inl hg
    · obtain ⟨x, hx, rfl⟩ := blkS_mem.1 hg; exact .inr (ha x hx).1
  · rcases hx with hx | hx | hx | hx
    · have := hr.ad x (.inl hx); exact ⟨List.mem_append_left _ this.1, this.2⟩
    · have := hr.ad x (.inr (.inl hx)); exact ⟨List.mem_append_left _ this.1, this.2⟩
    · have := hr.ad x (.inr (.inr (.inl hx))); exact ⟨List.mem_append_left _ this.1, this.2⟩
    · have := ha x hx; exact ⟨List.mem_append_right _ (blkS_mem.2 ⟨x, hx, rfl⟩), by omega, this.2.2⟩
  · rcases List.mem_append.1 hg with hg | hg
    · exact Nat.lt_of_lt_of_le (hr.lt g hg) ho.size
    · obtain ⟨x, hx, rfl⟩ := blkS_mem.1 hg; exact (ha x hx).2.1
  · have := hr.len; simp only; omega
theorem dueM_app1 : ∀ {T X : List Int} {s : Int}, (∀ d ∈ T, d < s) → dueM (T ++ X) s = T ++ dueM X s
  | [], X, s, _ => rfl
  | d :: T, X, s, h => by
    have h1 := h d (List.mem_cons_self ..)
    simp only [List.cons_append, dueM]; rw [if_pos h1, dueM_app1 (fun z hz => h z (List.mem_cons_of_mem _ hz))]
theorem dueM_app2 : ∀ {T X : List Int} {s : Int}, (∃ d ∈ T, s < d) → dueM (T ++ X) s = dueM T s ++ X
  | [], X, s, h => by obtain ⟨_, h, _⟩ := h; cases h
  | d :: T, X, s, h => by
    simp only [List.cons_append, dueM]
    by_cases hd : d < s
    · rw [if_pos hd, if_pos hd, dueM_app2 (by obtain ⟨z, hz, hz2⟩ := h; rcases List.mem_cons.1 hz with e | e; omega; exact ⟨z, e, hz2⟩)]; rfl
    · rw [if_neg hd, if_neg hd]; split <;> rfl
/-- what is laid anew, up to a place. -/
def dueG (T : List Int) (s : Int) (put : Bool) : List Int := if put then dueM T s else T
def dueI (T : List Int) (s : Int) (put : Bool) : Prop := if put then ∃ d ∈ T, s < d else ∀ d ∈ T, d < s
theorem dueI_none (s : Int) : dueI [] s false := fun d hd => by cases hd
end Go.Proofs.Ytjdcmhclamjcjaa
