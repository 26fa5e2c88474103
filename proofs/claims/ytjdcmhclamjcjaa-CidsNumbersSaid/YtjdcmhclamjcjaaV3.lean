/- texts of the proof, laid together: Cid9, Hm2, Keep, Low, Keep2. -/
import Derived.Test.YtjdcmhclamjcjaaV2
import Derived.Test.YtjdcmhclamjcjaaV1
namespace Go.Proofs.Ytjdcmhclamjcjaa
open Go.RowKit
set_option linter.unusedVariables false
set_option linter.unusedSimpArgs false

set_option maxRecDepth 100000 in
set_option maxHeartbeats 8000000 in
theorem ask_any (w : World) (p : Nat) (B : List Nat) (N : Nat) (S : Th) (la ra : Option Addr) (lc rc bn bs bg : Nat) (h : ThAt w p B N S la ra lc rc bn bs bg) (s : Int) (hs : U64 s) (hsrt : S.due.Pairwise (· < ·)) (hN : N < 100000) :
    Calls Try.prog 41 #[.pointer (some ⟨p, 0, none⟩), .int .u64 s] w fun e w' => e = .returned (.tuple #[]) ∧ ThR w p B la lc bn bs bg w' (N + 1) ⟨S.L, S.came, dueM S.due s, S.was, S.now⟩ := by
  have H := Lib.hid h
  have HDO := Lib.hid h.r.2.1; have HSR := Lib.hid hsrt; have HPM := Lib.hid h.pm; have HNOW := Lib.hid h.now
  have HO := Lib.hid (Off.refl [p] w)
  have HROW := Lib.hid h.row; have HD := Lib.hid h.r; have HRC := Lib.hid h.rc; have hln := h.len.2
  obtain ⟨n, hn⟩ : ∃ n, S.due.length = n := ⟨_, rfl⟩
  have HN := Lib.hid hn
  obtain ⟨due, hdue⟩ : ∃ d, S.due = d := ⟨_, rfl⟩
  have HDU := Lib.hid hdue
  rw [hn] at HROW HD HRC hln
  rw [hdue] at HD HSR HN HDO
  clear h hn hdue hsrt
  have HRA : Hid (ra = none ∨ ∃ b o, ra = some ⟨b, o, none⟩) := Lib.hid (by cases ra with | none => exact .inl rfl | some x => obtain ⟨_, _, b, o, e⟩ := H.out.ra x rfl; exact .inr ⟨b, o, by rw [e]⟩)
  go_enter Try.func41, Try.ntmps41
  go_wp2_with fail
  go_loopw [4] (fun s4 wr => ∃ (i : Nat), s4 = .int .i64 i ∧ i ≤ n ∧ Hid (w = wr) ∧ Hid (∀ d ∈ due.take i, d < s)) (fun s4 _ => n - (intOf s4).toNat)
  case atStart => exact ⟨0, rfl, by omega, Lib.hid rfl, Lib.hid (by simp)⟩
  case round =>
    obtain ⟨i, rfl, hi, hw, HA⟩ := hrel
    obtain rfl := hw.out
    clear hw
    have c13 := cell_row HROW.out 13 _ (thRow_r _ _ _ _ _ HNOW.out)
    by_cases hlt : i < n
    · skip
      obtain ⟨ab, ao, d, rfl, _, hx, hok, hrg⟩ := HD.out.at hlt
      have cd := u64_cell hrg
      have HX := Lib.hid hx; have HOKD := Lib.hid hok
      clear hx hrg
      have hdb := hok
      unfold u64K at hdb
      replace hdb : 0 ≤ d ∧ d < 18446744073709551616 := hdb
      by_cases hds : d < s
      · skip
        go_wp2_with fail
        go_roundw
        case rel => exact ⟨i + 1, by go_num, by omega, by first | exact Lib.hid rfl | trivial, Lib.hid (fun y hy => by rw [take_snd' HX.out] at hy; rcases List.mem_append.1 hy with hy | hy; exact HA.out y hy; rw [List.mem_singleton.1 hy]; exact hds)⟩
        case measure => simp [intOf]; omega
      · skip
        by_cases heq : d = s
        · skip
          go_wp2_with fail
          (try simp only [Exit.inBlock, Exit.then])
          refine bodyPost_ret (results_none rfl _ _ _) rfl ?_
          refine ⟨rfl, B, (some ⟨ab, ao, none⟩), rc, UpdO.refl B w, ?_⟩
          have hdm : dueM due s = due := by
            have hl := lt_of_get HX.out
            have hxe : due[i] = s := by have := List.getElem?_eq_getElem hl; rw [HX.out] at this; injection this with this; rw [← this]; exact heq
            have e : due = due.take i ++ s :: due.drop (i + 1) := by rw [← hxe, ← List.drop_eq_getElem_cons hl, List.take_append_drop]
            have h2 := dueM_in (l2 := due.drop (i + 1)) HA.out
            rw [← e] at h2; exact h2
          rw [HDU.out, hdm, ← HDU.out]
          exact H.out.mono
        · skip
          have hgt : s < d := by omega
          have hdm : dueM due s = due.take i ++ s :: due.drop i := by
            have := dueM_at (l1 := due.take i) (l2 := due.drop i) (s := s) HA.out (fun e he => by rw [List.head?_drop, HX.out] at he; injection he with he; subst he; exact hgt)
            rw [List.take_append_drop] at this; exact this
          have HDM := Lib.hid hdm
          clear hdm
          obtain ⟨hrc, hrcm⟩ := HRC.out
          · skip
            go_upto_region 4 with fail
            clear c13
            have g0 : ∀ z : In (fun y => y.heap[p]? = some (.cells (thRow (.slice la S.L.length lc) bn bs S.now bg (.slice (some ⟨ab, ao, none⟩) n rc)).toArray THT (0, 0))), z.w.cell? ⟨p, 13, none⟩ = some (.slice (some ⟨ab, ao, none⟩) n rc) := fun z => cell_row z.h 13 _ (thRow_r _ _ _ _ _ HNOW.out)
            refine wp_plan2 18 (.t 0 (.t 1 (.t 2 (.t 3 (.t 4 (.t 5 (.t 6 (.t 7 (.t 8 (.t 10 (.t 11 (.t 12 (.t 13 (.t 14 (.t 15 (.u 9 (.u 16 (.u 17 .done)))))))))))))))))) (.t 18 (.t 19 (.u 20 .done))) (fun y => y.heap[p]? = some (.cells (thRow (.slice la S.L.length lc) bn bs S.now bg (.slice (some ⟨ab, ao, none⟩) n rc)).toArray THT (0, 0))) (by kernel_rfl) (by kernel_rfl) (by kernel_rfl) (fun c a d v w h => by cases d <;> exact h) HROW.out ?_
            have hb := (Below.refl w.heap.size w).drew
            replace HO := Lib.hid (HO.out.next hb)
            replace HROW := Lib.hid (bl_row hb (lt_of_block HROW.out) HROW.out)
            replace HD := Lib.hid (HD.out.below hb)
            clear hb
            generalize w.drew = w1 at HROW HD HO ⊢
            haveI hne : Nonempty (In (fun y => y.heap[p]? = some (.cells (thRow (.slice la S.L.length lc) bn bs S.now bg (.slice (some ⟨ab, ao, none⟩) n rc)).toArray THT (0, 0)))) := ⟨⟨w1, HROW.out⟩⟩
            repeat (first | (refine plan_t (by rfl) ?_; (first | go_big_quiet_skip | (go_big_quiet_want; go_big_quiet_op; go_big_quiet_on)); refine wpQuiet_nil ?_))
            clear g0
            have HSUF : Hid (u64K.At w1 (some ⟨ab, ao + i, none⟩) (n - i) (due.drop i)) := Lib.hid (by have h9 := HD.out.suf i (by omega); rwa [show u64K.N = 1 from rfl, Nat.mul_one] at h9)
            have HPRE : Hid (u64K.At w1 (some ⟨ab, ao, none⟩) i (due.take i)) := Lib.hid (HD.out.pre i (by omega))
            refine plan_us (by rfl) (by kernel_rfl) ?_
            intro K hK
            go_wp2_with fail
            have hal := (Below.refl w1.heap.size w1).alloc (Nat.le_refl _) (.cells (u64K.flat [s]).toArray 24)
            have hee : (w1.alloc (.cells (u64K.flat [s]).toArray 24)).ownsRow 0 24 u64K.N (.slice (some ⟨w1.heap.size, 0, none⟩) 1 1) 1 (u64K.flat [s]) := ⟨rfl, .inr ⟨_, 1, (u64K.flat [s]).toArray, rfl, Nat.zero_le _, heap_alloc_new w1 (.cells (u64K.flat [s]).toArray 24), Nat.le_refl _, by unfold maxLen; omega, rfl, rfl⟩⟩
            have HGE : Hid (w.heap.size ≤ w1.heap.size) := Lib.hid HO.out.size
            replace HO := Lib.hid (HO.out.next hal)
            replace HROW := Lib.hid (bl_row hal (lt_of_block HROW.out) HROW.out)
            replace HD := Lib.hid (HD.out.below hal)
            replace HSUF := Lib.hid (HSUF.out.below hal)
            replace HPRE := Lib.hid (HPRE.out.below hal)
            have HE := Lib.hid hee
            have HGD : Hid (∀ x : Addr, ((some ⟨ab, ao, none⟩) : Option Addr) = some x → some x.block ≠ some w1.heap.size) := Lib.hid (fun x hx e => by injection e with e; have h8 := H.out.lt _ (H.out.ra _ hx).1; have h9 := HGE.out; omega)
            refine ⟨HROW.out, ?_⟩
            clear hal hee
            (try change Plan.wp _ _ _ _ _ _ (w1.alloc (.cells (u64K.flat [s]).toArray 24)))
            generalize w1.alloc (.cells (u64K.flat [s]).toArray 24) = w2 at HROW HD HSUF HPRE HO HE ⊢
            obtain ⟨ge, hge⟩ : ∃ g, w1.heap.size = g := ⟨_, rfl⟩
            rw [hge] at HE HGE HGD ⊢
            clear hge
            refine plan_us (by rfl) (by kernel_rfl) ?_
            intro K hK
            refine wp_append_rk u64T _ _ rfl 0 1 (.slice (some ⟨ge, 0, none⟩) 1 1) [s] rfl HE.out (some ⟨ab, ao + i, none⟩) (n - i) _ (due.drop i) rfl HSUF.out (by omega) (Nat.zero_le _) ?_
            intro v' w3 ho2 hg2 hor
            replace HROW := Lib.hid (grown_row hg2 (fun e => own_ne HE.out HROW.out (by decide) e.symm) HROW.out)
            replace HPRE := Lib.hid (HPRE.out.grown hg2 HGD.out)
            replace HO := Lib.hid (HO.out.fresh hg2 HGE.out)
            obtain ⟨ab2, ac2, rfl, _⟩ := sl_own ho2
            have hok2 : ∀ x ∈ s :: (due.drop i), u64K.ok x := fun x hx => by rcases List.mem_cons.1 hx with rfl | hx; exact hs; exact HD.out.2.1 x (List.mem_of_mem_drop hx)
            have HE2 := Lib.hid (RK.At.of_own ho2 hok2)
            clear ho2 hor hg2 hok2
            refine hK _ _ ⟨HROW.out, ?_⟩
            clear hK K
            simp only [Act.put, List.setIfInBounds_toArray, List.set_cons_succ, List.set_cons_zero]
            refine plan_us (by rfl) (by kernel_rfl) ?_
            intro K hK
            refine wp_append_full_rk (ops := #[]) (rest := []) u64T _ _ rfl (some ⟨ab, ao, none⟩) i (due.take i) rfl HPRE.out ab2 (1 + (n - i)) ac2 (s :: (due.drop i)) rfl HE2.out (by omega) (by omega) ?_
            intro c3 w4 ho2 hb2
            have hgz : w.heap.size ≤ w3.heap.size := HO.out.size
            replace HO := Lib.hid (HO.out.next hb2)
            replace HROW := Lib.hid (bl_row hb2 (lt_of_block HROW.out) HROW.out)
            replace HE2 := Lib.hid (HE2.out.below hb2)
            have HE3 := Lib.hid ho2
            have HGE3 : Hid (w.heap.size ≤ w3.heap.size) := Lib.hid hgz
            obtain ⟨g3, hg3⟩ : ∃ g, w3.heap.size = g := ⟨_, rfl⟩
            rw [hg3] at HE3 HGE3 ⊢
            clear ho2 hb2 hgz hg3
            refine hK _ _ ⟨HROW.out, ?_⟩
            clear hK K
            simp only [Act.put, List.setIfInBounds_toArray, List.set_cons_succ, List.set_cons_zero]
            clear hne
            refine ⟨fun _ => True, trivial, ?_⟩
            haveI hne : Nonempty (In (fun _ => True)) := ⟨⟨w4, trivial⟩⟩
            repeat (first | (refine plan_t (by rfl) ?_; (first | go_big_quiet_skip | (go_big_quiet_want; go_big_quiet_op; go_big_quiet_on)); refine wpQuiet_nil ?_))
            refine plan_us (by rfl) (by kernel_rfl) ?_
            intro K hK
            have c13 := cell_row HROW.out 13 _ (thRow_r _ _ _ _ _ HNOW.out)
            have f13 := row_free HROW.out 13
            go_wp2_with fail
            clear c13 f13
            have hle : (i + (1 + (n - i))) = (n + 1) := by omega
            rw [hle] at HE3 ⊢
            have hgs := grown_setCell w4 p 13 (.slice (some ⟨g3, 0, none⟩) (n + 1) c3)
            have hrs := row_setL HROW.out 13 (.slice (some ⟨g3, 0, none⟩) (n + 1) c3)
            rw [thRow_setr _ _ _ _ _ _ HNOW.out] at hrs
            have ho9 := HO.out.setCell (k := 13) (List.mem_singleton.2 rfl) (.slice (some ⟨g3, 0, none⟩) (n + 1) c3)
            have he9 := own_grown HE3.out hgs (fun g hg e => own_ne HE3.out HROW.out (by decide) (hg.trans e))
            have HE9 := Lib.hid he9; have HO9 := Lib.hid ho9; have HR9 := Lib.hid hrs
            clear hgs hrs ho9 he9
            generalize w4.setCell ⟨p, 13, none⟩ (.slice (some ⟨g3, 0, none⟩) (n + 1) c3) = w5 at HE9 HO9 HR9 ⊢
            try refine ⟨trivial, ?_⟩
            clear hne
            simp only [Plan.wp]
            refine bodyPost_end (results_none rfl _ _ _) rfl ?_
            have hdl : (dueM S.due s).length = (n + 1) := by rw [HDU.out, HDM.out]; simp [HN.out]; try omega
            have hgs3 : g3 < w5.heap.size := own_lt HE9.out rfl
            have hrk : u64K.At w5 (some ⟨g3, 0, none⟩) (dueM S.due s).length (dueM S.due s) := by rw [hdl, HDU.out, HDM.out]; exact RK.At.of_own HE9.out (fun x hx => by rcases List.mem_append.1 hx with hx | hx; exact HDO.out x (List.mem_of_mem_take hx); rcases List.mem_cons.1 hx with rfl | hx; exact hs; exact HDO.out x (List.mem_of_mem_drop hx))
            obtain ⟨_, _, e0, hc1, hc2⟩ := sl_own HE9.out
            injection e0 with e0 e1 e2; subst e2
            have hpl := lt_of_block H.out.row
            refine ⟨rfl, B ++ [g3], some ⟨g3, 0, none⟩, c3, ⟨HO9.out.wide (fun x hx => by rw [List.mem_singleton.1 hx]; exact HPM.out), fun g hg => ?_⟩, H.out.turn HO9.out (by rw [hdl]; exact HR9.out) (H.out.l_off HO9.out) hrk H.out.lc (by rw [hdl]; exact ⟨hc1, hc2⟩) HNOW.out (fun g hg => List.mem_append_left _ hg) (fun g hg => ?_) (fun x hx => ⟨List.mem_append_left _ (H.out.la x hx).1, (H.out.la x hx).2⟩) (fun x hx => ?_) ⟨by have := H.out.len.1; omega, by rw [hdl]; omega⟩⟩
            · rcases List.mem_append.1 hg with hg | hg; exact .inl hg; rw [List.mem_singleton.1 hg]; exact .inr HGE3.out
            · rcases List.mem_append.1 hg with hg | hg; exact Nat.lt_of_lt_of_le (H.out.lt g hg) HO9.out.size; rw [List.mem_singleton.1 hg]; exact hgs3
            · injection hx with hx; subst hx; refine ⟨by simp, ?_, _, _, rfl⟩; have := HGE3.out; simp only; omega
    · obtain rfl : n = i := by omega
      have hdm : dueM due s = due.take n ++ s :: due.drop n := by
        have := dueM_at (l1 := due.take n) (l2 := due.drop n) (s := s) HA.out (fun d hd => by rw [List.drop_of_length_le (by rw [HN.out]; exact Nat.le_refl _)] at hd; cases hd)
        rw [List.take_append_drop] at this; exact this
      have HDM := Lib.hid hdm
      clear hdm
      obtain ⟨hrc, hrcm⟩ := HRC.out
      rcases HRA.out with rfl | ⟨rb, ro, rfl⟩
      · skip
        obtain rfl : 0 = n := by
          rcases HD.out.2.2 with h | ⟨_, _, h, _⟩
          · exact h.symm
          · cases h
        skip
        go_upto_region 4 with fail
        clear c13
        have g0 : ∀ z : In (fun y => y.heap[p]? = some (.cells (thRow (.slice la S.L.length lc) bn bs S.now bg (.slice none 0 rc)).toArray THT (0, 0))), z.w.cell? ⟨p, 13, none⟩ = some (.slice none 0 rc) := fun z => cell_row z.h 13 _ (thRow_r _ _ _ _ _ HNOW.out)
        refine wp_plan2 18 (.t 0 (.t 1 (.t 2 (.t 3 (.t 4 (.t 5 (.t 6 (.t 7 (.t 8 (.t 10 (.t 11 (.t 12 (.t 13 (.t 14 (.t 15 (.u 9 (.u 16 (.u 17 .done)))))))))))))))))) (.t 18 (.t 19 (.u 20 .done))) (fun y => y.heap[p]? = some (.cells (thRow (.slice la S.L.length lc) bn bs S.now bg (.slice none 0 rc)).toArray THT (0, 0))) (by kernel_rfl) (by kernel_rfl) (by kernel_rfl) (fun c a d v w h => by cases d <;> exact h) HROW.out ?_
        have hb := (Below.refl w.heap.size w).drew
        replace HO := Lib.hid (HO.out.next hb)
        replace HROW := Lib.hid (bl_row hb (lt_of_block HROW.out) HROW.out)
        replace HD := Lib.hid (HD.out.below hb)
        clear hb
        generalize w.drew = w1 at HROW HD HO ⊢
        haveI hne : Nonempty (In (fun y => y.heap[p]? = some (.cells (thRow (.slice la S.L.length lc) bn bs S.now bg (.slice none 0 rc)).toArray THT (0, 0)))) := ⟨⟨w1, HROW.out⟩⟩
        repeat (first | (refine plan_t (by rfl) ?_; (first | go_big_quiet_skip | (go_big_quiet_want; go_big_quiet_op; go_big_quiet_on)); refine wpQuiet_nil ?_))
        clear g0
        refine plan_us (by rfl) (by kernel_rfl) ?_
        intro K hK
        go_wp2_with fail
        have hal := (Below.refl w1.heap.size w1).alloc (Nat.le_refl _) (.cells (u64K.flat [s]).toArray 24)
        have hee : (w1.alloc (.cells (u64K.flat [s]).toArray 24)).ownsRow 0 24 u64K.N (.slice (some ⟨w1.heap.size, 0, none⟩) 1 1) 1 (u64K.flat [s]) := ⟨rfl, .inr ⟨_, 1, (u64K.flat [s]).toArray, rfl, Nat.zero_le _, heap_alloc_new w1 (.cells (u64K.flat [s]).toArray 24), Nat.le_refl _, by unfold maxLen; omega, rfl, rfl⟩⟩
        have HGE : Hid (w.heap.size ≤ w1.heap.size) := Lib.hid HO.out.size
        replace HO := Lib.hid (HO.out.next hal)
        replace HROW := Lib.hid (bl_row hal (lt_of_block HROW.out) HROW.out)
        replace HD := Lib.hid (HD.out.below hal)
        have HE := Lib.hid hee
        refine ⟨HROW.out, ?_⟩
        clear hal hee
        (try change Plan.wp _ _ _ _ _ _ (w1.alloc (.cells (u64K.flat [s]).toArray 24)))
        generalize w1.alloc (.cells (u64K.flat [s]).toArray 24) = w2 at HROW HD HO HE ⊢
        obtain ⟨ge, hge⟩ : ∃ g, w1.heap.size = g := ⟨_, rfl⟩
        rw [hge] at HE HGE ⊢
        clear hge
        refine plan_us (by rfl) (by kernel_rfl) ?_
        intro K hK
        refine wp_append_rk u64T _ _ rfl 0 1 (.slice (some ⟨ge, 0, none⟩) 1 1) [s] rfl HE.out none 0 _ due rfl (by have h9 := HD.out; exact ⟨h9.1, h9.2.1, .inl rfl⟩ : u64K.At _ none 0 due) (by omega) (Nat.zero_le _) ?_
        intro v' w3 ho2 hg2 hor
        replace HROW := Lib.hid (grown_row hg2 (fun e => own_ne HE.out HROW.out (by decide) e.symm) HROW.out)
        replace HO := Lib.hid (HO.out.fresh hg2 HGE.out)
        obtain ⟨ab2, ac2, rfl, _⟩ := sl_own ho2
        have hok2 : ∀ x ∈ s :: due, u64K.ok x := fun x hx => by rcases List.mem_cons.1 hx with rfl | hx; exact hs; exact HD.out.2.1 x (hx)
        have HE2 := Lib.hid (RK.At.of_own ho2 hok2)
        clear ho2 hor hg2 hok2
        refine hK _ _ ⟨HROW.out, ?_⟩
        clear hK K
        simp only [Act.put, List.setIfInBounds_toArray, List.set_cons_succ, List.set_cons_zero]
        refine plan_us (by rfl) (by kernel_rfl) ?_
        intro K hK
        refine wp_append_full_rk (ops := #[]) (rest := []) u64T _ _ rfl none 0 [] rfl (RK.At.nil _ _) ab2 1 ac2 (s :: due) rfl HE2.out (by omega) (by omega) ?_
        intro c3 w4 ho2 hb2
        have hgz : w.heap.size ≤ w3.heap.size := HO.out.size
        replace HO := Lib.hid (HO.out.next hb2)
        replace HROW := Lib.hid (bl_row hb2 (lt_of_block HROW.out) HROW.out)
        replace HE2 := Lib.hid (HE2.out.below hb2)
        have HE3 := Lib.hid ho2
        have HGE3 : Hid (w.heap.size ≤ w3.heap.size) := Lib.hid hgz
        obtain ⟨g3, hg3⟩ : ∃ g, w3.heap.size = g := ⟨_, rfl⟩
        rw [hg3] at HE3 HGE3 ⊢
        clear ho2 hb2 hgz hg3
        refine hK _ _ ⟨HROW.out, ?_⟩
        clear hK K
        simp only [Act.put, List.setIfInBounds_toArray, List.set_cons_succ, List.set_cons_zero]
        clear hne
        refine ⟨fun _ => True, trivial, ?_⟩
        haveI hne : Nonempty (In (fun _ => True)) := ⟨⟨w4, trivial⟩⟩
        repeat (first | (refine plan_t (by rfl) ?_; (first | go_big_quiet_skip | (go_big_quiet_want; go_big_quiet_op; go_big_quiet_on)); refine wpQuiet_nil ?_))
        refine plan_us (by rfl) (by kernel_rfl) ?_
        intro K hK
        have c13 := cell_row HROW.out 13 _ (thRow_r _ _ _ _ _ HNOW.out)
        have f13 := row_free HROW.out 13
        go_wp2_with fail
        clear c13 f13
        have hle : (0 + 1) = 1 := by omega
        rw [hle] at HE3 ⊢
        have hgs := grown_setCell w4 p 13 (.slice (some ⟨g3, 0, none⟩) 1 c3)
        have hrs := row_setL HROW.out 13 (.slice (some ⟨g3, 0, none⟩) 1 c3)
        rw [thRow_setr _ _ _ _ _ _ HNOW.out] at hrs
        have ho9 := HO.out.setCell (k := 13) (List.mem_singleton.2 rfl) (.slice (some ⟨g3, 0, none⟩) 1 c3)
        have he9 := own_grown HE3.out hgs (fun g hg e => own_ne HE3.out HROW.out (by decide) (hg.trans e))
        have HE9 := Lib.hid he9; have HO9 := Lib.hid ho9; have HR9 := Lib.hid hrs
        clear hgs hrs ho9 he9
        generalize w4.setCell ⟨p, 13, none⟩ (.slice (some ⟨g3, 0, none⟩) 1 c3) = w5 at HE9 HO9 HR9 ⊢
        try refine ⟨trivial, ?_⟩
        clear hne
        simp only [Plan.wp]
        refine bodyPost_end (results_none rfl _ _ _) rfl ?_
        have hdl : (dueM S.due s).length = 1 := by rw [HDU.out, HDM.out]; simp [HN.out]
        have hgs3 : g3 < w5.heap.size := own_lt HE9.out rfl
        have hrk : u64K.At w5 (some ⟨g3, 0, none⟩) (dueM S.due s).length (dueM S.due s) := by rw [hdl, HDU.out, HDM.out]; exact RK.At.of_own HE9.out (fun x hx => by rcases List.mem_append.1 hx with hx | hx; exact HDO.out x (List.mem_of_mem_take hx); rcases List.mem_cons.1 hx with rfl | hx; exact hs; exact HDO.out x (List.mem_of_mem_drop hx))
        obtain ⟨_, _, e0, hc1, hc2⟩ := sl_own HE9.out
        injection e0 with e0 e1 e2; subst e2
        have hpl := lt_of_block H.out.row
        refine ⟨rfl, B ++ [g3], some ⟨g3, 0, none⟩, c3, ⟨HO9.out.wide (fun x hx => by rw [List.mem_singleton.1 hx]; exact HPM.out), fun g hg => ?_⟩, H.out.turn HO9.out (by rw [hdl]; exact HR9.out) (H.out.l_off HO9.out) hrk H.out.lc (by rw [hdl]; exact ⟨hc1, hc2⟩) HNOW.out (fun g hg => List.mem_append_left _ hg) (fun g hg => ?_) (fun x hx => ⟨List.mem_append_left _ (H.out.la x hx).1, (H.out.la x hx).2⟩) (fun x hx => ?_) ⟨by have := H.out.len.1; omega, by rw [hdl]; omega⟩⟩
        · rcases List.mem_append.1 hg with hg | hg; exact .inl hg; rw [List.mem_singleton.1 hg]; exact .inr HGE3.out
        · rcases List.mem_append.1 hg with hg | hg; exact Nat.lt_of_lt_of_le (H.out.lt g hg) HO9.out.size; rw [List.mem_singleton.1 hg]; exact hgs3
        · injection hx with hx; subst hx; refine ⟨by simp, ?_, _, _, rfl⟩; have := HGE3.out; simp only; omega
      · skip
        go_upto_region 4 with fail
        clear c13
        have g0 : ∀ z : In (fun y => y.heap[p]? = some (.cells (thRow (.slice la S.L.length lc) bn bs S.now bg (.slice (some ⟨rb, ro, none⟩) n rc)).toArray THT (0, 0))), z.w.cell? ⟨p, 13, none⟩ = some (.slice (some ⟨rb, ro, none⟩) n rc) := fun z => cell_row z.h 13 _ (thRow_r _ _ _ _ _ HNOW.out)
        refine wp_plan2 18 (.t 0 (.t 1 (.t 2 (.t 3 (.t 4 (.t 5 (.t 6 (.t 7 (.t 8 (.t 10 (.t 11 (.t 12 (.t 13 (.t 14 (.t 15 (.u 9 (.u 16 (.u 17 .done)))))))))))))))))) (.t 18 (.t 19 (.u 20 .done))) (fun y => y.heap[p]? = some (.cells (thRow (.slice la S.L.length lc) bn bs S.now bg (.slice (some ⟨rb, ro, none⟩) n rc)).toArray THT (0, 0))) (by kernel_rfl) (by kernel_rfl) (by kernel_rfl) (fun c a d v w h => by cases d <;> exact h) HROW.out ?_
        have hb := (Below.refl w.heap.size w).drew
        replace HO := Lib.hid (HO.out.next hb)
        replace HROW := Lib.hid (bl_row hb (lt_of_block HROW.out) HROW.out)
        replace HD := Lib.hid (HD.out.below hb)
        clear hb
        generalize w.drew = w1 at HROW HD HO ⊢
        haveI hne : Nonempty (In (fun y => y.heap[p]? = some (.cells (thRow (.slice la S.L.length lc) bn bs S.now bg (.slice (some ⟨rb, ro, none⟩) n rc)).toArray THT (0, 0)))) := ⟨⟨w1, HROW.out⟩⟩
        repeat (first | (refine plan_t (by rfl) ?_; (first | go_big_quiet_skip | (go_big_quiet_want; go_big_quiet_op; go_big_quiet_on)); refine wpQuiet_nil ?_))
        clear g0
        have HSUF : Hid (u64K.At w1 (if rc = n then (some ⟨rb, ro, none⟩ : Option Addr) else some ⟨rb, ro + n, none⟩) 0 (due.drop n)) := Lib.hid (by rw [List.drop_of_length_le (by rw [HN.out]; exact Nat.le_refl _)]; exact RK.At.nil _ _)
        have HPRE : Hid (u64K.At w1 (some ⟨rb, ro, none⟩) n (due.take n)) := Lib.hid (HD.out.pre n (by omega))
        generalize (if rc = n then (some ⟨rb, ro, none⟩ : Option Addr) else some ⟨rb, ro + n, none⟩) = dsx at HSUF ⊢
        refine plan_us (by rfl) (by kernel_rfl) ?_
        intro K hK
        go_wp2_with fail
        have hal := (Below.refl w1.heap.size w1).alloc (Nat.le_refl _) (.cells (u64K.flat [s]).toArray 24)
        have hee : (w1.alloc (.cells (u64K.flat [s]).toArray 24)).ownsRow 0 24 u64K.N (.slice (some ⟨w1.heap.size, 0, none⟩) 1 1) 1 (u64K.flat [s]) := ⟨rfl, .inr ⟨_, 1, (u64K.flat [s]).toArray, rfl, Nat.zero_le _, heap_alloc_new w1 (.cells (u64K.flat [s]).toArray 24), Nat.le_refl _, by unfold maxLen; omega, rfl, rfl⟩⟩
        have HGE : Hid (w.heap.size ≤ w1.heap.size) := Lib.hid HO.out.size
        replace HO := Lib.hid (HO.out.next hal)
        replace HROW := Lib.hid (bl_row hal (lt_of_block HROW.out) HROW.out)
        replace HD := Lib.hid (HD.out.below hal)
        replace HSUF := Lib.hid (HSUF.out.below hal)
        replace HPRE := Lib.hid (HPRE.out.below hal)
        have HE := Lib.hid hee
        have HGD : Hid (∀ x : Addr, ((some ⟨rb, ro, none⟩) : Option Addr) = some x → some x.block ≠ some w1.heap.size) := Lib.hid (fun x hx e => by injection e with e; have h8 := H.out.lt _ (H.out.ra _ hx).1; have h9 := HGE.out; omega)
        refine ⟨HROW.out, ?_⟩
        clear hal hee
        (try change Plan.wp _ _ _ _ _ _ (w1.alloc (.cells (u64K.flat [s]).toArray 24)))
        generalize w1.alloc (.cells (u64K.flat [s]).toArray 24) = w2 at HROW HD HSUF HPRE HO HE ⊢
        obtain ⟨ge, hge⟩ : ∃ g, w1.heap.size = g := ⟨_, rfl⟩
        rw [hge] at HE HGE HGD ⊢
        clear hge
        refine plan_us (by rfl) (by kernel_rfl) ?_
        intro K hK
        refine wp_append_rk u64T _ _ rfl 0 1 (.slice (some ⟨ge, 0, none⟩) 1 1) [s] rfl HE.out dsx 0 _ (due.drop n) rfl HSUF.out (by omega) (Nat.zero_le _) ?_
        intro v' w3 ho2 hg2 hor
        replace HROW := Lib.hid (grown_row hg2 (fun e => own_ne HE.out HROW.out (by decide) e.symm) HROW.out)
        replace HPRE := Lib.hid (HPRE.out.grown hg2 HGD.out)
        replace HO := Lib.hid (HO.out.fresh hg2 HGE.out)
        obtain ⟨ab2, ac2, rfl, _⟩ := sl_own ho2
        have hok2 : ∀ x ∈ s :: (due.drop n), u64K.ok x := fun x hx => by rcases List.mem_cons.1 hx with rfl | hx; exact hs; exact HD.out.2.1 x (List.mem_of_mem_drop hx)
        have HE2 := Lib.hid (RK.At.of_own ho2 hok2)
        clear ho2 hor hg2 hok2
        refine hK _ _ ⟨HROW.out, ?_⟩
        clear hK K
        simp only [Act.put, List.setIfInBounds_toArray, List.set_cons_succ, List.set_cons_zero]
        refine plan_us (by rfl) (by kernel_rfl) ?_
        intro K hK
        refine wp_append_full_rk (ops := #[]) (rest := []) u64T _ _ rfl (some ⟨rb, ro, none⟩) n (due.take n) rfl HPRE.out ab2 1 ac2 (s :: (due.drop n)) rfl HE2.out (by omega) (by omega) ?_
        intro c3 w4 ho2 hb2
        have hgz : w.heap.size ≤ w3.heap.size := HO.out.size
        replace HO := Lib.hid (HO.out.next hb2)
        replace HROW := Lib.hid (bl_row hb2 (lt_of_block HROW.out) HROW.out)
        replace HE2 := Lib.hid (HE2.out.below hb2)
        have HE3 := Lib.hid ho2
        have HGE3 : Hid (w.heap.size ≤ w3.heap.size) := Lib.hid hgz
        obtain ⟨g3, hg3⟩ : ∃ g, w3.heap.size = g := ⟨_, rfl⟩
        rw [hg3] at HE3 HGE3 ⊢
        clear ho2 hb2 hgz hg3
        refine hK _ _ ⟨HROW.out, ?_⟩
        clear hK K
        simp only [Act.put, List.setIfInBounds_toArray, List.set_cons_succ, List.set_cons_zero]
        clear hne
        refine ⟨fun _ => True, trivial, ?_⟩
        haveI hne : Nonempty (In (fun _ => True)) := ⟨⟨w4, trivial⟩⟩
        repeat (first | (refine plan_t (by rfl) ?_; (first | go_big_quiet_skip | (go_big_quiet_want; go_big_quiet_op; go_big_quiet_on)); refine wpQuiet_nil ?_))
        refine plan_us (by rfl) (by kernel_rfl) ?_
        intro K hK
        have c13 := cell_row HROW.out 13 _ (thRow_r _ _ _ _ _ HNOW.out)
        have f13 := row_free HROW.out 13
        go_wp2_with fail
        clear c13 f13
        have hle : (n + 1) = (n + 1) := by omega
        rw [hle] at HE3 ⊢
        have hgs := grown_setCell w4 p 13 (.slice (some ⟨g3, 0, none⟩) (n + 1) c3)
        have hrs := row_setL HROW.out 13 (.slice (some ⟨g3, 0, none⟩) (n + 1) c3)
        rw [thRow_setr _ _ _ _ _ _ HNOW.out] at hrs
        have ho9 := HO.out.setCell (k := 13) (List.mem_singleton.2 rfl) (.slice (some ⟨g3, 0, none⟩) (n + 1) c3)
        have he9 := own_grown HE3.out hgs (fun g hg e => own_ne HE3.out HROW.out (by decide) (hg.trans e))
        have HE9 := Lib.hid he9; have HO9 := Lib.hid ho9; have HR9 := Lib.hid hrs
        clear hgs hrs ho9 he9
        generalize w4.setCell ⟨p, 13, none⟩ (.slice (some ⟨g3, 0, none⟩) (n + 1) c3) = w5 at HE9 HO9 HR9 ⊢
        try refine ⟨trivial, ?_⟩
        clear hne
        simp only [Plan.wp]
        refine bodyPost_end (results_none rfl _ _ _) rfl ?_
        have hdl : (dueM S.due s).length = (n + 1) := by rw [HDU.out, HDM.out]; simp [HN.out]; try omega
        have hgs3 : g3 < w5.heap.size := own_lt HE9.out rfl
        have hrk : u64K.At w5 (some ⟨g3, 0, none⟩) (dueM S.due s).length (dueM S.due s) := by rw [hdl, HDU.out, HDM.out]; exact RK.At.of_own HE9.out (fun x hx => by rcases List.mem_append.1 hx with hx | hx; exact HDO.out x (List.mem_of_mem_take hx); rcases List.mem_cons.1 hx with rfl | hx; exact hs; exact HDO.out x (List.mem_of_mem_drop hx))
        obtain ⟨_, _, e0, hc1, hc2⟩ := sl_own HE9.out
        injection e0 with e0 e1 e2; subst e2
        have hpl := lt_of_block H.out.row
        refine ⟨rfl, B ++ [g3], some ⟨g3, 0, none⟩, c3, ⟨HO9.out.wide (fun x hx => by rw [List.mem_singleton.1 hx]; exact HPM.out), fun g hg => ?_⟩, H.out.turn HO9.out (by rw [hdl]; exact HR9.out) (H.out.l_off HO9.out) hrk H.out.lc (by rw [hdl]; exact ⟨hc1, hc2⟩) HNOW.out (fun g hg => List.mem_append_left _ hg) (fun g hg => ?_) (fun x hx => ⟨List.mem_append_left _ (H.out.la x hx).1, (H.out.la x hx).2⟩) (fun x hx => ?_) ⟨by have := H.out.len.1; omega, by rw [hdl]; omega⟩⟩
        · rcases List.mem_append.1 hg with hg | hg; exact .inl hg; rw [List.mem_singleton.1 hg]; exact .inr HGE3.out
        · rcases List.mem_append.1 hg with hg | hg; exact Nat.lt_of_lt_of_le (H.out.lt g hg) HO9.out.size; rw [List.mem_singleton.1 hg]; exact hgs3
        · injection hx with hx; subst hx; refine ⟨by simp, ?_, _, _, rfl⟩; have := HGE3.out; simp only; omega
end Go.Proofs.Ytjdcmhclamjcjaa
namespace Go.Proofs.Ytjdcmhclamjcjaa
open Go.RowKit
open Go.Maps (Keyed)
set_option linter.unusedVariables false
set_option linter.unusedSimpArgs false

section
variable {k t e : TypeId} {b n : Nat} {f : Value → Option Value} {z key v : Value} {kl : Lit}
variable {ops : Array Oper} {rest : List Oper} {o : Oper} {a : Act} {w : World} {Q : Exit → Act → World → Prop} {J : Act → World → Prop}
theorem plan_t_hm {l : List Oper} {i : Nat} {p : Plan} {S : World → Prop} (ho : l[i]? = some o) (hw : Region.wanted o (yielded l.toArray a.tmps) = true) (m x : Operand) (c : Bool) (hop : o.op = .lookup t m x c)
    (K : Keyed Try.prog k) (ht : Try.prog.underlying t = some (.map k e)) (hz : ∀ w, (zeroValue e).run Try.prog w = .ok z w) (hm : a.eval m = .map (some b)) (hx : a.eval x = key) (hk : keyOf Try.prog k key = some kl) (hS : ∀ w, S w → ∃ n, HM Try.prog k w b n f)
    (h : p.wp Try.prog l.toArray Q S (a.put o.dst (if c then .tuple #[(f key).getD z, .bool (f key).isSome] else (f key).getD z)) w) : (Plan.t i p).wp Try.prog l.toArray Q S a w := by
  refine ⟨o, by simpa using ho, wpQuiet_step fun K' hK => ?_⟩
  rw [if_pos hw]
  refine ⟨_, fun y hy => ?_, hK _ (wpQuiet_nil h)⟩
  obtain ⟨s, rfl⟩ := hy
  obtain ⟨n, hh⟩ := hS s.w s.h
  unfold Oper.quietAt execOp
  simp only [hop, hm, hx, Sem.run_bind, Sem.run_pure, hh.look K ht (hz s.w) hk c, Result.andThen_ok]
  exact ⟨rfl, rfl⟩
theorem wp_look_hm (m x : Operand) (c : Bool) (hop : o.op = .lookup t m x c) (K : Keyed Try.prog k) (ht : Try.prog.underlying t = some (.map k e)) (hz : (zeroValue e).run Try.prog w = .ok z w) (hm : a.eval m = .map (some b)) (hh : HM Try.prog k w b n f) (hx : a.eval x = key) (hk : keyOf Try.prog k key = some kl)
    (h : J (a.put o.dst (if c then .tuple #[(f key).getD z, .bool (f key).isSome] else (f key).getD z)) w) : Oper.wp Try.prog o a w J Q := by
  unfold Oper.wp execOp
  simp only [hop, hm, hx, Sem.run_bind, Sem.run_pure, hh.look K ht hz hk c, Result.andThen_ok]
  exact h
theorem wp_update_hm (m x u : Operand) (hop : o.op = .mapUpdate t m x u ∨ o.op = .insert t m x u) (K : Keyed Try.prog k) (ht : Try.prog.underlying t = some (.map k e)) (hm : a.eval m = .map (some b)) (hh : HM Try.prog k w b n f) (hx : a.eval x = key) (hu : a.eval u = v) (hk : keyOf Try.prog k key = some kl)
    (h : ∀ y, HM Try.prog k y b (n + 1) (updF f key v) → w.grownBy y (some b) → J (a.put o.dst undef) y) : Oper.wp Try.prog o a w J Q := by
  obtain ⟨y, hr, h1, h2⟩ := hh.update K ht hk v
  unfold Oper.wp execOp
  rcases hop with hop | hop
  all_goals
    simp only [hop, hm, hx, hu, Sem.run_bind, Sem.run_pure, hr, Result.andThen_ok]
    exact h y h1 h2
theorem wp_entry_hm (m x : Operand) (hop : o.op = .mapEntry t m x) (K : Keyed Try.prog k) (ht : Try.prog.underlying t = some (.map k e)) (hz : (zeroValue e).run Try.prog w = .ok z w) (hm : a.eval m = .map (some b)) (hh : HM Try.prog k w b n f) (hx : a.eval x = key) (hk : keyOf Try.prog k key = some kl)
    (h : ∀ v st y, HMs k y b (n + 1) (updF f key ((f key).getD z)) key st → w.grownBy y (some b) → J (a.put o.dst (.tuple #[v, goInt st])) y) : Oper.wp Try.prog o a w J Q := by
  obtain ⟨v, st, y, hr, h1, h2⟩ := hh.entry K ht hz hk
  unfold Oper.wp execOp
  simp only [hop, hm, hx, Sem.run_bind, Sem.run_pure, hr, Result.andThen_ok]
  exact h v st y h1 h2
theorem wp_store_hm (m s u : Operand) (hop : o.op = .entryStore t m s u) (hm : a.eval m = .map (some b)) {st : Nat} (hh : HMs k w b n f key st) (hs : a.eval s = goInt st) (hu : a.eval u = v)
    (h : ∀ y, HM Try.prog k y b n (updF f key v) → w.grownBy y (some b) → J (a.put o.dst undef) y) : Oper.wp Try.prog o a w J Q := by
  obtain ⟨y, hr, h1, h2⟩ := hh.store (t := t) v
  unfold Oper.wp execOp
  simp only [hop, hm, hs, hu, Sem.run_bind, Sem.run_pure, hr, Result.andThen_ok]
  exact h y h1 h2
theorem updF_updF (f : Value → Option Value) (key u v : Value) : updF (updF f key u) key v = updF f key v := by
  funext x
  by_cases e : x = key
  · subst e; rw [updF_same, updF_same]
  · rw [updF_other _ _ e, updF_other _ _ e, updF_other _ _ e]
theorem HMs.lt {st : Nat} (h : HMs k w b n f key st) : b < w.heap.size := by obtain ⟨es, c, hb, _⟩ := h; exact (Array.getElem?_eq_some_iff.1 hb).1
end
end Go.Proofs.Ytjdcmhclamjcjaa
namespace Go.Proofs.Ytjdcmhclamjcjaa
open Go.RowKit
set_option linter.unusedVariables false
set_option linter.unusedSimpArgs false

theorem risesB_snoc : ∀ (l : List (Int × Int)) (x : Int × Int), risesB l = true → (∀ y, l.getLast? = some y → y.2 < x.1) → x.1 < x.2 → risesB (l ++ [x]) = true
  | [], x, _, _, h => by simp [risesB, h]
  | [y], x, h, hl, hx => by
    have := hl y rfl
    simp only [risesB, decide_eq_true_eq] at h
    simp [risesB, h, this, hx]
  | y :: z :: l, x, h, hl, hx => by
    simp only [risesB, Bool.and_eq_true, decide_eq_true_eq] at h
    have ih := risesB_snoc (z :: l) x h.2 (fun u hu => hl u (by rw [List.getLast?_cons_cons]; exact hu)) hx
    simp only [List.cons_append] at ih ⊢
    simp only [risesB, Bool.and_eq_true, decide_eq_true_eq]
    exact ⟨h.1, ih⟩
structure RaI (fr : Int) (n : Nat) (rs : List (Int × Int)) (at_ : Int) : Prop where
  len : rs.length = n
  ok : ∀ x ∈ rs, rgK.ok x
  rises : risesB rs = true
  last : ∀ x, rs.getLast? = some x → x.2 + 1 = at_
  lo : fr ≤ at_ ∧ at_ ≤ fr + 52 * n
theorem RaI.step {fr : Int} {n : Nat} {rs : List (Int × Int)} {at_ a b : Int} (h : RaI fr n rs at_) (h0 : 0 ≤ fr ∧ fr ≤ 100000) (hn : n ≤ 16) (ha : 0 ≤ a ∧ a < 30) (hb : 0 ≤ b ∧ b < 20) : RaI fr (n + 1) (rs ++ [(at_ + a, at_ + a + 1 + b)]) (at_ + a + 1 + b + 1) := by
  have hl := h.lo
  refine ⟨by simp [h.len], fun x hx => ?_, risesB_snoc _ _ h.rises (fun y hy => ?_) (by show at_ + a < at_ + a + 1 + b; omega), fun x hx => ?_, by omega, by omega⟩
  · rcases List.mem_append.1 hx with hx | hx
    · exact h.ok x hx
    · rw [List.mem_singleton.1 hx]; exact ⟨⟨by simp only; omega, by simp only; omega⟩, ⟨by simp only; omega, by simp only; omega⟩⟩
  · have := h.last y hy; simp only; omega
  · rw [List.getLast?_append] at hx; simp at hx; subst hx; rfl
theorem RaI.ack {fr : Int} {n : Nat} {rs : List (Int × Int)} {at_ : Int} (h : RaI fr n rs at_) (h0 : 0 ≤ fr ∧ fr ≤ 100000) (hn : 1 ≤ n ∧ n ≤ 16) : ackB rs = true := by
  have hl := h.lo
  have h1 := h.len
  unfold ackB
  simp only [Bool.and_eq_true, decide_eq_true_eq]
  refine ⟨⟨⟨by omega, by omega⟩, ?_⟩, h.rises⟩
  cases e : rs.getLast? with
  | none => simp
  | some x => have := h.last x e; simp only [Option.getD_some]; omega
theorem ackB_one {fr : Int} (h : 0 ≤ fr ∧ fr ≤ 100000) : ackB [(fr, fr + 1)] = true := by
  simp only [ackB, risesB, Bool.and_eq_true, decide_eq_true_eq]
  exact ⟨⟨⟨by simp, by simp⟩, by simp; omega⟩, by omega⟩
set_option maxRecDepth 100000 in
theorem rgT : RT rgK 94 51 (.agg #[.int .u64 0, .int .u64 0]) 16 := ⟨Try.underlying51, by kernel_rfl, rfl, by omega⟩
set_option maxRecDepth 100000 in
set_option maxHeartbeats 4000000 in
theorem kranges_any (w : World) (a : Option Addr) (len cap : Nat) (zs : List Int) (fr : Int) (hI : IntsK .u64 w a len zs) (hl : len ≤ 9223372036854775807) (hf : 0 ≤ fr ∧ fr ≤ 100000) :
    Calls Try.prog 33 #[.slice a len cap, .int .u64 fr] w fun e w' => ∃ b m c rs, e = .returned (.slice b m c) ∧ m ≤ c ∧ c ≤ 9223372036854775807 ∧ rgK.At w' b m rs ∧ ackB rs = true ∧ (∀ x, b = some x → w.heap.size ≤ x.block) ∧ Below w.heap.size w w' := by
  have HI := Lib.hid hI
  have HB := Lib.hid (Below.refl w.heap.size w)
  have HO : Hid (w.ownsRow w.heap.size 94 2 (.slice none 0 0) 0 (rgK.flat [])) := Lib.hid ⟨rfl, .inl ⟨rfl, rfl⟩⟩
  have HR : Hid (RaI fr 0 [] fr) := Lib.hid ⟨rfl, (fun x hx => by cases hx), rfl, (fun x hx => by cases hx), by omega, by omega⟩
  clear hI
  go_enter Try.func33, Try.ntmps33
  go_wp2_with fail
  go_loopw [5, 6, 7] (fun s5 s6 s7 wr => ∃ (i n cp : Nat) (b : Option Addr) (rs : List (Int × Int)) (at_ : Int), s5 = .slice b n cp ∧ s6 = .int .u64 at_ ∧ s7 = .int .i64 i ∧ n ≤ 16 ∧ i ≤ len ∧ i ≤ 32 ∧ Hid (i = 2 * n) ∧ Hid (Below w.heap.size w wr) ∧ Hid (wr.ownsRow w.heap.size 94 2 (.slice b n cp) n (rgK.flat rs)) ∧ Hid (RaI fr n rs at_)) (fun _ _ s _ => len - (intOf s).toNat)
  case atStart => exact ⟨0, 0, 0, none, [], fr, rfl, rfl, rfl, by omega, by omega, by omega, Lib.hid rfl, HB, HO, HR⟩
  case round =>
    clear HB HO HR
    obtain ⟨i, n, cp, b, rs, at_, rfl, rfl, rfl, hn, hil, hi32, HE, HB, HO, HR⟩ := hrel
    have hlo := HR.out.lo
    by_cases hc : i + 1 < len ∧ n < 16
    · obtain ⟨h1, h2⟩ := hc
      obtain ⟨ab, ao, x, rfl, _, hx, hwx, c0⟩ := HI.out.at HB.out (show i < len by omega)
      obtain ⟨ab1, ao1, y, e1, _, hy, hwy, c1⟩ := HI.out.at HB.out h1
      injection e1 with e1; injection e1 with e1 e2
      subst e1; subst e2
      clear hx hy
      have hwx := bdU64 hwx; have hwy := bdU64 hwy
      have hxm := Int.emod_nonneg x (show (30 : Int) ≠ 0 by omega); have hxm2 := Int.emod_lt_of_pos x (show (0 : Int) < 30 by omega)
      have hym := Int.emod_nonneg y (show (20 : Int) ≠ 0 by omega); have hym2 := Int.emod_lt_of_pos y (show (0 : Int) < 20 by omega)
      go_upto_region 8 with fail
      clear c0 c1
      have HOK := Lib.hid (HR.out.step hf (by omega) ⟨hxm, hxm2⟩ ⟨hym, hym2⟩)
      have hok : rgK.ok (at_ + x % 30, at_ + x % 30 + 1 + y % 20) := HOK.out.ok _ (List.mem_append_right _ (List.mem_singleton.2 rfl))
      have HK1 := Lib.hid (fun z hz => (by rw [List.mem_singleton.1 hz]; exact hok : rgK.ok z) : ∀ z ∈ [(at_ + x % 30, at_ + x % 30 + 1 + y % 20)], rgK.ok z)
      clear hok
      go_wp2_with (first | (at_builtin; refine wpList_append_rk rgT rfl _ _ rfl w.heap.size n (.slice b n cp) rs rfl (own_below HO.out ((Below.refl _ _).alloc (Nat.le_refl _) _)) _ 1 1 [(at_ + x % 30, at_ + x % 30 + 1 + y % 20)] rfl (RK.At.of_row (t := 94) (heap_alloc_new _ _) HK1.out) (by omega) (HB.out.alloc HB.out.size _).size ?_; intro v' w' hown hgrow _; obtain ⟨b2, c2, rfl, _⟩ := sl_own hown; have HO2 := Lib.hid hown; have HB2 := Lib.hid ((HB.out.alloc HB.out.size _).grown hgrow (HB.out.alloc HB.out.size _).size (own_base HO.out)); clear hown hgrow) | fail)
      go_roundw
      case rel => exact ⟨i + 2, n + 1, c2, b2, _, _, rfl, rfl, by go_num, by omega, by omega, by have := HE.out; omega, Lib.hid (by have := HE.out; omega), HB2, HO2, HOK⟩
      case measure => simp [intOf]; omega
    · have HN : Hid (n = 0 ∨ 1 ≤ n) := Lib.hid (by omega)
      by_cases h1 : i + 1 < len
      · have h2 : ¬ n < 16 := fun h => hc ⟨h1, h⟩
        clear hc
        obtain ⟨n', rfl⟩ : ∃ n', n = n' + 1 := ⟨n - 1, by omega⟩
        have h0 : ¬ ((n' : Int) + 1 = 0) := by omega
        go_wp2_with fail
        go_ret
        obtain ⟨_, _, e0, h1, h2⟩ := sl_own HO.out
        injection e0 with e0 e1 e2; subst e2
        exact ⟨_, _, _, rs, rfl, h1, h2, RK.At.of_own HO.out HR.out.ok, HR.out.ack hf (by omega), (fun x hx => own_base HO.out _ (by rw [hx]; rfl)), HB.out⟩
      · clear hc
        by_cases hz : n = 0
        · obtain rfl := hz
          go_wp2_with fail
          go_ret
          refine ⟨_, _, _, rfl, (by omega : 1 ≤ 1), (by omega : 1 ≤ 9223372036854775807), [(fr, fr + 1)], RK.At.of_row (K := rgK) (t := 94) (l := [(fr, fr + 1)]) (heap_alloc_new _ _) (fun x hx => by rw [List.mem_singleton.1 hx]; exact ⟨⟨by simp only; omega, by simp only; omega⟩, ⟨by simp only; omega, by simp only; omega⟩⟩), ackB_one hf, (fun x hx => by injection hx with hx; rw [← hx]; exact HB.out.size), HB.out.alloc HB.out.size _⟩
        · skip
          obtain ⟨n', rfl⟩ : ∃ n', n = n' + 1 := ⟨n - 1, by omega⟩
          have h0 : ¬ ((n' : Int) + 1 = 0) := by omega
          go_wp2_with fail
          go_ret
          obtain ⟨_, _, e0, h1, h2⟩ := sl_own HO.out
          injection e0 with e0 e1 e2; subst e2
          exact ⟨_, _, _, rfl, h1, h2, rs, RK.At.of_own HO.out HR.out.ok, HR.out.ack hf (by omega), (fun x hx => own_base HO.out _ (by rw [hx]; rfl)), HB.out⟩
end Go.Proofs.Ytjdcmhclamjcjaa
namespace Go.Proofs.Ytjdcmhclamjcjaa
open Go.RowKit
set_option linter.unusedVariables false

def lowM (n k : Int) : Int := if k < 1 then 0 else if 64 ≤ k then n else n % 2 ^ k.toNat
theorem pow_pos2 (k : Nat) : (0 : Int) < 2 ^ k := Int.pow_pos (by decide)
theorem pow_le_of {a b : Nat} (h : a ≤ b) : (2 : Int) ^ a ≤ 2 ^ b := by
  have h2 : (2 : Nat) ^ a ≤ 2 ^ b := Nat.pow_le_pow_right (by decide) h
  exact_mod_cast h2
theorem and_mask (n : Int) (k : Nat) (h0 : 0 ≤ n) (h1 : n < 18446744073709551616) (hk : k < 64) : bits .and .u64 n (2 ^ k - 1) = n % 2 ^ k := by
  have hp := pow_pos2 k
  have hq : (2 : Int) ^ k ≤ 2 ^ 63 := pow_le_of (by omega)
  have hq' : (2 : Int) ^ 63 = 9223372036854775808 := by decide
  rw [u64_and _ _ h0 h1 (by omega) (by omega)]
  have e : ((2 : Int) ^ k - 1).toNat = 2 ^ k - 1 := by
    have : ((2 : Int) ^ k) = ((2 ^ k : Nat) : Int) := by simp
    rw [this]; omega
  rw [e, Nat.and_two_pow_sub_one_eq_mod]
  have e2 : ((2 ^ k : Nat) : Int) = (2 : Int) ^ k := by simp
  rw [Int.natCast_emod, e2]
  congr 1
  omega

def smallM (n : Int) : Int :=
  if n % 5 = 0 then n / 5 % 20 else if n % 5 = 1 then [63, 64, 16383, 16384, 1073741823, 1073741824, 4611686018427387903, 0].getD (n / 5 % 8).toNat 0 else n % 4611686018427387904
theorem smallM_in (n : Int) : 0 ≤ smallM n ∧ smallM n ≤ 4611686018427387903 := by
  unfold smallM; split
  · omega
  · split
    · have h1 := Int.emod_nonneg (n / 5) (show (8 : Int) ≠ 0 by omega)
      have h2 := Int.emod_lt_of_pos (n / 5) (show (0 : Int) < 8 by omega)
      have h3 : (n / 5 % 8).toNat < 8 := by omega
      generalize (n / 5 % 8).toNat = i at h3
      match i, h3 with
      | 0, _ => decide
      | 1, _ => decide
      | 2, _ => decide
      | 3, _ => decide
      | 4, _ => decide
      | 5, _ => decide
      | 6, _ => decide
      | 7, _ => decide
    · omega
set_option maxRecDepth 100000 in
theorem small_any (w : World) (n : Int) (hn : 0 ≤ n ∧ n < 18446744073709551616) : Makes Try.prog 32 #[.int .u64 n] w (.int .u64 (smallM n)) := by
  go_enter Try.func32, Try.ntmps32
  by_cases h1 : n % 5 = 0
  · have e : smallM n = n / 5 % 20 := by simp only [smallM]; rw [if_pos h1]
    have E := Lib.hid e; clear e
    go_wp2
    go_ret
    exact ⟨by rw [E.out]; rfl, Below.refl _ _⟩
  · by_cases h2 : n % 5 = 1
    · obtain ⟨i, hi⟩ : ∃ i : Nat, n / 5 % 8 = i := ⟨(n / 5 % 8).toNat, by omega⟩
      have hi8 : i < 8 := by omega
      obtain ⟨v, hv⟩ : ∃ v, ([63, 64, 16383, 16384, 1073741823, 1073741824, 4611686018427387903, 0] : List Int)[i]? = some v := ⟨_, List.getElem?_eq_getElem hi8⟩
      have e : smallM n = v := by simp only [smallM]; rw [if_neg h1, if_pos h2, hi, Int.toNat_natCast, List.getD_eq_getElem?_getD, hv]; rfl
      have E := Lib.hid e; clear e
      have hc : ∀ w : World, (w.alloc (.cells #[.int .u64 63, .int .u64 64, .int .u64 16383, .int .u64 16384, .int .u64 1073741823, .int .u64 1073741824, .int .u64 4611686018427387903, .int .u64 0] 24)).cell? ⟨w.heap.size, i, none⟩ = some (.int .u64 v) := fun w => by
        rw [cell_of_row _ _ _ _ _ _ (heap_alloc_new _ _)]
        have : ([63, 64, 16383, 16384, 1073741823, 1073741824, 4611686018427387903, 0] : List Int).map (Value.int .u64) = [.int .u64 63, .int .u64 64, .int .u64 16383, .int .u64 16384, .int .u64 1073741823, .int .u64 1073741824, .int .u64 4611686018427387903, .int .u64 0] := rfl
        rw [List.getElem?_toArray, ← this, List.getElem?_map, hv]; rfl
      have hcw := hc w
      go_wp2_with fail
      go_ret
      exact ⟨by rw [E.out]; rfl, (Below.refl _ _).alloc (Nat.le_refl _) _⟩
    · have e : smallM n = bits .and .u64 n 4611686018427387903 := by simp only [smallM]; rw [if_neg h1, if_neg h2]; exact (and_mask n 62 hn.1 hn.2 (by omega)).symm
      have E := Lib.hid e; clear e
      go_wp2_with fail
      go_ret
      exact ⟨by rw [E.out]; rfl, Below.refl _ _⟩
end Go.Proofs.Ytjdcmhclamjcjaa
namespace Go.Proofs.Ytjdcmhclamjcjaa
open Go.RowKit
set_option linter.unusedVariables false
set_option linter.unusedSimpArgs false

/-- a part of a function's text. -/
def subRegion (n : Nat) : Code → Option Code
  | .region k o d => if k = n then some (.region k o d) else none
  | .seq a b => match subRegion n a with
    | some c => some c
    | none => subRegion n b
  | .cond _ a b => match subRegion n a with
    | some c => some c
    | none => subRegion n b
  | .block _ c => subRegion n c
  | .loop c => subRegion n c
  | _ => none
def subBlock (n : Nat) : Code → Option Code
  | .block k c => if k = n then some (.block k c) else subBlock n c
  | .seq a b => match subBlock n a with
    | some c => some c
    | none => subBlock n b
  | .cond _ a b => match subBlock n a with
    | some c => some c
    | none => subBlock n b
  | .loop c => subBlock n c
  | _ => none
theorem kcells (n : Int) : (Kc.cidM n).map (Value.int .u8) = [.int .u8 1, .int .u8 (within n 0 1048576 % 5), .int .u8 7, .int .u8 0, .int .u8 0, .int .u8 0, .int .u8 0, .int .u8 0] := rfl
theorem zcells (k : Int) : (zeroF k).cells (.slice none 0 0) (.slice none 0 0) = [.int .i64 k, .int .u64 0, .int .u64 0, .slice none 0 0, .bool false, .int .u64 0, .int .u64 0, .int .u64 0, .int .u64 0, .int .u64 0, .slice none 0 0, .int .u8 0, .int .u8 0, .int .u8 0, .int .u8 0, .int .u8 0, .int .u8 0, .int .u8 0, .int .u8 0] := rfl
set_option maxRecDepth 100000 in
set_option maxHeartbeats 16000000 in
theorem kframe_sw {x0 x2 x3 x8 x9 x10 x11 x12 x13 x14 x15 x16 x17 x18 x19 x20 x21 x22 x23 x24 x25 x26 x27 x28 x30 x31 x32 x33 x34 x35 x36 x37 x38 x39 x40 x41 x42 x43 x44 x45 x46 x47 x48 x49 x50 x51 x52 x53 x54 x55 x56 x57 x58 x59 x60 x61 x62 x63 x64 x65 x66 x67 x68 x69 x70 x71 x72 x73 x74 x75 x76 x77 x78 x79 x80 x81 x82 x83 x84 x85 x86 x87 x88 x89 x90 x91 x92 x93 x94 x95 x96 x97 x98 x99 x100 x101 x102 x103 x104 x105 x106 x107 x108 x109 x110 x111 x112 x113 x114 x115 x116 x117 x118 x119 x120 x121 x122 x123 x124 x125 x126 x127 x128 x129 x130 : Value} {w0 : World} {gx gz g dn dc rn rc : Nat} {a b c k xk xa xb xc xn : Int} {xf : Bool} {da ra : Option Addr} {data rows : List Int} (w : World) {Q : Exit → Act → World → Prop}
    (HB : Hid (Below w0.heap.size w0 w)) (HG : Hid (w.heap[g]? = some (.cells ([.int .i64 k, .int .u64 0, .int .u64 0, .slice none 0 0, .bool false, .int .u64 0, .int .u64 0, .int .u64 0, .int .u64 0, .int .u64 0, .slice none 0 0, .int .u8 0, .int .u8 0, .int .u8 0, .int .u8 0, .int .u8 0, .int .u8 0, .int .u8 0, .int .u8 0] : List Value).toArray 53 (0, 0)))) (HX : Hid (w0.heap[gx]? = some (.cells ([.int .i64 xk, .int .u64 xa, .int .u64 xb, .int .u64 xc, .slice da dn dc, .bool xf, .slice ra rn rc, .int .i64 xn] : List Value).toArray 28 (0, 0)))) (hgl : w0.heap.size ≤ g) (hgz : gz < w0.heap.size) (HD : Hid (IntsK .u8 w0 da dn data)) (hdc : dn ≤ dc) (hdm : dc ≤ 9223372036854775807) (HR : Hid (IntsK .u64 w0 ra rn rows)) (hrn : rn ≤ 9223372036854775807) (ha : 0 ≤ a ∧ a ≤ 4611686018427387903) (hb : 0 ≤ b ∧ b ≤ 4611686018427387903) (hc : 0 ≤ c ∧ c ≤ 4611686018427387903) (hn : -9223372036854775808 ≤ xn ∧ xn ≤ 9223372036854775807)
    (hk : k = 0 ∨ k = 1 ∨ k = 30 ∨ k = 2 ∨ k = 4 ∨ k = 5 ∨ k = 6 ∨ k = 8 ∨ k = 16 ∨ k = 17 ∨ k = 18 ∨ k = 20 ∨ k = 24 ∨ k = 25 ∨ k = 26 ∨ k = 27 ∨ k = 28)
    (hQp : ∀ c a d v w, Q (.panic c) (a.put d v) w → Q (.panic c) a w)
    (hQ : ∀ (y30 y31 y32 y33 y34 y35 y36 y37 y38 y39 y40 y41 y42 y43 y44 y45 y46 y47 y48 y49 y50 y51 y52 y53 y54 y55 y56 y57 y58 y59 y60 y61 y62 y63 y64 y65 y66 y67 y68 y69 y70 y71 y72 y73 y74 y75 y76 y77 y78 y79 y80 y81 y82 y83 y84 y85 y86 y87 y88 y89 y90 y91 y92 y93 y94 y95 y96 y97 y98 y99 y100 y101 y102 y103 y104 y105 y106 y107 y108 y109 y110 y111 y112 y113 y114 y115 y116 y117 y118 y119 y120 y121 y122 y123 y124 y125 y126 y127 y128 y129 : Value) (f : Fr) (dv rv : Value) (w' : World), Hid (∀ y, w'.grownBy y (some gz) → IntsK .u8 y da dn data → FrAt y f dv rv) → f.kind = k → rightB f = true → Hid (w'.heap[g]? = some (.cells (f.cells dv rv).toArray 53 (0, 0))) → Hid (Below w0.heap.size w0 w') → Q .normal ⟨List.toArray (x0 :: .pointer (some ⟨gx, 0, none⟩) :: x2 :: x3 :: .pointer (some ⟨g, 0, none⟩) :: .int .u64 a :: .int .u64 b :: .int .u64 c :: x8 :: x9 :: x10 :: x11 :: x12 :: x13 :: x14 :: x15 :: x16 :: x17 :: x18 :: x19 :: x20 :: x21 :: x22 :: x23 :: x24 :: x25 :: x26 :: x27 :: x28 :: .int .i64 k :: y30 :: y31 :: y32 :: y33 :: y34 :: y35 :: y36 :: y37 :: y38 :: y39 :: y40 :: y41 :: y42 :: y43 :: y44 :: y45 :: y46 :: y47 :: y48 :: y49 :: y50 :: y51 :: y52 :: y53 :: y54 :: y55 :: y56 :: y57 :: y58 :: y59 :: y60 :: y61 :: y62 :: y63 :: y64 :: y65 :: y66 :: y67 :: y68 :: y69 :: y70 :: y71 :: y72 :: y73 :: y74 :: y75 :: y76 :: y77 :: y78 :: y79 :: y80 :: y81 :: y82 :: y83 :: y84 :: y85 :: y86 :: y87 :: y88 :: y89 :: y90 :: y91 :: y92 :: y93 :: y94 :: y95 :: y96 :: y97 :: y98 :: y99 :: y100 :: y101 :: y102 :: y103 :: y104 :: y105 :: y106 :: y107 :: y108 :: y109 :: y110 :: y111 :: y112 :: y113 :: y114 :: y115 :: y116 :: y117 :: y118 :: y119 :: y120 :: y121 :: y122 :: y123 :: y124 :: y125 :: y126 :: y127 :: y128 :: y129 :: x130 :: []), []⟩ w') :
    Code.wp Try.prog (((Try.f15.body.bind (subBlock 0)).getD .skip)) Q ⟨List.toArray (x0 :: .pointer (some ⟨gx, 0, none⟩) :: x2 :: x3 :: .pointer (some ⟨g, 0, none⟩) :: .int .u64 a :: .int .u64 b :: .int .u64 c :: x8 :: x9 :: x10 :: x11 :: x12 :: x13 :: x14 :: x15 :: x16 :: x17 :: x18 :: x19 :: x20 :: x21 :: x22 :: x23 :: x24 :: x25 :: x26 :: x27 :: x28 :: .int .i64 k :: x30 :: x31 :: x32 :: x33 :: x34 :: x35 :: x36 :: x37 :: x38 :: x39 :: x40 :: x41 :: x42 :: x43 :: x44 :: x45 :: x46 :: x47 :: x48 :: x49 :: x50 :: x51 :: x52 :: x53 :: x54 :: x55 :: x56 :: x57 :: x58 :: x59 :: x60 :: x61 :: x62 :: x63 :: x64 :: x65 :: x66 :: x67 :: x68 :: x69 :: x70 :: x71 :: x72 :: x73 :: x74 :: x75 :: x76 :: x77 :: x78 :: x79 :: x80 :: x81 :: x82 :: x83 :: x84 :: x85 :: x86 :: x87 :: x88 :: x89 :: x90 :: x91 :: x92 :: x93 :: x94 :: x95 :: x96 :: x97 :: x98 :: x99 :: x100 :: x101 :: x102 :: x103 :: x104 :: x105 :: x106 :: x107 :: x108 :: x109 :: x110 :: x111 :: x112 :: x113 :: x114 :: x115 :: x116 :: x117 :: x118 :: x119 :: x120 :: x121 :: x122 :: x123 :: x124 :: x125 :: x126 :: x127 :: x128 :: x129 :: x130 :: []), []⟩ w := by
  have HK := Lib.hid hQ; have HKP := Lib.hid hQp
  clear hQ hQp
  conv => arg 2; whnf
  have HX1 := Lib.hid (fun W (h : Below w0.heap.size w0 W) => bl_row h (lt_of_block HX.out) HX.out)
  have hmo := Int.emod_nonneg b (show (1000 : Int) ≠ 0 by omega); have hmo2 := Int.emod_lt_of_pos b (show (0 : Int) < 1000 by omega)
  have hmc := Int.emod_nonneg c (show (1099511627777 : Int) ≠ 0 by omega); have hmc2 := Int.emod_lt_of_pos c (show (0 : Int) < 1099511627777 by omega)
  have hmb := Int.emod_nonneg b (show (1099511627777 : Int) ≠ 0 by omega); have hmb2 := Int.emod_lt_of_pos b (show (0 : Int) < 1099511627777 by omega)
  have hma := Int.emod_nonneg a (show (1099511627777 : Int) ≠ 0 by omega); have hma2 := Int.emod_lt_of_pos a (show (0 : Int) < 1099511627777 by omega)
  have hms := Int.emod_nonneg a (show (1048577 : Int) ≠ 0 by omega); have hms2 := Int.emod_lt_of_pos a (show (0 : Int) < 1048577 by omega)
  have hmq := Int.emod_nonneg b (show (1099511626776 : Int) ≠ 0 by omega); have hmq2 := Int.emod_lt_of_pos b (show (0 : Int) < 1099511626776 by omega)
  have HM := Lib.hid (And.intro (And.intro (And.intro hmo hmo2) (And.intro hmc hmc2)) (And.intro (And.intro (And.intro hmb hmb2) (And.intro hma hma2)) (And.intro (And.intro hms hms2) (And.intro hmq hmq2))))
  clear hmo hmo2 hmc hmc2 hmb hmb2 hma hma2 hms hms2 hmq hmq2
  rcases hk with rfl | rfl | rfl | rfl | rfl | rfl | rfl | rfl | rfl | rfl | rfl | rfl | rfl | rfl | rfl | rfl | rfl
  · skip
    go_wp2_with fail
    have HF : Hid (∀ y, World.grownBy w y (some gz) → IntsK .u8 y da dn data → FrAt y (⟨0, 0, 0, [], false, 0, 0, 0, 0, 0, [], [0, 0, 0, 0, 0, 0, 0, 0]⟩ : Fr) (.slice none 0 0) (.slice none 0 0)) := Lib.hid fun y hgy hIy => ⟨⟨by simp only; omega, by simp only [U64]; omega, by simp only [U64]; omega, by simp only [U64]; omega, by simp only [U64]; omega, by simp only [U64]; omega, by simp only [U64]; omega, by simp only [U64]; omega, rfl, (by intro x hx; simp only [List.mem_cons, List.not_mem_nil, or_false] at hx; rcases hx with rfl | rfl | rfl | rfl | rfl | rfl | rfl | rfl <;> rfl)⟩, ⟨none, 0, 0, rfl, Nat.le_refl _, by omega, IntsK.nil _ _ _⟩, ⟨none, 0, 0, rfl, Nat.le_refl _, by omega, RK.At.nil _ _⟩⟩
    exact HK.out _ _ _ _ _ _ _ _ _ _ _ _ _ _ _ _ _ _ _ _ _ _ _ _ _ _ _ _ _ _ _ _ _ _ _ _ _ _ _ _ _ _ _ _ _ _ _ _ _ _ _ _ _ _ _ _ _ _ _ _ _ _ _ _ _ _ _ _ _ _ _ _ _ _ _ _ _ _ _ _ _ _ _ _ _ _ _ _ _ _ _ _ _ _ _ _ _ _ _ _ (⟨0, 0, 0, [], false, 0, 0, 0, 0, 0, [], [0, 0, 0, 0, 0, 0, 0, 0]⟩ : Fr) _ _ _ HF rfl ((by decide)) HG HB
  · skip
    go_wp2_with fail
    have HF : Hid (∀ y, World.grownBy w y (some gz) → IntsK .u8 y da dn data → FrAt y (⟨1, 0, 0, [], false, 0, 0, 0, 0, 0, [], [0, 0, 0, 0, 0, 0, 0, 0]⟩ : Fr) (.slice none 0 0) (.slice none 0 0)) := Lib.hid fun y hgy hIy => ⟨⟨by simp only; omega, by simp only [U64]; omega, by simp only [U64]; omega, by simp only [U64]; omega, by simp only [U64]; omega, by simp only [U64]; omega, by simp only [U64]; omega, by simp only [U64]; omega, rfl, (by intro x hx; simp only [List.mem_cons, List.not_mem_nil, or_false] at hx; rcases hx with rfl | rfl | rfl | rfl | rfl | rfl | rfl | rfl <;> rfl)⟩, ⟨none, 0, 0, rfl, Nat.le_refl _, by omega, IntsK.nil _ _ _⟩, ⟨none, 0, 0, rfl, Nat.le_refl _, by omega, RK.At.nil _ _⟩⟩
    exact HK.out _ _ _ _ _ _ _ _ _ _ _ _ _ _ _ _ _ _ _ _ _ _ _ _ _ _ _ _ _ _ _ _ _ _ _ _ _ _ _ _ _ _ _ _ _ _ _ _ _ _ _ _ _ _ _ _ _ _ _ _ _ _ _ _ _ _ _ _ _ _ _ _ _ _ _ _ _ _ _ _ _ _ _ _ _ _ _ _ _ _ _ _ _ _ _ _ _ _ _ _ (⟨1, 0, 0, [], false, 0, 0, 0, 0, 0, [], [0, 0, 0, 0, 0, 0, 0, 0]⟩ : Fr) _ _ _ HF rfl ((by decide)) HG HB
  · skip
    go_wp2_with fail
    have HF : Hid (∀ y, World.grownBy w y (some gz) → IntsK .u8 y da dn data → FrAt y (⟨30, 0, 0, [], false, 0, 0, 0, 0, 0, [], [0, 0, 0, 0, 0, 0, 0, 0]⟩ : Fr) (.slice none 0 0) (.slice none 0 0)) := Lib.hid fun y hgy hIy => ⟨⟨by simp only; omega, by simp only [U64]; omega, by simp only [U64]; omega, by simp only [U64]; omega, by simp only [U64]; omega, by simp only [U64]; omega, by simp only [U64]; omega, by simp only [U64]; omega, rfl, (by intro x hx; simp only [List.mem_cons, List.not_mem_nil, or_false] at hx; rcases hx with rfl | rfl | rfl | rfl | rfl | rfl | rfl | rfl <;> rfl)⟩, ⟨none, 0, 0, rfl, Nat.le_refl _, by omega, IntsK.nil _ _ _⟩, ⟨none, 0, 0, rfl, Nat.le_refl _, by omega, RK.At.nil _ _⟩⟩
    exact HK.out _ _ _ _ _ _ _ _ _ _ _ _ _ _ _ _ _ _ _ _ _ _ _ _ _ _ _ _ _ _ _ _ _ _ _ _ _ _ _ _ _ _ _ _ _ _ _ _ _ _ _ _ _ _ _ _ _ _ _ _ _ _ _ _ _ _ _ _ _ _ _ _ _ _ _ _ _ _ _ _ _ _ _ _ _ _ _ _ _ _ _ _ _ _ _ _ _ _ _ _ (⟨30, 0, 0, [], false, 0, 0, 0, 0, 0, [], [0, 0, 0, 0, 0, 0, 0, 0]⟩ : Fr) _ _ _ HF rfl ((by decide)) HG HB
  · skip
    obtain ⟨⟨⟨mo1, mo2⟩, mc1, mc2⟩, ⟨⟨mb1, mb2⟩, ma1, ma2⟩, ⟨ms1, ms2⟩, mq1, mq2⟩ := HM.out
    have x6 := row_cell (HX1.out _ HB.out) 6 _ rfl
    go_wp2_with fail
    clear x6
    refine Calls.mono (kranges_any _ ra rn rc rows (b % 1000) (HR.out.below HB.out) hrn (by omega)) ?_
    rintro e w1 ⟨ba, bm, bc, rs, rfl, hle, hmx, hra, hack, hfr, hb⟩
    have HFZ : Hid (∀ x, ba = some x → some x.block ≠ some gz) := Lib.hid (fun x hx e => by injection e with e; have := hfr x hx; have := HB.out.size; omega)
    replace hfr : ∀ x, ba = some x → some x.block ≠ some g := fun x hx e => by injection e with e; have := hfr x hx; have := lt_of_block HG.out; omega
    replace HG := Lib.hid (bl_row hb (lt_of_block HG.out) HG.out); replace HB := Lib.hid (bl_next HB.out HB.out.size hb)
    have HRA := Lib.hid hra; have HAC := Lib.hid hack; have HFR := Lib.hid hfr
    clear hb hra hack hfr
    have c9 := row_cell HG.out 9 _ rfl; have f9 := row_free HG.out 9
    have c10 := row_cell HG.out 10 _ rfl; have f10 := row_free HG.out 10
    go_wp2_with fail
    clear c9 f9 c10 f10
    have HR9 := Lib.hid (HRA.out.grown (grown_trans (grown_setCell w1 g 9 (.int .u64 a)) (grown_setCell _ g 10 (.slice ba bm bc))) HFR.out)
    have hA := (((At.base HG.out).set 9 (.int .u64 a)).set 10 (.slice ba bm bc)).conv (cs' := ([.int .i64 2, .int .u64 0, .int .u64 0, .slice none 0 0, .bool false, .int .u64 0, .int .u64 0, .int .u64 0, .int .u64 0, .int .u64 a, .slice ba bm bc, .int .u8 0, .int .u8 0, .int .u8 0, .int .u8 0, .int .u8 0, .int .u8 0, .int .u8 0, .int .u8 0] : List Value).toArray) (by rfl)
    have HG9 := Lib.hid hA.row; have HB9 := Lib.hid (HB.out.grown hA.rest HB.out.size (by intro k hk; injection hk with hk; omega))
    clear hA
    generalize ((w1.setCell ⟨g, 9, none⟩ (.int .u64 a)).setCell ⟨g, 10, none⟩ (.slice ba bm bc)) = w9 at HG9 HB9 HR9 ⊢
    have HF : Hid (∀ y, World.grownBy w9 y (some gz) → IntsK .u8 y da dn data → FrAt y (⟨2, 0, 0, [], false, 0, 0, 0, 0, a, rs, [0, 0, 0, 0, 0, 0, 0, 0]⟩ : Fr) (.slice none 0 0) (.slice ba bm bc)) := Lib.hid fun y hgy hIy => ⟨⟨by simp only; omega, by simp only [U64]; omega, by simp only [U64]; omega, by simp only [U64]; omega, by simp only [U64]; omega, by simp only [U64]; omega, by simp only [U64]; omega, by simp only [U64]; omega, rfl, (by intro x hx; simp only [List.mem_cons, List.not_mem_nil, or_false] at hx; rcases hx with rfl | rfl | rfl | rfl | rfl | rfl | rfl | rfl <;> rfl)⟩, ⟨none, 0, 0, rfl, Nat.le_refl _, by omega, IntsK.nil _ _ _⟩, ⟨_, _, _, rfl, hle, hmx, HR9.out.grown hgy HFZ.out⟩⟩
    exact HK.out _ _ _ _ _ _ _ _ _ _ _ _ _ _ _ _ _ _ _ _ _ _ _ _ _ _ _ _ _ _ _ _ _ _ _ _ _ _ _ _ _ _ _ _ _ _ _ _ _ _ _ _ _ _ _ _ _ _ _ _ _ _ _ _ _ _ _ _ _ _ _ _ _ _ _ _ _ _ _ _ _ _ _ _ _ _ _ _ _ _ _ _ _ _ _ _ _ _ _ _ (⟨2, 0, 0, [], false, 0, 0, 0, 0, a, rs, [0, 0, 0, 0, 0, 0, 0, 0]⟩ : Fr) _ _ _ HF rfl ((by simp [rightB, inB, HAC.out]; omega)) HG9 HB9
  · skip
    obtain ⟨⟨⟨mo1, mo2⟩, mc1, mc2⟩, ⟨⟨mb1, mb2⟩, ma1, ma2⟩, ⟨ms1, ms2⟩, mq1, mq2⟩ := HM.out
    have c1 := row_cell HG.out 1 _ rfl; have f1 := row_free HG.out 1
    have c6 := row_cell HG.out 6 _ rfl; have f6 := row_free HG.out 6
    have c7 := row_cell HG.out 7 _ rfl; have f7 := row_free HG.out 7
    go_wp2_with fail
    clear c1 f1 c6 f6 c7 f7
    have hA := ((((At.base HG.out).set 1 (.int .u64 a)).set 6 (.int .u64 b)).set 7 (.int .u64 (c % 1099511627777))).conv (cs' := ([.int .i64 4, .int .u64 a, .int .u64 0, .slice none 0 0, .bool false, .int .u64 0, .int .u64 b, .int .u64 (c % 1099511627777), .int .u64 0, .int .u64 0, .slice none 0 0, .int .u8 0, .int .u8 0, .int .u8 0, .int .u8 0, .int .u8 0, .int .u8 0, .int .u8 0, .int .u8 0] : List Value).toArray) (by rfl)
    have HG9 := Lib.hid hA.row; have HB9 := Lib.hid (HB.out.grown hA.rest HB.out.size (by intro k hk; injection hk with hk; omega))
    clear hA
    generalize (((w.setCell ⟨g, 1, none⟩ (.int .u64 a)).setCell ⟨g, 6, none⟩ (.int .u64 b)).setCell ⟨g, 7, none⟩ (.int .u64 (c % 1099511627777))) = w9 at HG9 HB9 ⊢
    have HF : Hid (∀ y, World.grownBy w9 y (some gz) → IntsK .u8 y da dn data → FrAt y (⟨4, a, 0, [], false, 0, b, (c % 1099511627777), 0, 0, [], [0, 0, 0, 0, 0, 0, 0, 0]⟩ : Fr) (.slice none 0 0) (.slice none 0 0)) := Lib.hid fun y hgy hIy => ⟨⟨by simp only; omega, by simp only [U64]; omega, by simp only [U64]; omega, by simp only [U64]; omega, by simp only [U64]; omega, by simp only [U64]; omega, by simp only [U64]; omega, by simp only [U64]; omega, rfl, (by intro x hx; simp only [List.mem_cons, List.not_mem_nil, or_false] at hx; rcases hx with rfl | rfl | rfl | rfl | rfl | rfl | rfl | rfl <;> rfl)⟩, ⟨none, 0, 0, rfl, Nat.le_refl _, by omega, IntsK.nil _ _ _⟩, ⟨none, 0, 0, rfl, Nat.le_refl _, by omega, RK.At.nil _ _⟩⟩
    exact HK.out _ _ _ _ _ _ _ _ _ _ _ _ _ _ _ _ _ _ _ _ _ _ _ _ _ _ _ _ _ _ _ _ _ _ _ _ _ _ _ _ _ _ _ _ _ _ _ _ _ _ _ _ _ _ _ _ _ _ _ _ _ _ _ _ _ _ _ _ _ _ _ _ _ _ _ _ _ _ _ _ _ _ _ _ _ _ _ _ _ _ _ _ _ _ _ _ _ _ _ _ (⟨4, a, 0, [], false, 0, b, (c % 1099511627777), 0, 0, [], [0, 0, 0, 0, 0, 0, 0, 0]⟩ : Fr) _ _ _ HF rfl ((by simp [rightB, inB, atB]; try omega)) HG9 HB9
  · skip
    obtain ⟨⟨⟨mo1, mo2⟩, mc1, mc2⟩, ⟨⟨mb1, mb2⟩, ma1, ma2⟩, ⟨ms1, ms2⟩, mq1, mq2⟩ := HM.out
    have c1 := row_cell HG.out 1 _ rfl; have f1 := row_free HG.out 1
    have c6 := row_cell HG.out 6 _ rfl; have f6 := row_free HG.out 6
    go_wp2_with fail
    clear c1 f1 c6 f6
    have hA := (((At.base HG.out).set 1 (.int .u64 a)).set 6 (.int .u64 b)).conv (cs' := ([.int .i64 5, .int .u64 a, .int .u64 0, .slice none 0 0, .bool false, .int .u64 0, .int .u64 b, .int .u64 0, .int .u64 0, .int .u64 0, .slice none 0 0, .int .u8 0, .int .u8 0, .int .u8 0, .int .u8 0, .int .u8 0, .int .u8 0, .int .u8 0, .int .u8 0] : List Value).toArray) (by rfl)
    have HG9 := Lib.hid hA.row; have HB9 := Lib.hid (HB.out.grown hA.rest HB.out.size (by intro k hk; injection hk with hk; omega))
    clear hA
    generalize ((w.setCell ⟨g, 1, none⟩ (.int .u64 a)).setCell ⟨g, 6, none⟩ (.int .u64 b)) = w9 at HG9 HB9 ⊢
    have HF : Hid (∀ y, World.grownBy w9 y (some gz) → IntsK .u8 y da dn data → FrAt y (⟨5, a, 0, [], false, 0, b, 0, 0, 0, [], [0, 0, 0, 0, 0, 0, 0, 0]⟩ : Fr) (.slice none 0 0) (.slice none 0 0)) := Lib.hid fun y hgy hIy => ⟨⟨by simp only; omega, by simp only [U64]; omega, by simp only [U64]; omega, by simp only [U64]; omega, by simp only [U64]; omega, by simp only [U64]; omega, by simp only [U64]; omega, by simp only [U64]; omega, rfl, (by intro x hx; simp only [List.mem_cons, List.not_mem_nil, or_false] at hx; rcases hx with rfl | rfl | rfl | rfl | rfl | rfl | rfl | rfl <;> rfl)⟩, ⟨none, 0, 0, rfl, Nat.le_refl _, by omega, IntsK.nil _ _ _⟩, ⟨none, 0, 0, rfl, Nat.le_refl _, by omega, RK.At.nil _ _⟩⟩
    exact HK.out _ _ _ _ _ _ _ _ _ _ _ _ _ _ _ _ _ _ _ _ _ _ _ _ _ _ _ _ _ _ _ _ _ _ _ _ _ _ _ _ _ _ _ _ _ _ _ _ _ _ _ _ _ _ _ _ _ _ _ _ _ _ _ _ _ _ _ _ _ _ _ _ _ _ _ _ _ _ _ _ _ _ _ _ _ _ _ _ _ _ _ _ _ _ _ _ _ _ _ _ (⟨5, a, 0, [], false, 0, b, 0, 0, 0, [], [0, 0, 0, 0, 0, 0, 0, 0]⟩ : Fr) _ _ _ HF rfl ((by simp [rightB, inB, atB]; try omega)) HG9 HB9
  · skip
    obtain ⟨⟨⟨mo1, mo2⟩, mc1, mc2⟩, ⟨⟨mb1, mb2⟩, ma1, ma2⟩, ⟨ms1, ms2⟩, mq1, mq2⟩ := HM.out
    have hlt : (data.take (min dn 40)).length = min dn 40 := by rw [List.length_take, ← HD.out.1]; omega
    have HLT := Lib.hid hlt
    clear hlt
    have x4 := row_cell (HX1.out _ HB.out) 4 _ rfl
    go_wp2_with fail
    clear x4
    refine Calls.mono (cut_any _ da dn dc 40 hdc hdm) ?_
    rintro e wq ⟨rfl, rfl⟩
    have c2 := row_cell HG.out 2 _ rfl; have f2 := row_free HG.out 2
    have c3 := row_cell HG.out 3 _ rfl; have f3 := row_free HG.out 3
    go_wp2_with fail
    clear c2 f2 c3 f3
    have hA := (((At.base HG.out).set 2 (.int .u64 (b % 1099511626776))).set 3 (.slice da (min dn 40) dc)).conv (cs' := ([.int .i64 6, .int .u64 0, .int .u64 (b % 1099511626776), .slice da (min dn 40) dc, .bool false, .int .u64 0, .int .u64 0, .int .u64 0, .int .u64 0, .int .u64 0, .slice none 0 0, .int .u8 0, .int .u8 0, .int .u8 0, .int .u8 0, .int .u8 0, .int .u8 0, .int .u8 0, .int .u8 0] : List Value).toArray) (by rfl)
    have HG9 := Lib.hid hA.row; have HB9 := Lib.hid (HB.out.grown hA.rest HB.out.size (by intro k hk; injection hk with hk; omega))
    clear hA
    generalize ((w.setCell ⟨g, 2, none⟩ (.int .u64 (b % 1099511626776))).setCell ⟨g, 3, none⟩ (.slice da (min dn 40) dc)) = w9 at HG9 HB9 ⊢
    have HF : Hid (∀ y, World.grownBy w9 y (some gz) → IntsK .u8 y da dn data → FrAt y (⟨6, 0, (b % 1099511626776), data.take (min dn 40), false, 0, 0, 0, 0, 0, [], [0, 0, 0, 0, 0, 0, 0, 0]⟩ : Fr) (.slice da (min dn 40) dc) (.slice none 0 0)) := Lib.hid fun y hgy hIy => ⟨⟨by simp only; omega, by simp only [U64]; omega, by simp only [U64]; omega, by simp only [U64]; omega, by simp only [U64]; omega, by simp only [U64]; omega, by simp only [U64]; omega, by simp only [U64]; omega, rfl, (by intro x hx; simp only [List.mem_cons, List.not_mem_nil, or_false] at hx; rcases hx with rfl | rfl | rfl | rfl | rfl | rfl | rfl | rfl <;> rfl)⟩, ⟨_, _, _, rfl, by omega, hdm, hIy.pre (min dn 40) (by omega)⟩, ⟨none, 0, 0, rfl, Nat.le_refl _, by omega, RK.At.nil _ _⟩⟩
    exact HK.out _ _ _ _ _ _ _ _ _ _ _ _ _ _ _ _ _ _ _ _ _ _ _ _ _ _ _ _ _ _ _ _ _ _ _ _ _ _ _ _ _ _ _ _ _ _ _ _ _ _ _ _ _ _ _ _ _ _ _ _ _ _ _ _ _ _ _ _ _ _ _ _ _ _ _ _ _ _ _ _ _ _ _ _ _ _ _ _ _ _ _ _ _ _ _ _ _ _ _ _ (⟨6, 0, (b % 1099511626776), data.take (min dn 40), false, 0, 0, 0, 0, 0, [], [0, 0, 0, 0, 0, 0, 0, 0]⟩ : Fr) _ _ _ HF rfl ((by simp only [rightB]; simp [inB, atB, HLT.out]; omega)) HG9 HB9
  · skip
    have hlt : (data.take (min dn 40)).length = min dn 40 := by rw [List.length_take, ← HD.out.1]; omega
    have HLT := Lib.hid hlt
    clear hlt
    have g4 : ∀ z : In (fun y => Below w0.heap.size w0 y), z.w.cell? ⟨gx, 4, none⟩ = some (.slice da dn dc) := fun z => row_cell (HX1.out _ z.h) 4 _ rfl
    have g5 : ∀ z : In (fun y => Below w0.heap.size w0 y), z.w.cell? ⟨gx, 5, none⟩ = some (.bool xf) := fun z => row_cell (HX1.out _ z.h) 5 _ rfl
    obtain ⟨⟨⟨mo1, mo2⟩, mc1, mc2⟩, ⟨⟨mb1, mb2⟩, ma1, ma2⟩, ⟨ms1, ms2⟩, mq1, mq2⟩ := HM.out
    go_upto_region 14 with fail
    refine wp_plan (.t 0 (.t 1 (.t 2 (.t 3 (.t 4 (.t 6 (.t 7 (.t 8 (.u 5 (.u 9 (.t 10 (.u 11 (.t 12 (.u 13 (.t 14 (.u 15 .done)))))))))))))))) (fun y => Below w0.heap.size w0 y) (by kernel_rfl) (by kernel_rfl) (by kernel_rfl) (fun c a d v w h => by first | (cases d <;> exact h) | exact HKP.out c a d v w h) (bl_next HB.out HB.out.size (Below.refl w.heap.size w).drew) ?_
    have HB1 := Lib.hid (bl_next HB.out HB.out.size (Below.refl w.heap.size w).drew)
    have HG1 : Hid (w.drew.heap[g]? = _) := Lib.hid HG.out
    generalize w.drew = w1 at HB1 HG1 ⊢
    haveI hne : Nonempty (In (fun y => Below w0.heap.size w0 y)) := ⟨⟨w1, HB1.out⟩⟩
    repeat (refine plan_t (by rfl) ?_; (first | go_big_quiet_skip | (go_big_quiet_want; go_big_quiet_op; go_big_quiet_on)); refine wpQuiet_nil ?_)
    clear g4 g5
    refine plan_us (by rfl) (by kernel_rfl) ?_
    intro K hK
    go_wp2_with fail
    refine Calls.mono (cut_any _ da dn dc 40 hdc hdm) ?_
    rintro e wq ⟨rfl, rfl⟩
    go_wp2_with fail
    refine ⟨HB1.out, ?_⟩
    repeat (refine plan_t (by rfl) ?_; (first | go_big_quiet_skip | (go_big_quiet_want; go_big_quiet_op; go_big_quiet_on)); refine wpQuiet_nil ?_)
    refine plan_us (by rfl) (by kernel_rfl) ?_
    intro K hK
    have c1 := row_cell HG1.out 1 _ rfl; have f1 := row_free HG1.out 1
    go_wp2_with fail
    clear c1 f1
    have hA := ((At.base HG1.out).set 1 (.int .u64 a)).conv (cs' := ([.int .i64 8, .int .u64 a, .int .u64 0, .slice none 0 0, .bool false, .int .u64 0, .int .u64 0, .int .u64 0, .int .u64 0, .int .u64 0, .slice none 0 0, .int .u8 0, .int .u8 0, .int .u8 0, .int .u8 0, .int .u8 0, .int .u8 0, .int .u8 0, .int .u8 0] : List Value).toArray) (by rfl)
    have HG2 := Lib.hid hA.row; have HB2 := Lib.hid (HB1.out.grown hA.rest HB1.out.size (by intro k hk; injection hk with hk; omega))
    refine ⟨HB2.out, ?_⟩
    clear hA HG1 HB1
    generalize w1.setCell ⟨g, 1, none⟩ (.int .u64 a) = w2 at HG2 HB2 ⊢
    repeat (refine plan_t (by rfl) ?_; (first | go_big_quiet_skip | (go_big_quiet_want; go_big_quiet_op; go_big_quiet_on)); refine wpQuiet_nil ?_)
    refine plan_us (by rfl) (by kernel_rfl) ?_
    intro K hK
    have c2 := row_cell HG2.out 2 _ rfl; have f2 := row_free HG2.out 2
    go_wp2_with fail
    clear c2 f2
    have hA := ((At.base HG2.out).set 2 (.int .u64 (b % 1099511626776))).conv (cs' := ([.int .i64 8, .int .u64 a, .int .u64 (b % 1099511626776), .slice none 0 0, .bool false, .int .u64 0, .int .u64 0, .int .u64 0, .int .u64 0, .int .u64 0, .slice none 0 0, .int .u8 0, .int .u8 0, .int .u8 0, .int .u8 0, .int .u8 0, .int .u8 0, .int .u8 0, .int .u8 0] : List Value).toArray) (by rfl)
    have HG3 := Lib.hid hA.row; have HB3 := Lib.hid (HB2.out.grown hA.rest HB2.out.size (by intro k hk; injection hk with hk; omega))
    refine ⟨HB3.out, ?_⟩
    clear hA HG2 HB2
    generalize w2.setCell ⟨g, 2, none⟩ (.int .u64 (b % 1099511626776)) = w3 at HG3 HB3 ⊢
    repeat (refine plan_t (by rfl) ?_; (first | go_big_quiet_skip | (go_big_quiet_want; go_big_quiet_op; go_big_quiet_on)); refine wpQuiet_nil ?_)
    refine plan_us (by rfl) (by kernel_rfl) ?_
    intro K hK
    have c3 := row_cell HG3.out 3 _ rfl; have f3 := row_free HG3.out 3
    go_wp2_with fail
    clear c3 f3
    have hA := ((At.base HG3.out).set 3 (.slice da (min dn 40) dc)).conv (cs' := ([.int .i64 8, .int .u64 a, .int .u64 (b % 1099511626776), .slice da (min dn 40) dc, .bool false, .int .u64 0, .int .u64 0, .int .u64 0, .int .u64 0, .int .u64 0, .slice none 0 0, .int .u8 0, .int .u8 0, .int .u8 0, .int .u8 0, .int .u8 0, .int .u8 0, .int .u8 0, .int .u8 0] : List Value).toArray) (by rfl)
    have HG4 := Lib.hid hA.row; have HB4 := Lib.hid (HB3.out.grown hA.rest HB3.out.size (by intro k hk; injection hk with hk; omega))
    refine ⟨HB4.out, ?_⟩
    clear hA HG3 HB3
    generalize w3.setCell ⟨g, 3, none⟩ (.slice da (min dn 40) dc) = w4 at HG4 HB4 ⊢
    repeat (refine plan_t (by rfl) ?_; (first | go_big_quiet_skip | (go_big_quiet_want; go_big_quiet_op; go_big_quiet_on)); refine wpQuiet_nil ?_)
    refine plan_us (by rfl) (by kernel_rfl) ?_
    intro K hK
    have c4 := row_cell HG4.out 4 _ rfl; have f4 := row_free HG4.out 4
    go_wp2_with fail
    clear c4 f4
    have hA := ((At.base HG4.out).set 4 (.bool xf)).conv (cs' := ([.int .i64 8, .int .u64 a, .int .u64 (b % 1099511626776), .slice da (min dn 40) dc, .bool xf, .int .u64 0, .int .u64 0, .int .u64 0, .int .u64 0, .int .u64 0, .slice none 0 0, .int .u8 0, .int .u8 0, .int .u8 0, .int .u8 0, .int .u8 0, .int .u8 0, .int .u8 0, .int .u8 0] : List Value).toArray) (by rfl)
    have HG5 := Lib.hid hA.row; have HB5 := Lib.hid (HB4.out.grown hA.rest HB4.out.size (by intro k hk; injection hk with hk; omega))
    refine ⟨HB5.out, ?_⟩
    clear hA HG4 HB4
    generalize w4.setCell ⟨g, 4, none⟩ (.bool xf) = w5 at HG5 HB5 ⊢
    clear hne
    show Exit.inBlock _ _ _ _ _
    simp only [Exit.inBlock]
    have HF : Hid (∀ y, World.grownBy w5 y (some gz) → IntsK .u8 y da dn data → FrAt y (⟨8, a, (b % 1099511626776), data.take (min dn 40), xf, 0, 0, 0, 0, 0, [], [0, 0, 0, 0, 0, 0, 0, 0]⟩ : Fr) (.slice da (min dn 40) dc) (.slice none 0 0)) := Lib.hid fun y hgy hIy => ⟨⟨by simp only; omega, by simp only [U64]; omega, by simp only [U64]; omega, by simp only [U64]; omega, by simp only [U64]; omega, by simp only [U64]; omega, by simp only [U64]; omega, by simp only [U64]; omega, rfl, (by intro x hx; simp only [List.mem_cons, List.not_mem_nil, or_false] at hx; rcases hx with rfl | rfl | rfl | rfl | rfl | rfl | rfl | rfl <;> rfl)⟩, ⟨_, _, _, rfl, by omega, hdm, hIy.pre (min dn 40) (by omega)⟩, ⟨none, 0, 0, rfl, Nat.le_refl _, by omega, RK.At.nil _ _⟩⟩
    exact HK.out _ _ _ _ _ _ _ _ _ _ _ _ _ _ _ _ _ _ _ _ _ _ _ _ _ _ _ _ _ _ _ _ _ _ _ _ _ _ _ _ _ _ _ _ _ _ _ _ _ _ _ _ _ _ _ _ _ _ _ _ _ _ _ _ _ _ _ _ _ _ _ _ _ _ _ _ _ _ _ _ _ _ _ _ _ _ _ _ _ _ _ _ _ _ _ _ _ _ _ _ (⟨8, a, (b % 1099511626776), data.take (min dn 40), xf, 0, 0, 0, 0, 0, [], [0, 0, 0, 0, 0, 0, 0, 0]⟩ : Fr) _ _ _ HF rfl ((by simp only [rightB]; simp [inB, atB, HLT.out]; omega)) HG5 HB5
  · skip
    obtain ⟨⟨⟨mo1, mo2⟩, mc1, mc2⟩, ⟨⟨mb1, mb2⟩, ma1, ma2⟩, ⟨ms1, ms2⟩, mq1, mq2⟩ := HM.out
    have c5 := row_cell HG.out 5 _ rfl; have f5 := row_free HG.out 5
    go_wp2_with fail
    clear c5 f5
    have hA := ((At.base HG.out).set 5 (.int .u64 (a % 1099511627777))).conv (cs' := ([.int .i64 16, .int .u64 0, .int .u64 0, .slice none 0 0, .bool false, .int .u64 (a % 1099511627777), .int .u64 0, .int .u64 0, .int .u64 0, .int .u64 0, .slice none 0 0, .int .u8 0, .int .u8 0, .int .u8 0, .int .u8 0, .int .u8 0, .int .u8 0, .int .u8 0, .int .u8 0] : List Value).toArray) (by rfl)
    have HG9 := Lib.hid hA.row; have HB9 := Lib.hid (HB.out.grown hA.rest HB.out.size (by intro k hk; injection hk with hk; omega))
    clear hA
    generalize (w.setCell ⟨g, 5, none⟩ (.int .u64 (a % 1099511627777))) = w9 at HG9 HB9 ⊢
    have HF : Hid (∀ y, World.grownBy w9 y (some gz) → IntsK .u8 y da dn data → FrAt y (⟨16, 0, 0, [], false, (a % 1099511627777), 0, 0, 0, 0, [], [0, 0, 0, 0, 0, 0, 0, 0]⟩ : Fr) (.slice none 0 0) (.slice none 0 0)) := Lib.hid fun y hgy hIy => ⟨⟨by simp only; omega, by simp only [U64]; omega, by simp only [U64]; omega, by simp only [U64]; omega, by simp only [U64]; omega, by simp only [U64]; omega, by simp only [U64]; omega, by simp only [U64]; omega, rfl, (by intro x hx; simp only [List.mem_cons, List.not_mem_nil, or_false] at hx; rcases hx with rfl | rfl | rfl | rfl | rfl | rfl | rfl | rfl <;> rfl)⟩, ⟨none, 0, 0, rfl, Nat.le_refl _, by omega, IntsK.nil _ _ _⟩, ⟨none, 0, 0, rfl, Nat.le_refl _, by omega, RK.At.nil _ _⟩⟩
    exact HK.out _ _ _ _ _ _ _ _ _ _ _ _ _ _ _ _ _ _ _ _ _ _ _ _ _ _ _ _ _ _ _ _ _ _ _ _ _ _ _ _ _ _ _ _ _ _ _ _ _ _ _ _ _ _ _ _ _ _ _ _ _ _ _ _ _ _ _ _ _ _ _ _ _ _ _ _ _ _ _ _ _ _ _ _ _ _ _ _ _ _ _ _ _ _ _ _ _ _ _ _ (⟨16, 0, 0, [], false, (a % 1099511627777), 0, 0, 0, 0, [], [0, 0, 0, 0, 0, 0, 0, 0]⟩ : Fr) _ _ _ HF rfl ((by simp [rightB, inB, atB]; try omega)) HG9 HB9
  · skip
    obtain ⟨⟨⟨mo1, mo2⟩, mc1, mc2⟩, ⟨⟨mb1, mb2⟩, ma1, ma2⟩, ⟨ms1, ms2⟩, mq1, mq2⟩ := HM.out
    have c1 := row_cell HG.out 1 _ rfl; have f1 := row_free HG.out 1
    have c5 := row_cell HG.out 5 _ rfl; have f5 := row_free HG.out 5
    go_wp2_with fail
    clear c1 f1 c5 f5
    have hA := (((At.base HG.out).set 1 (.int .u64 a)).set 5 (.int .u64 (b % 1099511627777))).conv (cs' := ([.int .i64 17, .int .u64 a, .int .u64 0, .slice none 0 0, .bool false, .int .u64 (b % 1099511627777), .int .u64 0, .int .u64 0, .int .u64 0, .int .u64 0, .slice none 0 0, .int .u8 0, .int .u8 0, .int .u8 0, .int .u8 0, .int .u8 0, .int .u8 0, .int .u8 0, .int .u8 0] : List Value).toArray) (by rfl)
    have HG9 := Lib.hid hA.row; have HB9 := Lib.hid (HB.out.grown hA.rest HB.out.size (by intro k hk; injection hk with hk; omega))
    clear hA
    generalize ((w.setCell ⟨g, 1, none⟩ (.int .u64 a)).setCell ⟨g, 5, none⟩ (.int .u64 (b % 1099511627777))) = w9 at HG9 HB9 ⊢
    have HF : Hid (∀ y, World.grownBy w9 y (some gz) → IntsK .u8 y da dn data → FrAt y (⟨17, a, 0, [], false, (b % 1099511627777), 0, 0, 0, 0, [], [0, 0, 0, 0, 0, 0, 0, 0]⟩ : Fr) (.slice none 0 0) (.slice none 0 0)) := Lib.hid fun y hgy hIy => ⟨⟨by simp only; omega, by simp only [U64]; omega, by simp only [U64]; omega, by simp only [U64]; omega, by simp only [U64]; omega, by simp only [U64]; omega, by simp only [U64]; omega, by simp only [U64]; omega, rfl, (by intro x hx; simp only [List.mem_cons, List.not_mem_nil, or_false] at hx; rcases hx with rfl | rfl | rfl | rfl | rfl | rfl | rfl | rfl <;> rfl)⟩, ⟨none, 0, 0, rfl, Nat.le_refl _, by omega, IntsK.nil _ _ _⟩, ⟨none, 0, 0, rfl, Nat.le_refl _, by omega, RK.At.nil _ _⟩⟩
    exact HK.out _ _ _ _ _ _ _ _ _ _ _ _ _ _ _ _ _ _ _ _ _ _ _ _ _ _ _ _ _ _ _ _ _ _ _ _ _ _ _ _ _ _ _ _ _ _ _ _ _ _ _ _ _ _ _ _ _ _ _ _ _ _ _ _ _ _ _ _ _ _ _ _ _ _ _ _ _ _ _ _ _ _ _ _ _ _ _ _ _ _ _ _ _ _ _ _ _ _ _ _ (⟨17, a, 0, [], false, (b % 1099511627777), 0, 0, 0, 0, [], [0, 0, 0, 0, 0, 0, 0, 0]⟩ : Fr) _ _ _ HF rfl ((by simp [rightB, inB, atB]; try omega)) HG9 HB9
  · skip
    obtain ⟨⟨⟨mo1, mo2⟩, mc1, mc2⟩, ⟨⟨mb1, mb2⟩, ma1, ma2⟩, ⟨ms1, ms2⟩, mq1, mq2⟩ := HM.out
    have c5 := row_cell HG.out 5 _ rfl; have f5 := row_free HG.out 5
    go_wp2_with fail
    clear c5 f5
    have hA := ((At.base HG.out).set 5 (.int .u64 (a % 1048577))).conv (cs' := ([.int .i64 18, .int .u64 0, .int .u64 0, .slice none 0 0, .bool false, .int .u64 (a % 1048577), .int .u64 0, .int .u64 0, .int .u64 0, .int .u64 0, .slice none 0 0, .int .u8 0, .int .u8 0, .int .u8 0, .int .u8 0, .int .u8 0, .int .u8 0, .int .u8 0, .int .u8 0] : List Value).toArray) (by rfl)
    have HG9 := Lib.hid hA.row; have HB9 := Lib.hid (HB.out.grown hA.rest HB.out.size (by intro k hk; injection hk with hk; omega))
    clear hA
    generalize (w.setCell ⟨g, 5, none⟩ (.int .u64 (a % 1048577))) = w9 at HG9 HB9 ⊢
    have HF : Hid (∀ y, World.grownBy w9 y (some gz) → IntsK .u8 y da dn data → FrAt y (⟨18, 0, 0, [], false, (a % 1048577), 0, 0, 0, 0, [], [0, 0, 0, 0, 0, 0, 0, 0]⟩ : Fr) (.slice none 0 0) (.slice none 0 0)) := Lib.hid fun y hgy hIy => ⟨⟨by simp only; omega, by simp only [U64]; omega, by simp only [U64]; omega, by simp only [U64]; omega, by simp only [U64]; omega, by simp only [U64]; omega, by simp only [U64]; omega, by simp only [U64]; omega, rfl, (by intro x hx; simp only [List.mem_cons, List.not_mem_nil, or_false] at hx; rcases hx with rfl | rfl | rfl | rfl | rfl | rfl | rfl | rfl <;> rfl)⟩, ⟨none, 0, 0, rfl, Nat.le_refl _, by omega, IntsK.nil _ _ _⟩, ⟨none, 0, 0, rfl, Nat.le_refl _, by omega, RK.At.nil _ _⟩⟩
    exact HK.out _ _ _ _ _ _ _ _ _ _ _ _ _ _ _ _ _ _ _ _ _ _ _ _ _ _ _ _ _ _ _ _ _ _ _ _ _ _ _ _ _ _ _ _ _ _ _ _ _ _ _ _ _ _ _ _ _ _ _ _ _ _ _ _ _ _ _ _ _ _ _ _ _ _ _ _ _ _ _ _ _ _ _ _ _ _ _ _ _ _ _ _ _ _ _ _ _ _ _ _ (⟨18, 0, 0, [], false, (a % 1048577), 0, 0, 0, 0, [], [0, 0, 0, 0, 0, 0, 0, 0]⟩ : Fr) _ _ _ HF rfl ((by simp [rightB, inB, atB]; try omega)) HG9 HB9
  · skip
    obtain ⟨⟨⟨mo1, mo2⟩, mc1, mc2⟩, ⟨⟨mb1, mb2⟩, ma1, ma2⟩, ⟨ms1, ms2⟩, mq1, mq2⟩ := HM.out
    have c5 := row_cell HG.out 5 _ rfl; have f5 := row_free HG.out 5
    go_wp2_with fail
    clear c5 f5
    have hA := ((At.base HG.out).set 5 (.int .u64 a)).conv (cs' := ([.int .i64 20, .int .u64 0, .int .u64 0, .slice none 0 0, .bool false, .int .u64 a, .int .u64 0, .int .u64 0, .int .u64 0, .int .u64 0, .slice none 0 0, .int .u8 0, .int .u8 0, .int .u8 0, .int .u8 0, .int .u8 0, .int .u8 0, .int .u8 0, .int .u8 0] : List Value).toArray) (by rfl)
    have HG9 := Lib.hid hA.row; have HB9 := Lib.hid (HB.out.grown hA.rest HB.out.size (by intro k hk; injection hk with hk; omega))
    clear hA
    generalize (w.setCell ⟨g, 5, none⟩ (.int .u64 a)) = w9 at HG9 HB9 ⊢
    have HF : Hid (∀ y, World.grownBy w9 y (some gz) → IntsK .u8 y da dn data → FrAt y (⟨20, 0, 0, [], false, a, 0, 0, 0, 0, [], [0, 0, 0, 0, 0, 0, 0, 0]⟩ : Fr) (.slice none 0 0) (.slice none 0 0)) := Lib.hid fun y hgy hIy => ⟨⟨by simp only; omega, by simp only [U64]; omega, by simp only [U64]; omega, by simp only [U64]; omega, by simp only [U64]; omega, by simp only [U64]; omega, by simp only [U64]; omega, by simp only [U64]; omega, rfl, (by intro x hx; simp only [List.mem_cons, List.not_mem_nil, or_false] at hx; rcases hx with rfl | rfl | rfl | rfl | rfl | rfl | rfl | rfl <;> rfl)⟩, ⟨none, 0, 0, rfl, Nat.le_refl _, by omega, IntsK.nil _ _ _⟩, ⟨none, 0, 0, rfl, Nat.le_refl _, by omega, RK.At.nil _ _⟩⟩
    exact HK.out _ _ _ _ _ _ _ _ _ _ _ _ _ _ _ _ _ _ _ _ _ _ _ _ _ _ _ _ _ _ _ _ _ _ _ _ _ _ _ _ _ _ _ _ _ _ _ _ _ _ _ _ _ _ _ _ _ _ _ _ _ _ _ _ _ _ _ _ _ _ _ _ _ _ _ _ _ _ _ _ _ _ _ _ _ _ _ _ _ _ _ _ _ _ _ _ _ _ _ _ (⟨20, 0, 0, [], false, a, 0, 0, 0, 0, [], [0, 0, 0, 0, 0, 0, 0, 0]⟩ : Fr) _ _ _ HF rfl ((by simp [rightB, inB, atB]; try omega)) HG9 HB9
  · skip
    obtain ⟨⟨⟨mo1, mo2⟩, mc1, mc2⟩, ⟨⟨mb1, mb2⟩, ma1, ma2⟩, ⟨ms1, ms2⟩, mq1, mq2⟩ := HM.out
    have x7 := row_cell (HX1.out _ HB.out) 7 _ rfl
    by_cases hab : a ≤ b
    · skip
      have hxx : ¬ b < a := by omega
      go_wp2_with fail
      clear x7
      refine Calls.mono (Kc.kcid_any _ xn hn) ?_
      rintro e w1 ⟨rfl, hb⟩
      replace HG := Lib.hid (bl_row hb (lt_of_block HG.out) HG.out); replace HB := Lib.hid (bl_next HB.out HB.out.size hb)
      clear hb
      have HCW := Lib.hid (Kc.cidM_wf xn)
      rw [kcells] at *
      have hwi := within_in xn 0 1048576 (by omega)
      obtain ⟨nn, hnn⟩ : ∃ nn, within xn 0 1048576 % 5 = nn := ⟨_, rfl⟩
      rw [hnn]
      have HNN := Lib.hid hnn
      clear hnn
      have c8 := row_cell HG.out 8 _ rfl; have f8 := row_free HG.out 8
      have c5 := row_cell HG.out 5 _ rfl; have f5 := row_free HG.out 5
      have hA := (((At.base HG.out).set 8 (.int .u64 a)).set 5 (.int .u64 a)).conv (cs' := ([.int .i64 24, .int .u64 0, .int .u64 0, .slice none 0 0, .bool false, .int .u64 a, .int .u64 0, .int .u64 0, .int .u64 a, .int .u64 0, .slice none 0 0, .int .u8 0, .int .u8 0, .int .u8 0, .int .u8 0, .int .u8 0, .int .u8 0, .int .u8 0, .int .u8 0] : List Value).toArray) (by rfl)
      have HG8 := Lib.hid hA.row; have HB8 := Lib.hid (HB.out.grown hA.rest HB.out.size (by intro k hk; injection hk with hk; omega))
      clear hA
      go_wp2_with (first | (refine wpList_store_part rfl 38 _ _ rfl g 11 rfl [.int .u8 1, .int .u8 nn, .int .u8 7, .int .u8 0, .int .u8 0, .int .u8 0, .int .u8 0, .int .u8 0] _ (([.int .i64 24, .int .u64 0, .int .u64 0, .slice none 0 0, .bool false, .int .u64 a, .int .u64 0, .int .u64 0, .int .u64 a, .int .u64 0, .slice none 0 0, .int .u8 0, .int .u8 0, .int .u8 0, .int .u8 0, .int .u8 0, .int .u8 0, .int .u8 0, .int .u8 0] : List Value).take 11) ((([.int .i64 24, .int .u64 0, .int .u64 0, .slice none 0 0, .bool false, .int .u64 a, .int .u64 0, .int .u64 0, .int .u64 a, .int .u64 0, .slice none 0 0, .int .u8 0, .int .u8 0, .int .u8 0, .int .u8 0, .int .u8 0, .int .u8 0, .int .u8 0, .int .u8 0] : List Value).drop 11).take 8) (([.int .i64 24, .int .u64 0, .int .u64 0, .slice none 0 0, .bool false, .int .u64 a, .int .u64 0, .int .u64 0, .int .u64 a, .int .u64 0, .slice none 0 0, .int .u8 0, .int .u8 0, .int .u8 0, .int .u8 0, .int .u8 0, .int .u8 0, .int .u8 0, .int .u8 0] : List Value).drop 19) rfl HG8.out rfl rfl rfl (by intro v hv; simp only [List.mem_cons, List.not_mem_nil, or_false] at hv; rcases hv with rfl | rfl | rfl | rfl | rfl | rfl | rfl | rfl <;> rfl) ?_; intro w9 hrp hgp; have HG9 := Lib.hid hrp; have HB9 := Lib.hid (HB8.out.grown hgp HB8.out.size (by intro k hk; injection hk with hk; omega)); clear hrp hgp) | fail)
      have HF : Hid (∀ y, World.grownBy w9 y (some gz) → IntsK .u8 y da dn data → FrAt y (⟨24, 0, 0, [], false, a, 0, 0, a, 0, [], [1, nn, 7, 0, 0, 0, 0, 0]⟩ : Fr) (.slice none 0 0) (.slice none 0 0)) := Lib.hid fun y hgy hIy => ⟨⟨by simp only; omega, by simp only [U64]; omega, by simp only [U64]; omega, by simp only [U64]; omega, by simp only [U64]; omega, by simp only [U64]; omega, by simp only [U64]; omega, by simp only [U64]; omega, rfl, (by rw [← HNN.out]; exact HCW.out)⟩, ⟨none, 0, 0, rfl, Nat.le_refl _, by omega, IntsK.nil _ _ _⟩, ⟨none, 0, 0, rfl, Nat.le_refl _, by omega, RK.At.nil _ _⟩⟩
      exact HK.out _ _ _ _ _ _ _ _ _ _ _ _ _ _ _ _ _ _ _ _ _ _ _ _ _ _ _ _ _ _ _ _ _ _ _ _ _ _ _ _ _ _ _ _ _ _ _ _ _ _ _ _ _ _ _ _ _ _ _ _ _ _ _ _ _ _ _ _ _ _ _ _ _ _ _ _ _ _ _ _ _ _ _ _ _ _ _ _ _ _ _ _ _ _ _ _ _ _ _ _ (⟨24, 0, 0, [], false, a, 0, 0, a, 0, [], [1, nn, 7, 0, 0, 0, 0, 0]⟩ : Fr) _ _ _ HF rfl ((by simp [rightB, inB]; omega)) HG9 HB9
    · skip
      have hxx : b < a := by omega
      go_wp2_with fail
      clear x7
      refine Calls.mono (Kc.kcid_any _ xn hn) ?_
      rintro e w1 ⟨rfl, hb⟩
      replace HG := Lib.hid (bl_row hb (lt_of_block HG.out) HG.out); replace HB := Lib.hid (bl_next HB.out HB.out.size hb)
      clear hb
      have HCW := Lib.hid (Kc.cidM_wf xn)
      rw [kcells] at *
      have hwi := within_in xn 0 1048576 (by omega)
      obtain ⟨nn, hnn⟩ : ∃ nn, within xn 0 1048576 % 5 = nn := ⟨_, rfl⟩
      rw [hnn]
      have HNN := Lib.hid hnn
      clear hnn
      have c8 := row_cell HG.out 8 _ rfl; have f8 := row_free HG.out 8
      have c5 := row_cell HG.out 5 _ rfl; have f5 := row_free HG.out 5
      have hA := (((At.base HG.out).set 8 (.int .u64 a)).set 5 (.int .u64 b)).conv (cs' := ([.int .i64 24, .int .u64 0, .int .u64 0, .slice none 0 0, .bool false, .int .u64 b, .int .u64 0, .int .u64 0, .int .u64 a, .int .u64 0, .slice none 0 0, .int .u8 0, .int .u8 0, .int .u8 0, .int .u8 0, .int .u8 0, .int .u8 0, .int .u8 0, .int .u8 0] : List Value).toArray) (by rfl)
      have HG8 := Lib.hid hA.row; have HB8 := Lib.hid (HB.out.grown hA.rest HB.out.size (by intro k hk; injection hk with hk; omega))
      clear hA
      go_wp2_with (first | (refine wpList_store_part rfl 38 _ _ rfl g 11 rfl [.int .u8 1, .int .u8 nn, .int .u8 7, .int .u8 0, .int .u8 0, .int .u8 0, .int .u8 0, .int .u8 0] _ (([.int .i64 24, .int .u64 0, .int .u64 0, .slice none 0 0, .bool false, .int .u64 b, .int .u64 0, .int .u64 0, .int .u64 a, .int .u64 0, .slice none 0 0, .int .u8 0, .int .u8 0, .int .u8 0, .int .u8 0, .int .u8 0, .int .u8 0, .int .u8 0, .int .u8 0] : List Value).take 11) ((([.int .i64 24, .int .u64 0, .int .u64 0, .slice none 0 0, .bool false, .int .u64 b, .int .u64 0, .int .u64 0, .int .u64 a, .int .u64 0, .slice none 0 0, .int .u8 0, .int .u8 0, .int .u8 0, .int .u8 0, .int .u8 0, .int .u8 0, .int .u8 0, .int .u8 0] : List Value).drop 11).take 8) (([.int .i64 24, .int .u64 0, .int .u64 0, .slice none 0 0, .bool false, .int .u64 b, .int .u64 0, .int .u64 0, .int .u64 a, .int .u64 0, .slice none 0 0, .int .u8 0, .int .u8 0, .int .u8 0, .int .u8 0, .int .u8 0, .int .u8 0, .int .u8 0, .int .u8 0] : List Value).drop 19) rfl HG8.out rfl rfl rfl (by intro v hv; simp only [List.mem_cons, List.not_mem_nil, or_false] at hv; rcases hv with rfl | rfl | rfl | rfl | rfl | rfl | rfl | rfl <;> rfl) ?_; intro w9 hrp hgp; have HG9 := Lib.hid hrp; have HB9 := Lib.hid (HB8.out.grown hgp HB8.out.size (by intro k hk; injection hk with hk; omega)); clear hrp hgp) | fail)
      have HF : Hid (∀ y, World.grownBy w9 y (some gz) → IntsK .u8 y da dn data → FrAt y (⟨24, 0, 0, [], false, b, 0, 0, a, 0, [], [1, nn, 7, 0, 0, 0, 0, 0]⟩ : Fr) (.slice none 0 0) (.slice none 0 0)) := Lib.hid fun y hgy hIy => ⟨⟨by simp only; omega, by simp only [U64]; omega, by simp only [U64]; omega, by simp only [U64]; omega, by simp only [U64]; omega, by simp only [U64]; omega, by simp only [U64]; omega, by simp only [U64]; omega, rfl, (by rw [← HNN.out]; exact HCW.out)⟩, ⟨none, 0, 0, rfl, Nat.le_refl _, by omega, IntsK.nil _ _ _⟩, ⟨none, 0, 0, rfl, Nat.le_refl _, by omega, RK.At.nil _ _⟩⟩
      exact HK.out _ _ _ _ _ _ _ _ _ _ _ _ _ _ _ _ _ _ _ _ _ _ _ _ _ _ _ _ _ _ _ _ _ _ _ _ _ _ _ _ _ _ _ _ _ _ _ _ _ _ _ _ _ _ _ _ _ _ _ _ _ _ _ _ _ _ _ _ _ _ _ _ _ _ _ _ _ _ _ _ _ _ _ _ _ _ _ _ _ _ _ _ _ _ _ _ _ _ _ _ (⟨24, 0, 0, [], false, b, 0, 0, a, 0, [], [1, nn, 7, 0, 0, 0, 0, 0]⟩ : Fr) _ _ _ HF rfl ((by simp [rightB, inB]; omega)) HG9 HB9
  · skip
    obtain ⟨⟨⟨mo1, mo2⟩, mc1, mc2⟩, ⟨⟨mb1, mb2⟩, ma1, ma2⟩, ⟨ms1, ms2⟩, mq1, mq2⟩ := HM.out
    have c8 := row_cell HG.out 8 _ rfl; have f8 := row_free HG.out 8
    go_wp2_with fail
    clear c8 f8
    have hA := ((At.base HG.out).set 8 (.int .u64 a)).conv (cs' := ([.int .i64 25, .int .u64 0, .int .u64 0, .slice none 0 0, .bool false, .int .u64 0, .int .u64 0, .int .u64 0, .int .u64 a, .int .u64 0, .slice none 0 0, .int .u8 0, .int .u8 0, .int .u8 0, .int .u8 0, .int .u8 0, .int .u8 0, .int .u8 0, .int .u8 0] : List Value).toArray) (by rfl)
    have HG9 := Lib.hid hA.row; have HB9 := Lib.hid (HB.out.grown hA.rest HB.out.size (by intro k hk; injection hk with hk; omega))
    clear hA
    generalize (w.setCell ⟨g, 8, none⟩ (.int .u64 a)) = w9 at HG9 HB9 ⊢
    have HF : Hid (∀ y, World.grownBy w9 y (some gz) → IntsK .u8 y da dn data → FrAt y (⟨25, 0, 0, [], false, 0, 0, 0, a, 0, [], [0, 0, 0, 0, 0, 0, 0, 0]⟩ : Fr) (.slice none 0 0) (.slice none 0 0)) := Lib.hid fun y hgy hIy => ⟨⟨by simp only; omega, by simp only [U64]; omega, by simp only [U64]; omega, by simp only [U64]; omega, by simp only [U64]; omega, by simp only [U64]; omega, by simp only [U64]; omega, by simp only [U64]; omega, rfl, (by intro x hx; simp only [List.mem_cons, List.not_mem_nil, or_false] at hx; rcases hx with rfl | rfl | rfl | rfl | rfl | rfl | rfl | rfl <;> rfl)⟩, ⟨none, 0, 0, rfl, Nat.le_refl _, by omega, IntsK.nil _ _ _⟩, ⟨none, 0, 0, rfl, Nat.le_refl _, by omega, RK.At.nil _ _⟩⟩
    exact HK.out _ _ _ _ _ _ _ _ _ _ _ _ _ _ _ _ _ _ _ _ _ _ _ _ _ _ _ _ _ _ _ _ _ _ _ _ _ _ _ _ _ _ _ _ _ _ _ _ _ _ _ _ _ _ _ _ _ _ _ _ _ _ _ _ _ _ _ _ _ _ _ _ _ _ _ _ _ _ _ _ _ _ _ _ _ _ _ _ _ _ _ _ _ _ _ _ _ _ _ _ (⟨25, 0, 0, [], false, 0, 0, 0, a, 0, [], [0, 0, 0, 0, 0, 0, 0, 0]⟩ : Fr) _ _ _ HF rfl ((by simp [rightB, inB, atB]; try omega)) HG9 HB9
  · skip
    have x7 := row_cell (HX1.out _ HB.out) 7 _ rfl
    go_wp2_with fail
    clear x7
    refine Calls.mono (Kc.kcid_any _ xn hn) ?_
    rintro e w1 ⟨rfl, hb⟩
    replace HG := Lib.hid (bl_row hb (lt_of_block HG.out) HG.out); replace HB := Lib.hid (bl_next HB.out HB.out.size hb)
    clear hb
    have HCW := Lib.hid (Kc.cidM_wf xn)
    rw [kcells] at *
    have hwi := within_in xn 0 1048576 (by omega)
    obtain ⟨nn, hnn⟩ : ∃ nn, within xn 0 1048576 % 5 = nn := ⟨_, rfl⟩
    rw [hnn]
    have HNN := Lib.hid hnn
    clear hnn
    go_wp2_with (first | (refine wpList_store_part rfl 38 _ _ rfl g 11 rfl [.int .u8 1, .int .u8 nn, .int .u8 7, .int .u8 0, .int .u8 0, .int .u8 0, .int .u8 0, .int .u8 0] _ (([.int .i64 26, .int .u64 0, .int .u64 0, .slice none 0 0, .bool false, .int .u64 0, .int .u64 0, .int .u64 0, .int .u64 0, .int .u64 0, .slice none 0 0, .int .u8 0, .int .u8 0, .int .u8 0, .int .u8 0, .int .u8 0, .int .u8 0, .int .u8 0, .int .u8 0] : List Value).take 11) ((([.int .i64 26, .int .u64 0, .int .u64 0, .slice none 0 0, .bool false, .int .u64 0, .int .u64 0, .int .u64 0, .int .u64 0, .int .u64 0, .slice none 0 0, .int .u8 0, .int .u8 0, .int .u8 0, .int .u8 0, .int .u8 0, .int .u8 0, .int .u8 0, .int .u8 0] : List Value).drop 11).take 8) (([.int .i64 26, .int .u64 0, .int .u64 0, .slice none 0 0, .bool false, .int .u64 0, .int .u64 0, .int .u64 0, .int .u64 0, .int .u64 0, .slice none 0 0, .int .u8 0, .int .u8 0, .int .u8 0, .int .u8 0, .int .u8 0, .int .u8 0, .int .u8 0, .int .u8 0] : List Value).drop 19) rfl HG.out rfl rfl rfl (by intro v hv; simp only [List.mem_cons, List.not_mem_nil, or_false] at hv; rcases hv with rfl | rfl | rfl | rfl | rfl | rfl | rfl | rfl <;> rfl) ?_; intro w9 hrp hgp; have HG9 := Lib.hid hrp; have HB9 := Lib.hid (HB.out.grown hgp HB.out.size (by intro k hk; injection hk with hk; omega)); clear hrp hgp) | fail)
    have HF : Hid (∀ y, World.grownBy w9 y (some gz) → IntsK .u8 y da dn data → FrAt y (⟨26, 0, 0, [], false, 0, 0, 0, 0, 0, [], [1, nn, 7, 0, 0, 0, 0, 0]⟩ : Fr) (.slice none 0 0) (.slice none 0 0)) := Lib.hid fun y hgy hIy => ⟨⟨by simp only; omega, by simp only [U64]; omega, by simp only [U64]; omega, by simp only [U64]; omega, by simp only [U64]; omega, by simp only [U64]; omega, by simp only [U64]; omega, by simp only [U64]; omega, rfl, (by rw [← HNN.out]; exact HCW.out)⟩, ⟨none, 0, 0, rfl, Nat.le_refl _, by omega, IntsK.nil _ _ _⟩, ⟨none, 0, 0, rfl, Nat.le_refl _, by omega, RK.At.nil _ _⟩⟩
    exact HK.out _ _ _ _ _ _ _ _ _ _ _ _ _ _ _ _ _ _ _ _ _ _ _ _ _ _ _ _ _ _ _ _ _ _ _ _ _ _ _ _ _ _ _ _ _ _ _ _ _ _ _ _ _ _ _ _ _ _ _ _ _ _ _ _ _ _ _ _ _ _ _ _ _ _ _ _ _ _ _ _ _ _ _ _ _ _ _ _ _ _ _ _ _ _ _ _ _ _ _ _ (⟨26, 0, 0, [], false, 0, 0, 0, 0, 0, [], [1, nn, 7, 0, 0, 0, 0, 0]⟩ : Fr) _ _ _ HF rfl ((by simp [rightB])) HG9 HB9
  · skip
    have x7 := row_cell (HX1.out _ HB.out) 7 _ rfl
    go_wp2_with fail
    clear x7
    refine Calls.mono (Kc.kcid_any _ xn hn) ?_
    rintro e w1 ⟨rfl, hb⟩
    replace HG := Lib.hid (bl_row hb (lt_of_block HG.out) HG.out); replace HB := Lib.hid (bl_next HB.out HB.out.size hb)
    clear hb
    have HCW := Lib.hid (Kc.cidM_wf xn)
    rw [kcells] at *
    have hwi := within_in xn 0 1048576 (by omega)
    obtain ⟨nn, hnn⟩ : ∃ nn, within xn 0 1048576 % 5 = nn := ⟨_, rfl⟩
    rw [hnn]
    have HNN := Lib.hid hnn
    clear hnn
    go_wp2_with (first | (refine wpList_store_part rfl 38 _ _ rfl g 11 rfl [.int .u8 1, .int .u8 nn, .int .u8 7, .int .u8 0, .int .u8 0, .int .u8 0, .int .u8 0, .int .u8 0] _ (([.int .i64 27, .int .u64 0, .int .u64 0, .slice none 0 0, .bool false, .int .u64 0, .int .u64 0, .int .u64 0, .int .u64 0, .int .u64 0, .slice none 0 0, .int .u8 0, .int .u8 0, .int .u8 0, .int .u8 0, .int .u8 0, .int .u8 0, .int .u8 0, .int .u8 0] : List Value).take 11) ((([.int .i64 27, .int .u64 0, .int .u64 0, .slice none 0 0, .bool false, .int .u64 0, .int .u64 0, .int .u64 0, .int .u64 0, .int .u64 0, .slice none 0 0, .int .u8 0, .int .u8 0, .int .u8 0, .int .u8 0, .int .u8 0, .int .u8 0, .int .u8 0, .int .u8 0] : List Value).drop 11).take 8) (([.int .i64 27, .int .u64 0, .int .u64 0, .slice none 0 0, .bool false, .int .u64 0, .int .u64 0, .int .u64 0, .int .u64 0, .int .u64 0, .slice none 0 0, .int .u8 0, .int .u8 0, .int .u8 0, .int .u8 0, .int .u8 0, .int .u8 0, .int .u8 0, .int .u8 0] : List Value).drop 19) rfl HG.out rfl rfl rfl (by intro v hv; simp only [List.mem_cons, List.not_mem_nil, or_false] at hv; rcases hv with rfl | rfl | rfl | rfl | rfl | rfl | rfl | rfl <;> rfl) ?_; intro w9 hrp hgp; have HG9 := Lib.hid hrp; have HB9 := Lib.hid (HB.out.grown hgp HB.out.size (by intro k hk; injection hk with hk; omega)); clear hrp hgp) | fail)
    have HF : Hid (∀ y, World.grownBy w9 y (some gz) → IntsK .u8 y da dn data → FrAt y (⟨27, 0, 0, [], false, 0, 0, 0, 0, 0, [], [1, nn, 7, 0, 0, 0, 0, 0]⟩ : Fr) (.slice none 0 0) (.slice none 0 0)) := Lib.hid fun y hgy hIy => ⟨⟨by simp only; omega, by simp only [U64]; omega, by simp only [U64]; omega, by simp only [U64]; omega, by simp only [U64]; omega, by simp only [U64]; omega, by simp only [U64]; omega, by simp only [U64]; omega, rfl, (by rw [← HNN.out]; exact HCW.out)⟩, ⟨none, 0, 0, rfl, Nat.le_refl _, by omega, IntsK.nil _ _ _⟩, ⟨none, 0, 0, rfl, Nat.le_refl _, by omega, RK.At.nil _ _⟩⟩
    exact HK.out _ _ _ _ _ _ _ _ _ _ _ _ _ _ _ _ _ _ _ _ _ _ _ _ _ _ _ _ _ _ _ _ _ _ _ _ _ _ _ _ _ _ _ _ _ _ _ _ _ _ _ _ _ _ _ _ _ _ _ _ _ _ _ _ _ _ _ _ _ _ _ _ _ _ _ _ _ _ _ _ _ _ _ _ _ _ _ _ _ _ _ _ _ _ _ _ _ _ _ _ (⟨27, 0, 0, [], false, 0, 0, 0, 0, 0, [], [1, nn, 7, 0, 0, 0, 0, 0]⟩ : Fr) _ _ _ HF rfl ((by simp [rightB])) HG9 HB9
  · skip
    obtain ⟨⟨⟨mo1, mo2⟩, mc1, mc2⟩, ⟨⟨mb1, mb2⟩, ma1, ma2⟩, ⟨ms1, ms2⟩, mq1, mq2⟩ := HM.out
    have hlt : (data.take (min dn 32)).length = min dn 32 := by rw [List.length_take, ← HD.out.1]; omega
    have HLT := Lib.hid hlt
    clear hlt
    have x4 := row_cell (HX1.out _ HB.out) 4 _ rfl
    go_wp2_with fail
    clear x4
    refine Calls.mono (cut_any _ da dn dc 32 hdc hdm) ?_
    rintro e wq ⟨rfl, rfl⟩
    have c6 := row_cell HG.out 6 _ rfl; have f6 := row_free HG.out 6
    have c3 := row_cell HG.out 3 _ rfl; have f3 := row_free HG.out 3
    go_wp2_with fail
    clear c6 f6 c3 f3
    have hA := (((At.base HG.out).set 6 (.int .u64 a)).set 3 (.slice da (min dn 32) dc)).conv (cs' := ([.int .i64 28, .int .u64 0, .int .u64 0, .slice da (min dn 32) dc, .bool false, .int .u64 0, .int .u64 a, .int .u64 0, .int .u64 0, .int .u64 0, .slice none 0 0, .int .u8 0, .int .u8 0, .int .u8 0, .int .u8 0, .int .u8 0, .int .u8 0, .int .u8 0, .int .u8 0] : List Value).toArray) (by rfl)
    have HG9 := Lib.hid hA.row; have HB9 := Lib.hid (HB.out.grown hA.rest HB.out.size (by intro k hk; injection hk with hk; omega))
    clear hA
    generalize ((w.setCell ⟨g, 6, none⟩ (.int .u64 a)).setCell ⟨g, 3, none⟩ (.slice da (min dn 32) dc)) = w9 at HG9 HB9 ⊢
    have HF : Hid (∀ y, World.grownBy w9 y (some gz) → IntsK .u8 y da dn data → FrAt y (⟨28, 0, 0, data.take (min dn 32), false, 0, a, 0, 0, 0, [], [0, 0, 0, 0, 0, 0, 0, 0]⟩ : Fr) (.slice da (min dn 32) dc) (.slice none 0 0)) := Lib.hid fun y hgy hIy => ⟨⟨by simp only; omega, by simp only [U64]; omega, by simp only [U64]; omega, by simp only [U64]; omega, by simp only [U64]; omega, by simp only [U64]; omega, by simp only [U64]; omega, by simp only [U64]; omega, rfl, (by intro x hx; simp only [List.mem_cons, List.not_mem_nil, or_false] at hx; rcases hx with rfl | rfl | rfl | rfl | rfl | rfl | rfl | rfl <;> rfl)⟩, ⟨_, _, _, rfl, by omega, hdm, hIy.pre (min dn 32) (by omega)⟩, ⟨none, 0, 0, rfl, Nat.le_refl _, by omega, RK.At.nil _ _⟩⟩
    exact HK.out _ _ _ _ _ _ _ _ _ _ _ _ _ _ _ _ _ _ _ _ _ _ _ _ _ _ _ _ _ _ _ _ _ _ _ _ _ _ _ _ _ _ _ _ _ _ _ _ _ _ _ _ _ _ _ _ _ _ _ _ _ _ _ _ _ _ _ _ _ _ _ _ _ _ _ _ _ _ _ _ _ _ _ _ _ _ _ _ _ _ _ _ _ _ _ _ _ _ _ _ (⟨28, 0, 0, data.take (min dn 32), false, 0, a, 0, 0, 0, [], [0, 0, 0, 0, 0, 0, 0, 0]⟩ : Fr) _ _ _ HF rfl ((by simp only [rightB]; simp [inB, atB, HLT.out]; omega)) HG9 HB9
end Go.Proofs.Ytjdcmhclamjcjaa
