/- hello: Theirs, random, begin, Ask, Answer. -/
import Derived.Test.YtlpajohhnngbmaaHlo9
namespace Go.Proofs.Ytlpajohhnngbmaa
open Go.RowKit
set_option linter.unusedVariables false
set_option linter.unusedSimpArgs false

set_option maxRecDepth 100000 in
set_option maxHeartbeats 4000000 in
theorem Theirs_any (w : World) (p : Nat) (M J : List Nat) (s : Sd) (a0 a1 b0 b1 : Option Addr) (k0 k1 d0 d1 : Nat) (h : SdAt w p M J s a0 a1 b0 b1 k0 k1 d0 d1) :
    Makes Try.prog 14 #[.pointer (some ⟨p, 0, none⟩)] w (.tuple #[s.th.val, .bool s.knows]) := by
  have hr := h.row
  rw [sdRow_eq] at hr
  have HR := Lib.hid hr
  have HDL := Lib.hid (pm_len h.ok.len)
  have HDO := Lib.hid (pm_one s.th)
  have HV : Hid (s.th.val = .agg s.th.row.toArray) := Lib.hid rfl
  obtain ⟨V, hV⟩ : ∃ V, sdHead s (.slice a0 s.o0.length k0) (.slice a1 s.o1.length k1) (.slice b0 s.i0.length d0) (.slice b1 s.i1.length d1) = V := ⟨_, rfl⟩
  have HVL : Hid (V.length = 11) := Lib.hid (by rw [← hV]; rfl)
  have HV9 : Hid (V[9]? = some (.bool s.knows)) := Lib.hid (by rw [← hV]; rfl)
  rw [hV] at HR
  rw [HV.out]
  generalize s.th.row = D at HR HDL HDO ⊢
  generalize s.knows = kn at HV9 ⊢
  clear h hr hV HV
  go_enter Try.func14, Try.ntmps14
  go_upto_region 1 with fail
  change Code.wp _ _ _ _ (w.alloc (.cells ((.int .u64 0 :: .int .u64 0 :: .int .u64 0 :: .int .u64 0 :: .int .u8 0 :: .int .u8 0 :: .int .u8 0 :: .int .u8 0 :: .int .u8 0 :: .int .u8 0 :: .int .u8 0 :: .int .u8 0 :: []) : List Value).toArray 26))
  have hb0 := (Below.refl w.heap.size w).alloc (Nat.le_refl _) (.cells ((.int .u64 0 :: .int .u64 0 :: .int .u64 0 :: .int .u64 0 :: .int .u8 0 :: .int .u8 0 :: .int .u8 0 :: .int .u8 0 :: .int .u8 0 :: .int .u8 0 :: .int .u8 0 :: .int .u8 0 :: []) : List Value).toArray 26)
  have hz := heap_alloc_new w (.cells ((.int .u64 0 :: .int .u64 0 :: .int .u64 0 :: .int .u64 0 :: .int .u8 0 :: .int .u8 0 :: .int .u8 0 :: .int .u8 0 :: .int .u8 0 :: .int .u8 0 :: .int .u8 0 :: .int .u8 0 :: []) : List Value).toArray 26)
  generalize w.alloc (.cells ((.int .u64 0 :: .int .u64 0 :: .int .u64 0 :: .int .u64 0 :: .int .u8 0 :: .int .u8 0 :: .int .u8 0 :: .int .u8 0 :: .int .u8 0 :: .int .u8 0 :: .int .u8 0 :: .int .u8 0 :: []) : List Value).toArray 26) = w1 at hb0 hz ⊢
  obtain ⟨g, hg⟩ : ∃ g, w.heap.size = g := ⟨_, rfl⟩
  rw [hg] at hz ⊢
  have HG := Lib.hid hg
  clear hg
  have hp := lt_of_block HR.out
  have HT1 : Hid (∀ y, Below w.heap.size w y → y.rangeAt p 11 D) := Lib.hid (fun y hy j v hv => cell_row (bl_row hy hp HR.out) (11 + j) _ (by rw [List.getElem?_append_right (by rw [HVL.out]; omega), HVL.out, show 11 + j - 11 = j by omega, List.getElem?_append_left (lt_of_get hv)]; exact hv))
  have f9 : ∀ t : In (fun y => Below w.heap.size w y), t.w.cell? ⟨p, 9, none⟩ = some (.bool kn) := fun t => cell_row (bl_row t.h hp HR.out) 9 _ (by rw [List.getElem?_append_left (by rw [HVL.out]; omega)]; exact HV9.out)
  refine wp_plan (.t 0 (.t 1 (.t 2 (.t 3 (.t 4 (.t 5 (.t 6 (.t 7 (.u 8 (.t 9 .done)))))))))) (fun y => Below w.heap.size w y) (by kernel_rfl) (by kernel_rfl) (by kernel_rfl) (fun c a d v w h => by cases d <;> exact h) hb0.drew ?_
  have hS := hb0.drew
  have hz1 : w1.drew.heap[g]? = _ := hz
  generalize w1.drew = W0 at hS hz1 ⊢
  haveI hne2 : Nonempty (In (fun y => Below w.heap.size w y)) := ⟨⟨w, Below.refl _ _⟩⟩
  repeat (first | (refine plan_t_load (by rfl) (by kernel_rfl) 26 _ rfl p 11 rfl D _ (fun y hy => HT1.out y hy) Try.underlying26 rfl (by rw [HDL.out]; rfl) ?_; simp only [Act.put, List.setIfInBounds_toArray, List.set_cons_succ, List.set_cons_zero]) | (refine plan_t (by rfl) ?_; (first | go_big_quiet_skip | (go_big_quiet_want; go_big_quiet_op; go_big_quiet_on)); refine wpQuiet_nil ?_))
  refine plan_us (by rfl) (by kernel_rfl) ?_
  intro K hK
  refine wp_store_row 26 _ _ rfl g rfl D (.int .u64 0 :: .int .u64 0 :: .int .u64 0 :: .int .u64 0 :: .int .u8 0 :: .int .u8 0 :: .int .u8 0 :: .int .u8 0 :: .int .u8 0 :: .int .u8 0 :: .int .u8 0 :: .int .u8 0 :: []) rfl 26 hz1 (by rw [HDL.out]; rfl) (by rw [HDL.out]; rfl) HDO.out ?_
  intro w2 hr2 hg2
  have hS2 := hS.grown hg2 hS.size (by intro k hk; injection hk with hk; have := HG.out; omega)
  refine hK _ _ ⟨hS2, ?_⟩
  simp only [Act.put, List.setIfInBounds_toArray, List.set_cons_succ, List.set_cons_zero]
  repeat (first | (refine plan_t (by rfl) ?_; (first | go_big_quiet_skip | (go_big_quiet_want; go_big_quiet_op; go_big_quiet_on)); refine wpQuiet_nil ?_))
  clear hne2 f9 HT1
  show Exit.then _ _ _ _ _
  go_wp2_with fail
  (try simp only [Exit.inBlock, Exit.then])
  refine bodyPost_ret (results_cell2 rfl _ _ g rfl D _ _ hr2 Try.underlying26 rfl (by rw [HDL.out]; rfl)) rfl ?_
  exact ⟨rfl, hS2⟩

def rndM (n : Int) : List Int := [1, n / 256 % 256, n % 256, 0, 0, 0, 0, 0]
theorem rndM_wf (n : Int) : ∀ x ∈ rndM n, (Lit.int .u8 x).wf = true := by
  intro x hx
  simp only [rndM, List.mem_cons, List.not_mem_nil, or_false] at hx
  rcases hx with rfl | rfl | rfl | rfl | rfl | rfl | rfl | rfl <;> first | decide | exact wf_u8_of (by omega) (by omega)
set_option maxRecDepth 100000 in
set_option maxHeartbeats 4000000 in
theorem random_any (w : World) (n : Int) (hn : 0 ≤ n ∧ n < 18446744073709551616) : Makes Try.prog 8 #[.int .u64 n] w (.agg ((rndM n).map (Value.int .u8)).toArray) := by
  have HO : Hid (∀ v ∈ (rndM n).map (Value.int .u8), v.oneCell' = true) := Lib.hid ints_one
  go_enter Try.func8, Try.ntmps8
  go_wp2_with (first | (refine wpList_store_row rfl 23 _ _ rfl _ rfl ((rndM n).map (Value.int .u8)) (.int .u8 0 :: .int .u8 0 :: .int .u8 0 :: .int .u8 0 :: .int .u8 0 :: .int .u8 0 :: .int .u8 0 :: .int .u8 0 :: []) rfl 23 (heap_alloc_new _ _) rfl rfl HO.out ?_; intro w2 hr hg) | fail)
  simp only [Act.put]
  refine bodyPost_ret (results_cell1 rfl _ _ w.heap.size rfl ((rndM n).map (Value.int .u8)) _ _ hr Try.underlying23 rfl rfl) rfl ?_
  exact ⟨rfl, ((Below.refl w.heap.size w).alloc (Nat.le_refl _) _).grown hg (by simp) (by intro k hk; injection hk with hk; omega)⟩
theorem encP_le (p : Pm) (h : p.f.length = 8) : (encP p).length ≤ 120 := by
  have h1 := onesM_len p 4; have h2 := putM_le 0; have h3 := putM_le p.f.length
  unfold encP
  simp only [List.length_append]
  omega
def newM (ak : Bool) (psk : Int) : Sd := ⟨ak, psk, [], [], [], [], false, false, 0, false, false, zeroPm, 0⟩
set_option maxRecDepth 100000 in
set_option maxHeartbeats 8000000 in
theorem begin_any (w : World) (ak : Bool) (psk : Int) (xs : List Int) (P : Pm) (hx : xs.length = 8) (wx : ∀ x ∈ xs, (Lit.int .u8 x).wf = true) (hP : P.ok) (hr : rightM P = true) :
    Calls Try.prog 25 #[.bool ak, .int .u64 psk, .agg (xs.map (Value.int .u8)).toArray, P.val] w fun e w' => ∃ p a' c', e = .returned (.tuple #[.pointer (some ⟨p, 0, none⟩), .slice a' (3 + (8 + (encP P).length)) c']) ∧ Below w.heap.size w w' ∧ w.heap.size ≤ p ∧
      w'.heap[p]? = some (.cells (sdRow (newM ak psk) (.slice none 0 0) (.slice none 0 0) (.slice none 0 0) (.slice none 0 0)).toArray 69 (0, 0)) ∧ IntsK .u8 w' a' (3 + (8 + (encP P).length)) (msgM 1 (xs ++ encP P)) ∧ (∀ x, a' = some x → w.heap.size ≤ x.block ∧ x.block ≠ p) := by
  have hle := encP_le P hP.len
  obtain ⟨X, hX⟩ : ∃ X, xs.map (Value.int .u8) = X := ⟨_, rfl⟩
  have HXL : Hid (X.length = 8) := Lib.hid (by rw [← hX, List.length_map]; exact hx)
  have HXE := Lib.hid hX
  have HDL := Lib.hid (pm_len hP.len)
  have HEN : Hid (∀ W, Calls Try.prog 36 #[.agg P.row.toArray] W (EncR W P)) := Lib.hid (fun W => pencode_any W P hP)
  have HV : Hid (P.val = .agg P.row.toArray) := Lib.hid rfl
  rw [hX, HV.out]
  obtain ⟨D, hD⟩ : ∃ D, P.row = D := ⟨_, rfl⟩
  rw [hD] at HDL HEN ⊢
  obtain ⟨L, hL⟩ : ∃ L, (encP P).length = L := ⟨_, rfl⟩
  have HLE := Lib.hid hL
  rw [hL] at hle ⊢
  have HB := Lib.hid (Below.refl w.heap.size w)
  clear hX hD hL HV
  go_enter Try.func25, Try.ntmps25
  go_upto_region 1 with fail
  obtain ⟨gx, hg0⟩ : ∃ g, w.heap.size = g := ⟨_, rfl⟩
  try rw [hg0]
  have hb := (Below.refl w.heap.size w).alloc (Nat.le_refl _) (.cells X.toArray 23)
  have hrw := heap_alloc_new w (.cells X.toArray 23)
  have hsz : (w.alloc (.cells X.toArray 23)).heap.size = gx + 1 := by simp [hg0]
  rw [hg0] at hrw
  replace HB := Lib.hid (bl_next HB.out HB.out.size hb)
  have HGX := Lib.hid hrw
  clear hb hrw
  generalize w.alloc (.cells X.toArray 23) = w1 at HB HGX hsz ⊢
  have hg1 := hsz
  clear hsz
  have HG0 := Lib.hid hg0
  clear hg0
  have hb := (Below.refl w1.heap.size w1).alloc (Nat.le_refl _) (.cells D.toArray 26)
  have hrw := heap_alloc_new w1 (.cells D.toArray 26)
  have hsz : (w1.alloc (.cells D.toArray 26)).heap.size = gx + 1 + 1 := by simp [hg1]
  rw [hg1] at hrw
  replace HB := Lib.hid (bl_next HB.out HB.out.size hb)
  replace HGX := Lib.hid (bl_row hb (lt_of_block HGX.out) HGX.out)
  have HGQ := Lib.hid hrw
  clear hb hrw
  generalize w1.alloc (.cells D.toArray 26) = w2 at HB HGX HGQ hsz ⊢
  have hg2 := hsz
  clear hsz
  clear hg1
  obtain ⟨gq, hgg⟩ : ∃ g, gx + 1 = g := ⟨_, rfl⟩
  rw [hgg] at HGQ hg2 ⊢
  have HLTgq : Hid (gx < gq) := Lib.hid (by omega)
  clear hgg
  clear hg2
  go_wp2_with (first | (refine wpList_load_mid rfl 26 _ rfl gq 0 rfl D _ (rngL HGQ.out) Try.underlying26 rfl (by rw [HDL.out]; rfl) ?_) | fail)
  refine Calls.mono (HEN.out _) ?_
  rintro e w3 ⟨hb, hcase⟩
  replace HB := Lib.hid (bl_next HB.out HB.out.size hb)
  replace HGX := Lib.hid (bl_row hb (lt_of_block HGX.out) HGX.out)
  replace HGQ := Lib.hid (bl_row hb (lt_of_block HGQ.out) HGQ.out)
  clear hb
  rcases hcase with ⟨_, ea, ec, rfl, he1, he2, hei, _⟩ | ⟨hno, _⟩
  rotate_left
  · rw [hr] at hno; cases hno
  rw [HLE.out] at hei ⊢
  have HEI := Lib.hid (hei)
  clear hei he1 he2
  go_wp2_with fail
  change Calls Try.prog _ _ (w3.alloc (.cells (sdRow (newM ak psk) (.slice none 0 0) (.slice none 0 0) (.slice none 0 0) (.slice none 0 0)).toArray 69)) _
  have HSZ := Lib.hid HB.out.size
  have hb := (Below.refl w3.heap.size w3).alloc (Nat.le_refl _) (.cells (sdRow (newM ak psk) (.slice none 0 0) (.slice none 0 0) (.slice none 0 0) (.slice none 0 0)).toArray 69)
  replace HB := Lib.hid (bl_next HB.out HB.out.size hb)
  replace HGX := Lib.hid (bl_row hb (lt_of_block HGX.out) HGX.out)
  replace HGQ := Lib.hid (bl_row hb (lt_of_block HGQ.out) HGQ.out)
  replace HEI := Lib.hid (HEI.out.below hb)
  have HGP := Lib.hid (heap_alloc_new w3 (.cells (sdRow (newM ak psk) (.slice none 0 0) (.slice none 0 0) (.slice none 0 0) (.slice none 0 0)).toArray 69))
  clear hb
  generalize w3.alloc (.cells (sdRow (newM ak psk) (.slice none 0 0) (.slice none 0 0) (.slice none 0 0) (.slice none 0 0)).toArray 69) = w4 at HB HGX HGQ HEI HGP ⊢
  obtain ⟨gp, hg⟩ : ∃ g, w3.heap.size = g := ⟨_, rfl⟩
  rw [hg] at HGP ⊢
  have HGE := Lib.hid hg
  clear hg
  have HSZ4 := Lib.hid HB.out.size
  have HPL := Lib.hid (lt_of_block HGP.out)
  have hix := IntsK.of_row (k := .u8) (zs := xs) (by rw [HXE.out]; exact HGX.out) wx
  rw [hx] at hix
  have HIX := Lib.hid (hix)
  clear hix
  refine Calls.mono (clone_any8 w4 _ 8 8 xs (by omega) HIX.out) ?_
  rintro e w5 ⟨v, rfl, hb, ho⟩
  replace HB := Lib.hid (bl_next HB.out HB.out.size hb)
  replace HGX := Lib.hid (bl_row hb (lt_of_block HGX.out) HGX.out)
  replace HGQ := Lib.hid (bl_row hb (lt_of_block HGQ.out) HGQ.out)
  replace HEI := Lib.hid (HEI.out.below hb)
  replace HGP := Lib.hid (bl_row hb (lt_of_block HGP.out) HGP.out)
  replace HIX := Lib.hid (HIX.out.below hb)
  have HO := Lib.hid ho
  have HBS := Lib.hid HB.out.size
  obtain ⟨WB, hWB⟩ : ∃ B, w4.heap.size = B := ⟨_, rfl⟩
  rw [hWB] at HO
  have hwb : WB ≤ w5.heap.size := by rw [← hWB]; exact hb.size
  have HCS := Lib.hid hWB
  clear hb ho hWB
  skip
  have hwf : ∀ x ∈ xs ++ encP P, (Lit.int .u8 x).wf = true := fun x hx => (List.mem_append.1 hx).elim (wx x) (HEI.out.2.1 x)
  go_wp2_with (first | (at_builtin; refine wpList_append_bytes_at rfl _ _ rfl WB 8 _ xs rfl HO.out ea L ec (encP P) rfl HEI.out (by omega) hwb ?_; intro v2 w6 ho2 hg2 hor; obtain ⟨av, ac, ev, hac, hia, _⟩ := ints_of_own ho2 hwf; subst ev) | fail)
  replace HB := Lib.hid (HB.out.grown hg2 HB.out.size (fun k hk => by have h1 := own_base HO.out k hk; have h2 := HCS.out; have h3 := HSZ4.out; omega))
  replace HGP := Lib.hid (grown_row hg2 (fun e => by have h1 := own_base HO.out gp e.symm; have h2 := HCS.out; have h3 := HPL.out; omega) HGP.out)
  refine Calls.mono (message_any w6 1 av (8 + L) ac _ (by decide) (by omega) hia) ?_
  rintro e w7 ⟨a', c', rfl, hb, him, _, _, hge⟩
  have HS6 := HB.out.size
  have hgl := lt_of_block HGP.out
  go_wp2_with fail
  go_ret2
  exact ⟨gp, a', c', rfl, bl_next HB.out HB.out.size hb, by have := HGE.out; have := HSZ.out; omega, bl_row hb (lt_of_block HGP.out) HGP.out, him, fun x hx => ⟨Nat.le_trans HS6 (hge x hx), fun e => by have := hge x hx; omega⟩⟩
def askM (psk : Int) (xs : List Int) (P : Pm) : Sd := { newM true psk with o0 := msgM 1 (xs ++ encP P) }
set_option maxRecDepth 100000 in
set_option maxHeartbeats 8000000 in
theorem Ask_any (w : World) (psk : Int) (xs : List Int) (P : Pm) (hx : xs.length = 8) (wx : ∀ x ∈ xs, (Lit.int .u8 x).wf = true) (hP : P.ok) (hr : rightM P = true) :
    Calls Try.prog 7 #[.int .u64 psk, .agg (xs.map (Value.int .u8)).toArray, P.val] w fun e w' => ∃ p J a0 a1 k0 k1, e = .returned (.pointer (some ⟨p, 0, none⟩)) ∧ Below w.heap.size w w' ∧ w.heap.size ≤ p ∧ (∀ x ∈ J, w.heap.size ≤ x) ∧ SdAt w' p [p] J (askM psk xs P) a0 a1 none none k0 k1 0 0 := by
  have hle := encP_le P hP.len
  have hml := msgM_len 1 (xs ++ encP P)
  have hmw := fun h => msgM_wf (k := 1) (b := xs ++ encP P) (by decide) h
  have HBG := Lib.hid (fun W => begin_any W true psk xs P hx wx hP hr)
  have HV : Hid (P.val = .agg P.row.toArray) := Lib.hid rfl
  obtain ⟨X, hX⟩ : ∃ X, xs.map (Value.int .u8) = X := ⟨_, rfl⟩
  have HXL : Hid (X.length = 8) := Lib.hid (by rw [← hX, List.length_map]; exact hx)
  have HDL := Lib.hid (pm_len hP.len)
  rw [hX, HV.out]
  rw [hX, HV.out] at HBG
  obtain ⟨D, hD⟩ : ∃ D, P.row = D := ⟨_, rfl⟩
  rw [hD] at HDL HBG ⊢
  obtain ⟨L, hL⟩ : ∃ L, (encP P).length = L := ⟨_, rfl⟩
  rw [hL] at hle HBG
  have HML : Hid ((msgM 1 (xs ++ encP P)).length = 3 + (8 + L)) := Lib.hid (by rw [hml, List.length_append, hx, hL])
  have HB := Lib.hid (Below.refl w.heap.size w)
  clear hX hD hL HV hml
  go_enter Try.func7, Try.ntmps7
  go_upto_region 1 with fail
  obtain ⟨gx, hg0⟩ : ∃ g, w.heap.size = g := ⟨_, rfl⟩
  try rw [hg0]
  have hb := (Below.refl w.heap.size w).alloc (Nat.le_refl _) (.cells X.toArray 23)
  have hrw := heap_alloc_new w (.cells X.toArray 23)
  have hsz : (w.alloc (.cells X.toArray 23)).heap.size = gx + 1 := by simp [hg0]
  rw [hg0] at hrw
  replace HB := Lib.hid (bl_next HB.out HB.out.size hb)
  have HGX := Lib.hid hrw
  clear hb hrw
  generalize w.alloc (.cells X.toArray 23) = w1 at HB HGX hsz ⊢
  have hg1 := hsz
  clear hsz
  have HG0 := Lib.hid hg0
  clear hg0
  have hb := (Below.refl w1.heap.size w1).alloc (Nat.le_refl _) (.cells D.toArray 26)
  have hrw := heap_alloc_new w1 (.cells D.toArray 26)
  have hsz : (w1.alloc (.cells D.toArray 26)).heap.size = gx + 1 + 1 := by simp [hg1]
  rw [hg1] at hrw
  replace HB := Lib.hid (bl_next HB.out HB.out.size hb)
  replace HGX := Lib.hid (bl_row hb (lt_of_block HGX.out) HGX.out)
  have HGQ := Lib.hid hrw
  clear hb hrw
  generalize w1.alloc (.cells D.toArray 26) = w2 at HB HGX HGQ hsz ⊢
  have hg2 := hsz
  clear hsz
  clear hg1
  obtain ⟨gq, hgg⟩ : ∃ g, gx + 1 = g := ⟨_, rfl⟩
  rw [hgg] at HGQ hg2 ⊢
  have HLTgq : Hid (gx < gq) := Lib.hid (by omega)
  clear hgg
  clear hg2
  go_wp2_with (first | (refine wpList_load_mid rfl 23 _ rfl gx 0 rfl X _ (rngL HGX.out) Try.underlying23 rfl (by rw [HXL.out]; rfl) ?_) | (refine wpList_load_mid rfl 26 _ rfl gq 0 rfl D _ (rngL HGQ.out) Try.underlying26 rfl (by rw [HDL.out]; rfl) ?_) | fail)
  refine Calls.mono (HBG.out _) ?_
  rintro e w3 ⟨p, a', c', rfl, hb, hpw, hrp, him, hge⟩
  have hwp : w.heap.size ≤ p := Nat.le_trans HB.out.size hpw
  have hge2 : ∀ x, a' = some x → w.heap.size ≤ x.block := fun x hx => Nat.le_trans HB.out.size (hge x hx).1
  replace HB := Lib.hid (bl_next HB.out HB.out.size hb)
  replace HGX := Lib.hid (bl_row hb (lt_of_block HGX.out) HGX.out)
  replace HGQ := Lib.hid (bl_row hb (lt_of_block HGQ.out) HGQ.out)
  clear hb
  have c2 := cell_row hrp 2 (.slice none 0 0) rfl
  have z2 := row_free hrp 2
  have hrs := row_set hrp 2 (.slice a' (3 + (8 + L)) c')
  have hoP := (Off.refl [p] w3).setCell (k := 2) (.slice a' (3 + (8 + L)) c')
  skip
  go_upto_region 3 with fail
  clear c2 z2
  generalize w3.setCell ⟨p, 2, none⟩ (.slice a' (3 + (8 + L)) c') = wF at hrs hoP ⊢
  go_wp2_with fail
  go_ret
  rw [← HML.out] at hrs him
  have him2 := him.off hoP (fun _ x hx hm => (hge x hx).2 (List.mem_singleton.1 hm))
  have hbx : ∀ x, a' = some x → x.block < wF.heap.size := fun x hx => by rcases him2.2.2 with h | ⟨b, o, h, hl, _⟩; (have := HML.out; omega); (rw [hx] at h; injection h with h; rw [h]; exact hl)
  have hpF := lt_of_block hrs
  refine ⟨p, blkL a', a', none, c', 0, rfl, ?_, hwp, fun x hx => by obtain ⟨z, hz, rfl⟩ := blkL_of hx; exact hge2 z hz, ?_⟩
  · have h9 := HB.out.size
    refine ⟨hoP.os.trans HB.out.os, hoP.tape.trans HB.out.tape, hoP.output.trans HB.out.output, Nat.le_trans HB.out.size hoP.size, fun i hi => (hoP.block i (by omega) (fun hm => by have := List.mem_singleton.1 hm; omega)).trans (HB.out.block i hi)⟩
  · exact ⟨hrs, zeroPm_ok, (show (Lit.int .u64 0).wf = true by decide), him2, IntsK.nil _ _ _, by have := HML.out; show (msgM 1 (xs ++ encP P)).length ≤ 1000; omega, Nat.zero_le _, fun x hx => blkL_mem hx, (fun x hx => by cases hx), World.ownsRow_nil _ _ _ _, World.ownsRow_nil _ _ _ _, (fun x hx => by cases hx), (fun x hx => by cases hx), (fun x hx => by cases hx), (fun x hx => by cases hx), (fun x y hx => by cases hx), List.mem_singleton.2 rfl, fun x hx => hx.elim (fun h => by rw [List.mem_singleton.1 h]; exact hpF) (fun h => by obtain ⟨z, hz, rfl⟩ := blkL_of h; exact hbx z hz), fun x hx hm => by obtain ⟨z, hz, rfl⟩ := blkL_of hx; exact (hge z hz).2 (List.mem_singleton.1 hm)⟩
def answerM (psk : Int) (xs : List Int) (P : Pm) : Sd := { newM false psk with o1 := msgM 1 (xs ++ encP P) }
set_option maxRecDepth 100000 in
set_option maxHeartbeats 8000000 in
theorem Answer_any (w : World) (psk : Int) (xs : List Int) (P : Pm) (hx : xs.length = 8) (wx : ∀ x ∈ xs, (Lit.int .u8 x).wf = true) (hP : P.ok) (hr : rightM P = true) :
    Calls Try.prog 9 #[.int .u64 psk, .agg (xs.map (Value.int .u8)).toArray, P.val] w fun e w' => ∃ p J a0 a1 k0 k1, e = .returned (.pointer (some ⟨p, 0, none⟩)) ∧ Below w.heap.size w w' ∧ w.heap.size ≤ p ∧ (∀ x ∈ J, w.heap.size ≤ x) ∧ SdAt w' p [p] J (answerM psk xs P) a0 a1 none none k0 k1 0 0 := by
  have hle := encP_le P hP.len
  have hml := msgM_len 1 (xs ++ encP P)
  have hmw := fun h => msgM_wf (k := 1) (b := xs ++ encP P) (by decide) h
  have HBG := Lib.hid (fun W => begin_any W false psk xs P hx wx hP hr)
  have HV : Hid (P.val = .agg P.row.toArray) := Lib.hid rfl
  obtain ⟨X, hX⟩ : ∃ X, xs.map (Value.int .u8) = X := ⟨_, rfl⟩
  have HXL : Hid (X.length = 8) := Lib.hid (by rw [← hX, List.length_map]; exact hx)
  have HDL := Lib.hid (pm_len hP.len)
  rw [hX, HV.out]
  rw [hX, HV.out] at HBG
  obtain ⟨D, hD⟩ : ∃ D, P.row = D := ⟨_, rfl⟩
  rw [hD] at HDL HBG ⊢
  obtain ⟨L, hL⟩ : ∃ L, (encP P).length = L := ⟨_, rfl⟩
  rw [hL] at hle HBG
  have HML : Hid ((msgM 1 (xs ++ encP P)).length = 3 + (8 + L)) := Lib.hid (by rw [hml, List.length_append, hx, hL])
  have HB := Lib.hid (Below.refl w.heap.size w)
  clear hX hD hL HV hml
  go_enter Try.func9, Try.ntmps9
  go_upto_region 1 with fail
  obtain ⟨gx, hg0⟩ : ∃ g, w.heap.size = g := ⟨_, rfl⟩
  try rw [hg0]
  have hb := (Below.refl w.heap.size w).alloc (Nat.le_refl _) (.cells X.toArray 23)
  have hrw := heap_alloc_new w (.cells X.toArray 23)
  have hsz : (w.alloc (.cells X.toArray 23)).heap.size = gx + 1 := by simp [hg0]
  rw [hg0] at hrw
  replace HB := Lib.hid (bl_next HB.out HB.out.size hb)
  have HGX := Lib.hid hrw
  clear hb hrw
  generalize w.alloc (.cells X.toArray 23) = w1 at HB HGX hsz ⊢
  have hg1 := hsz
  clear hsz
  have HG0 := Lib.hid hg0
  clear hg0
  have hb := (Below.refl w1.heap.size w1).alloc (Nat.le_refl _) (.cells D.toArray 26)
  have hrw := heap_alloc_new w1 (.cells D.toArray 26)
  have hsz : (w1.alloc (.cells D.toArray 26)).heap.size = gx + 1 + 1 := by simp [hg1]
  rw [hg1] at hrw
  replace HB := Lib.hid (bl_next HB.out HB.out.size hb)
  replace HGX := Lib.hid (bl_row hb (lt_of_block HGX.out) HGX.out)
  have HGQ := Lib.hid hrw
  clear hb hrw
  generalize w1.alloc (.cells D.toArray 26) = w2 at HB HGX HGQ hsz ⊢
  have hg2 := hsz
  clear hsz
  clear hg1
  obtain ⟨gq, hgg⟩ : ∃ g, gx + 1 = g := ⟨_, rfl⟩
  rw [hgg] at HGQ hg2 ⊢
  have HLTgq : Hid (gx < gq) := Lib.hid (by omega)
  clear hgg
  clear hg2
  go_wp2_with (first | (refine wpList_load_mid rfl 23 _ rfl gx 0 rfl X _ (rngL HGX.out) Try.underlying23 rfl (by rw [HXL.out]; rfl) ?_) | (refine wpList_load_mid rfl 26 _ rfl gq 0 rfl D _ (rngL HGQ.out) Try.underlying26 rfl (by rw [HDL.out]; rfl) ?_) | fail)
  refine Calls.mono (HBG.out _) ?_
  rintro e w3 ⟨p, a', c', rfl, hb, hpw, hrp, him, hge⟩
  have hwp : w.heap.size ≤ p := Nat.le_trans HB.out.size hpw
  have hge2 : ∀ x, a' = some x → w.heap.size ≤ x.block := fun x hx => Nat.le_trans HB.out.size (hge x hx).1
  replace HB := Lib.hid (bl_next HB.out HB.out.size hb)
  replace HGX := Lib.hid (bl_row hb (lt_of_block HGX.out) HGX.out)
  replace HGQ := Lib.hid (bl_row hb (lt_of_block HGQ.out) HGQ.out)
  clear hb
  have c2 := cell_row hrp 3 (.slice none 0 0) rfl
  have z2 := row_free hrp 3
  have hrs := row_set hrp 3 (.slice a' (3 + (8 + L)) c')
  have hoP := (Off.refl [p] w3).setCell (k := 3) (.slice a' (3 + (8 + L)) c')
  skip
  go_upto_region 3 with fail
  clear c2 z2
  generalize w3.setCell ⟨p, 3, none⟩ (.slice a' (3 + (8 + L)) c') = wF at hrs hoP ⊢
  go_wp2_with fail
  go_ret
  rw [← HML.out] at hrs him
  have him2 := him.off hoP (fun _ x hx hm => (hge x hx).2 (List.mem_singleton.1 hm))
  have hbx : ∀ x, a' = some x → x.block < wF.heap.size := fun x hx => by rcases him2.2.2 with h | ⟨b, o, h, hl, _⟩; (have := HML.out; omega); (rw [hx] at h; injection h with h; rw [h]; exact hl)
  have hpF := lt_of_block hrs
  refine ⟨p, blkL a', none, a', 0, c', rfl, ?_, hwp, fun x hx => by obtain ⟨z, hz, rfl⟩ := blkL_of hx; exact hge2 z hz, ?_⟩
  · have h9 := HB.out.size
    refine ⟨hoP.os.trans HB.out.os, hoP.tape.trans HB.out.tape, hoP.output.trans HB.out.output, Nat.le_trans HB.out.size hoP.size, fun i hi => (hoP.block i (by omega) (fun hm => by have := List.mem_singleton.1 hm; omega)).trans (HB.out.block i hi)⟩
  · exact ⟨hrs, zeroPm_ok, (show (Lit.int .u64 0).wf = true by decide), IntsK.nil _ _ _, him2, Nat.zero_le _, by have := HML.out; show (msgM 1 (xs ++ encP P)).length ≤ 1000; omega, (fun x hx => by cases hx), fun x hx => blkL_mem hx, World.ownsRow_nil _ _ _ _, World.ownsRow_nil _ _ _ _, (fun x hx => by cases hx), (fun x hx => by cases hx), (fun x hx => by cases hx), (fun x hx => by cases hx), (fun x y hx => by cases hx), List.mem_singleton.2 rfl, fun x hx => hx.elim (fun h => by rw [List.mem_singleton.1 h]; exact hpF) (fun h => by obtain ⟨z, hz, rfl⟩ := blkL_of h; exact hbx z hz), fun x hx hm => by obtain ⟨z, hz, rfl⟩ := blkL_of hx; exact (hge z hz).2 (List.mem_singleton.1 hm)⟩
end Go.Proofs.Ytlpajohhnngbmaa
