/- texts of the proof, laid together: Frc. -/
import Derived.Test.YtmbjepcbokbemaaU13
import Derived.Test.YtmbjepcbokbemaaU5
import Derived.Test.YtmbjepcbokbemaaU2
set_option linter.unusedVariables false
set_option linter.unusedSimpArgs false
set_option maxRecDepth 100000
set_option maxHeartbeats 16000000
namespace Go.Proofs.Ytmbjepcbokbemaa
open Go.RowKit
def RwU (w : World) (v : Value) (y : World) (bs : List Int) : Prop := Below w.heap.size w y ∧ y.ownsRow w.heap.size 5 1 v bs.length (bs.map (Value.int .u8)) ∧ ∀ x ∈ bs, (Lit.int .u8 x).wf = true
theorem own_low {w : World} {B B' e s n : Nat} {v : Value} {xs : List Value} (h : w.ownsRow B' e s v n xs) (hB : B ≤ B') : w.ownsRow B e s v n xs := by
 refine ⟨h.1, ?_⟩
 rcases h.2 with h1 | ⟨g, cap, cur, h1, h2, h3⟩
 ·
  exact .inl h1
 ·
  exact .inr ⟨g, cap, cur, h1, Nat.le_trans hB h2, h3⟩
theorem RwU.to {w y z : World} {v : Value} {bs : List Int} (h : RwU w v y bs) (hb : Below y.heap.size y z) : RwU w v z bs := ⟨bl_next h.1 h.1.size hb, own_below h.2.1 hb, h.2.2⟩
theorem RwU.from {w y z : World} {v : Value} {bs : List Int} (hb : Below w.heap.size w y) (h : RwU y v z bs) : RwU w v z bs := ⟨bl_next hb hb.size h.1, own_low h.2.1 hb.size, h.2.2⟩
theorem RwU.ints {w y : World} {v : Value} {bs : List Int} (h : RwU w v y bs) : ∃ a c, v = .slice a bs.length c ∧ bs.length ≤ c ∧ c ≤ 9223372036854775807 ∧ IntsK .u8 y a bs.length bs := by
 obtain ⟨a, c, rfl, h1, h2⟩ := sl_own h.2.1
 obtain ⟨a', c', e, _, h4, _⟩ := ints_of_own h.2.1 h.2.2
 injection e with e1 e2 e3; subst e1
 exact ⟨a, c, rfl, h1, h2, h4⟩
theorem RwU.row {w y : World} {v : Value} {bs : List Int} (h : RwU w v y bs) {g : Nat} {o : Obj} (hg : w.heap[g]? = some o) : y.heap[g]? = some o := bl_row h.1 (lt_of_block hg) hg
theorem putM_u8 {n : Int} (h : 0 ≤ n ∧ n ≤ 4611686018427387903) : ∀ x ∈ putM n, (Lit.int .u8 x).wf = true := putM_wf n h.1
theorem rvars_any (w : World) (a : Option Addr) (n c : Nat) (bs : List Int) (la : Option Addr) (ln lc : Nat) (zs : List Int) (hI : IntsK .u8 w a n bs) (hZ : IntsK .u64 w la ln zs) (h0 : 0 < ln) (hz : ∀ z ∈ zs, z ≤ 4611686018427387903) (hl : n + 8 * ln ≤ 1000000) :
  Calls Try.prog 41 #[.slice a n c, .slice la ln lc] w fun e w' => ∃ v, e = .returned v ∧ RwU w v w' (bs ++ varsM zs) := by
 have HI := Qh hI; have HZ := Qh hZ; have HM := Qh hz
 have hln := hZ.1
 clear hI hZ hz
 go_enter Try.func41, Try.ntmps41
 go_wp2_with fail
 go_loopw [0, 5] (fun s0 s5 wr => ∃ (j : Nat) (a' : Option Addr) (n' c' : Nat), s0 = .slice a' n' c' ∧ s5 = .int .i64 j ∧ j ≤ ln ∧ n' ≤ n + 8 * j ∧ Hid (Below w.heap.size w wr) ∧ Hid (IntsK .u8 wr a' n' (bs ++ varsM (zs.take j))) ∧ Hid (0 < j → wr.ownsRow w.heap.size 5 1 (.slice a' n' c') n' ((bs ++ varsM (zs.take j)).map (Value.int .u8)))) (fun _ s5 _ => ln - (intOf s5).toNat)
 case atStart => exact ⟨0, a, n, c, rfl, rfl, by omega, by omega, Qh (Below.refl _ _), Qh (by rw [List.take_zero, show varsM [] = [] from rfl, List.append_nil]; exact HI.out), Qh (fun h => absurd h (by omega))⟩
 case round =>
  obtain ⟨j, a', n', c', rfl, rfl, hj, hn', HB, HA, HO⟩ := hrel
  by_cases hlt : j < ln
  ·
   obtain ⟨b, off, x, rfl, hbl, hx, hwx, hc⟩ := (HZ.out.below HB.out).at (Below.refl _ _) (j := j) hlt
   have hjj : zs[j]? = some x := by rw [hx, List.getD_eq_getElem?_getD, List.getElem?_eq_getElem (by omega)]; rfl
   have hts := take_snd4 hjj
   have hux : U64 x := bdU64 hwx
   obtain ⟨hu1, hu2⟩ := hux
   have hxm := HM.out x (List.mem_of_getElem? hjj)
   have HP := Qh (rput_any wr a' n' c' (bs ++ varsM (zs.take j)) x ⟨hu1, hxm⟩ (by omega) HA.out)
   have HPW : Hid (∀ y ∈ bs ++ varsM (zs.take j) ++ putM x, (Lit.int .u8 y).wf = true) := Qh (fun y hy => (List.mem_append.1 hy).elim (HA.out.2.1 y) (putM_u8 ⟨hu1, hxm⟩ y))
   have HTS : Hid (bs ++ varsM (zs.take (j + 1)) = bs ++ varsM (zs.take j) ++ putM x) := Qh (by rw [hts, varsM_app, ← List.append_assoc]; simp [varsM])
   have hsz : sizeM x ≤ 8 := by have := sizeM_cases x; omega
   clear hx hwx hjj hts hxm
   go_wp2_with fail
   refine Calls.mono HP.out ?_
   rintro e w1 ⟨v, rfl, hb, ho⟩
   obtain ⟨a2, c2, rfl, h2, h3⟩ := sl_own ho
   obtain ⟨a3, c3, e3, _, h4, _⟩ := ints_of_own ho HPW.out
   injection e3 with e3 e4 e5; subst e3; subst e5
   have HN := Qh h4; have HO2 := Qh (own_low ho HB.out.size)
   replace HB := Qh (bl_next HB.out HB.out.size hb)
   clear ho hb h4 HP HA HO
   go_wp2_with fail
   go_roundw
   case rel => exact ⟨j + 1, a2, n' + sizeM x, c2, rfl, by go_num, by omega, by omega, HB, Qh (by rw [HTS.out]; exact HN.out), Qh (fun _ => by rw [HTS.out]; exact HO2.out)⟩
   case measure => simp [intOf]; omega
  ·
   obtain rfl : j = ln := by omega
   have hfull : zs.take j = zs := List.take_of_length_le (by omega)
   have hU : RwU w (.slice a' n' c') wr (bs ++ varsM zs) := ⟨HB.out, by have h9 := HO.out h0; rw [hfull] at h9; rw [show (bs ++ varsM zs).length = n' by have := HA.out.1; rw [hfull] at this; exact this]; exact h9, by have h9 := HA.out.2.1; rw [hfull] at h9; exact h9⟩
   have HU := Qh hU
   clear hU hfull HA HO
   go_wp2_with fail
   go_ret
   exact ⟨_, rfl, HU.out⟩
theorem RwU.vars {w y z : World} {v : Value} {bs : List Int} (h : RwU w v y bs) (hb : Below y.heap.size y z) (zs : List Int) (la : Option Addr) (ln lc : Nat) (hZ : IntsK .u64 z la ln zs) (h0 : 0 < ln) (hz : ∀ x ∈ zs, x ≤ 4611686018427387903) (hl : bs.length + 8 * ln ≤ 1000000) :
  Calls Try.prog 41 #[v, .slice la ln lc] z fun e w' => ∃ v', e = .returned v' ∧ Below z.heap.size z w' ∧ RwU w v' w' (bs ++ varsM zs) := by
 obtain ⟨a, c, rfl, _, _, hI⟩ := (h.to hb).ints
 refine Calls.mono (rvars_any z a bs.length c bs la ln lc zs hI hZ h0 hz hl) ?_
 rintro e w' ⟨v', rfl, hu⟩
 exact ⟨v', rfl, hu.1, RwU.from (h.to hb).1 hu⟩
theorem textB_u8 {xs : List Int} (hx : ∀ x ∈ xs, (Lit.int .u8 x).wf = true) (hl : xs.length ≤ 1000000) : ∀ x ∈ textB xs, (Lit.int .u8 x).wf = true := by
 intro x h
 exact (List.mem_append.1 h).elim (putM_u8 ⟨by omega, by omega⟩ x) (hx x)
theorem RwU.text {w y z : World} {v : Value} {bs : List Int} (h : RwU w v y bs) (hb : Below y.heap.size y z) (a : Option Addr) (n c : Nat) (xs : List Int) (hX : IntsK .u8 z a n xs) (hl : bs.length + n ≤ 1000000) :
  Calls Try.prog 42 #[v, .slice a n c] z fun e w' => ∃ v', e = .returned v' ∧ Below z.heap.size z w' ∧ RwU w v' w' (bs ++ textB xs) := by
 obtain ⟨a', c', rfl, _, _, hI⟩ := (h.to hb).ints
 refine Calls.mono (rwtext_any z a' bs.length c' bs a n c xs (by omega) hI hX) ?_
 rintro e w' ⟨v', rfl, h1, h2⟩
 have hx := hX.1
 refine ⟨v', rfl, h1, RwU.from (h.to hb).1 ⟨h1, by unfold textB; rw [hx]; exact h2, fun x h9 => (List.mem_append.1 h9).elim (h.2.2 x) (textB_u8 hX.2.1 (by omega) x)⟩⟩
theorem RwU.app {w y z : World} {v v' : Value} {bs xs : List Int} (h : RwU w v y bs) (hg : y.grownBy z v.ownBlock) (ho : z.ownsRow w.heap.size 5 1 v' (bs.length + xs.length) ((bs ++ xs).map (Value.int .u8))) (hx : ∀ x ∈ xs, (Lit.int .u8 x).wf = true) : RwU w v' z (bs ++ xs) :=
 ⟨h.1.grown hg h.1.size (own_base h.2.1), by rw [List.length_append]; exact ho, fun x h9 => (List.mem_append.1 h9).elim (h.2.2 x) (hx x)⟩
def OneR (w : World) (f : Fr) (e : Ending) (w' : World) : Prop := ∃ v, e = .returned v ∧ RwU w v w' (oneFM f)
theorem right_in {f : Fr} (hr : rightB f = true) : (f.kind = 4 → f.st ≤ 4611686018427387903 ∧ f.co ≤ 4611686018427387903 ∧ f.fi ≤ 4611686018427387903) ∧ (f.kind = 5 → f.st ≤ 4611686018427387903 ∧ f.co ≤ 4611686018427387903) ∧ (f.kind = 6 → f.of_ ≤ 4611686018427387903) ∧ (f.kind = 8 → f.st ≤ 4611686018427387903 ∧ f.of_ ≤ 4611686018427387903) ∧ (f.kind = 16 ∨ f.kind = 18 ∨ f.kind = 20 → f.li ≤ 4611686018427387903) ∧ (f.kind = 17 → f.st ≤ 4611686018427387903 ∧ f.li ≤ 4611686018427387903) ∧ (f.kind = 24 → f.se ≤ 4611686018427387903 ∧ f.li ≤ 4611686018427387903) ∧ (f.kind = 25 → f.se ≤ 4611686018427387903) ∧ (f.kind = 28 → f.co ≤ 4611686018427387903) := by
 unfold rightB at hr
 refine ⟨fun hk => ?_, fun hk => ?_, fun hk => ?_, fun hk => ?_, fun hk => ?_, fun hk => ?_, fun hk => ?_, fun hk => ?_, fun hk => ?_⟩
 case refine_5 => rcases hk with hk | hk | hk <;> simp [hk, inB] at hr <;> omega
 all_goals (simp [hk, inB, atB] at hr; omega)
theorem one4_0 (w : World) (f : Fr) (dv rv : Value) (h : FrAt w f dv rv) (hk : f.kind = 0) (hr : rightB f = true) :
  Calls Try.prog 19 #[.agg (f.cells dv rv).toArray] w fun e w' => OneR w f e w' := by
 have hwf := h.wf
 have hri := right_in hr
 have HRF : Hid ((f.cells dv rv).length = 19) := Qh (Fr.len hwf)
 have H0 : Hid ((f.cells dv rv)[0]? = some (.int .i64 0)) := Qh (by rw [← hk]; rfl)
 clear hri
 have hone : oneFM f = varsM [0] := by unfold oneFM bodyM kindM; simp [hk, varsM]
 unfold OneR
 simp only [hone]
 clear hone
 obtain ⟨RF, hRF⟩ : ∃ R, (f.cells dv rv) = R := ⟨_, rfl⟩
 simp only [hRF] at HRF H0
 rw [hRF]
 clear hwf h hRF hr hk
 go_enter Try.func19, Try.ntmps19
 go_upto_region 1 with fail
 change Code.wp _ _ _ _ (w.alloc (.cells RF.toArray 39))
 have HB := Qh (Below.refl w.heap.size w)
 have hb := (Below.refl w.heap.size w).alloc (Nat.le_refl _) (.cells RF.toArray 39)
 replace HB := Qh (bl_next HB.out HB.out.size hb)
 have HF := Qh (heap_alloc_new w (.cells RF.toArray 39))
 clear hb
 generalize w.alloc (.cells RF.toArray 39) = w1 at HB HF ⊢
 obtain ⟨gf, hg⟩ : ∃ g, w.heap.size = g := ⟨_, rfl⟩
 rw [hg] at HF ⊢
 clear hg
 have HF0 := HF
 have HBW := HB
 have HBB := Qh (Below.refl w1.heap.size w1)
 have c0 := cell_row HF.out 0 _ H0.out
 have hcl := rvars_any (w1.alloc (.cells ([.int .u64 0] : List Value).toArray 34)) none 0 0 [] (some ⟨w1.heap.size, 0, none⟩) 1 1 [0] (IntsK.nil _ _ _) (IntsK.of_row (zs := [0]) (heap_alloc_new _ _) (fun x hx => by simp only [List.mem_cons, List.not_mem_nil, or_false] at hx; subst hx; exact wf_u64r (by omega) (by omega))) (by omega) (fun x hx => by simp only [List.mem_cons, List.not_mem_nil, or_false] at hx; subst hx; omega) (by omega)
 simp only [List.nil_append] at hcl
 have HCL := Qh hcl
 clear hcl
 go_wp2_with fail
 refine Calls.mono HCL.out ?_
 rintro e9 w2 ⟨vw2, rfl, hu⟩
 clear HCL
 have HU := Qh (RwU.from (bl_next HBB.out HBB.out.size ((Below.refl w1.heap.size w1).alloc (Nat.le_refl _) (.cells ([.int .u64 0] : List Value).toArray 34))) hu)
 clear HBB
 clear hu
 clear c0
 clear HF
 have HF := Qh (HU.out.row HF0.out)
 have c0 := cell_row HF.out 0 _ H0.out
 go_wp2_with fail
 (try simp only [Exit.inBlock, Exit.then])
 go_ret
 exact ⟨_, rfl, by have h9 := RwU.from HBW.out HU.out; first | exact h9 | simpa only [List.append_assoc] using h9⟩
theorem one4_1 (w : World) (f : Fr) (dv rv : Value) (h : FrAt w f dv rv) (hk : f.kind = 1) (hr : rightB f = true) :
  Calls Try.prog 19 #[.agg (f.cells dv rv).toArray] w fun e w' => OneR w f e w' := by
 have hwf := h.wf
 have hri := right_in hr
 have HRF : Hid ((f.cells dv rv).length = 19) := Qh (Fr.len hwf)
 have H0 : Hid ((f.cells dv rv)[0]? = some (.int .i64 1)) := Qh (by rw [← hk]; rfl)
 clear hri
 have hone : oneFM f = varsM [1] := by unfold oneFM bodyM kindM; simp [hk, varsM]
 unfold OneR
 simp only [hone]
 clear hone
 obtain ⟨RF, hRF⟩ : ∃ R, (f.cells dv rv) = R := ⟨_, rfl⟩
 simp only [hRF] at HRF H0
 rw [hRF]
 clear hwf h hRF hr hk
 go_enter Try.func19, Try.ntmps19
 go_upto_region 1 with fail
 change Code.wp _ _ _ _ (w.alloc (.cells RF.toArray 39))
 have HB := Qh (Below.refl w.heap.size w)
 have hb := (Below.refl w.heap.size w).alloc (Nat.le_refl _) (.cells RF.toArray 39)
 replace HB := Qh (bl_next HB.out HB.out.size hb)
 have HF := Qh (heap_alloc_new w (.cells RF.toArray 39))
 clear hb
 generalize w.alloc (.cells RF.toArray 39) = w1 at HB HF ⊢
 obtain ⟨gf, hg⟩ : ∃ g, w.heap.size = g := ⟨_, rfl⟩
 rw [hg] at HF ⊢
 clear hg
 have HF0 := HF
 have HBW := HB
 have HBB := Qh (Below.refl w1.heap.size w1)
 have c0 := cell_row HF.out 0 _ H0.out
 have hcl := rvars_any (w1.alloc (.cells ([.int .u64 1] : List Value).toArray 34)) none 0 0 [] (some ⟨w1.heap.size, 0, none⟩) 1 1 [1] (IntsK.nil _ _ _) (IntsK.of_row (zs := [1]) (heap_alloc_new _ _) (fun x hx => by simp only [List.mem_cons, List.not_mem_nil, or_false] at hx; subst hx; exact wf_u64r (by omega) (by omega))) (by omega) (fun x hx => by simp only [List.mem_cons, List.not_mem_nil, or_false] at hx; subst hx; omega) (by omega)
 simp only [List.nil_append] at hcl
 have HCL := Qh hcl
 clear hcl
 go_wp2_with fail
 refine Calls.mono HCL.out ?_
 rintro e9 w2 ⟨vw2, rfl, hu⟩
 clear HCL
 have HU := Qh (RwU.from (bl_next HBB.out HBB.out.size ((Below.refl w1.heap.size w1).alloc (Nat.le_refl _) (.cells ([.int .u64 1] : List Value).toArray 34))) hu)
 clear HBB
 clear hu
 clear c0
 clear HF
 have HF := Qh (HU.out.row HF0.out)
 have c0 := cell_row HF.out 0 _ H0.out
 go_wp2_with fail
 (try simp only [Exit.inBlock, Exit.then])
 go_ret
 exact ⟨_, rfl, by have h9 := RwU.from HBW.out HU.out; first | exact h9 | simpa only [List.append_assoc] using h9⟩
theorem one4_30 (w : World) (f : Fr) (dv rv : Value) (h : FrAt w f dv rv) (hk : f.kind = 30) (hr : rightB f = true) :
  Calls Try.prog 19 #[.agg (f.cells dv rv).toArray] w fun e w' => OneR w f e w' := by
 have hwf := h.wf
 have hri := right_in hr
 have HRF : Hid ((f.cells dv rv).length = 19) := Qh (Fr.len hwf)
 have H0 : Hid ((f.cells dv rv)[0]? = some (.int .i64 30)) := Qh (by rw [← hk]; rfl)
 clear hri
 have hone : oneFM f = varsM [30] := by unfold oneFM bodyM kindM; simp [hk, varsM]
 unfold OneR
 simp only [hone]
 clear hone
 obtain ⟨RF, hRF⟩ : ∃ R, (f.cells dv rv) = R := ⟨_, rfl⟩
 simp only [hRF] at HRF H0
 rw [hRF]
 clear hwf h hRF hr hk
 go_enter Try.func19, Try.ntmps19
 go_upto_region 1 with fail
 change Code.wp _ _ _ _ (w.alloc (.cells RF.toArray 39))
 have HB := Qh (Below.refl w.heap.size w)
 have hb := (Below.refl w.heap.size w).alloc (Nat.le_refl _) (.cells RF.toArray 39)
 replace HB := Qh (bl_next HB.out HB.out.size hb)
 have HF := Qh (heap_alloc_new w (.cells RF.toArray 39))
 clear hb
 generalize w.alloc (.cells RF.toArray 39) = w1 at HB HF ⊢
 obtain ⟨gf, hg⟩ : ∃ g, w.heap.size = g := ⟨_, rfl⟩
 rw [hg] at HF ⊢
 clear hg
 have HF0 := HF
 have HBW := HB
 have HBB := Qh (Below.refl w1.heap.size w1)
 have c0 := cell_row HF.out 0 _ H0.out
 have hcl := rvars_any (w1.alloc (.cells ([.int .u64 30] : List Value).toArray 34)) none 0 0 [] (some ⟨w1.heap.size, 0, none⟩) 1 1 [30] (IntsK.nil _ _ _) (IntsK.of_row (zs := [30]) (heap_alloc_new _ _) (fun x hx => by simp only [List.mem_cons, List.not_mem_nil, or_false] at hx; subst hx; exact wf_u64r (by omega) (by omega))) (by omega) (fun x hx => by simp only [List.mem_cons, List.not_mem_nil, or_false] at hx; subst hx; omega) (by omega)
 simp only [List.nil_append] at hcl
 have HCL := Qh hcl
 clear hcl
 go_wp2_with fail
 refine Calls.mono HCL.out ?_
 rintro e9 w2 ⟨vw2, rfl, hu⟩
 clear HCL
 have HU := Qh (RwU.from (bl_next HBB.out HBB.out.size ((Below.refl w1.heap.size w1).alloc (Nat.le_refl _) (.cells ([.int .u64 30] : List Value).toArray 34))) hu)
 clear HBB
 clear hu
 clear c0
 clear HF
 have HF := Qh (HU.out.row HF0.out)
 have c0 := cell_row HF.out 0 _ H0.out
 go_wp2_with fail
 (try simp only [Exit.inBlock, Exit.then])
 go_ret
 exact ⟨_, rfl, by have h9 := RwU.from HBW.out HU.out; first | exact h9 | simpa only [List.append_assoc] using h9⟩
theorem one4_4 (w : World) (f : Fr) (dv rv : Value) (h : FrAt w f dv rv) (hk : f.kind = 4) (hr : rightB f = true) :
  Calls Try.prog 19 #[.agg (f.cells dv rv).toArray] w fun e w' => OneR w f e w' := by
 have hwf := h.wf
 have hri := right_in hr
 have HRF : Hid ((f.cells dv rv).length = 19) := Qh (Fr.len hwf)
 have H0 : Hid ((f.cells dv rv)[0]? = some (.int .i64 4)) := Qh (by rw [← hk]; rfl)
 have H_st : Hid ((f.cells dv rv)[1]? = some (.int .u64 f.st)) := Qh rfl
 have u_st := hwf.st
 simp only [U64] at u_st
 have m_st : f.st ≤ 4611686018427387903 := by obtain ⟨r1, r2, r3, r4, r5, r6, r7, r8, r9⟩ := hri; have := r1 hk; omega
 have H_co : Hid ((f.cells dv rv)[6]? = some (.int .u64 f.co)) := Qh rfl
 have u_co := hwf.co
 simp only [U64] at u_co
 have m_co : f.co ≤ 4611686018427387903 := by obtain ⟨r1, r2, r3, r4, r5, r6, r7, r8, r9⟩ := hri; have := r1 hk; omega
 have H_fi : Hid ((f.cells dv rv)[7]? = some (.int .u64 f.fi)) := Qh rfl
 have u_fi := hwf.fi
 simp only [U64] at u_fi
 have m_fi : f.fi ≤ 4611686018427387903 := by obtain ⟨r1, r2, r3, r4, r5, r6, r7, r8, r9⟩ := hri; have := r1 hk; omega
 clear hri
 have hone : oneFM f = varsM [4] ++ (varsM [f.st, f.co, f.fi]) := by unfold oneFM bodyM kindM; simp [hk, varsM]
 unfold OneR
 simp only [hone]
 clear hone
 obtain ⟨RF, hRF⟩ : ∃ R, (f.cells dv rv) = R := ⟨_, rfl⟩
 simp only [hRF] at HRF H0 H_st H_co H_fi
 rw [hRF]
 obtain ⟨st, h_st⟩ : ∃ y, f.st = y := ⟨_, rfl⟩
 rw [h_st] at H_st u_st m_st
 try rw [h_st]
 obtain ⟨u1_st, u2_st⟩ := u_st
 clear h_st
 obtain ⟨co, h_co⟩ : ∃ y, f.co = y := ⟨_, rfl⟩
 rw [h_co] at H_co u_co m_co
 try rw [h_co]
 obtain ⟨u1_co, u2_co⟩ := u_co
 clear h_co
 obtain ⟨fi, h_fi⟩ : ∃ y, f.fi = y := ⟨_, rfl⟩
 rw [h_fi] at H_fi u_fi m_fi
 try rw [h_fi]
 obtain ⟨u1_fi, u2_fi⟩ := u_fi
 clear h_fi
 clear hwf h hRF hr hk
 go_enter Try.func19, Try.ntmps19
 go_upto_region 1 with fail
 change Code.wp _ _ _ _ (w.alloc (.cells RF.toArray 39))
 have HB := Qh (Below.refl w.heap.size w)
 have hb := (Below.refl w.heap.size w).alloc (Nat.le_refl _) (.cells RF.toArray 39)
 replace HB := Qh (bl_next HB.out HB.out.size hb)
 have HF := Qh (heap_alloc_new w (.cells RF.toArray 39))
 clear hb
 generalize w.alloc (.cells RF.toArray 39) = w1 at HB HF ⊢
 obtain ⟨gf, hg⟩ : ∃ g, w.heap.size = g := ⟨_, rfl⟩
 rw [hg] at HF ⊢
 clear hg
 have HF0 := HF
 have HBW := HB
 have HBB := Qh (Below.refl w1.heap.size w1)
 have c0 := cell_row HF.out 0 _ H0.out
 have c_st := cell_row HF.out 1 _ H_st.out
 have c_co := cell_row HF.out 6 _ H_co.out
 have c_fi := cell_row HF.out 7 _ H_fi.out
 have hcl := rvars_any (w1.alloc (.cells ([.int .u64 4] : List Value).toArray 34)) none 0 0 [] (some ⟨w1.heap.size, 0, none⟩) 1 1 [4] (IntsK.nil _ _ _) (IntsK.of_row (zs := [4]) (heap_alloc_new _ _) (fun x hx => by simp only [List.mem_cons, List.not_mem_nil, or_false] at hx; subst hx; exact wf_u64r (by omega) (by omega))) (by omega) (fun x hx => by simp only [List.mem_cons, List.not_mem_nil, or_false] at hx; subst hx; omega) (by omega)
 simp only [List.nil_append] at hcl
 have HCL := Qh hcl
 clear hcl
 go_wp2_with fail
 refine Calls.mono HCL.out ?_
 rintro e9 w2 ⟨vw2, rfl, hu⟩
 clear HCL
 have HU := Qh (RwU.from (bl_next HBB.out HBB.out.size ((Below.refl w1.heap.size w1).alloc (Nat.le_refl _) (.cells ([.int .u64 4] : List Value).toArray 34))) hu)
 clear HBB
 clear hu
 clear c0 c_st c_co c_fi
 clear HF
 have HF := Qh (HU.out.row HF0.out)
 have c0 := cell_row HF.out 0 _ H0.out
 have c_st := cell_row HF.out 1 _ H_st.out
 have c_co := cell_row HF.out 6 _ H_co.out
 have c_fi := cell_row HF.out 7 _ H_fi.out
 have hcl := HU.out.vars ((Below.refl w2.heap.size w2).alloc (Nat.le_refl _) (.cells ([.int .u64 st, .int .u64 co, .int .u64 fi] : List Value).toArray 34)) [st, co, fi] (some ⟨w2.heap.size, 0, none⟩) 3 3 (IntsK.of_row (zs := [st, co, fi]) (heap_alloc_new _ _) (fun x hx => by simp only [List.mem_cons, List.not_mem_nil, or_false] at hx; rcases hx with rfl | rfl | rfl <;> exact wf_u64r (by omega) (by omega))) (by omega) (fun x hx => by simp only [List.mem_cons, List.not_mem_nil, or_false] at hx; rcases hx with rfl | rfl | rfl <;> omega) (by (try simp only [List.length_append, List.length_cons, List.length_nil]); have := varsM_le [4]; simp only [List.length_cons, List.length_nil] at this; omega)
 have HCL := Qh hcl
 clear hcl
 go_wp2_with fail
 refine Calls.mono HCL.out ?_
 rintro e9 w3 ⟨vw3, rfl, _, hu⟩
 clear HCL
 replace HU := Qh hu
 clear hu
 clear c0 c_st c_co c_fi
 clear HF
 have HF := Qh (HU.out.row HF0.out)
 have c0 := cell_row HF.out 0 _ H0.out
 have c_st := cell_row HF.out 1 _ H_st.out
 have c_co := cell_row HF.out 6 _ H_co.out
 have c_fi := cell_row HF.out 7 _ H_fi.out
 go_wp2_with fail
 (try simp only [Exit.inBlock, Exit.then])
 go_ret
 exact ⟨_, rfl, by have h9 := RwU.from HBW.out HU.out; first | exact h9 | simpa only [List.append_assoc] using h9⟩
theorem one4_5 (w : World) (f : Fr) (dv rv : Value) (h : FrAt w f dv rv) (hk : f.kind = 5) (hr : rightB f = true) :
  Calls Try.prog 19 #[.agg (f.cells dv rv).toArray] w fun e w' => OneR w f e w' := by
 have hwf := h.wf
 have hri := right_in hr
 have HRF : Hid ((f.cells dv rv).length = 19) := Qh (Fr.len hwf)
 have H0 : Hid ((f.cells dv rv)[0]? = some (.int .i64 5)) := Qh (by rw [← hk]; rfl)
 have H_st : Hid ((f.cells dv rv)[1]? = some (.int .u64 f.st)) := Qh rfl
 have u_st := hwf.st
 simp only [U64] at u_st
 have m_st : f.st ≤ 4611686018427387903 := by obtain ⟨r1, r2, r3, r4, r5, r6, r7, r8, r9⟩ := hri; have := r2 hk; omega
 have H_co : Hid ((f.cells dv rv)[6]? = some (.int .u64 f.co)) := Qh rfl
 have u_co := hwf.co
 simp only [U64] at u_co
 have m_co : f.co ≤ 4611686018427387903 := by obtain ⟨r1, r2, r3, r4, r5, r6, r7, r8, r9⟩ := hri; have := r2 hk; omega
 clear hri
 have hone : oneFM f = varsM [5] ++ (varsM [f.st, f.co]) := by unfold oneFM bodyM kindM; simp [hk, varsM]
 unfold OneR
 simp only [hone]
 clear hone
 obtain ⟨RF, hRF⟩ : ∃ R, (f.cells dv rv) = R := ⟨_, rfl⟩
 simp only [hRF] at HRF H0 H_st H_co
 rw [hRF]
 obtain ⟨st, h_st⟩ : ∃ y, f.st = y := ⟨_, rfl⟩
 rw [h_st] at H_st u_st m_st
 try rw [h_st]
 obtain ⟨u1_st, u2_st⟩ := u_st
 clear h_st
 obtain ⟨co, h_co⟩ : ∃ y, f.co = y := ⟨_, rfl⟩
 rw [h_co] at H_co u_co m_co
 try rw [h_co]
 obtain ⟨u1_co, u2_co⟩ := u_co
 clear h_co
 clear hwf h hRF hr hk
 go_enter Try.func19, Try.ntmps19
 go_upto_region 1 with fail
 change Code.wp _ _ _ _ (w.alloc (.cells RF.toArray 39))
 have HB := Qh (Below.refl w.heap.size w)
 have hb := (Below.refl w.heap.size w).alloc (Nat.le_refl _) (.cells RF.toArray 39)
 replace HB := Qh (bl_next HB.out HB.out.size hb)
 have HF := Qh (heap_alloc_new w (.cells RF.toArray 39))
 clear hb
 generalize w.alloc (.cells RF.toArray 39) = w1 at HB HF ⊢
 obtain ⟨gf, hg⟩ : ∃ g, w.heap.size = g := ⟨_, rfl⟩
 rw [hg] at HF ⊢
 clear hg
 have HF0 := HF
 have HBW := HB
 have HBB := Qh (Below.refl w1.heap.size w1)
 have c0 := cell_row HF.out 0 _ H0.out
 have c_st := cell_row HF.out 1 _ H_st.out
 have c_co := cell_row HF.out 6 _ H_co.out
 have hcl := rvars_any (w1.alloc (.cells ([.int .u64 5] : List Value).toArray 34)) none 0 0 [] (some ⟨w1.heap.size, 0, none⟩) 1 1 [5] (IntsK.nil _ _ _) (IntsK.of_row (zs := [5]) (heap_alloc_new _ _) (fun x hx => by simp only [List.mem_cons, List.not_mem_nil, or_false] at hx; subst hx; exact wf_u64r (by omega) (by omega))) (by omega) (fun x hx => by simp only [List.mem_cons, List.not_mem_nil, or_false] at hx; subst hx; omega) (by omega)
 simp only [List.nil_append] at hcl
 have HCL := Qh hcl
 clear hcl
 go_wp2_with fail
 refine Calls.mono HCL.out ?_
 rintro e9 w2 ⟨vw2, rfl, hu⟩
 clear HCL
 have HU := Qh (RwU.from (bl_next HBB.out HBB.out.size ((Below.refl w1.heap.size w1).alloc (Nat.le_refl _) (.cells ([.int .u64 5] : List Value).toArray 34))) hu)
 clear HBB
 clear hu
 clear c0 c_st c_co
 clear HF
 have HF := Qh (HU.out.row HF0.out)
 have c0 := cell_row HF.out 0 _ H0.out
 have c_st := cell_row HF.out 1 _ H_st.out
 have c_co := cell_row HF.out 6 _ H_co.out
 have hcl := HU.out.vars ((Below.refl w2.heap.size w2).alloc (Nat.le_refl _) (.cells ([.int .u64 st, .int .u64 co] : List Value).toArray 34)) [st, co] (some ⟨w2.heap.size, 0, none⟩) 2 2 (IntsK.of_row (zs := [st, co]) (heap_alloc_new _ _) (fun x hx => by simp only [List.mem_cons, List.not_mem_nil, or_false] at hx; rcases hx with rfl | rfl <;> exact wf_u64r (by omega) (by omega))) (by omega) (fun x hx => by simp only [List.mem_cons, List.not_mem_nil, or_false] at hx; rcases hx with rfl | rfl <;> omega) (by (try simp only [List.length_append, List.length_cons, List.length_nil]); have := varsM_le [5]; simp only [List.length_cons, List.length_nil] at this; omega)
 have HCL := Qh hcl
 clear hcl
 go_wp2_with fail
 refine Calls.mono HCL.out ?_
 rintro e9 w3 ⟨vw3, rfl, _, hu⟩
 clear HCL
 replace HU := Qh hu
 clear hu
 clear c0 c_st c_co
 clear HF
 have HF := Qh (HU.out.row HF0.out)
 have c0 := cell_row HF.out 0 _ H0.out
 have c_st := cell_row HF.out 1 _ H_st.out
 have c_co := cell_row HF.out 6 _ H_co.out
 go_wp2_with fail
 (try simp only [Exit.inBlock, Exit.then])
 go_ret
 exact ⟨_, rfl, by have h9 := RwU.from HBW.out HU.out; first | exact h9 | simpa only [List.append_assoc] using h9⟩
theorem one4_6 (w : World) (f : Fr) (dv rv : Value) (h : FrAt w f dv rv) (hk : f.kind = 6) (hr : rightB f = true) :
  Calls Try.prog 19 #[.agg (f.cells dv rv).toArray] w fun e w' => OneR w f e w' := by
 have hwf := h.wf
 have hri := right_in hr
 obtain ⟨da, dn, dc, rfl, hd1, hd2, hd⟩ := h.d
 have hdn : f.data.length = dn := hd.1
 have hdl : dn ≤ 512 := by rw [← hdn]; exact right_data hr (by omega)
 have HD := Qh hd
 have HRF : Hid ((f.cells (.slice da dn dc) rv).length = 19) := Qh (Fr.len hwf)
 have H0 : Hid ((f.cells (.slice da dn dc) rv)[0]? = some (.int .i64 6)) := Qh (by rw [← hk]; rfl)
 have H_of_ : Hid ((f.cells (.slice da dn dc) rv)[2]? = some (.int .u64 f.of_)) := Qh rfl
 have u_of_ := hwf.of_
 simp only [U64] at u_of_
 have m_of_ : f.of_ ≤ 4611686018427387903 := by obtain ⟨r1, r2, r3, r4, r5, r6, r7, r8, r9⟩ := hri; have := r3 hk; omega
 clear hri
 have hone : oneFM f = varsM [6] ++ (varsM [f.of_] ++ textB f.data) := by unfold oneFM bodyM kindM; simp [hk, varsM]
 unfold OneR
 simp only [hone]
 clear hone
 have H_d : Hid ((f.cells (.slice da dn dc) rv)[3]? = some (.slice da dn dc)) := Qh rfl
 obtain ⟨data, hdata⟩ : ∃ y, f.data = y := ⟨_, rfl⟩
 rw [hdata] at HD hdn ⊢
 clear hdata hd
 obtain ⟨RF, hRF⟩ : ∃ R, (f.cells (.slice da dn dc) rv) = R := ⟨_, rfl⟩
 simp only [hRF] at HRF H0 H_of_ H_d
 rw [hRF]
 obtain ⟨of_, h_of_⟩ : ∃ y, f.of_ = y := ⟨_, rfl⟩
 rw [h_of_] at H_of_ u_of_ m_of_
 try rw [h_of_]
 obtain ⟨u1_of_, u2_of_⟩ := u_of_
 clear h_of_
 clear hwf h hRF hr hk
 go_enter Try.func19, Try.ntmps19
 go_upto_region 1 with fail
 change Code.wp _ _ _ _ (w.alloc (.cells RF.toArray 39))
 have HB := Qh (Below.refl w.heap.size w)
 have hb := (Below.refl w.heap.size w).alloc (Nat.le_refl _) (.cells RF.toArray 39)
 replace HB := Qh (bl_next HB.out HB.out.size hb)
 replace HD := Qh (HD.out.below hb)
 have HF := Qh (heap_alloc_new w (.cells RF.toArray 39))
 clear hb
 generalize w.alloc (.cells RF.toArray 39) = w1 at HB HD HF ⊢
 obtain ⟨gf, hg⟩ : ∃ g, w.heap.size = g := ⟨_, rfl⟩
 rw [hg] at HF ⊢
 clear hg
 have HF0 := HF
 have HBW := HB
 have HBB := Qh (Below.refl w1.heap.size w1)
 have HD0 := HD
 have c0 := cell_row HF.out 0 _ H0.out
 have c_of_ := cell_row HF.out 2 _ H_of_.out
 have c_d := cell_row HF.out 3 _ H_d.out
 have hcl := rvars_any (w1.alloc (.cells ([.int .u64 6] : List Value).toArray 34)) none 0 0 [] (some ⟨w1.heap.size, 0, none⟩) 1 1 [6] (IntsK.nil _ _ _) (IntsK.of_row (zs := [6]) (heap_alloc_new _ _) (fun x hx => by simp only [List.mem_cons, List.not_mem_nil, or_false] at hx; subst hx; exact wf_u64r (by omega) (by omega))) (by omega) (fun x hx => by simp only [List.mem_cons, List.not_mem_nil, or_false] at hx; subst hx; omega) (by omega)
 simp only [List.nil_append] at hcl
 have HCL := Qh hcl
 clear hcl
 go_wp2_with fail
 refine Calls.mono HCL.out ?_
 rintro e9 w2 ⟨vw2, rfl, hu⟩
 clear HCL
 have HU := Qh (RwU.from (bl_next HBB.out HBB.out.size ((Below.refl w1.heap.size w1).alloc (Nat.le_refl _) (.cells ([.int .u64 6] : List Value).toArray 34))) hu)
 clear HBB
 clear hu
 clear c0 c_of_ c_d
 clear HF
 have HF := Qh (HU.out.row HF0.out)
 have c0 := cell_row HF.out 0 _ H0.out
 have c_of_ := cell_row HF.out 2 _ H_of_.out
 have c_d := cell_row HF.out 3 _ H_d.out
 go_upto_region 17 with fail
 clear c0 c_of_ c_d
 have g0 : ∀ z : In (fun y => y.heap[gf]? = some (.cells RF.toArray 39 (0, 0))), z.w.cell? ⟨gf, 2, none⟩ = some (.int .u64 of_) := fun z => cell_row z.h 2 _ H_of_.out
 have g1 : ∀ z : In (fun y => y.heap[gf]? = some (.cells RF.toArray 39 (0, 0))), z.w.cell? ⟨gf, 3, none⟩ = some (.slice da dn dc) := fun z => cell_row z.h 3 _ H_d.out
 refine wp_plan (.t 0 (.t 1 (.t 2 (.t 5 (.t 6 (.u 3 (.u 4 (.u 7 (.t 8 .done))))))))) (fun y => y.heap[gf]? = some (.cells RF.toArray 39 (0, 0))) (by kernel_rfl) (by kernel_rfl) (by kernel_rfl) (fun c a d v w h => by cases d <;> exact h) HF.out ?_
 have hb := (Below.refl w2.heap.size w2).drew
 replace HU := Qh (HU.out.to hb)
 replace HF := Qh (bl_row hb (lt_of_block HF.out) HF.out)
 clear hb
 generalize w2.drew = w3 at HU HF ⊢
 haveI hne : Nonempty (In (fun y => y.heap[gf]? = some (.cells RF.toArray 39 (0, 0)))) := ⟨⟨w3, HF.out⟩⟩
 repeat (first | (refine plan_t (by rfl) ?_; (first | go_big_quiet_skip | (go_big_quiet_want; go_big_quiet_op; go_big_quiet_on)); refine wpQuiet_nil ?_))
 refine plan_us (by rfl) (by kernel_rfl) ?_
 intro K hK
 go_wp2_with fail
 have hal := (Below.refl w3.heap.size w3).alloc (Nat.le_refl _) (.cells ([.int .u64 of_] : List Value).toArray 34)
 have hrow := heap_alloc_new w3 (.cells ([.int .u64 of_] : List Value).toArray 34)
 replace HU := Qh (HU.out.to hal)
 replace HF := Qh (bl_row hal (lt_of_block HF.out) HF.out)
 refine ⟨HF.out, ?_⟩
 change Plan.wp _ _ _ _ _ _ (w3.alloc (.cells ([.int .u64 of_] : List Value).toArray 34))
 generalize w3.alloc (.cells ([.int .u64 of_] : List Value).toArray 34) = w4 at HU HF hrow ⊢
 clear hal
 obtain ⟨gs, hgs⟩ : ∃ g, w3.heap.size = g := ⟨_, rfl⟩
 rw [hgs] at hrow ⊢
 clear hgs
 repeat (first | (refine plan_t (by rfl) ?_; (first | go_big_quiet_skip | (go_big_quiet_want; go_big_quiet_op; go_big_quiet_on)); refine wpQuiet_nil ?_))
 have hcl := HU.out.vars (Below.refl w4.heap.size w4) [of_] (some ⟨gs, 0, none⟩) 1 1 (IntsK.of_row (zs := [of_]) hrow (fun x hx => by simp only [List.mem_cons, List.not_mem_nil, or_false] at hx; subst hx; exact wf_u64r (by omega) (by omega))) (by omega) (fun x hx => by simp only [List.mem_cons, List.not_mem_nil, or_false] at hx; subst hx; omega) (by (try simp only [List.length_append, List.length_cons, List.length_nil]); have := varsM_le [6]; simp only [List.length_cons, List.length_nil] at this; omega)
 have HCL := Qh hcl
 clear hcl hrow
 refine plan_us (by rfl) (by kernel_rfl) ?_
 intro K2 hK2
 go_wp2_with fail
 refine Calls.mono HCL.out ?_
 rintro e9 w5 ⟨vw5, rfl, _, hu⟩
 replace HU := Qh hu
 clear hu HCL HF
 have HF := Qh (HU.out.row HF0.out)
 go_wp2_with fail
 refine ⟨HF.out, ?_⟩
 repeat (first | (refine plan_t (by rfl) ?_; (first | go_big_quiet_skip | (go_big_quiet_want; go_big_quiet_op; go_big_quiet_on)); refine wpQuiet_nil ?_))
 have hcl := HU.out.text (Below.refl w5.heap.size w5) da dn dc data (HD0.out.below HU.out.1) (by (try simp only [List.length_append, List.length_cons, List.length_nil]); have := varsM_le [6]; simp only [List.length_cons, List.length_nil] at this; have := varsM_le [of_]; simp only [List.length_cons, List.length_nil] at this; omega)
 have HCL := Qh hcl
 clear hcl
 refine plan_us (by rfl) (by kernel_rfl) ?_
 intro K3 hK3
 go_wp2_with fail
 refine Calls.mono HCL.out ?_
 rintro e9 w6 ⟨vw6, rfl, _, hu⟩
 replace HU := Qh hu
 clear hu HCL HF
 have HF := Qh (HU.out.row HF0.out)
 go_wp2_with fail
 refine ⟨HF.out, ?_⟩
 repeat (first | (refine plan_t (by rfl) ?_; (first | go_big_quiet_skip | (go_big_quiet_want; go_big_quiet_op; go_big_quiet_on)); refine wpQuiet_nil ?_))
 clear hne g0 g1
 show Exit.inBlock _ _ _ _ _
 simp only [Exit.inBlock]
 go_wp2_with fail
 (try simp only [Exit.inBlock, Exit.then])
 go_ret
 exact ⟨_, rfl, by have h9 := RwU.from HBW.out HU.out; first | exact h9 | simpa only [List.append_assoc] using h9⟩
theorem one4_8 (w : World) (f : Fr) (dv rv : Value) (h : FrAt w f dv rv) (hk : f.kind = 8) (hr : rightB f = true) :
  Calls Try.prog 19 #[.agg (f.cells dv rv).toArray] w fun e w' => OneR w f e w' := by
 have hwf := h.wf
 have hri := right_in hr
 obtain ⟨da, dn, dc, rfl, hd1, hd2, hd⟩ := h.d
 have hdn : f.data.length = dn := hd.1
 have hdl : dn ≤ 512 := by rw [← hdn]; exact right_data hr (by omega)
 have HD := Qh hd
 have HRF : Hid ((f.cells (.slice da dn dc) rv).length = 19) := Qh (Fr.len hwf)
 have H0 : Hid ((f.cells (.slice da dn dc) rv)[0]? = some (.int .i64 8)) := Qh (by rw [← hk]; rfl)
 have H_st : Hid ((f.cells (.slice da dn dc) rv)[1]? = some (.int .u64 f.st)) := Qh rfl
 have u_st := hwf.st
 simp only [U64] at u_st
 have m_st : f.st ≤ 4611686018427387903 := by obtain ⟨r1, r2, r3, r4, r5, r6, r7, r8, r9⟩ := hri; have := r4 hk; omega
 have H_of_ : Hid ((f.cells (.slice da dn dc) rv)[2]? = some (.int .u64 f.of_)) := Qh rfl
 have u_of_ := hwf.of_
 simp only [U64] at u_of_
 have m_of_ : f.of_ ≤ 4611686018427387903 := by obtain ⟨r1, r2, r3, r4, r5, r6, r7, r8, r9⟩ := hri; have := r4 hk; omega
 clear hri
 have hone : oneFM f = varsM [kindM f, f.st] ++ (if 0 < f.of_ then varsM [f.of_] else []) ++ textB f.data := by unfold oneFM bodyM; by_cases h0 : 0 < f.of_ <;> simp [hk, varsM, h0]
 have hkm : kindM f = 10 + (if 0 < f.of_ then 4 else 0) + (if f.fin then 1 else 0) := by unfold kindM; rw [if_pos hk]
 rw [hkm] at hone
 unfold OneR
 simp only [hone]
 clear hone hkm
 have H_fin : Hid ((f.cells (.slice da dn dc) rv)[4]? = some (.bool f.fin)) := Qh rfl
 have H_d : Hid ((f.cells (.slice da dn dc) rv)[3]? = some (.slice da dn dc)) := Qh rfl
 obtain ⟨data, hdata⟩ : ∃ y, f.data = y := ⟨_, rfl⟩
 rw [hdata] at HD hdn ⊢
 clear hdata hd
 obtain ⟨RF, hRF⟩ : ∃ R, (f.cells (.slice da dn dc) rv) = R := ⟨_, rfl⟩
 simp only [hRF] at HRF H0 H_st H_of_ H_d H_fin
 rw [hRF]
 obtain ⟨st, h_st⟩ : ∃ y, f.st = y := ⟨_, rfl⟩
 rw [h_st] at H_st u_st m_st
 try rw [h_st]
 obtain ⟨u1_st, u2_st⟩ := u_st
 clear h_st
 obtain ⟨of_, h_of_⟩ : ∃ y, f.of_ = y := ⟨_, rfl⟩
 rw [h_of_] at H_of_ u_of_ m_of_
 try rw [h_of_]
 obtain ⟨u1_of_, u2_of_⟩ := u_of_
 clear h_of_
 obtain ⟨fin, h_fin⟩ : ∃ y, f.fin = y := ⟨_, rfl⟩
 rw [h_fin] at H_fin ⊢
 clear h_fin
 have hdo : 0 < of_ ∨ of_ = 0 := by omega
 have HDO : Hid (0 < of_ ∨ of_ = 0) := Qh hdo
 clear hdo
 clear hwf h hRF hr hk
 rcases HDO.out with hpo | hpo <;> cases fin
 ·
  have hd1 : decide (0 < of_) = true := by simp; omega
  simp only [hpo, if_false, if_true, Bool.false_eq_true, Int.add_zero, Int.reduceAdd]
  go_enter Try.func19, Try.ntmps19
  go_upto_region 1 with fail
  change Code.wp _ _ _ _ (w.alloc (.cells RF.toArray 39))
  have HB := Qh (Below.refl w.heap.size w)
  have hb := (Below.refl w.heap.size w).alloc (Nat.le_refl _) (.cells RF.toArray 39)
  replace HB := Qh (bl_next HB.out HB.out.size hb)
  replace HD := Qh (HD.out.below hb)
  have HF := Qh (heap_alloc_new w (.cells RF.toArray 39))
  clear hb
  generalize w.alloc (.cells RF.toArray 39) = w1 at HB HD HF ⊢
  obtain ⟨gf, hg⟩ : ∃ g, w.heap.size = g := ⟨_, rfl⟩
  rw [hg] at HF ⊢
  clear hg
  have HF0 := HF
  have HBW := HB
  have HBB := Qh (Below.refl w1.heap.size w1)
  have HD0 := HD
  have c0 := cell_row HF.out 0 _ H0.out
  have c_st := cell_row HF.out 1 _ H_st.out
  have c_of_ := cell_row HF.out 2 _ H_of_.out
  have c_d := cell_row HF.out 3 _ H_d.out
  have c_fin := cell_row HF.out 4 _ H_fin.out
  have hcl := rvars_any (w1.alloc (.cells ([.int .u64 8] : List Value).toArray 34)) none 0 0 [] (some ⟨w1.heap.size, 0, none⟩) 1 1 [8] (IntsK.nil _ _ _) (IntsK.of_row (zs := [8]) (heap_alloc_new _ _) (fun x hx => by simp only [List.mem_cons, List.not_mem_nil, or_false] at hx; subst hx; exact wf_u64r (by omega) (by omega))) (by omega) (fun x hx => by simp only [List.mem_cons, List.not_mem_nil, or_false] at hx; subst hx; omega) (by omega)
  simp only [List.nil_append] at hcl
  have HCL := Qh hcl
  clear hcl
  go_wp2_with fail
  refine Calls.mono HCL.out ?_
  rintro e9 w2 ⟨vw2, rfl, hu⟩
  clear HCL
  have HU := Qh (RwU.from (bl_next HBB.out HBB.out.size ((Below.refl w1.heap.size w1).alloc (Nat.le_refl _) (.cells ([.int .u64 8] : List Value).toArray 34))) hu)
  clear HBB
  clear hu
  clear c0 c_st c_of_ c_d c_fin
  clear HF
  have HF := Qh (HU.out.row HF0.out)
  have c0 := cell_row HF.out 0 _ H0.out
  have c_st := cell_row HF.out 1 _ H_st.out
  have c_of_ := cell_row HF.out 2 _ H_of_.out
  have c_d := cell_row HF.out 3 _ H_d.out
  have c_fin := cell_row HF.out 4 _ H_fin.out
  have HBB := Qh HU.out.1
  clear HU
  have hcl := rvars_any (w2.alloc (.cells ([.int .u64 14, .int .u64 st] : List Value).toArray 34)) none 0 0 [] (some ⟨w2.heap.size, 0, none⟩) 2 2 [14, st] (IntsK.nil _ _ _) (IntsK.of_row (zs := [14, st]) (heap_alloc_new _ _) (fun x hx => by simp only [List.mem_cons, List.not_mem_nil, or_false] at hx; rcases hx with rfl | rfl <;> exact wf_u64r (by omega) (by omega))) (by omega) (fun x hx => by simp only [List.mem_cons, List.not_mem_nil, or_false] at hx; rcases hx with rfl | rfl <;> omega) (by omega)
  simp only [List.nil_append] at hcl
  have HCL := Qh hcl
  clear hcl
  go_wp2_with (first | rw [hd1] | fail)
  refine Calls.mono HCL.out ?_
  rintro e9 w3 ⟨vw3, rfl, hu⟩
  clear HCL
  have HU := Qh (RwU.from (bl_next HBB.out HBB.out.size ((Below.refl w2.heap.size w2).alloc (Nat.le_refl _) (.cells ([.int .u64 14, .int .u64 st] : List Value).toArray 34))) hu)
  clear HBB
  clear hu
  clear c0 c_st c_of_ c_d c_fin
  clear HF
  have HF := Qh (HU.out.row HF0.out)
  have c0 := cell_row HF.out 0 _ H0.out
  have c_st := cell_row HF.out 1 _ H_st.out
  have c_of_ := cell_row HF.out 2 _ H_of_.out
  have c_d := cell_row HF.out 3 _ H_d.out
  have c_fin := cell_row HF.out 4 _ H_fin.out
  have hcl := HU.out.vars ((Below.refl w3.heap.size w3).alloc (Nat.le_refl _) (.cells ([.int .u64 of_] : List Value).toArray 34)) [of_] (some ⟨w3.heap.size, 0, none⟩) 1 1 (IntsK.of_row (zs := [of_]) (heap_alloc_new _ _) (fun x hx => by simp only [List.mem_cons, List.not_mem_nil, or_false] at hx; subst hx; exact wf_u64r (by omega) (by omega))) (by omega) (fun x hx => by simp only [List.mem_cons, List.not_mem_nil, or_false] at hx; subst hx; omega) (by (try simp only [List.length_append, List.length_cons, List.length_nil]); have := varsM_le [14, st]; simp only [List.length_cons, List.length_nil] at this; omega)
  have HCL := Qh hcl
  clear hcl
  go_wp2_with (first | rw [hd1] | fail)
  refine Calls.mono HCL.out ?_
  rintro e9 w4 ⟨vw4, rfl, _, hu⟩
  clear HCL
  replace HU := Qh hu
  clear hu
  clear c0 c_st c_of_ c_d c_fin
  clear HF
  have HF := Qh (HU.out.row HF0.out)
  have c0 := cell_row HF.out 0 _ H0.out
  have c_st := cell_row HF.out 1 _ H_st.out
  have c_of_ := cell_row HF.out 2 _ H_of_.out
  have c_d := cell_row HF.out 3 _ H_d.out
  have c_fin := cell_row HF.out 4 _ H_fin.out
  have hcl := HU.out.text (Below.refl w4.heap.size w4) da dn dc data (HD0.out.below HU.out.1) (by (try simp only [List.length_append, List.length_cons, List.length_nil]); have := varsM_le [14, st]; simp only [List.length_cons, List.length_nil] at this; have := varsM_le [of_]; simp only [List.length_cons, List.length_nil] at this; omega)
  have HCL := Qh hcl
  clear hcl
  go_wp2_with fail
  refine Calls.mono HCL.out ?_
  rintro e9 w5 ⟨vw5, rfl, _, hu⟩
  replace HU := Qh hu
  clear hu HCL
  clear c0 c_st c_of_ c_d c_fin
  clear HF
  have HF := Qh (HU.out.row HF0.out)
  have c0 := cell_row HF.out 0 _ H0.out
  have c_st := cell_row HF.out 1 _ H_st.out
  have c_of_ := cell_row HF.out 2 _ H_of_.out
  have c_d := cell_row HF.out 3 _ H_d.out
  have c_fin := cell_row HF.out 4 _ H_fin.out
  go_wp2_with fail
  (try simp only [Exit.inBlock, Exit.then])
  go_ret
  exact ⟨_, rfl, by have h9 := RwU.from HBW.out HU.out; first | exact h9 | simpa only [List.append_assoc] using h9⟩
 ·
  have hd1 : decide (0 < of_) = true := by simp; omega
  simp only [hpo, if_false, if_true, Bool.false_eq_true, Int.add_zero, Int.reduceAdd]
  go_enter Try.func19, Try.ntmps19
  go_upto_region 1 with fail
  change Code.wp _ _ _ _ (w.alloc (.cells RF.toArray 39))
  have HB := Qh (Below.refl w.heap.size w)
  have hb := (Below.refl w.heap.size w).alloc (Nat.le_refl _) (.cells RF.toArray 39)
  replace HB := Qh (bl_next HB.out HB.out.size hb)
  replace HD := Qh (HD.out.below hb)
  have HF := Qh (heap_alloc_new w (.cells RF.toArray 39))
  clear hb
  generalize w.alloc (.cells RF.toArray 39) = w1 at HB HD HF ⊢
  obtain ⟨gf, hg⟩ : ∃ g, w.heap.size = g := ⟨_, rfl⟩
  rw [hg] at HF ⊢
  clear hg
  have HF0 := HF
  have HBW := HB
  have HBB := Qh (Below.refl w1.heap.size w1)
  have HD0 := HD
  have c0 := cell_row HF.out 0 _ H0.out
  have c_st := cell_row HF.out 1 _ H_st.out
  have c_of_ := cell_row HF.out 2 _ H_of_.out
  have c_d := cell_row HF.out 3 _ H_d.out
  have c_fin := cell_row HF.out 4 _ H_fin.out
  have hcl := rvars_any (w1.alloc (.cells ([.int .u64 8] : List Value).toArray 34)) none 0 0 [] (some ⟨w1.heap.size, 0, none⟩) 1 1 [8] (IntsK.nil _ _ _) (IntsK.of_row (zs := [8]) (heap_alloc_new _ _) (fun x hx => by simp only [List.mem_cons, List.not_mem_nil, or_false] at hx; subst hx; exact wf_u64r (by omega) (by omega))) (by omega) (fun x hx => by simp only [List.mem_cons, List.not_mem_nil, or_false] at hx; subst hx; omega) (by omega)
  simp only [List.nil_append] at hcl
  have HCL := Qh hcl
  clear hcl
  go_wp2_with fail
  refine Calls.mono HCL.out ?_
  rintro e9 w2 ⟨vw2, rfl, hu⟩
  clear HCL
  have HU := Qh (RwU.from (bl_next HBB.out HBB.out.size ((Below.refl w1.heap.size w1).alloc (Nat.le_refl _) (.cells ([.int .u64 8] : List Value).toArray 34))) hu)
  clear HBB
  clear hu
  clear c0 c_st c_of_ c_d c_fin
  clear HF
  have HF := Qh (HU.out.row HF0.out)
  have c0 := cell_row HF.out 0 _ H0.out
  have c_st := cell_row HF.out 1 _ H_st.out
  have c_of_ := cell_row HF.out 2 _ H_of_.out
  have c_d := cell_row HF.out 3 _ H_d.out
  have c_fin := cell_row HF.out 4 _ H_fin.out
  have HBB := Qh HU.out.1
  clear HU
  have hcl := rvars_any (w2.alloc (.cells ([.int .u64 15, .int .u64 st] : List Value).toArray 34)) none 0 0 [] (some ⟨w2.heap.size, 0, none⟩) 2 2 [15, st] (IntsK.nil _ _ _) (IntsK.of_row (zs := [15, st]) (heap_alloc_new _ _) (fun x hx => by simp only [List.mem_cons, List.not_mem_nil, or_false] at hx; rcases hx with rfl | rfl <;> exact wf_u64r (by omega) (by omega))) (by omega) (fun x hx => by simp only [List.mem_cons, List.not_mem_nil, or_false] at hx; rcases hx with rfl | rfl <;> omega) (by omega)
  simp only [List.nil_append] at hcl
  have HCL := Qh hcl
  clear hcl
  go_wp2_with (first | rw [hd1] | fail)
  refine Calls.mono HCL.out ?_
  rintro e9 w3 ⟨vw3, rfl, hu⟩
  clear HCL
  have HU := Qh (RwU.from (bl_next HBB.out HBB.out.size ((Below.refl w2.heap.size w2).alloc (Nat.le_refl _) (.cells ([.int .u64 15, .int .u64 st] : List Value).toArray 34))) hu)
  clear HBB
  clear hu
  clear c0 c_st c_of_ c_d c_fin
  clear HF
  have HF := Qh (HU.out.row HF0.out)
  have c0 := cell_row HF.out 0 _ H0.out
  have c_st := cell_row HF.out 1 _ H_st.out
  have c_of_ := cell_row HF.out 2 _ H_of_.out
  have c_d := cell_row HF.out 3 _ H_d.out
  have c_fin := cell_row HF.out 4 _ H_fin.out
  have hcl := HU.out.vars ((Below.refl w3.heap.size w3).alloc (Nat.le_refl _) (.cells ([.int .u64 of_] : List Value).toArray 34)) [of_] (some ⟨w3.heap.size, 0, none⟩) 1 1 (IntsK.of_row (zs := [of_]) (heap_alloc_new _ _) (fun x hx => by simp only [List.mem_cons, List.not_mem_nil, or_false] at hx; subst hx; exact wf_u64r (by omega) (by omega))) (by omega) (fun x hx => by simp only [List.mem_cons, List.not_mem_nil, or_false] at hx; subst hx; omega) (by (try simp only [List.length_append, List.length_cons, List.length_nil]); have := varsM_le [15, st]; simp only [List.length_cons, List.length_nil] at this; omega)
  have HCL := Qh hcl
  clear hcl
  go_wp2_with (first | rw [hd1] | fail)
  refine Calls.mono HCL.out ?_
  rintro e9 w4 ⟨vw4, rfl, _, hu⟩
  clear HCL
  replace HU := Qh hu
  clear hu
  clear c0 c_st c_of_ c_d c_fin
  clear HF
  have HF := Qh (HU.out.row HF0.out)
  have c0 := cell_row HF.out 0 _ H0.out
  have c_st := cell_row HF.out 1 _ H_st.out
  have c_of_ := cell_row HF.out 2 _ H_of_.out
  have c_d := cell_row HF.out 3 _ H_d.out
  have c_fin := cell_row HF.out 4 _ H_fin.out
  have hcl := HU.out.text (Below.refl w4.heap.size w4) da dn dc data (HD0.out.below HU.out.1) (by (try simp only [List.length_append, List.length_cons, List.length_nil]); have := varsM_le [15, st]; simp only [List.length_cons, List.length_nil] at this; have := varsM_le [of_]; simp only [List.length_cons, List.length_nil] at this; omega)
  have HCL := Qh hcl
  clear hcl
  go_wp2_with fail
  refine Calls.mono HCL.out ?_
  rintro e9 w5 ⟨vw5, rfl, _, hu⟩
  replace HU := Qh hu
  clear hu HCL
  clear c0 c_st c_of_ c_d c_fin
  clear HF
  have HF := Qh (HU.out.row HF0.out)
  have c0 := cell_row HF.out 0 _ H0.out
  have c_st := cell_row HF.out 1 _ H_st.out
  have c_of_ := cell_row HF.out 2 _ H_of_.out
  have c_d := cell_row HF.out 3 _ H_d.out
  have c_fin := cell_row HF.out 4 _ H_fin.out
  go_wp2_with fail
  (try simp only [Exit.inBlock, Exit.then])
  go_ret
  exact ⟨_, rfl, by have h9 := RwU.from HBW.out HU.out; first | exact h9 | simpa only [List.append_assoc] using h9⟩
 ·
  subst hpo
  simp only [Int.lt_irrefl, if_false, if_true, Bool.false_eq_true, List.append_nil, Int.add_zero, Int.reduceAdd]
  go_enter Try.func19, Try.ntmps19
  go_upto_region 1 with fail
  change Code.wp _ _ _ _ (w.alloc (.cells RF.toArray 39))
  have HB := Qh (Below.refl w.heap.size w)
  have hb := (Below.refl w.heap.size w).alloc (Nat.le_refl _) (.cells RF.toArray 39)
  replace HB := Qh (bl_next HB.out HB.out.size hb)
  replace HD := Qh (HD.out.below hb)
  have HF := Qh (heap_alloc_new w (.cells RF.toArray 39))
  clear hb
  generalize w.alloc (.cells RF.toArray 39) = w1 at HB HD HF ⊢
  obtain ⟨gf, hg⟩ : ∃ g, w.heap.size = g := ⟨_, rfl⟩
  rw [hg] at HF ⊢
  clear hg
  have HF0 := HF
  have HBW := HB
  have HBB := Qh (Below.refl w1.heap.size w1)
  have HD0 := HD
  have c0 := cell_row HF.out 0 _ H0.out
  have c_st := cell_row HF.out 1 _ H_st.out
  have c_of_ := cell_row HF.out 2 _ H_of_.out
  have c_d := cell_row HF.out 3 _ H_d.out
  have c_fin := cell_row HF.out 4 _ H_fin.out
  have hcl := rvars_any (w1.alloc (.cells ([.int .u64 8] : List Value).toArray 34)) none 0 0 [] (some ⟨w1.heap.size, 0, none⟩) 1 1 [8] (IntsK.nil _ _ _) (IntsK.of_row (zs := [8]) (heap_alloc_new _ _) (fun x hx => by simp only [List.mem_cons, List.not_mem_nil, or_false] at hx; subst hx; exact wf_u64r (by omega) (by omega))) (by omega) (fun x hx => by simp only [List.mem_cons, List.not_mem_nil, or_false] at hx; subst hx; omega) (by omega)
  simp only [List.nil_append] at hcl
  have HCL := Qh hcl
  clear hcl
  go_wp2_with fail
  refine Calls.mono HCL.out ?_
  rintro e9 w2 ⟨vw2, rfl, hu⟩
  clear HCL
  have HU := Qh (RwU.from (bl_next HBB.out HBB.out.size ((Below.refl w1.heap.size w1).alloc (Nat.le_refl _) (.cells ([.int .u64 8] : List Value).toArray 34))) hu)
  clear HBB
  clear hu
  clear c0 c_st c_of_ c_d c_fin
  clear HF
  have HF := Qh (HU.out.row HF0.out)
  have c0 := cell_row HF.out 0 _ H0.out
  have c_st := cell_row HF.out 1 _ H_st.out
  have c_of_ := cell_row HF.out 2 _ H_of_.out
  have c_d := cell_row HF.out 3 _ H_d.out
  have c_fin := cell_row HF.out 4 _ H_fin.out
  have HBB := Qh HU.out.1
  clear HU
  have hcl := rvars_any (w2.alloc (.cells ([.int .u64 10, .int .u64 st] : List Value).toArray 34)) none 0 0 [] (some ⟨w2.heap.size, 0, none⟩) 2 2 [10, st] (IntsK.nil _ _ _) (IntsK.of_row (zs := [10, st]) (heap_alloc_new _ _) (fun x hx => by simp only [List.mem_cons, List.not_mem_nil, or_false] at hx; rcases hx with rfl | rfl <;> exact wf_u64r (by omega) (by omega))) (by omega) (fun x hx => by simp only [List.mem_cons, List.not_mem_nil, or_false] at hx; rcases hx with rfl | rfl <;> omega) (by omega)
  simp only [List.nil_append] at hcl
  have HCL := Qh hcl
  clear hcl
  go_wp2_with fail
  refine Calls.mono HCL.out ?_
  rintro e9 w3 ⟨vw3, rfl, hu⟩
  clear HCL
  have HU := Qh (RwU.from (bl_next HBB.out HBB.out.size ((Below.refl w2.heap.size w2).alloc (Nat.le_refl _) (.cells ([.int .u64 10, .int .u64 st] : List Value).toArray 34))) hu)
  clear HBB
  clear hu
  clear c0 c_st c_of_ c_d c_fin
  clear HF
  have HF := Qh (HU.out.row HF0.out)
  have c0 := cell_row HF.out 0 _ H0.out
  have c_st := cell_row HF.out 1 _ H_st.out
  have c_of_ := cell_row HF.out 2 _ H_of_.out
  have c_d := cell_row HF.out 3 _ H_d.out
  have c_fin := cell_row HF.out 4 _ H_fin.out
  have hcl := HU.out.text (Below.refl w3.heap.size w3) da dn dc data (HD0.out.below HU.out.1) (by (try simp only [List.length_append, List.length_cons, List.length_nil]); have := varsM_le [10, st]; simp only [List.length_cons, List.length_nil] at this; omega)
  have HCL := Qh hcl
  clear hcl
  go_wp2_with fail
  refine Calls.mono HCL.out ?_
  rintro e9 w4 ⟨vw4, rfl, _, hu⟩
  replace HU := Qh hu
  clear hu HCL
  clear c0 c_st c_of_ c_d c_fin
  clear HF
  have HF := Qh (HU.out.row HF0.out)
  have c0 := cell_row HF.out 0 _ H0.out
  have c_st := cell_row HF.out 1 _ H_st.out
  have c_of_ := cell_row HF.out 2 _ H_of_.out
  have c_d := cell_row HF.out 3 _ H_d.out
  have c_fin := cell_row HF.out 4 _ H_fin.out
  go_wp2_with fail
  (try simp only [Exit.inBlock, Exit.then])
  go_ret
  exact ⟨_, rfl, by have h9 := RwU.from HBW.out HU.out; first | exact h9 | simpa only [List.append_assoc] using h9⟩
 ·
  subst hpo
  simp only [Int.lt_irrefl, if_false, if_true, Bool.false_eq_true, List.append_nil, Int.add_zero, Int.reduceAdd]
  go_enter Try.func19, Try.ntmps19
  go_upto_region 1 with fail
  change Code.wp _ _ _ _ (w.alloc (.cells RF.toArray 39))
  have HB := Qh (Below.refl w.heap.size w)
  have hb := (Below.refl w.heap.size w).alloc (Nat.le_refl _) (.cells RF.toArray 39)
  replace HB := Qh (bl_next HB.out HB.out.size hb)
  replace HD := Qh (HD.out.below hb)
  have HF := Qh (heap_alloc_new w (.cells RF.toArray 39))
  clear hb
  generalize w.alloc (.cells RF.toArray 39) = w1 at HB HD HF ⊢
  obtain ⟨gf, hg⟩ : ∃ g, w.heap.size = g := ⟨_, rfl⟩
  rw [hg] at HF ⊢
  clear hg
  have HF0 := HF
  have HBW := HB
  have HBB := Qh (Below.refl w1.heap.size w1)
  have HD0 := HD
  have c0 := cell_row HF.out 0 _ H0.out
  have c_st := cell_row HF.out 1 _ H_st.out
  have c_of_ := cell_row HF.out 2 _ H_of_.out
  have c_d := cell_row HF.out 3 _ H_d.out
  have c_fin := cell_row HF.out 4 _ H_fin.out
  have hcl := rvars_any (w1.alloc (.cells ([.int .u64 8] : List Value).toArray 34)) none 0 0 [] (some ⟨w1.heap.size, 0, none⟩) 1 1 [8] (IntsK.nil _ _ _) (IntsK.of_row (zs := [8]) (heap_alloc_new _ _) (fun x hx => by simp only [List.mem_cons, List.not_mem_nil, or_false] at hx; subst hx; exact wf_u64r (by omega) (by omega))) (by omega) (fun x hx => by simp only [List.mem_cons, List.not_mem_nil, or_false] at hx; subst hx; omega) (by omega)
  simp only [List.nil_append] at hcl
  have HCL := Qh hcl
  clear hcl
  go_wp2_with fail
  refine Calls.mono HCL.out ?_
  rintro e9 w2 ⟨vw2, rfl, hu⟩
  clear HCL
  have HU := Qh (RwU.from (bl_next HBB.out HBB.out.size ((Below.refl w1.heap.size w1).alloc (Nat.le_refl _) (.cells ([.int .u64 8] : List Value).toArray 34))) hu)
  clear HBB
  clear hu
  clear c0 c_st c_of_ c_d c_fin
  clear HF
  have HF := Qh (HU.out.row HF0.out)
  have c0 := cell_row HF.out 0 _ H0.out
  have c_st := cell_row HF.out 1 _ H_st.out
  have c_of_ := cell_row HF.out 2 _ H_of_.out
  have c_d := cell_row HF.out 3 _ H_d.out
  have c_fin := cell_row HF.out 4 _ H_fin.out
  have HBB := Qh HU.out.1
  clear HU
  have hcl := rvars_any (w2.alloc (.cells ([.int .u64 11, .int .u64 st] : List Value).toArray 34)) none 0 0 [] (some ⟨w2.heap.size, 0, none⟩) 2 2 [11, st] (IntsK.nil _ _ _) (IntsK.of_row (zs := [11, st]) (heap_alloc_new _ _) (fun x hx => by simp only [List.mem_cons, List.not_mem_nil, or_false] at hx; rcases hx with rfl | rfl <;> exact wf_u64r (by omega) (by omega))) (by omega) (fun x hx => by simp only [List.mem_cons, List.not_mem_nil, or_false] at hx; rcases hx with rfl | rfl <;> omega) (by omega)
  simp only [List.nil_append] at hcl
  have HCL := Qh hcl
  clear hcl
  go_wp2_with fail
  refine Calls.mono HCL.out ?_
  rintro e9 w3 ⟨vw3, rfl, hu⟩
  clear HCL
  have HU := Qh (RwU.from (bl_next HBB.out HBB.out.size ((Below.refl w2.heap.size w2).alloc (Nat.le_refl _) (.cells ([.int .u64 11, .int .u64 st] : List Value).toArray 34))) hu)
  clear HBB
  clear hu
  clear c0 c_st c_of_ c_d c_fin
  clear HF
  have HF := Qh (HU.out.row HF0.out)
  have c0 := cell_row HF.out 0 _ H0.out
  have c_st := cell_row HF.out 1 _ H_st.out
  have c_of_ := cell_row HF.out 2 _ H_of_.out
  have c_d := cell_row HF.out 3 _ H_d.out
  have c_fin := cell_row HF.out 4 _ H_fin.out
  have hcl := HU.out.text (Below.refl w3.heap.size w3) da dn dc data (HD0.out.below HU.out.1) (by (try simp only [List.length_append, List.length_cons, List.length_nil]); have := varsM_le [11, st]; simp only [List.length_cons, List.length_nil] at this; omega)
  have HCL := Qh hcl
  clear hcl
  go_wp2_with fail
  refine Calls.mono HCL.out ?_
  rintro e9 w4 ⟨vw4, rfl, _, hu⟩
  replace HU := Qh hu
  clear hu HCL
  clear c0 c_st c_of_ c_d c_fin
  clear HF
  have HF := Qh (HU.out.row HF0.out)
  have c0 := cell_row HF.out 0 _ H0.out
  have c_st := cell_row HF.out 1 _ H_st.out
  have c_of_ := cell_row HF.out 2 _ H_of_.out
  have c_d := cell_row HF.out 3 _ H_d.out
  have c_fin := cell_row HF.out 4 _ H_fin.out
  go_wp2_with fail
  (try simp only [Exit.inBlock, Exit.then])
  go_ret
  exact ⟨_, rfl, by have h9 := RwU.from HBW.out HU.out; first | exact h9 | simpa only [List.append_assoc] using h9⟩
theorem one4_16 (w : World) (f : Fr) (dv rv : Value) (h : FrAt w f dv rv) (hk : f.kind = 16) (hr : rightB f = true) :
  Calls Try.prog 19 #[.agg (f.cells dv rv).toArray] w fun e w' => OneR w f e w' := by
 have hwf := h.wf
 have hri := right_in hr
 have HRF : Hid ((f.cells dv rv).length = 19) := Qh (Fr.len hwf)
 have H0 : Hid ((f.cells dv rv)[0]? = some (.int .i64 16)) := Qh (by rw [← hk]; rfl)
 have H_li : Hid ((f.cells dv rv)[5]? = some (.int .u64 f.li)) := Qh rfl
 have u_li := hwf.li
 simp only [U64] at u_li
 have m_li : f.li ≤ 4611686018427387903 := by obtain ⟨r1, r2, r3, r4, r5, r6, r7, r8, r9⟩ := hri; have := r5 (by omega); omega
 clear hri
 have hone : oneFM f = varsM [16] ++ (varsM [f.li]) := by unfold oneFM bodyM kindM; simp [hk, varsM]
 unfold OneR
 simp only [hone]
 clear hone
 obtain ⟨RF, hRF⟩ : ∃ R, (f.cells dv rv) = R := ⟨_, rfl⟩
 simp only [hRF] at HRF H0 H_li
 rw [hRF]
 obtain ⟨li, h_li⟩ : ∃ y, f.li = y := ⟨_, rfl⟩
 rw [h_li] at H_li u_li m_li
 try rw [h_li]
 obtain ⟨u1_li, u2_li⟩ := u_li
 clear h_li
 clear hwf h hRF hr hk
 go_enter Try.func19, Try.ntmps19
 go_upto_region 1 with fail
 change Code.wp _ _ _ _ (w.alloc (.cells RF.toArray 39))
 have HB := Qh (Below.refl w.heap.size w)
 have hb := (Below.refl w.heap.size w).alloc (Nat.le_refl _) (.cells RF.toArray 39)
 replace HB := Qh (bl_next HB.out HB.out.size hb)
 have HF := Qh (heap_alloc_new w (.cells RF.toArray 39))
 clear hb
 generalize w.alloc (.cells RF.toArray 39) = w1 at HB HF ⊢
 obtain ⟨gf, hg⟩ : ∃ g, w.heap.size = g := ⟨_, rfl⟩
 rw [hg] at HF ⊢
 clear hg
 have HF0 := HF
 have HBW := HB
 have HBB := Qh (Below.refl w1.heap.size w1)
 have c0 := cell_row HF.out 0 _ H0.out
 have c_li := cell_row HF.out 5 _ H_li.out
 have hcl := rvars_any (w1.alloc (.cells ([.int .u64 16] : List Value).toArray 34)) none 0 0 [] (some ⟨w1.heap.size, 0, none⟩) 1 1 [16] (IntsK.nil _ _ _) (IntsK.of_row (zs := [16]) (heap_alloc_new _ _) (fun x hx => by simp only [List.mem_cons, List.not_mem_nil, or_false] at hx; subst hx; exact wf_u64r (by omega) (by omega))) (by omega) (fun x hx => by simp only [List.mem_cons, List.not_mem_nil, or_false] at hx; subst hx; omega) (by omega)
 simp only [List.nil_append] at hcl
 have HCL := Qh hcl
 clear hcl
 go_wp2_with fail
 refine Calls.mono HCL.out ?_
 rintro e9 w2 ⟨vw2, rfl, hu⟩
 clear HCL
 have HU := Qh (RwU.from (bl_next HBB.out HBB.out.size ((Below.refl w1.heap.size w1).alloc (Nat.le_refl _) (.cells ([.int .u64 16] : List Value).toArray 34))) hu)
 clear HBB
 clear hu
 clear c0 c_li
 clear HF
 have HF := Qh (HU.out.row HF0.out)
 have c0 := cell_row HF.out 0 _ H0.out
 have c_li := cell_row HF.out 5 _ H_li.out
 have hcl := HU.out.vars ((Below.refl w2.heap.size w2).alloc (Nat.le_refl _) (.cells ([.int .u64 li] : List Value).toArray 34)) [li] (some ⟨w2.heap.size, 0, none⟩) 1 1 (IntsK.of_row (zs := [li]) (heap_alloc_new _ _) (fun x hx => by simp only [List.mem_cons, List.not_mem_nil, or_false] at hx; subst hx; exact wf_u64r (by omega) (by omega))) (by omega) (fun x hx => by simp only [List.mem_cons, List.not_mem_nil, or_false] at hx; subst hx; omega) (by (try simp only [List.length_append, List.length_cons, List.length_nil]); have := varsM_le [16]; simp only [List.length_cons, List.length_nil] at this; omega)
 have HCL := Qh hcl
 clear hcl
 go_wp2_with fail
 refine Calls.mono HCL.out ?_
 rintro e9 w3 ⟨vw3, rfl, _, hu⟩
 clear HCL
 replace HU := Qh hu
 clear hu
 clear c0 c_li
 clear HF
 have HF := Qh (HU.out.row HF0.out)
 have c0 := cell_row HF.out 0 _ H0.out
 have c_li := cell_row HF.out 5 _ H_li.out
 go_wp2_with fail
 (try simp only [Exit.inBlock, Exit.then])
 go_ret
 exact ⟨_, rfl, by have h9 := RwU.from HBW.out HU.out; first | exact h9 | simpa only [List.append_assoc] using h9⟩
theorem one4_18 (w : World) (f : Fr) (dv rv : Value) (h : FrAt w f dv rv) (hk : f.kind = 18) (hr : rightB f = true) :
  Calls Try.prog 19 #[.agg (f.cells dv rv).toArray] w fun e w' => OneR w f e w' := by
 have hwf := h.wf
 have hri := right_in hr
 have HRF : Hid ((f.cells dv rv).length = 19) := Qh (Fr.len hwf)
 have H0 : Hid ((f.cells dv rv)[0]? = some (.int .i64 18)) := Qh (by rw [← hk]; rfl)
 have H_li : Hid ((f.cells dv rv)[5]? = some (.int .u64 f.li)) := Qh rfl
 have u_li := hwf.li
 simp only [U64] at u_li
 have m_li : f.li ≤ 4611686018427387903 := by obtain ⟨r1, r2, r3, r4, r5, r6, r7, r8, r9⟩ := hri; have := r5 (by omega); omega
 clear hri
 have hone : oneFM f = varsM [18] ++ (varsM [f.li]) := by unfold oneFM bodyM kindM; simp [hk, varsM]
 unfold OneR
 simp only [hone]
 clear hone
 obtain ⟨RF, hRF⟩ : ∃ R, (f.cells dv rv) = R := ⟨_, rfl⟩
 simp only [hRF] at HRF H0 H_li
 rw [hRF]
 obtain ⟨li, h_li⟩ : ∃ y, f.li = y := ⟨_, rfl⟩
 rw [h_li] at H_li u_li m_li
 try rw [h_li]
 obtain ⟨u1_li, u2_li⟩ := u_li
 clear h_li
 clear hwf h hRF hr hk
 go_enter Try.func19, Try.ntmps19
 go_upto_region 1 with fail
 change Code.wp _ _ _ _ (w.alloc (.cells RF.toArray 39))
 have HB := Qh (Below.refl w.heap.size w)
 have hb := (Below.refl w.heap.size w).alloc (Nat.le_refl _) (.cells RF.toArray 39)
 replace HB := Qh (bl_next HB.out HB.out.size hb)
 have HF := Qh (heap_alloc_new w (.cells RF.toArray 39))
 clear hb
 generalize w.alloc (.cells RF.toArray 39) = w1 at HB HF ⊢
 obtain ⟨gf, hg⟩ : ∃ g, w.heap.size = g := ⟨_, rfl⟩
 rw [hg] at HF ⊢
 clear hg
 have HF0 := HF
 have HBW := HB
 have HBB := Qh (Below.refl w1.heap.size w1)
 have c0 := cell_row HF.out 0 _ H0.out
 have c_li := cell_row HF.out 5 _ H_li.out
 have hcl := rvars_any (w1.alloc (.cells ([.int .u64 18] : List Value).toArray 34)) none 0 0 [] (some ⟨w1.heap.size, 0, none⟩) 1 1 [18] (IntsK.nil _ _ _) (IntsK.of_row (zs := [18]) (heap_alloc_new _ _) (fun x hx => by simp only [List.mem_cons, List.not_mem_nil, or_false] at hx; subst hx; exact wf_u64r (by omega) (by omega))) (by omega) (fun x hx => by simp only [List.mem_cons, List.not_mem_nil, or_false] at hx; subst hx; omega) (by omega)
 simp only [List.nil_append] at hcl
 have HCL := Qh hcl
 clear hcl
 go_wp2_with fail
 refine Calls.mono HCL.out ?_
 rintro e9 w2 ⟨vw2, rfl, hu⟩
 clear HCL
 have HU := Qh (RwU.from (bl_next HBB.out HBB.out.size ((Below.refl w1.heap.size w1).alloc (Nat.le_refl _) (.cells ([.int .u64 18] : List Value).toArray 34))) hu)
 clear HBB
 clear hu
 clear c0 c_li
 clear HF
 have HF := Qh (HU.out.row HF0.out)
 have c0 := cell_row HF.out 0 _ H0.out
 have c_li := cell_row HF.out 5 _ H_li.out
 have hcl := HU.out.vars ((Below.refl w2.heap.size w2).alloc (Nat.le_refl _) (.cells ([.int .u64 li] : List Value).toArray 34)) [li] (some ⟨w2.heap.size, 0, none⟩) 1 1 (IntsK.of_row (zs := [li]) (heap_alloc_new _ _) (fun x hx => by simp only [List.mem_cons, List.not_mem_nil, or_false] at hx; subst hx; exact wf_u64r (by omega) (by omega))) (by omega) (fun x hx => by simp only [List.mem_cons, List.not_mem_nil, or_false] at hx; subst hx; omega) (by (try simp only [List.length_append, List.length_cons, List.length_nil]); have := varsM_le [18]; simp only [List.length_cons, List.length_nil] at this; omega)
 have HCL := Qh hcl
 clear hcl
 go_wp2_with fail
 refine Calls.mono HCL.out ?_
 rintro e9 w3 ⟨vw3, rfl, _, hu⟩
 clear HCL
 replace HU := Qh hu
 clear hu
 clear c0 c_li
 clear HF
 have HF := Qh (HU.out.row HF0.out)
 have c0 := cell_row HF.out 0 _ H0.out
 have c_li := cell_row HF.out 5 _ H_li.out
 go_wp2_with fail
 (try simp only [Exit.inBlock, Exit.then])
 go_ret
 exact ⟨_, rfl, by have h9 := RwU.from HBW.out HU.out; first | exact h9 | simpa only [List.append_assoc] using h9⟩
theorem one4_20 (w : World) (f : Fr) (dv rv : Value) (h : FrAt w f dv rv) (hk : f.kind = 20) (hr : rightB f = true) :
  Calls Try.prog 19 #[.agg (f.cells dv rv).toArray] w fun e w' => OneR w f e w' := by
 have hwf := h.wf
 have hri := right_in hr
 have HRF : Hid ((f.cells dv rv).length = 19) := Qh (Fr.len hwf)
 have H0 : Hid ((f.cells dv rv)[0]? = some (.int .i64 20)) := Qh (by rw [← hk]; rfl)
 have H_li : Hid ((f.cells dv rv)[5]? = some (.int .u64 f.li)) := Qh rfl
 have u_li := hwf.li
 simp only [U64] at u_li
 have m_li : f.li ≤ 4611686018427387903 := by obtain ⟨r1, r2, r3, r4, r5, r6, r7, r8, r9⟩ := hri; have := r5 (by omega); omega
 clear hri
 have hone : oneFM f = varsM [20] ++ (varsM [f.li]) := by unfold oneFM bodyM kindM; simp [hk, varsM]
 unfold OneR
 simp only [hone]
 clear hone
 obtain ⟨RF, hRF⟩ : ∃ R, (f.cells dv rv) = R := ⟨_, rfl⟩
 simp only [hRF] at HRF H0 H_li
 rw [hRF]
 obtain ⟨li, h_li⟩ : ∃ y, f.li = y := ⟨_, rfl⟩
 rw [h_li] at H_li u_li m_li
 try rw [h_li]
 obtain ⟨u1_li, u2_li⟩ := u_li
 clear h_li
 clear hwf h hRF hr hk
 go_enter Try.func19, Try.ntmps19
 go_upto_region 1 with fail
 change Code.wp _ _ _ _ (w.alloc (.cells RF.toArray 39))
 have HB := Qh (Below.refl w.heap.size w)
 have hb := (Below.refl w.heap.size w).alloc (Nat.le_refl _) (.cells RF.toArray 39)
 replace HB := Qh (bl_next HB.out HB.out.size hb)
 have HF := Qh (heap_alloc_new w (.cells RF.toArray 39))
 clear hb
 generalize w.alloc (.cells RF.toArray 39) = w1 at HB HF ⊢
 obtain ⟨gf, hg⟩ : ∃ g, w.heap.size = g := ⟨_, rfl⟩
 rw [hg] at HF ⊢
 clear hg
 have HF0 := HF
 have HBW := HB
 have HBB := Qh (Below.refl w1.heap.size w1)
 have c0 := cell_row HF.out 0 _ H0.out
 have c_li := cell_row HF.out 5 _ H_li.out
 have hcl := rvars_any (w1.alloc (.cells ([.int .u64 20] : List Value).toArray 34)) none 0 0 [] (some ⟨w1.heap.size, 0, none⟩) 1 1 [20] (IntsK.nil _ _ _) (IntsK.of_row (zs := [20]) (heap_alloc_new _ _) (fun x hx => by simp only [List.mem_cons, List.not_mem_nil, or_false] at hx; subst hx; exact wf_u64r (by omega) (by omega))) (by omega) (fun x hx => by simp only [List.mem_cons, List.not_mem_nil, or_false] at hx; subst hx; omega) (by omega)
 simp only [List.nil_append] at hcl
 have HCL := Qh hcl
 clear hcl
 go_wp2_with fail
 refine Calls.mono HCL.out ?_
 rintro e9 w2 ⟨vw2, rfl, hu⟩
 clear HCL
 have HU := Qh (RwU.from (bl_next HBB.out HBB.out.size ((Below.refl w1.heap.size w1).alloc (Nat.le_refl _) (.cells ([.int .u64 20] : List Value).toArray 34))) hu)
 clear HBB
 clear hu
 clear c0 c_li
 clear HF
 have HF := Qh (HU.out.row HF0.out)
 have c0 := cell_row HF.out 0 _ H0.out
 have c_li := cell_row HF.out 5 _ H_li.out
 have hcl := HU.out.vars ((Below.refl w2.heap.size w2).alloc (Nat.le_refl _) (.cells ([.int .u64 li] : List Value).toArray 34)) [li] (some ⟨w2.heap.size, 0, none⟩) 1 1 (IntsK.of_row (zs := [li]) (heap_alloc_new _ _) (fun x hx => by simp only [List.mem_cons, List.not_mem_nil, or_false] at hx; subst hx; exact wf_u64r (by omega) (by omega))) (by omega) (fun x hx => by simp only [List.mem_cons, List.not_mem_nil, or_false] at hx; subst hx; omega) (by (try simp only [List.length_append, List.length_cons, List.length_nil]); have := varsM_le [20]; simp only [List.length_cons, List.length_nil] at this; omega)
 have HCL := Qh hcl
 clear hcl
 go_wp2_with fail
 refine Calls.mono HCL.out ?_
 rintro e9 w3 ⟨vw3, rfl, _, hu⟩
 clear HCL
 replace HU := Qh hu
 clear hu
 clear c0 c_li
 clear HF
 have HF := Qh (HU.out.row HF0.out)
 have c0 := cell_row HF.out 0 _ H0.out
 have c_li := cell_row HF.out 5 _ H_li.out
 go_wp2_with fail
 (try simp only [Exit.inBlock, Exit.then])
 go_ret
 exact ⟨_, rfl, by have h9 := RwU.from HBW.out HU.out; first | exact h9 | simpa only [List.append_assoc] using h9⟩
theorem one4_17 (w : World) (f : Fr) (dv rv : Value) (h : FrAt w f dv rv) (hk : f.kind = 17) (hr : rightB f = true) :
  Calls Try.prog 19 #[.agg (f.cells dv rv).toArray] w fun e w' => OneR w f e w' := by
 have hwf := h.wf
 have hri := right_in hr
 have HRF : Hid ((f.cells dv rv).length = 19) := Qh (Fr.len hwf)
 have H0 : Hid ((f.cells dv rv)[0]? = some (.int .i64 17)) := Qh (by rw [← hk]; rfl)
 have H_st : Hid ((f.cells dv rv)[1]? = some (.int .u64 f.st)) := Qh rfl
 have u_st := hwf.st
 simp only [U64] at u_st
 have m_st : f.st ≤ 4611686018427387903 := by obtain ⟨r1, r2, r3, r4, r5, r6, r7, r8, r9⟩ := hri; have := r6 hk; omega
 have H_li : Hid ((f.cells dv rv)[5]? = some (.int .u64 f.li)) := Qh rfl
 have u_li := hwf.li
 simp only [U64] at u_li
 have m_li : f.li ≤ 4611686018427387903 := by obtain ⟨r1, r2, r3, r4, r5, r6, r7, r8, r9⟩ := hri; have := r6 hk; omega
 clear hri
 have hone : oneFM f = varsM [17] ++ (varsM [f.st, f.li]) := by unfold oneFM bodyM kindM; simp [hk, varsM]
 unfold OneR
 simp only [hone]
 clear hone
 obtain ⟨RF, hRF⟩ : ∃ R, (f.cells dv rv) = R := ⟨_, rfl⟩
 simp only [hRF] at HRF H0 H_st H_li
 rw [hRF]
 obtain ⟨st, h_st⟩ : ∃ y, f.st = y := ⟨_, rfl⟩
 rw [h_st] at H_st u_st m_st
 try rw [h_st]
 obtain ⟨u1_st, u2_st⟩ := u_st
 clear h_st
 obtain ⟨li, h_li⟩ : ∃ y, f.li = y := ⟨_, rfl⟩
 rw [h_li] at H_li u_li m_li
 try rw [h_li]
 obtain ⟨u1_li, u2_li⟩ := u_li
 clear h_li
 clear hwf h hRF hr hk
 go_enter Try.func19, Try.ntmps19
 go_upto_region 1 with fail
 change Code.wp _ _ _ _ (w.alloc (.cells RF.toArray 39))
 have HB := Qh (Below.refl w.heap.size w)
 have hb := (Below.refl w.heap.size w).alloc (Nat.le_refl _) (.cells RF.toArray 39)
 replace HB := Qh (bl_next HB.out HB.out.size hb)
 have HF := Qh (heap_alloc_new w (.cells RF.toArray 39))
 clear hb
 generalize w.alloc (.cells RF.toArray 39) = w1 at HB HF ⊢
 obtain ⟨gf, hg⟩ : ∃ g, w.heap.size = g := ⟨_, rfl⟩
 rw [hg] at HF ⊢
 clear hg
 have HF0 := HF
 have HBW := HB
 have HBB := Qh (Below.refl w1.heap.size w1)
 have c0 := cell_row HF.out 0 _ H0.out
 have c_st := cell_row HF.out 1 _ H_st.out
 have c_li := cell_row HF.out 5 _ H_li.out
 have hcl := rvars_any (w1.alloc (.cells ([.int .u64 17] : List Value).toArray 34)) none 0 0 [] (some ⟨w1.heap.size, 0, none⟩) 1 1 [17] (IntsK.nil _ _ _) (IntsK.of_row (zs := [17]) (heap_alloc_new _ _) (fun x hx => by simp only [List.mem_cons, List.not_mem_nil, or_false] at hx; subst hx; exact wf_u64r (by omega) (by omega))) (by omega) (fun x hx => by simp only [List.mem_cons, List.not_mem_nil, or_false] at hx; subst hx; omega) (by omega)
 simp only [List.nil_append] at hcl
 have HCL := Qh hcl
 clear hcl
 go_wp2_with fail
 refine Calls.mono HCL.out ?_
 rintro e9 w2 ⟨vw2, rfl, hu⟩
 clear HCL
 have HU := Qh (RwU.from (bl_next HBB.out HBB.out.size ((Below.refl w1.heap.size w1).alloc (Nat.le_refl _) (.cells ([.int .u64 17] : List Value).toArray 34))) hu)
 clear HBB
 clear hu
 clear c0 c_st c_li
 clear HF
 have HF := Qh (HU.out.row HF0.out)
 have c0 := cell_row HF.out 0 _ H0.out
 have c_st := cell_row HF.out 1 _ H_st.out
 have c_li := cell_row HF.out 5 _ H_li.out
 have hcl := HU.out.vars ((Below.refl w2.heap.size w2).alloc (Nat.le_refl _) (.cells ([.int .u64 st, .int .u64 li] : List Value).toArray 34)) [st, li] (some ⟨w2.heap.size, 0, none⟩) 2 2 (IntsK.of_row (zs := [st, li]) (heap_alloc_new _ _) (fun x hx => by simp only [List.mem_cons, List.not_mem_nil, or_false] at hx; rcases hx with rfl | rfl <;> exact wf_u64r (by omega) (by omega))) (by omega) (fun x hx => by simp only [List.mem_cons, List.not_mem_nil, or_false] at hx; rcases hx with rfl | rfl <;> omega) (by (try simp only [List.length_append, List.length_cons, List.length_nil]); have := varsM_le [17]; simp only [List.length_cons, List.length_nil] at this; omega)
 have HCL := Qh hcl
 clear hcl
 go_wp2_with fail
 refine Calls.mono HCL.out ?_
 rintro e9 w3 ⟨vw3, rfl, _, hu⟩
 clear HCL
 replace HU := Qh hu
 clear hu
 clear c0 c_st c_li
 clear HF
 have HF := Qh (HU.out.row HF0.out)
 have c0 := cell_row HF.out 0 _ H0.out
 have c_st := cell_row HF.out 1 _ H_st.out
 have c_li := cell_row HF.out 5 _ H_li.out
 go_wp2_with fail
 (try simp only [Exit.inBlock, Exit.then])
 go_ret
 exact ⟨_, rfl, by have h9 := RwU.from HBW.out HU.out; first | exact h9 | simpa only [List.append_assoc] using h9⟩
theorem one4_24 (w : World) (f : Fr) (dv rv : Value) (h : FrAt w f dv rv) (hk : f.kind = 24) (hr : rightB f = true) :
  Calls Try.prog 19 #[.agg (f.cells dv rv).toArray] w fun e w' => OneR w f e w' := by
 have hwf := h.wf
 have hri := right_in hr
 have HRF : Hid ((f.cells dv rv).length = 19) := Qh (Fr.len hwf)
 have H0 : Hid ((f.cells dv rv)[0]? = some (.int .i64 24)) := Qh (by rw [← hk]; rfl)
 have H_se : Hid ((f.cells dv rv)[8]? = some (.int .u64 f.se)) := Qh rfl
 have u_se := hwf.se
 simp only [U64] at u_se
 have m_se : f.se ≤ 4611686018427387903 := by obtain ⟨r1, r2, r3, r4, r5, r6, r7, r8, r9⟩ := hri; have := r7 hk; omega
 have H_li : Hid ((f.cells dv rv)[5]? = some (.int .u64 f.li)) := Qh rfl
 have u_li := hwf.li
 simp only [U64] at u_li
 have m_li : f.li ≤ 4611686018427387903 := by obtain ⟨r1, r2, r3, r4, r5, r6, r7, r8, r9⟩ := hri; have := r7 hk; omega
 clear hri
 have hone : oneFM f = varsM [24] ++ (varsM [f.se, f.li] ++ [8] ++ f.cid) := by unfold oneFM bodyM kindM; simp [hk, varsM]
 unfold OneR
 simp only [hone]
 clear hone
 have H_c : Hid ((f.cells dv rv).drop 11 = f.cid.map (Value.int .u8)) := Qh rfl
 have hcl := hwf.cidl; have hcw := hwf.cid
 obtain ⟨cid, hcid⟩ : ∃ y, f.cid = y := ⟨_, rfl⟩
 rw [hcid] at H_c hcl hcw ⊢
 have HCL8 := Qh hcl; have HCW := Qh hcw
 clear hcid hcl hcw
 obtain ⟨RF, hRF⟩ : ∃ R, (f.cells dv rv) = R := ⟨_, rfl⟩
 simp only [hRF] at HRF H0 H_se H_li H_c
 rw [hRF]
 obtain ⟨se, h_se⟩ : ∃ y, f.se = y := ⟨_, rfl⟩
 rw [h_se] at H_se u_se m_se
 try rw [h_se]
 obtain ⟨u1_se, u2_se⟩ := u_se
 clear h_se
 obtain ⟨li, h_li⟩ : ∃ y, f.li = y := ⟨_, rfl⟩
 rw [h_li] at H_li u_li m_li
 try rw [h_li]
 obtain ⟨u1_li, u2_li⟩ := u_li
 clear h_li
 clear hwf h hRF hr hk
 go_enter Try.func19, Try.ntmps19
 go_upto_region 1 with fail
 change Code.wp _ _ _ _ (w.alloc (.cells RF.toArray 39))
 have HB := Qh (Below.refl w.heap.size w)
 have hb := (Below.refl w.heap.size w).alloc (Nat.le_refl _) (.cells RF.toArray 39)
 replace HB := Qh (bl_next HB.out HB.out.size hb)
 have HF := Qh (heap_alloc_new w (.cells RF.toArray 39))
 clear hb
 generalize w.alloc (.cells RF.toArray 39) = w1 at HB HF ⊢
 obtain ⟨gf, hg⟩ : ∃ g, w.heap.size = g := ⟨_, rfl⟩
 rw [hg] at HF ⊢
 clear hg
 have HF0 := HF
 have HBW := HB
 have HBB := Qh (Below.refl w1.heap.size w1)
 have c0 := cell_row HF.out 0 _ H0.out
 have c_se := cell_row HF.out 8 _ H_se.out
 have c_li := cell_row HF.out 5 _ H_li.out
 have hcl := rvars_any (w1.alloc (.cells ([.int .u64 24] : List Value).toArray 34)) none 0 0 [] (some ⟨w1.heap.size, 0, none⟩) 1 1 [24] (IntsK.nil _ _ _) (IntsK.of_row (zs := [24]) (heap_alloc_new _ _) (fun x hx => by simp only [List.mem_cons, List.not_mem_nil, or_false] at hx; subst hx; exact wf_u64r (by omega) (by omega))) (by omega) (fun x hx => by simp only [List.mem_cons, List.not_mem_nil, or_false] at hx; subst hx; omega) (by omega)
 simp only [List.nil_append] at hcl
 have HCL := Qh hcl
 clear hcl
 go_wp2_with fail
 refine Calls.mono HCL.out ?_
 rintro e9 w2 ⟨vw2, rfl, hu⟩
 clear HCL
 have HU := Qh (RwU.from (bl_next HBB.out HBB.out.size ((Below.refl w1.heap.size w1).alloc (Nat.le_refl _) (.cells ([.int .u64 24] : List Value).toArray 34))) hu)
 clear HBB
 clear hu
 clear c0 c_se c_li
 clear HF
 have HF := Qh (HU.out.row HF0.out)
 have c0 := cell_row HF.out 0 _ H0.out
 have c_se := cell_row HF.out 8 _ H_se.out
 have c_li := cell_row HF.out 5 _ H_li.out
 go_upto_region 35 with fail
 clear c0 c_se c_li
 have g0 : ∀ z : In (fun y => y.heap[gf]? = some (.cells RF.toArray 39 (0, 0))), z.w.cell? ⟨gf, 8, none⟩ = some (.int .u64 se) := fun z => cell_row z.h 8 _ H_se.out
 have g1 : ∀ z : In (fun y => y.heap[gf]? = some (.cells RF.toArray 39 (0, 0))), z.w.cell? ⟨gf, 5, none⟩ = some (.int .u64 li) := fun z => cell_row z.h 5 _ H_li.out
 refine wp_plan (.t 0 (.t 1 (.t 2 (.t 3 (.t 4 (.t 9 (.t 10 (.b 5 (.b 6 (.u 7 (.u 8 (.u 11 (.t 12 .done)))) 7 (.u 6 (.u 8 (.u 11 (.t 12 .done))))) 7 (.u 5 (.u 6 (.u 8 (.u 11 (.t 12 .done))))))))))))) (fun y => y.heap[gf]? = some (.cells RF.toArray 39 (0, 0))) (by kernel_rfl) (by kernel_rfl) (by kernel_rfl) (fun c a d v w h => by cases d <;> exact h) HF.out ?_
 have hb := (Below.refl w2.heap.size w2).drew
 replace HU := Qh (HU.out.to hb)
 replace HF := Qh (bl_row hb (lt_of_block HF.out) HF.out)
 clear hb
 generalize w2.drew = w3 at HU HF ⊢
 haveI hne : Nonempty (In (fun y => y.heap[gf]? = some (.cells RF.toArray 39 (0, 0)))) := ⟨⟨w3, HF.out⟩⟩
 repeat (first | (refine plan_t (by rfl) ?_; (first | go_big_quiet_skip | (go_big_quiet_want; go_big_quiet_op; go_big_quiet_on)); refine wpQuiet_nil ?_))
 refine plan_b ?_ ?_
 ·
  refine plan_half (by rfl) (by kernel_rfl) ?_
  intro K hK
  go_wp2_with fail
  have hal := (Below.refl w3.heap.size w3).alloc (Nat.le_refl _) (.cells ([.int .u64 se, .int .u64 li] : List Value).toArray 34)
  have hrow := heap_alloc_new w3 (.cells ([.int .u64 se, .int .u64 li] : List Value).toArray 34)
  replace HU := Qh (HU.out.to hal)
  replace HF := Qh (bl_row hal (lt_of_block HF.out) HF.out)
  refine ⟨HF.out, ?_⟩
  change Plan.wp _ _ _ _ _ _ (w3.alloc (.cells ([.int .u64 se, .int .u64 li] : List Value).toArray 34))
  have HS := Qh hrow
  clear hrow hal
  generalize w3.alloc (.cells ([.int .u64 se, .int .u64 li] : List Value).toArray 34) = w4 at HU HF HS  ⊢
  obtain ⟨gs, hgs⟩ : ∃ g, w3.heap.size = g := ⟨_, rfl⟩
  rw [hgs] at HS ⊢
  clear hgs
  repeat (first | (refine plan_t (by rfl) ?_; (first | go_big_quiet_skip | (go_big_quiet_want; go_big_quiet_op; go_big_quiet_on)); refine wpQuiet_nil ?_))
  refine plan_b ?_ ?_
  ·
   refine plan_half (by rfl) (by kernel_rfl) ?_
   intro K hK
   have hcl := HU.out.vars (Below.refl w4.heap.size w4) [se, li] (some ⟨gs, 0, none⟩) 2 2 (IntsK.of_row (zs := [se, li]) HS.out (fun x hx => by simp only [List.mem_cons, List.not_mem_nil, or_false] at hx; rcases hx with rfl | rfl <;> exact wf_u64r (by omega) (by omega))) (by omega) (fun x hx => by simp only [List.mem_cons, List.not_mem_nil, or_false] at hx; rcases hx with rfl | rfl <;> omega) (by (try simp only [List.length_append, List.length_cons, List.length_nil]); have := varsM_le [24]; simp only [List.length_cons, List.length_nil] at this; omega)
   have HCL := Qh hcl
   clear hcl
   go_wp2_with fail
   refine Calls.mono HCL.out ?_
   rintro e9 w5 ⟨vw5, rfl, hb, hu⟩
   replace HU := Qh hu
   clear hu hb HCL HF
   have HF := Qh (HU.out.row HF0.out)
   go_wp2_with fail
   refine ⟨HF.out, ?_⟩
   repeat (first | (refine plan_t (by rfl) ?_; (first | go_big_quiet_skip | (go_big_quiet_want; go_big_quiet_op; go_big_quiet_on)); refine wpQuiet_nil ?_))
   refine plan_us (by rfl) (by kernel_rfl) ?_
   intro K hK
   go_wp2_with fail
   have hal := (Below.refl w5.heap.size w5).alloc (Nat.le_refl _) (.cells ([.int .u8 8] : List Value).toArray 5)
   have hrow := heap_alloc_new w5 (.cells ([.int .u8 8] : List Value).toArray 5)
   replace HU := Qh (HU.out.to hal)
   replace HF := Qh (bl_row hal (lt_of_block HF.out) HF.out)
   refine ⟨HF.out, ?_⟩
   change Plan.wp _ _ _ _ _ _ (w5.alloc (.cells ([.int .u8 8] : List Value).toArray 5))
   have H8 := Qh hrow
   clear hrow hal
   generalize w5.alloc (.cells ([.int .u8 8] : List Value).toArray 5) = w6 at HU HF H8  ⊢
   obtain ⟨g8, hgs⟩ : ∃ g, w5.heap.size = g := ⟨_, rfl⟩
   rw [hgs] at H8 ⊢
   clear hgs
   repeat (first | (refine plan_t (by rfl) ?_; (first | go_big_quiet_skip | (go_big_quiet_want; go_big_quiet_op; go_big_quiet_on)); refine wpQuiet_nil ?_))
   have h8 : IntsK .u8 w6 (some ⟨g8, 0, none⟩) 1 [8] := IntsK.of_row (zs := [8]) H8.out (fun x hx => by simp only [List.mem_cons, List.not_mem_nil, or_false] at hx; subst hx; rfl)
   have hsz := HU.out.1.size
   have hl9 : (varsM [24] ++ varsM [se, li]).length + 9 ≤ 140737488355328 := by rw [List.length_append]; have := varsM_le [(24 : Int)]; have := varsM_le [se, li]; simp only [List.length_cons, List.length_nil] at *; omega
   have HL9 := Qh hl9
   obtain ⟨bv, cv, hv9, _, _⟩ := sl_own HU.out.2.1
   subst hv9
   refine plan_us (by rfl) (by kernel_rfl) ?_
   intro K hK
   refine wp_append_bytes_at _ _ rfl w1.heap.size _ _ _ rfl HU.out.2.1 (some ⟨g8, 0, none⟩) 1 1 [8] rfl h8 (by omega) hsz ?_
   intro vw7 w7 hown hgrow _
   replace HU := Qh (HU.out.app (xs := [8]) hgrow hown (fun x hx => by simp only [List.mem_cons, List.not_mem_nil, or_false] at hx; subst hx; rfl))
   clear hown hgrow h8 hsz HF hl9
   have HF := Qh (HU.out.row HF0.out)
   refine hK _ _ ⟨HF.out, ?_⟩
   clear hK K
   simp only [Act.put, List.setIfInBounds_toArray, List.set_cons_succ, List.set_cons_zero]
   repeat (first | (refine plan_t (by rfl) ?_; (first | go_big_quiet_skip | (go_big_quiet_want; go_big_quiet_op; go_big_quiet_on)); refine wpQuiet_nil ?_))
   have HIC := Qh (ints_cid HF.out H_c.out HCL8.out HCW.out)
   have hsz := HU.out.1.size
   obtain ⟨bv2, cv2, hv9, _, _⟩ := sl_own HU.out.2.1
   subst hv9
   refine plan_us (by rfl) (by kernel_rfl) ?_
   intro K hK
   refine wp_append_bytes_at _ _ rfl w1.heap.size _ _ _ rfl HU.out.2.1 (some ⟨gf, 11, none⟩) 8 8 cid rfl HIC.out (by have := HL9.out; simp only [List.length_append, List.length_cons, List.length_nil] at *; omega) hsz ?_
   intro vw8 w8 hown hgrow _
   replace HU := Qh (HU.out.app (xs := cid) hgrow (by rw [HCL8.out]; exact hown) HCW.out)
   clear hown hgrow hsz HF HIC
   have HF := Qh (HU.out.row HF0.out)
   refine hK _ _ ⟨HF.out, ?_⟩
   clear hK K
   simp only [Act.put, List.setIfInBounds_toArray, List.set_cons_succ, List.set_cons_zero]
   repeat (first | (refine plan_t (by rfl) ?_; (first | go_big_quiet_skip | (go_big_quiet_want; go_big_quiet_op; go_big_quiet_on)); refine wpQuiet_nil ?_))
   clear hne g0 g1
   show Exit.inBlock _ _ _ _ _
   simp only [Exit.inBlock]
   go_wp2_with fail
   (try simp only [Exit.inBlock, Exit.then])
   go_ret
   exact ⟨_, rfl, by have h9 := RwU.from HBW.out HU.out; first | exact h9 | simpa only [List.append_assoc] using h9⟩
  ·
   refine plan_half (by rfl) (by kernel_rfl) ?_
   intro K hK
   go_wp2_with fail
   have hal := (Below.refl w4.heap.size w4).alloc (Nat.le_refl _) (.cells ([.int .u8 8] : List Value).toArray 5)
   have hrow := heap_alloc_new w4 (.cells ([.int .u8 8] : List Value).toArray 5)
   replace HU := Qh (HU.out.to hal)
   replace HF := Qh (bl_row hal (lt_of_block HF.out) HF.out)
   replace HS := Qh (bl_row hal (lt_of_block HS.out) HS.out)
   refine ⟨HF.out, ?_⟩
   change Plan.wp _ _ _ _ _ _ (w4.alloc (.cells ([.int .u8 8] : List Value).toArray 5))
   have H8 := Qh hrow
   clear hrow hal
   generalize w4.alloc (.cells ([.int .u8 8] : List Value).toArray 5) = w9 at HU HF H8 HS ⊢
   obtain ⟨g8, hgs⟩ : ∃ g, w4.heap.size = g := ⟨_, rfl⟩
   rw [hgs] at H8 ⊢
   clear hgs
   repeat (first | (refine plan_t (by rfl) ?_; (first | go_big_quiet_skip | (go_big_quiet_want; go_big_quiet_op; go_big_quiet_on)); refine wpQuiet_nil ?_))
   refine plan_us (by rfl) (by kernel_rfl) ?_
   intro K hK
   have hcl := HU.out.vars (Below.refl w9.heap.size w9) [se, li] (some ⟨gs, 0, none⟩) 2 2 (IntsK.of_row (zs := [se, li]) HS.out (fun x hx => by simp only [List.mem_cons, List.not_mem_nil, or_false] at hx; rcases hx with rfl | rfl <;> exact wf_u64r (by omega) (by omega))) (by omega) (fun x hx => by simp only [List.mem_cons, List.not_mem_nil, or_false] at hx; rcases hx with rfl | rfl <;> omega) (by (try simp only [List.length_append, List.length_cons, List.length_nil]); have := varsM_le [24]; simp only [List.length_cons, List.length_nil] at this; omega)
   have HCL := Qh hcl
   clear hcl
   go_wp2_with fail
   refine Calls.mono HCL.out ?_
   rintro e9 w10 ⟨vw10, rfl, hb, hu⟩
   replace H8 := Qh (bl_row hb (lt_of_block H8.out) H8.out)
   replace HU := Qh hu
   clear hu hb HCL HF
   have HF := Qh (HU.out.row HF0.out)
   go_wp2_with fail
   refine ⟨HF.out, ?_⟩
   repeat (first | (refine plan_t (by rfl) ?_; (first | go_big_quiet_skip | (go_big_quiet_want; go_big_quiet_op; go_big_quiet_on)); refine wpQuiet_nil ?_))
   have h8 : IntsK .u8 w10 (some ⟨g8, 0, none⟩) 1 [8] := IntsK.of_row (zs := [8]) H8.out (fun x hx => by simp only [List.mem_cons, List.not_mem_nil, or_false] at hx; subst hx; rfl)
   have hsz := HU.out.1.size
   have hl9 : (varsM [24] ++ varsM [se, li]).length + 9 ≤ 140737488355328 := by rw [List.length_append]; have := varsM_le [(24 : Int)]; have := varsM_le [se, li]; simp only [List.length_cons, List.length_nil] at *; omega
   have HL9 := Qh hl9
   obtain ⟨bv, cv, hv9, _, _⟩ := sl_own HU.out.2.1
   subst hv9
   refine plan_us (by rfl) (by kernel_rfl) ?_
   intro K hK
   refine wp_append_bytes_at _ _ rfl w1.heap.size _ _ _ rfl HU.out.2.1 (some ⟨g8, 0, none⟩) 1 1 [8] rfl h8 (by omega) hsz ?_
   intro vw11 w11 hown hgrow _
   replace HU := Qh (HU.out.app (xs := [8]) hgrow hown (fun x hx => by simp only [List.mem_cons, List.not_mem_nil, or_false] at hx; subst hx; rfl))
   clear hown hgrow h8 hsz HF hl9
   have HF := Qh (HU.out.row HF0.out)
   refine hK _ _ ⟨HF.out, ?_⟩
   clear hK K
   simp only [Act.put, List.setIfInBounds_toArray, List.set_cons_succ, List.set_cons_zero]
   repeat (first | (refine plan_t (by rfl) ?_; (first | go_big_quiet_skip | (go_big_quiet_want; go_big_quiet_op; go_big_quiet_on)); refine wpQuiet_nil ?_))
   have HIC := Qh (ints_cid HF.out H_c.out HCL8.out HCW.out)
   have hsz := HU.out.1.size
   obtain ⟨bv2, cv2, hv9, _, _⟩ := sl_own HU.out.2.1
   subst hv9
   refine plan_us (by rfl) (by kernel_rfl) ?_
   intro K hK
   refine wp_append_bytes_at _ _ rfl w1.heap.size _ _ _ rfl HU.out.2.1 (some ⟨gf, 11, none⟩) 8 8 cid rfl HIC.out (by have := HL9.out; simp only [List.length_append, List.length_cons, List.length_nil] at *; omega) hsz ?_
   intro vw12 w12 hown hgrow _
   replace HU := Qh (HU.out.app (xs := cid) hgrow (by rw [HCL8.out]; exact hown) HCW.out)
   clear hown hgrow hsz HF HIC
   have HF := Qh (HU.out.row HF0.out)
   refine hK _ _ ⟨HF.out, ?_⟩
   clear hK K
   simp only [Act.put, List.setIfInBounds_toArray, List.set_cons_succ, List.set_cons_zero]
   repeat (first | (refine plan_t (by rfl) ?_; (first | go_big_quiet_skip | (go_big_quiet_want; go_big_quiet_op; go_big_quiet_on)); refine wpQuiet_nil ?_))
   clear hne g0 g1
   show Exit.inBlock _ _ _ _ _
   simp only [Exit.inBlock]
   go_wp2_with fail
   (try simp only [Exit.inBlock, Exit.then])
   go_ret
   exact ⟨_, rfl, by have h9 := RwU.from HBW.out HU.out; first | exact h9 | simpa only [List.append_assoc] using h9⟩
 ·
  refine plan_half (by rfl) (by kernel_rfl) ?_
  intro K hK
  go_wp2_with fail
  have hal := (Below.refl w3.heap.size w3).alloc (Nat.le_refl _) (.cells ([.int .u8 8] : List Value).toArray 5)
  have hrow := heap_alloc_new w3 (.cells ([.int .u8 8] : List Value).toArray 5)
  replace HU := Qh (HU.out.to hal)
  replace HF := Qh (bl_row hal (lt_of_block HF.out) HF.out)
  refine ⟨HF.out, ?_⟩
  change Plan.wp _ _ _ _ _ _ (w3.alloc (.cells ([.int .u8 8] : List Value).toArray 5))
  have H8 := Qh hrow
  clear hrow hal
  generalize w3.alloc (.cells ([.int .u8 8] : List Value).toArray 5) = w13 at HU HF H8  ⊢
  obtain ⟨g8, hgs⟩ : ∃ g, w3.heap.size = g := ⟨_, rfl⟩
  rw [hgs] at H8 ⊢
  clear hgs
  repeat (first | (refine plan_t (by rfl) ?_; (first | go_big_quiet_skip | (go_big_quiet_want; go_big_quiet_op; go_big_quiet_on)); refine wpQuiet_nil ?_))
  refine plan_us (by rfl) (by kernel_rfl) ?_
  intro K hK
  go_wp2_with fail
  have hal := (Below.refl w13.heap.size w13).alloc (Nat.le_refl _) (.cells ([.int .u64 se, .int .u64 li] : List Value).toArray 34)
  have hrow := heap_alloc_new w13 (.cells ([.int .u64 se, .int .u64 li] : List Value).toArray 34)
  replace HU := Qh (HU.out.to hal)
  replace HF := Qh (bl_row hal (lt_of_block HF.out) HF.out)
  replace H8 := Qh (bl_row hal (lt_of_block H8.out) H8.out)
  refine ⟨HF.out, ?_⟩
  change Plan.wp _ _ _ _ _ _ (w13.alloc (.cells ([.int .u64 se, .int .u64 li] : List Value).toArray 34))
  have HS := Qh hrow
  clear hrow hal
  generalize w13.alloc (.cells ([.int .u64 se, .int .u64 li] : List Value).toArray 34) = w14 at HU HF HS H8 ⊢
  obtain ⟨gs, hgs⟩ : ∃ g, w13.heap.size = g := ⟨_, rfl⟩
  rw [hgs] at HS ⊢
  clear hgs
  repeat (first | (refine plan_t (by rfl) ?_; (first | go_big_quiet_skip | (go_big_quiet_want; go_big_quiet_op; go_big_quiet_on)); refine wpQuiet_nil ?_))
  refine plan_us (by rfl) (by kernel_rfl) ?_
  intro K hK
  have hcl := HU.out.vars (Below.refl w14.heap.size w14) [se, li] (some ⟨gs, 0, none⟩) 2 2 (IntsK.of_row (zs := [se, li]) HS.out (fun x hx => by simp only [List.mem_cons, List.not_mem_nil, or_false] at hx; rcases hx with rfl | rfl <;> exact wf_u64r (by omega) (by omega))) (by omega) (fun x hx => by simp only [List.mem_cons, List.not_mem_nil, or_false] at hx; rcases hx with rfl | rfl <;> omega) (by (try simp only [List.length_append, List.length_cons, List.length_nil]); have := varsM_le [24]; simp only [List.length_cons, List.length_nil] at this; omega)
  have HCL := Qh hcl
  clear hcl
  go_wp2_with fail
  refine Calls.mono HCL.out ?_
  rintro e9 w15 ⟨vw15, rfl, hb, hu⟩
  replace H8 := Qh (bl_row hb (lt_of_block H8.out) H8.out)
  replace HU := Qh hu
  clear hu hb HCL HF
  have HF := Qh (HU.out.row HF0.out)
  go_wp2_with fail
  refine ⟨HF.out, ?_⟩
  repeat (first | (refine plan_t (by rfl) ?_; (first | go_big_quiet_skip | (go_big_quiet_want; go_big_quiet_op; go_big_quiet_on)); refine wpQuiet_nil ?_))
  have h8 : IntsK .u8 w15 (some ⟨g8, 0, none⟩) 1 [8] := IntsK.of_row (zs := [8]) H8.out (fun x hx => by simp only [List.mem_cons, List.not_mem_nil, or_false] at hx; subst hx; rfl)
  have hsz := HU.out.1.size
  have hl9 : (varsM [24] ++ varsM [se, li]).length + 9 ≤ 140737488355328 := by rw [List.length_append]; have := varsM_le [(24 : Int)]; have := varsM_le [se, li]; simp only [List.length_cons, List.length_nil] at *; omega
  have HL9 := Qh hl9
  obtain ⟨bv, cv, hv9, _, _⟩ := sl_own HU.out.2.1
  subst hv9
  refine plan_us (by rfl) (by kernel_rfl) ?_
  intro K hK
  refine wp_append_bytes_at _ _ rfl w1.heap.size _ _ _ rfl HU.out.2.1 (some ⟨g8, 0, none⟩) 1 1 [8] rfl h8 (by omega) hsz ?_
  intro vw16 w16 hown hgrow _
  replace HU := Qh (HU.out.app (xs := [8]) hgrow hown (fun x hx => by simp only [List.mem_cons, List.not_mem_nil, or_false] at hx; subst hx; rfl))
  clear hown hgrow h8 hsz HF hl9
  have HF := Qh (HU.out.row HF0.out)
  refine hK _ _ ⟨HF.out, ?_⟩
  clear hK K
  simp only [Act.put, List.setIfInBounds_toArray, List.set_cons_succ, List.set_cons_zero]
  repeat (first | (refine plan_t (by rfl) ?_; (first | go_big_quiet_skip | (go_big_quiet_want; go_big_quiet_op; go_big_quiet_on)); refine wpQuiet_nil ?_))
  have HIC := Qh (ints_cid HF.out H_c.out HCL8.out HCW.out)
  have hsz := HU.out.1.size
  obtain ⟨bv2, cv2, hv9, _, _⟩ := sl_own HU.out.2.1
  subst hv9
  refine plan_us (by rfl) (by kernel_rfl) ?_
  intro K hK
  refine wp_append_bytes_at _ _ rfl w1.heap.size _ _ _ rfl HU.out.2.1 (some ⟨gf, 11, none⟩) 8 8 cid rfl HIC.out (by have := HL9.out; simp only [List.length_append, List.length_cons, List.length_nil] at *; omega) hsz ?_
  intro vw17 w17 hown hgrow _
  replace HU := Qh (HU.out.app (xs := cid) hgrow (by rw [HCL8.out]; exact hown) HCW.out)
  clear hown hgrow hsz HF HIC
  have HF := Qh (HU.out.row HF0.out)
  refine hK _ _ ⟨HF.out, ?_⟩
  clear hK K
  simp only [Act.put, List.setIfInBounds_toArray, List.set_cons_succ, List.set_cons_zero]
  repeat (first | (refine plan_t (by rfl) ?_; (first | go_big_quiet_skip | (go_big_quiet_want; go_big_quiet_op; go_big_quiet_on)); refine wpQuiet_nil ?_))
  clear hne g0 g1
  show Exit.inBlock _ _ _ _ _
  simp only [Exit.inBlock]
  go_wp2_with fail
  (try simp only [Exit.inBlock, Exit.then])
  go_ret
  exact ⟨_, rfl, by have h9 := RwU.from HBW.out HU.out; first | exact h9 | simpa only [List.append_assoc] using h9⟩
theorem one4_25 (w : World) (f : Fr) (dv rv : Value) (h : FrAt w f dv rv) (hk : f.kind = 25) (hr : rightB f = true) :
  Calls Try.prog 19 #[.agg (f.cells dv rv).toArray] w fun e w' => OneR w f e w' := by
 have hwf := h.wf
 have hri := right_in hr
 have HRF : Hid ((f.cells dv rv).length = 19) := Qh (Fr.len hwf)
 have H0 : Hid ((f.cells dv rv)[0]? = some (.int .i64 25)) := Qh (by rw [← hk]; rfl)
 have H_se : Hid ((f.cells dv rv)[8]? = some (.int .u64 f.se)) := Qh rfl
 have u_se := hwf.se
 simp only [U64] at u_se
 have m_se : f.se ≤ 4611686018427387903 := by obtain ⟨r1, r2, r3, r4, r5, r6, r7, r8, r9⟩ := hri; have := r8 hk; omega
 clear hri
 have hone : oneFM f = varsM [25] ++ (varsM [f.se]) := by unfold oneFM bodyM kindM; simp [hk, varsM]
 unfold OneR
 simp only [hone]
 clear hone
 obtain ⟨RF, hRF⟩ : ∃ R, (f.cells dv rv) = R := ⟨_, rfl⟩
 simp only [hRF] at HRF H0 H_se
 rw [hRF]
 obtain ⟨se, h_se⟩ : ∃ y, f.se = y := ⟨_, rfl⟩
 rw [h_se] at H_se u_se m_se
 try rw [h_se]
 obtain ⟨u1_se, u2_se⟩ := u_se
 clear h_se
 clear hwf h hRF hr hk
 go_enter Try.func19, Try.ntmps19
 go_upto_region 1 with fail
 change Code.wp _ _ _ _ (w.alloc (.cells RF.toArray 39))
 have HB := Qh (Below.refl w.heap.size w)
 have hb := (Below.refl w.heap.size w).alloc (Nat.le_refl _) (.cells RF.toArray 39)
 replace HB := Qh (bl_next HB.out HB.out.size hb)
 have HF := Qh (heap_alloc_new w (.cells RF.toArray 39))
 clear hb
 generalize w.alloc (.cells RF.toArray 39) = w1 at HB HF ⊢
 obtain ⟨gf, hg⟩ : ∃ g, w.heap.size = g := ⟨_, rfl⟩
 rw [hg] at HF ⊢
 clear hg
 have HF0 := HF
 have HBW := HB
 have HBB := Qh (Below.refl w1.heap.size w1)
 have c0 := cell_row HF.out 0 _ H0.out
 have c_se := cell_row HF.out 8 _ H_se.out
 have hcl := rvars_any (w1.alloc (.cells ([.int .u64 25] : List Value).toArray 34)) none 0 0 [] (some ⟨w1.heap.size, 0, none⟩) 1 1 [25] (IntsK.nil _ _ _) (IntsK.of_row (zs := [25]) (heap_alloc_new _ _) (fun x hx => by simp only [List.mem_cons, List.not_mem_nil, or_false] at hx; subst hx; exact wf_u64r (by omega) (by omega))) (by omega) (fun x hx => by simp only [List.mem_cons, List.not_mem_nil, or_false] at hx; subst hx; omega) (by omega)
 simp only [List.nil_append] at hcl
 have HCL := Qh hcl
 clear hcl
 go_wp2_with fail
 refine Calls.mono HCL.out ?_
 rintro e9 w2 ⟨vw2, rfl, hu⟩
 clear HCL
 have HU := Qh (RwU.from (bl_next HBB.out HBB.out.size ((Below.refl w1.heap.size w1).alloc (Nat.le_refl _) (.cells ([.int .u64 25] : List Value).toArray 34))) hu)
 clear HBB
 clear hu
 clear c0 c_se
 clear HF
 have HF := Qh (HU.out.row HF0.out)
 have c0 := cell_row HF.out 0 _ H0.out
 have c_se := cell_row HF.out 8 _ H_se.out
 have hcl := HU.out.vars ((Below.refl w2.heap.size w2).alloc (Nat.le_refl _) (.cells ([.int .u64 se] : List Value).toArray 34)) [se] (some ⟨w2.heap.size, 0, none⟩) 1 1 (IntsK.of_row (zs := [se]) (heap_alloc_new _ _) (fun x hx => by simp only [List.mem_cons, List.not_mem_nil, or_false] at hx; subst hx; exact wf_u64r (by omega) (by omega))) (by omega) (fun x hx => by simp only [List.mem_cons, List.not_mem_nil, or_false] at hx; subst hx; omega) (by (try simp only [List.length_append, List.length_cons, List.length_nil]); have := varsM_le [25]; simp only [List.length_cons, List.length_nil] at this; omega)
 have HCL := Qh hcl
 clear hcl
 go_wp2_with fail
 refine Calls.mono HCL.out ?_
 rintro e9 w3 ⟨vw3, rfl, _, hu⟩
 clear HCL
 replace HU := Qh hu
 clear hu
 clear c0 c_se
 clear HF
 have HF := Qh (HU.out.row HF0.out)
 have c0 := cell_row HF.out 0 _ H0.out
 have c_se := cell_row HF.out 8 _ H_se.out
 go_wp2_with fail
 (try simp only [Exit.inBlock, Exit.then])
 go_ret
 exact ⟨_, rfl, by have h9 := RwU.from HBW.out HU.out; first | exact h9 | simpa only [List.append_assoc] using h9⟩
theorem one4_26 (w : World) (f : Fr) (dv rv : Value) (h : FrAt w f dv rv) (hk : f.kind = 26) (hr : rightB f = true) :
  Calls Try.prog 19 #[.agg (f.cells dv rv).toArray] w fun e w' => OneR w f e w' := by
 have hwf := h.wf
 have hri := right_in hr
 have HRF : Hid ((f.cells dv rv).length = 19) := Qh (Fr.len hwf)
 have H0 : Hid ((f.cells dv rv)[0]? = some (.int .i64 26)) := Qh (by rw [← hk]; rfl)
 clear hri
 have hone : oneFM f = varsM [26] ++ (f.cid) := by unfold oneFM bodyM kindM; simp [hk, varsM]
 unfold OneR
 simp only [hone]
 clear hone
 have H_c : Hid ((f.cells dv rv).drop 11 = f.cid.map (Value.int .u8)) := Qh rfl
 have hcl := hwf.cidl; have hcw := hwf.cid
 obtain ⟨cid, hcid⟩ : ∃ y, f.cid = y := ⟨_, rfl⟩
 rw [hcid] at H_c hcl hcw ⊢
 have HCL8 := Qh hcl; have HCW := Qh hcw
 clear hcid hcl hcw
 obtain ⟨RF, hRF⟩ : ∃ R, (f.cells dv rv) = R := ⟨_, rfl⟩
 simp only [hRF] at HRF H0 H_c
 rw [hRF]
 clear hwf h hRF hr hk
 go_enter Try.func19, Try.ntmps19
 go_upto_region 1 with fail
 change Code.wp _ _ _ _ (w.alloc (.cells RF.toArray 39))
 have HB := Qh (Below.refl w.heap.size w)
 have hb := (Below.refl w.heap.size w).alloc (Nat.le_refl _) (.cells RF.toArray 39)
 replace HB := Qh (bl_next HB.out HB.out.size hb)
 have HF := Qh (heap_alloc_new w (.cells RF.toArray 39))
 clear hb
 generalize w.alloc (.cells RF.toArray 39) = w1 at HB HF ⊢
 obtain ⟨gf, hg⟩ : ∃ g, w.heap.size = g := ⟨_, rfl⟩
 rw [hg] at HF ⊢
 clear hg
 have HF0 := HF
 have HBW := HB
 have HBB := Qh (Below.refl w1.heap.size w1)
 have c0 := cell_row HF.out 0 _ H0.out
 have hcl := rvars_any (w1.alloc (.cells ([.int .u64 26] : List Value).toArray 34)) none 0 0 [] (some ⟨w1.heap.size, 0, none⟩) 1 1 [26] (IntsK.nil _ _ _) (IntsK.of_row (zs := [26]) (heap_alloc_new _ _) (fun x hx => by simp only [List.mem_cons, List.not_mem_nil, or_false] at hx; subst hx; exact wf_u64r (by omega) (by omega))) (by omega) (fun x hx => by simp only [List.mem_cons, List.not_mem_nil, or_false] at hx; subst hx; omega) (by omega)
 simp only [List.nil_append] at hcl
 have HCL := Qh hcl
 clear hcl
 go_wp2_with fail
 refine Calls.mono HCL.out ?_
 rintro e9 w2 ⟨vw2, rfl, hu⟩
 clear HCL
 have HU := Qh (RwU.from (bl_next HBB.out HBB.out.size ((Below.refl w1.heap.size w1).alloc (Nat.le_refl _) (.cells ([.int .u64 26] : List Value).toArray 34))) hu)
 clear HBB
 clear hu
 clear c0
 clear HF
 have HF := Qh (HU.out.row HF0.out)
 have c0 := cell_row HF.out 0 _ H0.out
 have HIC := Qh (ints_cid HF.out H_c.out HCL8.out HCW.out)
 have HSZ := Qh HU.out.1.size
 have HO := Qh HU.out.2.1
 obtain ⟨bv, cv, rfl, _, _⟩ := sl_own HO.out
 have hl9 : (varsM [26]).length + 8 ≤ 140737488355328 := by have := varsM_le [(26 : Int)]; simp only [List.length_cons, List.length_nil] at this; omega
 go_wp2_with (first | (at_builtin; refine wpList_append_bytes rfl _ _ rfl w1.heap.size _ _ _ rfl HO.out (some ⟨gf, 11, none⟩) 8 8 cid rfl HIC.out hl9 HSZ.out ?_; intro v9 w3 hown hgrow; have HU2 := Qh (HU.out.app (xs := cid) hgrow (by rw [HCL8.out]; exact hown) HCW.out); clear hown hgrow) | fail)
 replace HU := HU2
 (try simp only [Exit.inBlock, Exit.then])
 go_ret
 exact ⟨_, rfl, by have h9 := RwU.from HBW.out HU.out; first | exact h9 | simpa only [List.append_assoc] using h9⟩
theorem one4_27 (w : World) (f : Fr) (dv rv : Value) (h : FrAt w f dv rv) (hk : f.kind = 27) (hr : rightB f = true) :
  Calls Try.prog 19 #[.agg (f.cells dv rv).toArray] w fun e w' => OneR w f e w' := by
 have hwf := h.wf
 have hri := right_in hr
 have HRF : Hid ((f.cells dv rv).length = 19) := Qh (Fr.len hwf)
 have H0 : Hid ((f.cells dv rv)[0]? = some (.int .i64 27)) := Qh (by rw [← hk]; rfl)
 clear hri
 have hone : oneFM f = varsM [27] ++ (f.cid) := by unfold oneFM bodyM kindM; simp [hk, varsM]
 unfold OneR
 simp only [hone]
 clear hone
 have H_c : Hid ((f.cells dv rv).drop 11 = f.cid.map (Value.int .u8)) := Qh rfl
 have hcl := hwf.cidl; have hcw := hwf.cid
 obtain ⟨cid, hcid⟩ : ∃ y, f.cid = y := ⟨_, rfl⟩
 rw [hcid] at H_c hcl hcw ⊢
 have HCL8 := Qh hcl; have HCW := Qh hcw
 clear hcid hcl hcw
 obtain ⟨RF, hRF⟩ : ∃ R, (f.cells dv rv) = R := ⟨_, rfl⟩
 simp only [hRF] at HRF H0 H_c
 rw [hRF]
 clear hwf h hRF hr hk
 go_enter Try.func19, Try.ntmps19
 go_upto_region 1 with fail
 change Code.wp _ _ _ _ (w.alloc (.cells RF.toArray 39))
 have HB := Qh (Below.refl w.heap.size w)
 have hb := (Below.refl w.heap.size w).alloc (Nat.le_refl _) (.cells RF.toArray 39)
 replace HB := Qh (bl_next HB.out HB.out.size hb)
 have HF := Qh (heap_alloc_new w (.cells RF.toArray 39))
 clear hb
 generalize w.alloc (.cells RF.toArray 39) = w1 at HB HF ⊢
 obtain ⟨gf, hg⟩ : ∃ g, w.heap.size = g := ⟨_, rfl⟩
 rw [hg] at HF ⊢
 clear hg
 have HF0 := HF
 have HBW := HB
 have HBB := Qh (Below.refl w1.heap.size w1)
 have c0 := cell_row HF.out 0 _ H0.out
 have hcl := rvars_any (w1.alloc (.cells ([.int .u64 27] : List Value).toArray 34)) none 0 0 [] (some ⟨w1.heap.size, 0, none⟩) 1 1 [27] (IntsK.nil _ _ _) (IntsK.of_row (zs := [27]) (heap_alloc_new _ _) (fun x hx => by simp only [List.mem_cons, List.not_mem_nil, or_false] at hx; subst hx; exact wf_u64r (by omega) (by omega))) (by omega) (fun x hx => by simp only [List.mem_cons, List.not_mem_nil, or_false] at hx; subst hx; omega) (by omega)
 simp only [List.nil_append] at hcl
 have HCL := Qh hcl
 clear hcl
 go_wp2_with fail
 refine Calls.mono HCL.out ?_
 rintro e9 w2 ⟨vw2, rfl, hu⟩
 clear HCL
 have HU := Qh (RwU.from (bl_next HBB.out HBB.out.size ((Below.refl w1.heap.size w1).alloc (Nat.le_refl _) (.cells ([.int .u64 27] : List Value).toArray 34))) hu)
 clear HBB
 clear hu
 clear c0
 clear HF
 have HF := Qh (HU.out.row HF0.out)
 have c0 := cell_row HF.out 0 _ H0.out
 have HIC := Qh (ints_cid HF.out H_c.out HCL8.out HCW.out)
 have HSZ := Qh HU.out.1.size
 have HO := Qh HU.out.2.1
 obtain ⟨bv, cv, rfl, _, _⟩ := sl_own HO.out
 have hl9 : (varsM [27]).length + 8 ≤ 140737488355328 := by have := varsM_le [(27 : Int)]; simp only [List.length_cons, List.length_nil] at this; omega
 go_wp2_with (first | (at_builtin; refine wpList_append_bytes rfl _ _ rfl w1.heap.size _ _ _ rfl HO.out (some ⟨gf, 11, none⟩) 8 8 cid rfl HIC.out hl9 HSZ.out ?_; intro v9 w3 hown hgrow; have HU2 := Qh (HU.out.app (xs := cid) hgrow (by rw [HCL8.out]; exact hown) HCW.out); clear hown hgrow) | fail)
 replace HU := HU2
 (try simp only [Exit.inBlock, Exit.then])
 go_ret
 exact ⟨_, rfl, by have h9 := RwU.from HBW.out HU.out; first | exact h9 | simpa only [List.append_assoc] using h9⟩
theorem one4_28 (w : World) (f : Fr) (dv rv : Value) (h : FrAt w f dv rv) (hk : f.kind = 28) (hr : rightB f = true) :
  Calls Try.prog 19 #[.agg (f.cells dv rv).toArray] w fun e w' => OneR w f e w' := by
 have hwf := h.wf
 have hri := right_in hr
 obtain ⟨da, dn, dc, rfl, hd1, hd2, hd⟩ := h.d
 have hdn : f.data.length = dn := hd.1
 have hdl : dn ≤ 512 := by rw [← hdn]; exact right_data hr (by omega)
 have HD := Qh hd
 have HRF : Hid ((f.cells (.slice da dn dc) rv).length = 19) := Qh (Fr.len hwf)
 have H0 : Hid ((f.cells (.slice da dn dc) rv)[0]? = some (.int .i64 28)) := Qh (by rw [← hk]; rfl)
 have H_co : Hid ((f.cells (.slice da dn dc) rv)[6]? = some (.int .u64 f.co)) := Qh rfl
 have u_co := hwf.co
 simp only [U64] at u_co
 have m_co : f.co ≤ 4611686018427387903 := by obtain ⟨r1, r2, r3, r4, r5, r6, r7, r8, r9⟩ := hri; have := r9 hk; omega
 clear hri
 have hone : oneFM f = varsM [28] ++ (varsM [f.co] ++ textB f.data) := by unfold oneFM bodyM kindM; simp [hk, varsM]
 unfold OneR
 simp only [hone]
 clear hone
 have H_d : Hid ((f.cells (.slice da dn dc) rv)[3]? = some (.slice da dn dc)) := Qh rfl
 obtain ⟨data, hdata⟩ : ∃ y, f.data = y := ⟨_, rfl⟩
 rw [hdata] at HD hdn ⊢
 clear hdata hd
 obtain ⟨RF, hRF⟩ : ∃ R, (f.cells (.slice da dn dc) rv) = R := ⟨_, rfl⟩
 simp only [hRF] at HRF H0 H_co H_d
 rw [hRF]
 obtain ⟨co, h_co⟩ : ∃ y, f.co = y := ⟨_, rfl⟩
 rw [h_co] at H_co u_co m_co
 try rw [h_co]
 obtain ⟨u1_co, u2_co⟩ := u_co
 clear h_co
 clear hwf h hRF hr hk
 go_enter Try.func19, Try.ntmps19
 go_upto_region 1 with fail
 change Code.wp _ _ _ _ (w.alloc (.cells RF.toArray 39))
 have HB := Qh (Below.refl w.heap.size w)
 have hb := (Below.refl w.heap.size w).alloc (Nat.le_refl _) (.cells RF.toArray 39)
 replace HB := Qh (bl_next HB.out HB.out.size hb)
 replace HD := Qh (HD.out.below hb)
 have HF := Qh (heap_alloc_new w (.cells RF.toArray 39))
 clear hb
 generalize w.alloc (.cells RF.toArray 39) = w1 at HB HD HF ⊢
 obtain ⟨gf, hg⟩ : ∃ g, w.heap.size = g := ⟨_, rfl⟩
 rw [hg] at HF ⊢
 clear hg
 have HF0 := HF
 have HBW := HB
 have HBB := Qh (Below.refl w1.heap.size w1)
 have HD0 := HD
 have c0 := cell_row HF.out 0 _ H0.out
 have c_co := cell_row HF.out 6 _ H_co.out
 have c_d := cell_row HF.out 3 _ H_d.out
 have hcl := rvars_any (w1.alloc (.cells ([.int .u64 28] : List Value).toArray 34)) none 0 0 [] (some ⟨w1.heap.size, 0, none⟩) 1 1 [28] (IntsK.nil _ _ _) (IntsK.of_row (zs := [28]) (heap_alloc_new _ _) (fun x hx => by simp only [List.mem_cons, List.not_mem_nil, or_false] at hx; subst hx; exact wf_u64r (by omega) (by omega))) (by omega) (fun x hx => by simp only [List.mem_cons, List.not_mem_nil, or_false] at hx; subst hx; omega) (by omega)
 simp only [List.nil_append] at hcl
 have HCL := Qh hcl
 clear hcl
 go_wp2_with fail
 refine Calls.mono HCL.out ?_
 rintro e9 w2 ⟨vw2, rfl, hu⟩
 clear HCL
 have HU := Qh (RwU.from (bl_next HBB.out HBB.out.size ((Below.refl w1.heap.size w1).alloc (Nat.le_refl _) (.cells ([.int .u64 28] : List Value).toArray 34))) hu)
 clear HBB
 clear hu
 clear c0 c_co c_d
 clear HF
 have HF := Qh (HU.out.row HF0.out)
 have c0 := cell_row HF.out 0 _ H0.out
 have c_co := cell_row HF.out 6 _ H_co.out
 have c_d := cell_row HF.out 3 _ H_d.out
 go_upto_region 42 with fail
 clear c0 c_co c_d
 have g0 : ∀ z : In (fun y => y.heap[gf]? = some (.cells RF.toArray 39 (0, 0))), z.w.cell? ⟨gf, 6, none⟩ = some (.int .u64 co) := fun z => cell_row z.h 6 _ H_co.out
 have g1 : ∀ z : In (fun y => y.heap[gf]? = some (.cells RF.toArray 39 (0, 0))), z.w.cell? ⟨gf, 3, none⟩ = some (.slice da dn dc) := fun z => cell_row z.h 3 _ H_d.out
 refine wp_plan (.t 0 (.t 1 (.t 2 (.t 5 (.t 6 (.u 3 (.u 4 (.u 7 (.t 8 .done))))))))) (fun y => y.heap[gf]? = some (.cells RF.toArray 39 (0, 0))) (by kernel_rfl) (by kernel_rfl) (by kernel_rfl) (fun c a d v w h => by cases d <;> exact h) HF.out ?_
 have hb := (Below.refl w2.heap.size w2).drew
 replace HU := Qh (HU.out.to hb)
 replace HF := Qh (bl_row hb (lt_of_block HF.out) HF.out)
 clear hb
 generalize w2.drew = w3 at HU HF ⊢
 haveI hne : Nonempty (In (fun y => y.heap[gf]? = some (.cells RF.toArray 39 (0, 0)))) := ⟨⟨w3, HF.out⟩⟩
 repeat (first | (refine plan_t (by rfl) ?_; (first | go_big_quiet_skip | (go_big_quiet_want; go_big_quiet_op; go_big_quiet_on)); refine wpQuiet_nil ?_))
 refine plan_us (by rfl) (by kernel_rfl) ?_
 intro K hK
 go_wp2_with fail
 have hal := (Below.refl w3.heap.size w3).alloc (Nat.le_refl _) (.cells ([.int .u64 co] : List Value).toArray 34)
 have hrow := heap_alloc_new w3 (.cells ([.int .u64 co] : List Value).toArray 34)
 replace HU := Qh (HU.out.to hal)
 replace HF := Qh (bl_row hal (lt_of_block HF.out) HF.out)
 refine ⟨HF.out, ?_⟩
 change Plan.wp _ _ _ _ _ _ (w3.alloc (.cells ([.int .u64 co] : List Value).toArray 34))
 generalize w3.alloc (.cells ([.int .u64 co] : List Value).toArray 34) = w4 at HU HF hrow ⊢
 clear hal
 obtain ⟨gs, hgs⟩ : ∃ g, w3.heap.size = g := ⟨_, rfl⟩
 rw [hgs] at hrow ⊢
 clear hgs
 repeat (first | (refine plan_t (by rfl) ?_; (first | go_big_quiet_skip | (go_big_quiet_want; go_big_quiet_op; go_big_quiet_on)); refine wpQuiet_nil ?_))
 have hcl := HU.out.vars (Below.refl w4.heap.size w4) [co] (some ⟨gs, 0, none⟩) 1 1 (IntsK.of_row (zs := [co]) hrow (fun x hx => by simp only [List.mem_cons, List.not_mem_nil, or_false] at hx; subst hx; exact wf_u64r (by omega) (by omega))) (by omega) (fun x hx => by simp only [List.mem_cons, List.not_mem_nil, or_false] at hx; subst hx; omega) (by (try simp only [List.length_append, List.length_cons, List.length_nil]); have := varsM_le [28]; simp only [List.length_cons, List.length_nil] at this; omega)
 have HCL := Qh hcl
 clear hcl hrow
 refine plan_us (by rfl) (by kernel_rfl) ?_
 intro K2 hK2
 go_wp2_with fail
 refine Calls.mono HCL.out ?_
 rintro e9 w5 ⟨vw5, rfl, _, hu⟩
 replace HU := Qh hu
 clear hu HCL HF
 have HF := Qh (HU.out.row HF0.out)
 go_wp2_with fail
 refine ⟨HF.out, ?_⟩
 repeat (first | (refine plan_t (by rfl) ?_; (first | go_big_quiet_skip | (go_big_quiet_want; go_big_quiet_op; go_big_quiet_on)); refine wpQuiet_nil ?_))
 have hcl := HU.out.text (Below.refl w5.heap.size w5) da dn dc data (HD0.out.below HU.out.1) (by (try simp only [List.length_append, List.length_cons, List.length_nil]); have := varsM_le [28]; simp only [List.length_cons, List.length_nil] at this; have := varsM_le [co]; simp only [List.length_cons, List.length_nil] at this; omega)
 have HCL := Qh hcl
 clear hcl
 refine plan_us (by rfl) (by kernel_rfl) ?_
 intro K3 hK3
 go_wp2_with fail
 refine Calls.mono HCL.out ?_
 rintro e9 w6 ⟨vw6, rfl, _, hu⟩
 replace HU := Qh hu
 clear hu HCL HF
 have HF := Qh (HU.out.row HF0.out)
 go_wp2_with fail
 refine ⟨HF.out, ?_⟩
 repeat (first | (refine plan_t (by rfl) ?_; (first | go_big_quiet_skip | (go_big_quiet_want; go_big_quiet_op; go_big_quiet_on)); refine wpQuiet_nil ?_))
 clear hne g0 g1
 show Exit.inBlock _ _ _ _ _
 simp only [Exit.inBlock]
 go_wp2_with fail
 (try simp only [Exit.inBlock, Exit.then])
 go_ret
 exact ⟨_, rfl, by have h9 := RwU.from HBW.out HU.out; first | exact h9 | simpa only [List.append_assoc] using h9⟩
end Go.Proofs.Ytmbjepcbokbemaa
