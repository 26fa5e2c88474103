/- texts of the proof, laid together: FrmV. -/
import Derived.Test.YtmbjepcbokbemaaU10
set_option linter.unusedVariables false
set_option linter.unusedSimpArgs false
set_option maxRecDepth 100000
set_option maxHeartbeats 16000000
namespace Go.Proofs.Ytmbjepcbokbemaa
open Go.RowKit
theorem rgclone_any (w : World) (a : Option Addr) (n c : Nat) (rs : List (Int × Int)) (hn : n ≤ 1000000) (hR : rgK.At w a n rs) :
  Calls Try.prog 48 #[.slice a n c] w fun e w' => ∃ v, e = .returned v ∧ Below w.heap.size w w' ∧ w'.ownsRow w.heap.size 71 2 v n (rgK.flat rs) := by
 have HI := Qh hR; clear hR
 cases a with
 | none =>
  have hl : n = 0 := by
   rcases HI.out.2.2 with h | ⟨b, off, h, _⟩
   ·
    exact h
   ·
    cases h
  subst hl
  obtain rfl : rs = [] := List.eq_nil_of_length_eq_zero HI.out.1.symm
  go_enter Try.func48, Try.ntmps48
  have hq : (binOp .eql 35 (.slice none 0 c) (.slice none 0 0)).run Try.prog w = .ok (.bool true) w := by kernel_rfl
  go_wp2_with fail
  go_ret
  exact ⟨_, rfl, Below.refl _ _, World.ownsRow_nil _ _ _ _⟩
 | some ad =>
  have hq : (binOp .eql 35 (.slice (some ad) n c) (.slice none 0 0)).run Try.prog w = .ok (.bool false) w := by kernel_rfl
  have hal := (Below.refl w.heap.size w).alloc (Nat.le_refl _) (.cells #[] 71)
  have HE : Hid ((w.alloc (.cells #[] 71)).ownsRow w.heap.size 71 2 (.slice (some ⟨w.heap.size, 0, none⟩) 0 0) 0 (rgK.flat ([] : List (Int × Int)))) := Qh ⟨rfl, .inr ⟨_, 0, #[], rfl, Nat.le_refl _, heap_alloc_new w _, Nat.le_refl _, by unfold maxLen; omega, rfl, rfl⟩⟩
  have HI2 : Hid (rgK.At (w.alloc (.cells #[] 71)) (some ad) n rs) := Qh (HI.out.below hal)
  have HSZ : Hid (w.heap.size ≤ (w.alloc (.cells #[] 71)).heap.size) := Qh hal.size
  have hn0 : 0 + n ≤ 1000000 := by omega
  have HAL := Qh hal
  clear hal
  go_enter Try.func48, Try.ntmps48
  go_wp2_with (first | (at_builtin; refine wpList_append_rk rgT rfl _ _ rfl w.heap.size 0 (.slice (some ⟨w.heap.size, 0, none⟩) 0 0) [] rfl HE.out (some ad) n c rs rfl HI2.out hn0 HSZ.out ?_; intro v1 w1 hown1 hgrow1 hor; have HO := Qh hown1; have HL := Qh (HAL.out.grown hgrow1 HAL.out.size (by intro k hk; simp [Value.ownBlock] at hk; omega)); clear hown1 hgrow1 hor) | fail)
  go_ret
  exact ⟨_, rfl, HL.out, by have h9 := HO.out; rw [Nat.zero_add, List.nil_append] at h9; exact h9⟩
theorem own_lower {w : World} {B B' e s n : Nat} {v : Value} {xs : List Value} (h : w.ownsRow B' e s v n xs) (hB : B ≤ B') : w.ownsRow B e s v n xs := by
 refine ⟨h.1, ?_⟩
 rcases h.2 with h1 | ⟨g, cap, cur, h1, h2, h3⟩
 ·
  exact .inl h1
 ·
  exact .inr ⟨g, cap, cur, h1, Nat.le_trans hB h2, h3⟩
theorem FrLo.rgs {B n c : Nat} {a : Option Addr} (h : ∀ x, a = some x → B ≤ x.block) : FrLo B (.slice none 0 0) (.slice a n c) := ⟨fun a n c h => (by injection h with h; cases h), fun x m k e => by injection e with e; exact h x e⟩
theorem copy4_2 (w : World) (f : Fr) (dv rv : Value) (h : FrAt w f dv rv) (hk : f.kind = 2) (hrl : f.rg.length ≤ 1000000) :
  Calls Try.prog 25 #[.agg (f.cells dv rv).toArray] w fun e w' => ∃ dv' rv', e = .returned (.agg ((nrmF f).cells dv' rv').toArray) ∧ FrAt w' (nrmF f) dv' rv' ∧ FrLo w.heap.size dv' rv' ∧ Below w.heap.size w w' ∧ ∃ n, w'.ownsRow w.heap.size 5 1 dv' n ((nrmF f).data.map (Value.int .u8)) := by
 have hq : nrmF f = ({ zeroF 2 with rg := f.rg, de := f.de } : Fr) := by unfold nrmF; simp [hk]
 rw [hq]
 clear hq
 have hwf := h.wf
 obtain ⟨ra, rn, rc, rfl, hr1, hr2, hr⟩ := h.r
 have hrn : f.rg.length = rn := hr.1.symm
 rw [hrn] at hrl
 have HD := Qh hr
 clear hr hrn
 have H_kind : Hid ((f.cells dv (.slice ra rn rc))[0]? = some (.int .i64 2)) := Qh (by rw [← hk]; rfl)
 have H_de : Hid ((f.cells dv (.slice ra rn rc))[9]? = some (.int .u64 f.de)) := Qh rfl
 have H_rg : Hid ((f.cells dv (.slice ra rn rc))[10]? = some (.slice ra rn rc)) := Qh rfl
 have HRF : Hid ((f.cells dv (.slice ra rn rc)).length = 19) := Qh (Fr.len hwf)
 obtain ⟨RF, hRF⟩ : ∃ R, (f.cells dv (.slice ra rn rc)) = R := ⟨_, rfl⟩
 simp only [hRF] at HRF H_kind H_rg H_de
 rw [hRF]
 have HWF := Qh hwf
 clear hwf h hRF hk
 go_enter Try.func25, Try.ntmps25
 go_upto_region 1 with fail
 change Code.wp _ _ _ _ ((w.alloc (.cells RF.toArray 39)).alloc (.cells ([.int .i64 0, .int .u64 0, .int .u64 0, .slice none 0 0, .bool false, .int .u64 0, .int .u64 0, .int .u64 0, .int .u64 0, .int .u64 0, .slice none 0 0, .int .u8 0, .int .u8 0, .int .u8 0, .int .u8 0, .int .u8 0, .int .u8 0, .int .u8 0, .int .u8 0] : List Value).toArray 39))
 have HB := Qh (Below.refl w.heap.size w)
 obtain ⟨gf, hg0⟩ : ∃ g, w.heap.size = g := ⟨_, rfl⟩
 try rw [hg0]
 have hb := (Below.refl w.heap.size w).alloc (Nat.le_refl _) (.cells RF.toArray 39)
 have hrw := heap_alloc_new w (.cells RF.toArray 39)
 have hsz : (w.alloc (.cells RF.toArray 39)).heap.size = gf + 1 := by simp [hg0]
 rw [hg0] at hrw
 replace HB := Qh (bl_next HB.out HB.out.size hb)
 replace HD := Qh (HD.out.below hb)
 have HF := Qh hrw
 clear hb hrw
 generalize w.alloc (.cells RF.toArray 39) = w1 at HB HD HF hsz ⊢
 have hg1 := hsz
 clear hsz
 have HG0 := Qh hg0
 clear hg0
 have hb := (Below.refl w1.heap.size w1).alloc (Nat.le_refl _) (.cells ([.int .i64 0, .int .u64 0, .int .u64 0, .slice none 0 0, .bool false, .int .u64 0, .int .u64 0, .int .u64 0, .int .u64 0, .int .u64 0, .slice none 0 0, .int .u8 0, .int .u8 0, .int .u8 0, .int .u8 0, .int .u8 0, .int .u8 0, .int .u8 0, .int .u8 0] : List Value).toArray 39)
 have hrw := heap_alloc_new w1 (.cells ([.int .i64 0, .int .u64 0, .int .u64 0, .slice none 0 0, .bool false, .int .u64 0, .int .u64 0, .int .u64 0, .int .u64 0, .int .u64 0, .slice none 0 0, .int .u8 0, .int .u8 0, .int .u8 0, .int .u8 0, .int .u8 0, .int .u8 0, .int .u8 0, .int .u8 0] : List Value).toArray 39)
 have hsz : (w1.alloc (.cells ([.int .i64 0, .int .u64 0, .int .u64 0, .slice none 0 0, .bool false, .int .u64 0, .int .u64 0, .int .u64 0, .int .u64 0, .int .u64 0, .slice none 0 0, .int .u8 0, .int .u8 0, .int .u8 0, .int .u8 0, .int .u8 0, .int .u8 0, .int .u8 0, .int .u8 0] : List Value).toArray 39)).heap.size = gf + 1 + 1 := by simp [hg1]
 rw [hg1] at hrw
 replace HB := Qh (bl_next HB.out HB.out.size hb)
 replace HD := Qh (HD.out.below hb)
 replace HF := Qh (bl_row hb (lt_of_block HF.out) HF.out)
 have HZ := Qh hrw
 clear hb hrw
 generalize w1.alloc (.cells ([.int .i64 0, .int .u64 0, .int .u64 0, .slice none 0 0, .bool false, .int .u64 0, .int .u64 0, .int .u64 0, .int .u64 0, .int .u64 0, .slice none 0 0, .int .u8 0, .int .u8 0, .int .u8 0, .int .u8 0, .int .u8 0, .int .u8 0, .int .u8 0, .int .u8 0] : List Value).toArray 39) = w2 at HB HD HF HZ hsz ⊢
 have hg2 := hsz
 clear hsz
 clear hg1
 obtain ⟨gz, hgg⟩ : ∃ g, gf + 1 = g := ⟨_, rfl⟩
 rw [hgg] at HZ hg2 ⊢
 have HLTgz : Hid (gf < gz) := Qh (by omega)
 clear hgg
 clear hg2
 have c0 := cell_row HF.out 0 _ H_kind.out
 go_upto_region 2 with (first | (refine wpList_store_row rfl 39 _ _ rfl _ rfl [.int .i64 2, .int .u64 0, .int .u64 0, .slice none 0 0, .bool false, .int .u64 0, .int .u64 0, .int .u64 0, .int .u64 0, .int .u64 0, .slice none 0 0, .int .u8 0, .int .u8 0, .int .u8 0, .int .u8 0, .int .u8 0, .int .u8 0, .int .u8 0, .int .u8 0] ([.int .i64 0, .int .u64 0, .int .u64 0, .slice none 0 0, .bool false, .int .u64 0, .int .u64 0, .int .u64 0, .int .u64 0, .int .u64 0, .slice none 0 0, .int .u8 0, .int .u8 0, .int .u8 0, .int .u8 0, .int .u8 0, .int .u8 0, .int .u8 0, .int .u8 0] : List Value) rfl 39 (heap_alloc_new _ _) rfl rfl (one19 rfl rfl) ?_; intro w9 hr hg) | fail)
 clear c0
 have hal := (Below.refl w2.heap.size w2).alloc (Nat.le_refl _) (.cells ([.int .i64 0, .int .u64 0, .int .u64 0, .slice none 0 0, .bool false, .int .u64 0, .int .u64 0, .int .u64 0, .int .u64 0, .int .u64 0, .slice none 0 0, .int .u8 0, .int .u8 0, .int .u8 0, .int .u8 0, .int .u8 0, .int .u8 0, .int .u8 0, .int .u8 0] : List Value).toArray 39)
 have hb : Below w2.heap.size w2 w9 := hal.grown hg hal.size (by intro k hk; injection hk with hk; omega)
 have hfl := lt_of_block HF.out
 have hzl := lt_of_block HZ.out
 replace HB := Qh (bl_next HB.out HB.out.size hb)
 replace HD := Qh (HD.out.below hb)
 replace HF := Qh (bl_row hb (lt_of_block HF.out) HF.out)
 replace HZ := Qh (bl_row hb (lt_of_block HZ.out) HZ.out)
 have HO : Hid (w9.heap[w2.heap.size]? = some (.cells ((zeroF 2).cells (.slice none 0 0) (.slice none 0 0)).toArray 39 (0, 0))) := Qh hr
 clear hr hg hal hb
 obtain ⟨go, hgo⟩ : ∃ g, w2.heap.size = g := ⟨_, rfl⟩
 rw [hgo] at HO hfl hzl ⊢
 have hgl : w.heap.size ≤ go := by have := HG0.out; omega
 have hzw : w.heap.size ≤ gz := by have := HG0.out; have := HLTgz.out; omega
 clear hgo
 have c0 := cell_row HF.out 0 _ H_kind.out
 go_upto_region 4 with fail
 clear c0
 have g0 : ∀ z : In (fun y => y.heap[gf]? = some (.cells RF.toArray 39 (0, 0))), z.w.cell? ⟨gf, 10, none⟩ = some (.slice ra rn rc) := fun z => cell_row z.h 10 _ H_rg.out
 have g1 : ∀ z : In (fun y => y.heap[gf]? = some (.cells RF.toArray 39 (0, 0))), z.w.cell? ⟨gf, 9, none⟩ = some (.int .u64 f.de) := fun z => cell_row z.h 9 _ H_de.out
 refine wp_plan (.t 0 (.t 1 (.t 3 (.t 4 (.u 2 (.t 5 (.u 6 (.t 7 (.u 8 .done))))))))) (fun y => y.heap[gf]? = some (.cells RF.toArray 39 (0, 0))) (by kernel_rfl) (by kernel_rfl) (by kernel_rfl) (fun c a d v w h => by cases d <;> exact h) HF.out ?_
 have hb := (Below.refl w9.heap.size w9).drew
 replace HB := Qh (bl_next HB.out HB.out.size hb)
 replace HZ := Qh (bl_row hb (lt_of_block HZ.out) HZ.out)
 replace HO := Qh (bl_row hb (lt_of_block HO.out) HO.out)
 replace HF := Qh (bl_row hb (lt_of_block HF.out) HF.out)
 replace HD := Qh (HD.out.below hb)
 clear hb
 generalize w9.drew = w10 at HB HZ HO HF HD ⊢
 haveI hne : Nonempty (In (fun y => y.heap[gf]? = some (.cells RF.toArray 39 (0, 0)))) := ⟨⟨w10, HF.out⟩⟩
 repeat (first | (refine plan_t (by rfl) ?_; (first | go_big_quiet_skip | (go_big_quiet_want; go_big_quiet_op; go_big_quiet_on)); refine wpQuiet_nil ?_))
 refine plan_us (by rfl) (by kernel_rfl) ?_
 intro K hK
 go_wp2_with fail
 refine Calls.mono (rgclone_any w10 ra rn rc f.rg hrl HD.out) ?_
 rintro e w11 ⟨v, rfl, hb, ho⟩
 have hlo : ∀ x, v.ownBlock = some x → w10.heap.size ≤ x := own_base ho
 have hgc : go < w10.heap.size := lt_of_block HO.out
 obtain ⟨va, vc, rfl, hv1, hv2⟩ := sl_own ho
 have HNI := Qh (RK.At.of_own (K := rgK) ho HD.out.2.1)
 have HVL : Hid (∀ x, va = some x → w.heap.size ≤ x.block ∧ go < x.block) := Qh (fun x hx => by have := hlo x.block (by rw [hx]; rfl); have := HB.out.size; omega)
 have HVC := Qh (And.intro hv1 hv2)
 replace HB := Qh (bl_next HB.out HB.out.size hb)
 replace HZ := Qh (bl_row hb (lt_of_block HZ.out) HZ.out)
 replace HO := Qh (bl_row hb (lt_of_block HO.out) HO.out)
 replace HF := Qh (bl_row hb (lt_of_block HF.out) HF.out)
 replace HD := Qh (HD.out.below hb)
 clear hb ho hlo hgc hv1 hv2
 go_wp2_with fail
 refine ⟨HF.out, ?_⟩
 repeat (first | (refine plan_t (by rfl) ?_; (first | go_big_quiet_skip | (go_big_quiet_want; go_big_quiet_op; go_big_quiet_on)); refine wpQuiet_nil ?_))
 refine plan_us (by rfl) (by kernel_rfl) ?_
 intro K hK
 have c2 := row_cell HO.out 10 _ rfl
 have f2 := row_free HO.out 10
 go_wp2_with fail
 clear c2 f2
 have hat := ((At.base HO.out).set 10 (.slice va rn vc)).conv (cs' := (({ zeroF 2 with rg := f.rg } : Fr).cells (.slice none 0 0) (.slice va rn vc)).toArray) (by rfl)
 have HN := Qh hat.row; have HG9 := Qh hat.rest
 clear hat
 have HF9 := Qh (grown_row HG9.out (by intro e; injection e with e; omega) HF.out)
 refine ⟨HF9.out, ?_⟩
 generalize w11.setCell ⟨go, 10, none⟩ (.slice va rn vc) = w12 at HN HG9 HF9 ⊢
 replace HF := HF9; replace HO := HN
 replace HZ := Qh (grown_row HG9.out (by intro e; injection e with e; omega) HZ.out)
 replace HB := Qh (HB.out.grown HG9.out HB.out.size (by intro k hk; injection hk with hk; omega))
 replace HNI := Qh (HNI.out.grown HG9.out (fun x hx e => by injection e with e; have := HVL.out x hx; omega))
 clear HG9 HF9 HN
 repeat (first | (refine plan_t (by rfl) ?_; (first | go_big_quiet_skip | (go_big_quiet_want; go_big_quiet_op; go_big_quiet_on)); refine wpQuiet_nil ?_))
 refine plan_us (by rfl) (by kernel_rfl) ?_
 intro K hK
 have c2 := row_cell HO.out 9 _ rfl
 have f2 := row_free HO.out 9
 go_wp2_with fail
 clear c2 f2
 have hat := ((At.base HO.out).set 9 (.int .u64 f.de)).conv (cs' := (({ zeroF 2 with rg := f.rg, de := f.de } : Fr).cells (.slice none 0 0) (.slice va rn vc)).toArray) (by rfl)
 have HN := Qh hat.row; have HG9 := Qh hat.rest
 clear hat
 have HF9 := Qh (grown_row HG9.out (by intro e; injection e with e; omega) HF.out)
 refine ⟨HF9.out, ?_⟩
 generalize w12.setCell ⟨go, 9, none⟩ (.int .u64 f.de) = w13 at HN HG9 HF9 ⊢
 replace HF := HF9; replace HO := HN
 replace HZ := Qh (grown_row HG9.out (by intro e; injection e with e; omega) HZ.out)
 replace HB := Qh (HB.out.grown HG9.out HB.out.size (by intro k hk; injection hk with hk; omega))
 replace HNI := Qh (HNI.out.grown HG9.out (fun x hx e => by injection e with e; have := HVL.out x hx; omega))
 clear HG9 HF9 HN
 repeat (first | (refine plan_t (by rfl) ?_; (first | go_big_quiet_skip | (go_big_quiet_want; go_big_quiet_op; go_big_quiet_on)); refine wpQuiet_nil ?_))
 clear hne g0 g1
 show Exit.inBlock _ _ _ _ _
 simp only [Exit.inBlock]
 have HL9 : Hid ((({ zeroF 2 with rg := f.rg, de := f.de } : Fr).cells (.slice none 0 0) (.slice va rn vc)).length = 19) := Qh rfl
 have hz := zero_wf 2 (by omega)
 have hwf : ({ zeroF 2 with rg := f.rg, de := f.de } : Fr).Wf := ⟨hz.kind, hz.st, hz.of_, hz.li, hz.co, hz.fi, hz.se, HWF.out.de, hz.cidl, hz.cid⟩
 have HW9 := Qh hwf
 clear hz hwf
 have HON : Hid (∀ v ∈ ({ zeroF 2 with rg := f.rg, de := f.de } : Fr).cells (.slice none 0 0) (.slice va rn vc), v.oneCell' = true) := Qh (fun v hv => by simp only [Fr.cells, List.mem_append, List.mem_cons, List.not_mem_nil, or_false, List.mem_map] at hv; rcases hv with hv | ⟨_, _, rfl⟩; rcases hv with rfl | rfl | rfl | rfl | rfl | rfl | rfl | rfl | rfl | rfl | rfl <;> rfl; rfl)
 obtain ⟨RX, hRX⟩ : ∃ R, ({ zeroF 2 with rg := f.rg, de := f.de } : Fr).cells (.slice none 0 0) (.slice va rn vc) = R := ⟨_, rfl⟩
 have HRX := Qh hRX
 have HO9 := HO
 have hrow9 : w13.heap[go]? = some (.cells RX.toArray 39 (0, 0)) := by rw [← hRX]; exact HO.out
 replace HO := Qh hrow9
 rw [hRX] at HON HL9
 clear hRX hrow9 HO9
 go_wp2_with (first | (refine wpList_load_mid rfl 39 _ rfl go 0 rfl RX _ (rngL HO.out) Try.underlying39 rfl (by rw [HL9.out]; rfl) ?_) | (refine wpList_store_row rfl 39 _ _ rfl gz rfl RX ([.int .i64 0, .int .u64 0, .int .u64 0, .slice none 0 0, .bool false, .int .u64 0, .int .u64 0, .int .u64 0, .int .u64 0, .int .u64 0, .slice none 0 0, .int .u8 0, .int .u8 0, .int .u8 0, .int .u8 0, .int .u8 0, .int .u8 0, .int .u8 0, .int .u8 0] : List Value) rfl 39 HZ.out (by rw [HL9.out]; rfl) (by rw [HL9.out]; rfl) HON.out ?_; intro wz hz hgz; have HZ10 := Qh hz; have HGZ := Qh hgz; clear hz hgz) | fail)
 (try simp only [Exit.inBlock, Exit.then])
 refine bodyPost_ret (results_cell1 rfl _ _ gz rfl RX _ _ HZ10.out Try.underlying39 rfl (by rw [HL9.out]; rfl)) rfl ?_
 exact ⟨(.slice none 0 0), (.slice va rn vc), by rw [HRX.out], ⟨HW9.out, ⟨none, 0, 0, rfl, Nat.le_refl _, by omega, IntsK.nil _ _ _⟩, ⟨va, rn, vc, rfl, HVC.out.1, HVC.out.2, HNI.out.grown HGZ.out (fun x hx e => by injection e with e; have := HVL.out x hx; omega)⟩⟩, (FrLo.rgs (fun x hx => (HVL.out x hx).1)), HB.out.grown HGZ.out HB.out.size (by intro k hk; injection hk with hk; omega), 0, World.ownsRow_nil _ _ _ _⟩
theorem copy4_4 (w : World) (f : Fr) (dv rv : Value) (h : FrAt w f dv rv) (hk : f.kind = 4) :
  Calls Try.prog 25 #[.agg (f.cells dv rv).toArray] w fun e w' => ∃ dv' rv', e = .returned (.agg ((nrmF f).cells dv' rv').toArray) ∧ FrAt w' (nrmF f) dv' rv' ∧ FrLo w.heap.size dv' rv' ∧ Below w.heap.size w w' ∧ ∃ n, w'.ownsRow w.heap.size 5 1 dv' n ((nrmF f).data.map (Value.int .u8)) := by
 have hq : nrmF f = ({ zeroF 4 with st := f.st, co := f.co, fi := f.fi } : Fr) := by unfold nrmF; simp [hk]
 rw [hq]
 clear hq
 have hwf := h.wf
 have H_kind : Hid ((f.cells dv rv)[0]? = some (.int .i64 4)) := Qh (by rw [← hk]; rfl)
 have H_st : Hid ((f.cells dv rv)[1]? = some (.int .u64 f.st)) := Qh rfl
 have H_co : Hid ((f.cells dv rv)[6]? = some (.int .u64 f.co)) := Qh rfl
 have H_fi : Hid ((f.cells dv rv)[7]? = some (.int .u64 f.fi)) := Qh rfl
 have HRF : Hid ((f.cells dv rv).length = 19) := Qh (Fr.len hwf)
 obtain ⟨RF, hRF⟩ : ∃ R, (f.cells dv rv) = R := ⟨_, rfl⟩
 simp only [hRF] at HRF H_kind H_st H_co H_fi
 rw [hRF]
 have HWF := Qh hwf
 clear hwf h hRF hk
 go_enter Try.func25, Try.ntmps25
 go_upto_region 1 with fail
 change Code.wp _ _ _ _ ((w.alloc (.cells RF.toArray 39)).alloc (.cells ([.int .i64 0, .int .u64 0, .int .u64 0, .slice none 0 0, .bool false, .int .u64 0, .int .u64 0, .int .u64 0, .int .u64 0, .int .u64 0, .slice none 0 0, .int .u8 0, .int .u8 0, .int .u8 0, .int .u8 0, .int .u8 0, .int .u8 0, .int .u8 0, .int .u8 0] : List Value).toArray 39))
 have HB := Qh (Below.refl w.heap.size w)
 obtain ⟨gf, hg0⟩ : ∃ g, w.heap.size = g := ⟨_, rfl⟩
 try rw [hg0]
 have hb := (Below.refl w.heap.size w).alloc (Nat.le_refl _) (.cells RF.toArray 39)
 have hrw := heap_alloc_new w (.cells RF.toArray 39)
 have hsz : (w.alloc (.cells RF.toArray 39)).heap.size = gf + 1 := by simp [hg0]
 rw [hg0] at hrw
 replace HB := Qh (bl_next HB.out HB.out.size hb)
 have HF := Qh hrw
 clear hb hrw
 generalize w.alloc (.cells RF.toArray 39) = w1 at HB HF hsz ⊢
 have hg1 := hsz
 clear hsz
 have HG0 := Qh hg0
 clear hg0
 have hb := (Below.refl w1.heap.size w1).alloc (Nat.le_refl _) (.cells ([.int .i64 0, .int .u64 0, .int .u64 0, .slice none 0 0, .bool false, .int .u64 0, .int .u64 0, .int .u64 0, .int .u64 0, .int .u64 0, .slice none 0 0, .int .u8 0, .int .u8 0, .int .u8 0, .int .u8 0, .int .u8 0, .int .u8 0, .int .u8 0, .int .u8 0] : List Value).toArray 39)
 have hrw := heap_alloc_new w1 (.cells ([.int .i64 0, .int .u64 0, .int .u64 0, .slice none 0 0, .bool false, .int .u64 0, .int .u64 0, .int .u64 0, .int .u64 0, .int .u64 0, .slice none 0 0, .int .u8 0, .int .u8 0, .int .u8 0, .int .u8 0, .int .u8 0, .int .u8 0, .int .u8 0, .int .u8 0] : List Value).toArray 39)
 have hsz : (w1.alloc (.cells ([.int .i64 0, .int .u64 0, .int .u64 0, .slice none 0 0, .bool false, .int .u64 0, .int .u64 0, .int .u64 0, .int .u64 0, .int .u64 0, .slice none 0 0, .int .u8 0, .int .u8 0, .int .u8 0, .int .u8 0, .int .u8 0, .int .u8 0, .int .u8 0, .int .u8 0] : List Value).toArray 39)).heap.size = gf + 1 + 1 := by simp [hg1]
 rw [hg1] at hrw
 replace HB := Qh (bl_next HB.out HB.out.size hb)
 replace HF := Qh (bl_row hb (lt_of_block HF.out) HF.out)
 have HZ := Qh hrw
 clear hb hrw
 generalize w1.alloc (.cells ([.int .i64 0, .int .u64 0, .int .u64 0, .slice none 0 0, .bool false, .int .u64 0, .int .u64 0, .int .u64 0, .int .u64 0, .int .u64 0, .slice none 0 0, .int .u8 0, .int .u8 0, .int .u8 0, .int .u8 0, .int .u8 0, .int .u8 0, .int .u8 0, .int .u8 0] : List Value).toArray 39) = w2 at HB HF HZ hsz ⊢
 have hg2 := hsz
 clear hsz
 clear hg1
 obtain ⟨gz, hgg⟩ : ∃ g, gf + 1 = g := ⟨_, rfl⟩
 rw [hgg] at HZ hg2 ⊢
 have HLTgz : Hid (gf < gz) := Qh (by omega)
 clear hgg
 clear hg2
 have c0 := cell_row HF.out 0 _ H_kind.out
 go_upto_region 2 with (first | (refine wpList_store_row rfl 39 _ _ rfl _ rfl [.int .i64 4, .int .u64 0, .int .u64 0, .slice none 0 0, .bool false, .int .u64 0, .int .u64 0, .int .u64 0, .int .u64 0, .int .u64 0, .slice none 0 0, .int .u8 0, .int .u8 0, .int .u8 0, .int .u8 0, .int .u8 0, .int .u8 0, .int .u8 0, .int .u8 0] ([.int .i64 0, .int .u64 0, .int .u64 0, .slice none 0 0, .bool false, .int .u64 0, .int .u64 0, .int .u64 0, .int .u64 0, .int .u64 0, .slice none 0 0, .int .u8 0, .int .u8 0, .int .u8 0, .int .u8 0, .int .u8 0, .int .u8 0, .int .u8 0, .int .u8 0] : List Value) rfl 39 (heap_alloc_new _ _) rfl rfl (one19 rfl rfl) ?_; intro w9 hr hg) | fail)
 clear c0
 have hal := (Below.refl w2.heap.size w2).alloc (Nat.le_refl _) (.cells ([.int .i64 0, .int .u64 0, .int .u64 0, .slice none 0 0, .bool false, .int .u64 0, .int .u64 0, .int .u64 0, .int .u64 0, .int .u64 0, .slice none 0 0, .int .u8 0, .int .u8 0, .int .u8 0, .int .u8 0, .int .u8 0, .int .u8 0, .int .u8 0, .int .u8 0] : List Value).toArray 39)
 have hb : Below w2.heap.size w2 w9 := hal.grown hg hal.size (by intro k hk; injection hk with hk; omega)
 have hfl := lt_of_block HF.out
 have hzl := lt_of_block HZ.out
 replace HB := Qh (bl_next HB.out HB.out.size hb)
 replace HF := Qh (bl_row hb (lt_of_block HF.out) HF.out)
 replace HZ := Qh (bl_row hb (lt_of_block HZ.out) HZ.out)
 have HO : Hid (w9.heap[w2.heap.size]? = some (.cells ((zeroF 4).cells (.slice none 0 0) (.slice none 0 0)).toArray 39 (0, 0))) := Qh hr
 clear hr hg hal hb
 obtain ⟨go, hgo⟩ : ∃ g, w2.heap.size = g := ⟨_, rfl⟩
 rw [hgo] at HO hfl hzl ⊢
 have hgl : w.heap.size ≤ go := by have := HG0.out; omega
 have hzw : w.heap.size ≤ gz := by have := HG0.out; have := HLTgz.out; omega
 clear hgo
 have c0 := cell_row HF.out 0 _ H_kind.out
 go_upto_region 6 with fail
 clear c0
 have g0 : ∀ z : In (fun y => y.heap[gf]? = some (.cells RF.toArray 39 (0, 0))), z.w.cell? ⟨gf, 1, none⟩ = some (.int .u64 f.st) := fun z => cell_row z.h 1 _ H_st.out
 have g1 : ∀ z : In (fun y => y.heap[gf]? = some (.cells RF.toArray 39 (0, 0))), z.w.cell? ⟨gf, 6, none⟩ = some (.int .u64 f.co) := fun z => cell_row z.h 6 _ H_co.out
 have g2 : ∀ z : In (fun y => y.heap[gf]? = some (.cells RF.toArray 39 (0, 0))), z.w.cell? ⟨gf, 7, none⟩ = some (.int .u64 f.fi) := fun z => cell_row z.h 7 _ H_fi.out
 refine wp_plan (.t 0 (.t 1 (.t 2 (.t 3 (.t 4 (.t 5 (.t 6 (.u 7 (.t 8 (.u 9 (.t 10 (.u 11 .done)))))))))))) (fun y => y.heap[gf]? = some (.cells RF.toArray 39 (0, 0))) (by kernel_rfl) (by kernel_rfl) (by kernel_rfl) (fun c a d v w h => by cases d <;> exact h) HF.out ?_
 have hb := (Below.refl w9.heap.size w9).drew
 replace HB := Qh (bl_next HB.out HB.out.size hb)
 replace HZ := Qh (bl_row hb (lt_of_block HZ.out) HZ.out)
 replace HO := Qh (bl_row hb (lt_of_block HO.out) HO.out)
 replace HF := Qh (bl_row hb (lt_of_block HF.out) HF.out)
 clear hb
 generalize w9.drew = w10 at HB HZ HO HF ⊢
 haveI hne : Nonempty (In (fun y => y.heap[gf]? = some (.cells RF.toArray 39 (0, 0)))) := ⟨⟨w10, HF.out⟩⟩
 repeat (first | (refine plan_t (by rfl) ?_; (first | go_big_quiet_skip | (go_big_quiet_want; go_big_quiet_op; go_big_quiet_on)); refine wpQuiet_nil ?_))
 refine plan_us (by rfl) (by kernel_rfl) ?_
 intro K hK
 have c2 := row_cell HO.out 1 _ rfl
 have f2 := row_free HO.out 1
 go_wp2_with fail
 clear c2 f2
 have hat := ((At.base HO.out).set 1 (.int .u64 f.st)).conv (cs' := (({ zeroF 4 with st := f.st } : Fr).cells (.slice none 0 0) (.slice none 0 0)).toArray) (by rfl)
 have HN := Qh hat.row; have HG9 := Qh hat.rest
 clear hat
 have HF9 := Qh (grown_row HG9.out (by intro e; injection e with e; omega) HF.out)
 refine ⟨HF9.out, ?_⟩
 generalize w10.setCell ⟨go, 1, none⟩ (.int .u64 f.st) = w11 at HN HG9 HF9 ⊢
 replace HF := HF9; replace HO := HN
 replace HZ := Qh (grown_row HG9.out (by intro e; injection e with e; omega) HZ.out)
 replace HB := Qh (HB.out.grown HG9.out HB.out.size (by intro k hk; injection hk with hk; omega))
 clear HG9 HF9 HN
 repeat (first | (refine plan_t (by rfl) ?_; (first | go_big_quiet_skip | (go_big_quiet_want; go_big_quiet_op; go_big_quiet_on)); refine wpQuiet_nil ?_))
 refine plan_us (by rfl) (by kernel_rfl) ?_
 intro K hK
 have c2 := row_cell HO.out 6 _ rfl
 have f2 := row_free HO.out 6
 go_wp2_with fail
 clear c2 f2
 have hat := ((At.base HO.out).set 6 (.int .u64 f.co)).conv (cs' := (({ zeroF 4 with st := f.st, co := f.co } : Fr).cells (.slice none 0 0) (.slice none 0 0)).toArray) (by rfl)
 have HN := Qh hat.row; have HG9 := Qh hat.rest
 clear hat
 have HF9 := Qh (grown_row HG9.out (by intro e; injection e with e; omega) HF.out)
 refine ⟨HF9.out, ?_⟩
 generalize w11.setCell ⟨go, 6, none⟩ (.int .u64 f.co) = w12 at HN HG9 HF9 ⊢
 replace HF := HF9; replace HO := HN
 replace HZ := Qh (grown_row HG9.out (by intro e; injection e with e; omega) HZ.out)
 replace HB := Qh (HB.out.grown HG9.out HB.out.size (by intro k hk; injection hk with hk; omega))
 clear HG9 HF9 HN
 repeat (first | (refine plan_t (by rfl) ?_; (first | go_big_quiet_skip | (go_big_quiet_want; go_big_quiet_op; go_big_quiet_on)); refine wpQuiet_nil ?_))
 refine plan_us (by rfl) (by kernel_rfl) ?_
 intro K hK
 have c2 := row_cell HO.out 7 _ rfl
 have f2 := row_free HO.out 7
 go_wp2_with fail
 clear c2 f2
 have hat := ((At.base HO.out).set 7 (.int .u64 f.fi)).conv (cs' := (({ zeroF 4 with st := f.st, co := f.co, fi := f.fi } : Fr).cells (.slice none 0 0) (.slice none 0 0)).toArray) (by rfl)
 have HN := Qh hat.row; have HG9 := Qh hat.rest
 clear hat
 have HF9 := Qh (grown_row HG9.out (by intro e; injection e with e; omega) HF.out)
 refine ⟨HF9.out, ?_⟩
 generalize w12.setCell ⟨go, 7, none⟩ (.int .u64 f.fi) = w13 at HN HG9 HF9 ⊢
 replace HF := HF9; replace HO := HN
 replace HZ := Qh (grown_row HG9.out (by intro e; injection e with e; omega) HZ.out)
 replace HB := Qh (HB.out.grown HG9.out HB.out.size (by intro k hk; injection hk with hk; omega))
 clear HG9 HF9 HN
 repeat (first | (refine plan_t (by rfl) ?_; (first | go_big_quiet_skip | (go_big_quiet_want; go_big_quiet_op; go_big_quiet_on)); refine wpQuiet_nil ?_))
 clear hne g0 g1 g2
 show Exit.inBlock _ _ _ _ _
 simp only [Exit.inBlock]
 have HL9 : Hid ((({ zeroF 4 with st := f.st, co := f.co, fi := f.fi } : Fr).cells (.slice none 0 0) (.slice none 0 0)).length = 19) := Qh rfl
 have hz := zero_wf 4 (by omega)
 have hwf : ({ zeroF 4 with st := f.st, co := f.co, fi := f.fi } : Fr).Wf := ⟨hz.kind, HWF.out.st, hz.of_, hz.li, HWF.out.co, HWF.out.fi, hz.se, hz.de, hz.cidl, hz.cid⟩
 have HW9 := Qh hwf
 clear hz hwf
 have HON : Hid (∀ v ∈ ({ zeroF 4 with st := f.st, co := f.co, fi := f.fi } : Fr).cells (.slice none 0 0) (.slice none 0 0), v.oneCell' = true) := Qh (fun v hv => by simp only [Fr.cells, List.mem_append, List.mem_cons, List.not_mem_nil, or_false, List.mem_map] at hv; rcases hv with hv | ⟨_, _, rfl⟩; rcases hv with rfl | rfl | rfl | rfl | rfl | rfl | rfl | rfl | rfl | rfl | rfl <;> rfl; rfl)
 obtain ⟨RX, hRX⟩ : ∃ R, ({ zeroF 4 with st := f.st, co := f.co, fi := f.fi } : Fr).cells (.slice none 0 0) (.slice none 0 0) = R := ⟨_, rfl⟩
 have HRX := Qh hRX
 have HO9 := HO
 have hrow9 : w13.heap[go]? = some (.cells RX.toArray 39 (0, 0)) := by rw [← hRX]; exact HO.out
 replace HO := Qh hrow9
 rw [hRX] at HON HL9
 clear hRX hrow9 HO9
 go_wp2_with (first | (refine wpList_load_mid rfl 39 _ rfl go 0 rfl RX _ (rngL HO.out) Try.underlying39 rfl (by rw [HL9.out]; rfl) ?_) | (refine wpList_store_row rfl 39 _ _ rfl gz rfl RX ([.int .i64 0, .int .u64 0, .int .u64 0, .slice none 0 0, .bool false, .int .u64 0, .int .u64 0, .int .u64 0, .int .u64 0, .int .u64 0, .slice none 0 0, .int .u8 0, .int .u8 0, .int .u8 0, .int .u8 0, .int .u8 0, .int .u8 0, .int .u8 0, .int .u8 0] : List Value) rfl 39 HZ.out (by rw [HL9.out]; rfl) (by rw [HL9.out]; rfl) HON.out ?_; intro wz hz hgz; have HZ10 := Qh hz; have HGZ := Qh hgz; clear hz hgz) | fail)
 (try simp only [Exit.inBlock, Exit.then])
 refine bodyPost_ret (results_cell1 rfl _ _ gz rfl RX _ _ HZ10.out Try.underlying39 rfl (by rw [HL9.out]; rfl)) rfl ?_
 exact ⟨(.slice none 0 0), (.slice none 0 0), by rw [HRX.out], (FrAt.bare HW9.out rfl rfl), (FrLo.nil _), HB.out.grown HGZ.out HB.out.size (by intro k hk; injection hk with hk; omega), 0, World.ownsRow_nil _ _ _ _⟩
theorem copy4_5 (w : World) (f : Fr) (dv rv : Value) (h : FrAt w f dv rv) (hk : f.kind = 5) :
  Calls Try.prog 25 #[.agg (f.cells dv rv).toArray] w fun e w' => ∃ dv' rv', e = .returned (.agg ((nrmF f).cells dv' rv').toArray) ∧ FrAt w' (nrmF f) dv' rv' ∧ FrLo w.heap.size dv' rv' ∧ Below w.heap.size w w' ∧ ∃ n, w'.ownsRow w.heap.size 5 1 dv' n ((nrmF f).data.map (Value.int .u8)) := by
 have hq : nrmF f = ({ zeroF 5 with st := f.st, co := f.co } : Fr) := by unfold nrmF; simp [hk]
 rw [hq]
 clear hq
 have hwf := h.wf
 have H_kind : Hid ((f.cells dv rv)[0]? = some (.int .i64 5)) := Qh (by rw [← hk]; rfl)
 have H_st : Hid ((f.cells dv rv)[1]? = some (.int .u64 f.st)) := Qh rfl
 have H_co : Hid ((f.cells dv rv)[6]? = some (.int .u64 f.co)) := Qh rfl
 have HRF : Hid ((f.cells dv rv).length = 19) := Qh (Fr.len hwf)
 obtain ⟨RF, hRF⟩ : ∃ R, (f.cells dv rv) = R := ⟨_, rfl⟩
 simp only [hRF] at HRF H_kind H_st H_co
 rw [hRF]
 have HWF := Qh hwf
 clear hwf h hRF hk
 go_enter Try.func25, Try.ntmps25
 go_upto_region 1 with fail
 change Code.wp _ _ _ _ ((w.alloc (.cells RF.toArray 39)).alloc (.cells ([.int .i64 0, .int .u64 0, .int .u64 0, .slice none 0 0, .bool false, .int .u64 0, .int .u64 0, .int .u64 0, .int .u64 0, .int .u64 0, .slice none 0 0, .int .u8 0, .int .u8 0, .int .u8 0, .int .u8 0, .int .u8 0, .int .u8 0, .int .u8 0, .int .u8 0] : List Value).toArray 39))
 have HB := Qh (Below.refl w.heap.size w)
 obtain ⟨gf, hg0⟩ : ∃ g, w.heap.size = g := ⟨_, rfl⟩
 try rw [hg0]
 have hb := (Below.refl w.heap.size w).alloc (Nat.le_refl _) (.cells RF.toArray 39)
 have hrw := heap_alloc_new w (.cells RF.toArray 39)
 have hsz : (w.alloc (.cells RF.toArray 39)).heap.size = gf + 1 := by simp [hg0]
 rw [hg0] at hrw
 replace HB := Qh (bl_next HB.out HB.out.size hb)
 have HF := Qh hrw
 clear hb hrw
 generalize w.alloc (.cells RF.toArray 39) = w1 at HB HF hsz ⊢
 have hg1 := hsz
 clear hsz
 have HG0 := Qh hg0
 clear hg0
 have hb := (Below.refl w1.heap.size w1).alloc (Nat.le_refl _) (.cells ([.int .i64 0, .int .u64 0, .int .u64 0, .slice none 0 0, .bool false, .int .u64 0, .int .u64 0, .int .u64 0, .int .u64 0, .int .u64 0, .slice none 0 0, .int .u8 0, .int .u8 0, .int .u8 0, .int .u8 0, .int .u8 0, .int .u8 0, .int .u8 0, .int .u8 0] : List Value).toArray 39)
 have hrw := heap_alloc_new w1 (.cells ([.int .i64 0, .int .u64 0, .int .u64 0, .slice none 0 0, .bool false, .int .u64 0, .int .u64 0, .int .u64 0, .int .u64 0, .int .u64 0, .slice none 0 0, .int .u8 0, .int .u8 0, .int .u8 0, .int .u8 0, .int .u8 0, .int .u8 0, .int .u8 0, .int .u8 0] : List Value).toArray 39)
 have hsz : (w1.alloc (.cells ([.int .i64 0, .int .u64 0, .int .u64 0, .slice none 0 0, .bool false, .int .u64 0, .int .u64 0, .int .u64 0, .int .u64 0, .int .u64 0, .slice none 0 0, .int .u8 0, .int .u8 0, .int .u8 0, .int .u8 0, .int .u8 0, .int .u8 0, .int .u8 0, .int .u8 0] : List Value).toArray 39)).heap.size = gf + 1 + 1 := by simp [hg1]
 rw [hg1] at hrw
 replace HB := Qh (bl_next HB.out HB.out.size hb)
 replace HF := Qh (bl_row hb (lt_of_block HF.out) HF.out)
 have HZ := Qh hrw
 clear hb hrw
 generalize w1.alloc (.cells ([.int .i64 0, .int .u64 0, .int .u64 0, .slice none 0 0, .bool false, .int .u64 0, .int .u64 0, .int .u64 0, .int .u64 0, .int .u64 0, .slice none 0 0, .int .u8 0, .int .u8 0, .int .u8 0, .int .u8 0, .int .u8 0, .int .u8 0, .int .u8 0, .int .u8 0] : List Value).toArray 39) = w2 at HB HF HZ hsz ⊢
 have hg2 := hsz
 clear hsz
 clear hg1
 obtain ⟨gz, hgg⟩ : ∃ g, gf + 1 = g := ⟨_, rfl⟩
 rw [hgg] at HZ hg2 ⊢
 have HLTgz : Hid (gf < gz) := Qh (by omega)
 clear hgg
 clear hg2
 have c0 := cell_row HF.out 0 _ H_kind.out
 go_upto_region 2 with (first | (refine wpList_store_row rfl 39 _ _ rfl _ rfl [.int .i64 5, .int .u64 0, .int .u64 0, .slice none 0 0, .bool false, .int .u64 0, .int .u64 0, .int .u64 0, .int .u64 0, .int .u64 0, .slice none 0 0, .int .u8 0, .int .u8 0, .int .u8 0, .int .u8 0, .int .u8 0, .int .u8 0, .int .u8 0, .int .u8 0] ([.int .i64 0, .int .u64 0, .int .u64 0, .slice none 0 0, .bool false, .int .u64 0, .int .u64 0, .int .u64 0, .int .u64 0, .int .u64 0, .slice none 0 0, .int .u8 0, .int .u8 0, .int .u8 0, .int .u8 0, .int .u8 0, .int .u8 0, .int .u8 0, .int .u8 0] : List Value) rfl 39 (heap_alloc_new _ _) rfl rfl (one19 rfl rfl) ?_; intro w9 hr hg) | fail)
 clear c0
 have hal := (Below.refl w2.heap.size w2).alloc (Nat.le_refl _) (.cells ([.int .i64 0, .int .u64 0, .int .u64 0, .slice none 0 0, .bool false, .int .u64 0, .int .u64 0, .int .u64 0, .int .u64 0, .int .u64 0, .slice none 0 0, .int .u8 0, .int .u8 0, .int .u8 0, .int .u8 0, .int .u8 0, .int .u8 0, .int .u8 0, .int .u8 0] : List Value).toArray 39)
 have hb : Below w2.heap.size w2 w9 := hal.grown hg hal.size (by intro k hk; injection hk with hk; omega)
 have hfl := lt_of_block HF.out
 have hzl := lt_of_block HZ.out
 replace HB := Qh (bl_next HB.out HB.out.size hb)
 replace HF := Qh (bl_row hb (lt_of_block HF.out) HF.out)
 replace HZ := Qh (bl_row hb (lt_of_block HZ.out) HZ.out)
 have HO : Hid (w9.heap[w2.heap.size]? = some (.cells ((zeroF 5).cells (.slice none 0 0) (.slice none 0 0)).toArray 39 (0, 0))) := Qh hr
 clear hr hg hal hb
 obtain ⟨go, hgo⟩ : ∃ g, w2.heap.size = g := ⟨_, rfl⟩
 rw [hgo] at HO hfl hzl ⊢
 have hgl : w.heap.size ≤ go := by have := HG0.out; omega
 have hzw : w.heap.size ≤ gz := by have := HG0.out; have := HLTgz.out; omega
 clear hgo
 have c0 := cell_row HF.out 0 _ H_kind.out
 go_upto_region 8 with fail
 clear c0
 have g0 : ∀ z : In (fun y => y.heap[gf]? = some (.cells RF.toArray 39 (0, 0))), z.w.cell? ⟨gf, 1, none⟩ = some (.int .u64 f.st) := fun z => cell_row z.h 1 _ H_st.out
 have g1 : ∀ z : In (fun y => y.heap[gf]? = some (.cells RF.toArray 39 (0, 0))), z.w.cell? ⟨gf, 6, none⟩ = some (.int .u64 f.co) := fun z => cell_row z.h 6 _ H_co.out
 refine wp_plan (.t 0 (.t 1 (.t 2 (.t 3 (.t 4 (.u 5 (.t 6 (.u 7 .done)))))))) (fun y => y.heap[gf]? = some (.cells RF.toArray 39 (0, 0))) (by kernel_rfl) (by kernel_rfl) (by kernel_rfl) (fun c a d v w h => by cases d <;> exact h) HF.out ?_
 have hb := (Below.refl w9.heap.size w9).drew
 replace HB := Qh (bl_next HB.out HB.out.size hb)
 replace HZ := Qh (bl_row hb (lt_of_block HZ.out) HZ.out)
 replace HO := Qh (bl_row hb (lt_of_block HO.out) HO.out)
 replace HF := Qh (bl_row hb (lt_of_block HF.out) HF.out)
 clear hb
 generalize w9.drew = w10 at HB HZ HO HF ⊢
 haveI hne : Nonempty (In (fun y => y.heap[gf]? = some (.cells RF.toArray 39 (0, 0)))) := ⟨⟨w10, HF.out⟩⟩
 repeat (first | (refine plan_t (by rfl) ?_; (first | go_big_quiet_skip | (go_big_quiet_want; go_big_quiet_op; go_big_quiet_on)); refine wpQuiet_nil ?_))
 refine plan_us (by rfl) (by kernel_rfl) ?_
 intro K hK
 have c2 := row_cell HO.out 1 _ rfl
 have f2 := row_free HO.out 1
 go_wp2_with fail
 clear c2 f2
 have hat := ((At.base HO.out).set 1 (.int .u64 f.st)).conv (cs' := (({ zeroF 5 with st := f.st } : Fr).cells (.slice none 0 0) (.slice none 0 0)).toArray) (by rfl)
 have HN := Qh hat.row; have HG9 := Qh hat.rest
 clear hat
 have HF9 := Qh (grown_row HG9.out (by intro e; injection e with e; omega) HF.out)
 refine ⟨HF9.out, ?_⟩
 generalize w10.setCell ⟨go, 1, none⟩ (.int .u64 f.st) = w11 at HN HG9 HF9 ⊢
 replace HF := HF9; replace HO := HN
 replace HZ := Qh (grown_row HG9.out (by intro e; injection e with e; omega) HZ.out)
 replace HB := Qh (HB.out.grown HG9.out HB.out.size (by intro k hk; injection hk with hk; omega))
 clear HG9 HF9 HN
 repeat (first | (refine plan_t (by rfl) ?_; (first | go_big_quiet_skip | (go_big_quiet_want; go_big_quiet_op; go_big_quiet_on)); refine wpQuiet_nil ?_))
 refine plan_us (by rfl) (by kernel_rfl) ?_
 intro K hK
 have c2 := row_cell HO.out 6 _ rfl
 have f2 := row_free HO.out 6
 go_wp2_with fail
 clear c2 f2
 have hat := ((At.base HO.out).set 6 (.int .u64 f.co)).conv (cs' := (({ zeroF 5 with st := f.st, co := f.co } : Fr).cells (.slice none 0 0) (.slice none 0 0)).toArray) (by rfl)
 have HN := Qh hat.row; have HG9 := Qh hat.rest
 clear hat
 have HF9 := Qh (grown_row HG9.out (by intro e; injection e with e; omega) HF.out)
 refine ⟨HF9.out, ?_⟩
 generalize w11.setCell ⟨go, 6, none⟩ (.int .u64 f.co) = w12 at HN HG9 HF9 ⊢
 replace HF := HF9; replace HO := HN
 replace HZ := Qh (grown_row HG9.out (by intro e; injection e with e; omega) HZ.out)
 replace HB := Qh (HB.out.grown HG9.out HB.out.size (by intro k hk; injection hk with hk; omega))
 clear HG9 HF9 HN
 repeat (first | (refine plan_t (by rfl) ?_; (first | go_big_quiet_skip | (go_big_quiet_want; go_big_quiet_op; go_big_quiet_on)); refine wpQuiet_nil ?_))
 clear hne g0 g1
 show Exit.inBlock _ _ _ _ _
 simp only [Exit.inBlock]
 have HL9 : Hid ((({ zeroF 5 with st := f.st, co := f.co } : Fr).cells (.slice none 0 0) (.slice none 0 0)).length = 19) := Qh rfl
 have hz := zero_wf 5 (by omega)
 have hwf : ({ zeroF 5 with st := f.st, co := f.co } : Fr).Wf := ⟨hz.kind, HWF.out.st, hz.of_, hz.li, HWF.out.co, hz.fi, hz.se, hz.de, hz.cidl, hz.cid⟩
 have HW9 := Qh hwf
 clear hz hwf
 have HON : Hid (∀ v ∈ ({ zeroF 5 with st := f.st, co := f.co } : Fr).cells (.slice none 0 0) (.slice none 0 0), v.oneCell' = true) := Qh (fun v hv => by simp only [Fr.cells, List.mem_append, List.mem_cons, List.not_mem_nil, or_false, List.mem_map] at hv; rcases hv with hv | ⟨_, _, rfl⟩; rcases hv with rfl | rfl | rfl | rfl | rfl | rfl | rfl | rfl | rfl | rfl | rfl <;> rfl; rfl)
 obtain ⟨RX, hRX⟩ : ∃ R, ({ zeroF 5 with st := f.st, co := f.co } : Fr).cells (.slice none 0 0) (.slice none 0 0) = R := ⟨_, rfl⟩
 have HRX := Qh hRX
 have HO9 := HO
 have hrow9 : w12.heap[go]? = some (.cells RX.toArray 39 (0, 0)) := by rw [← hRX]; exact HO.out
 replace HO := Qh hrow9
 rw [hRX] at HON HL9
 clear hRX hrow9 HO9
 go_wp2_with (first | (refine wpList_load_mid rfl 39 _ rfl go 0 rfl RX _ (rngL HO.out) Try.underlying39 rfl (by rw [HL9.out]; rfl) ?_) | (refine wpList_store_row rfl 39 _ _ rfl gz rfl RX ([.int .i64 0, .int .u64 0, .int .u64 0, .slice none 0 0, .bool false, .int .u64 0, .int .u64 0, .int .u64 0, .int .u64 0, .int .u64 0, .slice none 0 0, .int .u8 0, .int .u8 0, .int .u8 0, .int .u8 0, .int .u8 0, .int .u8 0, .int .u8 0, .int .u8 0] : List Value) rfl 39 HZ.out (by rw [HL9.out]; rfl) (by rw [HL9.out]; rfl) HON.out ?_; intro wz hz hgz; have HZ10 := Qh hz; have HGZ := Qh hgz; clear hz hgz) | fail)
 (try simp only [Exit.inBlock, Exit.then])
 refine bodyPost_ret (results_cell1 rfl _ _ gz rfl RX _ _ HZ10.out Try.underlying39 rfl (by rw [HL9.out]; rfl)) rfl ?_
 exact ⟨(.slice none 0 0), (.slice none 0 0), by rw [HRX.out], (FrAt.bare HW9.out rfl rfl), (FrLo.nil _), HB.out.grown HGZ.out HB.out.size (by intro k hk; injection hk with hk; omega), 0, World.ownsRow_nil _ _ _ _⟩
theorem copy4_6 (w : World) (f : Fr) (dv rv : Value) (h : FrAt w f dv rv) (hk : f.kind = 6) (hdl : f.data.length ≤ 1000000) :
  Calls Try.prog 25 #[.agg (f.cells dv rv).toArray] w fun e w' => ∃ dv' rv', e = .returned (.agg ((nrmF f).cells dv' rv').toArray) ∧ FrAt w' (nrmF f) dv' rv' ∧ FrLo w.heap.size dv' rv' ∧ Below w.heap.size w w' ∧ ∃ n, w'.ownsRow w.heap.size 5 1 dv' n ((nrmF f).data.map (Value.int .u8)) := by
 have hq : nrmF f = ({ zeroF 6 with of_ := f.of_, data := f.data } : Fr) := by unfold nrmF; simp [hk]
 rw [hq]
 clear hq
 have hwf := h.wf
 obtain ⟨da, dn, dc, rfl, hd1, hd2, hd⟩ := h.d
 have hdn : f.data.length = dn := hd.1
 rw [hdn] at hdl
 have HD := Qh hd
 clear hd hdn
 have H_kind : Hid ((f.cells (.slice da dn dc) rv)[0]? = some (.int .i64 6)) := Qh (by rw [← hk]; rfl)
 have H_of_ : Hid ((f.cells (.slice da dn dc) rv)[2]? = some (.int .u64 f.of_)) := Qh rfl
 have H_data : Hid ((f.cells (.slice da dn dc) rv)[3]? = some (.slice da dn dc)) := Qh rfl
 have HRF : Hid ((f.cells (.slice da dn dc) rv).length = 19) := Qh (Fr.len hwf)
 obtain ⟨RF, hRF⟩ : ∃ R, (f.cells (.slice da dn dc) rv) = R := ⟨_, rfl⟩
 simp only [hRF] at HRF H_kind H_of_ H_data
 rw [hRF]
 have HWF := Qh hwf
 clear hwf h hRF hk
 go_enter Try.func25, Try.ntmps25
 go_upto_region 1 with fail
 change Code.wp _ _ _ _ ((w.alloc (.cells RF.toArray 39)).alloc (.cells ([.int .i64 0, .int .u64 0, .int .u64 0, .slice none 0 0, .bool false, .int .u64 0, .int .u64 0, .int .u64 0, .int .u64 0, .int .u64 0, .slice none 0 0, .int .u8 0, .int .u8 0, .int .u8 0, .int .u8 0, .int .u8 0, .int .u8 0, .int .u8 0, .int .u8 0] : List Value).toArray 39))
 have HB := Qh (Below.refl w.heap.size w)
 obtain ⟨gf, hg0⟩ : ∃ g, w.heap.size = g := ⟨_, rfl⟩
 try rw [hg0]
 have hb := (Below.refl w.heap.size w).alloc (Nat.le_refl _) (.cells RF.toArray 39)
 have hrw := heap_alloc_new w (.cells RF.toArray 39)
 have hsz : (w.alloc (.cells RF.toArray 39)).heap.size = gf + 1 := by simp [hg0]
 rw [hg0] at hrw
 replace HB := Qh (bl_next HB.out HB.out.size hb)
 replace HD := Qh (HD.out.below hb)
 have HF := Qh hrw
 clear hb hrw
 generalize w.alloc (.cells RF.toArray 39) = w1 at HB HD HF hsz ⊢
 have hg1 := hsz
 clear hsz
 have HG0 := Qh hg0
 clear hg0
 have hb := (Below.refl w1.heap.size w1).alloc (Nat.le_refl _) (.cells ([.int .i64 0, .int .u64 0, .int .u64 0, .slice none 0 0, .bool false, .int .u64 0, .int .u64 0, .int .u64 0, .int .u64 0, .int .u64 0, .slice none 0 0, .int .u8 0, .int .u8 0, .int .u8 0, .int .u8 0, .int .u8 0, .int .u8 0, .int .u8 0, .int .u8 0] : List Value).toArray 39)
 have hrw := heap_alloc_new w1 (.cells ([.int .i64 0, .int .u64 0, .int .u64 0, .slice none 0 0, .bool false, .int .u64 0, .int .u64 0, .int .u64 0, .int .u64 0, .int .u64 0, .slice none 0 0, .int .u8 0, .int .u8 0, .int .u8 0, .int .u8 0, .int .u8 0, .int .u8 0, .int .u8 0, .int .u8 0] : List Value).toArray 39)
 have hsz : (w1.alloc (.cells ([.int .i64 0, .int .u64 0, .int .u64 0, .slice none 0 0, .bool false, .int .u64 0, .int .u64 0, .int .u64 0, .int .u64 0, .int .u64 0, .slice none 0 0, .int .u8 0, .int .u8 0, .int .u8 0, .int .u8 0, .int .u8 0, .int .u8 0, .int .u8 0, .int .u8 0] : List Value).toArray 39)).heap.size = gf + 1 + 1 := by simp [hg1]
 rw [hg1] at hrw
 replace HB := Qh (bl_next HB.out HB.out.size hb)
 replace HD := Qh (HD.out.below hb)
 replace HF := Qh (bl_row hb (lt_of_block HF.out) HF.out)
 have HZ := Qh hrw
 clear hb hrw
 generalize w1.alloc (.cells ([.int .i64 0, .int .u64 0, .int .u64 0, .slice none 0 0, .bool false, .int .u64 0, .int .u64 0, .int .u64 0, .int .u64 0, .int .u64 0, .slice none 0 0, .int .u8 0, .int .u8 0, .int .u8 0, .int .u8 0, .int .u8 0, .int .u8 0, .int .u8 0, .int .u8 0] : List Value).toArray 39) = w2 at HB HD HF HZ hsz ⊢
 have hg2 := hsz
 clear hsz
 clear hg1
 obtain ⟨gz, hgg⟩ : ∃ g, gf + 1 = g := ⟨_, rfl⟩
 rw [hgg] at HZ hg2 ⊢
 have HLTgz : Hid (gf < gz) := Qh (by omega)
 clear hgg
 clear hg2
 have c0 := cell_row HF.out 0 _ H_kind.out
 go_upto_region 2 with (first | (refine wpList_store_row rfl 39 _ _ rfl _ rfl [.int .i64 6, .int .u64 0, .int .u64 0, .slice none 0 0, .bool false, .int .u64 0, .int .u64 0, .int .u64 0, .int .u64 0, .int .u64 0, .slice none 0 0, .int .u8 0, .int .u8 0, .int .u8 0, .int .u8 0, .int .u8 0, .int .u8 0, .int .u8 0, .int .u8 0] ([.int .i64 0, .int .u64 0, .int .u64 0, .slice none 0 0, .bool false, .int .u64 0, .int .u64 0, .int .u64 0, .int .u64 0, .int .u64 0, .slice none 0 0, .int .u8 0, .int .u8 0, .int .u8 0, .int .u8 0, .int .u8 0, .int .u8 0, .int .u8 0, .int .u8 0] : List Value) rfl 39 (heap_alloc_new _ _) rfl rfl (one19 rfl rfl) ?_; intro w9 hr hg) | fail)
 clear c0
 have hal := (Below.refl w2.heap.size w2).alloc (Nat.le_refl _) (.cells ([.int .i64 0, .int .u64 0, .int .u64 0, .slice none 0 0, .bool false, .int .u64 0, .int .u64 0, .int .u64 0, .int .u64 0, .int .u64 0, .slice none 0 0, .int .u8 0, .int .u8 0, .int .u8 0, .int .u8 0, .int .u8 0, .int .u8 0, .int .u8 0, .int .u8 0] : List Value).toArray 39)
 have hb : Below w2.heap.size w2 w9 := hal.grown hg hal.size (by intro k hk; injection hk with hk; omega)
 have hfl := lt_of_block HF.out
 have hzl := lt_of_block HZ.out
 replace HB := Qh (bl_next HB.out HB.out.size hb)
 replace HD := Qh (HD.out.below hb)
 replace HF := Qh (bl_row hb (lt_of_block HF.out) HF.out)
 replace HZ := Qh (bl_row hb (lt_of_block HZ.out) HZ.out)
 have HO : Hid (w9.heap[w2.heap.size]? = some (.cells ((zeroF 6).cells (.slice none 0 0) (.slice none 0 0)).toArray 39 (0, 0))) := Qh hr
 clear hr hg hal hb
 obtain ⟨go, hgo⟩ : ∃ g, w2.heap.size = g := ⟨_, rfl⟩
 rw [hgo] at HO hfl hzl ⊢
 have hgl : w.heap.size ≤ go := by have := HG0.out; omega
 have hzw : w.heap.size ≤ gz := by have := HG0.out; have := HLTgz.out; omega
 clear hgo
 have c0 := cell_row HF.out 0 _ H_kind.out
 go_upto_region 10 with fail
 clear c0
 have g0 : ∀ z : In (fun y => y.heap[gf]? = some (.cells RF.toArray 39 (0, 0))), z.w.cell? ⟨gf, 2, none⟩ = some (.int .u64 f.of_) := fun z => cell_row z.h 2 _ H_of_.out
 have g1 : ∀ z : In (fun y => y.heap[gf]? = some (.cells RF.toArray 39 (0, 0))), z.w.cell? ⟨gf, 3, none⟩ = some (.slice da dn dc) := fun z => cell_row z.h 3 _ H_data.out
 refine wp_plan (.t 0 (.t 1 (.t 2 (.t 3 (.t 5 (.u 4 (.u 6 (.t 7 (.u 8 .done))))))))) (fun y => y.heap[gf]? = some (.cells RF.toArray 39 (0, 0))) (by kernel_rfl) (by kernel_rfl) (by kernel_rfl) (fun c a d v w h => by cases d <;> exact h) HF.out ?_
 have hb := (Below.refl w9.heap.size w9).drew
 replace HB := Qh (bl_next HB.out HB.out.size hb)
 replace HZ := Qh (bl_row hb (lt_of_block HZ.out) HZ.out)
 replace HO := Qh (bl_row hb (lt_of_block HO.out) HO.out)
 replace HF := Qh (bl_row hb (lt_of_block HF.out) HF.out)
 replace HD := Qh (HD.out.below hb)
 clear hb
 generalize w9.drew = w10 at HB HZ HO HF HD ⊢
 haveI hne : Nonempty (In (fun y => y.heap[gf]? = some (.cells RF.toArray 39 (0, 0)))) := ⟨⟨w10, HF.out⟩⟩
 repeat (first | (refine plan_t (by rfl) ?_; (first | go_big_quiet_skip | (go_big_quiet_want; go_big_quiet_op; go_big_quiet_on)); refine wpQuiet_nil ?_))
 refine plan_us (by rfl) (by kernel_rfl) ?_
 intro K hK
 go_wp2_with fail
 refine Calls.mono (clone_any w10 da dn dc f.data (by omega) HD.out) ?_
 rintro e w11 ⟨v, rfl, hb, ho⟩
 have hlo : ∀ x, v.ownBlock = some x → w10.heap.size ≤ x := own_base ho
 have hgc : go < w10.heap.size := lt_of_block HO.out
 obtain ⟨va, vc, rfl, hv1, hv2⟩ := sl_own ho
 obtain ⟨va2, vc2, hv9, _, hi9, _⟩ := ints_of_own ho HD.out.2.1
 have HNI := Qh (by injection hv9 with e1; rw [← e1] at hi9; exact hi9 : IntsK .u8 _ va dn f.data)
 clear hv9
 have HBS : Hid (go < w10.heap.size ∧ w.heap.size ≤ w10.heap.size) := Qh ⟨hgc, HB.out.size⟩
 obtain ⟨bse, hbse⟩ : ∃ b, w10.heap.size = b := ⟨_, rfl⟩
 have HNO : Hid (World.ownsRow _ bse 5 1 (.slice va dn vc) dn (f.data.map (Value.int .u8))) := Qh (by rw [← hbse]; exact ho)
 rw [hbse] at HBS
 clear hbse
 have HVL : Hid (∀ x, va = some x → w.heap.size ≤ x.block ∧ go < x.block) := Qh (fun x hx => by have := hlo x.block (by rw [hx]; rfl); have := HB.out.size; omega)
 have HVC := Qh (And.intro hv1 hv2)
 replace HB := Qh (bl_next HB.out HB.out.size hb)
 replace HZ := Qh (bl_row hb (lt_of_block HZ.out) HZ.out)
 replace HO := Qh (bl_row hb (lt_of_block HO.out) HO.out)
 replace HF := Qh (bl_row hb (lt_of_block HF.out) HF.out)
 replace HD := Qh (HD.out.below hb)
 clear hb ho hlo hgc hv1 hv2 hi9
 go_wp2_with fail
 refine ⟨HF.out, ?_⟩
 repeat (first | (refine plan_t (by rfl) ?_; (first | go_big_quiet_skip | (go_big_quiet_want; go_big_quiet_op; go_big_quiet_on)); refine wpQuiet_nil ?_))
 refine plan_us (by rfl) (by kernel_rfl) ?_
 intro K hK
 have c2 := row_cell HO.out 2 _ rfl
 have f2 := row_free HO.out 2
 go_wp2_with fail
 clear c2 f2
 have hat := ((At.base HO.out).set 2 (.int .u64 f.of_)).conv (cs' := (({ zeroF 6 with of_ := f.of_ } : Fr).cells (.slice none 0 0) (.slice none 0 0)).toArray) (by rfl)
 have HN := Qh hat.row; have HG9 := Qh hat.rest
 clear hat
 have HF9 := Qh (grown_row HG9.out (by intro e; injection e with e; omega) HF.out)
 refine ⟨HF9.out, ?_⟩
 generalize w11.setCell ⟨go, 2, none⟩ (.int .u64 f.of_) = w12 at HN HG9 HF9 ⊢
 replace HF := HF9; replace HO := HN
 replace HZ := Qh (grown_row HG9.out (by intro e; injection e with e; omega) HZ.out)
 replace HB := Qh (HB.out.grown HG9.out HB.out.size (by intro k hk; injection hk with hk; omega))
 replace HNI := Qh (HNI.out.grown HG9.out (fun x hx e => by injection e with e; have := HVL.out x hx; omega))
 replace HNO := Qh (own_away HNO.out HG9.out HBS.out.1)
 clear HG9 HF9 HN
 repeat (first | (refine plan_t (by rfl) ?_; (first | go_big_quiet_skip | (go_big_quiet_want; go_big_quiet_op; go_big_quiet_on)); refine wpQuiet_nil ?_))
 refine plan_us (by rfl) (by kernel_rfl) ?_
 intro K hK
 have c2 := row_cell HO.out 3 _ rfl
 have f2 := row_free HO.out 3
 go_wp2_with fail
 clear c2 f2
 have hat := ((At.base HO.out).set 3 (.slice va dn vc)).conv (cs' := (({ zeroF 6 with of_ := f.of_, data := f.data } : Fr).cells (.slice va dn vc) (.slice none 0 0)).toArray) (by rfl)
 have HN := Qh hat.row; have HG9 := Qh hat.rest
 clear hat
 have HF9 := Qh (grown_row HG9.out (by intro e; injection e with e; omega) HF.out)
 refine ⟨HF9.out, ?_⟩
 generalize w12.setCell ⟨go, 3, none⟩ (.slice va dn vc) = w13 at HN HG9 HF9 ⊢
 replace HF := HF9; replace HO := HN
 replace HZ := Qh (grown_row HG9.out (by intro e; injection e with e; omega) HZ.out)
 replace HB := Qh (HB.out.grown HG9.out HB.out.size (by intro k hk; injection hk with hk; omega))
 replace HNI := Qh (HNI.out.grown HG9.out (fun x hx e => by injection e with e; have := HVL.out x hx; omega))
 replace HNO := Qh (own_away HNO.out HG9.out HBS.out.1)
 clear HG9 HF9 HN
 repeat (first | (refine plan_t (by rfl) ?_; (first | go_big_quiet_skip | (go_big_quiet_want; go_big_quiet_op; go_big_quiet_on)); refine wpQuiet_nil ?_))
 clear hne g0 g1
 show Exit.inBlock _ _ _ _ _
 simp only [Exit.inBlock]
 have HL9 : Hid ((({ zeroF 6 with of_ := f.of_, data := f.data } : Fr).cells (.slice va dn vc) (.slice none 0 0)).length = 19) := Qh rfl
 have hz := zero_wf 6 (by omega)
 have hwf : ({ zeroF 6 with of_ := f.of_, data := f.data } : Fr).Wf := ⟨hz.kind, hz.st, HWF.out.of_, hz.li, hz.co, hz.fi, hz.se, hz.de, hz.cidl, hz.cid⟩
 have HW9 := Qh hwf
 clear hz hwf
 have HON : Hid (∀ v ∈ ({ zeroF 6 with of_ := f.of_, data := f.data } : Fr).cells (.slice va dn vc) (.slice none 0 0), v.oneCell' = true) := Qh (fun v hv => by simp only [Fr.cells, List.mem_append, List.mem_cons, List.not_mem_nil, or_false, List.mem_map] at hv; rcases hv with hv | ⟨_, _, rfl⟩; rcases hv with rfl | rfl | rfl | rfl | rfl | rfl | rfl | rfl | rfl | rfl | rfl <;> rfl; rfl)
 obtain ⟨RX, hRX⟩ : ∃ R, ({ zeroF 6 with of_ := f.of_, data := f.data } : Fr).cells (.slice va dn vc) (.slice none 0 0) = R := ⟨_, rfl⟩
 have HRX := Qh hRX
 have HO9 := HO
 have hrow9 : w13.heap[go]? = some (.cells RX.toArray 39 (0, 0)) := by rw [← hRX]; exact HO.out
 replace HO := Qh hrow9
 rw [hRX] at HON HL9
 clear hRX hrow9 HO9
 go_wp2_with (first | (refine wpList_load_mid rfl 39 _ rfl go 0 rfl RX _ (rngL HO.out) Try.underlying39 rfl (by rw [HL9.out]; rfl) ?_) | (refine wpList_store_row rfl 39 _ _ rfl gz rfl RX ([.int .i64 0, .int .u64 0, .int .u64 0, .slice none 0 0, .bool false, .int .u64 0, .int .u64 0, .int .u64 0, .int .u64 0, .int .u64 0, .slice none 0 0, .int .u8 0, .int .u8 0, .int .u8 0, .int .u8 0, .int .u8 0, .int .u8 0, .int .u8 0, .int .u8 0] : List Value) rfl 39 HZ.out (by rw [HL9.out]; rfl) (by rw [HL9.out]; rfl) HON.out ?_; intro wz hz hgz; have HZ10 := Qh hz; have HGZ := Qh hgz; clear hz hgz) | fail)
 (try simp only [Exit.inBlock, Exit.then])
 refine bodyPost_ret (results_cell1 rfl _ _ gz rfl RX _ _ HZ10.out Try.underlying39 rfl (by rw [HL9.out]; rfl)) rfl ?_
 exact ⟨(.slice va dn vc), (.slice none 0 0), by rw [HRX.out], (FrAt.text HW9.out HVC.out (HNI.out.grown HGZ.out (fun x hx e => by injection e with e; have := HVL.out x hx; omega)) rfl), (FrLo.text (fun x hx => (HVL.out x hx).1)), HB.out.grown HGZ.out HB.out.size (by intro k hk; injection hk with hk; omega), _, own_lower (own_away HNO.out HGZ.out (by have := HBS.out.1; omega)) HBS.out.2⟩
theorem copy4_8 (w : World) (f : Fr) (dv rv : Value) (h : FrAt w f dv rv) (hk : f.kind = 8) (hdl : f.data.length ≤ 1000000) :
  Calls Try.prog 25 #[.agg (f.cells dv rv).toArray] w fun e w' => ∃ dv' rv', e = .returned (.agg ((nrmF f).cells dv' rv').toArray) ∧ FrAt w' (nrmF f) dv' rv' ∧ FrLo w.heap.size dv' rv' ∧ Below w.heap.size w w' ∧ ∃ n, w'.ownsRow w.heap.size 5 1 dv' n ((nrmF f).data.map (Value.int .u8)) := by
 have hq : nrmF f = ({ zeroF 8 with st := f.st, of_ := f.of_, data := f.data, fin := f.fin } : Fr) := by unfold nrmF; simp [hk]
 rw [hq]
 clear hq
 have hwf := h.wf
 obtain ⟨da, dn, dc, rfl, hd1, hd2, hd⟩ := h.d
 have hdn : f.data.length = dn := hd.1
 rw [hdn] at hdl
 have HD := Qh hd
 clear hd hdn
 have H_kind : Hid ((f.cells (.slice da dn dc) rv)[0]? = some (.int .i64 8)) := Qh (by rw [← hk]; rfl)
 have H_st : Hid ((f.cells (.slice da dn dc) rv)[1]? = some (.int .u64 f.st)) := Qh rfl
 have H_of_ : Hid ((f.cells (.slice da dn dc) rv)[2]? = some (.int .u64 f.of_)) := Qh rfl
 have H_fin : Hid ((f.cells (.slice da dn dc) rv)[4]? = some (.bool f.fin)) := Qh rfl
 have H_data : Hid ((f.cells (.slice da dn dc) rv)[3]? = some (.slice da dn dc)) := Qh rfl
 have HRF : Hid ((f.cells (.slice da dn dc) rv).length = 19) := Qh (Fr.len hwf)
 obtain ⟨RF, hRF⟩ : ∃ R, (f.cells (.slice da dn dc) rv) = R := ⟨_, rfl⟩
 simp only [hRF] at HRF H_kind H_st H_of_ H_data H_fin
 rw [hRF]
 have HWF := Qh hwf
 clear hwf h hRF hk
 go_enter Try.func25, Try.ntmps25
 go_upto_region 1 with fail
 change Code.wp _ _ _ _ ((w.alloc (.cells RF.toArray 39)).alloc (.cells ([.int .i64 0, .int .u64 0, .int .u64 0, .slice none 0 0, .bool false, .int .u64 0, .int .u64 0, .int .u64 0, .int .u64 0, .int .u64 0, .slice none 0 0, .int .u8 0, .int .u8 0, .int .u8 0, .int .u8 0, .int .u8 0, .int .u8 0, .int .u8 0, .int .u8 0] : List Value).toArray 39))
 have HB := Qh (Below.refl w.heap.size w)
 obtain ⟨gf, hg0⟩ : ∃ g, w.heap.size = g := ⟨_, rfl⟩
 try rw [hg0]
 have hb := (Below.refl w.heap.size w).alloc (Nat.le_refl _) (.cells RF.toArray 39)
 have hrw := heap_alloc_new w (.cells RF.toArray 39)
 have hsz : (w.alloc (.cells RF.toArray 39)).heap.size = gf + 1 := by simp [hg0]
 rw [hg0] at hrw
 replace HB := Qh (bl_next HB.out HB.out.size hb)
 replace HD := Qh (HD.out.below hb)
 have HF := Qh hrw
 clear hb hrw
 generalize w.alloc (.cells RF.toArray 39) = w1 at HB HD HF hsz ⊢
 have hg1 := hsz
 clear hsz
 have HG0 := Qh hg0
 clear hg0
 have hb := (Below.refl w1.heap.size w1).alloc (Nat.le_refl _) (.cells ([.int .i64 0, .int .u64 0, .int .u64 0, .slice none 0 0, .bool false, .int .u64 0, .int .u64 0, .int .u64 0, .int .u64 0, .int .u64 0, .slice none 0 0, .int .u8 0, .int .u8 0, .int .u8 0, .int .u8 0, .int .u8 0, .int .u8 0, .int .u8 0, .int .u8 0] : List Value).toArray 39)
 have hrw := heap_alloc_new w1 (.cells ([.int .i64 0, .int .u64 0, .int .u64 0, .slice none 0 0, .bool false, .int .u64 0, .int .u64 0, .int .u64 0, .int .u64 0, .int .u64 0, .slice none 0 0, .int .u8 0, .int .u8 0, .int .u8 0, .int .u8 0, .int .u8 0, .int .u8 0, .int .u8 0, .int .u8 0] : List Value).toArray 39)
 have hsz : (w1.alloc (.cells ([.int .i64 0, .int .u64 0, .int .u64 0, .slice none 0 0, .bool false, .int .u64 0, .int .u64 0, .int .u64 0, .int .u64 0, .int .u64 0, .slice none 0 0, .int .u8 0, .int .u8 0, .int .u8 0, .int .u8 0, .int .u8 0, .int .u8 0, .int .u8 0, .int .u8 0] : List Value).toArray 39)).heap.size = gf + 1 + 1 := by simp [hg1]
 rw [hg1] at hrw
 replace HB := Qh (bl_next HB.out HB.out.size hb)
 replace HD := Qh (HD.out.below hb)
 replace HF := Qh (bl_row hb (lt_of_block HF.out) HF.out)
 have HZ := Qh hrw
 clear hb hrw
 generalize w1.alloc (.cells ([.int .i64 0, .int .u64 0, .int .u64 0, .slice none 0 0, .bool false, .int .u64 0, .int .u64 0, .int .u64 0, .int .u64 0, .int .u64 0, .slice none 0 0, .int .u8 0, .int .u8 0, .int .u8 0, .int .u8 0, .int .u8 0, .int .u8 0, .int .u8 0, .int .u8 0] : List Value).toArray 39) = w2 at HB HD HF HZ hsz ⊢
 have hg2 := hsz
 clear hsz
 clear hg1
 obtain ⟨gz, hgg⟩ : ∃ g, gf + 1 = g := ⟨_, rfl⟩
 rw [hgg] at HZ hg2 ⊢
 have HLTgz : Hid (gf < gz) := Qh (by omega)
 clear hgg
 clear hg2
 have c0 := cell_row HF.out 0 _ H_kind.out
 go_upto_region 2 with (first | (refine wpList_store_row rfl 39 _ _ rfl _ rfl [.int .i64 8, .int .u64 0, .int .u64 0, .slice none 0 0, .bool false, .int .u64 0, .int .u64 0, .int .u64 0, .int .u64 0, .int .u64 0, .slice none 0 0, .int .u8 0, .int .u8 0, .int .u8 0, .int .u8 0, .int .u8 0, .int .u8 0, .int .u8 0, .int .u8 0] ([.int .i64 0, .int .u64 0, .int .u64 0, .slice none 0 0, .bool false, .int .u64 0, .int .u64 0, .int .u64 0, .int .u64 0, .int .u64 0, .slice none 0 0, .int .u8 0, .int .u8 0, .int .u8 0, .int .u8 0, .int .u8 0, .int .u8 0, .int .u8 0, .int .u8 0] : List Value) rfl 39 (heap_alloc_new _ _) rfl rfl (one19 rfl rfl) ?_; intro w9 hr hg) | fail)
 clear c0
 have hal := (Below.refl w2.heap.size w2).alloc (Nat.le_refl _) (.cells ([.int .i64 0, .int .u64 0, .int .u64 0, .slice none 0 0, .bool false, .int .u64 0, .int .u64 0, .int .u64 0, .int .u64 0, .int .u64 0, .slice none 0 0, .int .u8 0, .int .u8 0, .int .u8 0, .int .u8 0, .int .u8 0, .int .u8 0, .int .u8 0, .int .u8 0] : List Value).toArray 39)
 have hb : Below w2.heap.size w2 w9 := hal.grown hg hal.size (by intro k hk; injection hk with hk; omega)
 have hfl := lt_of_block HF.out
 have hzl := lt_of_block HZ.out
 replace HB := Qh (bl_next HB.out HB.out.size hb)
 replace HD := Qh (HD.out.below hb)
 replace HF := Qh (bl_row hb (lt_of_block HF.out) HF.out)
 replace HZ := Qh (bl_row hb (lt_of_block HZ.out) HZ.out)
 have HO : Hid (w9.heap[w2.heap.size]? = some (.cells ((zeroF 8).cells (.slice none 0 0) (.slice none 0 0)).toArray 39 (0, 0))) := Qh hr
 clear hr hg hal hb
 obtain ⟨go, hgo⟩ : ∃ g, w2.heap.size = g := ⟨_, rfl⟩
 rw [hgo] at HO hfl hzl ⊢
 have hgl : w.heap.size ≤ go := by have := HG0.out; omega
 have hzw : w.heap.size ≤ gz := by have := HG0.out; have := HLTgz.out; omega
 clear hgo
 have c0 := cell_row HF.out 0 _ H_kind.out
 go_upto_region 12 with fail
 clear c0
 have g0 : ∀ z : In (fun y => y.heap[gf]? = some (.cells RF.toArray 39 (0, 0))), z.w.cell? ⟨gf, 1, none⟩ = some (.int .u64 f.st) := fun z => cell_row z.h 1 _ H_st.out
 have g1 : ∀ z : In (fun y => y.heap[gf]? = some (.cells RF.toArray 39 (0, 0))), z.w.cell? ⟨gf, 2, none⟩ = some (.int .u64 f.of_) := fun z => cell_row z.h 2 _ H_of_.out
 have g2 : ∀ z : In (fun y => y.heap[gf]? = some (.cells RF.toArray 39 (0, 0))), z.w.cell? ⟨gf, 3, none⟩ = some (.slice da dn dc) := fun z => cell_row z.h 3 _ H_data.out
 have g3 : ∀ z : In (fun y => y.heap[gf]? = some (.cells RF.toArray 39 (0, 0))), z.w.cell? ⟨gf, 4, none⟩ = some (.bool f.fin) := fun z => cell_row z.h 4 _ H_fin.out
 refine wp_plan (.t 0 (.t 1 (.t 2 (.t 3 (.t 4 (.t 5 (.t 7 (.t 8 (.t 9 (.u 6 (.u 10 (.t 11 (.u 12 (.t 13 (.u 14 (.t 15 (.u 16 .done))))))))))))))))) (fun y => y.heap[gf]? = some (.cells RF.toArray 39 (0, 0))) (by kernel_rfl) (by kernel_rfl) (by kernel_rfl) (fun c a d v w h => by cases d <;> exact h) HF.out ?_
 have hb := (Below.refl w9.heap.size w9).drew
 replace HB := Qh (bl_next HB.out HB.out.size hb)
 replace HZ := Qh (bl_row hb (lt_of_block HZ.out) HZ.out)
 replace HO := Qh (bl_row hb (lt_of_block HO.out) HO.out)
 replace HF := Qh (bl_row hb (lt_of_block HF.out) HF.out)
 replace HD := Qh (HD.out.below hb)
 clear hb
 generalize w9.drew = w10 at HB HZ HO HF HD ⊢
 haveI hne : Nonempty (In (fun y => y.heap[gf]? = some (.cells RF.toArray 39 (0, 0)))) := ⟨⟨w10, HF.out⟩⟩
 repeat (first | (refine plan_t (by rfl) ?_; (first | go_big_quiet_skip | (go_big_quiet_want; go_big_quiet_op; go_big_quiet_on)); refine wpQuiet_nil ?_))
 refine plan_us (by rfl) (by kernel_rfl) ?_
 intro K hK
 go_wp2_with fail
 refine Calls.mono (clone_any w10 da dn dc f.data (by omega) HD.out) ?_
 rintro e w11 ⟨v, rfl, hb, ho⟩
 have hlo : ∀ x, v.ownBlock = some x → w10.heap.size ≤ x := own_base ho
 have hgc : go < w10.heap.size := lt_of_block HO.out
 obtain ⟨va, vc, rfl, hv1, hv2⟩ := sl_own ho
 obtain ⟨va2, vc2, hv9, _, hi9, _⟩ := ints_of_own ho HD.out.2.1
 have HNI := Qh (by injection hv9 with e1; rw [← e1] at hi9; exact hi9 : IntsK .u8 _ va dn f.data)
 clear hv9
 have HBS : Hid (go < w10.heap.size ∧ w.heap.size ≤ w10.heap.size) := Qh ⟨hgc, HB.out.size⟩
 obtain ⟨bse, hbse⟩ : ∃ b, w10.heap.size = b := ⟨_, rfl⟩
 have HNO : Hid (World.ownsRow _ bse 5 1 (.slice va dn vc) dn (f.data.map (Value.int .u8))) := Qh (by rw [← hbse]; exact ho)
 rw [hbse] at HBS
 clear hbse
 have HVL : Hid (∀ x, va = some x → w.heap.size ≤ x.block ∧ go < x.block) := Qh (fun x hx => by have := hlo x.block (by rw [hx]; rfl); have := HB.out.size; omega)
 have HVC := Qh (And.intro hv1 hv2)
 replace HB := Qh (bl_next HB.out HB.out.size hb)
 replace HZ := Qh (bl_row hb (lt_of_block HZ.out) HZ.out)
 replace HO := Qh (bl_row hb (lt_of_block HO.out) HO.out)
 replace HF := Qh (bl_row hb (lt_of_block HF.out) HF.out)
 replace HD := Qh (HD.out.below hb)
 clear hb ho hlo hgc hv1 hv2 hi9
 go_wp2_with fail
 refine ⟨HF.out, ?_⟩
 repeat (first | (refine plan_t (by rfl) ?_; (first | go_big_quiet_skip | (go_big_quiet_want; go_big_quiet_op; go_big_quiet_on)); refine wpQuiet_nil ?_))
 refine plan_us (by rfl) (by kernel_rfl) ?_
 intro K hK
 have c2 := row_cell HO.out 1 _ rfl
 have f2 := row_free HO.out 1
 go_wp2_with fail
 clear c2 f2
 have hat := ((At.base HO.out).set 1 (.int .u64 f.st)).conv (cs' := (({ zeroF 8 with st := f.st } : Fr).cells (.slice none 0 0) (.slice none 0 0)).toArray) (by rfl)
 have HN := Qh hat.row; have HG9 := Qh hat.rest
 clear hat
 have HF9 := Qh (grown_row HG9.out (by intro e; injection e with e; omega) HF.out)
 refine ⟨HF9.out, ?_⟩
 generalize w11.setCell ⟨go, 1, none⟩ (.int .u64 f.st) = w12 at HN HG9 HF9 ⊢
 replace HF := HF9; replace HO := HN
 replace HZ := Qh (grown_row HG9.out (by intro e; injection e with e; omega) HZ.out)
 replace HB := Qh (HB.out.grown HG9.out HB.out.size (by intro k hk; injection hk with hk; omega))
 replace HNI := Qh (HNI.out.grown HG9.out (fun x hx e => by injection e with e; have := HVL.out x hx; omega))
 replace HNO := Qh (own_away HNO.out HG9.out HBS.out.1)
 clear HG9 HF9 HN
 repeat (first | (refine plan_t (by rfl) ?_; (first | go_big_quiet_skip | (go_big_quiet_want; go_big_quiet_op; go_big_quiet_on)); refine wpQuiet_nil ?_))
 refine plan_us (by rfl) (by kernel_rfl) ?_
 intro K hK
 have c2 := row_cell HO.out 2 _ rfl
 have f2 := row_free HO.out 2
 go_wp2_with fail
 clear c2 f2
 have hat := ((At.base HO.out).set 2 (.int .u64 f.of_)).conv (cs' := (({ zeroF 8 with st := f.st, of_ := f.of_ } : Fr).cells (.slice none 0 0) (.slice none 0 0)).toArray) (by rfl)
 have HN := Qh hat.row; have HG9 := Qh hat.rest
 clear hat
 have HF9 := Qh (grown_row HG9.out (by intro e; injection e with e; omega) HF.out)
 refine ⟨HF9.out, ?_⟩
 generalize w12.setCell ⟨go, 2, none⟩ (.int .u64 f.of_) = w13 at HN HG9 HF9 ⊢
 replace HF := HF9; replace HO := HN
 replace HZ := Qh (grown_row HG9.out (by intro e; injection e with e; omega) HZ.out)
 replace HB := Qh (HB.out.grown HG9.out HB.out.size (by intro k hk; injection hk with hk; omega))
 replace HNI := Qh (HNI.out.grown HG9.out (fun x hx e => by injection e with e; have := HVL.out x hx; omega))
 replace HNO := Qh (own_away HNO.out HG9.out HBS.out.1)
 clear HG9 HF9 HN
 repeat (first | (refine plan_t (by rfl) ?_; (first | go_big_quiet_skip | (go_big_quiet_want; go_big_quiet_op; go_big_quiet_on)); refine wpQuiet_nil ?_))
 refine plan_us (by rfl) (by kernel_rfl) ?_
 intro K hK
 have c2 := row_cell HO.out 3 _ rfl
 have f2 := row_free HO.out 3
 go_wp2_with fail
 clear c2 f2
 have hat := ((At.base HO.out).set 3 (.slice va dn vc)).conv (cs' := (({ zeroF 8 with st := f.st, of_ := f.of_, data := f.data } : Fr).cells (.slice va dn vc) (.slice none 0 0)).toArray) (by rfl)
 have HN := Qh hat.row; have HG9 := Qh hat.rest
 clear hat
 have HF9 := Qh (grown_row HG9.out (by intro e; injection e with e; omega) HF.out)
 refine ⟨HF9.out, ?_⟩
 generalize w13.setCell ⟨go, 3, none⟩ (.slice va dn vc) = w14 at HN HG9 HF9 ⊢
 replace HF := HF9; replace HO := HN
 replace HZ := Qh (grown_row HG9.out (by intro e; injection e with e; omega) HZ.out)
 replace HB := Qh (HB.out.grown HG9.out HB.out.size (by intro k hk; injection hk with hk; omega))
 replace HNI := Qh (HNI.out.grown HG9.out (fun x hx e => by injection e with e; have := HVL.out x hx; omega))
 replace HNO := Qh (own_away HNO.out HG9.out HBS.out.1)
 clear HG9 HF9 HN
 repeat (first | (refine plan_t (by rfl) ?_; (first | go_big_quiet_skip | (go_big_quiet_want; go_big_quiet_op; go_big_quiet_on)); refine wpQuiet_nil ?_))
 refine plan_us (by rfl) (by kernel_rfl) ?_
 intro K hK
 have c2 := row_cell HO.out 4 _ rfl
 have f2 := row_free HO.out 4
 go_wp2_with fail
 clear c2 f2
 have hat := ((At.base HO.out).set 4 (.bool f.fin)).conv (cs' := (({ zeroF 8 with st := f.st, of_ := f.of_, data := f.data, fin := f.fin } : Fr).cells (.slice va dn vc) (.slice none 0 0)).toArray) (by rfl)
 have HN := Qh hat.row; have HG9 := Qh hat.rest
 clear hat
 have HF9 := Qh (grown_row HG9.out (by intro e; injection e with e; omega) HF.out)
 refine ⟨HF9.out, ?_⟩
 generalize w14.setCell ⟨go, 4, none⟩ (.bool f.fin) = w15 at HN HG9 HF9 ⊢
 replace HF := HF9; replace HO := HN
 replace HZ := Qh (grown_row HG9.out (by intro e; injection e with e; omega) HZ.out)
 replace HB := Qh (HB.out.grown HG9.out HB.out.size (by intro k hk; injection hk with hk; omega))
 replace HNI := Qh (HNI.out.grown HG9.out (fun x hx e => by injection e with e; have := HVL.out x hx; omega))
 replace HNO := Qh (own_away HNO.out HG9.out HBS.out.1)
 clear HG9 HF9 HN
 repeat (first | (refine plan_t (by rfl) ?_; (first | go_big_quiet_skip | (go_big_quiet_want; go_big_quiet_op; go_big_quiet_on)); refine wpQuiet_nil ?_))
 clear hne g0 g1 g2 g3
 show Exit.inBlock _ _ _ _ _
 simp only [Exit.inBlock]
 have HL9 : Hid ((({ zeroF 8 with st := f.st, of_ := f.of_, data := f.data, fin := f.fin } : Fr).cells (.slice va dn vc) (.slice none 0 0)).length = 19) := Qh rfl
 have hz := zero_wf 8 (by omega)
 have hwf : ({ zeroF 8 with st := f.st, of_ := f.of_, data := f.data, fin := f.fin } : Fr).Wf := ⟨hz.kind, HWF.out.st, HWF.out.of_, hz.li, hz.co, hz.fi, hz.se, hz.de, hz.cidl, hz.cid⟩
 have HW9 := Qh hwf
 clear hz hwf
 have HON : Hid (∀ v ∈ ({ zeroF 8 with st := f.st, of_ := f.of_, data := f.data, fin := f.fin } : Fr).cells (.slice va dn vc) (.slice none 0 0), v.oneCell' = true) := Qh (fun v hv => by simp only [Fr.cells, List.mem_append, List.mem_cons, List.not_mem_nil, or_false, List.mem_map] at hv; rcases hv with hv | ⟨_, _, rfl⟩; rcases hv with rfl | rfl | rfl | rfl | rfl | rfl | rfl | rfl | rfl | rfl | rfl <;> rfl; rfl)
 obtain ⟨RX, hRX⟩ : ∃ R, ({ zeroF 8 with st := f.st, of_ := f.of_, data := f.data, fin := f.fin } : Fr).cells (.slice va dn vc) (.slice none 0 0) = R := ⟨_, rfl⟩
 have HRX := Qh hRX
 have HO9 := HO
 have hrow9 : w15.heap[go]? = some (.cells RX.toArray 39 (0, 0)) := by rw [← hRX]; exact HO.out
 replace HO := Qh hrow9
 rw [hRX] at HON HL9
 clear hRX hrow9 HO9
 go_wp2_with (first | (refine wpList_load_mid rfl 39 _ rfl go 0 rfl RX _ (rngL HO.out) Try.underlying39 rfl (by rw [HL9.out]; rfl) ?_) | (refine wpList_store_row rfl 39 _ _ rfl gz rfl RX ([.int .i64 0, .int .u64 0, .int .u64 0, .slice none 0 0, .bool false, .int .u64 0, .int .u64 0, .int .u64 0, .int .u64 0, .int .u64 0, .slice none 0 0, .int .u8 0, .int .u8 0, .int .u8 0, .int .u8 0, .int .u8 0, .int .u8 0, .int .u8 0, .int .u8 0] : List Value) rfl 39 HZ.out (by rw [HL9.out]; rfl) (by rw [HL9.out]; rfl) HON.out ?_; intro wz hz hgz; have HZ10 := Qh hz; have HGZ := Qh hgz; clear hz hgz) | fail)
 (try simp only [Exit.inBlock, Exit.then])
 refine bodyPost_ret (results_cell1 rfl _ _ gz rfl RX _ _ HZ10.out Try.underlying39 rfl (by rw [HL9.out]; rfl)) rfl ?_
 exact ⟨(.slice va dn vc), (.slice none 0 0), by rw [HRX.out], (FrAt.text HW9.out HVC.out (HNI.out.grown HGZ.out (fun x hx e => by injection e with e; have := HVL.out x hx; omega)) rfl), (FrLo.text (fun x hx => (HVL.out x hx).1)), HB.out.grown HGZ.out HB.out.size (by intro k hk; injection hk with hk; omega), _, own_lower (own_away HNO.out HGZ.out (by have := HBS.out.1; omega)) HBS.out.2⟩
theorem copy4_16 (w : World) (f : Fr) (dv rv : Value) (h : FrAt w f dv rv) (hk : f.kind = 16) :
  Calls Try.prog 25 #[.agg (f.cells dv rv).toArray] w fun e w' => ∃ dv' rv', e = .returned (.agg ((nrmF f).cells dv' rv').toArray) ∧ FrAt w' (nrmF f) dv' rv' ∧ FrLo w.heap.size dv' rv' ∧ Below w.heap.size w w' ∧ ∃ n, w'.ownsRow w.heap.size 5 1 dv' n ((nrmF f).data.map (Value.int .u8)) := by
 have hq : nrmF f = ({ zeroF 16 with li := f.li } : Fr) := by unfold nrmF; simp [hk]
 rw [hq]
 clear hq
 have hwf := h.wf
 have H_kind : Hid ((f.cells dv rv)[0]? = some (.int .i64 16)) := Qh (by rw [← hk]; rfl)
 have H_li : Hid ((f.cells dv rv)[5]? = some (.int .u64 f.li)) := Qh rfl
 have HRF : Hid ((f.cells dv rv).length = 19) := Qh (Fr.len hwf)
 obtain ⟨RF, hRF⟩ : ∃ R, (f.cells dv rv) = R := ⟨_, rfl⟩
 simp only [hRF] at HRF H_kind H_li
 rw [hRF]
 have HWF := Qh hwf
 clear hwf h hRF hk
 go_enter Try.func25, Try.ntmps25
 go_upto_region 1 with fail
 change Code.wp _ _ _ _ ((w.alloc (.cells RF.toArray 39)).alloc (.cells ([.int .i64 0, .int .u64 0, .int .u64 0, .slice none 0 0, .bool false, .int .u64 0, .int .u64 0, .int .u64 0, .int .u64 0, .int .u64 0, .slice none 0 0, .int .u8 0, .int .u8 0, .int .u8 0, .int .u8 0, .int .u8 0, .int .u8 0, .int .u8 0, .int .u8 0] : List Value).toArray 39))
 have HB := Qh (Below.refl w.heap.size w)
 obtain ⟨gf, hg0⟩ : ∃ g, w.heap.size = g := ⟨_, rfl⟩
 try rw [hg0]
 have hb := (Below.refl w.heap.size w).alloc (Nat.le_refl _) (.cells RF.toArray 39)
 have hrw := heap_alloc_new w (.cells RF.toArray 39)
 have hsz : (w.alloc (.cells RF.toArray 39)).heap.size = gf + 1 := by simp [hg0]
 rw [hg0] at hrw
 replace HB := Qh (bl_next HB.out HB.out.size hb)
 have HF := Qh hrw
 clear hb hrw
 generalize w.alloc (.cells RF.toArray 39) = w1 at HB HF hsz ⊢
 have hg1 := hsz
 clear hsz
 have HG0 := Qh hg0
 clear hg0
 have hb := (Below.refl w1.heap.size w1).alloc (Nat.le_refl _) (.cells ([.int .i64 0, .int .u64 0, .int .u64 0, .slice none 0 0, .bool false, .int .u64 0, .int .u64 0, .int .u64 0, .int .u64 0, .int .u64 0, .slice none 0 0, .int .u8 0, .int .u8 0, .int .u8 0, .int .u8 0, .int .u8 0, .int .u8 0, .int .u8 0, .int .u8 0] : List Value).toArray 39)
 have hrw := heap_alloc_new w1 (.cells ([.int .i64 0, .int .u64 0, .int .u64 0, .slice none 0 0, .bool false, .int .u64 0, .int .u64 0, .int .u64 0, .int .u64 0, .int .u64 0, .slice none 0 0, .int .u8 0, .int .u8 0, .int .u8 0, .int .u8 0, .int .u8 0, .int .u8 0, .int .u8 0, .int .u8 0] : List Value).toArray 39)
 have hsz : (w1.alloc (.cells ([.int .i64 0, .int .u64 0, .int .u64 0, .slice none 0 0, .bool false, .int .u64 0, .int .u64 0, .int .u64 0, .int .u64 0, .int .u64 0, .slice none 0 0, .int .u8 0, .int .u8 0, .int .u8 0, .int .u8 0, .int .u8 0, .int .u8 0, .int .u8 0, .int .u8 0] : List Value).toArray 39)).heap.size = gf + 1 + 1 := by simp [hg1]
 rw [hg1] at hrw
 replace HB := Qh (bl_next HB.out HB.out.size hb)
 replace HF := Qh (bl_row hb (lt_of_block HF.out) HF.out)
 have HZ := Qh hrw
 clear hb hrw
 generalize w1.alloc (.cells ([.int .i64 0, .int .u64 0, .int .u64 0, .slice none 0 0, .bool false, .int .u64 0, .int .u64 0, .int .u64 0, .int .u64 0, .int .u64 0, .slice none 0 0, .int .u8 0, .int .u8 0, .int .u8 0, .int .u8 0, .int .u8 0, .int .u8 0, .int .u8 0, .int .u8 0] : List Value).toArray 39) = w2 at HB HF HZ hsz ⊢
 have hg2 := hsz
 clear hsz
 clear hg1
 obtain ⟨gz, hgg⟩ : ∃ g, gf + 1 = g := ⟨_, rfl⟩
 rw [hgg] at HZ hg2 ⊢
 have HLTgz : Hid (gf < gz) := Qh (by omega)
 clear hgg
 clear hg2
 have c0 := cell_row HF.out 0 _ H_kind.out
 go_upto_region 2 with (first | (refine wpList_store_row rfl 39 _ _ rfl _ rfl [.int .i64 16, .int .u64 0, .int .u64 0, .slice none 0 0, .bool false, .int .u64 0, .int .u64 0, .int .u64 0, .int .u64 0, .int .u64 0, .slice none 0 0, .int .u8 0, .int .u8 0, .int .u8 0, .int .u8 0, .int .u8 0, .int .u8 0, .int .u8 0, .int .u8 0] ([.int .i64 0, .int .u64 0, .int .u64 0, .slice none 0 0, .bool false, .int .u64 0, .int .u64 0, .int .u64 0, .int .u64 0, .int .u64 0, .slice none 0 0, .int .u8 0, .int .u8 0, .int .u8 0, .int .u8 0, .int .u8 0, .int .u8 0, .int .u8 0, .int .u8 0] : List Value) rfl 39 (heap_alloc_new _ _) rfl rfl (one19 rfl rfl) ?_; intro w9 hr hg) | fail)
 clear c0
 have hal := (Below.refl w2.heap.size w2).alloc (Nat.le_refl _) (.cells ([.int .i64 0, .int .u64 0, .int .u64 0, .slice none 0 0, .bool false, .int .u64 0, .int .u64 0, .int .u64 0, .int .u64 0, .int .u64 0, .slice none 0 0, .int .u8 0, .int .u8 0, .int .u8 0, .int .u8 0, .int .u8 0, .int .u8 0, .int .u8 0, .int .u8 0] : List Value).toArray 39)
 have hb : Below w2.heap.size w2 w9 := hal.grown hg hal.size (by intro k hk; injection hk with hk; omega)
 have hfl := lt_of_block HF.out
 have hzl := lt_of_block HZ.out
 replace HB := Qh (bl_next HB.out HB.out.size hb)
 replace HF := Qh (bl_row hb (lt_of_block HF.out) HF.out)
 replace HZ := Qh (bl_row hb (lt_of_block HZ.out) HZ.out)
 have HO : Hid (w9.heap[w2.heap.size]? = some (.cells ((zeroF 16).cells (.slice none 0 0) (.slice none 0 0)).toArray 39 (0, 0))) := Qh hr
 clear hr hg hal hb
 obtain ⟨go, hgo⟩ : ∃ g, w2.heap.size = g := ⟨_, rfl⟩
 rw [hgo] at HO hfl hzl ⊢
 have hgl : w.heap.size ≤ go := by have := HG0.out; omega
 have hzw : w.heap.size ≤ gz := by have := HG0.out; have := HLTgz.out; omega
 clear hgo
 have c0 := cell_row HF.out 0 _ H_kind.out
 have c1 := cell_row HF.out 5 _ H_li.out
 have c2 := row_cell HO.out 5 _ rfl
 have f2 := row_free HO.out 5
 go_upto_region 28 with fail
 clear c1 c2 f2
 have hat := ((At.base HO.out).set 5 (.int .u64 f.li)).conv (cs' := (({ zeroF 16 with li := f.li } : Fr).cells (.slice none 0 0) (.slice none 0 0)).toArray) (by rfl)
 replace HO := Qh hat.row
 have HG9 := Qh hat.rest
 clear hat
 generalize w9.setCell ⟨go, 5, none⟩ (.int .u64 f.li) = w10 at HO HG9 ⊢
 clear c0
 replace HF := Qh (grown_row HG9.out (by intro e; injection e with e; omega) HF.out)
 replace HZ := Qh (grown_row HG9.out (by intro e; injection e with e; omega) HZ.out)
 replace HB := Qh (HB.out.grown HG9.out HB.out.size (by intro k hk; injection hk with hk; omega))
 clear HG9
 have HL9 : Hid ((({ zeroF 16 with li := f.li } : Fr).cells (.slice none 0 0) (.slice none 0 0)).length = 19) := Qh rfl
 have hz := zero_wf 16 (by omega)
 have hwf : ({ zeroF 16 with li := f.li } : Fr).Wf := ⟨hz.kind, hz.st, hz.of_, HWF.out.li, hz.co, hz.fi, hz.se, hz.de, hz.cidl, hz.cid⟩
 have HW9 := Qh hwf
 clear hz hwf
 have HON : Hid (∀ v ∈ ({ zeroF 16 with li := f.li } : Fr).cells (.slice none 0 0) (.slice none 0 0), v.oneCell' = true) := Qh (fun v hv => by simp only [Fr.cells, List.mem_append, List.mem_cons, List.not_mem_nil, or_false, List.mem_map] at hv; rcases hv with hv | ⟨_, _, rfl⟩; rcases hv with rfl | rfl | rfl | rfl | rfl | rfl | rfl | rfl | rfl | rfl | rfl <;> rfl; rfl)
 obtain ⟨RX, hRX⟩ : ∃ R, ({ zeroF 16 with li := f.li } : Fr).cells (.slice none 0 0) (.slice none 0 0) = R := ⟨_, rfl⟩
 have HRX := Qh hRX
 have HO9 := HO
 have hrow9 : w10.heap[go]? = some (.cells RX.toArray 39 (0, 0)) := by rw [← hRX]; exact HO.out
 replace HO := Qh hrow9
 rw [hRX] at HON HL9
 clear hRX hrow9 HO9
 go_wp2_with (first | (refine wpList_load_mid rfl 39 _ rfl go 0 rfl RX _ (rngL HO.out) Try.underlying39 rfl (by rw [HL9.out]; rfl) ?_) | (refine wpList_store_row rfl 39 _ _ rfl gz rfl RX ([.int .i64 0, .int .u64 0, .int .u64 0, .slice none 0 0, .bool false, .int .u64 0, .int .u64 0, .int .u64 0, .int .u64 0, .int .u64 0, .slice none 0 0, .int .u8 0, .int .u8 0, .int .u8 0, .int .u8 0, .int .u8 0, .int .u8 0, .int .u8 0, .int .u8 0] : List Value) rfl 39 HZ.out (by rw [HL9.out]; rfl) (by rw [HL9.out]; rfl) HON.out ?_; intro wz hz hgz; have HZ10 := Qh hz; have HGZ := Qh hgz; clear hz hgz) | fail)
 (try simp only [Exit.inBlock, Exit.then])
 refine bodyPost_ret (results_cell1 rfl _ _ gz rfl RX _ _ HZ10.out Try.underlying39 rfl (by rw [HL9.out]; rfl)) rfl ?_
 exact ⟨(.slice none 0 0), (.slice none 0 0), by rw [HRX.out], (FrAt.bare HW9.out rfl rfl), (FrLo.nil _), HB.out.grown HGZ.out HB.out.size (by intro k hk; injection hk with hk; omega), 0, World.ownsRow_nil _ _ _ _⟩
theorem copy4_18 (w : World) (f : Fr) (dv rv : Value) (h : FrAt w f dv rv) (hk : f.kind = 18) :
  Calls Try.prog 25 #[.agg (f.cells dv rv).toArray] w fun e w' => ∃ dv' rv', e = .returned (.agg ((nrmF f).cells dv' rv').toArray) ∧ FrAt w' (nrmF f) dv' rv' ∧ FrLo w.heap.size dv' rv' ∧ Below w.heap.size w w' ∧ ∃ n, w'.ownsRow w.heap.size 5 1 dv' n ((nrmF f).data.map (Value.int .u8)) := by
 have hq : nrmF f = ({ zeroF 18 with li := f.li } : Fr) := by unfold nrmF; simp [hk]
 rw [hq]
 clear hq
 have hwf := h.wf
 have H_kind : Hid ((f.cells dv rv)[0]? = some (.int .i64 18)) := Qh (by rw [← hk]; rfl)
 have H_li : Hid ((f.cells dv rv)[5]? = some (.int .u64 f.li)) := Qh rfl
 have HRF : Hid ((f.cells dv rv).length = 19) := Qh (Fr.len hwf)
 obtain ⟨RF, hRF⟩ : ∃ R, (f.cells dv rv) = R := ⟨_, rfl⟩
 simp only [hRF] at HRF H_kind H_li
 rw [hRF]
 have HWF := Qh hwf
 clear hwf h hRF hk
 go_enter Try.func25, Try.ntmps25
 go_upto_region 1 with fail
 change Code.wp _ _ _ _ ((w.alloc (.cells RF.toArray 39)).alloc (.cells ([.int .i64 0, .int .u64 0, .int .u64 0, .slice none 0 0, .bool false, .int .u64 0, .int .u64 0, .int .u64 0, .int .u64 0, .int .u64 0, .slice none 0 0, .int .u8 0, .int .u8 0, .int .u8 0, .int .u8 0, .int .u8 0, .int .u8 0, .int .u8 0, .int .u8 0] : List Value).toArray 39))
 have HB := Qh (Below.refl w.heap.size w)
 obtain ⟨gf, hg0⟩ : ∃ g, w.heap.size = g := ⟨_, rfl⟩
 try rw [hg0]
 have hb := (Below.refl w.heap.size w).alloc (Nat.le_refl _) (.cells RF.toArray 39)
 have hrw := heap_alloc_new w (.cells RF.toArray 39)
 have hsz : (w.alloc (.cells RF.toArray 39)).heap.size = gf + 1 := by simp [hg0]
 rw [hg0] at hrw
 replace HB := Qh (bl_next HB.out HB.out.size hb)
 have HF := Qh hrw
 clear hb hrw
 generalize w.alloc (.cells RF.toArray 39) = w1 at HB HF hsz ⊢
 have hg1 := hsz
 clear hsz
 have HG0 := Qh hg0
 clear hg0
 have hb := (Below.refl w1.heap.size w1).alloc (Nat.le_refl _) (.cells ([.int .i64 0, .int .u64 0, .int .u64 0, .slice none 0 0, .bool false, .int .u64 0, .int .u64 0, .int .u64 0, .int .u64 0, .int .u64 0, .slice none 0 0, .int .u8 0, .int .u8 0, .int .u8 0, .int .u8 0, .int .u8 0, .int .u8 0, .int .u8 0, .int .u8 0] : List Value).toArray 39)
 have hrw := heap_alloc_new w1 (.cells ([.int .i64 0, .int .u64 0, .int .u64 0, .slice none 0 0, .bool false, .int .u64 0, .int .u64 0, .int .u64 0, .int .u64 0, .int .u64 0, .slice none 0 0, .int .u8 0, .int .u8 0, .int .u8 0, .int .u8 0, .int .u8 0, .int .u8 0, .int .u8 0, .int .u8 0] : List Value).toArray 39)
 have hsz : (w1.alloc (.cells ([.int .i64 0, .int .u64 0, .int .u64 0, .slice none 0 0, .bool false, .int .u64 0, .int .u64 0, .int .u64 0, .int .u64 0, .int .u64 0, .slice none 0 0, .int .u8 0, .int .u8 0, .int .u8 0, .int .u8 0, .int .u8 0, .int .u8 0, .int .u8 0, .int .u8 0] : List Value).toArray 39)).heap.size = gf + 1 + 1 := by simp [hg1]
 rw [hg1] at hrw
 replace HB := Qh (bl_next HB.out HB.out.size hb)
 replace HF := Qh (bl_row hb (lt_of_block HF.out) HF.out)
 have HZ := Qh hrw
 clear hb hrw
 generalize w1.alloc (.cells ([.int .i64 0, .int .u64 0, .int .u64 0, .slice none 0 0, .bool false, .int .u64 0, .int .u64 0, .int .u64 0, .int .u64 0, .int .u64 0, .slice none 0 0, .int .u8 0, .int .u8 0, .int .u8 0, .int .u8 0, .int .u8 0, .int .u8 0, .int .u8 0, .int .u8 0] : List Value).toArray 39) = w2 at HB HF HZ hsz ⊢
 have hg2 := hsz
 clear hsz
 clear hg1
 obtain ⟨gz, hgg⟩ : ∃ g, gf + 1 = g := ⟨_, rfl⟩
 rw [hgg] at HZ hg2 ⊢
 have HLTgz : Hid (gf < gz) := Qh (by omega)
 clear hgg
 clear hg2
 have c0 := cell_row HF.out 0 _ H_kind.out
 go_upto_region 2 with (first | (refine wpList_store_row rfl 39 _ _ rfl _ rfl [.int .i64 18, .int .u64 0, .int .u64 0, .slice none 0 0, .bool false, .int .u64 0, .int .u64 0, .int .u64 0, .int .u64 0, .int .u64 0, .slice none 0 0, .int .u8 0, .int .u8 0, .int .u8 0, .int .u8 0, .int .u8 0, .int .u8 0, .int .u8 0, .int .u8 0] ([.int .i64 0, .int .u64 0, .int .u64 0, .slice none 0 0, .bool false, .int .u64 0, .int .u64 0, .int .u64 0, .int .u64 0, .int .u64 0, .slice none 0 0, .int .u8 0, .int .u8 0, .int .u8 0, .int .u8 0, .int .u8 0, .int .u8 0, .int .u8 0, .int .u8 0] : List Value) rfl 39 (heap_alloc_new _ _) rfl rfl (one19 rfl rfl) ?_; intro w9 hr hg) | fail)
 clear c0
 have hal := (Below.refl w2.heap.size w2).alloc (Nat.le_refl _) (.cells ([.int .i64 0, .int .u64 0, .int .u64 0, .slice none 0 0, .bool false, .int .u64 0, .int .u64 0, .int .u64 0, .int .u64 0, .int .u64 0, .slice none 0 0, .int .u8 0, .int .u8 0, .int .u8 0, .int .u8 0, .int .u8 0, .int .u8 0, .int .u8 0, .int .u8 0] : List Value).toArray 39)
 have hb : Below w2.heap.size w2 w9 := hal.grown hg hal.size (by intro k hk; injection hk with hk; omega)
 have hfl := lt_of_block HF.out
 have hzl := lt_of_block HZ.out
 replace HB := Qh (bl_next HB.out HB.out.size hb)
 replace HF := Qh (bl_row hb (lt_of_block HF.out) HF.out)
 replace HZ := Qh (bl_row hb (lt_of_block HZ.out) HZ.out)
 have HO : Hid (w9.heap[w2.heap.size]? = some (.cells ((zeroF 18).cells (.slice none 0 0) (.slice none 0 0)).toArray 39 (0, 0))) := Qh hr
 clear hr hg hal hb
 obtain ⟨go, hgo⟩ : ∃ g, w2.heap.size = g := ⟨_, rfl⟩
 rw [hgo] at HO hfl hzl ⊢
 have hgl : w.heap.size ≤ go := by have := HG0.out; omega
 have hzw : w.heap.size ≤ gz := by have := HG0.out; have := HLTgz.out; omega
 clear hgo
 have c0 := cell_row HF.out 0 _ H_kind.out
 have c1 := cell_row HF.out 5 _ H_li.out
 have c2 := row_cell HO.out 5 _ rfl
 have f2 := row_free HO.out 5
 go_upto_region 28 with fail
 clear c1 c2 f2
 have hat := ((At.base HO.out).set 5 (.int .u64 f.li)).conv (cs' := (({ zeroF 18 with li := f.li } : Fr).cells (.slice none 0 0) (.slice none 0 0)).toArray) (by rfl)
 replace HO := Qh hat.row
 have HG9 := Qh hat.rest
 clear hat
 generalize w9.setCell ⟨go, 5, none⟩ (.int .u64 f.li) = w10 at HO HG9 ⊢
 clear c0
 replace HF := Qh (grown_row HG9.out (by intro e; injection e with e; omega) HF.out)
 replace HZ := Qh (grown_row HG9.out (by intro e; injection e with e; omega) HZ.out)
 replace HB := Qh (HB.out.grown HG9.out HB.out.size (by intro k hk; injection hk with hk; omega))
 clear HG9
 have HL9 : Hid ((({ zeroF 18 with li := f.li } : Fr).cells (.slice none 0 0) (.slice none 0 0)).length = 19) := Qh rfl
 have hz := zero_wf 18 (by omega)
 have hwf : ({ zeroF 18 with li := f.li } : Fr).Wf := ⟨hz.kind, hz.st, hz.of_, HWF.out.li, hz.co, hz.fi, hz.se, hz.de, hz.cidl, hz.cid⟩
 have HW9 := Qh hwf
 clear hz hwf
 have HON : Hid (∀ v ∈ ({ zeroF 18 with li := f.li } : Fr).cells (.slice none 0 0) (.slice none 0 0), v.oneCell' = true) := Qh (fun v hv => by simp only [Fr.cells, List.mem_append, List.mem_cons, List.not_mem_nil, or_false, List.mem_map] at hv; rcases hv with hv | ⟨_, _, rfl⟩; rcases hv with rfl | rfl | rfl | rfl | rfl | rfl | rfl | rfl | rfl | rfl | rfl <;> rfl; rfl)
 obtain ⟨RX, hRX⟩ : ∃ R, ({ zeroF 18 with li := f.li } : Fr).cells (.slice none 0 0) (.slice none 0 0) = R := ⟨_, rfl⟩
 have HRX := Qh hRX
 have HO9 := HO
 have hrow9 : w10.heap[go]? = some (.cells RX.toArray 39 (0, 0)) := by rw [← hRX]; exact HO.out
 replace HO := Qh hrow9
 rw [hRX] at HON HL9
 clear hRX hrow9 HO9
 go_wp2_with (first | (refine wpList_load_mid rfl 39 _ rfl go 0 rfl RX _ (rngL HO.out) Try.underlying39 rfl (by rw [HL9.out]; rfl) ?_) | (refine wpList_store_row rfl 39 _ _ rfl gz rfl RX ([.int .i64 0, .int .u64 0, .int .u64 0, .slice none 0 0, .bool false, .int .u64 0, .int .u64 0, .int .u64 0, .int .u64 0, .int .u64 0, .slice none 0 0, .int .u8 0, .int .u8 0, .int .u8 0, .int .u8 0, .int .u8 0, .int .u8 0, .int .u8 0, .int .u8 0] : List Value) rfl 39 HZ.out (by rw [HL9.out]; rfl) (by rw [HL9.out]; rfl) HON.out ?_; intro wz hz hgz; have HZ10 := Qh hz; have HGZ := Qh hgz; clear hz hgz) | fail)
 (try simp only [Exit.inBlock, Exit.then])
 refine bodyPost_ret (results_cell1 rfl _ _ gz rfl RX _ _ HZ10.out Try.underlying39 rfl (by rw [HL9.out]; rfl)) rfl ?_
 exact ⟨(.slice none 0 0), (.slice none 0 0), by rw [HRX.out], (FrAt.bare HW9.out rfl rfl), (FrLo.nil _), HB.out.grown HGZ.out HB.out.size (by intro k hk; injection hk with hk; omega), 0, World.ownsRow_nil _ _ _ _⟩
theorem copy4_20 (w : World) (f : Fr) (dv rv : Value) (h : FrAt w f dv rv) (hk : f.kind = 20) :
  Calls Try.prog 25 #[.agg (f.cells dv rv).toArray] w fun e w' => ∃ dv' rv', e = .returned (.agg ((nrmF f).cells dv' rv').toArray) ∧ FrAt w' (nrmF f) dv' rv' ∧ FrLo w.heap.size dv' rv' ∧ Below w.heap.size w w' ∧ ∃ n, w'.ownsRow w.heap.size 5 1 dv' n ((nrmF f).data.map (Value.int .u8)) := by
 have hq : nrmF f = ({ zeroF 20 with li := f.li } : Fr) := by unfold nrmF; simp [hk]
 rw [hq]
 clear hq
 have hwf := h.wf
 have H_kind : Hid ((f.cells dv rv)[0]? = some (.int .i64 20)) := Qh (by rw [← hk]; rfl)
 have H_li : Hid ((f.cells dv rv)[5]? = some (.int .u64 f.li)) := Qh rfl
 have HRF : Hid ((f.cells dv rv).length = 19) := Qh (Fr.len hwf)
 obtain ⟨RF, hRF⟩ : ∃ R, (f.cells dv rv) = R := ⟨_, rfl⟩
 simp only [hRF] at HRF H_kind H_li
 rw [hRF]
 have HWF := Qh hwf
 clear hwf h hRF hk
 go_enter Try.func25, Try.ntmps25
 go_upto_region 1 with fail
 change Code.wp _ _ _ _ ((w.alloc (.cells RF.toArray 39)).alloc (.cells ([.int .i64 0, .int .u64 0, .int .u64 0, .slice none 0 0, .bool false, .int .u64 0, .int .u64 0, .int .u64 0, .int .u64 0, .int .u64 0, .slice none 0 0, .int .u8 0, .int .u8 0, .int .u8 0, .int .u8 0, .int .u8 0, .int .u8 0, .int .u8 0, .int .u8 0] : List Value).toArray 39))
 have HB := Qh (Below.refl w.heap.size w)
 obtain ⟨gf, hg0⟩ : ∃ g, w.heap.size = g := ⟨_, rfl⟩
 try rw [hg0]
 have hb := (Below.refl w.heap.size w).alloc (Nat.le_refl _) (.cells RF.toArray 39)
 have hrw := heap_alloc_new w (.cells RF.toArray 39)
 have hsz : (w.alloc (.cells RF.toArray 39)).heap.size = gf + 1 := by simp [hg0]
 rw [hg0] at hrw
 replace HB := Qh (bl_next HB.out HB.out.size hb)
 have HF := Qh hrw
 clear hb hrw
 generalize w.alloc (.cells RF.toArray 39) = w1 at HB HF hsz ⊢
 have hg1 := hsz
 clear hsz
 have HG0 := Qh hg0
 clear hg0
 have hb := (Below.refl w1.heap.size w1).alloc (Nat.le_refl _) (.cells ([.int .i64 0, .int .u64 0, .int .u64 0, .slice none 0 0, .bool false, .int .u64 0, .int .u64 0, .int .u64 0, .int .u64 0, .int .u64 0, .slice none 0 0, .int .u8 0, .int .u8 0, .int .u8 0, .int .u8 0, .int .u8 0, .int .u8 0, .int .u8 0, .int .u8 0] : List Value).toArray 39)
 have hrw := heap_alloc_new w1 (.cells ([.int .i64 0, .int .u64 0, .int .u64 0, .slice none 0 0, .bool false, .int .u64 0, .int .u64 0, .int .u64 0, .int .u64 0, .int .u64 0, .slice none 0 0, .int .u8 0, .int .u8 0, .int .u8 0, .int .u8 0, .int .u8 0, .int .u8 0, .int .u8 0, .int .u8 0] : List Value).toArray 39)
 have hsz : (w1.alloc (.cells ([.int .i64 0, .int .u64 0, .int .u64 0, .slice none 0 0, .bool false, .int .u64 0, .int .u64 0, .int .u64 0, .int .u64 0, .int .u64 0, .slice none 0 0, .int .u8 0, .int .u8 0, .int .u8 0, .int .u8 0, .int .u8 0, .int .u8 0, .int .u8 0, .int .u8 0] : List Value).toArray 39)).heap.size = gf + 1 + 1 := by simp [hg1]
 rw [hg1] at hrw
 replace HB := Qh (bl_next HB.out HB.out.size hb)
 replace HF := Qh (bl_row hb (lt_of_block HF.out) HF.out)
 have HZ := Qh hrw
 clear hb hrw
 generalize w1.alloc (.cells ([.int .i64 0, .int .u64 0, .int .u64 0, .slice none 0 0, .bool false, .int .u64 0, .int .u64 0, .int .u64 0, .int .u64 0, .int .u64 0, .slice none 0 0, .int .u8 0, .int .u8 0, .int .u8 0, .int .u8 0, .int .u8 0, .int .u8 0, .int .u8 0, .int .u8 0] : List Value).toArray 39) = w2 at HB HF HZ hsz ⊢
 have hg2 := hsz
 clear hsz
 clear hg1
 obtain ⟨gz, hgg⟩ : ∃ g, gf + 1 = g := ⟨_, rfl⟩
 rw [hgg] at HZ hg2 ⊢
 have HLTgz : Hid (gf < gz) := Qh (by omega)
 clear hgg
 clear hg2
 have c0 := cell_row HF.out 0 _ H_kind.out
 go_upto_region 2 with (first | (refine wpList_store_row rfl 39 _ _ rfl _ rfl [.int .i64 20, .int .u64 0, .int .u64 0, .slice none 0 0, .bool false, .int .u64 0, .int .u64 0, .int .u64 0, .int .u64 0, .int .u64 0, .slice none 0 0, .int .u8 0, .int .u8 0, .int .u8 0, .int .u8 0, .int .u8 0, .int .u8 0, .int .u8 0, .int .u8 0] ([.int .i64 0, .int .u64 0, .int .u64 0, .slice none 0 0, .bool false, .int .u64 0, .int .u64 0, .int .u64 0, .int .u64 0, .int .u64 0, .slice none 0 0, .int .u8 0, .int .u8 0, .int .u8 0, .int .u8 0, .int .u8 0, .int .u8 0, .int .u8 0, .int .u8 0] : List Value) rfl 39 (heap_alloc_new _ _) rfl rfl (one19 rfl rfl) ?_; intro w9 hr hg) | fail)
 clear c0
 have hal := (Below.refl w2.heap.size w2).alloc (Nat.le_refl _) (.cells ([.int .i64 0, .int .u64 0, .int .u64 0, .slice none 0 0, .bool false, .int .u64 0, .int .u64 0, .int .u64 0, .int .u64 0, .int .u64 0, .slice none 0 0, .int .u8 0, .int .u8 0, .int .u8 0, .int .u8 0, .int .u8 0, .int .u8 0, .int .u8 0, .int .u8 0] : List Value).toArray 39)
 have hb : Below w2.heap.size w2 w9 := hal.grown hg hal.size (by intro k hk; injection hk with hk; omega)
 have hfl := lt_of_block HF.out
 have hzl := lt_of_block HZ.out
 replace HB := Qh (bl_next HB.out HB.out.size hb)
 replace HF := Qh (bl_row hb (lt_of_block HF.out) HF.out)
 replace HZ := Qh (bl_row hb (lt_of_block HZ.out) HZ.out)
 have HO : Hid (w9.heap[w2.heap.size]? = some (.cells ((zeroF 20).cells (.slice none 0 0) (.slice none 0 0)).toArray 39 (0, 0))) := Qh hr
 clear hr hg hal hb
 obtain ⟨go, hgo⟩ : ∃ g, w2.heap.size = g := ⟨_, rfl⟩
 rw [hgo] at HO hfl hzl ⊢
 have hgl : w.heap.size ≤ go := by have := HG0.out; omega
 have hzw : w.heap.size ≤ gz := by have := HG0.out; have := HLTgz.out; omega
 clear hgo
 have c0 := cell_row HF.out 0 _ H_kind.out
 have c1 := cell_row HF.out 5 _ H_li.out
 have c2 := row_cell HO.out 5 _ rfl
 have f2 := row_free HO.out 5
 go_upto_region 28 with fail
 clear c1 c2 f2
 have hat := ((At.base HO.out).set 5 (.int .u64 f.li)).conv (cs' := (({ zeroF 20 with li := f.li } : Fr).cells (.slice none 0 0) (.slice none 0 0)).toArray) (by rfl)
 replace HO := Qh hat.row
 have HG9 := Qh hat.rest
 clear hat
 generalize w9.setCell ⟨go, 5, none⟩ (.int .u64 f.li) = w10 at HO HG9 ⊢
 clear c0
 replace HF := Qh (grown_row HG9.out (by intro e; injection e with e; omega) HF.out)
 replace HZ := Qh (grown_row HG9.out (by intro e; injection e with e; omega) HZ.out)
 replace HB := Qh (HB.out.grown HG9.out HB.out.size (by intro k hk; injection hk with hk; omega))
 clear HG9
 have HL9 : Hid ((({ zeroF 20 with li := f.li } : Fr).cells (.slice none 0 0) (.slice none 0 0)).length = 19) := Qh rfl
 have hz := zero_wf 20 (by omega)
 have hwf : ({ zeroF 20 with li := f.li } : Fr).Wf := ⟨hz.kind, hz.st, hz.of_, HWF.out.li, hz.co, hz.fi, hz.se, hz.de, hz.cidl, hz.cid⟩
 have HW9 := Qh hwf
 clear hz hwf
 have HON : Hid (∀ v ∈ ({ zeroF 20 with li := f.li } : Fr).cells (.slice none 0 0) (.slice none 0 0), v.oneCell' = true) := Qh (fun v hv => by simp only [Fr.cells, List.mem_append, List.mem_cons, List.not_mem_nil, or_false, List.mem_map] at hv; rcases hv with hv | ⟨_, _, rfl⟩; rcases hv with rfl | rfl | rfl | rfl | rfl | rfl | rfl | rfl | rfl | rfl | rfl <;> rfl; rfl)
 obtain ⟨RX, hRX⟩ : ∃ R, ({ zeroF 20 with li := f.li } : Fr).cells (.slice none 0 0) (.slice none 0 0) = R := ⟨_, rfl⟩
 have HRX := Qh hRX
 have HO9 := HO
 have hrow9 : w10.heap[go]? = some (.cells RX.toArray 39 (0, 0)) := by rw [← hRX]; exact HO.out
 replace HO := Qh hrow9
 rw [hRX] at HON HL9
 clear hRX hrow9 HO9
 go_wp2_with (first | (refine wpList_load_mid rfl 39 _ rfl go 0 rfl RX _ (rngL HO.out) Try.underlying39 rfl (by rw [HL9.out]; rfl) ?_) | (refine wpList_store_row rfl 39 _ _ rfl gz rfl RX ([.int .i64 0, .int .u64 0, .int .u64 0, .slice none 0 0, .bool false, .int .u64 0, .int .u64 0, .int .u64 0, .int .u64 0, .int .u64 0, .slice none 0 0, .int .u8 0, .int .u8 0, .int .u8 0, .int .u8 0, .int .u8 0, .int .u8 0, .int .u8 0, .int .u8 0] : List Value) rfl 39 HZ.out (by rw [HL9.out]; rfl) (by rw [HL9.out]; rfl) HON.out ?_; intro wz hz hgz; have HZ10 := Qh hz; have HGZ := Qh hgz; clear hz hgz) | fail)
 (try simp only [Exit.inBlock, Exit.then])
 refine bodyPost_ret (results_cell1 rfl _ _ gz rfl RX _ _ HZ10.out Try.underlying39 rfl (by rw [HL9.out]; rfl)) rfl ?_
 exact ⟨(.slice none 0 0), (.slice none 0 0), by rw [HRX.out], (FrAt.bare HW9.out rfl rfl), (FrLo.nil _), HB.out.grown HGZ.out HB.out.size (by intro k hk; injection hk with hk; omega), 0, World.ownsRow_nil _ _ _ _⟩
theorem copy4_17 (w : World) (f : Fr) (dv rv : Value) (h : FrAt w f dv rv) (hk : f.kind = 17) :
  Calls Try.prog 25 #[.agg (f.cells dv rv).toArray] w fun e w' => ∃ dv' rv', e = .returned (.agg ((nrmF f).cells dv' rv').toArray) ∧ FrAt w' (nrmF f) dv' rv' ∧ FrLo w.heap.size dv' rv' ∧ Below w.heap.size w w' ∧ ∃ n, w'.ownsRow w.heap.size 5 1 dv' n ((nrmF f).data.map (Value.int .u8)) := by
 have hq : nrmF f = ({ zeroF 17 with st := f.st, li := f.li } : Fr) := by unfold nrmF; simp [hk]
 rw [hq]
 clear hq
 have hwf := h.wf
 have H_kind : Hid ((f.cells dv rv)[0]? = some (.int .i64 17)) := Qh (by rw [← hk]; rfl)
 have H_st : Hid ((f.cells dv rv)[1]? = some (.int .u64 f.st)) := Qh rfl
 have H_li : Hid ((f.cells dv rv)[5]? = some (.int .u64 f.li)) := Qh rfl
 have HRF : Hid ((f.cells dv rv).length = 19) := Qh (Fr.len hwf)
 obtain ⟨RF, hRF⟩ : ∃ R, (f.cells dv rv) = R := ⟨_, rfl⟩
 simp only [hRF] at HRF H_kind H_st H_li
 rw [hRF]
 have HWF := Qh hwf
 clear hwf h hRF hk
 go_enter Try.func25, Try.ntmps25
 go_upto_region 1 with fail
 change Code.wp _ _ _ _ ((w.alloc (.cells RF.toArray 39)).alloc (.cells ([.int .i64 0, .int .u64 0, .int .u64 0, .slice none 0 0, .bool false, .int .u64 0, .int .u64 0, .int .u64 0, .int .u64 0, .int .u64 0, .slice none 0 0, .int .u8 0, .int .u8 0, .int .u8 0, .int .u8 0, .int .u8 0, .int .u8 0, .int .u8 0, .int .u8 0] : List Value).toArray 39))
 have HB := Qh (Below.refl w.heap.size w)
 obtain ⟨gf, hg0⟩ : ∃ g, w.heap.size = g := ⟨_, rfl⟩
 try rw [hg0]
 have hb := (Below.refl w.heap.size w).alloc (Nat.le_refl _) (.cells RF.toArray 39)
 have hrw := heap_alloc_new w (.cells RF.toArray 39)
 have hsz : (w.alloc (.cells RF.toArray 39)).heap.size = gf + 1 := by simp [hg0]
 rw [hg0] at hrw
 replace HB := Qh (bl_next HB.out HB.out.size hb)
 have HF := Qh hrw
 clear hb hrw
 generalize w.alloc (.cells RF.toArray 39) = w1 at HB HF hsz ⊢
 have hg1 := hsz
 clear hsz
 have HG0 := Qh hg0
 clear hg0
 have hb := (Below.refl w1.heap.size w1).alloc (Nat.le_refl _) (.cells ([.int .i64 0, .int .u64 0, .int .u64 0, .slice none 0 0, .bool false, .int .u64 0, .int .u64 0, .int .u64 0, .int .u64 0, .int .u64 0, .slice none 0 0, .int .u8 0, .int .u8 0, .int .u8 0, .int .u8 0, .int .u8 0, .int .u8 0, .int .u8 0, .int .u8 0] : List Value).toArray 39)
 have hrw := heap_alloc_new w1 (.cells ([.int .i64 0, .int .u64 0, .int .u64 0, .slice none 0 0, .bool false, .int .u64 0, .int .u64 0, .int .u64 0, .int .u64 0, .int .u64 0, .slice none 0 0, .int .u8 0, .int .u8 0, .int .u8 0, .int .u8 0, .int .u8 0, .int .u8 0, .int .u8 0, .int .u8 0] : List Value).toArray 39)
 have hsz : (w1.alloc (.cells ([.int .i64 0, .int .u64 0, .int .u64 0, .slice none 0 0, .bool false, .int .u64 0, .int .u64 0, .int .u64 0, .int .u64 0, .int .u64 0, .slice none 0 0, .int .u8 0, .int .u8 0, .int .u8 0, .int .u8 0, .int .u8 0, .int .u8 0, .int .u8 0, .int .u8 0] : List Value).toArray 39)).heap.size = gf + 1 + 1 := by simp [hg1]
 rw [hg1] at hrw
 replace HB := Qh (bl_next HB.out HB.out.size hb)
 replace HF := Qh (bl_row hb (lt_of_block HF.out) HF.out)
 have HZ := Qh hrw
 clear hb hrw
 generalize w1.alloc (.cells ([.int .i64 0, .int .u64 0, .int .u64 0, .slice none 0 0, .bool false, .int .u64 0, .int .u64 0, .int .u64 0, .int .u64 0, .int .u64 0, .slice none 0 0, .int .u8 0, .int .u8 0, .int .u8 0, .int .u8 0, .int .u8 0, .int .u8 0, .int .u8 0, .int .u8 0] : List Value).toArray 39) = w2 at HB HF HZ hsz ⊢
 have hg2 := hsz
 clear hsz
 clear hg1
 obtain ⟨gz, hgg⟩ : ∃ g, gf + 1 = g := ⟨_, rfl⟩
 rw [hgg] at HZ hg2 ⊢
 have HLTgz : Hid (gf < gz) := Qh (by omega)
 clear hgg
 clear hg2
 have c0 := cell_row HF.out 0 _ H_kind.out
 go_upto_region 2 with (first | (refine wpList_store_row rfl 39 _ _ rfl _ rfl [.int .i64 17, .int .u64 0, .int .u64 0, .slice none 0 0, .bool false, .int .u64 0, .int .u64 0, .int .u64 0, .int .u64 0, .int .u64 0, .slice none 0 0, .int .u8 0, .int .u8 0, .int .u8 0, .int .u8 0, .int .u8 0, .int .u8 0, .int .u8 0, .int .u8 0] ([.int .i64 0, .int .u64 0, .int .u64 0, .slice none 0 0, .bool false, .int .u64 0, .int .u64 0, .int .u64 0, .int .u64 0, .int .u64 0, .slice none 0 0, .int .u8 0, .int .u8 0, .int .u8 0, .int .u8 0, .int .u8 0, .int .u8 0, .int .u8 0, .int .u8 0] : List Value) rfl 39 (heap_alloc_new _ _) rfl rfl (one19 rfl rfl) ?_; intro w9 hr hg) | fail)
 clear c0
 have hal := (Below.refl w2.heap.size w2).alloc (Nat.le_refl _) (.cells ([.int .i64 0, .int .u64 0, .int .u64 0, .slice none 0 0, .bool false, .int .u64 0, .int .u64 0, .int .u64 0, .int .u64 0, .int .u64 0, .slice none 0 0, .int .u8 0, .int .u8 0, .int .u8 0, .int .u8 0, .int .u8 0, .int .u8 0, .int .u8 0, .int .u8 0] : List Value).toArray 39)
 have hb : Below w2.heap.size w2 w9 := hal.grown hg hal.size (by intro k hk; injection hk with hk; omega)
 have hfl := lt_of_block HF.out
 have hzl := lt_of_block HZ.out
 replace HB := Qh (bl_next HB.out HB.out.size hb)
 replace HF := Qh (bl_row hb (lt_of_block HF.out) HF.out)
 replace HZ := Qh (bl_row hb (lt_of_block HZ.out) HZ.out)
 have HO : Hid (w9.heap[w2.heap.size]? = some (.cells ((zeroF 17).cells (.slice none 0 0) (.slice none 0 0)).toArray 39 (0, 0))) := Qh hr
 clear hr hg hal hb
 obtain ⟨go, hgo⟩ : ∃ g, w2.heap.size = g := ⟨_, rfl⟩
 rw [hgo] at HO hfl hzl ⊢
 have hgl : w.heap.size ≤ go := by have := HG0.out; omega
 have hzw : w.heap.size ≤ gz := by have := HG0.out; have := HLTgz.out; omega
 clear hgo
 have c0 := cell_row HF.out 0 _ H_kind.out
 go_upto_region 18 with fail
 clear c0
 have g0 : ∀ z : In (fun y => y.heap[gf]? = some (.cells RF.toArray 39 (0, 0))), z.w.cell? ⟨gf, 1, none⟩ = some (.int .u64 f.st) := fun z => cell_row z.h 1 _ H_st.out
 have g1 : ∀ z : In (fun y => y.heap[gf]? = some (.cells RF.toArray 39 (0, 0))), z.w.cell? ⟨gf, 5, none⟩ = some (.int .u64 f.li) := fun z => cell_row z.h 5 _ H_li.out
 refine wp_plan (.t 0 (.t 1 (.t 2 (.t 3 (.t 4 (.u 5 (.t 6 (.u 7 .done)))))))) (fun y => y.heap[gf]? = some (.cells RF.toArray 39 (0, 0))) (by kernel_rfl) (by kernel_rfl) (by kernel_rfl) (fun c a d v w h => by cases d <;> exact h) HF.out ?_
 have hb := (Below.refl w9.heap.size w9).drew
 replace HB := Qh (bl_next HB.out HB.out.size hb)
 replace HZ := Qh (bl_row hb (lt_of_block HZ.out) HZ.out)
 replace HO := Qh (bl_row hb (lt_of_block HO.out) HO.out)
 replace HF := Qh (bl_row hb (lt_of_block HF.out) HF.out)
 clear hb
 generalize w9.drew = w10 at HB HZ HO HF ⊢
 haveI hne : Nonempty (In (fun y => y.heap[gf]? = some (.cells RF.toArray 39 (0, 0)))) := ⟨⟨w10, HF.out⟩⟩
 repeat (first | (refine plan_t (by rfl) ?_; (first | go_big_quiet_skip | (go_big_quiet_want; go_big_quiet_op; go_big_quiet_on)); refine wpQuiet_nil ?_))
 refine plan_us (by rfl) (by kernel_rfl) ?_
 intro K hK
 have c2 := row_cell HO.out 1 _ rfl
 have f2 := row_free HO.out 1
 go_wp2_with fail
 clear c2 f2
 have hat := ((At.base HO.out).set 1 (.int .u64 f.st)).conv (cs' := (({ zeroF 17 with st := f.st } : Fr).cells (.slice none 0 0) (.slice none 0 0)).toArray) (by rfl)
 have HN := Qh hat.row; have HG9 := Qh hat.rest
 clear hat
 have HF9 := Qh (grown_row HG9.out (by intro e; injection e with e; omega) HF.out)
 refine ⟨HF9.out, ?_⟩
 generalize w10.setCell ⟨go, 1, none⟩ (.int .u64 f.st) = w11 at HN HG9 HF9 ⊢
 replace HF := HF9; replace HO := HN
 replace HZ := Qh (grown_row HG9.out (by intro e; injection e with e; omega) HZ.out)
 replace HB := Qh (HB.out.grown HG9.out HB.out.size (by intro k hk; injection hk with hk; omega))
 clear HG9 HF9 HN
 repeat (first | (refine plan_t (by rfl) ?_; (first | go_big_quiet_skip | (go_big_quiet_want; go_big_quiet_op; go_big_quiet_on)); refine wpQuiet_nil ?_))
 refine plan_us (by rfl) (by kernel_rfl) ?_
 intro K hK
 have c2 := row_cell HO.out 5 _ rfl
 have f2 := row_free HO.out 5
 go_wp2_with fail
 clear c2 f2
 have hat := ((At.base HO.out).set 5 (.int .u64 f.li)).conv (cs' := (({ zeroF 17 with st := f.st, li := f.li } : Fr).cells (.slice none 0 0) (.slice none 0 0)).toArray) (by rfl)
 have HN := Qh hat.row; have HG9 := Qh hat.rest
 clear hat
 have HF9 := Qh (grown_row HG9.out (by intro e; injection e with e; omega) HF.out)
 refine ⟨HF9.out, ?_⟩
 generalize w11.setCell ⟨go, 5, none⟩ (.int .u64 f.li) = w12 at HN HG9 HF9 ⊢
 replace HF := HF9; replace HO := HN
 replace HZ := Qh (grown_row HG9.out (by intro e; injection e with e; omega) HZ.out)
 replace HB := Qh (HB.out.grown HG9.out HB.out.size (by intro k hk; injection hk with hk; omega))
 clear HG9 HF9 HN
 repeat (first | (refine plan_t (by rfl) ?_; (first | go_big_quiet_skip | (go_big_quiet_want; go_big_quiet_op; go_big_quiet_on)); refine wpQuiet_nil ?_))
 clear hne g0 g1
 show Exit.inBlock _ _ _ _ _
 simp only [Exit.inBlock]
 have HL9 : Hid ((({ zeroF 17 with st := f.st, li := f.li } : Fr).cells (.slice none 0 0) (.slice none 0 0)).length = 19) := Qh rfl
 have hz := zero_wf 17 (by omega)
 have hwf : ({ zeroF 17 with st := f.st, li := f.li } : Fr).Wf := ⟨hz.kind, HWF.out.st, hz.of_, HWF.out.li, hz.co, hz.fi, hz.se, hz.de, hz.cidl, hz.cid⟩
 have HW9 := Qh hwf
 clear hz hwf
 have HON : Hid (∀ v ∈ ({ zeroF 17 with st := f.st, li := f.li } : Fr).cells (.slice none 0 0) (.slice none 0 0), v.oneCell' = true) := Qh (fun v hv => by simp only [Fr.cells, List.mem_append, List.mem_cons, List.not_mem_nil, or_false, List.mem_map] at hv; rcases hv with hv | ⟨_, _, rfl⟩; rcases hv with rfl | rfl | rfl | rfl | rfl | rfl | rfl | rfl | rfl | rfl | rfl <;> rfl; rfl)
 obtain ⟨RX, hRX⟩ : ∃ R, ({ zeroF 17 with st := f.st, li := f.li } : Fr).cells (.slice none 0 0) (.slice none 0 0) = R := ⟨_, rfl⟩
 have HRX := Qh hRX
 have HO9 := HO
 have hrow9 : w12.heap[go]? = some (.cells RX.toArray 39 (0, 0)) := by rw [← hRX]; exact HO.out
 replace HO := Qh hrow9
 rw [hRX] at HON HL9
 clear hRX hrow9 HO9
 go_wp2_with (first | (refine wpList_load_mid rfl 39 _ rfl go 0 rfl RX _ (rngL HO.out) Try.underlying39 rfl (by rw [HL9.out]; rfl) ?_) | (refine wpList_store_row rfl 39 _ _ rfl gz rfl RX ([.int .i64 0, .int .u64 0, .int .u64 0, .slice none 0 0, .bool false, .int .u64 0, .int .u64 0, .int .u64 0, .int .u64 0, .int .u64 0, .slice none 0 0, .int .u8 0, .int .u8 0, .int .u8 0, .int .u8 0, .int .u8 0, .int .u8 0, .int .u8 0, .int .u8 0] : List Value) rfl 39 HZ.out (by rw [HL9.out]; rfl) (by rw [HL9.out]; rfl) HON.out ?_; intro wz hz hgz; have HZ10 := Qh hz; have HGZ := Qh hgz; clear hz hgz) | fail)
 (try simp only [Exit.inBlock, Exit.then])
 refine bodyPost_ret (results_cell1 rfl _ _ gz rfl RX _ _ HZ10.out Try.underlying39 rfl (by rw [HL9.out]; rfl)) rfl ?_
 exact ⟨(.slice none 0 0), (.slice none 0 0), by rw [HRX.out], (FrAt.bare HW9.out rfl rfl), (FrLo.nil _), HB.out.grown HGZ.out HB.out.size (by intro k hk; injection hk with hk; omega), 0, World.ownsRow_nil _ _ _ _⟩
theorem copy4_24 (w : World) (f : Fr) (dv rv : Value) (h : FrAt w f dv rv) (hk : f.kind = 24) :
  Calls Try.prog 25 #[.agg (f.cells dv rv).toArray] w fun e w' => ∃ dv' rv', e = .returned (.agg ((nrmF f).cells dv' rv').toArray) ∧ FrAt w' (nrmF f) dv' rv' ∧ FrLo w.heap.size dv' rv' ∧ Below w.heap.size w w' ∧ ∃ n, w'.ownsRow w.heap.size 5 1 dv' n ((nrmF f).data.map (Value.int .u8)) := by
 have hq : nrmF f = ({ zeroF 24 with se := f.se, li := f.li, cid := f.cid } : Fr) := by unfold nrmF; simp [hk]
 rw [hq]
 clear hq
 have hwf := h.wf
 have H_kind : Hid ((f.cells dv rv)[0]? = some (.int .i64 24)) := Qh (by rw [← hk]; rfl)
 have H_se : Hid ((f.cells dv rv)[8]? = some (.int .u64 f.se)) := Qh rfl
 have H_li : Hid ((f.cells dv rv)[5]? = some (.int .u64 f.li)) := Qh rfl
 have H_cid : Hid (∀ (j : Nat) (v : Value), (f.cid.map (Value.int .u8))[j]? = some v → (f.cells dv rv)[11 + j]? = some v) := Qh (cells_cid f dv rv)
 have h18 : (f.cid.map (Value.int .u8)).length = 8 := by simp [hwf.cidl]
 have H18 := Qh h18
 clear h18
 have HRF : Hid ((f.cells dv rv).length = 19) := Qh (Fr.len hwf)
 obtain ⟨RF, hRF⟩ : ∃ R, (f.cells dv rv) = R := ⟨_, rfl⟩
 simp only [hRF] at HRF H_kind H_se H_li H_cid
 rw [hRF]
 have HWF := Qh hwf
 clear hwf h hRF hk
 go_enter Try.func25, Try.ntmps25
 go_upto_region 1 with fail
 change Code.wp _ _ _ _ ((w.alloc (.cells RF.toArray 39)).alloc (.cells ([.int .i64 0, .int .u64 0, .int .u64 0, .slice none 0 0, .bool false, .int .u64 0, .int .u64 0, .int .u64 0, .int .u64 0, .int .u64 0, .slice none 0 0, .int .u8 0, .int .u8 0, .int .u8 0, .int .u8 0, .int .u8 0, .int .u8 0, .int .u8 0, .int .u8 0] : List Value).toArray 39))
 have HB := Qh (Below.refl w.heap.size w)
 obtain ⟨gf, hg0⟩ : ∃ g, w.heap.size = g := ⟨_, rfl⟩
 try rw [hg0]
 have hb := (Below.refl w.heap.size w).alloc (Nat.le_refl _) (.cells RF.toArray 39)
 have hrw := heap_alloc_new w (.cells RF.toArray 39)
 have hsz : (w.alloc (.cells RF.toArray 39)).heap.size = gf + 1 := by simp [hg0]
 rw [hg0] at hrw
 replace HB := Qh (bl_next HB.out HB.out.size hb)
 have HF := Qh hrw
 clear hb hrw
 generalize w.alloc (.cells RF.toArray 39) = w1 at HB HF hsz ⊢
 have hg1 := hsz
 clear hsz
 have HG0 := Qh hg0
 clear hg0
 have hb := (Below.refl w1.heap.size w1).alloc (Nat.le_refl _) (.cells ([.int .i64 0, .int .u64 0, .int .u64 0, .slice none 0 0, .bool false, .int .u64 0, .int .u64 0, .int .u64 0, .int .u64 0, .int .u64 0, .slice none 0 0, .int .u8 0, .int .u8 0, .int .u8 0, .int .u8 0, .int .u8 0, .int .u8 0, .int .u8 0, .int .u8 0] : List Value).toArray 39)
 have hrw := heap_alloc_new w1 (.cells ([.int .i64 0, .int .u64 0, .int .u64 0, .slice none 0 0, .bool false, .int .u64 0, .int .u64 0, .int .u64 0, .int .u64 0, .int .u64 0, .slice none 0 0, .int .u8 0, .int .u8 0, .int .u8 0, .int .u8 0, .int .u8 0, .int .u8 0, .int .u8 0, .int .u8 0] : List Value).toArray 39)
 have hsz : (w1.alloc (.cells ([.int .i64 0, .int .u64 0, .int .u64 0, .slice none 0 0, .bool false, .int .u64 0, .int .u64 0, .int .u64 0, .int .u64 0, .int .u64 0, .slice none 0 0, .int .u8 0, .int .u8 0, .int .u8 0, .int .u8 0, .int .u8 0, .int .u8 0, .int .u8 0, .int .u8 0] : List Value).toArray 39)).heap.size = gf + 1 + 1 := by simp [hg1]
 rw [hg1] at hrw
 replace HB := Qh (bl_next HB.out HB.out.size hb)
 replace HF := Qh (bl_row hb (lt_of_block HF.out) HF.out)
 have HZ := Qh hrw
 clear hb hrw
 generalize w1.alloc (.cells ([.int .i64 0, .int .u64 0, .int .u64 0, .slice none 0 0, .bool false, .int .u64 0, .int .u64 0, .int .u64 0, .int .u64 0, .int .u64 0, .slice none 0 0, .int .u8 0, .int .u8 0, .int .u8 0, .int .u8 0, .int .u8 0, .int .u8 0, .int .u8 0, .int .u8 0] : List Value).toArray 39) = w2 at HB HF HZ hsz ⊢
 have hg2 := hsz
 clear hsz
 clear hg1
 obtain ⟨gz, hgg⟩ : ∃ g, gf + 1 = g := ⟨_, rfl⟩
 rw [hgg] at HZ hg2 ⊢
 have HLTgz : Hid (gf < gz) := Qh (by omega)
 clear hgg
 clear hg2
 have c0 := cell_row HF.out 0 _ H_kind.out
 go_upto_region 2 with (first | (refine wpList_store_row rfl 39 _ _ rfl _ rfl [.int .i64 24, .int .u64 0, .int .u64 0, .slice none 0 0, .bool false, .int .u64 0, .int .u64 0, .int .u64 0, .int .u64 0, .int .u64 0, .slice none 0 0, .int .u8 0, .int .u8 0, .int .u8 0, .int .u8 0, .int .u8 0, .int .u8 0, .int .u8 0, .int .u8 0] ([.int .i64 0, .int .u64 0, .int .u64 0, .slice none 0 0, .bool false, .int .u64 0, .int .u64 0, .int .u64 0, .int .u64 0, .int .u64 0, .slice none 0 0, .int .u8 0, .int .u8 0, .int .u8 0, .int .u8 0, .int .u8 0, .int .u8 0, .int .u8 0, .int .u8 0] : List Value) rfl 39 (heap_alloc_new _ _) rfl rfl (one19 rfl rfl) ?_; intro w9 hr hg) | fail)
 clear c0
 have hal := (Below.refl w2.heap.size w2).alloc (Nat.le_refl _) (.cells ([.int .i64 0, .int .u64 0, .int .u64 0, .slice none 0 0, .bool false, .int .u64 0, .int .u64 0, .int .u64 0, .int .u64 0, .int .u64 0, .slice none 0 0, .int .u8 0, .int .u8 0, .int .u8 0, .int .u8 0, .int .u8 0, .int .u8 0, .int .u8 0, .int .u8 0] : List Value).toArray 39)
 have hb : Below w2.heap.size w2 w9 := hal.grown hg hal.size (by intro k hk; injection hk with hk; omega)
 have hfl := lt_of_block HF.out
 have hzl := lt_of_block HZ.out
 replace HB := Qh (bl_next HB.out HB.out.size hb)
 replace HF := Qh (bl_row hb (lt_of_block HF.out) HF.out)
 replace HZ := Qh (bl_row hb (lt_of_block HZ.out) HZ.out)
 have HO : Hid (w9.heap[w2.heap.size]? = some (.cells ((zeroF 24).cells (.slice none 0 0) (.slice none 0 0)).toArray 39 (0, 0))) := Qh hr
 clear hr hg hal hb
 obtain ⟨go, hgo⟩ : ∃ g, w2.heap.size = g := ⟨_, rfl⟩
 rw [hgo] at HO hfl hzl ⊢
 have hgl : w.heap.size ≤ go := by have := HG0.out; omega
 have hzw : w.heap.size ≤ gz := by have := HG0.out; have := HLTgz.out; omega
 clear hgo
 have c0 := cell_row HF.out 0 _ H_kind.out
 go_upto_region 20 with fail
 clear c0
 have g0 : ∀ z : In (fun y => y.heap[gf]? = some (.cells RF.toArray 39 (0, 0))), z.w.cell? ⟨gf, 8, none⟩ = some (.int .u64 f.se) := fun z => cell_row z.h 8 _ H_se.out
 have g1 : ∀ z : In (fun y => y.heap[gf]? = some (.cells RF.toArray 39 (0, 0))), z.w.cell? ⟨gf, 5, none⟩ = some (.int .u64 f.li) := fun z => cell_row z.h 5 _ H_li.out
 refine wp_plan (.t 0 (.t 1 (.t 2 (.t 3 (.t 4 (.t 5 (.t 6 (.u 7 (.t 8 (.u 9 (.t 10 (.u 11 .done)))))))))))) (fun y => y.heap[gf]? = some (.cells RF.toArray 39 (0, 0))) (by kernel_rfl) (by kernel_rfl) (by kernel_rfl) (fun c a d v w h => by cases d <;> exact h) HF.out ?_
 have hb := (Below.refl w9.heap.size w9).drew
 replace HB := Qh (bl_next HB.out HB.out.size hb)
 replace HZ := Qh (bl_row hb (lt_of_block HZ.out) HZ.out)
 replace HO := Qh (bl_row hb (lt_of_block HO.out) HO.out)
 replace HF := Qh (bl_row hb (lt_of_block HF.out) HF.out)
 clear hb
 generalize w9.drew = w10 at HB HZ HO HF ⊢
 haveI hne : Nonempty (In (fun y => y.heap[gf]? = some (.cells RF.toArray 39 (0, 0)))) := ⟨⟨w10, HF.out⟩⟩
 repeat (first | (refine plan_t_load (by rfl) (by kernel_rfl) 37 _ rfl gf 11 rfl (f.cid.map (Value.int .u8)) _ (fun y hy => rng_row hy 11 _ H_cid.out) Try.underlying37 rfl (by rw [H18.out]; rfl) ?_; simp only [Act.put, List.setIfInBounds_toArray, List.set_cons_succ, List.set_cons_zero]) | (refine plan_t (by rfl) ?_; (first | go_big_quiet_skip | (go_big_quiet_want; go_big_quiet_op; go_big_quiet_on)); refine wpQuiet_nil ?_))
 refine plan_us (by rfl) (by kernel_rfl) ?_
 intro K hK
 have c2 := row_cell HO.out 8 _ rfl
 have f2 := row_free HO.out 8
 go_wp2_with fail
 clear c2 f2
 have hat := ((At.base HO.out).set 8 (.int .u64 f.se)).conv (cs' := (({ zeroF 24 with se := f.se } : Fr).cells (.slice none 0 0) (.slice none 0 0)).toArray) (by rfl)
 have HN := Qh hat.row; have HG9 := Qh hat.rest
 clear hat
 have HF9 := Qh (grown_row HG9.out (by intro e; injection e with e; omega) HF.out)
 refine ⟨HF9.out, ?_⟩
 generalize w10.setCell ⟨go, 8, none⟩ (.int .u64 f.se) = w11 at HN HG9 HF9 ⊢
 replace HF := HF9; replace HO := HN
 replace HZ := Qh (grown_row HG9.out (by intro e; injection e with e; omega) HZ.out)
 replace HB := Qh (HB.out.grown HG9.out HB.out.size (by intro k hk; injection hk with hk; omega))
 clear HG9 HF9 HN
 repeat (first | (refine plan_t_load (by rfl) (by kernel_rfl) 37 _ rfl gf 11 rfl (f.cid.map (Value.int .u8)) _ (fun y hy => rng_row hy 11 _ H_cid.out) Try.underlying37 rfl (by rw [H18.out]; rfl) ?_; simp only [Act.put, List.setIfInBounds_toArray, List.set_cons_succ, List.set_cons_zero]) | (refine plan_t (by rfl) ?_; (first | go_big_quiet_skip | (go_big_quiet_want; go_big_quiet_op; go_big_quiet_on)); refine wpQuiet_nil ?_))
 refine plan_us (by rfl) (by kernel_rfl) ?_
 intro K hK
 have c2 := row_cell HO.out 5 _ rfl
 have f2 := row_free HO.out 5
 go_wp2_with fail
 clear c2 f2
 have hat := ((At.base HO.out).set 5 (.int .u64 f.li)).conv (cs' := (({ zeroF 24 with se := f.se, li := f.li } : Fr).cells (.slice none 0 0) (.slice none 0 0)).toArray) (by rfl)
 have HN := Qh hat.row; have HG9 := Qh hat.rest
 clear hat
 have HF9 := Qh (grown_row HG9.out (by intro e; injection e with e; omega) HF.out)
 refine ⟨HF9.out, ?_⟩
 generalize w11.setCell ⟨go, 5, none⟩ (.int .u64 f.li) = w12 at HN HG9 HF9 ⊢
 replace HF := HF9; replace HO := HN
 replace HZ := Qh (grown_row HG9.out (by intro e; injection e with e; omega) HZ.out)
 replace HB := Qh (HB.out.grown HG9.out HB.out.size (by intro k hk; injection hk with hk; omega))
 clear HG9 HF9 HN
 repeat (first | (refine plan_t_load (by rfl) (by kernel_rfl) 37 _ rfl gf 11 rfl (f.cid.map (Value.int .u8)) _ (fun y hy => rng_row hy 11 _ H_cid.out) Try.underlying37 rfl (by rw [H18.out]; rfl) ?_; simp only [Act.put, List.setIfInBounds_toArray, List.set_cons_succ, List.set_cons_zero]) | (refine plan_t (by rfl) ?_; (first | go_big_quiet_skip | (go_big_quiet_want; go_big_quiet_op; go_big_quiet_on)); refine wpQuiet_nil ?_))
 refine plan_us (by rfl) (by kernel_rfl) ?_
 intro K hK
 refine wp_store_mid 37 _ _ rfl go 11 (f.cid.map (Value.int .u8)).toArray rfl rfl (there_sub (there_row HO.out (by exact Nat.le_refl _)) (by rw [List.size_toArray, H18.out]; exact Nat.le_refl 19)) (by rw [List.size_toArray, H18.out]; rfl) (all_oneCell_toArray ints_one) ?_
 obtain ⟨hz8, hg8⟩ := setCells_part (g := go) (t := 39) [] (f.cid.map (Value.int .u8)) (((({ zeroF 24 with se := f.se, li := f.li } : Fr)).cells (.slice none 0 0) (.slice none 0 0)).take 11) ((zeroF 24).cid.map (Value.int .u8)) w12 (by rw [List.append_nil]; exact HO.out) (by rw [H18.out]; rfl)
 rw [show (((({ zeroF 24 with se := f.se, li := f.li } : Fr)).cells (.slice none 0 0) (.slice none 0 0)).take 11).length = 11 from rfl] at hz8 hg8
 have hrow : (w12.setCells go 11 (f.cid.map (Value.int .u8))).heap[go]? = some (.cells (({ zeroF 24 with se := f.se, li := f.li, cid := f.cid } : Fr).cells (.slice none 0 0) (.slice none 0 0)).toArray 39 (0, 0)) := by rw [List.append_nil] at hz8; exact hz8
 have HN := Qh hrow; have HG9 := Qh hg8
 clear hz8 hg8 hrow
 change K _ (w12.setCells go 11 (f.cid.map (Value.int .u8)))
 generalize w12.setCells go 11 (f.cid.map (Value.int .u8)) = w13 at HN HG9 ⊢
 have HF9 := Qh (grown_row HG9.out (by intro e; injection e with e; omega) HF.out)
 refine hK _ _ ⟨HF9.out, ?_⟩
 clear hK K
 simp only [Act.put, List.setIfInBounds_toArray, List.set_cons_succ, List.set_cons_zero]
 replace HF := HF9; replace HO := HN
 replace HZ := Qh (grown_row HG9.out (by intro e; injection e with e; omega) HZ.out)
 replace HB := Qh (HB.out.grown HG9.out HB.out.size (by intro k hk; injection hk with hk; omega))
 clear HG9 HF9 HN
 repeat (first | (refine plan_t_load (by rfl) (by kernel_rfl) 37 _ rfl gf 11 rfl (f.cid.map (Value.int .u8)) _ (fun y hy => rng_row hy 11 _ H_cid.out) Try.underlying37 rfl (by rw [H18.out]; rfl) ?_; simp only [Act.put, List.setIfInBounds_toArray, List.set_cons_succ, List.set_cons_zero]) | (refine plan_t (by rfl) ?_; (first | go_big_quiet_skip | (go_big_quiet_want; go_big_quiet_op; go_big_quiet_on)); refine wpQuiet_nil ?_))
 clear hne g0 g1
 show Exit.inBlock _ _ _ _ _
 simp only [Exit.inBlock]
 have HL9 : Hid ((({ zeroF 24 with se := f.se, li := f.li, cid := f.cid } : Fr).cells (.slice none 0 0) (.slice none 0 0)).length = 19) := Qh (by simp [Fr.cells, HWF.out.cidl])
 have hz := zero_wf 24 (by omega)
 have hwf : ({ zeroF 24 with se := f.se, li := f.li, cid := f.cid } : Fr).Wf := ⟨hz.kind, hz.st, hz.of_, HWF.out.li, hz.co, hz.fi, HWF.out.se, hz.de, HWF.out.cidl, HWF.out.cid⟩
 have HW9 := Qh hwf
 clear hz hwf
 have HON : Hid (∀ v ∈ ({ zeroF 24 with se := f.se, li := f.li, cid := f.cid } : Fr).cells (.slice none 0 0) (.slice none 0 0), v.oneCell' = true) := Qh (fun v hv => by simp only [Fr.cells, List.mem_append, List.mem_cons, List.not_mem_nil, or_false, List.mem_map] at hv; rcases hv with hv | ⟨_, _, rfl⟩; rcases hv with rfl | rfl | rfl | rfl | rfl | rfl | rfl | rfl | rfl | rfl | rfl <;> rfl; rfl)
 obtain ⟨RX, hRX⟩ : ∃ R, ({ zeroF 24 with se := f.se, li := f.li, cid := f.cid } : Fr).cells (.slice none 0 0) (.slice none 0 0) = R := ⟨_, rfl⟩
 have HRX := Qh hRX
 have HO9 := HO
 have hrow9 : w13.heap[go]? = some (.cells RX.toArray 39 (0, 0)) := by rw [← hRX]; exact HO.out
 replace HO := Qh hrow9
 rw [hRX] at HON HL9
 clear hRX hrow9 HO9
 go_wp2_with (first | (refine wpList_load_mid rfl 39 _ rfl go 0 rfl RX _ (rngL HO.out) Try.underlying39 rfl (by rw [HL9.out]; rfl) ?_) | (refine wpList_store_row rfl 39 _ _ rfl gz rfl RX ([.int .i64 0, .int .u64 0, .int .u64 0, .slice none 0 0, .bool false, .int .u64 0, .int .u64 0, .int .u64 0, .int .u64 0, .int .u64 0, .slice none 0 0, .int .u8 0, .int .u8 0, .int .u8 0, .int .u8 0, .int .u8 0, .int .u8 0, .int .u8 0, .int .u8 0] : List Value) rfl 39 HZ.out (by rw [HL9.out]; rfl) (by rw [HL9.out]; rfl) HON.out ?_; intro wz hz hgz; have HZ10 := Qh hz; have HGZ := Qh hgz; clear hz hgz) | fail)
 (try simp only [Exit.inBlock, Exit.then])
 refine bodyPost_ret (results_cell1 rfl _ _ gz rfl RX _ _ HZ10.out Try.underlying39 rfl (by rw [HL9.out]; rfl)) rfl ?_
 exact ⟨(.slice none 0 0), (.slice none 0 0), by rw [HRX.out], (FrAt.bare HW9.out rfl rfl), (FrLo.nil _), HB.out.grown HGZ.out HB.out.size (by intro k hk; injection hk with hk; omega), 0, World.ownsRow_nil _ _ _ _⟩
theorem copy4_25 (w : World) (f : Fr) (dv rv : Value) (h : FrAt w f dv rv) (hk : f.kind = 25) :
  Calls Try.prog 25 #[.agg (f.cells dv rv).toArray] w fun e w' => ∃ dv' rv', e = .returned (.agg ((nrmF f).cells dv' rv').toArray) ∧ FrAt w' (nrmF f) dv' rv' ∧ FrLo w.heap.size dv' rv' ∧ Below w.heap.size w w' ∧ ∃ n, w'.ownsRow w.heap.size 5 1 dv' n ((nrmF f).data.map (Value.int .u8)) := by
 have hq : nrmF f = ({ zeroF 25 with se := f.se } : Fr) := by unfold nrmF; simp [hk]
 rw [hq]
 clear hq
 have hwf := h.wf
 have H_kind : Hid ((f.cells dv rv)[0]? = some (.int .i64 25)) := Qh (by rw [← hk]; rfl)
 have H_se : Hid ((f.cells dv rv)[8]? = some (.int .u64 f.se)) := Qh rfl
 have HRF : Hid ((f.cells dv rv).length = 19) := Qh (Fr.len hwf)
 obtain ⟨RF, hRF⟩ : ∃ R, (f.cells dv rv) = R := ⟨_, rfl⟩
 simp only [hRF] at HRF H_kind H_se
 rw [hRF]
 have HWF := Qh hwf
 clear hwf h hRF hk
 go_enter Try.func25, Try.ntmps25
 go_upto_region 1 with fail
 change Code.wp _ _ _ _ ((w.alloc (.cells RF.toArray 39)).alloc (.cells ([.int .i64 0, .int .u64 0, .int .u64 0, .slice none 0 0, .bool false, .int .u64 0, .int .u64 0, .int .u64 0, .int .u64 0, .int .u64 0, .slice none 0 0, .int .u8 0, .int .u8 0, .int .u8 0, .int .u8 0, .int .u8 0, .int .u8 0, .int .u8 0, .int .u8 0] : List Value).toArray 39))
 have HB := Qh (Below.refl w.heap.size w)
 obtain ⟨gf, hg0⟩ : ∃ g, w.heap.size = g := ⟨_, rfl⟩
 try rw [hg0]
 have hb := (Below.refl w.heap.size w).alloc (Nat.le_refl _) (.cells RF.toArray 39)
 have hrw := heap_alloc_new w (.cells RF.toArray 39)
 have hsz : (w.alloc (.cells RF.toArray 39)).heap.size = gf + 1 := by simp [hg0]
 rw [hg0] at hrw
 replace HB := Qh (bl_next HB.out HB.out.size hb)
 have HF := Qh hrw
 clear hb hrw
 generalize w.alloc (.cells RF.toArray 39) = w1 at HB HF hsz ⊢
 have hg1 := hsz
 clear hsz
 have HG0 := Qh hg0
 clear hg0
 have hb := (Below.refl w1.heap.size w1).alloc (Nat.le_refl _) (.cells ([.int .i64 0, .int .u64 0, .int .u64 0, .slice none 0 0, .bool false, .int .u64 0, .int .u64 0, .int .u64 0, .int .u64 0, .int .u64 0, .slice none 0 0, .int .u8 0, .int .u8 0, .int .u8 0, .int .u8 0, .int .u8 0, .int .u8 0, .int .u8 0, .int .u8 0] : List Value).toArray 39)
 have hrw := heap_alloc_new w1 (.cells ([.int .i64 0, .int .u64 0, .int .u64 0, .slice none 0 0, .bool false, .int .u64 0, .int .u64 0, .int .u64 0, .int .u64 0, .int .u64 0, .slice none 0 0, .int .u8 0, .int .u8 0, .int .u8 0, .int .u8 0, .int .u8 0, .int .u8 0, .int .u8 0, .int .u8 0] : List Value).toArray 39)
 have hsz : (w1.alloc (.cells ([.int .i64 0, .int .u64 0, .int .u64 0, .slice none 0 0, .bool false, .int .u64 0, .int .u64 0, .int .u64 0, .int .u64 0, .int .u64 0, .slice none 0 0, .int .u8 0, .int .u8 0, .int .u8 0, .int .u8 0, .int .u8 0, .int .u8 0, .int .u8 0, .int .u8 0] : List Value).toArray 39)).heap.size = gf + 1 + 1 := by simp [hg1]
 rw [hg1] at hrw
 replace HB := Qh (bl_next HB.out HB.out.size hb)
 replace HF := Qh (bl_row hb (lt_of_block HF.out) HF.out)
 have HZ := Qh hrw
 clear hb hrw
 generalize w1.alloc (.cells ([.int .i64 0, .int .u64 0, .int .u64 0, .slice none 0 0, .bool false, .int .u64 0, .int .u64 0, .int .u64 0, .int .u64 0, .int .u64 0, .slice none 0 0, .int .u8 0, .int .u8 0, .int .u8 0, .int .u8 0, .int .u8 0, .int .u8 0, .int .u8 0, .int .u8 0] : List Value).toArray 39) = w2 at HB HF HZ hsz ⊢
 have hg2 := hsz
 clear hsz
 clear hg1
 obtain ⟨gz, hgg⟩ : ∃ g, gf + 1 = g := ⟨_, rfl⟩
 rw [hgg] at HZ hg2 ⊢
 have HLTgz : Hid (gf < gz) := Qh (by omega)
 clear hgg
 clear hg2
 have c0 := cell_row HF.out 0 _ H_kind.out
 go_upto_region 2 with (first | (refine wpList_store_row rfl 39 _ _ rfl _ rfl [.int .i64 25, .int .u64 0, .int .u64 0, .slice none 0 0, .bool false, .int .u64 0, .int .u64 0, .int .u64 0, .int .u64 0, .int .u64 0, .slice none 0 0, .int .u8 0, .int .u8 0, .int .u8 0, .int .u8 0, .int .u8 0, .int .u8 0, .int .u8 0, .int .u8 0] ([.int .i64 0, .int .u64 0, .int .u64 0, .slice none 0 0, .bool false, .int .u64 0, .int .u64 0, .int .u64 0, .int .u64 0, .int .u64 0, .slice none 0 0, .int .u8 0, .int .u8 0, .int .u8 0, .int .u8 0, .int .u8 0, .int .u8 0, .int .u8 0, .int .u8 0] : List Value) rfl 39 (heap_alloc_new _ _) rfl rfl (one19 rfl rfl) ?_; intro w9 hr hg) | fail)
 clear c0
 have hal := (Below.refl w2.heap.size w2).alloc (Nat.le_refl _) (.cells ([.int .i64 0, .int .u64 0, .int .u64 0, .slice none 0 0, .bool false, .int .u64 0, .int .u64 0, .int .u64 0, .int .u64 0, .int .u64 0, .slice none 0 0, .int .u8 0, .int .u8 0, .int .u8 0, .int .u8 0, .int .u8 0, .int .u8 0, .int .u8 0, .int .u8 0] : List Value).toArray 39)
 have hb : Below w2.heap.size w2 w9 := hal.grown hg hal.size (by intro k hk; injection hk with hk; omega)
 have hfl := lt_of_block HF.out
 have hzl := lt_of_block HZ.out
 replace HB := Qh (bl_next HB.out HB.out.size hb)
 replace HF := Qh (bl_row hb (lt_of_block HF.out) HF.out)
 replace HZ := Qh (bl_row hb (lt_of_block HZ.out) HZ.out)
 have HO : Hid (w9.heap[w2.heap.size]? = some (.cells ((zeroF 25).cells (.slice none 0 0) (.slice none 0 0)).toArray 39 (0, 0))) := Qh hr
 clear hr hg hal hb
 obtain ⟨go, hgo⟩ : ∃ g, w2.heap.size = g := ⟨_, rfl⟩
 rw [hgo] at HO hfl hzl ⊢
 have hgl : w.heap.size ≤ go := by have := HG0.out; omega
 have hzw : w.heap.size ≤ gz := by have := HG0.out; have := HLTgz.out; omega
 clear hgo
 have c0 := cell_row HF.out 0 _ H_kind.out
 have c1 := cell_row HF.out 8 _ H_se.out
 have c2 := row_cell HO.out 8 _ rfl
 have f2 := row_free HO.out 8
 go_upto_region 28 with fail
 clear c1 c2 f2
 have hat := ((At.base HO.out).set 8 (.int .u64 f.se)).conv (cs' := (({ zeroF 25 with se := f.se } : Fr).cells (.slice none 0 0) (.slice none 0 0)).toArray) (by rfl)
 replace HO := Qh hat.row
 have HG9 := Qh hat.rest
 clear hat
 generalize w9.setCell ⟨go, 8, none⟩ (.int .u64 f.se) = w10 at HO HG9 ⊢
 clear c0
 replace HF := Qh (grown_row HG9.out (by intro e; injection e with e; omega) HF.out)
 replace HZ := Qh (grown_row HG9.out (by intro e; injection e with e; omega) HZ.out)
 replace HB := Qh (HB.out.grown HG9.out HB.out.size (by intro k hk; injection hk with hk; omega))
 clear HG9
 have HL9 : Hid ((({ zeroF 25 with se := f.se } : Fr).cells (.slice none 0 0) (.slice none 0 0)).length = 19) := Qh rfl
 have hz := zero_wf 25 (by omega)
 have hwf : ({ zeroF 25 with se := f.se } : Fr).Wf := ⟨hz.kind, hz.st, hz.of_, hz.li, hz.co, hz.fi, HWF.out.se, hz.de, hz.cidl, hz.cid⟩
 have HW9 := Qh hwf
 clear hz hwf
 have HON : Hid (∀ v ∈ ({ zeroF 25 with se := f.se } : Fr).cells (.slice none 0 0) (.slice none 0 0), v.oneCell' = true) := Qh (fun v hv => by simp only [Fr.cells, List.mem_append, List.mem_cons, List.not_mem_nil, or_false, List.mem_map] at hv; rcases hv with hv | ⟨_, _, rfl⟩; rcases hv with rfl | rfl | rfl | rfl | rfl | rfl | rfl | rfl | rfl | rfl | rfl <;> rfl; rfl)
 obtain ⟨RX, hRX⟩ : ∃ R, ({ zeroF 25 with se := f.se } : Fr).cells (.slice none 0 0) (.slice none 0 0) = R := ⟨_, rfl⟩
 have HRX := Qh hRX
 have HO9 := HO
 have hrow9 : w10.heap[go]? = some (.cells RX.toArray 39 (0, 0)) := by rw [← hRX]; exact HO.out
 replace HO := Qh hrow9
 rw [hRX] at HON HL9
 clear hRX hrow9 HO9
 go_wp2_with (first | (refine wpList_load_mid rfl 39 _ rfl go 0 rfl RX _ (rngL HO.out) Try.underlying39 rfl (by rw [HL9.out]; rfl) ?_) | (refine wpList_store_row rfl 39 _ _ rfl gz rfl RX ([.int .i64 0, .int .u64 0, .int .u64 0, .slice none 0 0, .bool false, .int .u64 0, .int .u64 0, .int .u64 0, .int .u64 0, .int .u64 0, .slice none 0 0, .int .u8 0, .int .u8 0, .int .u8 0, .int .u8 0, .int .u8 0, .int .u8 0, .int .u8 0, .int .u8 0] : List Value) rfl 39 HZ.out (by rw [HL9.out]; rfl) (by rw [HL9.out]; rfl) HON.out ?_; intro wz hz hgz; have HZ10 := Qh hz; have HGZ := Qh hgz; clear hz hgz) | fail)
 (try simp only [Exit.inBlock, Exit.then])
 refine bodyPost_ret (results_cell1 rfl _ _ gz rfl RX _ _ HZ10.out Try.underlying39 rfl (by rw [HL9.out]; rfl)) rfl ?_
 exact ⟨(.slice none 0 0), (.slice none 0 0), by rw [HRX.out], (FrAt.bare HW9.out rfl rfl), (FrLo.nil _), HB.out.grown HGZ.out HB.out.size (by intro k hk; injection hk with hk; omega), 0, World.ownsRow_nil _ _ _ _⟩
theorem copy4_26 (w : World) (f : Fr) (dv rv : Value) (h : FrAt w f dv rv) (hk : f.kind = 26) :
  Calls Try.prog 25 #[.agg (f.cells dv rv).toArray] w fun e w' => ∃ dv' rv', e = .returned (.agg ((nrmF f).cells dv' rv').toArray) ∧ FrAt w' (nrmF f) dv' rv' ∧ FrLo w.heap.size dv' rv' ∧ Below w.heap.size w w' ∧ ∃ n, w'.ownsRow w.heap.size 5 1 dv' n ((nrmF f).data.map (Value.int .u8)) := by
 have hq : nrmF f = ({ zeroF 26 with cid := f.cid } : Fr) := by unfold nrmF; simp [hk]
 rw [hq]
 clear hq
 have hwf := h.wf
 have H_kind : Hid ((f.cells dv rv)[0]? = some (.int .i64 26)) := Qh (by rw [← hk]; rfl)
 have H_cid : Hid (∀ (j : Nat) (v : Value), (f.cid.map (Value.int .u8))[j]? = some v → (f.cells dv rv)[11 + j]? = some v) := Qh (cells_cid f dv rv)
 have h18 : (f.cid.map (Value.int .u8)).length = 8 := by simp [hwf.cidl]
 have H18 := Qh h18
 clear h18
 have HRF : Hid ((f.cells dv rv).length = 19) := Qh (Fr.len hwf)
 obtain ⟨RF, hRF⟩ : ∃ R, (f.cells dv rv) = R := ⟨_, rfl⟩
 simp only [hRF] at HRF H_kind H_cid
 rw [hRF]
 have HWF := Qh hwf
 clear hwf h hRF hk
 go_enter Try.func25, Try.ntmps25
 go_upto_region 1 with fail
 change Code.wp _ _ _ _ ((w.alloc (.cells RF.toArray 39)).alloc (.cells ([.int .i64 0, .int .u64 0, .int .u64 0, .slice none 0 0, .bool false, .int .u64 0, .int .u64 0, .int .u64 0, .int .u64 0, .int .u64 0, .slice none 0 0, .int .u8 0, .int .u8 0, .int .u8 0, .int .u8 0, .int .u8 0, .int .u8 0, .int .u8 0, .int .u8 0] : List Value).toArray 39))
 have HB := Qh (Below.refl w.heap.size w)
 obtain ⟨gf, hg0⟩ : ∃ g, w.heap.size = g := ⟨_, rfl⟩
 try rw [hg0]
 have hb := (Below.refl w.heap.size w).alloc (Nat.le_refl _) (.cells RF.toArray 39)
 have hrw := heap_alloc_new w (.cells RF.toArray 39)
 have hsz : (w.alloc (.cells RF.toArray 39)).heap.size = gf + 1 := by simp [hg0]
 rw [hg0] at hrw
 replace HB := Qh (bl_next HB.out HB.out.size hb)
 have HF := Qh hrw
 clear hb hrw
 generalize w.alloc (.cells RF.toArray 39) = w1 at HB HF hsz ⊢
 have hg1 := hsz
 clear hsz
 have HG0 := Qh hg0
 clear hg0
 have hb := (Below.refl w1.heap.size w1).alloc (Nat.le_refl _) (.cells ([.int .i64 0, .int .u64 0, .int .u64 0, .slice none 0 0, .bool false, .int .u64 0, .int .u64 0, .int .u64 0, .int .u64 0, .int .u64 0, .slice none 0 0, .int .u8 0, .int .u8 0, .int .u8 0, .int .u8 0, .int .u8 0, .int .u8 0, .int .u8 0, .int .u8 0] : List Value).toArray 39)
 have hrw := heap_alloc_new w1 (.cells ([.int .i64 0, .int .u64 0, .int .u64 0, .slice none 0 0, .bool false, .int .u64 0, .int .u64 0, .int .u64 0, .int .u64 0, .int .u64 0, .slice none 0 0, .int .u8 0, .int .u8 0, .int .u8 0, .int .u8 0, .int .u8 0, .int .u8 0, .int .u8 0, .int .u8 0] : List Value).toArray 39)
 have hsz : (w1.alloc (.cells ([.int .i64 0, .int .u64 0, .int .u64 0, .slice none 0 0, .bool false, .int .u64 0, .int .u64 0, .int .u64 0, .int .u64 0, .int .u64 0, .slice none 0 0, .int .u8 0, .int .u8 0, .int .u8 0, .int .u8 0, .int .u8 0, .int .u8 0, .int .u8 0, .int .u8 0] : List Value).toArray 39)).heap.size = gf + 1 + 1 := by simp [hg1]
 rw [hg1] at hrw
 replace HB := Qh (bl_next HB.out HB.out.size hb)
 replace HF := Qh (bl_row hb (lt_of_block HF.out) HF.out)
 have HZ := Qh hrw
 clear hb hrw
 generalize w1.alloc (.cells ([.int .i64 0, .int .u64 0, .int .u64 0, .slice none 0 0, .bool false, .int .u64 0, .int .u64 0, .int .u64 0, .int .u64 0, .int .u64 0, .slice none 0 0, .int .u8 0, .int .u8 0, .int .u8 0, .int .u8 0, .int .u8 0, .int .u8 0, .int .u8 0, .int .u8 0] : List Value).toArray 39) = w2 at HB HF HZ hsz ⊢
 have hg2 := hsz
 clear hsz
 clear hg1
 obtain ⟨gz, hgg⟩ : ∃ g, gf + 1 = g := ⟨_, rfl⟩
 rw [hgg] at HZ hg2 ⊢
 have HLTgz : Hid (gf < gz) := Qh (by omega)
 clear hgg
 clear hg2
 have c0 := cell_row HF.out 0 _ H_kind.out
 go_upto_region 2 with (first | (refine wpList_store_row rfl 39 _ _ rfl _ rfl [.int .i64 26, .int .u64 0, .int .u64 0, .slice none 0 0, .bool false, .int .u64 0, .int .u64 0, .int .u64 0, .int .u64 0, .int .u64 0, .slice none 0 0, .int .u8 0, .int .u8 0, .int .u8 0, .int .u8 0, .int .u8 0, .int .u8 0, .int .u8 0, .int .u8 0] ([.int .i64 0, .int .u64 0, .int .u64 0, .slice none 0 0, .bool false, .int .u64 0, .int .u64 0, .int .u64 0, .int .u64 0, .int .u64 0, .slice none 0 0, .int .u8 0, .int .u8 0, .int .u8 0, .int .u8 0, .int .u8 0, .int .u8 0, .int .u8 0, .int .u8 0] : List Value) rfl 39 (heap_alloc_new _ _) rfl rfl (one19 rfl rfl) ?_; intro w9 hr hg) | fail)
 clear c0
 have hal := (Below.refl w2.heap.size w2).alloc (Nat.le_refl _) (.cells ([.int .i64 0, .int .u64 0, .int .u64 0, .slice none 0 0, .bool false, .int .u64 0, .int .u64 0, .int .u64 0, .int .u64 0, .int .u64 0, .slice none 0 0, .int .u8 0, .int .u8 0, .int .u8 0, .int .u8 0, .int .u8 0, .int .u8 0, .int .u8 0, .int .u8 0] : List Value).toArray 39)
 have hb : Below w2.heap.size w2 w9 := hal.grown hg hal.size (by intro k hk; injection hk with hk; omega)
 have hfl := lt_of_block HF.out
 have hzl := lt_of_block HZ.out
 replace HB := Qh (bl_next HB.out HB.out.size hb)
 replace HF := Qh (bl_row hb (lt_of_block HF.out) HF.out)
 replace HZ := Qh (bl_row hb (lt_of_block HZ.out) HZ.out)
 have HO : Hid (w9.heap[w2.heap.size]? = some (.cells ((zeroF 26).cells (.slice none 0 0) (.slice none 0 0)).toArray 39 (0, 0))) := Qh hr
 clear hr hg hal hb
 obtain ⟨go, hgo⟩ : ∃ g, w2.heap.size = g := ⟨_, rfl⟩
 rw [hgo] at HO hfl hzl ⊢
 have hgl : w.heap.size ≤ go := by have := HG0.out; omega
 have hzw : w.heap.size ≤ gz := by have := HG0.out; have := HLTgz.out; omega
 clear hgo
 have c0 := cell_row HF.out 0 _ H_kind.out
 have HRG := Qh (rng_row HF.out 11 _ H_cid.out)
 go_upto_region 28 with (first | (refine wpList_load_mid rfl 37 _ rfl gf 11 rfl (f.cid.map (Value.int .u8)) _ HRG.out Try.underlying37 rfl (by rw [H18.out]; rfl) ?_) | (refine wpList_store_part rfl 37 _ _ rfl go 11 rfl (f.cid.map (Value.int .u8)) _ (((zeroF 26).cells (.slice none 0 0) (.slice none 0 0)).take 11) ((zeroF 26).cid.map (Value.int .u8)) [] rfl HO.out rfl (by rw [H18.out]; rfl) (by rw [H18.out]; rfl) ints_one ?_; intro w10 hr hg; have HO9 := Qh hr; have HG9 := Qh hg; clear hr hg) | fail)
 have hrow : w10.heap[go]? = some (.cells (({ zeroF 26 with cid := f.cid } : Fr).cells (.slice none 0 0) (.slice none 0 0)).toArray 39 (0, 0)) := by have h9 := HO9.out; rw [List.append_nil] at h9; exact h9
 replace HO := Qh hrow
 clear hrow HO9
 clear c0
 replace HF := Qh (grown_row HG9.out (by intro e; injection e with e; omega) HF.out)
 replace HZ := Qh (grown_row HG9.out (by intro e; injection e with e; omega) HZ.out)
 replace HB := Qh (HB.out.grown HG9.out HB.out.size (by intro k hk; injection hk with hk; omega))
 clear HG9
 have HL9 : Hid ((({ zeroF 26 with cid := f.cid } : Fr).cells (.slice none 0 0) (.slice none 0 0)).length = 19) := Qh (by simp [Fr.cells, HWF.out.cidl])
 have hz := zero_wf 26 (by omega)
 have hwf : ({ zeroF 26 with cid := f.cid } : Fr).Wf := ⟨hz.kind, hz.st, hz.of_, hz.li, hz.co, hz.fi, hz.se, hz.de, HWF.out.cidl, HWF.out.cid⟩
 have HW9 := Qh hwf
 clear hz hwf
 have HON : Hid (∀ v ∈ ({ zeroF 26 with cid := f.cid } : Fr).cells (.slice none 0 0) (.slice none 0 0), v.oneCell' = true) := Qh (fun v hv => by simp only [Fr.cells, List.mem_append, List.mem_cons, List.not_mem_nil, or_false, List.mem_map] at hv; rcases hv with hv | ⟨_, _, rfl⟩; rcases hv with rfl | rfl | rfl | rfl | rfl | rfl | rfl | rfl | rfl | rfl | rfl <;> rfl; rfl)
 obtain ⟨RX, hRX⟩ : ∃ R, ({ zeroF 26 with cid := f.cid } : Fr).cells (.slice none 0 0) (.slice none 0 0) = R := ⟨_, rfl⟩
 have HRX := Qh hRX
 have HO9 := HO
 have hrow9 : w10.heap[go]? = some (.cells RX.toArray 39 (0, 0)) := by rw [← hRX]; exact HO.out
 replace HO := Qh hrow9
 rw [hRX] at HON HL9
 clear hRX hrow9 HO9
 go_wp2_with (first | (refine wpList_load_mid rfl 39 _ rfl go 0 rfl RX _ (rngL HO.out) Try.underlying39 rfl (by rw [HL9.out]; rfl) ?_) | (refine wpList_store_row rfl 39 _ _ rfl gz rfl RX ([.int .i64 0, .int .u64 0, .int .u64 0, .slice none 0 0, .bool false, .int .u64 0, .int .u64 0, .int .u64 0, .int .u64 0, .int .u64 0, .slice none 0 0, .int .u8 0, .int .u8 0, .int .u8 0, .int .u8 0, .int .u8 0, .int .u8 0, .int .u8 0, .int .u8 0] : List Value) rfl 39 HZ.out (by rw [HL9.out]; rfl) (by rw [HL9.out]; rfl) HON.out ?_; intro wz hz hgz; have HZ10 := Qh hz; have HGZ := Qh hgz; clear hz hgz) | fail)
 (try simp only [Exit.inBlock, Exit.then])
 refine bodyPost_ret (results_cell1 rfl _ _ gz rfl RX _ _ HZ10.out Try.underlying39 rfl (by rw [HL9.out]; rfl)) rfl ?_
 exact ⟨(.slice none 0 0), (.slice none 0 0), by rw [HRX.out], (FrAt.bare HW9.out rfl rfl), (FrLo.nil _), HB.out.grown HGZ.out HB.out.size (by intro k hk; injection hk with hk; omega), 0, World.ownsRow_nil _ _ _ _⟩
theorem copy4_27 (w : World) (f : Fr) (dv rv : Value) (h : FrAt w f dv rv) (hk : f.kind = 27) :
  Calls Try.prog 25 #[.agg (f.cells dv rv).toArray] w fun e w' => ∃ dv' rv', e = .returned (.agg ((nrmF f).cells dv' rv').toArray) ∧ FrAt w' (nrmF f) dv' rv' ∧ FrLo w.heap.size dv' rv' ∧ Below w.heap.size w w' ∧ ∃ n, w'.ownsRow w.heap.size 5 1 dv' n ((nrmF f).data.map (Value.int .u8)) := by
 have hq : nrmF f = ({ zeroF 27 with cid := f.cid } : Fr) := by unfold nrmF; simp [hk]
 rw [hq]
 clear hq
 have hwf := h.wf
 have H_kind : Hid ((f.cells dv rv)[0]? = some (.int .i64 27)) := Qh (by rw [← hk]; rfl)
 have H_cid : Hid (∀ (j : Nat) (v : Value), (f.cid.map (Value.int .u8))[j]? = some v → (f.cells dv rv)[11 + j]? = some v) := Qh (cells_cid f dv rv)
 have h18 : (f.cid.map (Value.int .u8)).length = 8 := by simp [hwf.cidl]
 have H18 := Qh h18
 clear h18
 have HRF : Hid ((f.cells dv rv).length = 19) := Qh (Fr.len hwf)
 obtain ⟨RF, hRF⟩ : ∃ R, (f.cells dv rv) = R := ⟨_, rfl⟩
 simp only [hRF] at HRF H_kind H_cid
 rw [hRF]
 have HWF := Qh hwf
 clear hwf h hRF hk
 go_enter Try.func25, Try.ntmps25
 go_upto_region 1 with fail
 change Code.wp _ _ _ _ ((w.alloc (.cells RF.toArray 39)).alloc (.cells ([.int .i64 0, .int .u64 0, .int .u64 0, .slice none 0 0, .bool false, .int .u64 0, .int .u64 0, .int .u64 0, .int .u64 0, .int .u64 0, .slice none 0 0, .int .u8 0, .int .u8 0, .int .u8 0, .int .u8 0, .int .u8 0, .int .u8 0, .int .u8 0, .int .u8 0] : List Value).toArray 39))
 have HB := Qh (Below.refl w.heap.size w)
 obtain ⟨gf, hg0⟩ : ∃ g, w.heap.size = g := ⟨_, rfl⟩
 try rw [hg0]
 have hb := (Below.refl w.heap.size w).alloc (Nat.le_refl _) (.cells RF.toArray 39)
 have hrw := heap_alloc_new w (.cells RF.toArray 39)
 have hsz : (w.alloc (.cells RF.toArray 39)).heap.size = gf + 1 := by simp [hg0]
 rw [hg0] at hrw
 replace HB := Qh (bl_next HB.out HB.out.size hb)
 have HF := Qh hrw
 clear hb hrw
 generalize w.alloc (.cells RF.toArray 39) = w1 at HB HF hsz ⊢
 have hg1 := hsz
 clear hsz
 have HG0 := Qh hg0
 clear hg0
 have hb := (Below.refl w1.heap.size w1).alloc (Nat.le_refl _) (.cells ([.int .i64 0, .int .u64 0, .int .u64 0, .slice none 0 0, .bool false, .int .u64 0, .int .u64 0, .int .u64 0, .int .u64 0, .int .u64 0, .slice none 0 0, .int .u8 0, .int .u8 0, .int .u8 0, .int .u8 0, .int .u8 0, .int .u8 0, .int .u8 0, .int .u8 0] : List Value).toArray 39)
 have hrw := heap_alloc_new w1 (.cells ([.int .i64 0, .int .u64 0, .int .u64 0, .slice none 0 0, .bool false, .int .u64 0, .int .u64 0, .int .u64 0, .int .u64 0, .int .u64 0, .slice none 0 0, .int .u8 0, .int .u8 0, .int .u8 0, .int .u8 0, .int .u8 0, .int .u8 0, .int .u8 0, .int .u8 0] : List Value).toArray 39)
 have hsz : (w1.alloc (.cells ([.int .i64 0, .int .u64 0, .int .u64 0, .slice none 0 0, .bool false, .int .u64 0, .int .u64 0, .int .u64 0, .int .u64 0, .int .u64 0, .slice none 0 0, .int .u8 0, .int .u8 0, .int .u8 0, .int .u8 0, .int .u8 0, .int .u8 0, .int .u8 0, .int .u8 0] : List Value).toArray 39)).heap.size = gf + 1 + 1 := by simp [hg1]
 rw [hg1] at hrw
 replace HB := Qh (bl_next HB.out HB.out.size hb)
 replace HF := Qh (bl_row hb (lt_of_block HF.out) HF.out)
 have HZ := Qh hrw
 clear hb hrw
 generalize w1.alloc (.cells ([.int .i64 0, .int .u64 0, .int .u64 0, .slice none 0 0, .bool false, .int .u64 0, .int .u64 0, .int .u64 0, .int .u64 0, .int .u64 0, .slice none 0 0, .int .u8 0, .int .u8 0, .int .u8 0, .int .u8 0, .int .u8 0, .int .u8 0, .int .u8 0, .int .u8 0] : List Value).toArray 39) = w2 at HB HF HZ hsz ⊢
 have hg2 := hsz
 clear hsz
 clear hg1
 obtain ⟨gz, hgg⟩ : ∃ g, gf + 1 = g := ⟨_, rfl⟩
 rw [hgg] at HZ hg2 ⊢
 have HLTgz : Hid (gf < gz) := Qh (by omega)
 clear hgg
 clear hg2
 have c0 := cell_row HF.out 0 _ H_kind.out
 go_upto_region 2 with (first | (refine wpList_store_row rfl 39 _ _ rfl _ rfl [.int .i64 27, .int .u64 0, .int .u64 0, .slice none 0 0, .bool false, .int .u64 0, .int .u64 0, .int .u64 0, .int .u64 0, .int .u64 0, .slice none 0 0, .int .u8 0, .int .u8 0, .int .u8 0, .int .u8 0, .int .u8 0, .int .u8 0, .int .u8 0, .int .u8 0] ([.int .i64 0, .int .u64 0, .int .u64 0, .slice none 0 0, .bool false, .int .u64 0, .int .u64 0, .int .u64 0, .int .u64 0, .int .u64 0, .slice none 0 0, .int .u8 0, .int .u8 0, .int .u8 0, .int .u8 0, .int .u8 0, .int .u8 0, .int .u8 0, .int .u8 0] : List Value) rfl 39 (heap_alloc_new _ _) rfl rfl (one19 rfl rfl) ?_; intro w9 hr hg) | fail)
 clear c0
 have hal := (Below.refl w2.heap.size w2).alloc (Nat.le_refl _) (.cells ([.int .i64 0, .int .u64 0, .int .u64 0, .slice none 0 0, .bool false, .int .u64 0, .int .u64 0, .int .u64 0, .int .u64 0, .int .u64 0, .slice none 0 0, .int .u8 0, .int .u8 0, .int .u8 0, .int .u8 0, .int .u8 0, .int .u8 0, .int .u8 0, .int .u8 0] : List Value).toArray 39)
 have hb : Below w2.heap.size w2 w9 := hal.grown hg hal.size (by intro k hk; injection hk with hk; omega)
 have hfl := lt_of_block HF.out
 have hzl := lt_of_block HZ.out
 replace HB := Qh (bl_next HB.out HB.out.size hb)
 replace HF := Qh (bl_row hb (lt_of_block HF.out) HF.out)
 replace HZ := Qh (bl_row hb (lt_of_block HZ.out) HZ.out)
 have HO : Hid (w9.heap[w2.heap.size]? = some (.cells ((zeroF 27).cells (.slice none 0 0) (.slice none 0 0)).toArray 39 (0, 0))) := Qh hr
 clear hr hg hal hb
 obtain ⟨go, hgo⟩ : ∃ g, w2.heap.size = g := ⟨_, rfl⟩
 rw [hgo] at HO hfl hzl ⊢
 have hgl : w.heap.size ≤ go := by have := HG0.out; omega
 have hzw : w.heap.size ≤ gz := by have := HG0.out; have := HLTgz.out; omega
 clear hgo
 have c0 := cell_row HF.out 0 _ H_kind.out
 have HRG := Qh (rng_row HF.out 11 _ H_cid.out)
 go_upto_region 28 with (first | (refine wpList_load_mid rfl 37 _ rfl gf 11 rfl (f.cid.map (Value.int .u8)) _ HRG.out Try.underlying37 rfl (by rw [H18.out]; rfl) ?_) | (refine wpList_store_part rfl 37 _ _ rfl go 11 rfl (f.cid.map (Value.int .u8)) _ (((zeroF 27).cells (.slice none 0 0) (.slice none 0 0)).take 11) ((zeroF 27).cid.map (Value.int .u8)) [] rfl HO.out rfl (by rw [H18.out]; rfl) (by rw [H18.out]; rfl) ints_one ?_; intro w10 hr hg; have HO9 := Qh hr; have HG9 := Qh hg; clear hr hg) | fail)
 have hrow : w10.heap[go]? = some (.cells (({ zeroF 27 with cid := f.cid } : Fr).cells (.slice none 0 0) (.slice none 0 0)).toArray 39 (0, 0)) := by have h9 := HO9.out; rw [List.append_nil] at h9; exact h9
 replace HO := Qh hrow
 clear hrow HO9
 clear c0
 replace HF := Qh (grown_row HG9.out (by intro e; injection e with e; omega) HF.out)
 replace HZ := Qh (grown_row HG9.out (by intro e; injection e with e; omega) HZ.out)
 replace HB := Qh (HB.out.grown HG9.out HB.out.size (by intro k hk; injection hk with hk; omega))
 clear HG9
 have HL9 : Hid ((({ zeroF 27 with cid := f.cid } : Fr).cells (.slice none 0 0) (.slice none 0 0)).length = 19) := Qh (by simp [Fr.cells, HWF.out.cidl])
 have hz := zero_wf 27 (by omega)
 have hwf : ({ zeroF 27 with cid := f.cid } : Fr).Wf := ⟨hz.kind, hz.st, hz.of_, hz.li, hz.co, hz.fi, hz.se, hz.de, HWF.out.cidl, HWF.out.cid⟩
 have HW9 := Qh hwf
 clear hz hwf
 have HON : Hid (∀ v ∈ ({ zeroF 27 with cid := f.cid } : Fr).cells (.slice none 0 0) (.slice none 0 0), v.oneCell' = true) := Qh (fun v hv => by simp only [Fr.cells, List.mem_append, List.mem_cons, List.not_mem_nil, or_false, List.mem_map] at hv; rcases hv with hv | ⟨_, _, rfl⟩; rcases hv with rfl | rfl | rfl | rfl | rfl | rfl | rfl | rfl | rfl | rfl | rfl <;> rfl; rfl)
 obtain ⟨RX, hRX⟩ : ∃ R, ({ zeroF 27 with cid := f.cid } : Fr).cells (.slice none 0 0) (.slice none 0 0) = R := ⟨_, rfl⟩
 have HRX := Qh hRX
 have HO9 := HO
 have hrow9 : w10.heap[go]? = some (.cells RX.toArray 39 (0, 0)) := by rw [← hRX]; exact HO.out
 replace HO := Qh hrow9
 rw [hRX] at HON HL9
 clear hRX hrow9 HO9
 go_wp2_with (first | (refine wpList_load_mid rfl 39 _ rfl go 0 rfl RX _ (rngL HO.out) Try.underlying39 rfl (by rw [HL9.out]; rfl) ?_) | (refine wpList_store_row rfl 39 _ _ rfl gz rfl RX ([.int .i64 0, .int .u64 0, .int .u64 0, .slice none 0 0, .bool false, .int .u64 0, .int .u64 0, .int .u64 0, .int .u64 0, .int .u64 0, .slice none 0 0, .int .u8 0, .int .u8 0, .int .u8 0, .int .u8 0, .int .u8 0, .int .u8 0, .int .u8 0, .int .u8 0] : List Value) rfl 39 HZ.out (by rw [HL9.out]; rfl) (by rw [HL9.out]; rfl) HON.out ?_; intro wz hz hgz; have HZ10 := Qh hz; have HGZ := Qh hgz; clear hz hgz) | fail)
 (try simp only [Exit.inBlock, Exit.then])
 refine bodyPost_ret (results_cell1 rfl _ _ gz rfl RX _ _ HZ10.out Try.underlying39 rfl (by rw [HL9.out]; rfl)) rfl ?_
 exact ⟨(.slice none 0 0), (.slice none 0 0), by rw [HRX.out], (FrAt.bare HW9.out rfl rfl), (FrLo.nil _), HB.out.grown HGZ.out HB.out.size (by intro k hk; injection hk with hk; omega), 0, World.ownsRow_nil _ _ _ _⟩
theorem copy4_28 (w : World) (f : Fr) (dv rv : Value) (h : FrAt w f dv rv) (hk : f.kind = 28) (hdl : f.data.length ≤ 1000000) :
  Calls Try.prog 25 #[.agg (f.cells dv rv).toArray] w fun e w' => ∃ dv' rv', e = .returned (.agg ((nrmF f).cells dv' rv').toArray) ∧ FrAt w' (nrmF f) dv' rv' ∧ FrLo w.heap.size dv' rv' ∧ Below w.heap.size w w' ∧ ∃ n, w'.ownsRow w.heap.size 5 1 dv' n ((nrmF f).data.map (Value.int .u8)) := by
 have hq : nrmF f = ({ zeroF 28 with co := f.co, data := f.data } : Fr) := by unfold nrmF; simp [hk]
 rw [hq]
 clear hq
 have hwf := h.wf
 obtain ⟨da, dn, dc, rfl, hd1, hd2, hd⟩ := h.d
 have hdn : f.data.length = dn := hd.1
 rw [hdn] at hdl
 have HD := Qh hd
 clear hd hdn
 have H_kind : Hid ((f.cells (.slice da dn dc) rv)[0]? = some (.int .i64 28)) := Qh (by rw [← hk]; rfl)
 have H_co : Hid ((f.cells (.slice da dn dc) rv)[6]? = some (.int .u64 f.co)) := Qh rfl
 have H_data : Hid ((f.cells (.slice da dn dc) rv)[3]? = some (.slice da dn dc)) := Qh rfl
 have HRF : Hid ((f.cells (.slice da dn dc) rv).length = 19) := Qh (Fr.len hwf)
 obtain ⟨RF, hRF⟩ : ∃ R, (f.cells (.slice da dn dc) rv) = R := ⟨_, rfl⟩
 simp only [hRF] at HRF H_kind H_co H_data
 rw [hRF]
 have HWF := Qh hwf
 clear hwf h hRF hk
 go_enter Try.func25, Try.ntmps25
 go_upto_region 1 with fail
 change Code.wp _ _ _ _ ((w.alloc (.cells RF.toArray 39)).alloc (.cells ([.int .i64 0, .int .u64 0, .int .u64 0, .slice none 0 0, .bool false, .int .u64 0, .int .u64 0, .int .u64 0, .int .u64 0, .int .u64 0, .slice none 0 0, .int .u8 0, .int .u8 0, .int .u8 0, .int .u8 0, .int .u8 0, .int .u8 0, .int .u8 0, .int .u8 0] : List Value).toArray 39))
 have HB := Qh (Below.refl w.heap.size w)
 obtain ⟨gf, hg0⟩ : ∃ g, w.heap.size = g := ⟨_, rfl⟩
 try rw [hg0]
 have hb := (Below.refl w.heap.size w).alloc (Nat.le_refl _) (.cells RF.toArray 39)
 have hrw := heap_alloc_new w (.cells RF.toArray 39)
 have hsz : (w.alloc (.cells RF.toArray 39)).heap.size = gf + 1 := by simp [hg0]
 rw [hg0] at hrw
 replace HB := Qh (bl_next HB.out HB.out.size hb)
 replace HD := Qh (HD.out.below hb)
 have HF := Qh hrw
 clear hb hrw
 generalize w.alloc (.cells RF.toArray 39) = w1 at HB HD HF hsz ⊢
 have hg1 := hsz
 clear hsz
 have HG0 := Qh hg0
 clear hg0
 have hb := (Below.refl w1.heap.size w1).alloc (Nat.le_refl _) (.cells ([.int .i64 0, .int .u64 0, .int .u64 0, .slice none 0 0, .bool false, .int .u64 0, .int .u64 0, .int .u64 0, .int .u64 0, .int .u64 0, .slice none 0 0, .int .u8 0, .int .u8 0, .int .u8 0, .int .u8 0, .int .u8 0, .int .u8 0, .int .u8 0, .int .u8 0] : List Value).toArray 39)
 have hrw := heap_alloc_new w1 (.cells ([.int .i64 0, .int .u64 0, .int .u64 0, .slice none 0 0, .bool false, .int .u64 0, .int .u64 0, .int .u64 0, .int .u64 0, .int .u64 0, .slice none 0 0, .int .u8 0, .int .u8 0, .int .u8 0, .int .u8 0, .int .u8 0, .int .u8 0, .int .u8 0, .int .u8 0] : List Value).toArray 39)
 have hsz : (w1.alloc (.cells ([.int .i64 0, .int .u64 0, .int .u64 0, .slice none 0 0, .bool false, .int .u64 0, .int .u64 0, .int .u64 0, .int .u64 0, .int .u64 0, .slice none 0 0, .int .u8 0, .int .u8 0, .int .u8 0, .int .u8 0, .int .u8 0, .int .u8 0, .int .u8 0, .int .u8 0] : List Value).toArray 39)).heap.size = gf + 1 + 1 := by simp [hg1]
 rw [hg1] at hrw
 replace HB := Qh (bl_next HB.out HB.out.size hb)
 replace HD := Qh (HD.out.below hb)
 replace HF := Qh (bl_row hb (lt_of_block HF.out) HF.out)
 have HZ := Qh hrw
 clear hb hrw
 generalize w1.alloc (.cells ([.int .i64 0, .int .u64 0, .int .u64 0, .slice none 0 0, .bool false, .int .u64 0, .int .u64 0, .int .u64 0, .int .u64 0, .int .u64 0, .slice none 0 0, .int .u8 0, .int .u8 0, .int .u8 0, .int .u8 0, .int .u8 0, .int .u8 0, .int .u8 0, .int .u8 0] : List Value).toArray 39) = w2 at HB HD HF HZ hsz ⊢
 have hg2 := hsz
 clear hsz
 clear hg1
 obtain ⟨gz, hgg⟩ : ∃ g, gf + 1 = g := ⟨_, rfl⟩
 rw [hgg] at HZ hg2 ⊢
 have HLTgz : Hid (gf < gz) := Qh (by omega)
 clear hgg
 clear hg2
 have c0 := cell_row HF.out 0 _ H_kind.out
 go_upto_region 2 with (first | (refine wpList_store_row rfl 39 _ _ rfl _ rfl [.int .i64 28, .int .u64 0, .int .u64 0, .slice none 0 0, .bool false, .int .u64 0, .int .u64 0, .int .u64 0, .int .u64 0, .int .u64 0, .slice none 0 0, .int .u8 0, .int .u8 0, .int .u8 0, .int .u8 0, .int .u8 0, .int .u8 0, .int .u8 0, .int .u8 0] ([.int .i64 0, .int .u64 0, .int .u64 0, .slice none 0 0, .bool false, .int .u64 0, .int .u64 0, .int .u64 0, .int .u64 0, .int .u64 0, .slice none 0 0, .int .u8 0, .int .u8 0, .int .u8 0, .int .u8 0, .int .u8 0, .int .u8 0, .int .u8 0, .int .u8 0] : List Value) rfl 39 (heap_alloc_new _ _) rfl rfl (one19 rfl rfl) ?_; intro w9 hr hg) | fail)
 clear c0
 have hal := (Below.refl w2.heap.size w2).alloc (Nat.le_refl _) (.cells ([.int .i64 0, .int .u64 0, .int .u64 0, .slice none 0 0, .bool false, .int .u64 0, .int .u64 0, .int .u64 0, .int .u64 0, .int .u64 0, .slice none 0 0, .int .u8 0, .int .u8 0, .int .u8 0, .int .u8 0, .int .u8 0, .int .u8 0, .int .u8 0, .int .u8 0] : List Value).toArray 39)
 have hb : Below w2.heap.size w2 w9 := hal.grown hg hal.size (by intro k hk; injection hk with hk; omega)
 have hfl := lt_of_block HF.out
 have hzl := lt_of_block HZ.out
 replace HB := Qh (bl_next HB.out HB.out.size hb)
 replace HD := Qh (HD.out.below hb)
 replace HF := Qh (bl_row hb (lt_of_block HF.out) HF.out)
 replace HZ := Qh (bl_row hb (lt_of_block HZ.out) HZ.out)
 have HO : Hid (w9.heap[w2.heap.size]? = some (.cells ((zeroF 28).cells (.slice none 0 0) (.slice none 0 0)).toArray 39 (0, 0))) := Qh hr
 clear hr hg hal hb
 obtain ⟨go, hgo⟩ : ∃ g, w2.heap.size = g := ⟨_, rfl⟩
 rw [hgo] at HO hfl hzl ⊢
 have hgl : w.heap.size ≤ go := by have := HG0.out; omega
 have hzw : w.heap.size ≤ gz := by have := HG0.out; have := HLTgz.out; omega
 clear hgo
 have c0 := cell_row HF.out 0 _ H_kind.out
 go_upto_region 27 with fail
 clear c0
 have g0 : ∀ z : In (fun y => y.heap[gf]? = some (.cells RF.toArray 39 (0, 0))), z.w.cell? ⟨gf, 6, none⟩ = some (.int .u64 f.co) := fun z => cell_row z.h 6 _ H_co.out
 have g1 : ∀ z : In (fun y => y.heap[gf]? = some (.cells RF.toArray 39 (0, 0))), z.w.cell? ⟨gf, 3, none⟩ = some (.slice da dn dc) := fun z => cell_row z.h 3 _ H_data.out
 refine wp_plan (.t 0 (.t 1 (.t 2 (.t 3 (.t 5 (.u 4 (.u 6 (.t 7 (.u 8 .done))))))))) (fun y => y.heap[gf]? = some (.cells RF.toArray 39 (0, 0))) (by kernel_rfl) (by kernel_rfl) (by kernel_rfl) (fun c a d v w h => by cases d <;> exact h) HF.out ?_
 have hb := (Below.refl w9.heap.size w9).drew
 replace HB := Qh (bl_next HB.out HB.out.size hb)
 replace HZ := Qh (bl_row hb (lt_of_block HZ.out) HZ.out)
 replace HO := Qh (bl_row hb (lt_of_block HO.out) HO.out)
 replace HF := Qh (bl_row hb (lt_of_block HF.out) HF.out)
 replace HD := Qh (HD.out.below hb)
 clear hb
 generalize w9.drew = w10 at HB HZ HO HF HD ⊢
 haveI hne : Nonempty (In (fun y => y.heap[gf]? = some (.cells RF.toArray 39 (0, 0)))) := ⟨⟨w10, HF.out⟩⟩
 repeat (first | (refine plan_t (by rfl) ?_; (first | go_big_quiet_skip | (go_big_quiet_want; go_big_quiet_op; go_big_quiet_on)); refine wpQuiet_nil ?_))
 refine plan_us (by rfl) (by kernel_rfl) ?_
 intro K hK
 go_wp2_with fail
 refine Calls.mono (clone_any w10 da dn dc f.data (by omega) HD.out) ?_
 rintro e w11 ⟨v, rfl, hb, ho⟩
 have hlo : ∀ x, v.ownBlock = some x → w10.heap.size ≤ x := own_base ho
 have hgc : go < w10.heap.size := lt_of_block HO.out
 obtain ⟨va, vc, rfl, hv1, hv2⟩ := sl_own ho
 obtain ⟨va2, vc2, hv9, _, hi9, _⟩ := ints_of_own ho HD.out.2.1
 have HNI := Qh (by injection hv9 with e1; rw [← e1] at hi9; exact hi9 : IntsK .u8 _ va dn f.data)
 clear hv9
 have HBS : Hid (go < w10.heap.size ∧ w.heap.size ≤ w10.heap.size) := Qh ⟨hgc, HB.out.size⟩
 obtain ⟨bse, hbse⟩ : ∃ b, w10.heap.size = b := ⟨_, rfl⟩
 have HNO : Hid (World.ownsRow _ bse 5 1 (.slice va dn vc) dn (f.data.map (Value.int .u8))) := Qh (by rw [← hbse]; exact ho)
 rw [hbse] at HBS
 clear hbse
 have HVL : Hid (∀ x, va = some x → w.heap.size ≤ x.block ∧ go < x.block) := Qh (fun x hx => by have := hlo x.block (by rw [hx]; rfl); have := HB.out.size; omega)
 have HVC := Qh (And.intro hv1 hv2)
 replace HB := Qh (bl_next HB.out HB.out.size hb)
 replace HZ := Qh (bl_row hb (lt_of_block HZ.out) HZ.out)
 replace HO := Qh (bl_row hb (lt_of_block HO.out) HO.out)
 replace HF := Qh (bl_row hb (lt_of_block HF.out) HF.out)
 replace HD := Qh (HD.out.below hb)
 clear hb ho hlo hgc hv1 hv2 hi9
 go_wp2_with fail
 refine ⟨HF.out, ?_⟩
 repeat (first | (refine plan_t (by rfl) ?_; (first | go_big_quiet_skip | (go_big_quiet_want; go_big_quiet_op; go_big_quiet_on)); refine wpQuiet_nil ?_))
 refine plan_us (by rfl) (by kernel_rfl) ?_
 intro K hK
 have c2 := row_cell HO.out 6 _ rfl
 have f2 := row_free HO.out 6
 go_wp2_with fail
 clear c2 f2
 have hat := ((At.base HO.out).set 6 (.int .u64 f.co)).conv (cs' := (({ zeroF 28 with co := f.co } : Fr).cells (.slice none 0 0) (.slice none 0 0)).toArray) (by rfl)
 have HN := Qh hat.row; have HG9 := Qh hat.rest
 clear hat
 have HF9 := Qh (grown_row HG9.out (by intro e; injection e with e; omega) HF.out)
 refine ⟨HF9.out, ?_⟩
 generalize w11.setCell ⟨go, 6, none⟩ (.int .u64 f.co) = w12 at HN HG9 HF9 ⊢
 replace HF := HF9; replace HO := HN
 replace HZ := Qh (grown_row HG9.out (by intro e; injection e with e; omega) HZ.out)
 replace HB := Qh (HB.out.grown HG9.out HB.out.size (by intro k hk; injection hk with hk; omega))
 replace HNI := Qh (HNI.out.grown HG9.out (fun x hx e => by injection e with e; have := HVL.out x hx; omega))
 replace HNO := Qh (own_away HNO.out HG9.out HBS.out.1)
 clear HG9 HF9 HN
 repeat (first | (refine plan_t (by rfl) ?_; (first | go_big_quiet_skip | (go_big_quiet_want; go_big_quiet_op; go_big_quiet_on)); refine wpQuiet_nil ?_))
 refine plan_us (by rfl) (by kernel_rfl) ?_
 intro K hK
 have c2 := row_cell HO.out 3 _ rfl
 have f2 := row_free HO.out 3
 go_wp2_with fail
 clear c2 f2
 have hat := ((At.base HO.out).set 3 (.slice va dn vc)).conv (cs' := (({ zeroF 28 with co := f.co, data := f.data } : Fr).cells (.slice va dn vc) (.slice none 0 0)).toArray) (by rfl)
 have HN := Qh hat.row; have HG9 := Qh hat.rest
 clear hat
 have HF9 := Qh (grown_row HG9.out (by intro e; injection e with e; omega) HF.out)
 refine ⟨HF9.out, ?_⟩
 generalize w12.setCell ⟨go, 3, none⟩ (.slice va dn vc) = w13 at HN HG9 HF9 ⊢
 replace HF := HF9; replace HO := HN
 replace HZ := Qh (grown_row HG9.out (by intro e; injection e with e; omega) HZ.out)
 replace HB := Qh (HB.out.grown HG9.out HB.out.size (by intro k hk; injection hk with hk; omega))
 replace HNI := Qh (HNI.out.grown HG9.out (fun x hx e => by injection e with e; have := HVL.out x hx; omega))
 replace HNO := Qh (own_away HNO.out HG9.out HBS.out.1)
 clear HG9 HF9 HN
 repeat (first | (refine plan_t (by rfl) ?_; (first | go_big_quiet_skip | (go_big_quiet_want; go_big_quiet_op; go_big_quiet_on)); refine wpQuiet_nil ?_))
 clear hne g0 g1
 show Exit.inBlock _ _ _ _ _
 simp only [Exit.inBlock]
 have HL9 : Hid ((({ zeroF 28 with co := f.co, data := f.data } : Fr).cells (.slice va dn vc) (.slice none 0 0)).length = 19) := Qh rfl
 have hz := zero_wf 28 (by omega)
 have hwf : ({ zeroF 28 with co := f.co, data := f.data } : Fr).Wf := ⟨hz.kind, hz.st, hz.of_, hz.li, HWF.out.co, hz.fi, hz.se, hz.de, hz.cidl, hz.cid⟩
 have HW9 := Qh hwf
 clear hz hwf
 have HON : Hid (∀ v ∈ ({ zeroF 28 with co := f.co, data := f.data } : Fr).cells (.slice va dn vc) (.slice none 0 0), v.oneCell' = true) := Qh (fun v hv => by simp only [Fr.cells, List.mem_append, List.mem_cons, List.not_mem_nil, or_false, List.mem_map] at hv; rcases hv with hv | ⟨_, _, rfl⟩; rcases hv with rfl | rfl | rfl | rfl | rfl | rfl | rfl | rfl | rfl | rfl | rfl <;> rfl; rfl)
 obtain ⟨RX, hRX⟩ : ∃ R, ({ zeroF 28 with co := f.co, data := f.data } : Fr).cells (.slice va dn vc) (.slice none 0 0) = R := ⟨_, rfl⟩
 have HRX := Qh hRX
 have HO9 := HO
 have hrow9 : w13.heap[go]? = some (.cells RX.toArray 39 (0, 0)) := by rw [← hRX]; exact HO.out
 replace HO := Qh hrow9
 rw [hRX] at HON HL9
 clear hRX hrow9 HO9
 go_wp2_with (first | (refine wpList_load_mid rfl 39 _ rfl go 0 rfl RX _ (rngL HO.out) Try.underlying39 rfl (by rw [HL9.out]; rfl) ?_) | (refine wpList_store_row rfl 39 _ _ rfl gz rfl RX ([.int .i64 0, .int .u64 0, .int .u64 0, .slice none 0 0, .bool false, .int .u64 0, .int .u64 0, .int .u64 0, .int .u64 0, .int .u64 0, .slice none 0 0, .int .u8 0, .int .u8 0, .int .u8 0, .int .u8 0, .int .u8 0, .int .u8 0, .int .u8 0, .int .u8 0] : List Value) rfl 39 HZ.out (by rw [HL9.out]; rfl) (by rw [HL9.out]; rfl) HON.out ?_; intro wz hz hgz; have HZ10 := Qh hz; have HGZ := Qh hgz; clear hz hgz) | fail)
 (try simp only [Exit.inBlock, Exit.then])
 refine bodyPost_ret (results_cell1 rfl _ _ gz rfl RX _ _ HZ10.out Try.underlying39 rfl (by rw [HL9.out]; rfl)) rfl ?_
 exact ⟨(.slice va dn vc), (.slice none 0 0), by rw [HRX.out], (FrAt.text HW9.out HVC.out (HNI.out.grown HGZ.out (fun x hx e => by injection e with e; have := HVL.out x hx; omega)) rfl), (FrLo.text (fun x hx => (HVL.out x hx).1)), HB.out.grown HGZ.out HB.out.size (by intro k hk; injection hk with hk; omega), _, own_lower (own_away HNO.out HGZ.out (by have := HBS.out.1; omega)) HBS.out.2⟩
theorem copy4_no (w : World) (f : Fr) (dv rv : Value) (h : FrAt w f dv rv) (hk : ¬ (f.kind = 2 ∨ f.kind = 4 ∨ f.kind = 5 ∨ f.kind = 6 ∨ f.kind = 8 ∨ f.kind = 16 ∨ f.kind = 18 ∨ f.kind = 20 ∨ f.kind = 17 ∨ f.kind = 24 ∨ f.kind = 25 ∨ f.kind = 26 ∨ f.kind = 27 ∨ f.kind = 28)) :
  Calls Try.prog 25 #[.agg (f.cells dv rv).toArray] w fun e w' => ∃ dv' rv', e = .returned (.agg ((nrmF f).cells dv' rv').toArray) ∧ FrAt w' (nrmF f) dv' rv' ∧ FrLo w.heap.size dv' rv' ∧ Below w.heap.size w w' ∧ ∃ n, w'.ownsRow w.heap.size 5 1 dv' n ((nrmF f).data.map (Value.int .u8)) := by
 simp only [not_or] at hk
 have hq : nrmF f = zeroF f.kind := by unfold nrmF; simp [hk]
 rw [hq]
 clear hq
 have hwf := h.wf
 have hkd := hwf.kind
 obtain ⟨k, hkk⟩ : ∃ k, f.kind = k := ⟨_, rfl⟩
 have H_kind : Hid ((f.cells dv rv)[0]? = some (.int .i64 k)) := Qh (by rw [← hkk]; rfl)
 have HRF : Hid ((f.cells dv rv).length = 19) := Qh (Fr.len hwf)
 obtain ⟨RF, hRF⟩ : ∃ R, (f.cells dv rv) = R := ⟨_, rfl⟩
 simp only [hRF] at HRF H_kind
 rw [hRF]
 have HWF := Qh hwf
 rw [hkk] at hk hkd ⊢
 obtain ⟨n2, n4, n5, n6, n8, n16, n18, n20, n17, n24, n25, n26, n27, n28⟩ := hk
 have e2 : (k == 2) = false := by simpa using n2
 have e4 : (k == 4) = false := by simpa using n4
 have e5 : (k == 5) = false := by simpa using n5
 have e6 : (k == 6) = false := by simpa using n6
 have e8 : (k == 8) = false := by simpa using n8
 have e16 : (k == 16) = false := by simpa using n16
 have e18 : (k == 18) = false := by simpa using n18
 have e20 : (k == 20) = false := by simpa using n20
 have e17 : (k == 17) = false := by simpa using n17
 have e24 : (k == 24) = false := by simpa using n24
 have e25 : (k == 25) = false := by simpa using n25
 have e26 : (k == 26) = false := by simpa using n26
 have e27 : (k == 27) = false := by simpa using n27
 have e28 : (k == 28) = false := by simpa using n28
 clear n2 n4 n5 n6 n8 n16 n18 n20 n17 n24 n25 n26 n27 n28
 clear hwf h hRF hkk
 go_enter Try.func25, Try.ntmps25
 go_upto_region 1 with fail
 change Code.wp _ _ _ _ ((w.alloc (.cells RF.toArray 39)).alloc (.cells ([.int .i64 0, .int .u64 0, .int .u64 0, .slice none 0 0, .bool false, .int .u64 0, .int .u64 0, .int .u64 0, .int .u64 0, .int .u64 0, .slice none 0 0, .int .u8 0, .int .u8 0, .int .u8 0, .int .u8 0, .int .u8 0, .int .u8 0, .int .u8 0, .int .u8 0] : List Value).toArray 39))
 have HB := Qh (Below.refl w.heap.size w)
 obtain ⟨gf, hg0⟩ : ∃ g, w.heap.size = g := ⟨_, rfl⟩
 try rw [hg0]
 have hb := (Below.refl w.heap.size w).alloc (Nat.le_refl _) (.cells RF.toArray 39)
 have hrw := heap_alloc_new w (.cells RF.toArray 39)
 have hsz : (w.alloc (.cells RF.toArray 39)).heap.size = gf + 1 := by simp [hg0]
 rw [hg0] at hrw
 replace HB := Qh (bl_next HB.out HB.out.size hb)
 have HF := Qh hrw
 clear hb hrw
 generalize w.alloc (.cells RF.toArray 39) = w1 at HB HF hsz ⊢
 have hg1 := hsz
 clear hsz
 have HG0 := Qh hg0
 clear hg0
 have hb := (Below.refl w1.heap.size w1).alloc (Nat.le_refl _) (.cells ([.int .i64 0, .int .u64 0, .int .u64 0, .slice none 0 0, .bool false, .int .u64 0, .int .u64 0, .int .u64 0, .int .u64 0, .int .u64 0, .slice none 0 0, .int .u8 0, .int .u8 0, .int .u8 0, .int .u8 0, .int .u8 0, .int .u8 0, .int .u8 0, .int .u8 0] : List Value).toArray 39)
 have hrw := heap_alloc_new w1 (.cells ([.int .i64 0, .int .u64 0, .int .u64 0, .slice none 0 0, .bool false, .int .u64 0, .int .u64 0, .int .u64 0, .int .u64 0, .int .u64 0, .slice none 0 0, .int .u8 0, .int .u8 0, .int .u8 0, .int .u8 0, .int .u8 0, .int .u8 0, .int .u8 0, .int .u8 0] : List Value).toArray 39)
 have hsz : (w1.alloc (.cells ([.int .i64 0, .int .u64 0, .int .u64 0, .slice none 0 0, .bool false, .int .u64 0, .int .u64 0, .int .u64 0, .int .u64 0, .int .u64 0, .slice none 0 0, .int .u8 0, .int .u8 0, .int .u8 0, .int .u8 0, .int .u8 0, .int .u8 0, .int .u8 0, .int .u8 0] : List Value).toArray 39)).heap.size = gf + 1 + 1 := by simp [hg1]
 rw [hg1] at hrw
 replace HB := Qh (bl_next HB.out HB.out.size hb)
 replace HF := Qh (bl_row hb (lt_of_block HF.out) HF.out)
 have HZ := Qh hrw
 clear hb hrw
 generalize w1.alloc (.cells ([.int .i64 0, .int .u64 0, .int .u64 0, .slice none 0 0, .bool false, .int .u64 0, .int .u64 0, .int .u64 0, .int .u64 0, .int .u64 0, .slice none 0 0, .int .u8 0, .int .u8 0, .int .u8 0, .int .u8 0, .int .u8 0, .int .u8 0, .int .u8 0, .int .u8 0] : List Value).toArray 39) = w2 at HB HF HZ hsz ⊢
 have hg2 := hsz
 clear hsz
 clear hg1
 obtain ⟨gz, hgg⟩ : ∃ g, gf + 1 = g := ⟨_, rfl⟩
 rw [hgg] at HZ hg2 ⊢
 have HLTgz : Hid (gf < gz) := Qh (by omega)
 clear hgg
 clear hg2
 have c0 := cell_row HF.out 0 _ H_kind.out
 go_upto_region 2 with (first | (refine wpList_store_row rfl 39 _ _ rfl _ rfl [.int .i64 k, .int .u64 0, .int .u64 0, .slice none 0 0, .bool false, .int .u64 0, .int .u64 0, .int .u64 0, .int .u64 0, .int .u64 0, .slice none 0 0, .int .u8 0, .int .u8 0, .int .u8 0, .int .u8 0, .int .u8 0, .int .u8 0, .int .u8 0, .int .u8 0] ([.int .i64 0, .int .u64 0, .int .u64 0, .slice none 0 0, .bool false, .int .u64 0, .int .u64 0, .int .u64 0, .int .u64 0, .int .u64 0, .slice none 0 0, .int .u8 0, .int .u8 0, .int .u8 0, .int .u8 0, .int .u8 0, .int .u8 0, .int .u8 0, .int .u8 0] : List Value) rfl 39 (heap_alloc_new _ _) rfl rfl (one19 rfl rfl) ?_; intro w9 hr hg) | fail)
 clear c0
 have hal := (Below.refl w2.heap.size w2).alloc (Nat.le_refl _) (.cells ([.int .i64 0, .int .u64 0, .int .u64 0, .slice none 0 0, .bool false, .int .u64 0, .int .u64 0, .int .u64 0, .int .u64 0, .int .u64 0, .slice none 0 0, .int .u8 0, .int .u8 0, .int .u8 0, .int .u8 0, .int .u8 0, .int .u8 0, .int .u8 0, .int .u8 0] : List Value).toArray 39)
 have hb : Below w2.heap.size w2 w9 := hal.grown hg hal.size (by intro k hk; injection hk with hk; omega)
 have hfl := lt_of_block HF.out
 have hzl := lt_of_block HZ.out
 replace HB := Qh (bl_next HB.out HB.out.size hb)
 replace HF := Qh (bl_row hb (lt_of_block HF.out) HF.out)
 replace HZ := Qh (bl_row hb (lt_of_block HZ.out) HZ.out)
 have HO : Hid (w9.heap[w2.heap.size]? = some (.cells ((zeroF k).cells (.slice none 0 0) (.slice none 0 0)).toArray 39 (0, 0))) := Qh hr
 clear hr hg hal hb
 obtain ⟨go, hgo⟩ : ∃ g, w2.heap.size = g := ⟨_, rfl⟩
 rw [hgo] at HO hfl hzl ⊢
 have hgl : w.heap.size ≤ go := by have := HG0.out; omega
 have hzw : w.heap.size ≤ gz := by have := HG0.out; have := HLTgz.out; omega
 clear hgo
 have c0 := cell_row HF.out 0 _ H_kind.out
 have HL9 : Hid (((zeroF k).cells (.slice none 0 0) (.slice none 0 0)).length = 19) := Qh rfl
 have hz := zero_wf k (by omega)
 have hwf : (zeroF k).Wf := ⟨hz.kind, hz.st, hz.of_, hz.li, hz.co, hz.fi, hz.se, hz.de, hz.cidl, hz.cid⟩
 have HW9 := Qh hwf
 clear hz hwf
 have HON : Hid (∀ v ∈ (zeroF k).cells (.slice none 0 0) (.slice none 0 0), v.oneCell' = true) := Qh (fun v hv => by simp only [Fr.cells, List.mem_append, List.mem_cons, List.not_mem_nil, or_false, List.mem_map] at hv; rcases hv with hv | ⟨_, _, rfl⟩; rcases hv with rfl | rfl | rfl | rfl | rfl | rfl | rfl | rfl | rfl | rfl | rfl <;> rfl; rfl)
 obtain ⟨RX, hRX⟩ : ∃ R, (zeroF k).cells (.slice none 0 0) (.slice none 0 0) = R := ⟨_, rfl⟩
 have HRX := Qh hRX
 have HO9 := HO
 have hrow9 : w9.heap[go]? = some (.cells RX.toArray 39 (0, 0)) := by rw [← hRX]; exact HO.out
 replace HO := Qh hrow9
 rw [hRX] at HON HL9
 clear hRX hrow9 HO9
 go_wp2_with (first | (refine wpList_load_mid rfl 39 _ rfl go 0 rfl RX _ (rngL HO.out) Try.underlying39 rfl (by rw [HL9.out]; rfl) ?_) | (refine wpList_store_row rfl 39 _ _ rfl gz rfl RX ([.int .i64 0, .int .u64 0, .int .u64 0, .slice none 0 0, .bool false, .int .u64 0, .int .u64 0, .int .u64 0, .int .u64 0, .int .u64 0, .slice none 0 0, .int .u8 0, .int .u8 0, .int .u8 0, .int .u8 0, .int .u8 0, .int .u8 0, .int .u8 0, .int .u8 0] : List Value) rfl 39 HZ.out (by rw [HL9.out]; rfl) (by rw [HL9.out]; rfl) HON.out ?_; intro wz hz hgz; have HZ10 := Qh hz; have HGZ := Qh hgz; clear hz hgz) | fail)
 (try simp only [Exit.inBlock, Exit.then])
 refine bodyPost_ret (results_cell1 rfl _ _ gz rfl RX _ _ HZ10.out Try.underlying39 rfl (by rw [HL9.out]; rfl)) rfl ?_
 exact ⟨(.slice none 0 0), (.slice none 0 0), by rw [HRX.out], (FrAt.bare HW9.out rfl rfl), (FrLo.nil _), HB.out.grown HGZ.out HB.out.size (by intro k hk; injection hk with hk; omega), 0, World.ownsRow_nil _ _ _ _⟩
theorem copyD_any (w : World) (f : Fr) (dv rv : Value) (h : FrAt w f dv rv) (hdl : f.kind = 6 ∨ f.kind = 8 ∨ f.kind = 28 → f.data.length ≤ 1000000) (hrl : f.kind = 2 → f.rg.length ≤ 1000000) :
  Calls Try.prog 25 #[.agg (f.cells dv rv).toArray] w fun e w' => ∃ dv' rv', e = .returned (.agg ((nrmF f).cells dv' rv').toArray) ∧ FrAt w' (nrmF f) dv' rv' ∧ FrLo w.heap.size dv' rv' ∧ Below w.heap.size w w' ∧ ∃ n, w'.ownsRow w.heap.size 5 1 dv' n ((nrmF f).data.map (Value.int .u8)) := by
 by_cases hk : f.kind = 2 ∨ f.kind = 4 ∨ f.kind = 5 ∨ f.kind = 6 ∨ f.kind = 8 ∨ f.kind = 16 ∨ f.kind = 18 ∨ f.kind = 20 ∨ f.kind = 17 ∨ f.kind = 24 ∨ f.kind = 25 ∨ f.kind = 26 ∨ f.kind = 27 ∨ f.kind = 28
 ·
  rcases hk with hk | hk | hk | hk | hk | hk | hk | hk | hk | hk | hk | hk | hk | hk
  ·
   exact copy4_2 w f dv rv h hk (hrl hk)
  ·
   exact copy4_4 w f dv rv h hk
  ·
   exact copy4_5 w f dv rv h hk
  ·
   exact copy4_6 w f dv rv h hk (hdl (.inl hk))
  ·
   exact copy4_8 w f dv rv h hk (hdl (.inr (.inl hk)))
  ·
   exact copy4_16 w f dv rv h hk
  ·
   exact copy4_18 w f dv rv h hk
  ·
   exact copy4_20 w f dv rv h hk
  ·
   exact copy4_17 w f dv rv h hk
  ·
   exact copy4_24 w f dv rv h hk
  ·
   exact copy4_25 w f dv rv h hk
  ·
   exact copy4_26 w f dv rv h hk
  ·
   exact copy4_27 w f dv rv h hk
  ·
   exact copy4_28 w f dv rv h hk (hdl (.inr (.inr hk)))
 ·
  exact copy4_no w f dv rv h hk
theorem copy4_any (w : World) (f : Fr) (dv rv : Value) (h : FrAt w f dv rv) (hdl : f.kind = 6 ∨ f.kind = 8 ∨ f.kind = 28 → f.data.length ≤ 1000000) (hrl : f.kind = 2 → f.rg.length ≤ 1000000) :
  Calls Try.prog 25 #[.agg (f.cells dv rv).toArray] w fun e w' => ∃ dv' rv', e = .returned (.agg ((nrmF f).cells dv' rv').toArray) ∧ FrAt w' (nrmF f) dv' rv' ∧ FrLo w.heap.size dv' rv' ∧ Below w.heap.size w w' :=
 Calls.mono (copyD_any w f dv rv h hdl hrl) (fun e w' ⟨d, r, h1, h2, h3, h4, _⟩ => ⟨d, r, h1, h2, h3, h4⟩)
end Go.Proofs.Ytmbjepcbokbemaa
