/- texts of the proof, laid together: FrmN, FrmO, Arr. -/
import Derived.Test.YtmbjepcbokbemaaU7
import Derived.Test.YtmbjepcbokbemaaU1
import Derived.Stop.BytesEq
set_option linter.unusedVariables false
set_option linter.unusedSimpArgs false
set_option maxRecDepth 100000
set_option maxHeartbeats 16000000
namespace Go.Proofs.Ytmbjepcbokbemaa
open Go.RowKit
theorem take4_2 (W0 w : World) (L p gf : Nat) (bs : List Int) (bad : Bool) (h : Rd W0 w L p 97 bs bad) (hF : w.heap[gf]? = some (.cells ((zeroF 2).cells (.slice none 0 0) (.slice none 0 0)).toArray 39 (0, 0))) (hgp : gf ≠ p) (hgW : W0.heap.size ≤ gf) :
  Calls Try.prog 34 #[.pointer (some ⟨p, 0, none⟩), .pointer (some ⟨gf, 0, none⟩)] w (TakeR W0 w L p gf (takeR 2 bs bad)) := by
 have HT := Qh (takeack_any W0 w L p gf bs bad h hF hgp hgW)
 have c0 := row_cell hF 0 (.int .i64 2) rfl
 obtain ⟨q, hq⟩ : ∃ q, takeR 2 bs bad = q := ⟨_, rfl⟩
 rw [hq] at HT ⊢
 clear h hF hq
 go_enter Try.func34, Try.ntmps34
 go_wp2_with fail
 refine Calls.mono HT.out ?_
 rintro e w9 ⟨rfl, hu⟩
 have HU := Qh hu
 clear hu HT
 go_wp2_with fail
 go_ret
 exact ⟨rfl, HU.out⟩
theorem results_cell3 {P : Program} {fn : Func} {r t u : Tmp} {ty : TypeId} (h : fn.results = #[.cell r ty, .tmp t, .tmp u]) (tmps : Array Value) (w : World) (g : Nat) (hp : tmps.getD r undef = .pointer (some ⟨g, 0, none⟩))
  (cs : List Value) (d : TypeDesc) (e : TypeId) (hr : w.heap[g]? = some (.cells cs.toArray e (0, 0))) (hu : P.underlying ty = some d) (hd : d.isRow = true) (hi : (P.info? ty).map (·.size) = some cs.length) :
  (results fn tmps).run P w = .ok (.tuple #[.agg cs.toArray, tmps.getD t undef, tmps.getD u undef]) w := by
 have hl := run_loadVar_mid (P := P) w g 0 ty cs d (fun j v hv => by rw [Nat.zero_add]; exact row_cell hr j v (by simpa using hv)) hu hd hi
 have hp2 : tmps[r]?.getD undef = .pointer (some ⟨g, 0, none⟩) := by simpa using hp
 simp [results, h, hp2, asAddr, hl]
theorem take4_any (W0 w : World) (L p gf : Nat) (k : Int) (bs : List Int) (bad : Bool) (h : Rd W0 w L p 97 bs bad) (hF : w.heap[gf]? = some (.cells ((zeroF k).cells (.slice none 0 0) (.slice none 0 0)).toArray 39 (0, 0))) (hgp : gf ≠ p) (hgW : W0.heap.size ≤ gf) (h0 : 0 ≤ k ∧ k ≤ 30) :
  Calls Try.prog 34 #[.pointer (some ⟨p, 0, none⟩), .pointer (some ⟨gf, 0, none⟩)] w (TakeR W0 w L p gf (takeR k bs bad)) := by
 by_cases hk : k = 2 ∨ k = 4 ∨ k = 5 ∨ k = 6 ∨ k = 16 ∨ k = 18 ∨ k = 20 ∨ k = 17 ∨ k = 24 ∨ k = 25 ∨ k = 26 ∨ k = 27 ∨ k = 28
 ·
  rcases hk with rfl | rfl | rfl | rfl | rfl | rfl | rfl | rfl | rfl | rfl | rfl | rfl | rfl
  ·
   exact take4_2 W0 w L p gf bs bad h hF hgp hgW
  ·
   exact take4_4 W0 w L p gf bs bad h hF hgp hgW
  ·
   exact take4_5 W0 w L p gf bs bad h hF hgp hgW
  ·
   exact take4_6 W0 w L p gf bs bad h hF hgp hgW
  ·
   exact take4_16 W0 w L p gf bs bad h hF hgp hgW
  ·
   exact take4_18 W0 w L p gf bs bad h hF hgp hgW
  ·
   exact take4_20 W0 w L p gf bs bad h hF hgp hgW
  ·
   exact take4_17 W0 w L p gf bs bad h hF hgp hgW
  ·
   exact take4_24 W0 w L p gf bs bad h hF hgp hgW
  ·
   exact take4_25 W0 w L p gf bs bad h hF hgp hgW
  ·
   exact take4_26 W0 w L p gf bs bad h hF hgp hgW
  ·
   exact take4_27 W0 w L p gf bs bad h hF hgp hgW
  ·
   exact take4_28 W0 w L p gf bs bad h hF hgp hgW
 ·
  exact take4_no W0 w L p gf k bs bad h hF h0 hk
theorem stream4_any (W0 w : World) (L p gf : Nat) (k : Int) (bs : List Int) (bad : Bool) (h : Rd W0 w L p 97 bs bad) (hF : w.heap[gf]? = some (.cells ((zeroF k).cells (.slice none 0 0) (.slice none 0 0)).toArray 39 (0, 0))) (hgp : gf ≠ p) (hgW : W0.heap.size ≤ gf) (h0 : 8 ≤ k ∧ k ≤ 15) :
  Calls Try.prog 33 #[.pointer (some ⟨p, 0, none⟩), .pointer (some ⟨gf, 0, none⟩), .int .u64 k] w fun e w' => e = .returned (.tuple #[]) ∧ TakeU W0 w L p gf (streamR k bs bad) w' := by
 have hk : k = 8 ∨ k = 9 ∨ k = 10 ∨ k = 11 ∨ k = 12 ∨ k = 13 ∨ k = 14 ∨ k = 15 := by omega
 rcases hk with rfl | rfl | rfl | rfl | rfl | rfl | rfl | rfl
 ·
  exact stream4_8 W0 w L p gf bs bad h hF hgp hgW
 ·
  exact stream4_9 W0 w L p gf bs bad h hF hgp hgW
 ·
  exact stream4_10 W0 w L p gf bs bad h hF hgp hgW
 ·
  exact stream4_11 W0 w L p gf bs bad h hF hgp hgW
 ·
  exact stream4_12 W0 w L p gf bs bad h hF hgp hgW
 ·
  exact stream4_13 W0 w L p gf bs bad h hF hgp hgW
 ·
  exact stream4_14 W0 w L p gf bs bad h hF hgp hgW
 ·
  exact stream4_15 W0 w L p gf bs bad h hF hgp hgW
theorem andnot_31 : ∀ k : Nat, k < 31 → (bits .andNot .u64 (k : Int) 7 == 8) = decide (8 ≤ (k : Int) ∧ (k : Int) ≤ 15) := by decide
theorem there_row {w : World} {g n : Nat} {cs : List Value} {t : TypeId} (h : w.heap[g]? = some (.cells cs.toArray t (0, 0))) (hn : n ≤ cs.length) : w.there g 0 n := fun j hj => by
 have hj2 : j < cs.length := by omega
 rw [Nat.zero_add, cell_row h j cs[j] (List.getElem?_eq_getElem hj2), row_free h j]
 exact ⟨rfl, rfl⟩
def DecR (w : World) (bs : List Int) (e : Ending) (w' : World) : Prop :=
 Below w.heap.size w w' ∧ ((decF bs = none ∧ e = .returned (.tuple #[.agg ((zeroF 0).cells (.slice none 0 0) (.slice none 0 0)).toArray, .int .i64 0, .int .i64 12])) ∨
  ∃ f r dv rv, decF bs = some (f, r) ∧ r.length ≤ bs.length ∧ e = .returned (.tuple #[.agg (f.cells dv rv).toArray, .int .i64 ((bs.length : Int) - r.length), .int .i64 0]) ∧ FrAt w' f dv rv ∧ FrLo w.heap.size dv rv)
theorem FrAt.cellBut {w y : World} {f : Fr} {dv rv : Value} {g B : Nat} (h : FrAt w f dv rv) (hl : FrLo B dv rv) (hg : w.grownBy y (some g)) (hB : g < B) : FrAt y f dv rv := by
 obtain ⟨wf, ⟨a, n, c, rfl, h1, h2, h3⟩, ⟨a', n', c', rfl, h1', h2', h3'⟩⟩ := h
 refine ⟨wf, ⟨a, n, c, rfl, h1, h2, h3.grown hg (fun x hx e => ?_)⟩, ⟨a', n', c', rfl, h1', h2', h3'.grown hg (fun x hx e => ?_)⟩⟩
 ·
  injection e with e; subst hx; have := hl.1 x n c rfl; omega
 ·
  injection e with e; subst hx; have := hl.2 x n' c' rfl; omega
theorem FrLo.less {B C : Nat} {dv rv : Value} (h : FrLo B dv rv) (hc : C ≤ B) : FrLo C dv rv := ⟨fun a n c e => Nat.le_trans hc (h.1 a n c e), fun a n c e => Nat.le_trans hc (h.2 a n c e)⟩
theorem dec_out {x1 x3 x4 x6 x8 x9 x10 x11 x12 x13 x14 x15 x16 x17 x18 x19 x20 x21 x22 x23 x24 x25 x26 x27 x28 x29 x30 x31 x32 x33 x34 x35 x36 x37 x38 x39 x40 x41 x42 x43 x44 : Value} {W0 : World} {L p gf gz n cp : Nat} {a : Option Addr} {qb : List Int} {RF : List Value} (w : World) {Q : Exit → Act → World → Prop}
  (HF : Hid (w.heap[gf]? = some (.cells RF.toArray 39 (0, 0)))) (HZ : Hid (w.heap[gz]? = some (.cells ([.int .i64 0, .int .u64 0, .int .u64 0, .slice none 0 0, .bool false, .int .u64 0, .int .u64 0, .int .u64 0, .int .u64 0, .int .u64 0, .slice none 0 0, .int .u8 0, .int .u8 0, .int .u8 0, .int .u8 0, .int .u8 0, .int .u8 0, .int .u8 0, .int .u8 0] : List Value).toArray 39 (0, 0)))) (HR : Hid (Rd W0 w L p 97 qb false)) (HRF : Hid (RF.length = 19)) (HONE : Hid (∀ v ∈ RF, v.oneCell' = true)) (hne : gz ≠ gf) (hqn : qb.length ≤ n) (hnn : n ≤ 1000000)
  (hQp : ∀ c a d v w, Q (.panic c) (a.put d v) w → Q (.panic c) a w)
  (hQ : ∀ (y39 y40 y41 y42 y43 y44 : Value) (w' : World), Hid (w'.heap[gz]? = some (.cells RF.toArray 39 (0, 0))) → Hid (w.grownBy w' (some gz)) → Q .normal ⟨List.toArray (.slice a n cp :: x1 :: .pointer (some ⟨gz, 0, none⟩) :: .int .i64 ((n : Int) - qb.length) :: .int .i64 0 :: .pointer (some ⟨p, 0, none⟩) :: x6 :: .pointer (some ⟨gf, 0, none⟩) :: x8 :: x9 :: x10 :: x11 :: x12 :: x13 :: x14 :: x15 :: x16 :: x17 :: x18 :: x19 :: x20 :: x21 :: x22 :: x23 :: x24 :: x25 :: x26 :: x27 :: x28 :: x29 :: x30 :: x31 :: x32 :: x33 :: x34 :: x35 :: x36 :: x37 :: x38 :: y39 :: y40 :: y41 :: y42 :: y43 :: y44 :: []), []⟩ w') :
  Code.wp Try.prog (((Try.f13.body.bind (subRegion 12)).getD .skip)) Q ⟨List.toArray (.slice a n cp :: x1 :: .pointer (some ⟨gz, 0, none⟩) :: x3 :: x4 :: .pointer (some ⟨p, 0, none⟩) :: x6 :: .pointer (some ⟨gf, 0, none⟩) :: x8 :: x9 :: x10 :: x11 :: x12 :: x13 :: x14 :: x15 :: x16 :: x17 :: x18 :: x19 :: x20 :: x21 :: x22 :: x23 :: x24 :: x25 :: x26 :: x27 :: x28 :: x29 :: x30 :: x31 :: x32 :: x33 :: x34 :: x35 :: x36 :: x37 :: x38 :: x39 :: x40 :: x41 :: x42 :: x43 :: x44 :: []), []⟩ w := by
 have HK := Qh hQ; have HKP := Qh hQp
 clear hQ hQp
 conv => arg 2; whnf
 have HNE := Qh hne
 clear hne
 have hqs := HR.out.small
 have HLL := Qh (left_any W0 w.drew L p qb false (HR.out.to (Below.refl _ _).drew))
 refine wp_plan (.t 0 (.t 1 (.t 2 (.t 3 (.u 4 (.t 5 (.u 6 (.t 7 (.t 8 .done))))))))) (fun y => y.heap[gf]? = some (.cells RF.toArray 39 (0, 0))) (by kernel_rfl) (by kernel_rfl) (by kernel_rfl) (fun c a d v w h => by first | (cases d <;> exact h) | exact HKP.out c a d v w h) HF.out ?_
 have hd := (Below.refl w.heap.size w).drew
 replace HZ := Qh (bl_row hd (lt_of_block HZ.out) HZ.out)
 replace HF := Qh (bl_row hd (lt_of_block HF.out) HF.out)
 have HD := Qh (grown_drew w (some gz))
 clear hd HR
 generalize w.drew = w7 at HLL HZ HF HD ⊢
 haveI hne : Nonempty (In (fun y => y.heap[gf]? = some (.cells RF.toArray 39 (0, 0)))) := ⟨⟨w7, HF.out⟩⟩
 repeat (first | (refine plan_t_load (by rfl) (by kernel_rfl) 39 _ rfl gf 0 rfl RF _ (fun y hy => rngL hy) Try.underlying39 rfl (by rw [HRF.out]; rfl) ?_; simp only [Act.put, List.setIfInBounds_toArray, List.set_cons_succ, List.set_cons_zero]) | (refine plan_t (by rfl) ?_; (first | go_big_quiet_skip | (go_big_quiet_want; go_big_quiet_op; go_big_quiet_on)); refine wpQuiet_nil ?_))
 refine plan_us (by rfl) (by kernel_rfl) ?_
 intro K hK
 go_wp2_with fail
 refine Calls.mono HLL.out ?_
 rintro e wq ⟨rfl, hwq⟩
 subst hwq
 clear HLL
 go_wp2_with fail
 refine ⟨HF.out, ?_⟩
 repeat (first | (refine plan_t (by rfl) ?_; (first | go_big_quiet_skip | (go_big_quiet_want; go_big_quiet_op; go_big_quiet_on)); refine wpQuiet_nil ?_))
 refine plan_us (by rfl) (by kernel_rfl) ?_
 intro K2 hK2
 refine wp_store_mid 39 _ _ rfl gz 0 RF.toArray rfl rfl (there_row HZ.out (by rw [List.size_toArray, HRF.out]; exact Nat.le_refl _)) (by rw [List.size_toArray, HRF.out]; rfl) (all_oneCell_toArray HONE.out) ?_
 obtain ⟨hz8, hg8⟩ := setCells_row (g := gz) (t := 39) RF [] ([.int .i64 0, .int .u64 0, .int .u64 0, .slice none 0 0, .bool false, .int .u64 0, .int .u64 0, .int .u64 0, .int .u64 0, .int .u64 0, .slice none 0 0, .int .u8 0, .int .u8 0, .int .u8 0, .int .u8 0, .int .u8 0, .int .u8 0, .int .u8 0, .int .u8 0] : List Value) wq (by simpa using HZ.out) (by rw [HRF.out]; rfl)
 simp only [List.length_nil, List.nil_append] at hz8 hg8
 have HZ8 := Qh hz8; have HG8 := Qh (grown_trans HD.out hg8)
 have HF8 := Qh (grown_row hg8 (by intro e; injection e with e; exact HNE.out e.symm) HF.out)
 clear hz8 hg8
 change K2 _ (wq.setCells gz 0 RF)
 generalize wq.setCells gz 0 RF = w8 at HZ8 HG8 HF8 ⊢
 refine hK2 _ _ ⟨HF8.out, ?_⟩
 clear hK2 K2
 simp only [Act.put, List.setIfInBounds_toArray, List.set_cons_succ, List.set_cons_zero]
 repeat (first | (refine plan_t (by rfl) ?_; (first | go_big_quiet_skip | (go_big_quiet_want; go_big_quiet_op; go_big_quiet_on)); refine wpQuiet_nil ?_))
 clear hne
 show Q _ _ _
 exact HK.out _ _ _ _ _ _ w8 HZ8 HG8
theorem dec4_over (w : World) (a : Option Addr) (n cp : Nat) (bs : List Int) (hI : IntsK .u8 w a n bs) (hn : n ≤ 1000000) (hc : n ≤ cp ∧ cp ≤ 9223372036854775807) {x1 : Int} {b1 : List Int} {d1 : Bool}  (hx1 : varM bs false = (x1, b1, d1)) (h30 : 30 < x1)  :
  Calls Try.prog 13 #[.slice a n cp] w (DecR w bs) := by
 have HN : Hid (decF bs = none) := Qh (by unfold decF; rw [hx1]; simp only; rw [if_pos h30])
 have HI := Qh hI
 have hln : bs.length = n := hI.1
 have HLN := Qh hln
 obtain ⟨hc1, hc2⟩ := hc
 have HX1 := Qh hx1
 clear hI hln hx1
 go_enter Try.func13, Try.ntmps13
 go_upto_region 1 with fail
 change Code.wp _ _ _ _ (w.alloc (.cells ([.int .i64 0, .int .u64 0, .int .u64 0, .slice none 0 0, .bool false, .int .u64 0, .int .u64 0, .int .u64 0, .int .u64 0, .int .u64 0, .slice none 0 0, .int .u8 0, .int .u8 0, .int .u8 0, .int .u8 0, .int .u8 0, .int .u8 0, .int .u8 0, .int .u8 0] : List Value).toArray 39))
 have HB := Qh (Below.refl w.heap.size w)
 have hb := (Below.refl w.heap.size w).alloc (Nat.le_refl _) (.cells ([.int .i64 0, .int .u64 0, .int .u64 0, .slice none 0 0, .bool false, .int .u64 0, .int .u64 0, .int .u64 0, .int .u64 0, .int .u64 0, .slice none 0 0, .int .u8 0, .int .u8 0, .int .u8 0, .int .u8 0, .int .u8 0, .int .u8 0, .int .u8 0, .int .u8 0] : List Value).toArray 39)
 replace HB := Qh (bl_next HB.out HB.out.size hb)
 replace HI := Qh (HI.out.below hb)
 have HZ := Qh (heap_alloc_new w (.cells ([.int .i64 0, .int .u64 0, .int .u64 0, .slice none 0 0, .bool false, .int .u64 0, .int .u64 0, .int .u64 0, .int .u64 0, .int .u64 0, .slice none 0 0, .int .u8 0, .int .u8 0, .int .u8 0, .int .u8 0, .int .u8 0, .int .u8 0, .int .u8 0, .int .u8 0] : List Value).toArray 39))
 clear hb
 generalize w.alloc (.cells ([.int .i64 0, .int .u64 0, .int .u64 0, .slice none 0 0, .bool false, .int .u64 0, .int .u64 0, .int .u64 0, .int .u64 0, .int .u64 0, .slice none 0 0, .int .u8 0, .int .u8 0, .int .u8 0, .int .u8 0, .int .u8 0, .int .u8 0, .int .u8 0, .int .u8 0] : List Value).toArray 39) = w1 at HB HI HZ ⊢
 obtain ⟨gz, hg⟩ : ∃ g, w.heap.size = g := ⟨_, rfl⟩
 rw [hg] at HZ ⊢
 have HGZ := Qh hg
 clear hg
 have HZ1 := Qh (lt_of_block HZ.out)
 have HLOW : Hid (w.heap.size ≤ w1.heap.size) := Qh HB.out.size
 go_wp2_with fail
 refine Calls.mono (of_any w1 a n cp bs (by omega) HI.out) ?_
 rintro e w2 ⟨W0, p, rfl, hR, hb1, hb2⟩
 have hb := bl_next hb1 hb1.size hb2
 have HW0 : Hid (w1.heap.size ≤ W0.heap.size) := Qh hb1.size
 replace HB := Qh (bl_next HB.out HB.out.size hb)
 replace HZ := Qh (bl_row hb (lt_of_block HZ.out) HZ.out)
 have HR := Qh hR
 clear hb hb1 hb2 hR HI
 have HZP : Hid (gz ≠ p) := Qh (by have := HR.out.lo; have := HW0.out; have := HZ1.out; omega)
 have HPW : Hid (w.heap.size ≤ p) := Qh (by have := HR.out.lo; have := HW0.out; have := HZ1.out; have := HGZ.out; omega)
 have hb := var_any W0 w2 w1.heap.size p bs false HR.out
 rw [HX1.out] at hb
 have hu := varM_in bs false HR.out.bytes
 rw [HX1.out] at hu
 simp only at hu
 have HCL := Qh hb
 clear hb
 go_wp2_with fail
 refine Calls.mono HCL.out ?_
 rintro e w3 ⟨rfl, hR, hg⟩
 replace HR := Qh hR
 replace HZ := Qh (grown_row hg (by intro e; injection e with e; exact HZP.out e) HZ.out)
 replace HB := Qh (HB.out.grown hg HB.out.size (by intro k hk; injection hk with hk; have := HPW.out; omega))
 clear hR hg HCL
 obtain ⟨u1, u2⟩ := hu
 go_wp2_with (first | (refine wpList_store_row rfl 39 _ _ rfl gz rfl ([.int .i64 0, .int .u64 0, .int .u64 0, .slice none 0 0, .bool false, .int .u64 0, .int .u64 0, .int .u64 0, .int .u64 0, .int .u64 0, .slice none 0 0, .int .u8 0, .int .u8 0, .int .u8 0, .int .u8 0, .int .u8 0, .int .u8 0, .int .u8 0, .int .u8 0] : List Value) ([.int .i64 0, .int .u64 0, .int .u64 0, .slice none 0 0, .bool false, .int .u64 0, .int .u64 0, .int .u64 0, .int .u64 0, .int .u64 0, .slice none 0 0, .int .u8 0, .int .u8 0, .int .u8 0, .int .u8 0, .int .u8 0, .int .u8 0, .int .u8 0, .int .u8 0] : List Value) rfl 39 HZ.out rfl rfl (one19 rfl rfl) ?_; intro w9 hz hg9; have HZ9 := Qh hz; have HG9 := Qh hg9; clear hz hg9) | fail)
 (try simp only [Exit.inBlock, Exit.then])
 refine bodyPost_ret (results_cell3 rfl _ _ gz rfl ([.int .i64 0, .int .u64 0, .int .u64 0, .slice none 0 0, .bool false, .int .u64 0, .int .u64 0, .int .u64 0, .int .u64 0, .int .u64 0, .slice none 0 0, .int .u8 0, .int .u8 0, .int .u8 0, .int .u8 0, .int .u8 0, .int .u8 0, .int .u8 0, .int .u8 0] : List Value) _ _ HZ9.out Try.underlying39 rfl rfl) rfl ?_
 exact ⟨HB.out.grown HG9.out HB.out.size (by intro k hk; injection hk with hk; have := HGZ.out; omega), .inl ⟨HN.out, rfl⟩⟩
theorem dec4_s_bad (w : World) (a : Option Addr) (n cp : Nat) (bs : List Int) (hI : IntsK .u8 w a n bs) (hn : n ≤ 1000000) (hc : n ≤ cp ∧ cp ≤ 9223372036854775807) {x1 : Int} {b1 : List Int} {d1 : Bool} {f9 : Fr} {qb : List Int} (hx1 : varM bs false = (x1, b1, d1)) (h30 : x1 ≤ 30) (hst : 8 ≤ x1 ∧ x1 ≤ 15) (hqq : frameR x1 b1 d1 = (some f9, qb, true)) :
  Calls Try.prog 13 #[.slice a n cp] w (DecR w bs) := by
 have HN : Hid (decF bs = none) := Qh (by unfold decF; rw [hx1]; simp only; rw [if_neg (by omega), hqq]; exact endF_bad)
 have HI := Qh hI
 have hln : bs.length = n := hI.1
 have HLN := Qh hln
 obtain ⟨hc1, hc2⟩ := hc
 have HX1 := Qh hx1
 have HQS : Hid (streamR x1 b1 d1 = (some f9, qb, true)) := Qh (by have h9 := hqq; unfold frameR at h9; rw [if_pos hst] at h9; exact h9)
 have HST := Qh hst
 clear hI hln hx1 hqq hst
 go_enter Try.func13, Try.ntmps13
 go_upto_region 1 with fail
 change Code.wp _ _ _ _ (w.alloc (.cells ([.int .i64 0, .int .u64 0, .int .u64 0, .slice none 0 0, .bool false, .int .u64 0, .int .u64 0, .int .u64 0, .int .u64 0, .int .u64 0, .slice none 0 0, .int .u8 0, .int .u8 0, .int .u8 0, .int .u8 0, .int .u8 0, .int .u8 0, .int .u8 0, .int .u8 0] : List Value).toArray 39))
 have HB := Qh (Below.refl w.heap.size w)
 have hb := (Below.refl w.heap.size w).alloc (Nat.le_refl _) (.cells ([.int .i64 0, .int .u64 0, .int .u64 0, .slice none 0 0, .bool false, .int .u64 0, .int .u64 0, .int .u64 0, .int .u64 0, .int .u64 0, .slice none 0 0, .int .u8 0, .int .u8 0, .int .u8 0, .int .u8 0, .int .u8 0, .int .u8 0, .int .u8 0, .int .u8 0] : List Value).toArray 39)
 replace HB := Qh (bl_next HB.out HB.out.size hb)
 replace HI := Qh (HI.out.below hb)
 have HZ := Qh (heap_alloc_new w (.cells ([.int .i64 0, .int .u64 0, .int .u64 0, .slice none 0 0, .bool false, .int .u64 0, .int .u64 0, .int .u64 0, .int .u64 0, .int .u64 0, .slice none 0 0, .int .u8 0, .int .u8 0, .int .u8 0, .int .u8 0, .int .u8 0, .int .u8 0, .int .u8 0, .int .u8 0] : List Value).toArray 39))
 clear hb
 generalize w.alloc (.cells ([.int .i64 0, .int .u64 0, .int .u64 0, .slice none 0 0, .bool false, .int .u64 0, .int .u64 0, .int .u64 0, .int .u64 0, .int .u64 0, .slice none 0 0, .int .u8 0, .int .u8 0, .int .u8 0, .int .u8 0, .int .u8 0, .int .u8 0, .int .u8 0, .int .u8 0] : List Value).toArray 39) = w1 at HB HI HZ ⊢
 obtain ⟨gz, hg⟩ : ∃ g, w.heap.size = g := ⟨_, rfl⟩
 rw [hg] at HZ ⊢
 have HGZ := Qh hg
 clear hg
 have HZ1 := Qh (lt_of_block HZ.out)
 have HLOW : Hid (w.heap.size ≤ w1.heap.size) := Qh HB.out.size
 go_wp2_with fail
 refine Calls.mono (of_any w1 a n cp bs (by omega) HI.out) ?_
 rintro e w2 ⟨W0, p, rfl, hR, hb1, hb2⟩
 have hb := bl_next hb1 hb1.size hb2
 have HW0 : Hid (w1.heap.size ≤ W0.heap.size) := Qh hb1.size
 replace HB := Qh (bl_next HB.out HB.out.size hb)
 replace HZ := Qh (bl_row hb (lt_of_block HZ.out) HZ.out)
 have HR := Qh hR
 clear hb hb1 hb2 hR HI
 have HZP : Hid (gz ≠ p) := Qh (by have := HR.out.lo; have := HW0.out; have := HZ1.out; omega)
 have HPW : Hid (w.heap.size ≤ p) := Qh (by have := HR.out.lo; have := HW0.out; have := HZ1.out; have := HGZ.out; omega)
 have hb := var_any W0 w2 w1.heap.size p bs false HR.out
 rw [HX1.out] at hb
 have hu := varM_in bs false HR.out.bytes
 rw [HX1.out] at hu
 simp only at hu
 have HCL := Qh hb
 clear hb
 go_wp2_with fail
 refine Calls.mono HCL.out ?_
 rintro e w3 ⟨rfl, hR, hg⟩
 replace HR := Qh hR
 replace HZ := Qh (grown_row hg (by intro e; injection e with e; exact HZP.out e) HZ.out)
 replace HB := Qh (HB.out.grown hg HB.out.size (by intro k hk; injection hk with hk; have := HPW.out; omega))
 clear hR hg HCL
 obtain ⟨u1, u2⟩ := hu
 go_upto_region 6 with (first | (refine wpList_store_row rfl 39 _ _ rfl _ rfl [.int .i64 x1, .int .u64 0, .int .u64 0, .slice none 0 0, .bool false, .int .u64 0, .int .u64 0, .int .u64 0, .int .u64 0, .int .u64 0, .slice none 0 0, .int .u8 0, .int .u8 0, .int .u8 0, .int .u8 0, .int .u8 0, .int .u8 0, .int .u8 0, .int .u8 0] ([.int .i64 0, .int .u64 0, .int .u64 0, .slice none 0 0, .bool false, .int .u64 0, .int .u64 0, .int .u64 0, .int .u64 0, .int .u64 0, .slice none 0 0, .int .u8 0, .int .u8 0, .int .u8 0, .int .u8 0, .int .u8 0, .int .u8 0, .int .u8 0, .int .u8 0] : List Value) rfl 39 (heap_alloc_new _ _) rfl rfl (one19 rfl rfl) ?_; intro w4 hr hg) | fail)
 have hpl := HR.out.lt
 have hzl := lt_of_block HZ.out
 have hws := HR.out.size
 have hbs := HB.out.size
 have hal := (Below.refl w3.heap.size w3).alloc (Nat.le_refl _) (.cells ([.int .i64 0, .int .u64 0, .int .u64 0, .slice none 0 0, .bool false, .int .u64 0, .int .u64 0, .int .u64 0, .int .u64 0, .int .u64 0, .slice none 0 0, .int .u8 0, .int .u8 0, .int .u8 0, .int .u8 0, .int .u8 0, .int .u8 0, .int .u8 0, .int .u8 0] : List Value).toArray 39)
 have hb : Below w3.heap.size w3 w4 := hal.grown hg hal.size (by intro k hk; injection hk with hk; omega)
 replace HB := Qh (bl_next HB.out HB.out.size hb)
 replace HZ := Qh (bl_row hb (lt_of_block HZ.out) HZ.out)
 replace HR := Qh (HR.out.to hb)
 have hf9 : w4.heap[w3.heap.size]? = some (.cells ((zeroF x1).cells (.slice none 0 0) (.slice none 0 0)).toArray 39 (0, 0)) := hr
 have HF := Qh hf9
 clear hb hf9 hr hg hal
 obtain ⟨gf, hg⟩ : ∃ g, w3.heap.size = g := ⟨_, rfl⟩
 rw [hg] at HF hpl hzl hws hbs ⊢
 clear hg
 have hgp : gf ≠ p := by omega
 have hgz : gz ≠ gf := by omega
 have HGW : Hid (W0.heap.size ≤ gf) := Qh hws
 have HGP := Qh hgp; have HGZF := Qh hgz
 have HWF : Hid (w.heap.size ≤ gf) := Qh hbs
 clear hgp hgz hpl hzl hws hbs
 have HW14 : Hid (w1.heap.size ≤ w4.heap.size) := Qh (by have := HR.out.size; have := HW0.out; omega)
 obtain ⟨kk, hkk⟩ : ∃ kk : Nat, x1 = kk := ⟨x1.toNat, by omega⟩
 have han := andnot_31 kk (by omega)
 rw [← hkk] at han
 obtain ⟨y, hy⟩ : ∃ y, bits .andNot .u64 x1 7 = y := ⟨_, rfl⟩
 rw [hy] at han
 clear hkk kk
 have hy8 : y = 8 := by rw [decide_eq_true HST.out] at han; simpa using han
 rw [hy8] at hy
 clear han hy8
 have hcl := stream4_any W0 w4 w1.heap.size p gf x1 b1 d1 HR.out HF.out HGP.out HGW.out HST.out
 rw [HQS.out] at hcl
 have HCL := Qh hcl
 clear hcl
 go_wp2_with fail
 refine Calls.mono HCL.out ?_
 rintro e w5 ⟨rfl, hu⟩
 clear HCL
 obtain ⟨F, dv, rv, hF9, hR9, hrow, hfr, hch, hlo⟩ := hu
 have hb9 := hch.below HB.out HB.out.size (by have := HPW.out; omega) (fun k hk => by injection hk with hk; have := HWF.out; omega)
 have hz9 := (hch.block gz (lt_of_block HZ.out) HZP.out (by intro e; injection e with e; exact HGZF.out e.symm)).trans HZ.out
 replace HB := Qh hb9; replace HZ := Qh hz9; replace HR := Qh hR9; replace HF := Qh hrow; have HFR := Qh hfr
 have HLO : Hid (FrLo w1.heap.size dv rv) := Qh (hlo.less HW14.out)
 obtain rfl := hF9 f9 rfl
 simp only at HR
 clear hb9 hz9 hR9 hrow hfr hch hlo hF9
 (try simp only [Option.isSome_some])
 have HBD := Qh (bad_any W0 w5 w1.heap.size p qb true HR.out)
 go_wp2_with fail
 refine Calls.mono HBD.out ?_
 rintro e wq ⟨rfl, hwq⟩
 subst hwq
 clear HBD
 go_wp2_with (first | (refine wpList_store_row rfl 39 _ _ rfl gz rfl ([.int .i64 0, .int .u64 0, .int .u64 0, .slice none 0 0, .bool false, .int .u64 0, .int .u64 0, .int .u64 0, .int .u64 0, .int .u64 0, .slice none 0 0, .int .u8 0, .int .u8 0, .int .u8 0, .int .u8 0, .int .u8 0, .int .u8 0, .int .u8 0, .int .u8 0] : List Value) ([.int .i64 0, .int .u64 0, .int .u64 0, .slice none 0 0, .bool false, .int .u64 0, .int .u64 0, .int .u64 0, .int .u64 0, .int .u64 0, .slice none 0 0, .int .u8 0, .int .u8 0, .int .u8 0, .int .u8 0, .int .u8 0, .int .u8 0, .int .u8 0, .int .u8 0] : List Value) rfl 39 HZ.out rfl rfl (one19 rfl rfl) ?_; intro w9 hz hg9; have HZ9 := Qh hz; have HG9 := Qh hg9; clear hz hg9) | fail)
 (try simp only [Exit.inBlock, Exit.then])
 refine bodyPost_ret (results_cell3 rfl _ _ gz rfl ([.int .i64 0, .int .u64 0, .int .u64 0, .slice none 0 0, .bool false, .int .u64 0, .int .u64 0, .int .u64 0, .int .u64 0, .int .u64 0, .slice none 0 0, .int .u8 0, .int .u8 0, .int .u8 0, .int .u8 0, .int .u8 0, .int .u8 0, .int .u8 0, .int .u8 0] : List Value) _ _ HZ9.out Try.underlying39 rfl rfl) rfl ?_
 exact ⟨HB.out.grown HG9.out HB.out.size (by intro k hk; injection hk with hk; have := HGZ.out; omega), .inl ⟨HN.out, rfl⟩⟩
theorem dec4_s_no (w : World) (a : Option Addr) (n cp : Nat) (bs : List Int) (hI : IntsK .u8 w a n bs) (hn : n ≤ 1000000) (hc : n ≤ cp ∧ cp ≤ 9223372036854775807) {x1 : Int} {b1 : List Int} {d1 : Bool} {f9 : Fr} {qb : List Int} (hx1 : varM bs false = (x1, b1, d1)) (h30 : x1 ≤ 30) (hst : 8 ≤ x1 ∧ x1 ≤ 15) (hqq : frameR x1 b1 d1 = (some f9, qb, false)) (hrb : rightB f9 = false) :
  Calls Try.prog 13 #[.slice a n cp] w (DecR w bs) := by
 have HN : Hid (decF bs = none) := Qh (by unfold decF; rw [hx1]; simp only; rw [if_neg (by omega), hqq]; unfold endF; simp only; rw [if_pos (.inr hrb)])
 have HI := Qh hI
 have hln : bs.length = n := hI.1
 have HLN := Qh hln
 obtain ⟨hc1, hc2⟩ := hc
 have HX1 := Qh hx1
 have HQS : Hid (streamR x1 b1 d1 = (some f9, qb, false)) := Qh (by have h9 := hqq; unfold frameR at h9; rw [if_pos hst] at h9; exact h9)
 have HST := Qh hst
 have HRB := Qh hrb
 clear hI hln hx1 hqq hst hrb
 go_enter Try.func13, Try.ntmps13
 go_upto_region 1 with fail
 change Code.wp _ _ _ _ (w.alloc (.cells ([.int .i64 0, .int .u64 0, .int .u64 0, .slice none 0 0, .bool false, .int .u64 0, .int .u64 0, .int .u64 0, .int .u64 0, .int .u64 0, .slice none 0 0, .int .u8 0, .int .u8 0, .int .u8 0, .int .u8 0, .int .u8 0, .int .u8 0, .int .u8 0, .int .u8 0] : List Value).toArray 39))
 have HB := Qh (Below.refl w.heap.size w)
 have hb := (Below.refl w.heap.size w).alloc (Nat.le_refl _) (.cells ([.int .i64 0, .int .u64 0, .int .u64 0, .slice none 0 0, .bool false, .int .u64 0, .int .u64 0, .int .u64 0, .int .u64 0, .int .u64 0, .slice none 0 0, .int .u8 0, .int .u8 0, .int .u8 0, .int .u8 0, .int .u8 0, .int .u8 0, .int .u8 0, .int .u8 0] : List Value).toArray 39)
 replace HB := Qh (bl_next HB.out HB.out.size hb)
 replace HI := Qh (HI.out.below hb)
 have HZ := Qh (heap_alloc_new w (.cells ([.int .i64 0, .int .u64 0, .int .u64 0, .slice none 0 0, .bool false, .int .u64 0, .int .u64 0, .int .u64 0, .int .u64 0, .int .u64 0, .slice none 0 0, .int .u8 0, .int .u8 0, .int .u8 0, .int .u8 0, .int .u8 0, .int .u8 0, .int .u8 0, .int .u8 0] : List Value).toArray 39))
 clear hb
 generalize w.alloc (.cells ([.int .i64 0, .int .u64 0, .int .u64 0, .slice none 0 0, .bool false, .int .u64 0, .int .u64 0, .int .u64 0, .int .u64 0, .int .u64 0, .slice none 0 0, .int .u8 0, .int .u8 0, .int .u8 0, .int .u8 0, .int .u8 0, .int .u8 0, .int .u8 0, .int .u8 0] : List Value).toArray 39) = w1 at HB HI HZ ⊢
 obtain ⟨gz, hg⟩ : ∃ g, w.heap.size = g := ⟨_, rfl⟩
 rw [hg] at HZ ⊢
 have HGZ := Qh hg
 clear hg
 have HZ1 := Qh (lt_of_block HZ.out)
 have HLOW : Hid (w.heap.size ≤ w1.heap.size) := Qh HB.out.size
 go_wp2_with fail
 refine Calls.mono (of_any w1 a n cp bs (by omega) HI.out) ?_
 rintro e w2 ⟨W0, p, rfl, hR, hb1, hb2⟩
 have hb := bl_next hb1 hb1.size hb2
 have HW0 : Hid (w1.heap.size ≤ W0.heap.size) := Qh hb1.size
 replace HB := Qh (bl_next HB.out HB.out.size hb)
 replace HZ := Qh (bl_row hb (lt_of_block HZ.out) HZ.out)
 have HR := Qh hR
 clear hb hb1 hb2 hR HI
 have HZP : Hid (gz ≠ p) := Qh (by have := HR.out.lo; have := HW0.out; have := HZ1.out; omega)
 have HPW : Hid (w.heap.size ≤ p) := Qh (by have := HR.out.lo; have := HW0.out; have := HZ1.out; have := HGZ.out; omega)
 have hb := var_any W0 w2 w1.heap.size p bs false HR.out
 rw [HX1.out] at hb
 have hu := varM_in bs false HR.out.bytes
 rw [HX1.out] at hu
 simp only at hu
 have HCL := Qh hb
 clear hb
 go_wp2_with fail
 refine Calls.mono HCL.out ?_
 rintro e w3 ⟨rfl, hR, hg⟩
 replace HR := Qh hR
 replace HZ := Qh (grown_row hg (by intro e; injection e with e; exact HZP.out e) HZ.out)
 replace HB := Qh (HB.out.grown hg HB.out.size (by intro k hk; injection hk with hk; have := HPW.out; omega))
 clear hR hg HCL
 obtain ⟨u1, u2⟩ := hu
 go_upto_region 6 with (first | (refine wpList_store_row rfl 39 _ _ rfl _ rfl [.int .i64 x1, .int .u64 0, .int .u64 0, .slice none 0 0, .bool false, .int .u64 0, .int .u64 0, .int .u64 0, .int .u64 0, .int .u64 0, .slice none 0 0, .int .u8 0, .int .u8 0, .int .u8 0, .int .u8 0, .int .u8 0, .int .u8 0, .int .u8 0, .int .u8 0] ([.int .i64 0, .int .u64 0, .int .u64 0, .slice none 0 0, .bool false, .int .u64 0, .int .u64 0, .int .u64 0, .int .u64 0, .int .u64 0, .slice none 0 0, .int .u8 0, .int .u8 0, .int .u8 0, .int .u8 0, .int .u8 0, .int .u8 0, .int .u8 0, .int .u8 0] : List Value) rfl 39 (heap_alloc_new _ _) rfl rfl (one19 rfl rfl) ?_; intro w4 hr hg) | fail)
 have hpl := HR.out.lt
 have hzl := lt_of_block HZ.out
 have hws := HR.out.size
 have hbs := HB.out.size
 have hal := (Below.refl w3.heap.size w3).alloc (Nat.le_refl _) (.cells ([.int .i64 0, .int .u64 0, .int .u64 0, .slice none 0 0, .bool false, .int .u64 0, .int .u64 0, .int .u64 0, .int .u64 0, .int .u64 0, .slice none 0 0, .int .u8 0, .int .u8 0, .int .u8 0, .int .u8 0, .int .u8 0, .int .u8 0, .int .u8 0, .int .u8 0] : List Value).toArray 39)
 have hb : Below w3.heap.size w3 w4 := hal.grown hg hal.size (by intro k hk; injection hk with hk; omega)
 replace HB := Qh (bl_next HB.out HB.out.size hb)
 replace HZ := Qh (bl_row hb (lt_of_block HZ.out) HZ.out)
 replace HR := Qh (HR.out.to hb)
 have hf9 : w4.heap[w3.heap.size]? = some (.cells ((zeroF x1).cells (.slice none 0 0) (.slice none 0 0)).toArray 39 (0, 0)) := hr
 have HF := Qh hf9
 clear hb hf9 hr hg hal
 obtain ⟨gf, hg⟩ : ∃ g, w3.heap.size = g := ⟨_, rfl⟩
 rw [hg] at HF hpl hzl hws hbs ⊢
 clear hg
 have hgp : gf ≠ p := by omega
 have hgz : gz ≠ gf := by omega
 have HGW : Hid (W0.heap.size ≤ gf) := Qh hws
 have HGP := Qh hgp; have HGZF := Qh hgz
 have HWF : Hid (w.heap.size ≤ gf) := Qh hbs
 clear hgp hgz hpl hzl hws hbs
 have HW14 : Hid (w1.heap.size ≤ w4.heap.size) := Qh (by have := HR.out.size; have := HW0.out; omega)
 obtain ⟨kk, hkk⟩ : ∃ kk : Nat, x1 = kk := ⟨x1.toNat, by omega⟩
 have han := andnot_31 kk (by omega)
 rw [← hkk] at han
 obtain ⟨y, hy⟩ : ∃ y, bits .andNot .u64 x1 7 = y := ⟨_, rfl⟩
 rw [hy] at han
 clear hkk kk
 have hy8 : y = 8 := by rw [decide_eq_true HST.out] at han; simpa using han
 rw [hy8] at hy
 clear han hy8
 have hcl := stream4_any W0 w4 w1.heap.size p gf x1 b1 d1 HR.out HF.out HGP.out HGW.out HST.out
 rw [HQS.out] at hcl
 have HCL := Qh hcl
 clear hcl
 go_wp2_with fail
 refine Calls.mono HCL.out ?_
 rintro e w5 ⟨rfl, hu⟩
 clear HCL
 obtain ⟨F, dv, rv, hF9, hR9, hrow, hfr, hch, hlo⟩ := hu
 have hb9 := hch.below HB.out HB.out.size (by have := HPW.out; omega) (fun k hk => by injection hk with hk; have := HWF.out; omega)
 have hz9 := (hch.block gz (lt_of_block HZ.out) HZP.out (by intro e; injection e with e; exact HGZF.out e.symm)).trans HZ.out
 replace HB := Qh hb9; replace HZ := Qh hz9; replace HR := Qh hR9; replace HF := Qh hrow; have HFR := Qh hfr
 have HLO : Hid (FrLo w1.heap.size dv rv) := Qh (hlo.less HW14.out)
 obtain rfl := hF9 f9 rfl
 simp only at HR
 clear hb9 hz9 hR9 hrow hfr hch hlo hF9
 (try simp only [Option.isSome_some])
 have hri := right4_any w5 f9 dv rv HFR.out
 rw [HRB.out] at hri
 have HRF : Hid ((f9.cells dv rv).length = 19) := Qh (Fr.len HFR.out.wf)
 have HONE : Hid (∀ v ∈ f9.cells dv rv, v.oneCell' = true) := Qh (Fr.one HFR.out)
 obtain ⟨RF, hRF⟩ : ∃ R, f9.cells dv rv = R := ⟨_, rfl⟩
 rw [hRF] at hri HRF HONE HF
 have HRE := Qh hRF
 have HRI := Qh hri
 clear hri hRF
 have HBD := Qh (bad_any W0 w5 w1.heap.size p qb false HR.out)
 go_wp2_with (first | (refine wpList_load_g 39 _ rfl (by kernel_rfl) gf 0 rfl RF _ (rngL HF.out) Try.underlying39 rfl (by rw [HRF.out]; rfl) ?_) | (refine wpList_load_mid rfl 39 _ rfl gf 0 rfl RF _ (rngL HF.out) Try.underlying39 rfl (by rw [HRF.out]; rfl) ?_) | fail)
 refine Calls.mono HBD.out ?_
 rintro e wq ⟨rfl, hwq⟩
 subst hwq
 go_wp2_with (first | (refine wpList_load_g 39 _ rfl (by kernel_rfl) gf 0 rfl RF _ (rngL HF.out) Try.underlying39 rfl (by rw [HRF.out]; rfl) ?_) | (refine wpList_load_mid rfl 39 _ rfl gf 0 rfl RF _ (rngL HF.out) Try.underlying39 rfl (by rw [HRF.out]; rfl) ?_) | fail)
 refine Calls.mono HRI.out ?_
 rintro e w6 ⟨rfl, hb⟩
 replace HZ := Qh (bl_row hb (lt_of_block HZ.out) HZ.out)
 replace HF := Qh (bl_row hb (lt_of_block HF.out) HF.out)
 replace HB := Qh (bl_next HB.out HB.out.size hb)
 replace HFR := Qh (HFR.out.below hb)
 replace HR := Qh (HR.out.to hb)
 clear hb HBD HRI
 go_wp2_with (first | (refine wpList_store_row rfl 39 _ _ rfl gz rfl ([.int .i64 0, .int .u64 0, .int .u64 0, .slice none 0 0, .bool false, .int .u64 0, .int .u64 0, .int .u64 0, .int .u64 0, .int .u64 0, .slice none 0 0, .int .u8 0, .int .u8 0, .int .u8 0, .int .u8 0, .int .u8 0, .int .u8 0, .int .u8 0, .int .u8 0] : List Value) ([.int .i64 0, .int .u64 0, .int .u64 0, .slice none 0 0, .bool false, .int .u64 0, .int .u64 0, .int .u64 0, .int .u64 0, .int .u64 0, .slice none 0 0, .int .u8 0, .int .u8 0, .int .u8 0, .int .u8 0, .int .u8 0, .int .u8 0, .int .u8 0, .int .u8 0] : List Value) rfl 39 HZ.out rfl rfl (one19 rfl rfl) ?_; intro w9 hz hg9; have HZ9 := Qh hz; have HG9 := Qh hg9; clear hz hg9) | fail)
 (try simp only [Exit.inBlock, Exit.then])
 refine bodyPost_ret (results_cell3 rfl _ _ gz rfl ([.int .i64 0, .int .u64 0, .int .u64 0, .slice none 0 0, .bool false, .int .u64 0, .int .u64 0, .int .u64 0, .int .u64 0, .int .u64 0, .slice none 0 0, .int .u8 0, .int .u8 0, .int .u8 0, .int .u8 0, .int .u8 0, .int .u8 0, .int .u8 0, .int .u8 0] : List Value) _ _ HZ9.out Try.underlying39 rfl rfl) rfl ?_
 exact ⟨HB.out.grown HG9.out HB.out.size (by intro k hk; injection hk with hk; have := HGZ.out; omega), .inl ⟨HN.out, rfl⟩⟩
theorem dec4_s_ok (w : World) (a : Option Addr) (n cp : Nat) (bs : List Int) (hI : IntsK .u8 w a n bs) (hn : n ≤ 1000000) (hc : n ≤ cp ∧ cp ≤ 9223372036854775807) {x1 : Int} {b1 : List Int} {d1 : Bool} {f9 : Fr} {qb : List Int} (hx1 : varM bs false = (x1, b1, d1)) (h30 : x1 ≤ 30) (hst : 8 ≤ x1 ∧ x1 ≤ 15) (hqq : frameR x1 b1 d1 = (some f9, qb, false)) (hrb : rightB f9 = true) :
  Calls Try.prog 13 #[.slice a n cp] w (DecR w bs) := by
 have HN : Hid (decF bs = some (f9, qb)) := Qh (by unfold decF; rw [hx1]; simp only; rw [if_neg (by omega), hqq]; exact end_some hrb)
 have HI := Qh hI
 have hln : bs.length = n := hI.1
 have HLN := Qh hln
 obtain ⟨hc1, hc2⟩ := hc
 have HX1 := Qh hx1
 have HQS : Hid (streamR x1 b1 d1 = (some f9, qb, false)) := Qh (by have h9 := hqq; unfold frameR at h9; rw [if_pos hst] at h9; exact h9)
 have HST := Qh hst
 have HRB := Qh hrb
 clear hI hln hx1 hqq hst hrb
 go_enter Try.func13, Try.ntmps13
 go_upto_region 1 with fail
 change Code.wp _ _ _ _ (w.alloc (.cells ([.int .i64 0, .int .u64 0, .int .u64 0, .slice none 0 0, .bool false, .int .u64 0, .int .u64 0, .int .u64 0, .int .u64 0, .int .u64 0, .slice none 0 0, .int .u8 0, .int .u8 0, .int .u8 0, .int .u8 0, .int .u8 0, .int .u8 0, .int .u8 0, .int .u8 0] : List Value).toArray 39))
 have HB := Qh (Below.refl w.heap.size w)
 have hb := (Below.refl w.heap.size w).alloc (Nat.le_refl _) (.cells ([.int .i64 0, .int .u64 0, .int .u64 0, .slice none 0 0, .bool false, .int .u64 0, .int .u64 0, .int .u64 0, .int .u64 0, .int .u64 0, .slice none 0 0, .int .u8 0, .int .u8 0, .int .u8 0, .int .u8 0, .int .u8 0, .int .u8 0, .int .u8 0, .int .u8 0] : List Value).toArray 39)
 replace HB := Qh (bl_next HB.out HB.out.size hb)
 replace HI := Qh (HI.out.below hb)
 have HZ := Qh (heap_alloc_new w (.cells ([.int .i64 0, .int .u64 0, .int .u64 0, .slice none 0 0, .bool false, .int .u64 0, .int .u64 0, .int .u64 0, .int .u64 0, .int .u64 0, .slice none 0 0, .int .u8 0, .int .u8 0, .int .u8 0, .int .u8 0, .int .u8 0, .int .u8 0, .int .u8 0, .int .u8 0] : List Value).toArray 39))
 clear hb
 generalize w.alloc (.cells ([.int .i64 0, .int .u64 0, .int .u64 0, .slice none 0 0, .bool false, .int .u64 0, .int .u64 0, .int .u64 0, .int .u64 0, .int .u64 0, .slice none 0 0, .int .u8 0, .int .u8 0, .int .u8 0, .int .u8 0, .int .u8 0, .int .u8 0, .int .u8 0, .int .u8 0] : List Value).toArray 39) = w1 at HB HI HZ ⊢
 obtain ⟨gz, hg⟩ : ∃ g, w.heap.size = g := ⟨_, rfl⟩
 rw [hg] at HZ ⊢
 have HGZ := Qh hg
 clear hg
 have HZ1 := Qh (lt_of_block HZ.out)
 have HLOW : Hid (w.heap.size ≤ w1.heap.size) := Qh HB.out.size
 go_wp2_with fail
 refine Calls.mono (of_any w1 a n cp bs (by omega) HI.out) ?_
 rintro e w2 ⟨W0, p, rfl, hR, hb1, hb2⟩
 have hb := bl_next hb1 hb1.size hb2
 have HW0 : Hid (w1.heap.size ≤ W0.heap.size) := Qh hb1.size
 replace HB := Qh (bl_next HB.out HB.out.size hb)
 replace HZ := Qh (bl_row hb (lt_of_block HZ.out) HZ.out)
 have HR := Qh hR
 clear hb hb1 hb2 hR HI
 have HZP : Hid (gz ≠ p) := Qh (by have := HR.out.lo; have := HW0.out; have := HZ1.out; omega)
 have HPW : Hid (w.heap.size ≤ p) := Qh (by have := HR.out.lo; have := HW0.out; have := HZ1.out; have := HGZ.out; omega)
 have hb := var_any W0 w2 w1.heap.size p bs false HR.out
 rw [HX1.out] at hb
 have hu := varM_in bs false HR.out.bytes
 rw [HX1.out] at hu
 simp only at hu
 have HCL := Qh hb
 clear hb
 go_wp2_with fail
 refine Calls.mono HCL.out ?_
 rintro e w3 ⟨rfl, hR, hg⟩
 replace HR := Qh hR
 replace HZ := Qh (grown_row hg (by intro e; injection e with e; exact HZP.out e) HZ.out)
 replace HB := Qh (HB.out.grown hg HB.out.size (by intro k hk; injection hk with hk; have := HPW.out; omega))
 clear hR hg HCL
 obtain ⟨u1, u2⟩ := hu
 go_upto_region 6 with (first | (refine wpList_store_row rfl 39 _ _ rfl _ rfl [.int .i64 x1, .int .u64 0, .int .u64 0, .slice none 0 0, .bool false, .int .u64 0, .int .u64 0, .int .u64 0, .int .u64 0, .int .u64 0, .slice none 0 0, .int .u8 0, .int .u8 0, .int .u8 0, .int .u8 0, .int .u8 0, .int .u8 0, .int .u8 0, .int .u8 0] ([.int .i64 0, .int .u64 0, .int .u64 0, .slice none 0 0, .bool false, .int .u64 0, .int .u64 0, .int .u64 0, .int .u64 0, .int .u64 0, .slice none 0 0, .int .u8 0, .int .u8 0, .int .u8 0, .int .u8 0, .int .u8 0, .int .u8 0, .int .u8 0, .int .u8 0] : List Value) rfl 39 (heap_alloc_new _ _) rfl rfl (one19 rfl rfl) ?_; intro w4 hr hg) | fail)
 have hpl := HR.out.lt
 have hzl := lt_of_block HZ.out
 have hws := HR.out.size
 have hbs := HB.out.size
 have hal := (Below.refl w3.heap.size w3).alloc (Nat.le_refl _) (.cells ([.int .i64 0, .int .u64 0, .int .u64 0, .slice none 0 0, .bool false, .int .u64 0, .int .u64 0, .int .u64 0, .int .u64 0, .int .u64 0, .slice none 0 0, .int .u8 0, .int .u8 0, .int .u8 0, .int .u8 0, .int .u8 0, .int .u8 0, .int .u8 0, .int .u8 0] : List Value).toArray 39)
 have hb : Below w3.heap.size w3 w4 := hal.grown hg hal.size (by intro k hk; injection hk with hk; omega)
 replace HB := Qh (bl_next HB.out HB.out.size hb)
 replace HZ := Qh (bl_row hb (lt_of_block HZ.out) HZ.out)
 replace HR := Qh (HR.out.to hb)
 have hf9 : w4.heap[w3.heap.size]? = some (.cells ((zeroF x1).cells (.slice none 0 0) (.slice none 0 0)).toArray 39 (0, 0)) := hr
 have HF := Qh hf9
 clear hb hf9 hr hg hal
 obtain ⟨gf, hg⟩ : ∃ g, w3.heap.size = g := ⟨_, rfl⟩
 rw [hg] at HF hpl hzl hws hbs ⊢
 clear hg
 have hgp : gf ≠ p := by omega
 have hgz : gz ≠ gf := by omega
 have HGW : Hid (W0.heap.size ≤ gf) := Qh hws
 have HGP := Qh hgp; have HGZF := Qh hgz
 have HWF : Hid (w.heap.size ≤ gf) := Qh hbs
 clear hgp hgz hpl hzl hws hbs
 have HW14 : Hid (w1.heap.size ≤ w4.heap.size) := Qh (by have := HR.out.size; have := HW0.out; omega)
 obtain ⟨kk, hkk⟩ : ∃ kk : Nat, x1 = kk := ⟨x1.toNat, by omega⟩
 have han := andnot_31 kk (by omega)
 rw [← hkk] at han
 obtain ⟨y, hy⟩ : ∃ y, bits .andNot .u64 x1 7 = y := ⟨_, rfl⟩
 rw [hy] at han
 clear hkk kk
 have hy8 : y = 8 := by rw [decide_eq_true HST.out] at han; simpa using han
 rw [hy8] at hy
 clear han hy8
 have hcl := stream4_any W0 w4 w1.heap.size p gf x1 b1 d1 HR.out HF.out HGP.out HGW.out HST.out
 rw [HQS.out] at hcl
 have HCL := Qh hcl
 clear hcl
 go_wp2_with fail
 refine Calls.mono HCL.out ?_
 rintro e w5 ⟨rfl, hu⟩
 clear HCL
 obtain ⟨F, dv, rv, hF9, hR9, hrow, hfr, hch, hlo⟩ := hu
 have hb9 := hch.below HB.out HB.out.size (by have := HPW.out; omega) (fun k hk => by injection hk with hk; have := HWF.out; omega)
 have hz9 := (hch.block gz (lt_of_block HZ.out) HZP.out (by intro e; injection e with e; exact HGZF.out e.symm)).trans HZ.out
 replace HB := Qh hb9; replace HZ := Qh hz9; replace HR := Qh hR9; replace HF := Qh hrow; have HFR := Qh hfr
 have HLO : Hid (FrLo w1.heap.size dv rv) := Qh (hlo.less HW14.out)
 obtain rfl := hF9 f9 rfl
 simp only at HR
 clear hb9 hz9 hR9 hrow hfr hch hlo hF9
 (try simp only [Option.isSome_some])
 have hri := right4_any w5 f9 dv rv HFR.out
 rw [HRB.out] at hri
 have HRF : Hid ((f9.cells dv rv).length = 19) := Qh (Fr.len HFR.out.wf)
 have HONE : Hid (∀ v ∈ f9.cells dv rv, v.oneCell' = true) := Qh (Fr.one HFR.out)
 obtain ⟨RF, hRF⟩ : ∃ R, f9.cells dv rv = R := ⟨_, rfl⟩
 rw [hRF] at hri HRF HONE HF
 have HRE := Qh hRF
 have HRI := Qh hri
 clear hri hRF
 have HBD := Qh (bad_any W0 w5 w1.heap.size p qb false HR.out)
 go_wp2_with (first | (refine wpList_load_g 39 _ rfl (by kernel_rfl) gf 0 rfl RF _ (rngL HF.out) Try.underlying39 rfl (by rw [HRF.out]; rfl) ?_) | (refine wpList_load_mid rfl 39 _ rfl gf 0 rfl RF _ (rngL HF.out) Try.underlying39 rfl (by rw [HRF.out]; rfl) ?_) | fail)
 refine Calls.mono HBD.out ?_
 rintro e wq ⟨rfl, hwq⟩
 subst hwq
 go_wp2_with (first | (refine wpList_load_g 39 _ rfl (by kernel_rfl) gf 0 rfl RF _ (rngL HF.out) Try.underlying39 rfl (by rw [HRF.out]; rfl) ?_) | (refine wpList_load_mid rfl 39 _ rfl gf 0 rfl RF _ (rngL HF.out) Try.underlying39 rfl (by rw [HRF.out]; rfl) ?_) | fail)
 refine Calls.mono HRI.out ?_
 rintro e w6 ⟨rfl, hb⟩
 replace HZ := Qh (bl_row hb (lt_of_block HZ.out) HZ.out)
 replace HF := Qh (bl_row hb (lt_of_block HF.out) HF.out)
 replace HB := Qh (bl_next HB.out HB.out.size hb)
 replace HFR := Qh (HFR.out.below hb)
 replace HR := Qh (HR.out.to hb)
 clear hb HBD HRI
 have hle : qb.length ≤ n := by rw [← HLN.out]; exact dec_len HN.out
 have HLE := Qh hle
 clear hle
 go_upto_region 12 with fail
 refine dec_out _ HF HZ HR HRF HONE HGZF.out HLE.out hn (fun c a d v w h => by cases d <;> exact h) ?_
 rintro _ _ _ _ _ _ w8 HZ8 HG8
 go_wp2_with fail
 (try simp only [Exit.inBlock, Exit.then])
 refine bodyPost_ret (results_cell3 rfl _ _ gz rfl RF _ _ HZ8.out Try.underlying39 rfl (by rw [HRF.out]; rfl)) rfl ?_
 refine ⟨HB.out.grown HG8.out HB.out.size (by intro k hk; injection hk with hk; have := HGZ.out; omega), .inr ⟨f9, qb, dv, rv, HN.out, by rw [HLN.out]; exact HLE.out, ?_, HFR.out.cellBut HLO.out HG8.out HZ1.out, HLO.out.less HLOW.out⟩⟩
 rw [HLN.out, HRE.out]; rfl
theorem dec4_t_none (w : World) (a : Option Addr) (n cp : Nat) (bs : List Int) (hI : IntsK .u8 w a n bs) (hn : n ≤ 1000000) (hc : n ≤ cp ∧ cp ≤ 9223372036854775807) {x1 : Int} {b1 : List Int} {d1 : Bool} {qb : List Int} {qd : Bool} (hx1 : varM bs false = (x1, b1, d1)) (h30 : x1 ≤ 30) (hst : ¬ (8 ≤ x1 ∧ x1 ≤ 15)) (hqq : frameR x1 b1 d1 = (none, qb, qd)) :
  Calls Try.prog 13 #[.slice a n cp] w (DecR w bs) := by
 have HN : Hid (decF bs = none) := Qh (by unfold decF; rw [hx1]; simp only; rw [if_neg (by omega), hqq]; rfl)
 have HI := Qh hI
 have hln : bs.length = n := hI.1
 have HLN := Qh hln
 obtain ⟨hc1, hc2⟩ := hc
 have HX1 := Qh hx1
 have HQS : Hid (takeR x1 b1 d1 = (none, qb, qd)) := Qh (by have h9 := hqq; unfold frameR at h9; rw [if_neg hst] at h9; exact h9)
 have HST := Qh hst
 clear hI hln hx1 hqq hst
 go_enter Try.func13, Try.ntmps13
 go_upto_region 1 with fail
 change Code.wp _ _ _ _ (w.alloc (.cells ([.int .i64 0, .int .u64 0, .int .u64 0, .slice none 0 0, .bool false, .int .u64 0, .int .u64 0, .int .u64 0, .int .u64 0, .int .u64 0, .slice none 0 0, .int .u8 0, .int .u8 0, .int .u8 0, .int .u8 0, .int .u8 0, .int .u8 0, .int .u8 0, .int .u8 0] : List Value).toArray 39))
 have HB := Qh (Below.refl w.heap.size w)
 have hb := (Below.refl w.heap.size w).alloc (Nat.le_refl _) (.cells ([.int .i64 0, .int .u64 0, .int .u64 0, .slice none 0 0, .bool false, .int .u64 0, .int .u64 0, .int .u64 0, .int .u64 0, .int .u64 0, .slice none 0 0, .int .u8 0, .int .u8 0, .int .u8 0, .int .u8 0, .int .u8 0, .int .u8 0, .int .u8 0, .int .u8 0] : List Value).toArray 39)
 replace HB := Qh (bl_next HB.out HB.out.size hb)
 replace HI := Qh (HI.out.below hb)
 have HZ := Qh (heap_alloc_new w (.cells ([.int .i64 0, .int .u64 0, .int .u64 0, .slice none 0 0, .bool false, .int .u64 0, .int .u64 0, .int .u64 0, .int .u64 0, .int .u64 0, .slice none 0 0, .int .u8 0, .int .u8 0, .int .u8 0, .int .u8 0, .int .u8 0, .int .u8 0, .int .u8 0, .int .u8 0] : List Value).toArray 39))
 clear hb
 generalize w.alloc (.cells ([.int .i64 0, .int .u64 0, .int .u64 0, .slice none 0 0, .bool false, .int .u64 0, .int .u64 0, .int .u64 0, .int .u64 0, .int .u64 0, .slice none 0 0, .int .u8 0, .int .u8 0, .int .u8 0, .int .u8 0, .int .u8 0, .int .u8 0, .int .u8 0, .int .u8 0] : List Value).toArray 39) = w1 at HB HI HZ ⊢
 obtain ⟨gz, hg⟩ : ∃ g, w.heap.size = g := ⟨_, rfl⟩
 rw [hg] at HZ ⊢
 have HGZ := Qh hg
 clear hg
 have HZ1 := Qh (lt_of_block HZ.out)
 have HLOW : Hid (w.heap.size ≤ w1.heap.size) := Qh HB.out.size
 go_wp2_with fail
 refine Calls.mono (of_any w1 a n cp bs (by omega) HI.out) ?_
 rintro e w2 ⟨W0, p, rfl, hR, hb1, hb2⟩
 have hb := bl_next hb1 hb1.size hb2
 have HW0 : Hid (w1.heap.size ≤ W0.heap.size) := Qh hb1.size
 replace HB := Qh (bl_next HB.out HB.out.size hb)
 replace HZ := Qh (bl_row hb (lt_of_block HZ.out) HZ.out)
 have HR := Qh hR
 clear hb hb1 hb2 hR HI
 have HZP : Hid (gz ≠ p) := Qh (by have := HR.out.lo; have := HW0.out; have := HZ1.out; omega)
 have HPW : Hid (w.heap.size ≤ p) := Qh (by have := HR.out.lo; have := HW0.out; have := HZ1.out; have := HGZ.out; omega)
 have hb := var_any W0 w2 w1.heap.size p bs false HR.out
 rw [HX1.out] at hb
 have hu := varM_in bs false HR.out.bytes
 rw [HX1.out] at hu
 simp only at hu
 have HCL := Qh hb
 clear hb
 go_wp2_with fail
 refine Calls.mono HCL.out ?_
 rintro e w3 ⟨rfl, hR, hg⟩
 replace HR := Qh hR
 replace HZ := Qh (grown_row hg (by intro e; injection e with e; exact HZP.out e) HZ.out)
 replace HB := Qh (HB.out.grown hg HB.out.size (by intro k hk; injection hk with hk; have := HPW.out; omega))
 clear hR hg HCL
 obtain ⟨u1, u2⟩ := hu
 go_upto_region 6 with (first | (refine wpList_store_row rfl 39 _ _ rfl _ rfl [.int .i64 x1, .int .u64 0, .int .u64 0, .slice none 0 0, .bool false, .int .u64 0, .int .u64 0, .int .u64 0, .int .u64 0, .int .u64 0, .slice none 0 0, .int .u8 0, .int .u8 0, .int .u8 0, .int .u8 0, .int .u8 0, .int .u8 0, .int .u8 0, .int .u8 0] ([.int .i64 0, .int .u64 0, .int .u64 0, .slice none 0 0, .bool false, .int .u64 0, .int .u64 0, .int .u64 0, .int .u64 0, .int .u64 0, .slice none 0 0, .int .u8 0, .int .u8 0, .int .u8 0, .int .u8 0, .int .u8 0, .int .u8 0, .int .u8 0, .int .u8 0] : List Value) rfl 39 (heap_alloc_new _ _) rfl rfl (one19 rfl rfl) ?_; intro w4 hr hg) | fail)
 have hpl := HR.out.lt
 have hzl := lt_of_block HZ.out
 have hws := HR.out.size
 have hbs := HB.out.size
 have hal := (Below.refl w3.heap.size w3).alloc (Nat.le_refl _) (.cells ([.int .i64 0, .int .u64 0, .int .u64 0, .slice none 0 0, .bool false, .int .u64 0, .int .u64 0, .int .u64 0, .int .u64 0, .int .u64 0, .slice none 0 0, .int .u8 0, .int .u8 0, .int .u8 0, .int .u8 0, .int .u8 0, .int .u8 0, .int .u8 0, .int .u8 0] : List Value).toArray 39)
 have hb : Below w3.heap.size w3 w4 := hal.grown hg hal.size (by intro k hk; injection hk with hk; omega)
 replace HB := Qh (bl_next HB.out HB.out.size hb)
 replace HZ := Qh (bl_row hb (lt_of_block HZ.out) HZ.out)
 replace HR := Qh (HR.out.to hb)
 have hf9 : w4.heap[w3.heap.size]? = some (.cells ((zeroF x1).cells (.slice none 0 0) (.slice none 0 0)).toArray 39 (0, 0)) := hr
 have HF := Qh hf9
 clear hb hf9 hr hg hal
 obtain ⟨gf, hg⟩ : ∃ g, w3.heap.size = g := ⟨_, rfl⟩
 rw [hg] at HF hpl hzl hws hbs ⊢
 clear hg
 have hgp : gf ≠ p := by omega
 have hgz : gz ≠ gf := by omega
 have HGW : Hid (W0.heap.size ≤ gf) := Qh hws
 have HGP := Qh hgp; have HGZF := Qh hgz
 have HWF : Hid (w.heap.size ≤ gf) := Qh hbs
 clear hgp hgz hpl hzl hws hbs
 have HW14 : Hid (w1.heap.size ≤ w4.heap.size) := Qh (by have := HR.out.size; have := HW0.out; omega)
 obtain ⟨kk, hkk⟩ : ∃ kk : Nat, x1 = kk := ⟨x1.toNat, by omega⟩
 have han := andnot_31 kk (by omega)
 rw [← hkk] at han
 obtain ⟨y, hy⟩ : ∃ y, bits .andNot .u64 x1 7 = y := ⟨_, rfl⟩
 rw [hy] at han
 clear hkk kk
 rw [decide_eq_false HST.out] at han
 have hcl := take4_any W0 w4 w1.heap.size p gf x1 b1 d1 HR.out HF.out HGP.out HGW.out ⟨u1, h30⟩
 rw [HQS.out] at hcl
 have HCL := Qh hcl
 clear hcl
 go_wp2_with fail
 refine Calls.mono HCL.out ?_
 rintro e w5 ⟨rfl, hu⟩
 clear HCL
 obtain ⟨F, dv, rv, hF9, hR9, hrow, hfr, hch, hlo⟩ := hu
 have hb9 := hch.below HB.out HB.out.size (by have := HPW.out; omega) (fun k hk => by injection hk with hk; have := HWF.out; omega)
 have hz9 := (hch.block gz (lt_of_block HZ.out) HZP.out (by intro e; injection e with e; exact HGZF.out e.symm)).trans HZ.out
 replace HB := Qh hb9; replace HZ := Qh hz9; replace HR := Qh hR9; replace HF := Qh hrow; have HFR := Qh hfr
 have HLO : Hid (FrLo w1.heap.size dv rv) := Qh (hlo.less HW14.out)
 simp only at HR
 clear hb9 hz9 hR9 hrow hfr hch hlo hF9
 (try simp only [Option.isSome_none])
 go_wp2_with (first | (refine wpList_store_row rfl 39 _ _ rfl gz rfl ([.int .i64 0, .int .u64 0, .int .u64 0, .slice none 0 0, .bool false, .int .u64 0, .int .u64 0, .int .u64 0, .int .u64 0, .int .u64 0, .slice none 0 0, .int .u8 0, .int .u8 0, .int .u8 0, .int .u8 0, .int .u8 0, .int .u8 0, .int .u8 0, .int .u8 0] : List Value) ([.int .i64 0, .int .u64 0, .int .u64 0, .slice none 0 0, .bool false, .int .u64 0, .int .u64 0, .int .u64 0, .int .u64 0, .int .u64 0, .slice none 0 0, .int .u8 0, .int .u8 0, .int .u8 0, .int .u8 0, .int .u8 0, .int .u8 0, .int .u8 0, .int .u8 0] : List Value) rfl 39 HZ.out rfl rfl (one19 rfl rfl) ?_; intro w9 hz hg9; have HZ9 := Qh hz; have HG9 := Qh hg9; clear hz hg9) | fail)
 (try simp only [Exit.inBlock, Exit.then])
 refine bodyPost_ret (results_cell3 rfl _ _ gz rfl ([.int .i64 0, .int .u64 0, .int .u64 0, .slice none 0 0, .bool false, .int .u64 0, .int .u64 0, .int .u64 0, .int .u64 0, .int .u64 0, .slice none 0 0, .int .u8 0, .int .u8 0, .int .u8 0, .int .u8 0, .int .u8 0, .int .u8 0, .int .u8 0, .int .u8 0] : List Value) _ _ HZ9.out Try.underlying39 rfl rfl) rfl ?_
 exact ⟨HB.out.grown HG9.out HB.out.size (by intro k hk; injection hk with hk; have := HGZ.out; omega), .inl ⟨HN.out, rfl⟩⟩
theorem dec4_t_bad (w : World) (a : Option Addr) (n cp : Nat) (bs : List Int) (hI : IntsK .u8 w a n bs) (hn : n ≤ 1000000) (hc : n ≤ cp ∧ cp ≤ 9223372036854775807) {x1 : Int} {b1 : List Int} {d1 : Bool} {f9 : Fr} {qb : List Int} (hx1 : varM bs false = (x1, b1, d1)) (h30 : x1 ≤ 30) (hst : ¬ (8 ≤ x1 ∧ x1 ≤ 15)) (hqq : frameR x1 b1 d1 = (some f9, qb, true)) :
  Calls Try.prog 13 #[.slice a n cp] w (DecR w bs) := by
 have HN : Hid (decF bs = none) := Qh (by unfold decF; rw [hx1]; simp only; rw [if_neg (by omega), hqq]; exact endF_bad)
 have HI := Qh hI
 have hln : bs.length = n := hI.1
 have HLN := Qh hln
 obtain ⟨hc1, hc2⟩ := hc
 have HX1 := Qh hx1
 have HQS : Hid (takeR x1 b1 d1 = (some f9, qb, true)) := Qh (by have h9 := hqq; unfold frameR at h9; rw [if_neg hst] at h9; exact h9)
 have HST := Qh hst
 clear hI hln hx1 hqq hst
 go_enter Try.func13, Try.ntmps13
 go_upto_region 1 with fail
 change Code.wp _ _ _ _ (w.alloc (.cells ([.int .i64 0, .int .u64 0, .int .u64 0, .slice none 0 0, .bool false, .int .u64 0, .int .u64 0, .int .u64 0, .int .u64 0, .int .u64 0, .slice none 0 0, .int .u8 0, .int .u8 0, .int .u8 0, .int .u8 0, .int .u8 0, .int .u8 0, .int .u8 0, .int .u8 0] : List Value).toArray 39))
 have HB := Qh (Below.refl w.heap.size w)
 have hb := (Below.refl w.heap.size w).alloc (Nat.le_refl _) (.cells ([.int .i64 0, .int .u64 0, .int .u64 0, .slice none 0 0, .bool false, .int .u64 0, .int .u64 0, .int .u64 0, .int .u64 0, .int .u64 0, .slice none 0 0, .int .u8 0, .int .u8 0, .int .u8 0, .int .u8 0, .int .u8 0, .int .u8 0, .int .u8 0, .int .u8 0] : List Value).toArray 39)
 replace HB := Qh (bl_next HB.out HB.out.size hb)
 replace HI := Qh (HI.out.below hb)
 have HZ := Qh (heap_alloc_new w (.cells ([.int .i64 0, .int .u64 0, .int .u64 0, .slice none 0 0, .bool false, .int .u64 0, .int .u64 0, .int .u64 0, .int .u64 0, .int .u64 0, .slice none 0 0, .int .u8 0, .int .u8 0, .int .u8 0, .int .u8 0, .int .u8 0, .int .u8 0, .int .u8 0, .int .u8 0] : List Value).toArray 39))
 clear hb
 generalize w.alloc (.cells ([.int .i64 0, .int .u64 0, .int .u64 0, .slice none 0 0, .bool false, .int .u64 0, .int .u64 0, .int .u64 0, .int .u64 0, .int .u64 0, .slice none 0 0, .int .u8 0, .int .u8 0, .int .u8 0, .int .u8 0, .int .u8 0, .int .u8 0, .int .u8 0, .int .u8 0] : List Value).toArray 39) = w1 at HB HI HZ ⊢
 obtain ⟨gz, hg⟩ : ∃ g, w.heap.size = g := ⟨_, rfl⟩
 rw [hg] at HZ ⊢
 have HGZ := Qh hg
 clear hg
 have HZ1 := Qh (lt_of_block HZ.out)
 have HLOW : Hid (w.heap.size ≤ w1.heap.size) := Qh HB.out.size
 go_wp2_with fail
 refine Calls.mono (of_any w1 a n cp bs (by omega) HI.out) ?_
 rintro e w2 ⟨W0, p, rfl, hR, hb1, hb2⟩
 have hb := bl_next hb1 hb1.size hb2
 have HW0 : Hid (w1.heap.size ≤ W0.heap.size) := Qh hb1.size
 replace HB := Qh (bl_next HB.out HB.out.size hb)
 replace HZ := Qh (bl_row hb (lt_of_block HZ.out) HZ.out)
 have HR := Qh hR
 clear hb hb1 hb2 hR HI
 have HZP : Hid (gz ≠ p) := Qh (by have := HR.out.lo; have := HW0.out; have := HZ1.out; omega)
 have HPW : Hid (w.heap.size ≤ p) := Qh (by have := HR.out.lo; have := HW0.out; have := HZ1.out; have := HGZ.out; omega)
 have hb := var_any W0 w2 w1.heap.size p bs false HR.out
 rw [HX1.out] at hb
 have hu := varM_in bs false HR.out.bytes
 rw [HX1.out] at hu
 simp only at hu
 have HCL := Qh hb
 clear hb
 go_wp2_with fail
 refine Calls.mono HCL.out ?_
 rintro e w3 ⟨rfl, hR, hg⟩
 replace HR := Qh hR
 replace HZ := Qh (grown_row hg (by intro e; injection e with e; exact HZP.out e) HZ.out)
 replace HB := Qh (HB.out.grown hg HB.out.size (by intro k hk; injection hk with hk; have := HPW.out; omega))
 clear hR hg HCL
 obtain ⟨u1, u2⟩ := hu
 go_upto_region 6 with (first | (refine wpList_store_row rfl 39 _ _ rfl _ rfl [.int .i64 x1, .int .u64 0, .int .u64 0, .slice none 0 0, .bool false, .int .u64 0, .int .u64 0, .int .u64 0, .int .u64 0, .int .u64 0, .slice none 0 0, .int .u8 0, .int .u8 0, .int .u8 0, .int .u8 0, .int .u8 0, .int .u8 0, .int .u8 0, .int .u8 0] ([.int .i64 0, .int .u64 0, .int .u64 0, .slice none 0 0, .bool false, .int .u64 0, .int .u64 0, .int .u64 0, .int .u64 0, .int .u64 0, .slice none 0 0, .int .u8 0, .int .u8 0, .int .u8 0, .int .u8 0, .int .u8 0, .int .u8 0, .int .u8 0, .int .u8 0] : List Value) rfl 39 (heap_alloc_new _ _) rfl rfl (one19 rfl rfl) ?_; intro w4 hr hg) | fail)
 have hpl := HR.out.lt
 have hzl := lt_of_block HZ.out
 have hws := HR.out.size
 have hbs := HB.out.size
 have hal := (Below.refl w3.heap.size w3).alloc (Nat.le_refl _) (.cells ([.int .i64 0, .int .u64 0, .int .u64 0, .slice none 0 0, .bool false, .int .u64 0, .int .u64 0, .int .u64 0, .int .u64 0, .int .u64 0, .slice none 0 0, .int .u8 0, .int .u8 0, .int .u8 0, .int .u8 0, .int .u8 0, .int .u8 0, .int .u8 0, .int .u8 0] : List Value).toArray 39)
 have hb : Below w3.heap.size w3 w4 := hal.grown hg hal.size (by intro k hk; injection hk with hk; omega)
 replace HB := Qh (bl_next HB.out HB.out.size hb)
 replace HZ := Qh (bl_row hb (lt_of_block HZ.out) HZ.out)
 replace HR := Qh (HR.out.to hb)
 have hf9 : w4.heap[w3.heap.size]? = some (.cells ((zeroF x1).cells (.slice none 0 0) (.slice none 0 0)).toArray 39 (0, 0)) := hr
 have HF := Qh hf9
 clear hb hf9 hr hg hal
 obtain ⟨gf, hg⟩ : ∃ g, w3.heap.size = g := ⟨_, rfl⟩
 rw [hg] at HF hpl hzl hws hbs ⊢
 clear hg
 have hgp : gf ≠ p := by omega
 have hgz : gz ≠ gf := by omega
 have HGW : Hid (W0.heap.size ≤ gf) := Qh hws
 have HGP := Qh hgp; have HGZF := Qh hgz
 have HWF : Hid (w.heap.size ≤ gf) := Qh hbs
 clear hgp hgz hpl hzl hws hbs
 have HW14 : Hid (w1.heap.size ≤ w4.heap.size) := Qh (by have := HR.out.size; have := HW0.out; omega)
 obtain ⟨kk, hkk⟩ : ∃ kk : Nat, x1 = kk := ⟨x1.toNat, by omega⟩
 have han := andnot_31 kk (by omega)
 rw [← hkk] at han
 obtain ⟨y, hy⟩ : ∃ y, bits .andNot .u64 x1 7 = y := ⟨_, rfl⟩
 rw [hy] at han
 clear hkk kk
 rw [decide_eq_false HST.out] at han
 have hcl := take4_any W0 w4 w1.heap.size p gf x1 b1 d1 HR.out HF.out HGP.out HGW.out ⟨u1, h30⟩
 rw [HQS.out] at hcl
 have HCL := Qh hcl
 clear hcl
 go_wp2_with fail
 refine Calls.mono HCL.out ?_
 rintro e w5 ⟨rfl, hu⟩
 clear HCL
 obtain ⟨F, dv, rv, hF9, hR9, hrow, hfr, hch, hlo⟩ := hu
 have hb9 := hch.below HB.out HB.out.size (by have := HPW.out; omega) (fun k hk => by injection hk with hk; have := HWF.out; omega)
 have hz9 := (hch.block gz (lt_of_block HZ.out) HZP.out (by intro e; injection e with e; exact HGZF.out e.symm)).trans HZ.out
 replace HB := Qh hb9; replace HZ := Qh hz9; replace HR := Qh hR9; replace HF := Qh hrow; have HFR := Qh hfr
 have HLO : Hid (FrLo w1.heap.size dv rv) := Qh (hlo.less HW14.out)
 obtain rfl := hF9 f9 rfl
 simp only at HR
 clear hb9 hz9 hR9 hrow hfr hch hlo hF9
 (try simp only [Option.isSome_some])
 have HBD := Qh (bad_any W0 w5 w1.heap.size p qb true HR.out)
 go_wp2_with fail
 refine Calls.mono HBD.out ?_
 rintro e wq ⟨rfl, hwq⟩
 subst hwq
 clear HBD
 go_wp2_with (first | (refine wpList_store_row rfl 39 _ _ rfl gz rfl ([.int .i64 0, .int .u64 0, .int .u64 0, .slice none 0 0, .bool false, .int .u64 0, .int .u64 0, .int .u64 0, .int .u64 0, .int .u64 0, .slice none 0 0, .int .u8 0, .int .u8 0, .int .u8 0, .int .u8 0, .int .u8 0, .int .u8 0, .int .u8 0, .int .u8 0] : List Value) ([.int .i64 0, .int .u64 0, .int .u64 0, .slice none 0 0, .bool false, .int .u64 0, .int .u64 0, .int .u64 0, .int .u64 0, .int .u64 0, .slice none 0 0, .int .u8 0, .int .u8 0, .int .u8 0, .int .u8 0, .int .u8 0, .int .u8 0, .int .u8 0, .int .u8 0] : List Value) rfl 39 HZ.out rfl rfl (one19 rfl rfl) ?_; intro w9 hz hg9; have HZ9 := Qh hz; have HG9 := Qh hg9; clear hz hg9) | fail)
 (try simp only [Exit.inBlock, Exit.then])
 refine bodyPost_ret (results_cell3 rfl _ _ gz rfl ([.int .i64 0, .int .u64 0, .int .u64 0, .slice none 0 0, .bool false, .int .u64 0, .int .u64 0, .int .u64 0, .int .u64 0, .int .u64 0, .slice none 0 0, .int .u8 0, .int .u8 0, .int .u8 0, .int .u8 0, .int .u8 0, .int .u8 0, .int .u8 0, .int .u8 0] : List Value) _ _ HZ9.out Try.underlying39 rfl rfl) rfl ?_
 exact ⟨HB.out.grown HG9.out HB.out.size (by intro k hk; injection hk with hk; have := HGZ.out; omega), .inl ⟨HN.out, rfl⟩⟩
theorem dec4_t_no (w : World) (a : Option Addr) (n cp : Nat) (bs : List Int) (hI : IntsK .u8 w a n bs) (hn : n ≤ 1000000) (hc : n ≤ cp ∧ cp ≤ 9223372036854775807) {x1 : Int} {b1 : List Int} {d1 : Bool} {f9 : Fr} {qb : List Int} (hx1 : varM bs false = (x1, b1, d1)) (h30 : x1 ≤ 30) (hst : ¬ (8 ≤ x1 ∧ x1 ≤ 15)) (hqq : frameR x1 b1 d1 = (some f9, qb, false)) (hrb : rightB f9 = false) :
  Calls Try.prog 13 #[.slice a n cp] w (DecR w bs) := by
 have HN : Hid (decF bs = none) := Qh (by unfold decF; rw [hx1]; simp only; rw [if_neg (by omega), hqq]; unfold endF; simp only; rw [if_pos (.inr hrb)])
 have HI := Qh hI
 have hln : bs.length = n := hI.1
 have HLN := Qh hln
 obtain ⟨hc1, hc2⟩ := hc
 have HX1 := Qh hx1
 have HQS : Hid (takeR x1 b1 d1 = (some f9, qb, false)) := Qh (by have h9 := hqq; unfold frameR at h9; rw [if_neg hst] at h9; exact h9)
 have HST := Qh hst
 have HRB := Qh hrb
 clear hI hln hx1 hqq hst hrb
 go_enter Try.func13, Try.ntmps13
 go_upto_region 1 with fail
 change Code.wp _ _ _ _ (w.alloc (.cells ([.int .i64 0, .int .u64 0, .int .u64 0, .slice none 0 0, .bool false, .int .u64 0, .int .u64 0, .int .u64 0, .int .u64 0, .int .u64 0, .slice none 0 0, .int .u8 0, .int .u8 0, .int .u8 0, .int .u8 0, .int .u8 0, .int .u8 0, .int .u8 0, .int .u8 0] : List Value).toArray 39))
 have HB := Qh (Below.refl w.heap.size w)
 have hb := (Below.refl w.heap.size w).alloc (Nat.le_refl _) (.cells ([.int .i64 0, .int .u64 0, .int .u64 0, .slice none 0 0, .bool false, .int .u64 0, .int .u64 0, .int .u64 0, .int .u64 0, .int .u64 0, .slice none 0 0, .int .u8 0, .int .u8 0, .int .u8 0, .int .u8 0, .int .u8 0, .int .u8 0, .int .u8 0, .int .u8 0] : List Value).toArray 39)
 replace HB := Qh (bl_next HB.out HB.out.size hb)
 replace HI := Qh (HI.out.below hb)
 have HZ := Qh (heap_alloc_new w (.cells ([.int .i64 0, .int .u64 0, .int .u64 0, .slice none 0 0, .bool false, .int .u64 0, .int .u64 0, .int .u64 0, .int .u64 0, .int .u64 0, .slice none 0 0, .int .u8 0, .int .u8 0, .int .u8 0, .int .u8 0, .int .u8 0, .int .u8 0, .int .u8 0, .int .u8 0] : List Value).toArray 39))
 clear hb
 generalize w.alloc (.cells ([.int .i64 0, .int .u64 0, .int .u64 0, .slice none 0 0, .bool false, .int .u64 0, .int .u64 0, .int .u64 0, .int .u64 0, .int .u64 0, .slice none 0 0, .int .u8 0, .int .u8 0, .int .u8 0, .int .u8 0, .int .u8 0, .int .u8 0, .int .u8 0, .int .u8 0] : List Value).toArray 39) = w1 at HB HI HZ ⊢
 obtain ⟨gz, hg⟩ : ∃ g, w.heap.size = g := ⟨_, rfl⟩
 rw [hg] at HZ ⊢
 have HGZ := Qh hg
 clear hg
 have HZ1 := Qh (lt_of_block HZ.out)
 have HLOW : Hid (w.heap.size ≤ w1.heap.size) := Qh HB.out.size
 go_wp2_with fail
 refine Calls.mono (of_any w1 a n cp bs (by omega) HI.out) ?_
 rintro e w2 ⟨W0, p, rfl, hR, hb1, hb2⟩
 have hb := bl_next hb1 hb1.size hb2
 have HW0 : Hid (w1.heap.size ≤ W0.heap.size) := Qh hb1.size
 replace HB := Qh (bl_next HB.out HB.out.size hb)
 replace HZ := Qh (bl_row hb (lt_of_block HZ.out) HZ.out)
 have HR := Qh hR
 clear hb hb1 hb2 hR HI
 have HZP : Hid (gz ≠ p) := Qh (by have := HR.out.lo; have := HW0.out; have := HZ1.out; omega)
 have HPW : Hid (w.heap.size ≤ p) := Qh (by have := HR.out.lo; have := HW0.out; have := HZ1.out; have := HGZ.out; omega)
 have hb := var_any W0 w2 w1.heap.size p bs false HR.out
 rw [HX1.out] at hb
 have hu := varM_in bs false HR.out.bytes
 rw [HX1.out] at hu
 simp only at hu
 have HCL := Qh hb
 clear hb
 go_wp2_with fail
 refine Calls.mono HCL.out ?_
 rintro e w3 ⟨rfl, hR, hg⟩
 replace HR := Qh hR
 replace HZ := Qh (grown_row hg (by intro e; injection e with e; exact HZP.out e) HZ.out)
 replace HB := Qh (HB.out.grown hg HB.out.size (by intro k hk; injection hk with hk; have := HPW.out; omega))
 clear hR hg HCL
 obtain ⟨u1, u2⟩ := hu
 go_upto_region 6 with (first | (refine wpList_store_row rfl 39 _ _ rfl _ rfl [.int .i64 x1, .int .u64 0, .int .u64 0, .slice none 0 0, .bool false, .int .u64 0, .int .u64 0, .int .u64 0, .int .u64 0, .int .u64 0, .slice none 0 0, .int .u8 0, .int .u8 0, .int .u8 0, .int .u8 0, .int .u8 0, .int .u8 0, .int .u8 0, .int .u8 0] ([.int .i64 0, .int .u64 0, .int .u64 0, .slice none 0 0, .bool false, .int .u64 0, .int .u64 0, .int .u64 0, .int .u64 0, .int .u64 0, .slice none 0 0, .int .u8 0, .int .u8 0, .int .u8 0, .int .u8 0, .int .u8 0, .int .u8 0, .int .u8 0, .int .u8 0] : List Value) rfl 39 (heap_alloc_new _ _) rfl rfl (one19 rfl rfl) ?_; intro w4 hr hg) | fail)
 have hpl := HR.out.lt
 have hzl := lt_of_block HZ.out
 have hws := HR.out.size
 have hbs := HB.out.size
 have hal := (Below.refl w3.heap.size w3).alloc (Nat.le_refl _) (.cells ([.int .i64 0, .int .u64 0, .int .u64 0, .slice none 0 0, .bool false, .int .u64 0, .int .u64 0, .int .u64 0, .int .u64 0, .int .u64 0, .slice none 0 0, .int .u8 0, .int .u8 0, .int .u8 0, .int .u8 0, .int .u8 0, .int .u8 0, .int .u8 0, .int .u8 0] : List Value).toArray 39)
 have hb : Below w3.heap.size w3 w4 := hal.grown hg hal.size (by intro k hk; injection hk with hk; omega)
 replace HB := Qh (bl_next HB.out HB.out.size hb)
 replace HZ := Qh (bl_row hb (lt_of_block HZ.out) HZ.out)
 replace HR := Qh (HR.out.to hb)
 have hf9 : w4.heap[w3.heap.size]? = some (.cells ((zeroF x1).cells (.slice none 0 0) (.slice none 0 0)).toArray 39 (0, 0)) := hr
 have HF := Qh hf9
 clear hb hf9 hr hg hal
 obtain ⟨gf, hg⟩ : ∃ g, w3.heap.size = g := ⟨_, rfl⟩
 rw [hg] at HF hpl hzl hws hbs ⊢
 clear hg
 have hgp : gf ≠ p := by omega
 have hgz : gz ≠ gf := by omega
 have HGW : Hid (W0.heap.size ≤ gf) := Qh hws
 have HGP := Qh hgp; have HGZF := Qh hgz
 have HWF : Hid (w.heap.size ≤ gf) := Qh hbs
 clear hgp hgz hpl hzl hws hbs
 have HW14 : Hid (w1.heap.size ≤ w4.heap.size) := Qh (by have := HR.out.size; have := HW0.out; omega)
 obtain ⟨kk, hkk⟩ : ∃ kk : Nat, x1 = kk := ⟨x1.toNat, by omega⟩
 have han := andnot_31 kk (by omega)
 rw [← hkk] at han
 obtain ⟨y, hy⟩ : ∃ y, bits .andNot .u64 x1 7 = y := ⟨_, rfl⟩
 rw [hy] at han
 clear hkk kk
 rw [decide_eq_false HST.out] at han
 have hcl := take4_any W0 w4 w1.heap.size p gf x1 b1 d1 HR.out HF.out HGP.out HGW.out ⟨u1, h30⟩
 rw [HQS.out] at hcl
 have HCL := Qh hcl
 clear hcl
 go_wp2_with fail
 refine Calls.mono HCL.out ?_
 rintro e w5 ⟨rfl, hu⟩
 clear HCL
 obtain ⟨F, dv, rv, hF9, hR9, hrow, hfr, hch, hlo⟩ := hu
 have hb9 := hch.below HB.out HB.out.size (by have := HPW.out; omega) (fun k hk => by injection hk with hk; have := HWF.out; omega)
 have hz9 := (hch.block gz (lt_of_block HZ.out) HZP.out (by intro e; injection e with e; exact HGZF.out e.symm)).trans HZ.out
 replace HB := Qh hb9; replace HZ := Qh hz9; replace HR := Qh hR9; replace HF := Qh hrow; have HFR := Qh hfr
 have HLO : Hid (FrLo w1.heap.size dv rv) := Qh (hlo.less HW14.out)
 obtain rfl := hF9 f9 rfl
 simp only at HR
 clear hb9 hz9 hR9 hrow hfr hch hlo hF9
 (try simp only [Option.isSome_some])
 have hri := right4_any w5 f9 dv rv HFR.out
 rw [HRB.out] at hri
 have HRF : Hid ((f9.cells dv rv).length = 19) := Qh (Fr.len HFR.out.wf)
 have HONE : Hid (∀ v ∈ f9.cells dv rv, v.oneCell' = true) := Qh (Fr.one HFR.out)
 obtain ⟨RF, hRF⟩ : ∃ R, f9.cells dv rv = R := ⟨_, rfl⟩
 rw [hRF] at hri HRF HONE HF
 have HRE := Qh hRF
 have HRI := Qh hri
 clear hri hRF
 have HBD := Qh (bad_any W0 w5 w1.heap.size p qb false HR.out)
 go_wp2_with (first | (refine wpList_load_g 39 _ rfl (by kernel_rfl) gf 0 rfl RF _ (rngL HF.out) Try.underlying39 rfl (by rw [HRF.out]; rfl) ?_) | (refine wpList_load_mid rfl 39 _ rfl gf 0 rfl RF _ (rngL HF.out) Try.underlying39 rfl (by rw [HRF.out]; rfl) ?_) | fail)
 refine Calls.mono HBD.out ?_
 rintro e wq ⟨rfl, hwq⟩
 subst hwq
 go_wp2_with (first | (refine wpList_load_g 39 _ rfl (by kernel_rfl) gf 0 rfl RF _ (rngL HF.out) Try.underlying39 rfl (by rw [HRF.out]; rfl) ?_) | (refine wpList_load_mid rfl 39 _ rfl gf 0 rfl RF _ (rngL HF.out) Try.underlying39 rfl (by rw [HRF.out]; rfl) ?_) | fail)
 refine Calls.mono HRI.out ?_
 rintro e w6 ⟨rfl, hb⟩
 replace HZ := Qh (bl_row hb (lt_of_block HZ.out) HZ.out)
 replace HF := Qh (bl_row hb (lt_of_block HF.out) HF.out)
 replace HB := Qh (bl_next HB.out HB.out.size hb)
 replace HFR := Qh (HFR.out.below hb)
 replace HR := Qh (HR.out.to hb)
 clear hb HBD HRI
 go_wp2_with (first | (refine wpList_store_row rfl 39 _ _ rfl gz rfl ([.int .i64 0, .int .u64 0, .int .u64 0, .slice none 0 0, .bool false, .int .u64 0, .int .u64 0, .int .u64 0, .int .u64 0, .int .u64 0, .slice none 0 0, .int .u8 0, .int .u8 0, .int .u8 0, .int .u8 0, .int .u8 0, .int .u8 0, .int .u8 0, .int .u8 0] : List Value) ([.int .i64 0, .int .u64 0, .int .u64 0, .slice none 0 0, .bool false, .int .u64 0, .int .u64 0, .int .u64 0, .int .u64 0, .int .u64 0, .slice none 0 0, .int .u8 0, .int .u8 0, .int .u8 0, .int .u8 0, .int .u8 0, .int .u8 0, .int .u8 0, .int .u8 0] : List Value) rfl 39 HZ.out rfl rfl (one19 rfl rfl) ?_; intro w9 hz hg9; have HZ9 := Qh hz; have HG9 := Qh hg9; clear hz hg9) | fail)
 (try simp only [Exit.inBlock, Exit.then])
 refine bodyPost_ret (results_cell3 rfl _ _ gz rfl ([.int .i64 0, .int .u64 0, .int .u64 0, .slice none 0 0, .bool false, .int .u64 0, .int .u64 0, .int .u64 0, .int .u64 0, .int .u64 0, .slice none 0 0, .int .u8 0, .int .u8 0, .int .u8 0, .int .u8 0, .int .u8 0, .int .u8 0, .int .u8 0, .int .u8 0] : List Value) _ _ HZ9.out Try.underlying39 rfl rfl) rfl ?_
 exact ⟨HB.out.grown HG9.out HB.out.size (by intro k hk; injection hk with hk; have := HGZ.out; omega), .inl ⟨HN.out, rfl⟩⟩
theorem dec4_t_ok (w : World) (a : Option Addr) (n cp : Nat) (bs : List Int) (hI : IntsK .u8 w a n bs) (hn : n ≤ 1000000) (hc : n ≤ cp ∧ cp ≤ 9223372036854775807) {x1 : Int} {b1 : List Int} {d1 : Bool} {f9 : Fr} {qb : List Int} (hx1 : varM bs false = (x1, b1, d1)) (h30 : x1 ≤ 30) (hst : ¬ (8 ≤ x1 ∧ x1 ≤ 15)) (hqq : frameR x1 b1 d1 = (some f9, qb, false)) (hrb : rightB f9 = true) :
  Calls Try.prog 13 #[.slice a n cp] w (DecR w bs) := by
 have HN : Hid (decF bs = some (f9, qb)) := Qh (by unfold decF; rw [hx1]; simp only; rw [if_neg (by omega), hqq]; exact end_some hrb)
 have HI := Qh hI
 have hln : bs.length = n := hI.1
 have HLN := Qh hln
 obtain ⟨hc1, hc2⟩ := hc
 have HX1 := Qh hx1
 have HQS : Hid (takeR x1 b1 d1 = (some f9, qb, false)) := Qh (by have h9 := hqq; unfold frameR at h9; rw [if_neg hst] at h9; exact h9)
 have HST := Qh hst
 have HRB := Qh hrb
 clear hI hln hx1 hqq hst hrb
 go_enter Try.func13, Try.ntmps13
 go_upto_region 1 with fail
 change Code.wp _ _ _ _ (w.alloc (.cells ([.int .i64 0, .int .u64 0, .int .u64 0, .slice none 0 0, .bool false, .int .u64 0, .int .u64 0, .int .u64 0, .int .u64 0, .int .u64 0, .slice none 0 0, .int .u8 0, .int .u8 0, .int .u8 0, .int .u8 0, .int .u8 0, .int .u8 0, .int .u8 0, .int .u8 0] : List Value).toArray 39))
 have HB := Qh (Below.refl w.heap.size w)
 have hb := (Below.refl w.heap.size w).alloc (Nat.le_refl _) (.cells ([.int .i64 0, .int .u64 0, .int .u64 0, .slice none 0 0, .bool false, .int .u64 0, .int .u64 0, .int .u64 0, .int .u64 0, .int .u64 0, .slice none 0 0, .int .u8 0, .int .u8 0, .int .u8 0, .int .u8 0, .int .u8 0, .int .u8 0, .int .u8 0, .int .u8 0] : List Value).toArray 39)
 replace HB := Qh (bl_next HB.out HB.out.size hb)
 replace HI := Qh (HI.out.below hb)
 have HZ := Qh (heap_alloc_new w (.cells ([.int .i64 0, .int .u64 0, .int .u64 0, .slice none 0 0, .bool false, .int .u64 0, .int .u64 0, .int .u64 0, .int .u64 0, .int .u64 0, .slice none 0 0, .int .u8 0, .int .u8 0, .int .u8 0, .int .u8 0, .int .u8 0, .int .u8 0, .int .u8 0, .int .u8 0] : List Value).toArray 39))
 clear hb
 generalize w.alloc (.cells ([.int .i64 0, .int .u64 0, .int .u64 0, .slice none 0 0, .bool false, .int .u64 0, .int .u64 0, .int .u64 0, .int .u64 0, .int .u64 0, .slice none 0 0, .int .u8 0, .int .u8 0, .int .u8 0, .int .u8 0, .int .u8 0, .int .u8 0, .int .u8 0, .int .u8 0] : List Value).toArray 39) = w1 at HB HI HZ ⊢
 obtain ⟨gz, hg⟩ : ∃ g, w.heap.size = g := ⟨_, rfl⟩
 rw [hg] at HZ ⊢
 have HGZ := Qh hg
 clear hg
 have HZ1 := Qh (lt_of_block HZ.out)
 have HLOW : Hid (w.heap.size ≤ w1.heap.size) := Qh HB.out.size
 go_wp2_with fail
 refine Calls.mono (of_any w1 a n cp bs (by omega) HI.out) ?_
 rintro e w2 ⟨W0, p, rfl, hR, hb1, hb2⟩
 have hb := bl_next hb1 hb1.size hb2
 have HW0 : Hid (w1.heap.size ≤ W0.heap.size) := Qh hb1.size
 replace HB := Qh (bl_next HB.out HB.out.size hb)
 replace HZ := Qh (bl_row hb (lt_of_block HZ.out) HZ.out)
 have HR := Qh hR
 clear hb hb1 hb2 hR HI
 have HZP : Hid (gz ≠ p) := Qh (by have := HR.out.lo; have := HW0.out; have := HZ1.out; omega)
 have HPW : Hid (w.heap.size ≤ p) := Qh (by have := HR.out.lo; have := HW0.out; have := HZ1.out; have := HGZ.out; omega)
 have hb := var_any W0 w2 w1.heap.size p bs false HR.out
 rw [HX1.out] at hb
 have hu := varM_in bs false HR.out.bytes
 rw [HX1.out] at hu
 simp only at hu
 have HCL := Qh hb
 clear hb
 go_wp2_with fail
 refine Calls.mono HCL.out ?_
 rintro e w3 ⟨rfl, hR, hg⟩
 replace HR := Qh hR
 replace HZ := Qh (grown_row hg (by intro e; injection e with e; exact HZP.out e) HZ.out)
 replace HB := Qh (HB.out.grown hg HB.out.size (by intro k hk; injection hk with hk; have := HPW.out; omega))
 clear hR hg HCL
 obtain ⟨u1, u2⟩ := hu
 go_upto_region 6 with (first | (refine wpList_store_row rfl 39 _ _ rfl _ rfl [.int .i64 x1, .int .u64 0, .int .u64 0, .slice none 0 0, .bool false, .int .u64 0, .int .u64 0, .int .u64 0, .int .u64 0, .int .u64 0, .slice none 0 0, .int .u8 0, .int .u8 0, .int .u8 0, .int .u8 0, .int .u8 0, .int .u8 0, .int .u8 0, .int .u8 0] ([.int .i64 0, .int .u64 0, .int .u64 0, .slice none 0 0, .bool false, .int .u64 0, .int .u64 0, .int .u64 0, .int .u64 0, .int .u64 0, .slice none 0 0, .int .u8 0, .int .u8 0, .int .u8 0, .int .u8 0, .int .u8 0, .int .u8 0, .int .u8 0, .int .u8 0] : List Value) rfl 39 (heap_alloc_new _ _) rfl rfl (one19 rfl rfl) ?_; intro w4 hr hg) | fail)
 have hpl := HR.out.lt
 have hzl := lt_of_block HZ.out
 have hws := HR.out.size
 have hbs := HB.out.size
 have hal := (Below.refl w3.heap.size w3).alloc (Nat.le_refl _) (.cells ([.int .i64 0, .int .u64 0, .int .u64 0, .slice none 0 0, .bool false, .int .u64 0, .int .u64 0, .int .u64 0, .int .u64 0, .int .u64 0, .slice none 0 0, .int .u8 0, .int .u8 0, .int .u8 0, .int .u8 0, .int .u8 0, .int .u8 0, .int .u8 0, .int .u8 0] : List Value).toArray 39)
 have hb : Below w3.heap.size w3 w4 := hal.grown hg hal.size (by intro k hk; injection hk with hk; omega)
 replace HB := Qh (bl_next HB.out HB.out.size hb)
 replace HZ := Qh (bl_row hb (lt_of_block HZ.out) HZ.out)
 replace HR := Qh (HR.out.to hb)
 have hf9 : w4.heap[w3.heap.size]? = some (.cells ((zeroF x1).cells (.slice none 0 0) (.slice none 0 0)).toArray 39 (0, 0)) := hr
 have HF := Qh hf9
 clear hb hf9 hr hg hal
 obtain ⟨gf, hg⟩ : ∃ g, w3.heap.size = g := ⟨_, rfl⟩
 rw [hg] at HF hpl hzl hws hbs ⊢
 clear hg
 have hgp : gf ≠ p := by omega
 have hgz : gz ≠ gf := by omega
 have HGW : Hid (W0.heap.size ≤ gf) := Qh hws
 have HGP := Qh hgp; have HGZF := Qh hgz
 have HWF : Hid (w.heap.size ≤ gf) := Qh hbs
 clear hgp hgz hpl hzl hws hbs
 have HW14 : Hid (w1.heap.size ≤ w4.heap.size) := Qh (by have := HR.out.size; have := HW0.out; omega)
 obtain ⟨kk, hkk⟩ : ∃ kk : Nat, x1 = kk := ⟨x1.toNat, by omega⟩
 have han := andnot_31 kk (by omega)
 rw [← hkk] at han
 obtain ⟨y, hy⟩ : ∃ y, bits .andNot .u64 x1 7 = y := ⟨_, rfl⟩
 rw [hy] at han
 clear hkk kk
 rw [decide_eq_false HST.out] at han
 have hcl := take4_any W0 w4 w1.heap.size p gf x1 b1 d1 HR.out HF.out HGP.out HGW.out ⟨u1, h30⟩
 rw [HQS.out] at hcl
 have HCL := Qh hcl
 clear hcl
 go_wp2_with fail
 refine Calls.mono HCL.out ?_
 rintro e w5 ⟨rfl, hu⟩
 clear HCL
 obtain ⟨F, dv, rv, hF9, hR9, hrow, hfr, hch, hlo⟩ := hu
 have hb9 := hch.below HB.out HB.out.size (by have := HPW.out; omega) (fun k hk => by injection hk with hk; have := HWF.out; omega)
 have hz9 := (hch.block gz (lt_of_block HZ.out) HZP.out (by intro e; injection e with e; exact HGZF.out e.symm)).trans HZ.out
 replace HB := Qh hb9; replace HZ := Qh hz9; replace HR := Qh hR9; replace HF := Qh hrow; have HFR := Qh hfr
 have HLO : Hid (FrLo w1.heap.size dv rv) := Qh (hlo.less HW14.out)
 obtain rfl := hF9 f9 rfl
 simp only at HR
 clear hb9 hz9 hR9 hrow hfr hch hlo hF9
 (try simp only [Option.isSome_some])
 have hri := right4_any w5 f9 dv rv HFR.out
 rw [HRB.out] at hri
 have HRF : Hid ((f9.cells dv rv).length = 19) := Qh (Fr.len HFR.out.wf)
 have HONE : Hid (∀ v ∈ f9.cells dv rv, v.oneCell' = true) := Qh (Fr.one HFR.out)
 obtain ⟨RF, hRF⟩ : ∃ R, f9.cells dv rv = R := ⟨_, rfl⟩
 rw [hRF] at hri HRF HONE HF
 have HRE := Qh hRF
 have HRI := Qh hri
 clear hri hRF
 have HBD := Qh (bad_any W0 w5 w1.heap.size p qb false HR.out)
 go_wp2_with (first | (refine wpList_load_g 39 _ rfl (by kernel_rfl) gf 0 rfl RF _ (rngL HF.out) Try.underlying39 rfl (by rw [HRF.out]; rfl) ?_) | (refine wpList_load_mid rfl 39 _ rfl gf 0 rfl RF _ (rngL HF.out) Try.underlying39 rfl (by rw [HRF.out]; rfl) ?_) | fail)
 refine Calls.mono HBD.out ?_
 rintro e wq ⟨rfl, hwq⟩
 subst hwq
 go_wp2_with (first | (refine wpList_load_g 39 _ rfl (by kernel_rfl) gf 0 rfl RF _ (rngL HF.out) Try.underlying39 rfl (by rw [HRF.out]; rfl) ?_) | (refine wpList_load_mid rfl 39 _ rfl gf 0 rfl RF _ (rngL HF.out) Try.underlying39 rfl (by rw [HRF.out]; rfl) ?_) | fail)
 refine Calls.mono HRI.out ?_
 rintro e w6 ⟨rfl, hb⟩
 replace HZ := Qh (bl_row hb (lt_of_block HZ.out) HZ.out)
 replace HF := Qh (bl_row hb (lt_of_block HF.out) HF.out)
 replace HB := Qh (bl_next HB.out HB.out.size hb)
 replace HFR := Qh (HFR.out.below hb)
 replace HR := Qh (HR.out.to hb)
 clear hb HBD HRI
 have hle : qb.length ≤ n := by rw [← HLN.out]; exact dec_len HN.out
 have HLE := Qh hle
 clear hle
 go_upto_region 12 with fail
 refine dec_out _ HF HZ HR HRF HONE HGZF.out HLE.out hn (fun c a d v w h => by cases d <;> exact h) ?_
 rintro _ _ _ _ _ _ w8 HZ8 HG8
 go_wp2_with fail
 (try simp only [Exit.inBlock, Exit.then])
 refine bodyPost_ret (results_cell3 rfl _ _ gz rfl RF _ _ HZ8.out Try.underlying39 rfl (by rw [HRF.out]; rfl)) rfl ?_
 refine ⟨HB.out.grown HG8.out HB.out.size (by intro k hk; injection hk with hk; have := HGZ.out; omega), .inr ⟨f9, qb, dv, rv, HN.out, by rw [HLN.out]; exact HLE.out, ?_, HFR.out.cellBut HLO.out HG8.out HZ1.out, HLO.out.less HLOW.out⟩⟩
 rw [HLN.out, HRE.out]; rfl
theorem dec4_any (w : World) (a : Option Addr) (n cp : Nat) (bs : List Int) (hI : IntsK .u8 w a n bs) (hn : n ≤ 1000000) (hc : n ≤ cp ∧ cp ≤ 9223372036854775807) :
  Calls Try.prog 13 #[.slice a n cp] w (DecR w bs) := by
 obtain ⟨⟨x1, b1, d1⟩, hx1⟩ : ∃ r, varM bs false = r := ⟨_, rfl⟩
 by_cases h30 : 30 < x1
 ·
  exact dec4_over w a n cp bs hI hn hc hx1 h30
 obtain ⟨⟨qo, qb, qd⟩, hqq⟩ : ∃ q, frameR x1 b1 d1 = q := ⟨_, rfl⟩
 by_cases hst : 8 ≤ x1 ∧ x1 ≤ 15
 ·
  cases qo with
  | none => exact absurd hqq (by unfold frameR; rw [if_pos hst]; intro h9; have := congrArg Prod.fst h9; simp [streamR, bnd, ret] at this)
  | some f9 =>
   cases qd with
   | true => exact dec4_s_bad w a n cp bs hI hn hc hx1 (by omega) hst hqq
   | false =>
    cases hrb : rightB f9 with
    | false => exact dec4_s_no w a n cp bs hI hn hc hx1 (by omega) hst hqq hrb
    | true => exact dec4_s_ok w a n cp bs hI hn hc hx1 (by omega) hst hqq hrb
 ·
  cases qo with
  | none => exact dec4_t_none w a n cp bs hI hn hc hx1 (by omega) hst hqq
  | some f9 =>
   cases qd with
   | true => exact dec4_t_bad w a n cp bs hI hn hc hx1 (by omega) hst hqq
   | false =>
    cases hrb : rightB f9 with
    | false => exact dec4_t_no w a n cp bs hI hn hc hx1 (by omega) hst hqq hrb
    | true => exact dec4_t_ok w a n cp bs hI hn hc hx1 (by omega) hst hqq hrb
end Go.Proofs.Ytmbjepcbokbemaa
namespace Go.Proofs.Ytmbjepcbokbemaa
open Go.RowKit
theorem all_fuel : ∀ (n m : Nat) (bs : List Int), bs.length ≤ n → bs.length ≤ m → allF n bs = allF m bs
 | 0, 0, [], _, _ => rfl
 | 0, _ + 1, [], _, _ => rfl
 | _ + 1, 0, [], _, _ => rfl
 | _ + 1, _ + 1, [], _, _ => rfl
 | 0, _, _ :: _, h, _ => by simp at h
 | _ + 1, 0, _ :: _, _, h => by simp at h
 | n + 1, m + 1, b :: t, h1, h2 => by
  cases hd : decF (b :: t) with
  | none => simp only [allF, hd]
  | some q =>
   obtain ⟨f, r⟩ := q
   have hl := (dec_suf hd).2
   simp only [List.length_cons] at h1 h2 hl
   simp only [allF, hd, all_fuel n m r (by omega) (by omega)]
def allB (bs : List Int) : Option (List Fr) := allF bs.length bs
theorem allB_nil : allB [] = some [] := rfl
theorem allB_none {bs : List Int} (h : decF bs = none) (h0 : 0 < bs.length) : allB bs = none := by
 cases bs with
 | nil => simp at h0
 | cons b t => simp only [allB, List.length_cons, allF, h]
theorem allB_some {bs : List Int} {f : Fr} {r : List Int} (h : decF bs = some (f, r)) : allB bs = (allB r).map (f :: ·) := by
 have hl := (dec_suf h).2
 cases bs with
 | nil => simp at hl
 | cons b t =>
  simp only [List.length_cons] at hl
  simp only [allB, List.length_cons, allF, h]
  rw [all_fuel t.length r.length r (by omega) (Nat.le_refl _)]
def FrAp (g : Option Nat) (dv rv : Value) : Prop := (∀ a n c, dv = .slice (some a) n c → 0 < n → g ≠ some a.block) ∧ ∀ a n c, rv = .slice (some a) n c → 0 < n → g ≠ some a.block
theorem FrLo.ap {B : Nat} {dv rv : Value} {g : Option Nat} (h : FrLo B dv rv) (hg : ∀ k, g = some k → k < B) : FrAp g dv rv :=
 ⟨fun a n c e _ e2 => by have := hg _ e2; have := h.1 a n c e; omega, fun a n c e _ e2 => by have := hg _ e2; have := h.2 a n c e; omega⟩
theorem FrAt.grown {w y : World} {f : Fr} {dv rv : Value} {g : Option Nat} (h : FrAt w f dv rv) (hg : w.grownBy y g) (ha : FrAp g dv rv) : FrAt y f dv rv := by
 obtain ⟨wf, ⟨a, n, c, rfl, h1, h2, h3⟩, ⟨a', n', c', rfl, h1', h2', h3'⟩⟩ := h
 refine ⟨wf, ⟨a, n, c, rfl, h1, h2, ?_⟩, ⟨a', n', c', rfl, h1', h2', ?_⟩⟩
 ·
  by_cases h0 : n = 0
  ·
   exact ⟨h3.1, h3.2.1, .inl h0⟩
  ·
   exact h3.grown hg (fun x hx e => by subst hx; exact ha.1 x n c rfl (by omega) e.symm)
 ·
  by_cases h0 : n' = 0
  ·
   exact ⟨h3'.1, h3'.2.1, .inl h0⟩
  ·
   exact h3'.grown hg (fun x hx e => by subst hx; exact ha.2 x n' c' rfl (by omega) e.symm)
theorem FrAt.apart {w : World} {f : Fr} {dv rv : Value} (h : FrAt w f dv rv) {k : Nat} (hk : w.heap.size ≤ k) : FrAp (some k) dv rv := by
 obtain ⟨wf, ⟨a, n, c, rfl, h1, h2, h3⟩, ⟨a', n', c', rfl, h1', h2', h3'⟩⟩ := h
 refine ⟨fun x m q e h0 e2 => ?_, fun x m q e h0 e2 => ?_⟩
 ·
  injection e with e e3 e4; subst e; subst e3
  rcases h3.2.2 with h9 | ⟨b, off, h9, hb, _⟩
  ·
   omega
  ·
   injection h9 with h9; subst h9; injection e2 with e2; simp only at e2; omega
 ·
  injection e with e e3 e4; subst e; subst e3
  rcases h3'.2.2 with h9 | ⟨b, off, h9, hb, _⟩
  ·
   omega
  ·
   injection h9 with h9; subst h9; injection e2 with e2; simp only at e2; omega
theorem IntsK.sufC {k : IntKind} {w : World} {b off n : Nat} {zs : List Int} (h : IntsK k w (some ⟨b, off, none⟩) n zs) (m c : Nat) (hm : m ≤ n) (hc : n ≤ c) : IntsK k w (if c = m then some ⟨b, off, none⟩ else some ⟨b, off + m, none⟩) (n - m) (zs.drop m) := by
 split
 ·
  have h2 := h.suf m hm
  exact ⟨h2.1, h2.2.1, .inl (by omega)⟩
 ·
  exact h.suf m hm
def AllI (w : World) (n : Nat) (bs : List Int) (s0 s4 : Value) (wr : World) : Prop := ∃ (a' : Option Addr) (m cp' : Nat) (rest : List Int) (X : List FX), s0 = .slice a' m cp' ∧ (m ≤ cp' ∧ cp' ≤ 9223372036854775807 ∧ m ≤ n) ∧ Hid (IntsK .u8 w a' m rest) ∧ Hid (Below w.heap.size w wr) ∧ Hid (wr.ownsRow w.heap.size 39 19 s4 X.length (frK.flat X)) ∧ Hid (∀ x ∈ X, FrAt wr x.f x.dv x.rv ∧ FrAp s4.ownBlock x.dv x.rv) ∧ Hid (allB bs = (allB rest).map (X.map FX.f ++ ·)) ∧ Hid (m + X.length ≤ n)
def AllR (w : World) (bs : List Int) (e : Ending) (w' : World) : Prop :=
 Below w.heap.size w w' ∧ (((bs = [] ∨ allB bs = none) ∧ e = .returned (.tuple #[.slice none 0 0, .int .i64 12])) ∨
  (bs ≠ [] ∧ ∃ X a c, allB bs = some (X.map FX.f) ∧ e = .returned (.tuple #[.slice a X.length c, .int .i64 0]) ∧ (X.length ≤ c ∧ c ≤ 9223372036854775807) ∧ FrsAt w' a X.length X))
theorem all4_any (w : World) (a : Option Addr) (n cp : Nat) (bs : List Int) (hI : IntsK .u8 w a n bs) (hn : n ≤ 100000) (hc : n ≤ cp ∧ cp ≤ 9223372036854775807) :
  Calls Try.prog 10 #[.slice a n cp] w (AllR w bs) := by
 have HI := Qh hI
 have hln : bs.length = n := hI.1
 have HLN := Qh hln
 obtain ⟨hc1, hc2⟩ := hc
 clear hI hln
 by_cases h0 : n = 0
 ·
  subst h0
  have HE : Hid (bs = []) := Qh (List.eq_nil_of_length_eq_zero HLN.out)
  go_enter Try.func10, Try.ntmps10
  go_wp2_with fail
  go_ret2
  exact ⟨Below.refl _ _, .inl ⟨.inl HE.out, rfl⟩⟩
 have HE : Hid (bs ≠ []) := Qh (fun e => by have := HLN.out; rw [e] at this; simp at this; omega)
 go_enter Try.func10, Try.ntmps10
 go_wp2_with fail
 go_loopw [0, 4] (fun s0 s4 wr => AllI w n bs s0 s4 wr) (fun s0 s4 _ => match s0 with | .slice _ m _ => m | _ => 0)
 case atStart => exact ⟨a, n, cp, bs, [], rfl, ⟨hc1, hc2, Nat.le_refl _⟩, HI, Qh (Below.refl _ _), Qh (World.ownsRow_nil _ _ _ _), Qh (fun x hx => by cases hx), Qh (by simp), Qh (by simp)⟩
 case round =>
  obtain ⟨a', m, cp', rest, X, rfl, ⟨hm1, hm2, hm3⟩, HI1, HB, HO, HX, HALL, HMX⟩ := hrel
  generalize u4 = v at HO HX ⊢
  by_cases hm0 : 0 < m
  ·
   obtain ⟨b, off, rfl⟩ : ∃ b off, a' = some ⟨b, off, none⟩ := by
    rcases HI1.out.2.2 with h9 | ⟨b, off, h9, _⟩
    ·
     omega
    ·
     exact ⟨b, off, h9⟩
   have HIR := Qh (HI1.out.below HB.out)
   have HLR : Hid (rest.length = m) := Qh HI1.out.1
   have HDC := Qh (dec4_any wr (some ⟨b, off, none⟩) m cp' rest HIR.out (by omega) ⟨hm1, hm2⟩)
   go_wp2_with fail
   refine Calls.mono HDC.out ?_
   rintro e w1 ⟨hb, hr⟩
   have HVL : Hid (∀ k, v.ownBlock = some k → k < wr.heap.size) := Qh (fun k hk => (HO.out.lt k hk).2)
   replace HB := Qh (bl_next HB.out HB.out.size hb)
   replace HO := Qh (own_below HO.out hb)
   replace HX : Hid (∀ x ∈ X, FrAt w1 x.f x.dv x.rv ∧ FrAp v.ownBlock x.dv x.rv) := Qh (fun x hx => ⟨(HX.out x hx).1.below hb, (HX.out x hx).2⟩)
   clear hb HDC HIR
   rcases hr with ⟨hd, rfl⟩ | ⟨f, r, dv, rv, hd, hrl, rfl, hfr, hlo⟩
   ·
    have HN : Hid (allB bs = none) := Qh (by rw [HALL.out, allB_none hd (by rw [HLR.out]; exact hm0)]; rfl)
    clear hd
    obtain ⟨RF, hRF⟩ : ∃ R, (zeroF 0).cells (.slice none 0 0) (.slice none 0 0) = R := ⟨_, rfl⟩
    have HRF : Hid (RF.length = 19) := Qh (by rw [← hRF]; rfl)
    have HRO : Hid (∀ v ∈ RF, v.oneCell' = true) := Qh (by rw [← hRF]; exact one19 rfl rfl)
    rw [hRF]
    clear hRF
    go_wp2_with (first | (refine wpList_store_row rfl 39 _ _ rfl _ rfl RF ([.int .i64 0, .int .u64 0, .int .u64 0, .slice none 0 0, .bool false, .int .u64 0, .int .u64 0, .int .u64 0, .int .u64 0, .int .u64 0, .slice none 0 0, .int .u8 0, .int .u8 0, .int .u8 0, .int .u8 0, .int .u8 0, .int .u8 0, .int .u8 0, .int .u8 0] : List Value) rfl 39 (heap_alloc_new _ _) (by rw [HRF.out]; rfl) (by rw [HRF.out]; rfl) HRO.out ?_; intro w2 hr hg; have HG := Qh hg; clear hr hg) | fail)
    (try simp only [Exit.inBlock, Exit.then])
    go_ret2
    exact ⟨bl_next HB.out HB.out.size (((Below.refl w1.heap.size w1).alloc (Nat.le_refl _) (.cells ([.int .i64 0, .int .u64 0, .int .u64 0, .slice none 0 0, .bool false, .int .u64 0, .int .u64 0, .int .u64 0, .int .u64 0, .int .u64 0, .slice none 0 0, .int .u8 0, .int .u8 0, .int .u8 0, .int .u8 0, .int .u8 0, .int .u8 0, .int .u8 0, .int .u8 0] : List Value).toArray 39)).grown HG.out ((Below.refl w1.heap.size w1).alloc (Nat.le_refl _) (.cells ([.int .i64 0, .int .u64 0, .int .u64 0, .slice none 0 0, .bool false, .int .u64 0, .int .u64 0, .int .u64 0, .int .u64 0, .int .u64 0, .slice none 0 0, .int .u8 0, .int .u8 0, .int .u8 0, .int .u8 0, .int .u8 0, .int .u8 0, .int .u8 0, .int .u8 0] : List Value).toArray 39)).size (by intro k hk; injection hk with hk; omega)), .inl ⟨.inr HN.out, rfl⟩⟩
   ·
    have hrl2 := (dec_suf hd).2
    rw [HLR.out] at hrl2
    obtain ⟨k, hk⟩ : ∃ k : Nat, (rest.length : Int) - r.length = k ∧ k = m - r.length := ⟨m - r.length, by rw [HLR.out]; omega, rfl⟩
    rw [hk.1]
    have HKM : Hid (k ≤ m ∧ 1 ≤ k ∧ m - k = r.length) := Qh (by have := hk.2; omega)
    have hdr := dec_drop hd
    rw [HLR.out, ← hk.2] at hdr
    have HI2 : Hid (cp' = k → IntsK .u8 w (some ⟨b, off, none⟩) (m - k) r) := Qh (fun e => by have h9 := HI1.out.sufC k cp' HKM.out.1 hm1; rw [if_pos e] at h9; rw [← hdr]; exact h9)
    have HI3 : Hid (IntsK .u8 w (some ⟨b, off + k, none⟩) (m - k) r) := Qh (by rw [← hdr]; exact HI1.out.suf k HKM.out.1)
    have HN : Hid (allB bs = (allB r).map ((X ++ [(⟨f, dv, rv⟩ : FX)]).map FX.f ++ ·)) := Qh (by rw [HALL.out, allB_some hd, Option.map_map]; congr 1; funext t; simp)
    have HAP : Hid (FrAp v.ownBlock dv rv) := Qh (hlo.ap HVL.out)
    have HFR := Qh hfr
    have HOK := Qh hfr.ok
    clear hd hrl hrl2 hk hdr HALL hlo hfr HVL
    have HRF : Hid ((f.cells dv rv).length = 19) := Qh (Fr.len HFR.out.wf)
    have HRO : Hid (∀ v ∈ f.cells dv rv, v.oneCell' = true) := Qh (Fr.one HFR.out)
    obtain ⟨RF, hRF⟩ : ∃ R, f.cells dv rv = R := ⟨_, rfl⟩
    rw [hRF] at HRF HRO
    have HRE := Qh hRF
    rw [hRF]
    clear hRF
    go_upto_region 6 with (first | (refine wpList_store_row rfl 39 _ _ rfl _ rfl RF ([.int .i64 0, .int .u64 0, .int .u64 0, .slice none 0 0, .bool false, .int .u64 0, .int .u64 0, .int .u64 0, .int .u64 0, .int .u64 0, .slice none 0 0, .int .u8 0, .int .u8 0, .int .u8 0, .int .u8 0, .int .u8 0, .int .u8 0, .int .u8 0, .int .u8 0] : List Value) rfl 39 (heap_alloc_new _ _) (by rw [HRF.out]; rfl) (by rw [HRF.out]; rfl) HRO.out ?_; intro w2 hr hg) | fail)
    have hal := (Below.refl w1.heap.size w1).alloc (Nat.le_refl _) (.cells (([.int .i64 0, .int .u64 0, .int .u64 0, .slice none 0 0, .bool false, .int .u64 0, .int .u64 0, .int .u64 0, .int .u64 0, .int .u64 0, .slice none 0 0, .int .u8 0, .int .u8 0, .int .u8 0, .int .u8 0, .int .u8 0, .int .u8 0, .int .u8 0, .int .u8 0] : List Value)).toArray 39)
    have hb : Below w1.heap.size w1 w2 := hal.grown hg hal.size (by intro k hk; injection hk with hk; omega)
    replace HB := Qh (bl_next HB.out HB.out.size hb)
    replace HO := Qh (own_below HO.out hb)
    replace HFR := Qh (HFR.out.below hb)
    replace HX := Qh (fun x hx => (⟨(HX.out x hx).1.below hb, (HX.out x hx).2⟩ : FrAt _ x.f x.dv x.rv ∧ FrAp v.ownBlock x.dv x.rv))
    have HF := Qh (hr)
    clear hr hg hal hb
    obtain ⟨gf, hg⟩ : ∃ g, w1.heap.size = g := ⟨_, rfl⟩
    rw [hg] at HF ⊢
    clear hg
    have hal := (Below.refl w2.heap.size w2).alloc (Nat.le_refl _) (.cells (frK.flat [⟨f, dv, rv⟩]).toArray 39)
    have HOA : Hid ((w2.alloc (.cells (frK.flat [⟨f, dv, rv⟩]).toArray 39)).ownsRow w.heap.size 39 19 v X.length (frK.flat X)) := Qh (own_below HO.out hal)
    have HE9 := Qh (FrsAt.one HFR.out).row
    have HBA : Hid (w.heap.size ≤ (w2.alloc (.cells (frK.flat [⟨f, dv, rv⟩]).toArray 39)).heap.size) := Qh (Nat.le_trans HB.out.size hal.size)
    have hnx : X.length + 1 ≤ 1000000 := by have := HMX.out; omega
    obtain ⟨va, vc, rfl, hvc⟩ := sl_own HO.out
    have hkm := HKM.out.1
    go_wp2_with (first | (refine wpList_load_mid rfl 39 _ rfl gf 0 rfl RF _ (rngL HF.out) Try.underlying39 rfl (by rw [HRF.out]; rfl) ?_) | (refine wpList_build_rk frT rfl _ rfl ⟨f, dv, rv⟩ HOK.out (by show _ = Value.agg (f.cells dv rv).toArray; rw [HRE.out]; rfl) ?_) | (at_builtin; refine wpList_append_rk frT rfl _ _ rfl w.heap.size X.length _ X rfl HOA.out (some ⟨w2.heap.size, 0, none⟩) 1 1 [⟨f, dv, rv⟩] rfl HE9.out hnx HBA.out ?_; intro v' w3 ho hg hor; have HO3 := Qh ho; have HG3 := Qh hg; have HOR := Qh hor; clear ho hg hor) | fail)
    all_goals skip
    all_goals
     have HX3 : Hid (∀ x ∈ X ++ [(⟨f, dv, rv⟩ : FX)], FrAt w3 x.f x.dv x.rv ∧ FrAp v'.ownBlock x.dv x.rv) := Qh (fun x hx => by
      have hboth : FrAt (w2.alloc (.cells (frK.flat [⟨f, dv, rv⟩]).toArray 39)) x.f x.dv x.rv ∧ FrAp (Value.slice va X.length vc).ownBlock x.dv x.rv := by
       rcases List.mem_append.1 hx with h9 | h9
       ·
        exact ⟨(HX.out x h9).1.below hal, (HX.out x h9).2⟩
       ·
        rw [List.mem_singleton.1 h9]; exact ⟨HFR.out.below hal, HAP.out⟩
      refine ⟨hboth.1.grown HG3.out hboth.2, ?_⟩
      rcases HOR.out with h9 | h9
      ·
       rw [h9]; exact hboth.2
      ·
       rw [h9]; exact hboth.1.apart (Nat.le_refl _))
     have HB3 : Hid (Below w.heap.size w w3) := Qh ((bl_next HB.out HB.out.size hal).grown HG3.out HBA.out (own_base HOA.out))
     have HO4 : Hid (w3.ownsRow w.heap.size 39 19 v' (X ++ [(⟨f, dv, rv⟩ : FX)]).length (frK.flat (X ++ [⟨f, dv, rv⟩]))) := Qh (by rw [List.length_append]; exact HO3.out)
     clear hal HO HX HFR HF HOA HE9 HBA HG3 HOR HO3 HB
     go_roundw
     case rel => refine ⟨_, _, _, _, ?_, rfl, rfl, rfl, rfl⟩; exact ⟨_, m - k, _, r, X ++ [⟨f, dv, rv⟩], rfl, ⟨by have := HKM.out; omega, by omega, by have := HKM.out; omega⟩, Qh (by first | exact HI3.out | exact HI2.out (by first | assumption | rfl | (symm; assumption))), HB3, HO4, HX3, HN, Qh (by have := HKM.out; have := HMX.out; rw [List.length_append, List.length_singleton]; omega)⟩
     case measure => have := HKM.out; simp; omega
  ·
   obtain rfl : m = 0 := by omega
   have hre : rest = [] := List.eq_nil_of_length_eq_zero HI1.out.1
   have HN : Hid (allB bs = some (X.map FX.f)) := Qh (by rw [HALL.out, hre, allB_nil]; simp)
   clear hre HALL
   obtain ⟨va, vc, rfl, hv1, hv2⟩ := sl_own HO.out
   have HAT := Qh (RK.At.of_own (K := frK) HO.out (fun x hx => (HX.out x hx).1.ok))
   go_wp2_with fail
   (try simp only [Exit.inBlock, Exit.then])
   go_ret2
   exact ⟨HB.out, .inr ⟨HE.out, X, va, vc, HN.out, rfl, ⟨hv1, hv2⟩, HAT.out, fun x hx => (HX.out x hx).1⟩⟩
end Go.Proofs.Ytmbjepcbokbemaa
namespace Go.Proofs.Ytmbjepcbokbemaa
open Go.RowKit
def toU (n : Int) : UInt8 := UInt8.ofNat n.toNat
theorem cell_toU {n : Int} (h : (Lit.int .u8 n).wf = true) : Extern.Stop.cell (toU n) = .int .u8 n := by
 have hb := bounds_u8 h
 have e : (toU n).toNat = n.toNat := by
  unfold toU; rw [UInt8.toNat_ofNat']; exact Nat.mod_eq_of_lt (by omega)
 unfold Extern.Stop.cell
 rw [e]; exact congrArg _ (Int.toNat_of_nonneg hb.1)
theorem map_toU {xs : List Int} (h : ∀ x ∈ xs, (Lit.int .u8 x).wf = true) : (xs.map toU).map Extern.Stop.cell = xs.map (Value.int .u8) := by
 rw [List.map_map]
 exact List.map_congr_left fun x hx => cell_toU (h x hx)
theorem toU_inj : ∀ {xs ys : List Int}, (∀ x ∈ xs, (Lit.int .u8 x).wf = true) → (∀ x ∈ ys, (Lit.int .u8 x).wf = true) → (xs.map toU == ys.map toU) = (xs == ys) := by
 intro xs ys hx hy
 rw [Bool.eq_iff_iff, beq_iff_eq, beq_iff_eq]
 constructor
 ·
  intro h
  have h1 := congrArg (List.map Extern.Stop.cell) h
  rw [map_toU hx, map_toU hy] at h1
  exact List.map_inj_right (f := Value.int .u8) (by intro a b hab; injection hab) |>.1 h1
 ·
  intro h; rw [h]
theorem sizeU8 (w : World) : (sizeOf 5).run Try.prog w = .ok 1 w := by kernel_rfl
theorem eql_bytes (w : World) (t n : Nat) (ht : Try.prog.underlying t = some (.array n 5)) (xs ys : List Int) (hx : xs.length = n) (hy : ys.length = n)
  (wx : ∀ x ∈ xs, (Lit.int .u8 x).wf = true) (wy : ∀ x ∈ ys, (Lit.int .u8 x).wf = true) :
  (binOp .eql t (.agg (xs.map (Value.int .u8)).toArray) (.agg (ys.map (Value.int .u8)).toArray)).run Try.prog w = .ok (.bool (xs == ys)) w := by
 have h := run_eql_bytes (P := Try.prog) w t 5 n ht Try.underlying5 sizeU8 (xs.map toU) (ys.map toU) (by simp [hx]) (by simp [hy])
 rw [map_toU wx, map_toU wy, toU_inj wx wy] at h
 exact h
end Go.Proofs.Ytmbjepcbokbemaa
