/- texts of the proof, laid together: Keep3, Cid10, Cid11, Cid12. -/
import Derived.Test.YtjdcmhclamjcjaaV3
namespace Go.Proofs.Ytjdcmhclamjcjaa
open Go.RowKit
set_option linter.unusedVariables false
set_option linter.unusedSimpArgs false

set_option maxRecDepth 100000 in
theorem kkinds_any (w : World) : Calls Try.prog 31 #[] w fun e w' => e = .returned (.slice (some ⟨w.heap.size, 0, none⟩) 17 17) ∧ w' = w.alloc (.cells ([.int .i64 0, .int .i64 1, .int .i64 2, .int .i64 4, .int .i64 5, .int .i64 6, .int .i64 8, .int .i64 16, .int .i64 17, .int .i64 18, .int .i64 20, .int .i64 24, .int .i64 25, .int .i64 26, .int .i64 27, .int .i64 28, .int .i64 30] : List Value).toArray 3) := by
  go_enter Try.func31, Try.ntmps31
  go_wp2_with fail
  go_ret
  exact ⟨rfl, rfl⟩
theorem kind_at {i : Nat} (h : i < 17) : ∃ k : Int, ([.int .i64 0, .int .i64 1, .int .i64 2, .int .i64 4, .int .i64 5, .int .i64 6, .int .i64 8, .int .i64 16, .int .i64 17, .int .i64 18, .int .i64 20, .int .i64 24, .int .i64 25, .int .i64 26, .int .i64 27, .int .i64 28, .int .i64 30] : List Value)[i]? = some (.int .i64 k) ∧ (k = 0 ∨ k = 1 ∨ k = 30 ∨ k = 2 ∨ k = 4 ∨ k = 5 ∨ k = 6 ∨ k = 8 ∨ k = 16 ∨ k = 17 ∨ k = 18 ∨ k = 20 ∨ k = 24 ∨ k = 25 ∨ k = 26 ∨ k = 27 ∨ k = 28) := by
  rcases (by omega : i = 0 ∨ i = 1 ∨ i = 2 ∨ i = 3 ∨ i = 4 ∨ i = 5 ∨ i = 6 ∨ i = 7 ∨ i = 8 ∨ i = 9 ∨ i = 10 ∨ i = 11 ∨ i = 12 ∨ i = 13 ∨ i = 14 ∨ i = 15 ∨ i = 16) with rfl | rfl | rfl | rfl | rfl | rfl | rfl | rfl | rfl | rfl | rfl | rfl | rfl | rfl | rfl | rfl | rfl
  · exact ⟨0, rfl, by decide⟩
  · exact ⟨1, rfl, by decide⟩
  · exact ⟨2, rfl, by decide⟩
  · exact ⟨4, rfl, by decide⟩
  · exact ⟨5, rfl, by decide⟩
  · exact ⟨6, rfl, by decide⟩
  · exact ⟨8, rfl, by decide⟩
  · exact ⟨16, rfl, by decide⟩
  · exact ⟨17, rfl, by decide⟩
  · exact ⟨18, rfl, by decide⟩
  · exact ⟨20, rfl, by decide⟩
  · exact ⟨24, rfl, by decide⟩
  · exact ⟨25, rfl, by decide⟩
  · exact ⟨26, rfl, by decide⟩
  · exact ⟨27, rfl, by decide⟩
  · exact ⟨28, rfl, by decide⟩
  · exact ⟨30, rfl, by decide⟩
theorem one19 {k s1 s2 s3 s4 s5 s6 s7 c0 c1 c2 c3 c4 c5 c6 c7 : Int} {dv rv : Value} {b : Bool} (hd : dv.oneCell' = true) (hr : rv.oneCell' = true) :
    ∀ v ∈ ([.int .i64 k, .int .u64 s1, .int .u64 s2, dv, .bool b, .int .u64 s3, .int .u64 s4, .int .u64 s5, .int .u64 s6, .int .u64 s7, rv, .int .u8 c0, .int .u8 c1, .int .u8 c2, .int .u8 c3, .int .u8 c4, .int .u8 c5, .int .u8 c6, .int .u8 c7] : List Value), v.oneCell' = true := by
  intro v hv
  simp only [List.mem_cons, List.not_mem_nil, or_false] at hv
  rcases hv with rfl | rfl | rfl | rfl | rfl | rfl | rfl | rfl | rfl | rfl | rfl | rfl | rfl | rfl | rfl | rfl | rfl | rfl | rfl <;> first | rfl | assumption
theorem Fr.one {f : Fr} {dv rv : Value} {w : World} (h : FrAt w f dv rv) : ∀ v ∈ f.cells dv rv, v.oneCell' = true := by
  obtain ⟨a, n, c, rfl, _⟩ := h.d
  obtain ⟨a', n', c', rfl, _⟩ := h.r
  intro v hv
  rcases List.mem_append.1 hv with hv | hv
  · simp only [List.mem_cons, List.not_mem_nil, or_false] at hv
    rcases hv with rfl | rfl | rfl | rfl | rfl | rfl | rfl | rfl | rfl | rfl | rfl <;> rfl
  · obtain ⟨x, _, rfl⟩ := List.mem_map.1 hv; rfl
theorem Fr.len {f : Fr} {dv rv : Value} (h : f.Wf) : (f.cells dv rv).length = 19 := by
  simp [Fr.cells, h.cidl]
set_option maxRecDepth 100000 in
set_option maxHeartbeats 8000000 in
theorem kframe_any (w : World) (xk xa xb xc xn : Int) (xf : Bool) (da ra : Option Addr) (dn dc rn rc : Nat) (data rows : List Int) (hD : IntsK .u8 w da dn data) (hdc : dn ≤ dc) (hdm : dc ≤ 9223372036854775807) (hR : IntsK .u64 w ra rn rows) (hrn : rn ≤ 9223372036854775807)
    (hxk : -9223372036854775808 ≤ xk ∧ xk ≤ 9223372036854775807) (hxa : U64 xa) (hxb : U64 xb) (hxc : U64 xc) (hn : -9223372036854775808 ≤ xn ∧ xn ≤ 9223372036854775807) :
    Calls Try.prog 15 #[.agg ([.int .i64 xk, .int .u64 xa, .int .u64 xb, .int .u64 xc, .slice da dn dc, .bool xf, .slice ra rn rc, .int .i64 xn] : List Value).toArray] w fun e w' => ∃ f dv rv, e = .returned (.agg (f.cells dv rv).toArray) ∧ FrAt w' f dv rv ∧ rightB f = true ∧ Below w.heap.size w w' := by
  have HD := Lib.hid hD; have HR := Lib.hid hR; have HD0 := Lib.hid hD
  have HB := Lib.hid (Below.refl w.heap.size w)
  have hwi := within_in xk 0 1048576 (by omega)
  have HWI := Lib.hid (fun W => within_any W xk 0 1048576 (by omega) (by omega) (by omega) hxk)
  obtain ⟨q, hq⟩ : ∃ q : Nat, within xk 0 1048576 = q := ⟨(within xk 0 1048576).toNat, by omega⟩
  rw [hq] at HWI
  clear hD hR hq hwi
  go_enter Try.func15, Try.ntmps15
  go_upto_region 1 with fail
  change Code.wp _ _ _ _ ((w.alloc (.cells ([.int .i64 xk, .int .u64 xa, .int .u64 xb, .int .u64 xc, .slice da dn dc, .bool xf, .slice ra rn rc, .int .i64 xn] : List Value).toArray 28)).alloc (.cells ([.int .i64 0, .int .u64 0, .int .u64 0, .slice none 0 0, .bool false, .int .u64 0, .int .u64 0, .int .u64 0, .int .u64 0, .int .u64 0, .slice none 0 0, .int .u8 0, .int .u8 0, .int .u8 0, .int .u8 0, .int .u8 0, .int .u8 0, .int .u8 0, .int .u8 0] : List Value).toArray 53))
  obtain ⟨gx, hg0⟩ : ∃ g, w.heap.size = g := ⟨_, rfl⟩
  try rw [hg0]
  have hb := (Below.refl w.heap.size w).alloc (Nat.le_refl _) (.cells ([.int .i64 xk, .int .u64 xa, .int .u64 xb, .int .u64 xc, .slice da dn dc, .bool xf, .slice ra rn rc, .int .i64 xn] : List Value).toArray 28)
  have hrw := heap_alloc_new w (.cells ([.int .i64 xk, .int .u64 xa, .int .u64 xb, .int .u64 xc, .slice da dn dc, .bool xf, .slice ra rn rc, .int .i64 xn] : List Value).toArray 28)
  have hsz : (w.alloc (.cells ([.int .i64 xk, .int .u64 xa, .int .u64 xb, .int .u64 xc, .slice da dn dc, .bool xf, .slice ra rn rc, .int .i64 xn] : List Value).toArray 28)).heap.size = gx + 1 := by simp [hg0]
  rw [hg0] at hrw
  replace HB := Lib.hid (bl_next HB.out HB.out.size hb)
  replace HD := Lib.hid (HD.out.below hb)
  replace HR := Lib.hid (HR.out.below hb)
  have HX := Lib.hid hrw
  clear hb hrw
  generalize w.alloc (.cells ([.int .i64 xk, .int .u64 xa, .int .u64 xb, .int .u64 xc, .slice da dn dc, .bool xf, .slice ra rn rc, .int .i64 xn] : List Value).toArray 28) = w1 at HB HD HR HX hsz ⊢
  have hg1 := hsz
  clear hsz
  have HGX := Lib.hid hg0
  clear hg0
  have hb := (Below.refl w1.heap.size w1).alloc (Nat.le_refl _) (.cells ([.int .i64 0, .int .u64 0, .int .u64 0, .slice none 0 0, .bool false, .int .u64 0, .int .u64 0, .int .u64 0, .int .u64 0, .int .u64 0, .slice none 0 0, .int .u8 0, .int .u8 0, .int .u8 0, .int .u8 0, .int .u8 0, .int .u8 0, .int .u8 0, .int .u8 0] : List Value).toArray 53)
  have hrw := heap_alloc_new w1 (.cells ([.int .i64 0, .int .u64 0, .int .u64 0, .slice none 0 0, .bool false, .int .u64 0, .int .u64 0, .int .u64 0, .int .u64 0, .int .u64 0, .slice none 0 0, .int .u8 0, .int .u8 0, .int .u8 0, .int .u8 0, .int .u8 0, .int .u8 0, .int .u8 0, .int .u8 0] : List Value).toArray 53)
  have hsz : (w1.alloc (.cells ([.int .i64 0, .int .u64 0, .int .u64 0, .slice none 0 0, .bool false, .int .u64 0, .int .u64 0, .int .u64 0, .int .u64 0, .int .u64 0, .slice none 0 0, .int .u8 0, .int .u8 0, .int .u8 0, .int .u8 0, .int .u8 0, .int .u8 0, .int .u8 0, .int .u8 0] : List Value).toArray 53)).heap.size = gx + 1 + 1 := by simp [hg1]
  rw [hg1] at hrw
  replace HB := Lib.hid (bl_next HB.out HB.out.size hb)
  replace HD := Lib.hid (HD.out.below hb)
  replace HR := Lib.hid (HR.out.below hb)
  replace HX := Lib.hid (bl_row hb (lt_of_block HX.out) HX.out)
  have HZ := Lib.hid hrw
  clear hb hrw
  generalize w1.alloc (.cells ([.int .i64 0, .int .u64 0, .int .u64 0, .slice none 0 0, .bool false, .int .u64 0, .int .u64 0, .int .u64 0, .int .u64 0, .int .u64 0, .slice none 0 0, .int .u8 0, .int .u8 0, .int .u8 0, .int .u8 0, .int .u8 0, .int .u8 0, .int .u8 0, .int .u8 0] : List Value).toArray 53) = w2 at HB HD HR HX HZ hsz ⊢
  have hg2 := hsz
  clear hsz
  clear hg1
  obtain ⟨gz, hgg⟩ : ∃ g, gx + 1 = g := ⟨_, rfl⟩
  rw [hgg] at HZ hg2 ⊢
  have HLTgz : Hid (gx < gz) := Lib.hid (by omega)
  clear hgg
  clear hg2
  go_wp2_with fail
  refine Calls.mono (kkinds_any _) ?_
  rintro e wq ⟨rfl, rfl⟩
  have hb := (Below.refl w2.heap.size w2).alloc (Nat.le_refl _) (.cells ([.int .i64 0, .int .i64 1, .int .i64 2, .int .i64 4, .int .i64 5, .int .i64 6, .int .i64 8, .int .i64 16, .int .i64 17, .int .i64 18, .int .i64 20, .int .i64 24, .int .i64 25, .int .i64 26, .int .i64 27, .int .i64 28, .int .i64 30] : List Value).toArray 3)
  replace HB := Lib.hid (bl_next HB.out HB.out.size hb)
  replace HD := Lib.hid (HD.out.below hb)
  replace HR := Lib.hid (HR.out.below hb)
  replace HX := Lib.hid (bl_row hb (lt_of_block HX.out) HX.out)
  replace HZ := Lib.hid (bl_row hb (lt_of_block HZ.out) HZ.out)
  have HKK := Lib.hid (heap_alloc_new w2 (.cells ([.int .i64 0, .int .i64 1, .int .i64 2, .int .i64 4, .int .i64 5, .int .i64 6, .int .i64 8, .int .i64 16, .int .i64 17, .int .i64 18, .int .i64 20, .int .i64 24, .int .i64 25, .int .i64 26, .int .i64 27, .int .i64 28, .int .i64 30] : List Value).toArray 3))
  clear hb
  generalize w2.alloc (.cells ([.int .i64 0, .int .i64 1, .int .i64 2, .int .i64 4, .int .i64 5, .int .i64 6, .int .i64 8, .int .i64 16, .int .i64 17, .int .i64 18, .int .i64 20, .int .i64 24, .int .i64 25, .int .i64 26, .int .i64 27, .int .i64 28, .int .i64 30] : List Value).toArray 3) = w3 at HB HD HR HX HZ HKK ⊢
  obtain ⟨gk, hg⟩ : ∃ g, w2.heap.size = g := ⟨_, rfl⟩
  rw [hg] at HKK ⊢
  clear hg
  have hi17 : q % 17 < 17 := by omega
  obtain ⟨k, hck, hk⟩ := kind_at hi17
  have HCK := Lib.hid (fun (W : World) (h : W.heap[gk]? = some (.cells ([.int .i64 0, .int .i64 1, .int .i64 2, .int .i64 4, .int .i64 5, .int .i64 6, .int .i64 8, .int .i64 16, .int .i64 17, .int .i64 18, .int .i64 20, .int .i64 24, .int .i64 25, .int .i64 26, .int .i64 27, .int .i64 28, .int .i64 30] : List Value).toArray 3 (0, 0))) => cell_row h (q % 17) _ hck)
  clear hck
  have x0 := row_cell HX.out 0 _ rfl
  go_wp2_with fail
  clear x0
  refine Calls.mono (HWI.out _) ?_
  rintro e wq ⟨rfl, rfl⟩
  have ck := HCK.out _ HKK.out
  go_upto_region 3 with (first | (refine wpList_store_row rfl 53 _ _ rfl w3.heap.size rfl [.int .i64 k, .int .u64 0, .int .u64 0, .slice none 0 0, .bool false, .int .u64 0, .int .u64 0, .int .u64 0, .int .u64 0, .int .u64 0, .slice none 0 0, .int .u8 0, .int .u8 0, .int .u8 0, .int .u8 0, .int .u8 0, .int .u8 0, .int .u8 0, .int .u8 0] [.int .i64 0, .int .u64 0, .int .u64 0, .slice none 0 0, .bool false, .int .u64 0, .int .u64 0, .int .u64 0, .int .u64 0, .int .u64 0, .slice none 0 0, .int .u8 0, .int .u8 0, .int .u8 0, .int .u8 0, .int .u8 0, .int .u8 0, .int .u8 0, .int .u8 0] rfl 53 (heap_alloc_new _ _) rfl rfl (one19 rfl rfl) ?_; intro w4 hr hg) | fail)
  have hal := (Below.refl w3.heap.size w3).alloc (Nat.le_refl _) (.cells ([.int .i64 0, .int .u64 0, .int .u64 0, .slice none 0 0, .bool false, .int .u64 0, .int .u64 0, .int .u64 0, .int .u64 0, .int .u64 0, .slice none 0 0, .int .u8 0, .int .u8 0, .int .u8 0, .int .u8 0, .int .u8 0, .int .u8 0, .int .u8 0, .int .u8 0] : List Value).toArray 53)
  have hb : Below w3.heap.size w3 w4 := hal.grown hg hal.size (by intro k hk; injection hk with hk; omega)
  have HB4 := Lib.hid hb; have HG := Lib.hid hr
  obtain ⟨g, hgg⟩ : ∃ g, w3.heap.size = g := ⟨_, rfl⟩
  rw [hgg] at HG ⊢
  have HGG := Lib.hid hgg
  clear hr hg hal hb hgg ck
  try simp only [Act.put]
  have HX4 := Lib.hid (bl_row HB4.out (lt_of_block HX.out) HX.out)
  have g1 : ∀ z : In (fun y => Below w4.heap.size w4 y), z.w.cell? ⟨gx, 1, none⟩ = some (.int .u64 xa) := fun z => row_cell (bl_row z.h (lt_of_block HX4.out) HX4.out) 1 _ rfl
  have g2 : ∀ z : In (fun y => Below w4.heap.size w4 y), z.w.cell? ⟨gx, 2, none⟩ = some (.int .u64 xb) := fun z => row_cell (bl_row z.h (lt_of_block HX4.out) HX4.out) 2 _ rfl
  have g3 : ∀ z : In (fun y => Below w4.heap.size w4 y), z.w.cell? ⟨gx, 3, none⟩ = some (.int .u64 xc) := fun z => row_cell (bl_row z.h (lt_of_block HX4.out) HX4.out) 3 _ rfl
  refine wp_plan (.t 0 (.t 1 (.t 3 (.t 4 (.t 6 (.t 7 (.u 2 (.u 5 (.u 8 (.t 9 (.t 10 (.t 11 .done)))))))))))) (fun y => Below w4.heap.size w4 y) (by kernel_rfl) (by kernel_rfl) (by kernel_rfl) (fun c a d v w h => by cases d <;> exact h) (Below.refl _ _).drew ?_
  have hS : Below w4.heap.size w4 w4.drew := (Below.refl _ _).drew
  generalize w4.drew = w5 at hS ⊢
  haveI hne : Nonempty (In (fun y => Below w4.heap.size w4 y)) := ⟨⟨w4, Below.refl _ _⟩⟩
  repeat (refine plan_t (by rfl) ?_; (first | go_big_quiet_skip | (go_big_quiet_want; go_big_quiet_op; go_big_quiet_on)); refine wpQuiet_nil ?_)
  clear g1 g2 g3
  refine plan_us (by rfl) (by kernel_rfl) ?_
  intro K hK
  go_wp2_with fail
  refine Calls.mono (small_any _ xa hxa) ?_
  rintro e w6 ⟨rfl, hb⟩
  replace hS := bl_next hS hS.size hb
  clear hb
  go_wp2_with fail
  refine ⟨hS, ?_⟩
  repeat (refine plan_t (by rfl) ?_; (first | go_big_quiet_skip | (go_big_quiet_want; go_big_quiet_op; go_big_quiet_on)); refine wpQuiet_nil ?_)
  refine plan_us (by rfl) (by kernel_rfl) ?_
  intro K hK
  go_wp2_with fail
  refine Calls.mono (small_any _ xb hxb) ?_
  rintro e w7 ⟨rfl, hb⟩
  replace hS := bl_next hS hS.size hb
  clear hb
  go_wp2_with fail
  refine ⟨hS, ?_⟩
  repeat (refine plan_t (by rfl) ?_; (first | go_big_quiet_skip | (go_big_quiet_want; go_big_quiet_op; go_big_quiet_on)); refine wpQuiet_nil ?_)
  refine plan_us (by rfl) (by kernel_rfl) ?_
  intro K hK
  go_wp2_with fail
  refine Calls.mono (small_any _ xc hxc) ?_
  rintro e w8 ⟨rfl, hb⟩
  replace hS := bl_next hS hS.size hb
  clear hb
  go_wp2_with fail
  refine ⟨hS, ?_⟩
  repeat (refine plan_t (by rfl) ?_; (first | go_big_quiet_skip | (go_big_quiet_want; go_big_quiet_op; go_big_quiet_on)); refine wpQuiet_nil ?_)
  clear hne
  show Exit.then _ _ _ _ _
  have HS := Lib.hid hS
  have HB8 := Lib.hid (bl_next HB4.out HB4.out.size hS)
  have HG8 := Lib.hid (bl_row hS (lt_of_block HG.out) HG.out)
  clear hS HX4
  have c0 := row_cell HG8.out 0 _ rfl
  go_upto_block 0 with fail
  clear c0
  have hsa := smallM_in xa; have hsb := smallM_in xb; have hsc := smallM_in xc
  refine kframe_sw _ HB8 HG8 HX (by rw [HGG.out]; exact Nat.le_refl _) (lt_of_block HZ.out) HD hdc hdm HR hrn hsa hsb hsc hn hk (fun c a d v w h => by cases d <;> exact h) ?_
  rintro _ _ _ _ _ _ _ _ _ _ _ _ _ _ _ _ _ _ _ _ _ _ _ _ _ _ _ _ _ _ _ _ _ _ _ _ _ _ _ _ _ _ _ _ _ _ _ _ _ _ _ _ _ _ _ _ _ _ _ _ _ _ _ _ _ _ _ _ _ _ _ _ _ _ _ _ _ _ _ _ _ _ _ _ _ _ _ _ _ _ _ _ _ _ _ _ _ _ _ _ f dv rv w9 HF hkd hrt HG9 HB9
  have HZ9 := Lib.hid (bl_row HB9.out (lt_of_block HZ.out) HZ.out)
  have HL := Lib.hid (Fr.len (dv := dv) (rv := rv) (HF.out w9 (grown_refl _ _) (HD.out.below HB9.out)).wf)
  have HO := Lib.hid (Fr.one (HF.out w9 (grown_refl _ _) (HD.out.below HB9.out)))
  obtain ⟨R, hR⟩ : ∃ R, f.cells dv rv = R := ⟨_, rfl⟩
  have HRR := Lib.hid hR
  rw [hR] at HG9 HL HO
  clear hR
  have hzg : w.heap.size ≤ gz := by have := HGX.out; have := HLTgz.out; omega
  have HBZ := Lib.hid (bl_next HB.out HB.out.size HB9.out)
  have HZL := Lib.hid (lt_of_block HZ.out)
  go_wp2_with (first | (refine wpList_load_mid rfl 53 _ rfl g 0 rfl R _ (rngL HG9.out) Try.underlying53 rfl (by rw [HL.out]; rfl) ?_) | (refine wpList_store_row rfl 53 _ _ rfl gz rfl R [.int .i64 0, .int .u64 0, .int .u64 0, .slice none 0 0, .bool false, .int .u64 0, .int .u64 0, .int .u64 0, .int .u64 0, .int .u64 0, .slice none 0 0, .int .u8 0, .int .u8 0, .int .u8 0, .int .u8 0, .int .u8 0, .int .u8 0, .int .u8 0, .int .u8 0] rfl 53 HZ9.out (by rw [HL.out]; rfl) (by rw [HL.out]; rfl) HO.out ?_; intro w10 hz hgz; have HZ10 := Lib.hid hz; have HGZ := Lib.hid hgz; clear hz hgz) | fail)
  refine bodyPost_ret (results_cell1 rfl _ _ gz rfl R _ _ HZ10.out Try.underlying53 rfl (by rw [HL.out]; rfl)) rfl ?_
  have hbz : Below w.heap.size w w10 := HBZ.out.grown HGZ.out HBZ.out.size (by intro k hk; injection hk with hk; omega)
  exact ⟨f, dv, rv, by rw [HRR.out], HF.out _ HGZ.out (HD0.out.below hbz), hrt, hbz⟩
end Go.Proofs.Ytjdcmhclamjcjaa
namespace Go.Proofs.Ytjdcmhclamjcjaa
open Go.RowKit
set_option linter.unusedVariables false
set_option linter.unusedSimpArgs false

open Go.Maps (Keyed)
set_option maxRecDepth 100000 in
set_option maxHeartbeats 4000000 in
theorem put_maps {x1 x2 x4 x5 x6 x7 x8 x9 x10 x11 x12 x13 x14 x15 x16 x17 x18 x19 x20 x21 x22 x23 x24 x25 x26 x27 x28 x29 x30 x31 x32 x33 x34 x35 x36 x37 x38 x39 x40 x41 x42 x43 x44 x45 x46 x47 x48 x49 x50 x51 x52 x53 x54 x55 x56 x57 x58 x59 x60 x61 x62 x63 x64 x65 x66 : Value} {p gx N lc rc bn bs bg : Nat} {B : List Nat} {S : Th} {la ra : Option Addr} {x : Nm} {RX : List Value} (w : World) {Q : Exit → Act → World → Prop}
    (HT : Hid (ThAt w p B N S la ra lc rc bn bs bg)) (HX : Hid (w.heap[gx]? = some (.cells RX.toArray 65 (0, 0)))) (HRX : Hid (nmK.enc x = RX)) (hx : nmK.ok x) (hn1 : ∀ y ∈ S.came, y.1 ≠ x.1) (hn2 : ∀ y ∈ S.came, y.2 ≠ x.2)
    (hQp : ∀ c a d v w, Q (.panic c) (a.put d v) w → Q (.panic c) a w)
    (hQ : ∀ (y47 y48 y49 y50 y51 y52 y53 y54 y55 y56 y57 y58 y59 y60 y61 y62 y63 y64 y65 y66 : Value) (w' : World), Hid (UpdO B w w' B) → Hid (ThAt w' p B N ⟨S.L, S.came ++ [x], S.due, S.was, S.now⟩ la ra lc rc bn bs bg) → Q .normal ⟨List.toArray (.pointer (some ⟨p, 0, none⟩) :: x1 :: x2 :: .pointer (some ⟨gx, 0, none⟩) :: x4 :: x5 :: x6 :: x7 :: x8 :: x9 :: x10 :: x11 :: x12 :: x13 :: x14 :: x15 :: x16 :: x17 :: x18 :: x19 :: x20 :: x21 :: x22 :: x23 :: x24 :: x25 :: x26 :: x27 :: x28 :: x29 :: x30 :: x31 :: x32 :: x33 :: x34 :: x35 :: x36 :: x37 :: x38 :: x39 :: x40 :: x41 :: x42 :: x43 :: x44 :: x45 :: x46 :: y47 :: y48 :: y49 :: y50 :: y51 :: y52 :: y53 :: y54 :: y55 :: y56 :: y57 :: y58 :: y59 :: y60 :: y61 :: y62 :: y63 :: y64 :: y65 :: y66 :: []), []⟩ w') :
    Code.wp Try.prog (((Try.f36.body.bind (subRegion 5)).getD .skip)) Q ⟨List.toArray (.pointer (some ⟨p, 0, none⟩) :: x1 :: x2 :: .pointer (some ⟨gx, 0, none⟩) :: x4 :: x5 :: x6 :: x7 :: x8 :: x9 :: x10 :: x11 :: x12 :: x13 :: x14 :: x15 :: x16 :: x17 :: x18 :: x19 :: x20 :: x21 :: x22 :: x23 :: x24 :: x25 :: x26 :: x27 :: x28 :: x29 :: x30 :: x31 :: x32 :: x33 :: x34 :: x35 :: x36 :: x37 :: x38 :: x39 :: x40 :: x41 :: x42 :: x43 :: x44 :: x45 :: x46 :: x47 :: x48 :: x49 :: x50 :: x51 :: x52 :: x53 :: x54 :: x55 :: x56 :: x57 :: x58 :: x59 :: x60 :: x61 :: x62 :: x63 :: x64 :: x65 :: x66 :: []), []⟩ w := by
  have HK := Lib.hid hQ; have HKP := Lib.hid hQp
  clear hQ hQp
  conv => arg 2; whnf
  have HXO := Lib.hid hx; have HN1 := Lib.hid hn1; have HN2 := Lib.hid hn2
  have hxs := hx.1
  clear hx hn1 hn2
  have HROW := Lib.hid HT.out.row
  obtain ⟨kl, hkl⟩ := key_cid HXO.out.2
  have HKL := Lib.hid hkl
  clear hkl
  have hcl : (x.2.map (Value.int .u8)).length = 8 := by simp [HXO.out.2.1]
  obtain ⟨CX, hCX⟩ : ∃ C, x.2.map (Value.int .u8) = C := ⟨_, rfl⟩
  have HCX := Lib.hid hCX
  rw [hCX] at hcl
  have HCXL := Lib.hid hcl
  clear hcl hCX
  have g1 : ∀ z : In (fun y => y.heap[p]? = some (.cells (thRow (.slice la S.L.length lc) bn bs S.now bg (.slice ra S.due.length rc)).toArray THT (0, 0)) ∧ y.heap[gx]? = some (.cells RX.toArray 65 (0, 0))), z.w.cell? ⟨p, 1, none⟩ = some (.map (some bn)) := fun z => cell_row z.h.1 1 _ (thRow_n ..)
  have g2 : ∀ z : In (fun y => y.heap[p]? = some (.cells (thRow (.slice la S.L.length lc) bn bs S.now bg (.slice ra S.due.length rc)).toArray THT (0, 0)) ∧ y.heap[gx]? = some (.cells RX.toArray 65 (0, 0))), z.w.cell? ⟨p, 2, none⟩ = some (.map (some bs)) := fun z => cell_row z.h.1 2 _ (thRow_s ..)
  have g3 : ∀ z : In (fun y => y.heap[p]? = some (.cells (thRow (.slice la S.L.length lc) bn bs S.now bg (.slice ra S.due.length rc)).toArray THT (0, 0)) ∧ y.heap[gx]? = some (.cells RX.toArray 65 (0, 0))), z.w.cell? ⟨gx, 0, none⟩ = some (.int .u64 x.1) := fun z => cell_row z.h.2 0 _ (nm_head HRX.out)
  refine wp_plan (.t 0 (.t 1 (.t 2 (.t 3 (.t 4 (.t 5 (.t 6 (.t 7 (.t 8 (.t 9 (.t 10 (.t 11 (.t 12 (.t 13 (.t 14 (.t 15 (.u 16 (.t 17 (.u 18 (.u 19 (.t 20 (.u 21 .done)))))))))))))))))))))) (fun y => y.heap[p]? = some (.cells (thRow (.slice la S.L.length lc) bn bs S.now bg (.slice ra S.due.length rc)).toArray THT (0, 0)) ∧ y.heap[gx]? = some (.cells RX.toArray 65 (0, 0))) (by kernel_rfl) (by kernel_rfl) (by kernel_rfl) (fun c a d v w h => by first | (cases d <;> exact h) | exact HKP.out c a d v w h) ⟨HROW.out, HX.out⟩ ?_
  have HT1 := Lib.hid (HT.out.below (Below.refl w.heap.size w).drew)
  have HS : Hid (w.drew.heap[p]? = _ ∧ w.drew.heap[gx]? = _) := Lib.hid ⟨HROW.out, HX.out⟩
  have HB1 := Lib.hid (Below.refl w.heap.size w).drew
  generalize w.drew = w1 at HT1 HS HB1 ⊢
  haveI hne : Nonempty (In (fun y => y.heap[p]? = some (.cells (thRow (.slice la S.L.length lc) bn bs S.now bg (.slice ra S.due.length rc)).toArray THT (0, 0)) ∧ y.heap[gx]? = some (.cells RX.toArray 65 (0, 0)))) := ⟨⟨w1, HS.out⟩⟩
  repeat (first | (refine plan_t_load (by rfl) (by kernel_rfl) 38 _ rfl gx 1 rfl CX _ (fun y hy => rng_row hy.2 1 _ (by rw [← HCX.out]; exact nm_tail HRX.out)) Try.underlying38 rfl (by rw [HCXL.out]; rfl) ?_; simp only [Act.put, List.setIfInBounds_toArray, List.set_cons_succ, List.set_cons_zero]) | (refine plan_t (by rfl) ?_; (first | go_big_quiet_skip | (go_big_quiet_want; go_big_quiet_op; go_big_quiet_on)); refine wpQuiet_nil ?_))
  clear g1 g2 g3
  obtain ⟨nn, fn, hn, hnf⟩ := HT1.out.nm
  obtain ⟨ns, fs, hs, hsf⟩ := HT1.out.sq
  obtain ⟨ng, fg, hg, hgf⟩ := HT1.out.gn
  have HNm := Lib.hid hn; have HNF := Lib.hid hnf; have HSm := Lib.hid hs; have HSF := Lib.hid hsf; have HGm := Lib.hid hg; have HGF := Lib.hid hgf
  clear hn hnf hs hsf hg hgf
  have hne_pbn : p ≠ bn := fun e => hm_ne HNm.out HS.out.1 e.symm
  have hne_gbn : gx ≠ bn := fun e => hm_ne HNm.out HS.out.2 e.symm
  have hne_pbs : p ≠ bs := fun e => hm_ne HSm.out HS.out.1 e.symm
  have hne_gbs : gx ≠ bs := fun e => hm_ne HSm.out HS.out.2 e.symm
  have hne_bsbn : bs ≠ bn := fun e => HT.out.ne.1 e.symm
  have hne_bgbn : bg ≠ bn := fun e => HT.out.ne.2.1 e.symm
  have hne_bnbs : bn ≠ bs := HT.out.ne.1
  have hne_bgbs : bg ≠ bs := fun e => HT.out.ne.2.2 e.symm
  have HOF : Hid (Off [bn, bs] w1 w1) := Lib.hid (Off.refl _ _)
  refine plan_us (by rfl) (by kernel_rfl) ?_
  intro K hK
  refine wp_entry_hm (z := cidV Z8) _ _ rfl keyU Try.underlying69 (zeroC _) rfl HNm.out rfl (keyUof hxs) ?_
  intro v1 st1 w2 hn2 hg9
  have hs2 := And.intro (grown_row hg9 (fun e => hne_pbn (by injection e)) HS.out.1) (grown_row hg9 (fun e => hne_gbn (by injection e)) HS.out.2)
  replace HSm := Lib.hid (HSm.out.grown hg9 (fun e => by injection e with e; exact hne_bsbn e))
  replace HGm := Lib.hid (HGm.out.grown hg9 (fun e => by injection e with e; exact hne_bgbn e))
  replace HS := Lib.hid hs2
  replace HOF := Lib.hid (HOF.out.trans (N := [bn]) (Off.of_grown hg9 (fun g hg => by injection hg with hg; subst hg; simp)) (fun z hz => .inl (by rw [List.mem_singleton.1 hz]; simp)))
  clear hs2 hg9
  refine hK _ _ ⟨HS.out, ?_⟩
  clear hK K
  simp only [Act.put, List.setIfInBounds_toArray, List.set_cons_succ, List.set_cons_zero]
  have HN3 := Lib.hid hn2
  clear hn2 HNm
  repeat (first | (refine plan_t_load (by rfl) (by kernel_rfl) 38 _ rfl gx 1 rfl CX _ (fun y hy => rng_row hy.2 1 _ (by rw [← HCX.out]; exact nm_tail HRX.out)) Try.underlying38 rfl (by rw [HCXL.out]; rfl) ?_; simp only [Act.put, List.setIfInBounds_toArray, List.set_cons_succ, List.set_cons_zero]) | (refine plan_t (by rfl) ?_; (first | go_big_quiet_skip | (go_big_quiet_want; go_big_quiet_op; go_big_quiet_on)); refine wpQuiet_nil ?_))
  refine plan_us (by rfl) (by kernel_rfl) ?_
  intro K hK
  refine wp_store_hm (v := cidV x.2) _ _ _ rfl rfl HN3.out rfl (by unfold cidV; rw [HCX.out]; rfl) ?_
  intro w3 hn4 hg9
  have hs2 := And.intro (grown_row hg9 (fun e => hne_pbn (by injection e)) HS.out.1) (grown_row hg9 (fun e => hne_gbn (by injection e)) HS.out.2)
  replace HSm := Lib.hid (HSm.out.grown hg9 (fun e => by injection e with e; exact hne_bsbn e))
  replace HGm := Lib.hid (HGm.out.grown hg9 (fun e => by injection e with e; exact hne_bgbn e))
  replace HS := Lib.hid hs2
  replace HOF := Lib.hid (HOF.out.trans (N := [bn]) (Off.of_grown hg9 (fun g hg => by injection hg with hg; subst hg; simp)) (fun z hz => .inl (by rw [List.mem_singleton.1 hz]; simp)))
  clear hs2 hg9
  refine hK _ _ ⟨HS.out, ?_⟩
  clear hK K
  simp only [Act.put, List.setIfInBounds_toArray, List.set_cons_succ, List.set_cons_zero]
  rw [updF_updF] at hn4
  have HN4 := Lib.hid hn4
  clear hn4 HN3
  refine plan_us (by rfl) (by kernel_rfl) ?_
  intro K hK
  refine wp_entry_hm (z := .int .u64 0) (key := cidV x.2) _ _ rfl keyC Try.underlying70 (zeroU _) rfl HSm.out (by unfold cidV; rw [HCX.out]; rfl) HKL.out ?_
  intro v2 st2 w4 hs4 hg9
  have hs2 := And.intro (grown_row hg9 (fun e => hne_pbs (by injection e)) HS.out.1) (grown_row hg9 (fun e => hne_gbs (by injection e)) HS.out.2)
  replace HN4 := Lib.hid (HN4.out.grown hg9 (fun e => by injection e with e; exact hne_bnbs e))
  replace HGm := Lib.hid (HGm.out.grown hg9 (fun e => by injection e with e; exact hne_bgbs e))
  replace HS := Lib.hid hs2
  replace HOF := Lib.hid (HOF.out.trans (N := [bs]) (Off.of_grown hg9 (fun g hg => by injection hg with hg; subst hg; simp)) (fun z hz => .inl (by rw [List.mem_singleton.1 hz]; simp)))
  clear hs2 hg9
  refine hK _ _ ⟨HS.out, ?_⟩
  clear hK K
  simp only [Act.put, List.setIfInBounds_toArray, List.set_cons_succ, List.set_cons_zero]
  have HS3 := Lib.hid hs4
  clear hs4 HSm
  repeat (first | (refine plan_t_load (by rfl) (by kernel_rfl) 38 _ rfl gx 1 rfl CX _ (fun y hy => rng_row hy.2 1 _ (by rw [← HCX.out]; exact nm_tail HRX.out)) Try.underlying38 rfl (by rw [HCXL.out]; rfl) ?_; simp only [Act.put, List.setIfInBounds_toArray, List.set_cons_succ, List.set_cons_zero]) | (refine plan_t (by rfl) ?_; (first | go_big_quiet_skip | (go_big_quiet_want; go_big_quiet_op; go_big_quiet_on)); refine wpQuiet_nil ?_))
  refine plan_us (by rfl) (by kernel_rfl) ?_
  intro K hK
  refine wp_store_hm (v := .int .u64 x.1) _ _ _ rfl rfl HS3.out rfl rfl ?_
  intro w5 hs5 hg9
  have hs2 := And.intro (grown_row hg9 (fun e => hne_pbs (by injection e)) HS.out.1) (grown_row hg9 (fun e => hne_gbs (by injection e)) HS.out.2)
  replace HN4 := Lib.hid (HN4.out.grown hg9 (fun e => by injection e with e; exact hne_bnbs e))
  replace HGm := Lib.hid (HGm.out.grown hg9 (fun e => by injection e with e; exact hne_bgbs e))
  replace HS := Lib.hid hs2
  replace HOF := Lib.hid (HOF.out.trans (N := [bs]) (Off.of_grown hg9 (fun g hg => by injection hg with hg; subst hg; simp)) (fun z hz => .inl (by rw [List.mem_singleton.1 hz]; simp)))
  clear hs2 hg9
  refine hK _ _ ⟨HS.out, ?_⟩
  clear hK K
  simp only [Act.put, List.setIfInBounds_toArray, List.set_cons_succ, List.set_cons_zero]
  rw [updF_updF] at hs5
  have HS5 := Lib.hid hs5
  clear hs5 HS3 hne
  have hof : Off [bn, bs] w w5 := (Off.of_below (M := [bn, bs]) HB1.out).trans HOF.out (fun z hz => .inl hz)
  have hsub : ∀ z ∈ [bn, bs], z ∈ B := fun z hz => by simp only [List.mem_cons, List.not_mem_nil, or_false] at hz; rcases hz with rfl | rfl; exact HT.out.bm.1; exact HT.out.bm.2.1
  have hmp : ∀ g ∈ [bn, bs], ∃ es c, w.heap[g]? = some (.map es c) := fun z hz => by simp only [List.mem_cons, List.not_mem_nil, or_false] at hz; obtain ⟨_, _, h1, _⟩ := HT.out.nm; obtain ⟨_, _, h2, _⟩ := HT.out.sq; rcases hz with rfl | rfl; exact hm_map h1; exact hm_map h2
  have hup : UpdO B w w5 B := ⟨hof.wide hsub, fun g hg => .inl hg⟩
  have hth : ThAt w5 p B N ⟨S.L, S.came ++ [x], S.due, S.was, S.now⟩ la ra lc rc bn bs bg := ⟨HS.out.1, rk_maps hof hmp HT.out.l, rk_maps hof hmp HT.out.r, HT.out.lc, HT.out.rc, ⟨_, _, HN4.out, HNF.out.put HN1.out⟩, ⟨_, _, HS5.out, HSF.out.put HN2.out⟩, ⟨_, _, HGm.out, HGF.out⟩, HT.out.ne, HT.out.now, HT.out.pm, HT.out.bm, HT.out.la, HT.out.ra, fun g hg => Nat.lt_of_lt_of_le (HT.out.lt g hg) hof.size, HT.out.len⟩
  show Q _ _ _
  exact HK.out _ _ _ _ _ _ _ _ _ _ _ _ _ _ _ _ _ _ _ _ w5 (Lib.hid hup) (Lib.hid hth)
set_option maxRecDepth 100000 in
set_option maxHeartbeats 8000000 in
theorem put_any (w : World) (p : Nat) (B : List Nat) (N : Nat) (S : Th) (la ra : Option Addr) (lc rc bn bs bg : Nat) (h : ThAt w p B N S la ra lc rc bn bs bg) (x : Nm) (hx : nmK.ok x) (hn1 : ∀ y ∈ S.came, y.1 ≠ x.1) (hn2 : ∀ y ∈ S.came, y.2 ≠ x.2) (hN : N < 100000) :
    Calls Try.prog 36 #[.pointer (some ⟨p, 0, none⟩), .agg (nmK.enc x).toArray] w fun e w' => e = .returned (.tuple #[]) ∧ ThU w p B bn bs bg w' (N + 1) ⟨insM S.L x, S.came ++ [x], S.due, S.was, S.now⟩ := by
  have H := Lib.hid h
  have HPM := Lib.hid h.pm; have HNOW := Lib.hid h.now; have HXO := Lib.hid hx
  have HO := Lib.hid (Off.refl [p] w)
  have HROW := Lib.hid h.row; have HD := Lib.hid h.l; have HLC := Lib.hid h.lc; have hln := h.len.1
  obtain ⟨n, hn⟩ : ∃ n, S.L.length = n := ⟨_, rfl⟩
  have HN := Lib.hid hn
  obtain ⟨L, hL⟩ : ∃ d, S.L = d := ⟨_, rfl⟩
  have HLE := Lib.hid hL
  rw [hn] at HROW HD HLC hln
  rw [hL] at HD HN
  have HLO := Lib.hid HD.out.2.1
  clear h hn hL
  have HLA : Hid (la = none ∨ ∃ b o, la = some ⟨b, o, none⟩) := Lib.hid (by cases la with | none => exact .inl rfl | some x => obtain ⟨_, _, b, o, e⟩ := H.out.la x rfl; exact .inr ⟨b, o, by rw [e]⟩)
  have hxs := hx.1
  have hl9 := nmK.len x hx; have ho9 := nmK.one x hx
  obtain ⟨RX, hRX⟩ : ∃ R, nmK.enc x = R := ⟨_, rfl⟩
  have HRX := Lib.hid hRX
  rw [hRX] at hl9 ho9 ⊢
  have HL9 : Hid (RX.length = 9) := Lib.hid hl9; have HO9 := Lib.hid ho9
  clear hl9 ho9 hRX hx
  go_enter Try.func36, Try.ntmps36
  go_upto_region 1 with fail
  change Code.wp _ _ _ _ (w.alloc (.cells RX.toArray 65))
  have hb := (Below.refl w.heap.size w).alloc (Nat.le_refl _) (.cells RX.toArray 65)
  replace HO := Lib.hid (HO.out.next hb)
  replace HROW := Lib.hid (bl_row hb (lt_of_block HROW.out) HROW.out)
  replace HD := Lib.hid (HD.out.below hb)
  have HX := Lib.hid (heap_alloc_new w (.cells RX.toArray 65))
  clear hb
  generalize w.alloc (.cells RX.toArray 65) = w1 at HROW HD HO HX ⊢
  obtain ⟨gx, hg⟩ : ∃ g, w.heap.size = g := ⟨_, rfl⟩
  rw [hg] at HX ⊢
  have HGX := Lib.hid hg
  clear hg
  go_wp2_with fail
  go_loopw [4] (fun s4 wr => ∃ (i : Nat), s4 = .int .i64 i ∧ i ≤ n ∧ Hid (Below w1.heap.size w1 wr) ∧ Hid (∀ y ∈ L.take i, y.1 < x.1)) (fun s4 _ => n - (intOf s4).toNat)
  case atStart => exact ⟨0, rfl, by omega, Lib.hid (Below.refl _ _), Lib.hid (by simp)⟩
  case round =>
    obtain ⟨i, rfl, hi, HBW, HA⟩ := hrel
    have hbw := HBW.out
    replace HO := Lib.hid (HO.out.next hbw)
    replace HROW := Lib.hid (bl_row hbw (lt_of_block HROW.out) HROW.out)
    replace HD := Lib.hid (HD.out.below hbw)
    replace HX := Lib.hid (bl_row hbw (lt_of_block HX.out) HX.out)
    have HQ := HBW
    clear HBW hbw
    rcases HLA.out with rfl | ⟨ab, ao, rfl⟩
    · skip
      obtain rfl : 0 = n := by
        rcases HD.out.2.2 with h | ⟨_, _, h, _⟩
        · exact h.symm
        · cases h
      obtain rfl : i = 0 := by omega
      go_upto_region 2 with fail
      have g0 : ∀ z : In (fun y => y.heap[p]? = some (.cells (thRow (.slice none 0 lc) bn bs S.now bg (.slice ra S.due.length rc)).toArray THT (0, 0))), z.w.cell? ⟨p, 0, none⟩ = some (.slice none 0 lc) := fun z => cell_row z.h 0 _ (thRow_l ..)
      refine wp_plan (.t 0 (.t 1 (.t 2 (.t 3 (.t 4 (.t 5 (.t 6 (.t 7 (.t 8 (.t 9 (.t 10 (.t 11 (.t 12 (.t 13 (.t 14 (.t 15 (.t 16 (.t 17 (.t 18 (.t 19 .done)))))))))))))))))))) (fun y => y.heap[p]? = some (.cells (thRow (.slice none 0 lc) bn bs S.now bg (.slice ra S.due.length rc)).toArray THT (0, 0))) (by kernel_rfl) (by kernel_rfl) (by kernel_rfl) (fun c a d v w h => by cases d <;> exact h) HROW.out ?_
      haveI hne : Nonempty (In (fun y => y.heap[p]? = some (.cells (thRow (.slice none 0 lc) bn bs S.now bg (.slice ra S.due.length rc)).toArray THT (0, 0)))) := ⟨⟨_, HROW.out⟩⟩
      repeat (first | (refine plan_t (by rfl) ?_; (first | go_big_quiet_skip | (go_big_quiet_want; go_big_quiet_op; go_big_quiet_on)); refine wpQuiet_nil ?_))
      clear hne g0
      show Exit.then _ _ _ _ _
      have hdr := (Below.refl wr.heap.size wr).drew
      replace HO := Lib.hid (HO.out.next hdr)
      replace HROW := Lib.hid (bl_row hdr (lt_of_block HROW.out) HROW.out)
      replace HD := Lib.hid (HD.out.below hdr)
      replace HX := Lib.hid (bl_row hdr (lt_of_block HX.out) HX.out)
      replace HQ := Lib.hid (bl_next HQ.out HQ.out.size hdr)
      clear hdr
      generalize wr.drew = w2 at HROW HD HX HQ HO ⊢
      have hdm : insM L x = L.take 0 ++ x :: L.drop 0 := by
        have := insM_at (l1 := L.take 0) (l2 := L.drop 0) (x := x) HA.out (fun y hy => by rw [List.drop_of_length_le (by rw [HN.out]; exact Nat.le_refl _)] at hy; cases hy)
        rw [List.take_append_drop] at this; exact this
      have HDM := Lib.hid hdm
      clear hdm
      obtain ⟨hlc, hlcm⟩ := HLC.out
      go_upto_region 4 with fail
      have g0 : ∀ z : In (fun y => y.heap[p]? = some (.cells (thRow (.slice none 0 lc) bn bs S.now bg (.slice ra S.due.length rc)).toArray THT (0, 0)) ∧ y.heap[gx]? = some (.cells RX.toArray 65 (0, 0))), z.w.cell? ⟨p, 0, none⟩ = some (.slice none 0 lc) := fun z => cell_row z.h.1 0 _ (thRow_l ..)
      refine wp_plan2 18 (.t 0 (.t 1 (.t 2 (.t 3 (.t 4 (.t 5 (.t 6 (.t 7 (.t 8 (.t 10 (.t 11 (.t 12 (.t 13 (.t 14 (.t 15 (.u 9 (.u 16 (.u 17 .done)))))))))))))))))) (.t 18 (.t 19 (.u 20 .done))) (fun y => y.heap[p]? = some (.cells (thRow (.slice none 0 lc) bn bs S.now bg (.slice ra S.due.length rc)).toArray THT (0, 0)) ∧ y.heap[gx]? = some (.cells RX.toArray 65 (0, 0))) (by kernel_rfl) (by kernel_rfl) (by kernel_rfl) (fun c a d v w h => by cases d <;> exact h) ⟨HROW.out, HX.out⟩ ?_
      have hb := (Below.refl w2.heap.size w2).drew
      replace HO := Lib.hid (HO.out.next hb)
      replace HROW := Lib.hid (bl_row hb (lt_of_block HROW.out) HROW.out)
      replace HD := Lib.hid (HD.out.below hb)
      replace HX := Lib.hid (bl_row hb (lt_of_block HX.out) HX.out)
      replace HQ := Lib.hid (bl_next HQ.out HQ.out.size hb)
      clear hb
      generalize w2.drew = w3 at HROW HD HX HQ HO ⊢
      haveI hne : Nonempty (In (fun y => y.heap[p]? = some (.cells (thRow (.slice none 0 lc) bn bs S.now bg (.slice ra S.due.length rc)).toArray THT (0, 0)) ∧ y.heap[gx]? = some (.cells RX.toArray 65 (0, 0)))) := ⟨⟨w3, ⟨HROW.out, HX.out⟩⟩⟩
      repeat (first | (refine plan_t_load (by rfl) (by kernel_rfl) 65 _ rfl gx 0 rfl RX _ (fun y hy => rngL hy.2) Try.underlying65 rfl (by rw [HL9.out]; rfl) ?_; simp only [Act.put, List.setIfInBounds_toArray, List.set_cons_succ, List.set_cons_zero]) | (refine plan_t (by rfl) ?_; (first | go_big_quiet_skip | (go_big_quiet_want; go_big_quiet_op; go_big_quiet_on)); refine wpQuiet_nil ?_))
      clear g0
      refine plan_us (by rfl) (by kernel_rfl) ?_
      intro K hK
      refine wp_build_rk nmT _ rfl x HXO.out (by show Value.agg _ = _; rw [HRX.out]) ?_
      have hal := (Below.refl w3.heap.size w3).alloc (Nat.le_refl _) (.cells (nmK.flat [x]).toArray 65)
      have hee : (w3.alloc (.cells (nmK.flat [x]).toArray 65)).ownsRow 0 65 nmK.N (.slice (some ⟨w3.heap.size, 0, none⟩) 1 1) 1 (nmK.flat [x]) := own_one nmK _ _ x HXO.out
      have HGE : Hid (w.heap.size ≤ w3.heap.size) := Lib.hid HO.out.size
      have HGXE : Hid (gx ≠ w3.heap.size) := Lib.hid (Nat.ne_of_lt (lt_of_block HX.out))
      replace HO := Lib.hid (HO.out.next hal)
      replace HROW := Lib.hid (bl_row hal (lt_of_block HROW.out) HROW.out)
      replace HD := Lib.hid (HD.out.below hal)
      replace HX := Lib.hid (bl_row hal (lt_of_block HX.out) HX.out)
      have HE := Lib.hid hee
      refine hK _ _ ⟨⟨HROW.out, HX.out⟩, ?_⟩
      clear hK K hal hee
      simp only [Act.put, List.setIfInBounds_toArray, List.set_cons_succ, List.set_cons_zero]
      generalize w3.alloc (.cells (nmK.flat [x]).toArray 65) = w4 at HROW HD HX HO HE ⊢
      obtain ⟨ge, hge⟩ : ∃ g, w3.heap.size = g := ⟨_, rfl⟩
      rw [hge] at HE HGE HGXE ⊢
      clear hge
      refine plan_us (by rfl) (by kernel_rfl) ?_
      intro K hK
      refine wp_append_rk nmT _ _ rfl 0 1 (.slice (some ⟨ge, 0, none⟩) 1 1) [x] rfl HE.out none 0 _ L rfl (by have h9 := HD.out; exact ⟨h9.1, h9.2.1, .inl rfl⟩ : nmK.At _ none 0 L) (by omega) (Nat.zero_le _) ?_
      intro v' w5 ho2 hg2 hor
      replace HROW := Lib.hid (grown_row hg2 (fun e => own_ne HE.out HROW.out (by decide) e.symm) HROW.out)
      replace HX := Lib.hid (grown_row hg2 (fun e => by have e2 : some gx = some ge := e; injection e2 with e2; exact HGXE.out e2) HX.out)
      replace HO := Lib.hid (HO.out.fresh hg2 HGE.out)
      obtain ⟨ab2, ac2, rfl, _⟩ := sl_own ho2
      have hok2 : ∀ y ∈ x :: L, nmK.ok y := fun y hy => by rcases List.mem_cons.1 hy with rfl | hy; exact HXO.out; exact HLO.out y (hy)
      have HE2 := Lib.hid (RK.At.of_own ho2 hok2)
      clear ho2 hor hg2 hok2
      refine hK _ _ ⟨⟨HROW.out, HX.out⟩, ?_⟩
      clear hK K
      simp only [Act.put, List.setIfInBounds_toArray, List.set_cons_succ, List.set_cons_zero]
      refine plan_us (by rfl) (by kernel_rfl) ?_
      intro K hK
      refine wp_append_full_rk (ops := #[]) (rest := []) nmT _ _ rfl none 0 [] rfl (RK.At.nil _ _) ab2 1 ac2 (x :: L) rfl HE2.out (by omega) (by omega) ?_
      intro c3 w6 ho2 hb2
      have hgz : w.heap.size ≤ w5.heap.size := HO.out.size
      have hgx3 : gx ≠ w5.heap.size := Nat.ne_of_lt (lt_of_block HX.out)
      replace HO := Lib.hid (HO.out.next hb2)
      replace HROW := Lib.hid (bl_row hb2 (lt_of_block HROW.out) HROW.out)
      replace HX := Lib.hid (bl_row hb2 (lt_of_block HX.out) HX.out)
      replace HE2 := Lib.hid (HE2.out.below hb2)
      have HE3 := Lib.hid ho2
      have HGE3 : Hid (w.heap.size ≤ w5.heap.size) := Lib.hid hgz
      have HGX3 := Lib.hid hgx3
      obtain ⟨g3, hg3⟩ : ∃ g, w5.heap.size = g := ⟨_, rfl⟩
      rw [hg3] at HE3 HGE3 HGX3 ⊢
      clear ho2 hb2 hgz hg3 hgx3
      refine hK _ _ ⟨⟨HROW.out, HX.out⟩, ?_⟩
      clear hK K
      simp only [Act.put, List.setIfInBounds_toArray, List.set_cons_succ, List.set_cons_zero]
      clear hne
      refine ⟨fun _ => True, trivial, ?_⟩
      haveI hne : Nonempty (In (fun _ => True)) := ⟨⟨w6, trivial⟩⟩
      repeat (first | (refine plan_t (by rfl) ?_; (first | go_big_quiet_skip | (go_big_quiet_want; go_big_quiet_op; go_big_quiet_on)); refine wpQuiet_nil ?_))
      refine plan_us (by rfl) (by kernel_rfl) ?_
      intro K hK
      have c0 := cell_row HROW.out 0 _ (thRow_l ..)
      have f0 := row_free HROW.out 0
      go_wp2_with fail
      clear c0 f0
      have hle : (0 + 1) = 1 := by omega
      try rw [hle] at HE3
      try rw [hle]
      have hgs := grown_setCell w6 p 0 (.slice (some ⟨g3, 0, none⟩) 1 c3)
      have hrs := row_setL HROW.out 0 (.slice (some ⟨g3, 0, none⟩) 1 c3)
      rw [thRow_setl] at hrs
      have ho9 := HO.out.setCell (k := 0) (List.mem_singleton.2 rfl) (.slice (some ⟨g3, 0, none⟩) 1 c3)
      have he9 := own_grown HE3.out hgs (fun g hg e => own_ne HE3.out HROW.out (by decide) (hg.trans e))
      have hx9 := grown_row hgs (row_ne HX.out HROW.out (by decide)) HX.out
      have HE9 := Lib.hid he9; have HO9 := Lib.hid ho9; have HR9 := Lib.hid hrs; have HX9 := Lib.hid hx9
      clear hgs hrs ho9 he9 hx9
      generalize w6.setCell ⟨p, 0, none⟩ (.slice (some ⟨g3, 0, none⟩) 1 c3) = w7 at HE9 HO9 HR9 HX9 ⊢
      try refine ⟨trivial, ?_⟩
      clear hne
      show Exit.then _ _ _ _ _
      try simp only [Act.put, List.setIfInBounds_toArray, List.set_cons_succ, List.set_cons_zero]
      have hdl : (insM S.L x).length = 1 := by rw [insM_len, HLE.out, HN.out]
      have hrk : nmK.At w7 (some ⟨g3, 0, none⟩) (insM S.L x).length (insM S.L x) := by rw [hdl, HLE.out, HDM.out]; exact RK.At.of_own HE9.out (fun y hy => by rcases List.mem_append.1 hy with hy | hy; exact HLO.out y (List.mem_of_mem_take hy); rcases List.mem_cons.1 hy with rfl | hy; exact HXO.out; exact HLO.out y (List.mem_of_mem_drop hy))
      have hgs3 : g3 < w7.heap.size := own_lt HE9.out rfl
      obtain ⟨_, _, e0, hc1, hc2⟩ := sl_own HE9.out
      injection e0 with e0 e1 e2; subst e2
      have hpl := lt_of_block H.out.row
      have hth : ThAt w7 p (B ++ [g3]) (N + 1) ⟨insM S.L x, S.came, S.due, S.was, S.now⟩ (some ⟨g3, 0, none⟩) ra c3 rc bn bs bg := H.out.turn HO9.out (by rw [hdl]; exact HR9.out) hrk (H.out.r_off HO9.out) (by rw [hdl]; exact ⟨hc1, hc2⟩) H.out.rc HNOW.out (fun g hg => List.mem_append_left _ hg) (fun g hg => by rcases List.mem_append.1 hg with hg | hg; exact Nat.lt_of_lt_of_le (H.out.lt g hg) HO9.out.size; rw [List.mem_singleton.1 hg]; exact hgs3) (fun y hy => by injection hy with hy; subst hy; refine ⟨by simp, ?_, _, _, rfl⟩; have := HGE3.out; simp only; omega) (fun y hy => ⟨List.mem_append_left _ (H.out.ra y hy).1, (H.out.ra y hy).2⟩) ⟨by rw [hdl]; omega, by have := H.out.len.2; omega⟩
      have hup : UpdO B w w7 (B ++ [g3]) := ⟨HO9.out.wide (fun y hy => by rw [List.mem_singleton.1 hy]; exact HPM.out), fun g hg => by rcases List.mem_append.1 hg with hg | hg; exact .inl hg; rw [List.mem_singleton.1 hg]; exact .inr HGE3.out⟩
      have HT := Lib.hid hth; have HU := Lib.hid hup; have HRW := Lib.hid hth.row
      have HGXB : Hid (gx ∉ B ++ [g3]) := Lib.hid (fun hm => by rcases List.mem_append.1 hm with hm | hm; (have := H.out.lt _ hm; have := HGX.out; omega); exact HGX3.out (List.mem_singleton.1 hm))
      clear hth hup hrk hgs3 hc1 hc2 hpl hdl
      go_upto_region 5 with fail
      refine put_maps _ HT HX9 HRX HXO.out hn1 hn2 (fun c a d v w h => by cases d <;> exact h) ?_
      rintro _ _ _ _ _ _ _ _ _ _ _ _ _ _ _ _ _ _ _ _ w99 HU2 HT2
      (try simp only [Exit.inBlock, Exit.then])
      refine bodyPost_end (results_none rfl _ _ _) rfl ?_
      exact ⟨rfl, _, _, _, _, _, HU.out.trans HU2.out, HT2.out⟩
    · skip
      by_cases hlt : i < n
      · skip
        obtain ⟨ab2, ao2, y, e9, _, hy, hok, hrg⟩ := HD.out.at hlt
        injection e9 with e9; injection e9 with e9 e10; subst e9; subst e10
        have hy0 : wr.cell? ⟨ab, ao + i * 9, none⟩ = some (.int .u64 y.1) := hrg 0 _ rfl
        have HY := Lib.hid hy; have hyu := hok.1
        clear hy hrg hok
        have hxc : wr.cell? ⟨gx, 0, none⟩ = some (.int .u64 x.1) := cell_row HX.out 0 _ (nm_head HRX.out)
        by_cases hds : y.1 < x.1
        · skip
          go_upto_region 2 with fail
          have g0 : ∀ z : In (fun z => z.heap[p]? = some (.cells (thRow (.slice (some ⟨ab, ao, none⟩) n lc) bn bs S.now bg (.slice ra S.due.length rc)).toArray THT (0, 0)) ∧ z.cell? ⟨ab, ao + i * 9, none⟩ = some (.int .u64 y.1) ∧ z.cell? ⟨gx, 0, none⟩ = some (.int .u64 x.1)), z.w.cell? ⟨p, 0, none⟩ = some (.slice (some ⟨ab, ao, none⟩) n lc) := fun z => cell_row z.h.1 0 _ (thRow_l ..)
          have g1 : ∀ z : In (fun z => z.heap[p]? = some (.cells (thRow (.slice (some ⟨ab, ao, none⟩) n lc) bn bs S.now bg (.slice ra S.due.length rc)).toArray THT (0, 0)) ∧ z.cell? ⟨ab, ao + i * 9, none⟩ = some (.int .u64 y.1) ∧ z.cell? ⟨gx, 0, none⟩ = some (.int .u64 x.1)), z.w.cell? ⟨ab, ao + i * 9, none⟩ = some (.int .u64 y.1) := fun z => z.h.2.1
          have g2 : ∀ z : In (fun z => z.heap[p]? = some (.cells (thRow (.slice (some ⟨ab, ao, none⟩) n lc) bn bs S.now bg (.slice ra S.due.length rc)).toArray THT (0, 0)) ∧ z.cell? ⟨ab, ao + i * 9, none⟩ = some (.int .u64 y.1) ∧ z.cell? ⟨gx, 0, none⟩ = some (.int .u64 x.1)), z.w.cell? ⟨gx, 0, none⟩ = some (.int .u64 x.1) := fun z => z.h.2.2
          refine wp_plan (.t 0 (.t 1 (.t 2 (.t 3 (.t 4 (.t 5 (.t 6 (.t 7 (.t 8 (.t 9 (.t 10 (.t 11 (.t 12 (.t 13 (.t 14 (.t 15 (.t 16 (.t 17 (.t 18 (.t 19 .done)))))))))))))))))))) (fun z => z.heap[p]? = some (.cells (thRow (.slice (some ⟨ab, ao, none⟩) n lc) bn bs S.now bg (.slice ra S.due.length rc)).toArray THT (0, 0)) ∧ z.cell? ⟨ab, ao + i * 9, none⟩ = some (.int .u64 y.1) ∧ z.cell? ⟨gx, 0, none⟩ = some (.int .u64 x.1)) (by kernel_rfl) (by kernel_rfl) (by kernel_rfl) (fun c a d v w h => by cases d <;> exact h) ⟨HROW.out, hy0, hxc⟩ ?_
          haveI hne : Nonempty (In (fun z => z.heap[p]? = some (.cells (thRow (.slice (some ⟨ab, ao, none⟩) n lc) bn bs S.now bg (.slice ra S.due.length rc)).toArray THT (0, 0)) ∧ z.cell? ⟨ab, ao + i * 9, none⟩ = some (.int .u64 y.1) ∧ z.cell? ⟨gx, 0, none⟩ = some (.int .u64 x.1))) := ⟨⟨_, ⟨HROW.out, hy0, hxc⟩⟩⟩
          repeat (first | (refine plan_t (by rfl) ?_; (first | go_big_quiet_skip | (go_big_quiet_want; go_big_quiet_op; go_big_quiet_on)); refine wpQuiet_nil ?_))
          clear hne g0 g1 g2
          show Exit.then _ _ _ _ _
          have hdr := (Below.refl wr.heap.size wr).drew
          replace HO := Lib.hid (HO.out.next hdr)
          replace HROW := Lib.hid (bl_row hdr (lt_of_block HROW.out) HROW.out)
          replace HD := Lib.hid (HD.out.below hdr)
          replace HX := Lib.hid (bl_row hdr (lt_of_block HX.out) HX.out)
          replace HQ := Lib.hid (bl_next HQ.out HQ.out.size hdr)
          clear hdr
          generalize wr.drew = w2 at HROW HD HX HQ HO ⊢
          clear hy0 hxc
          go_wp2_with fail
          go_roundw
          case rel => exact ⟨i + 1, by go_num, by omega, HQ, Lib.hid (fun z hz => by rw [take_snd' HY.out] at hz; rcases List.mem_append.1 hz with hz | hz; exact HA.out z hz; rw [List.mem_singleton.1 hz]; exact hds)⟩
          case measure => simp [intOf]; omega
        · skip
          go_upto_region 2 with fail
          have g0 : ∀ z : In (fun z => z.heap[p]? = some (.cells (thRow (.slice (some ⟨ab, ao, none⟩) n lc) bn bs S.now bg (.slice ra S.due.length rc)).toArray THT (0, 0)) ∧ z.cell? ⟨ab, ao + i * 9, none⟩ = some (.int .u64 y.1) ∧ z.cell? ⟨gx, 0, none⟩ = some (.int .u64 x.1)), z.w.cell? ⟨p, 0, none⟩ = some (.slice (some ⟨ab, ao, none⟩) n lc) := fun z => cell_row z.h.1 0 _ (thRow_l ..)
          have g1 : ∀ z : In (fun z => z.heap[p]? = some (.cells (thRow (.slice (some ⟨ab, ao, none⟩) n lc) bn bs S.now bg (.slice ra S.due.length rc)).toArray THT (0, 0)) ∧ z.cell? ⟨ab, ao + i * 9, none⟩ = some (.int .u64 y.1) ∧ z.cell? ⟨gx, 0, none⟩ = some (.int .u64 x.1)), z.w.cell? ⟨ab, ao + i * 9, none⟩ = some (.int .u64 y.1) := fun z => z.h.2.1
          have g2 : ∀ z : In (fun z => z.heap[p]? = some (.cells (thRow (.slice (some ⟨ab, ao, none⟩) n lc) bn bs S.now bg (.slice ra S.due.length rc)).toArray THT (0, 0)) ∧ z.cell? ⟨ab, ao + i * 9, none⟩ = some (.int .u64 y.1) ∧ z.cell? ⟨gx, 0, none⟩ = some (.int .u64 x.1)), z.w.cell? ⟨gx, 0, none⟩ = some (.int .u64 x.1) := fun z => z.h.2.2
          refine wp_plan (.t 0 (.t 1 (.t 2 (.t 3 (.t 4 (.t 5 (.t 6 (.t 7 (.t 8 (.t 9 (.t 10 (.t 11 (.t 12 (.t 13 (.t 14 (.t 15 (.t 16 (.t 17 (.t 18 (.t 19 .done)))))))))))))))))))) (fun z => z.heap[p]? = some (.cells (thRow (.slice (some ⟨ab, ao, none⟩) n lc) bn bs S.now bg (.slice ra S.due.length rc)).toArray THT (0, 0)) ∧ z.cell? ⟨ab, ao + i * 9, none⟩ = some (.int .u64 y.1) ∧ z.cell? ⟨gx, 0, none⟩ = some (.int .u64 x.1)) (by kernel_rfl) (by kernel_rfl) (by kernel_rfl) (fun c a d v w h => by cases d <;> exact h) ⟨HROW.out, hy0, hxc⟩ ?_
          haveI hne : Nonempty (In (fun z => z.heap[p]? = some (.cells (thRow (.slice (some ⟨ab, ao, none⟩) n lc) bn bs S.now bg (.slice ra S.due.length rc)).toArray THT (0, 0)) ∧ z.cell? ⟨ab, ao + i * 9, none⟩ = some (.int .u64 y.1) ∧ z.cell? ⟨gx, 0, none⟩ = some (.int .u64 x.1))) := ⟨⟨_, ⟨HROW.out, hy0, hxc⟩⟩⟩
          repeat (first | (refine plan_t (by rfl) ?_; (first | go_big_quiet_skip | (go_big_quiet_want; go_big_quiet_op; go_big_quiet_on)); refine wpQuiet_nil ?_))
          clear hne g0 g1 g2
          show Exit.then _ _ _ _ _
          have hdr := (Below.refl wr.heap.size wr).drew
          replace HO := Lib.hid (HO.out.next hdr)
          replace HROW := Lib.hid (bl_row hdr (lt_of_block HROW.out) HROW.out)
          replace HD := Lib.hid (HD.out.below hdr)
          replace HX := Lib.hid (bl_row hdr (lt_of_block HX.out) HX.out)
          replace HQ := Lib.hid (bl_next HQ.out HQ.out.size hdr)
          clear hdr
          generalize wr.drew = w2 at HROW HD HX HQ HO ⊢
          clear hy0 hxc
          have hdm : insM L x = L.take i ++ x :: L.drop i := by
            have := insM_at (l1 := L.take i) (l2 := L.drop i) (x := x) HA.out (fun z hz => by rw [List.head?_drop, HY.out] at hz; injection hz with hz; subst hz; exact hds)
            rw [List.take_append_drop] at this; exact this
          have HDM := Lib.hid hdm
          clear hdm
          obtain ⟨hlc, hlcm⟩ := HLC.out
          go_upto_region 4 with fail
          have g0 : ∀ z : In (fun y => y.heap[p]? = some (.cells (thRow (.slice (some ⟨ab, ao, none⟩) n lc) bn bs S.now bg (.slice ra S.due.length rc)).toArray THT (0, 0)) ∧ y.heap[gx]? = some (.cells RX.toArray 65 (0, 0))), z.w.cell? ⟨p, 0, none⟩ = some (.slice (some ⟨ab, ao, none⟩) n lc) := fun z => cell_row z.h.1 0 _ (thRow_l ..)
          refine wp_plan2 18 (.t 0 (.t 1 (.t 2 (.t 3 (.t 4 (.t 5 (.t 6 (.t 7 (.t 8 (.t 10 (.t 11 (.t 12 (.t 13 (.t 14 (.t 15 (.u 9 (.u 16 (.u 17 .done)))))))))))))))))) (.t 18 (.t 19 (.u 20 .done))) (fun y => y.heap[p]? = some (.cells (thRow (.slice (some ⟨ab, ao, none⟩) n lc) bn bs S.now bg (.slice ra S.due.length rc)).toArray THT (0, 0)) ∧ y.heap[gx]? = some (.cells RX.toArray 65 (0, 0))) (by kernel_rfl) (by kernel_rfl) (by kernel_rfl) (fun c a d v w h => by cases d <;> exact h) ⟨HROW.out, HX.out⟩ ?_
          have hb := (Below.refl w2.heap.size w2).drew
          replace HO := Lib.hid (HO.out.next hb)
          replace HROW := Lib.hid (bl_row hb (lt_of_block HROW.out) HROW.out)
          replace HD := Lib.hid (HD.out.below hb)
          replace HX := Lib.hid (bl_row hb (lt_of_block HX.out) HX.out)
          replace HQ := Lib.hid (bl_next HQ.out HQ.out.size hb)
          clear hb
          generalize w2.drew = w3 at HROW HD HX HQ HO ⊢
          haveI hne : Nonempty (In (fun y => y.heap[p]? = some (.cells (thRow (.slice (some ⟨ab, ao, none⟩) n lc) bn bs S.now bg (.slice ra S.due.length rc)).toArray THT (0, 0)) ∧ y.heap[gx]? = some (.cells RX.toArray 65 (0, 0)))) := ⟨⟨w3, ⟨HROW.out, HX.out⟩⟩⟩
          repeat (first | (refine plan_t_load (by rfl) (by kernel_rfl) 65 _ rfl gx 0 rfl RX _ (fun y hy => rngL hy.2) Try.underlying65 rfl (by rw [HL9.out]; rfl) ?_; simp only [Act.put, List.setIfInBounds_toArray, List.set_cons_succ, List.set_cons_zero]) | (refine plan_t (by rfl) ?_; (first | go_big_quiet_skip | (go_big_quiet_want; go_big_quiet_op; go_big_quiet_on)); refine wpQuiet_nil ?_))
          clear g0
          have HSUF : Hid (nmK.At w3 (some ⟨ab, ao + i * 9, none⟩) (n - i) (L.drop i)) := Lib.hid (HD.out.suf i (by omega))
          have HPRE : Hid (nmK.At w3 (some ⟨ab, ao, none⟩) i (L.take i)) := Lib.hid (HD.out.pre i (by omega))
          refine plan_us (by rfl) (by kernel_rfl) ?_
          intro K hK
          refine wp_build_rk nmT _ rfl x HXO.out (by show Value.agg _ = _; rw [HRX.out]) ?_
          have hal := (Below.refl w3.heap.size w3).alloc (Nat.le_refl _) (.cells (nmK.flat [x]).toArray 65)
          have hee : (w3.alloc (.cells (nmK.flat [x]).toArray 65)).ownsRow 0 65 nmK.N (.slice (some ⟨w3.heap.size, 0, none⟩) 1 1) 1 (nmK.flat [x]) := own_one nmK _ _ x HXO.out
          have HGE : Hid (w.heap.size ≤ w3.heap.size) := Lib.hid HO.out.size
          have HGXE : Hid (gx ≠ w3.heap.size) := Lib.hid (Nat.ne_of_lt (lt_of_block HX.out))
          replace HO := Lib.hid (HO.out.next hal)
          replace HROW := Lib.hid (bl_row hal (lt_of_block HROW.out) HROW.out)
          replace HD := Lib.hid (HD.out.below hal)
          replace HX := Lib.hid (bl_row hal (lt_of_block HX.out) HX.out)
          replace HSUF := Lib.hid (HSUF.out.below hal)
          replace HPRE := Lib.hid (HPRE.out.below hal)
          have HE := Lib.hid hee
          have HGD : Hid (∀ x : Addr, ((some ⟨ab, ao, none⟩) : Option Addr) = some x → some x.block ≠ some w3.heap.size) := Lib.hid (fun x hx e => by injection e with e; have h8 := H.out.lt _ (H.out.la _ hx).1; have h9 := HGE.out; omega)
          refine hK _ _ ⟨⟨HROW.out, HX.out⟩, ?_⟩
          clear hK K hal hee
          simp only [Act.put, List.setIfInBounds_toArray, List.set_cons_succ, List.set_cons_zero]
          generalize w3.alloc (.cells (nmK.flat [x]).toArray 65) = w4 at HROW HD HX HSUF HPRE HO HE ⊢
          obtain ⟨ge, hge⟩ : ∃ g, w3.heap.size = g := ⟨_, rfl⟩
          rw [hge] at HE HGE HGXE HGD ⊢
          clear hge
          refine plan_us (by rfl) (by kernel_rfl) ?_
          intro K hK
          refine wp_append_rk nmT _ _ rfl 0 1 (.slice (some ⟨ge, 0, none⟩) 1 1) [x] rfl HE.out (some ⟨ab, ao + i * 9, none⟩) (n - i) _ (L.drop i) rfl HSUF.out (by omega) (Nat.zero_le _) ?_
          intro v' w5 ho2 hg2 hor
          replace HROW := Lib.hid (grown_row hg2 (fun e => own_ne HE.out HROW.out (by decide) e.symm) HROW.out)
          replace HX := Lib.hid (grown_row hg2 (fun e => by have e2 : some gx = some ge := e; injection e2 with e2; exact HGXE.out e2) HX.out)
          replace HPRE := Lib.hid (HPRE.out.grown hg2 HGD.out)
          replace HO := Lib.hid (HO.out.fresh hg2 HGE.out)
          obtain ⟨ab2, ac2, rfl, _⟩ := sl_own ho2
          have hok2 : ∀ y ∈ x :: (L.drop i), nmK.ok y := fun y hy => by rcases List.mem_cons.1 hy with rfl | hy; exact HXO.out; exact HLO.out y (List.mem_of_mem_drop hy)
          have HE2 := Lib.hid (RK.At.of_own ho2 hok2)
          clear ho2 hor hg2 hok2
          refine hK _ _ ⟨⟨HROW.out, HX.out⟩, ?_⟩
          clear hK K
          simp only [Act.put, List.setIfInBounds_toArray, List.set_cons_succ, List.set_cons_zero]
          refine plan_us (by rfl) (by kernel_rfl) ?_
          intro K hK
          refine wp_append_full_rk (ops := #[]) (rest := []) nmT _ _ rfl (some ⟨ab, ao, none⟩) i (L.take i) rfl HPRE.out ab2 (1 + (n - i)) ac2 (x :: (L.drop i)) rfl HE2.out (by omega) (by omega) ?_
          intro c3 w6 ho2 hb2
          have hgz : w.heap.size ≤ w5.heap.size := HO.out.size
          have hgx3 : gx ≠ w5.heap.size := Nat.ne_of_lt (lt_of_block HX.out)
          replace HO := Lib.hid (HO.out.next hb2)
          replace HROW := Lib.hid (bl_row hb2 (lt_of_block HROW.out) HROW.out)
          replace HX := Lib.hid (bl_row hb2 (lt_of_block HX.out) HX.out)
          replace HE2 := Lib.hid (HE2.out.below hb2)
          have HE3 := Lib.hid ho2
          have HGE3 : Hid (w.heap.size ≤ w5.heap.size) := Lib.hid hgz
          have HGX3 := Lib.hid hgx3
          obtain ⟨g3, hg3⟩ : ∃ g, w5.heap.size = g := ⟨_, rfl⟩
          rw [hg3] at HE3 HGE3 HGX3 ⊢
          clear ho2 hb2 hgz hg3 hgx3
          refine hK _ _ ⟨⟨HROW.out, HX.out⟩, ?_⟩
          clear hK K
          simp only [Act.put, List.setIfInBounds_toArray, List.set_cons_succ, List.set_cons_zero]
          clear hne
          refine ⟨fun _ => True, trivial, ?_⟩
          haveI hne : Nonempty (In (fun _ => True)) := ⟨⟨w6, trivial⟩⟩
          repeat (first | (refine plan_t (by rfl) ?_; (first | go_big_quiet_skip | (go_big_quiet_want; go_big_quiet_op; go_big_quiet_on)); refine wpQuiet_nil ?_))
          refine plan_us (by rfl) (by kernel_rfl) ?_
          intro K hK
          have c0 := cell_row HROW.out 0 _ (thRow_l ..)
          have f0 := row_free HROW.out 0
          go_wp2_with fail
          clear c0 f0
          have hle : (i + (1 + (n - i))) = (n + 1) := by omega
          try rw [hle] at HE3
          try rw [hle]
          have hgs := grown_setCell w6 p 0 (.slice (some ⟨g3, 0, none⟩) (n + 1) c3)
          have hrs := row_setL HROW.out 0 (.slice (some ⟨g3, 0, none⟩) (n + 1) c3)
          rw [thRow_setl] at hrs
          have ho9 := HO.out.setCell (k := 0) (List.mem_singleton.2 rfl) (.slice (some ⟨g3, 0, none⟩) (n + 1) c3)
          have he9 := own_grown HE3.out hgs (fun g hg e => own_ne HE3.out HROW.out (by decide) (hg.trans e))
          have hx9 := grown_row hgs (row_ne HX.out HROW.out (by decide)) HX.out
          have HE9 := Lib.hid he9; have HO9 := Lib.hid ho9; have HR9 := Lib.hid hrs; have HX9 := Lib.hid hx9
          clear hgs hrs ho9 he9 hx9
          generalize w6.setCell ⟨p, 0, none⟩ (.slice (some ⟨g3, 0, none⟩) (n + 1) c3) = w7 at HE9 HO9 HR9 HX9 ⊢
          try refine ⟨trivial, ?_⟩
          clear hne
          show Exit.then _ _ _ _ _
          try simp only [Act.put, List.setIfInBounds_toArray, List.set_cons_succ, List.set_cons_zero]
          have hdl : (insM S.L x).length = (n + 1) := by rw [insM_len, HLE.out, HN.out]
          have hrk : nmK.At w7 (some ⟨g3, 0, none⟩) (insM S.L x).length (insM S.L x) := by rw [hdl, HLE.out, HDM.out]; exact RK.At.of_own HE9.out (fun y hy => by rcases List.mem_append.1 hy with hy | hy; exact HLO.out y (List.mem_of_mem_take hy); rcases List.mem_cons.1 hy with rfl | hy; exact HXO.out; exact HLO.out y (List.mem_of_mem_drop hy))
          have hgs3 : g3 < w7.heap.size := own_lt HE9.out rfl
          obtain ⟨_, _, e0, hc1, hc2⟩ := sl_own HE9.out
          injection e0 with e0 e1 e2; subst e2
          have hpl := lt_of_block H.out.row
          have hth : ThAt w7 p (B ++ [g3]) (N + 1) ⟨insM S.L x, S.came, S.due, S.was, S.now⟩ (some ⟨g3, 0, none⟩) ra c3 rc bn bs bg := H.out.turn HO9.out (by rw [hdl]; exact HR9.out) hrk (H.out.r_off HO9.out) (by rw [hdl]; exact ⟨hc1, hc2⟩) H.out.rc HNOW.out (fun g hg => List.mem_append_left _ hg) (fun g hg => by rcases List.mem_append.1 hg with hg | hg; exact Nat.lt_of_lt_of_le (H.out.lt g hg) HO9.out.size; rw [List.mem_singleton.1 hg]; exact hgs3) (fun y hy => by injection hy with hy; subst hy; refine ⟨by simp, ?_, _, _, rfl⟩; have := HGE3.out; simp only; omega) (fun y hy => ⟨List.mem_append_left _ (H.out.ra y hy).1, (H.out.ra y hy).2⟩) ⟨by rw [hdl]; omega, by have := H.out.len.2; omega⟩
          have hup : UpdO B w w7 (B ++ [g3]) := ⟨HO9.out.wide (fun y hy => by rw [List.mem_singleton.1 hy]; exact HPM.out), fun g hg => by rcases List.mem_append.1 hg with hg | hg; exact .inl hg; rw [List.mem_singleton.1 hg]; exact .inr HGE3.out⟩
          have HT := Lib.hid hth; have HU := Lib.hid hup; have HRW := Lib.hid hth.row
          have HGXB : Hid (gx ∉ B ++ [g3]) := Lib.hid (fun hm => by rcases List.mem_append.1 hm with hm | hm; (have := H.out.lt _ hm; have := HGX.out; omega); exact HGX3.out (List.mem_singleton.1 hm))
          clear hth hup hrk hgs3 hc1 hc2 hpl hdl
          go_upto_region 5 with fail
          refine put_maps _ HT HX9 HRX HXO.out hn1 hn2 (fun c a d v w h => by cases d <;> exact h) ?_
          rintro _ _ _ _ _ _ _ _ _ _ _ _ _ _ _ _ _ _ _ _ w99 HU2 HT2
          (try simp only [Exit.inBlock, Exit.then])
          refine bodyPost_end (results_none rfl _ _ _) rfl ?_
          exact ⟨rfl, _, _, _, _, _, HU.out.trans HU2.out, HT2.out⟩
      · obtain rfl : n = i := by omega
        go_upto_region 2 with fail
        have g0 : ∀ z : In (fun z => z.heap[p]? = some (.cells (thRow (.slice (some ⟨ab, ao, none⟩) n lc) bn bs S.now bg (.slice ra S.due.length rc)).toArray THT (0, 0))), z.w.cell? ⟨p, 0, none⟩ = some (.slice (some ⟨ab, ao, none⟩) n lc) := fun z => cell_row z.h 0 _ (thRow_l ..)
        refine wp_plan (.t 0 (.t 1 (.t 2 (.t 3 (.t 4 (.t 5 (.t 6 (.t 7 (.t 8 (.t 9 (.t 10 (.t 11 (.t 12 (.t 13 (.t 14 (.t 15 (.t 16 (.t 17 (.t 18 (.t 19 .done)))))))))))))))))))) (fun z => z.heap[p]? = some (.cells (thRow (.slice (some ⟨ab, ao, none⟩) n lc) bn bs S.now bg (.slice ra S.due.length rc)).toArray THT (0, 0))) (by kernel_rfl) (by kernel_rfl) (by kernel_rfl) (fun c a d v w h => by cases d <;> exact h) HROW.out ?_
        haveI hne : Nonempty (In (fun z => z.heap[p]? = some (.cells (thRow (.slice (some ⟨ab, ao, none⟩) n lc) bn bs S.now bg (.slice ra S.due.length rc)).toArray THT (0, 0)))) := ⟨⟨_, HROW.out⟩⟩
        repeat (first | (refine plan_t (by rfl) ?_; (first | go_big_quiet_skip | (go_big_quiet_want; go_big_quiet_op; go_big_quiet_on)); refine wpQuiet_nil ?_))
        clear hne g0
        show Exit.then _ _ _ _ _
        have hdr := (Below.refl wr.heap.size wr).drew
        replace HO := Lib.hid (HO.out.next hdr)
        replace HROW := Lib.hid (bl_row hdr (lt_of_block HROW.out) HROW.out)
        replace HD := Lib.hid (HD.out.below hdr)
        replace HX := Lib.hid (bl_row hdr (lt_of_block HX.out) HX.out)
        replace HQ := Lib.hid (bl_next HQ.out HQ.out.size hdr)
        clear hdr
        generalize wr.drew = w2 at HROW HD HX HQ HO ⊢
        have hdm : insM L x = L.take n ++ x :: L.drop n := by
          have := insM_at (l1 := L.take n) (l2 := L.drop n) (x := x) HA.out (fun y hy => by rw [List.drop_of_length_le (by rw [HN.out]; exact Nat.le_refl _)] at hy; cases hy)
          rw [List.take_append_drop] at this; exact this
        have HDM := Lib.hid hdm
        clear hdm
        obtain ⟨hlc, hlcm⟩ := HLC.out
        go_upto_region 4 with fail
        have g0 : ∀ z : In (fun y => y.heap[p]? = some (.cells (thRow (.slice (some ⟨ab, ao, none⟩) n lc) bn bs S.now bg (.slice ra S.due.length rc)).toArray THT (0, 0)) ∧ y.heap[gx]? = some (.cells RX.toArray 65 (0, 0))), z.w.cell? ⟨p, 0, none⟩ = some (.slice (some ⟨ab, ao, none⟩) n lc) := fun z => cell_row z.h.1 0 _ (thRow_l ..)
        refine wp_plan2 18 (.t 0 (.t 1 (.t 2 (.t 3 (.t 4 (.t 5 (.t 6 (.t 7 (.t 8 (.t 10 (.t 11 (.t 12 (.t 13 (.t 14 (.t 15 (.u 9 (.u 16 (.u 17 .done)))))))))))))))))) (.t 18 (.t 19 (.u 20 .done))) (fun y => y.heap[p]? = some (.cells (thRow (.slice (some ⟨ab, ao, none⟩) n lc) bn bs S.now bg (.slice ra S.due.length rc)).toArray THT (0, 0)) ∧ y.heap[gx]? = some (.cells RX.toArray 65 (0, 0))) (by kernel_rfl) (by kernel_rfl) (by kernel_rfl) (fun c a d v w h => by cases d <;> exact h) ⟨HROW.out, HX.out⟩ ?_
        have hb := (Below.refl w2.heap.size w2).drew
        replace HO := Lib.hid (HO.out.next hb)
        replace HROW := Lib.hid (bl_row hb (lt_of_block HROW.out) HROW.out)
        replace HD := Lib.hid (HD.out.below hb)
        replace HX := Lib.hid (bl_row hb (lt_of_block HX.out) HX.out)
        replace HQ := Lib.hid (bl_next HQ.out HQ.out.size hb)
        clear hb
        generalize w2.drew = w3 at HROW HD HX HQ HO ⊢
        haveI hne : Nonempty (In (fun y => y.heap[p]? = some (.cells (thRow (.slice (some ⟨ab, ao, none⟩) n lc) bn bs S.now bg (.slice ra S.due.length rc)).toArray THT (0, 0)) ∧ y.heap[gx]? = some (.cells RX.toArray 65 (0, 0)))) := ⟨⟨w3, ⟨HROW.out, HX.out⟩⟩⟩
        repeat (first | (refine plan_t_load (by rfl) (by kernel_rfl) 65 _ rfl gx 0 rfl RX _ (fun y hy => rngL hy.2) Try.underlying65 rfl (by rw [HL9.out]; rfl) ?_; simp only [Act.put, List.setIfInBounds_toArray, List.set_cons_succ, List.set_cons_zero]) | (refine plan_t (by rfl) ?_; (first | go_big_quiet_skip | (go_big_quiet_want; go_big_quiet_op; go_big_quiet_on)); refine wpQuiet_nil ?_))
        clear g0
        have HSUF : Hid (nmK.At w3 (if lc = n then (some ⟨ab, ao, none⟩ : Option Addr) else some ⟨ab, ao + n * 9, none⟩) 0 (L.drop n)) := Lib.hid (by rw [List.drop_of_length_le (by rw [HN.out]; exact Nat.le_refl _)]; exact RK.At.nil _ _)
        have HPRE : Hid (nmK.At w3 (some ⟨ab, ao, none⟩) n (L.take n)) := Lib.hid (HD.out.pre n (by omega))
        generalize (if lc = n then (some ⟨ab, ao, none⟩ : Option Addr) else some ⟨ab, ao + n * 9, none⟩) = dsx at HSUF ⊢
        refine plan_us (by rfl) (by kernel_rfl) ?_
        intro K hK
        refine wp_build_rk nmT _ rfl x HXO.out (by show Value.agg _ = _; rw [HRX.out]) ?_
        have hal := (Below.refl w3.heap.size w3).alloc (Nat.le_refl _) (.cells (nmK.flat [x]).toArray 65)
        have hee : (w3.alloc (.cells (nmK.flat [x]).toArray 65)).ownsRow 0 65 nmK.N (.slice (some ⟨w3.heap.size, 0, none⟩) 1 1) 1 (nmK.flat [x]) := own_one nmK _ _ x HXO.out
        have HGE : Hid (w.heap.size ≤ w3.heap.size) := Lib.hid HO.out.size
        have HGXE : Hid (gx ≠ w3.heap.size) := Lib.hid (Nat.ne_of_lt (lt_of_block HX.out))
        replace HO := Lib.hid (HO.out.next hal)
        replace HROW := Lib.hid (bl_row hal (lt_of_block HROW.out) HROW.out)
        replace HD := Lib.hid (HD.out.below hal)
        replace HX := Lib.hid (bl_row hal (lt_of_block HX.out) HX.out)
        replace HSUF := Lib.hid (HSUF.out.below hal)
        replace HPRE := Lib.hid (HPRE.out.below hal)
        have HE := Lib.hid hee
        have HGD : Hid (∀ x : Addr, ((some ⟨ab, ao, none⟩) : Option Addr) = some x → some x.block ≠ some w3.heap.size) := Lib.hid (fun x hx e => by injection e with e; have h8 := H.out.lt _ (H.out.la _ hx).1; have h9 := HGE.out; omega)
        refine hK _ _ ⟨⟨HROW.out, HX.out⟩, ?_⟩
        clear hK K hal hee
        simp only [Act.put, List.setIfInBounds_toArray, List.set_cons_succ, List.set_cons_zero]
        generalize w3.alloc (.cells (nmK.flat [x]).toArray 65) = w4 at HROW HD HX HSUF HPRE HO HE ⊢
        obtain ⟨ge, hge⟩ : ∃ g, w3.heap.size = g := ⟨_, rfl⟩
        rw [hge] at HE HGE HGXE HGD ⊢
        clear hge
        refine plan_us (by rfl) (by kernel_rfl) ?_
        intro K hK
        refine wp_append_rk nmT _ _ rfl 0 1 (.slice (some ⟨ge, 0, none⟩) 1 1) [x] rfl HE.out dsx 0 _ (L.drop n) rfl HSUF.out (by omega) (Nat.zero_le _) ?_
        intro v' w5 ho2 hg2 hor
        replace HROW := Lib.hid (grown_row hg2 (fun e => own_ne HE.out HROW.out (by decide) e.symm) HROW.out)
        replace HX := Lib.hid (grown_row hg2 (fun e => by have e2 : some gx = some ge := e; injection e2 with e2; exact HGXE.out e2) HX.out)
        replace HPRE := Lib.hid (HPRE.out.grown hg2 HGD.out)
        replace HO := Lib.hid (HO.out.fresh hg2 HGE.out)
        obtain ⟨ab2, ac2, rfl, _⟩ := sl_own ho2
        have hok2 : ∀ y ∈ x :: (L.drop n), nmK.ok y := fun y hy => by rcases List.mem_cons.1 hy with rfl | hy; exact HXO.out; exact HLO.out y (List.mem_of_mem_drop hy)
        have HE2 := Lib.hid (RK.At.of_own ho2 hok2)
        clear ho2 hor hg2 hok2
        refine hK _ _ ⟨⟨HROW.out, HX.out⟩, ?_⟩
        clear hK K
        simp only [Act.put, List.setIfInBounds_toArray, List.set_cons_succ, List.set_cons_zero]
        refine plan_us (by rfl) (by kernel_rfl) ?_
        intro K hK
        refine wp_append_full_rk (ops := #[]) (rest := []) nmT _ _ rfl (some ⟨ab, ao, none⟩) n (L.take n) rfl HPRE.out ab2 1 ac2 (x :: (L.drop n)) rfl HE2.out (by omega) (by omega) ?_
        intro c3 w6 ho2 hb2
        have hgz : w.heap.size ≤ w5.heap.size := HO.out.size
        have hgx3 : gx ≠ w5.heap.size := Nat.ne_of_lt (lt_of_block HX.out)
        replace HO := Lib.hid (HO.out.next hb2)
        replace HROW := Lib.hid (bl_row hb2 (lt_of_block HROW.out) HROW.out)
        replace HX := Lib.hid (bl_row hb2 (lt_of_block HX.out) HX.out)
        replace HE2 := Lib.hid (HE2.out.below hb2)
        have HE3 := Lib.hid ho2
        have HGE3 : Hid (w.heap.size ≤ w5.heap.size) := Lib.hid hgz
        have HGX3 := Lib.hid hgx3
        obtain ⟨g3, hg3⟩ : ∃ g, w5.heap.size = g := ⟨_, rfl⟩
        rw [hg3] at HE3 HGE3 HGX3 ⊢
        clear ho2 hb2 hgz hg3 hgx3
        refine hK _ _ ⟨⟨HROW.out, HX.out⟩, ?_⟩
        clear hK K
        simp only [Act.put, List.setIfInBounds_toArray, List.set_cons_succ, List.set_cons_zero]
        clear hne
        refine ⟨fun _ => True, trivial, ?_⟩
        haveI hne : Nonempty (In (fun _ => True)) := ⟨⟨w6, trivial⟩⟩
        repeat (first | (refine plan_t (by rfl) ?_; (first | go_big_quiet_skip | (go_big_quiet_want; go_big_quiet_op; go_big_quiet_on)); refine wpQuiet_nil ?_))
        refine plan_us (by rfl) (by kernel_rfl) ?_
        intro K hK
        have c0 := cell_row HROW.out 0 _ (thRow_l ..)
        have f0 := row_free HROW.out 0
        go_wp2_with fail
        clear c0 f0
        have hle : (n + 1) = (n + 1) := by omega
        try rw [hle] at HE3
        try rw [hle]
        have hgs := grown_setCell w6 p 0 (.slice (some ⟨g3, 0, none⟩) (n + 1) c3)
        have hrs := row_setL HROW.out 0 (.slice (some ⟨g3, 0, none⟩) (n + 1) c3)
        rw [thRow_setl] at hrs
        have ho9 := HO.out.setCell (k := 0) (List.mem_singleton.2 rfl) (.slice (some ⟨g3, 0, none⟩) (n + 1) c3)
        have he9 := own_grown HE3.out hgs (fun g hg e => own_ne HE3.out HROW.out (by decide) (hg.trans e))
        have hx9 := grown_row hgs (row_ne HX.out HROW.out (by decide)) HX.out
        have HE9 := Lib.hid he9; have HO9 := Lib.hid ho9; have HR9 := Lib.hid hrs; have HX9 := Lib.hid hx9
        clear hgs hrs ho9 he9 hx9
        generalize w6.setCell ⟨p, 0, none⟩ (.slice (some ⟨g3, 0, none⟩) (n + 1) c3) = w7 at HE9 HO9 HR9 HX9 ⊢
        try refine ⟨trivial, ?_⟩
        clear hne
        show Exit.then _ _ _ _ _
        try simp only [Act.put, List.setIfInBounds_toArray, List.set_cons_succ, List.set_cons_zero]
        have hdl : (insM S.L x).length = (n + 1) := by rw [insM_len, HLE.out, HN.out]
        have hrk : nmK.At w7 (some ⟨g3, 0, none⟩) (insM S.L x).length (insM S.L x) := by rw [hdl, HLE.out, HDM.out]; exact RK.At.of_own HE9.out (fun y hy => by rcases List.mem_append.1 hy with hy | hy; exact HLO.out y (List.mem_of_mem_take hy); rcases List.mem_cons.1 hy with rfl | hy; exact HXO.out; exact HLO.out y (List.mem_of_mem_drop hy))
        have hgs3 : g3 < w7.heap.size := own_lt HE9.out rfl
        obtain ⟨_, _, e0, hc1, hc2⟩ := sl_own HE9.out
        injection e0 with e0 e1 e2; subst e2
        have hpl := lt_of_block H.out.row
        have hth : ThAt w7 p (B ++ [g3]) (N + 1) ⟨insM S.L x, S.came, S.due, S.was, S.now⟩ (some ⟨g3, 0, none⟩) ra c3 rc bn bs bg := H.out.turn HO9.out (by rw [hdl]; exact HR9.out) hrk (H.out.r_off HO9.out) (by rw [hdl]; exact ⟨hc1, hc2⟩) H.out.rc HNOW.out (fun g hg => List.mem_append_left _ hg) (fun g hg => by rcases List.mem_append.1 hg with hg | hg; exact Nat.lt_of_lt_of_le (H.out.lt g hg) HO9.out.size; rw [List.mem_singleton.1 hg]; exact hgs3) (fun y hy => by injection hy with hy; subst hy; refine ⟨by simp, ?_, _, _, rfl⟩; have := HGE3.out; simp only; omega) (fun y hy => ⟨List.mem_append_left _ (H.out.ra y hy).1, (H.out.ra y hy).2⟩) ⟨by rw [hdl]; omega, by have := H.out.len.2; omega⟩
        have hup : UpdO B w w7 (B ++ [g3]) := ⟨HO9.out.wide (fun y hy => by rw [List.mem_singleton.1 hy]; exact HPM.out), fun g hg => by rcases List.mem_append.1 hg with hg | hg; exact .inl hg; rw [List.mem_singleton.1 hg]; exact .inr HGE3.out⟩
        have HT := Lib.hid hth; have HU := Lib.hid hup; have HRW := Lib.hid hth.row
        have HGXB : Hid (gx ∉ B ++ [g3]) := Lib.hid (fun hm => by rcases List.mem_append.1 hm with hm | hm; (have := H.out.lt _ hm; have := HGX.out; omega); exact HGX3.out (List.mem_singleton.1 hm))
        clear hth hup hrk hgs3 hc1 hc2 hpl hdl
        go_upto_region 5 with fail
        refine put_maps _ HT HX9 HRX HXO.out hn1 hn2 (fun c a d v w h => by cases d <;> exact h) ?_
        rintro _ _ _ _ _ _ _ _ _ _ _ _ _ _ _ _ _ _ _ _ w99 HU2 HT2
        (try simp only [Exit.inBlock, Exit.then])
        refine bodyPost_end (results_none rfl _ _ _) rfl ?_
        exact ⟨rfl, _, _, _, _, _, HU.out.trans HU2.out, HT2.out⟩
end Go.Proofs.Ytjdcmhclamjcjaa
namespace Go.Proofs.Ytjdcmhclamjcjaa
open Go.RowKit
set_option linter.unusedVariables false
set_option linter.unusedSimpArgs false

open Go.Maps (Keyed)
theorem own_addr {w : World} {B e s n c : Nat} {xs : List Value} {x : Addr} (h : w.ownsRow B e s (.slice (some x) n c) n xs) : ∃ b o, x = ⟨b, o, none⟩ := by
  rcases h.2 with ⟨e, _⟩ | ⟨g2, cap, cur, e, _, hrow, _⟩
  · cases e
  · injection e with e; injection e with e; exact ⟨_, _, e⟩
theorem fold_sorted : ∀ (l : List Nm) (d : List Int), d.Pairwise (· < ·) → (l.foldl (fun d x => dueM d x.1) d).Pairwise (· < ·)
  | [], d, h => h
  | x :: l, d, h => fold_sorted l _ (dueM_sorted h)
theorem ThAt.grownS {w y : World} {p N : Nat} {B : List Nat} {S : Th} {la ra : Option Addr} {lc rc bn bs bg : Nat} {a : Option Addr} {n c : Nat} (h : ThAt w p B N S la ra lc rc bn bs bg) (hg : w.grownBy y (Value.slice a n c).ownBlock) (ha : ∀ x, a = some x → x.block ∉ B) : ThAt y p B N S la ra lc rc bn bs bg := by
  cases a with
  | none => exact h.below (below_of_none hg)
  | some x => exact h.off (M := [x.block]) (Off.of_grown hg (fun g hg => by injection hg with hg; subst hg; simp)) (fun g hg hm => ha x rfl (by rw [← List.mem_singleton.1 hm]; exact hg))
theorem filter_take {α : Type} {L : List α} {i : Nat} {x : α} (hx : L[i]? = some x) (f : α → Bool) : (L.take (i + 1)).filter f = (L.take i).filter f ++ (if f x then [x] else []) := by
  rw [take_snd' hx, List.filter_append]; cases h : f x <;> simp [h]
set_option maxRecDepth 100000 in
set_option maxHeartbeats 4000000 in
theorem gone_put {x1 x2 x3 x4 x5 x7 x8 x9 x10 x11 x12 x13 x14 x15 x16 x17 x18 x19 x20 x21 x22 x23 x24 x25 x26 x27 x28 x29 x30 x31 x32 x33 x34 x35 x36 x37 x38 x39 x40 x41 x42 x43 x44 x45 x46 x47 x48 x49 x50 x51 x52 x53 x54 x55 x56 x57 x58 : Value} {p gx N lc rc bn bs bg : Nat} {B : List Nat} {S : Th} {la ra : Option Addr} {x : Nm} {RX : List Value} (w : World) {Q : Exit → Act → World → Prop}
    (HT : Hid (ThAt w p B N S la ra lc rc bn bs bg)) (HX : Hid (w.heap[gx]? = some (.cells RX.toArray 65 (0, 0)))) (HRX : Hid (nmK.enc x = RX)) (hx : nmK.ok x)
    (hQp : ∀ c a d v w, Q (.panic c) (a.put d v) w → Q (.panic c) a w)
    (hQ : ∀ (y19 y20 y21 y22 y23 y24 : Value) (w' : World), Hid (UpdO B w w' B) → Hid (ThAt w' p B N ⟨S.L, S.came, S.due, S.was ++ [x.1], S.now⟩ la ra lc rc bn bs bg) → Hid (Off [bg] w w') → Q .normal ⟨List.toArray (.pointer (some ⟨p, 0, none⟩) :: x1 :: x2 :: x3 :: x4 :: x5 :: .pointer (some ⟨gx, 0, none⟩) :: x7 :: x8 :: x9 :: x10 :: x11 :: x12 :: x13 :: x14 :: x15 :: x16 :: x17 :: x18 :: y19 :: y20 :: y21 :: y22 :: y23 :: y24 :: x25 :: x26 :: x27 :: x28 :: x29 :: x30 :: x31 :: x32 :: x33 :: x34 :: x35 :: x36 :: x37 :: x38 :: x39 :: x40 :: x41 :: x42 :: x43 :: x44 :: x45 :: x46 :: x47 :: x48 :: x49 :: x50 :: x51 :: x52 :: x53 :: x54 :: x55 :: x56 :: x57 :: x58 :: []), []⟩ w') :
    Code.wp Try.prog (((Try.f37.body.bind (subRegion 5)).getD .skip)) Q ⟨List.toArray (.pointer (some ⟨p, 0, none⟩) :: x1 :: x2 :: x3 :: x4 :: x5 :: .pointer (some ⟨gx, 0, none⟩) :: x7 :: x8 :: x9 :: x10 :: x11 :: x12 :: x13 :: x14 :: x15 :: x16 :: x17 :: x18 :: x19 :: x20 :: x21 :: x22 :: x23 :: x24 :: x25 :: x26 :: x27 :: x28 :: x29 :: x30 :: x31 :: x32 :: x33 :: x34 :: x35 :: x36 :: x37 :: x38 :: x39 :: x40 :: x41 :: x42 :: x43 :: x44 :: x45 :: x46 :: x47 :: x48 :: x49 :: x50 :: x51 :: x52 :: x53 :: x54 :: x55 :: x56 :: x57 :: x58 :: []), []⟩ w := by
  have HK := Lib.hid hQ; have HKP := Lib.hid hQp
  clear hQ hQp
  conv => arg 2; whnf
  have HXO := Lib.hid hx
  have hxs := hx.1
  clear hx
  have HROW := Lib.hid HT.out.row
  have HNO := Lib.hid HT.out.now
  have g1 : ∀ z : In (fun y => y.heap[p]? = some (.cells (thRow (.slice la S.L.length lc) bn bs S.now bg (.slice ra S.due.length rc)).toArray THT (0, 0)) ∧ y.heap[gx]? = some (.cells RX.toArray 65 (0, 0))), z.w.cell? ⟨p, 12, none⟩ = some (.map (some bg)) := fun z => cell_row z.h.1 12 _ (thRow_g _ _ _ _ _ HNO.out)
  have g3 : ∀ z : In (fun y => y.heap[p]? = some (.cells (thRow (.slice la S.L.length lc) bn bs S.now bg (.slice ra S.due.length rc)).toArray THT (0, 0)) ∧ y.heap[gx]? = some (.cells RX.toArray 65 (0, 0))), z.w.cell? ⟨gx, 0, none⟩ = some (.int .u64 x.1) := fun z => cell_row z.h.2 0 _ (nm_head HRX.out)
  refine wp_plan (.t 0 (.t 1 (.t 2 (.t 3 (.t 4 (.t 5 (.u 6 .done))))))) (fun y => y.heap[p]? = some (.cells (thRow (.slice la S.L.length lc) bn bs S.now bg (.slice ra S.due.length rc)).toArray THT (0, 0)) ∧ y.heap[gx]? = some (.cells RX.toArray 65 (0, 0))) (by kernel_rfl) (by kernel_rfl) (by kernel_rfl) (fun c a d v w h => by first | (cases d <;> exact h) | exact HKP.out c a d v w h) ⟨HROW.out, HX.out⟩ ?_
  have HT1 := Lib.hid (HT.out.below (Below.refl w.heap.size w).drew)
  have HS : Hid (w.drew.heap[p]? = _ ∧ w.drew.heap[gx]? = _) := Lib.hid ⟨HROW.out, HX.out⟩
  have HB1 := Lib.hid (Below.refl w.heap.size w).drew
  generalize w.drew = w1 at HT1 HS HB1 ⊢
  haveI hne : Nonempty (In (fun y => y.heap[p]? = some (.cells (thRow (.slice la S.L.length lc) bn bs S.now bg (.slice ra S.due.length rc)).toArray THT (0, 0)) ∧ y.heap[gx]? = some (.cells RX.toArray 65 (0, 0)))) := ⟨⟨w1, HS.out⟩⟩
  repeat (first | (refine plan_t (by rfl) ?_; (first | go_big_quiet_skip | (go_big_quiet_want; go_big_quiet_op; go_big_quiet_on)); refine wpQuiet_nil ?_))
  clear g1 g3
  obtain ⟨ng, fg, hg, hgf⟩ := HT1.out.gn
  have HGm := Lib.hid hg; have HGF := Lib.hid hgf
  clear hg hgf
  have hpb : p ≠ bg := fun e => hm_ne HGm.out HS.out.1 e.symm
  have hgb : gx ≠ bg := fun e => hm_ne HGm.out HS.out.2 e.symm
  refine plan_us (by rfl) (by kernel_rfl) ?_
  intro K hK
  refine wp_update_hm (v := .bool true) _ _ _ (.inl rfl) keyU Try.underlying71 rfl HGm.out rfl rfl (keyUof hxs) ?_
  intro w5 hn5 hg9
  have hs2 := And.intro (grown_row hg9 (fun e => hpb (by injection e)) HS.out.1) (grown_row hg9 (fun e => hgb (by injection e)) HS.out.2)
  refine hK _ _ ⟨hs2, ?_⟩
  clear hK K hne
  have hof : Off [bg] w w5 := (Off.of_below (M := [bg]) HB1.out).trans (N := [bg]) (Off.of_grown hg9 (fun g hg => by injection hg with hg; subst hg; simp)) (fun z hz => .inl hz)
  have hmp : ∀ g ∈ [bg], ∃ es c, w.heap[g]? = some (.map es c) := fun z hz => by rw [List.mem_singleton.1 hz]; obtain ⟨_, _, h1, _⟩ := HT.out.gn; exact hm_map h1
  obtain ⟨nn, fn, hn, hnf⟩ := HT.out.nm
  obtain ⟨ns, fs, hs, hsf⟩ := HT.out.sq
  have hup : UpdO B w w5 B := ⟨hof.wide (fun z hz => by rw [List.mem_singleton.1 hz]; exact HT.out.bm.2.2), fun g hg => .inl hg⟩
  have hth : ThAt w5 p B N ⟨S.L, S.came, S.due, S.was ++ [x.1], S.now⟩ la ra lc rc bn bs bg := ⟨hs2.1, rk_maps hof hmp HT.out.l, rk_maps hof hmp HT.out.r, HT.out.lc, HT.out.rc, ⟨_, _, hn.off hof (by simpa using HT.out.ne.2.1), hnf⟩, ⟨_, _, hs.off hof (by simpa using HT.out.ne.2.2), hsf⟩, ⟨_, _, hn5, HGF.out.put x.1⟩, HT.out.ne, HT.out.now, HT.out.pm, HT.out.bm, HT.out.la, HT.out.ra, fun g hg => Nat.lt_of_lt_of_le (HT.out.lt g hg) hof.size, HT.out.len⟩
  show Q _ _ _
  exact HK.out _ _ _ _ _ _ w5 (Lib.hid hup) (Lib.hid hth) (Lib.hid hof)
end Go.Proofs.Ytjdcmhclamjcjaa
namespace Go.Proofs.Ytjdcmhclamjcjaa
open Go.RowKit
set_option linter.unusedVariables false
set_option linter.unusedSimpArgs false

open Go.Maps (Keyed)
set_option maxRecDepth 100000 in
set_option maxHeartbeats 16000000 in
theorem drop_on (w : World) (p : Nat) (B : List Nat) (N : Nat) (S : Th) (la ra : Option Addr) (lc rc bn bs bg : Nat) (h : ThAt w p B N S la ra lc rc bn bs bg) (is : Nm → Bool) (cap : Nat) (o : Obj) (hcap : w.heap[cap]? = some o) (hcb : cap ∉ B)
    (HF : ∀ (W : World) (x : Nm), W.heap[cap]? = some o → nmK.ok x → Calls Try.prog 38 #[.agg (nmK.enc x).toArray, .pointer (some ⟨cap, 0, none⟩)] W fun e W' => e = .returned (.bool (is x)) ∧ Below W.heap.size W W')
    (hsrt : S.due.Pairwise (· < ·)) (hN : N + S.L.length < 100000) :
    Calls Try.prog 37 #[.pointer (some ⟨p, 0, none⟩), .func (.func 38) #[] #[.pointer (some ⟨cap, 0, none⟩)]] w fun e w' => e = .returned (.tuple #[]) ∧ ThU w p B bn bs bg w' (N + S.L.length) (dropM S is) := by
  have H := Lib.hid h
  have HFH := Lib.hid HF; have HCAP := Lib.hid hcap; have HCB := Lib.hid hcb; have HSR := Lib.hid hsrt; have HNOW := Lib.hid h.now
  have HROW := Lib.hid h.row; have HD := Lib.hid h.l; have HLC := Lib.hid h.lc
  have HT0 := Lib.hid h
  obtain ⟨n, hn⟩ : ∃ n, S.L.length = n := ⟨_, rfl⟩
  have HN := Lib.hid hn
  obtain ⟨L, hL⟩ : ∃ d, S.L = d := ⟨_, rfl⟩
  have HLE := Lib.hid hL
  rw [hn] at HROW HD HLC hN ⊢
  rw [hL] at HD HN
  have HLO := Lib.hid HD.out.2.1
  have hcl := lt_of_block hcap
  have HST : Hid (ThAt w p B (N + 0) ⟨S.L, S.came, ((L.take 0).filter is).foldl (fun d x => dueM d x.1) S.due, S.was ++ ((L.take 0).filter is).map Prod.fst, S.now⟩ la ra lc rc bn bs bg) := Lib.hid (by simp only [List.take_zero, List.filter_nil, List.foldl_nil, List.map_nil, List.append_nil]; exact h)
  clear h hn hL hcap hcb hsrt HF
  go_enter Try.func37, Try.ntmps37
  have c0 := cell_row HROW.out 0 _ (thRow_l ..)
  go_wp2_with fail
  clear c0 HROW
  have HU0 : Hid (UpdO B w w B) := Lib.hid (UpdO.refl B w)
  have HO0 : Hid (w.ownsRow 0 65 nmK.N (.slice none 0 0) 0 (nmK.flat ((L.take 0).filter fun x => !is x))) := Lib.hid ⟨rfl, .inl ⟨rfl, rfl⟩⟩
  go_loopw [4, 12] (fun s4 s12 wr => ∃ (i k cl N2 rc2 : Nat) (al ra2 : Option Addr) (B2 : List Nat), s4 = .slice al k cl ∧ s12 = .int .i64 i ∧ i ≤ n ∧ k ≤ i ∧ N2 ≤ N + i ∧ Hid (UpdO B w wr B2) ∧ Hid (ThAt wr p B2 N2 ⟨S.L, S.came, ((L.take i).filter is).foldl (fun d x => dueM d x.1) S.due, S.was ++ ((L.take i).filter is).map Prod.fst, S.now⟩ la ra2 lc rc2 bn bs bg) ∧ Hid (wr.ownsRow 0 65 nmK.N (.slice al k cl) k (nmK.flat ((L.take i).filter fun x => !is x))) ∧ Hid (∀ x, al = some x → w.heap.size ≤ x.block ∧ x.block ∉ B2)) (fun _ s _ => n - (intOf s).toNat)
  case atStart => exact ⟨0, 0, 0, N, rc, none, ra, B, rfl, rfl, by omega, by omega, by omega, HU0, HST, HO0, Lib.hid (fun x hx => by cases hx)⟩
  case round =>
    clear HU0 HST HO0
    obtain ⟨i, k, cl, N2, rc2, al, ra2, B2, rfl, rfl, hi, hk, hN2, HU, HST, HO, HAL⟩ := hrel
    by_cases hlt : i < n
    · skip
      have hla : nmK.At wr la n L := by have h9 := HST.out.l; simp only at h9; rwa [HLE.out, HN.out] at h9
      obtain ⟨ab, ao, x, rfl, _, hx, hok, hrg⟩ := hla.at hlt
      have HX := Lib.hid hx; have HOK := Lib.hid hok; have HRG := Lib.hid hrg
      have hxu := hok.1
      clear hx hok hrg hla
      have hl9 := nmK.len x HOK.out; have ho9 := nmK.one x HOK.out
      have HFX := Lib.hid (fun W hW => HFH.out W x hW HOK.out)
      obtain ⟨RX, hRX⟩ : ∃ R, nmK.enc x = R := ⟨_, rfl⟩
      have HRX := Lib.hid hRX
      rw [hRX] at hl9 ho9 HFX
      rw [hRX] at HRG
      have HL9 : Hid (RX.length = 9) := Lib.hid hl9; have HO9 := Lib.hid ho9
      clear hl9 ho9 hRX
      go_upto_region 4 with (first | (refine wpList_load_mid rfl 65 _ rfl ab (ao + i * 9) rfl RX _ (HRG.out) Try.underlying65 rfl (by rw [HL9.out]; rfl) ?_) | (refine wpList_store_row rfl 65 _ _ rfl wr.heap.size rfl RX [.int .u64 0, .int .u8 0, .int .u8 0, .int .u8 0, .int .u8 0, .int .u8 0, .int .u8 0, .int .u8 0, .int .u8 0] rfl 65 (heap_alloc_new _ _) (by rw [HL9.out]; rfl) (by rw [HL9.out]; rfl) HO9.out ?_; intro w5 hr5 hg5) | fail)
      have hb5 := below_boxed hg5
      have HX5 := Lib.hid hr5
      have HNB : Hid (wr.heap.size ∉ B2) := Lib.hid (fun hm => by have := HST.out.lt _ hm; omega)
      have HNA : Hid (∀ x, al = some x → x.block ≠ wr.heap.size) := Lib.hid (fun x hx => by subst hx; have := own_ltS HO.out rfl; omega)
      have HCW : Hid (w5.heap[cap]? = some o) := Lib.hid ((hb5.block cap (Nat.lt_of_lt_of_le hcl HU.out.off.size)).trans ((HU.out.off.block cap hcl HCB.out).trans HCAP.out))
      replace HU := Lib.hid (HU.out.next hb5); replace HST := Lib.hid (HST.out.below hb5); replace HO := Lib.hid (own_below HO.out hb5)
      clear hb5 hg5 hr5
      obtain ⟨gx, hgx⟩ : ∃ g, wr.heap.size = g := ⟨_, rfl⟩
      rw [hgx] at HX5 HNB HNA ⊢
      clear hgx
      try simp only [Act.put]
      go_wp2_with (first | (refine wpList_load_mid rfl 65 _ rfl gx (0) rfl RX _ (rngL HX5.out) Try.underlying65 rfl (by rw [HL9.out]; rfl) ?_) | fail)
      refine Calls.mono (HFX.out _ HCW.out) ?_
      rintro e w6 ⟨rfl, hb6⟩
      replace HX5 := Lib.hid (bl_row hb6 (lt_of_block HX5.out) HX5.out); replace HU := Lib.hid (HU.out.next hb6); replace HST := Lib.hid (HST.out.below hb6); replace HO := Lib.hid (own_below HO.out hb6)
      clear hb6 HCW HFX
      cases his : is x
      · skip
        have HIS := Lib.hid his
        clear his
        go_wp2_with (first | (refine wpList_load_mid rfl 65 _ rfl gx (0) rfl RX _ (rngL HX5.out) Try.underlying65 rfl (by rw [HL9.out]; rfl) ?_) | (refine wpList_build_rk nmT rfl _ rfl x HOK.out (by show Value.agg _ = _; rw [HRX.out]) ?_) | (at_builtin; refine wpList_append_rk nmT rfl _ _ rfl 0 k (.slice al k cl) ((L.take i).filter fun x => !is x) rfl (own_below HO.out ((Below.refl _ _).alloc (Nat.le_refl _) _)) _ 1 1 [x] rfl (RK.At.of_row (K := nmK) (t := 65) (l := [x]) (heap_alloc_new _ _) (fun y hy => by rw [List.mem_singleton.1 hy]; exact HOK.out)) (by omega) (Nat.zero_le _) ?_; intro v' w' hown hgrow hor; obtain ⟨b2, c2, rfl, _⟩ := sl_own hown; have HO6 := Lib.hid hown; have HG6 := Lib.hid hgrow; have HOR := Lib.hid hor; clear hown hgrow hor) | fail)
        have hal := (Below.refl w6.heap.size w6).alloc (Nat.le_refl _) (.cells (nmK.flat [x]).toArray 65)
        have hu7 := HU.out.next hal
        have hs7 := HST.out.below hal
        have HS8 := Lib.hid (hs7.grownS HG6.out (fun x hx => (HAL.out x hx).2))
        have HU8 := Lib.hid (UpdO.grownF hu7 HG6.out (fun x hx => (HAL.out x hx).1))
        have hsz : w.heap.size ≤ w6.heap.size := HU.out.off.size
        have HAL2 : Hid (∀ x, b2 = some x → w.heap.size ≤ x.block ∧ x.block ∉ B2) := Lib.hid (fun z hz => by subst hz; rcases HOR.out with e | e; (cases al with | none => cases e | some y => have e2 : some z.block = some y.block := e; injection e2 with e2; rw [e2]; exact HAL.out y rfl); (have e2 : some z.block = some _ := e; injection e2 with e2; rw [e2]; exact ⟨Nat.le_trans hsz (hal.size), fun hm => by have := hs7.lt _ hm; omega⟩))
        clear hal hu7 hs7 hsz HO HU HST
        have hft := filter_take HX.out (fun x => !is x)
        rw [HIS.out] at hft
        have hft2 := filter_take HX.out is
        rw [HIS.out] at hft2
        simp only [Bool.not_false, if_true, Bool.false_eq_true, if_false, List.append_nil] at hft hft2
        go_roundw
        case rel => exact ⟨i + 1, k + 1, c2, N2, rc2, b2, ra2, B2, rfl, by go_num, by omega, by omega, by omega, HU8, Lib.hid (by rw [hft2]; exact HS8.out), Lib.hid (by rw [hft]; exact HO6.out), HAL2⟩
        case measure => simp [intOf]; omega
      · skip
        have HIS := Lib.hid his
        clear his
        go_upto_region 5 with fail
        refine gone_put _ HST HX5 HRX HOK.out (fun c a d v w h => by cases d <;> exact h) ?_
        rintro _ _ _ _ _ _ w7 HU7 HT7 HF7
        have HX7 := Lib.hid (HF7.out.row HX5.out (by rw [List.mem_singleton]; intro e; exact HNB.out (by rw [e]; exact HST.out.bm.2.2)))
        have hx0 := cell_row HX7.out 0 _ (nm_head HRX.out)
        go_wp2_with fail
        refine Calls.mono (ask_any w7 p B2 N2 _ _ _ _ _ _ _ _ HT7.out x.1 hxu (fold_sorted _ _ HSR.out) (by omega)) ?_
        rintro e w8 ⟨rfl, B3, ra3, rc3, hu8, ht8⟩
        have HO8 : Hid (w8.ownsRow 0 65 nmK.N (.slice al k cl) k (nmK.flat ((L.take i).filter fun x => !is x))) := Lib.hid (own_off (own_off HO.out HF7.out (fun g hg hm => by cases al with | none => simp [Value.ownBlock] at hg | some z => simp [Value.ownBlock] at hg; exact (HAL.out z rfl).2 (by rw [hg, List.mem_singleton.1 hm]; exact HST.out.bm.2.2))) hu8.off (fun g hg hm => by cases al with | none => simp [Value.ownBlock] at hg | some z => simp [Value.ownBlock] at hg; exact (HAL.out z rfl).2 (by rw [hg]; exact hm)))
        have HU8 := Lib.hid ((HU.out.trans HU7.out).trans hu8)
        have HAL2 : Hid (∀ x, al = some x → w.heap.size ≤ x.block ∧ x.block ∉ B3) := Lib.hid (fun z hz => ⟨(HAL.out z hz).1, fun hm => by rcases hu8.new _ hm with h | h; exact (HAL.out z hz).2 h; have h9 := HO.out; rw [hz] at h9; have := own_ltS h9 rfl; have := HF7.out.size; omega⟩)
        have HT8 := Lib.hid ht8
        clear hu8 ht8 hx0
        have hft := filter_take HX.out (fun x => !is x)
        rw [HIS.out] at hft
        have hft2 := filter_take HX.out is
        rw [HIS.out] at hft2
        simp only [Bool.not_true, if_true, Bool.false_eq_true, if_false, List.append_nil] at hft hft2
        go_wp2_with fail
        go_roundw
        case rel => exact ⟨i + 1, k, cl, N2 + 1, rc3, al, ra3, B3, rfl, by go_num, by omega, by omega, by omega, HU8, Lib.hid (by rw [hft2]; have h9 := HT8.out; simp only [List.foldl_append, List.map_append, List.foldl_cons, List.foldl_nil, List.map_cons, List.map_nil, ← List.append_assoc] at h9 ⊢; exact h9), Lib.hid (by rw [hft]; exact HO8.out), HAL2⟩
        case measure => simp [intOf]; omega
    · obtain rfl : n = i := by omega
      have hlt9 : L.take n = L := List.take_of_length_le (by rw [HN.out]; exact Nat.le_refl _)
      rw [hlt9] at HST HO
      obtain ⟨LL, hLL⟩ : ∃ l, (L.filter fun x => !is x) = l := ⟨_, rfl⟩
      have HLL := Lib.hid hLL
      rw [hLL] at HO
      clear hLL hlt9
      obtain ⟨WS, hWS⟩ : ∃ l, S.was ++ (L.filter is).map Prod.fst = l := ⟨_, rfl⟩
      have HWS := Lib.hid hWS
      rw [hWS] at HST
      clear hWS
      obtain ⟨DU, hDU⟩ : ∃ l, (L.filter is).foldl (fun d x => dueM d x.1) S.due = l := ⟨_, rfl⟩
      have HDU := Lib.hid hDU
      rw [hDU] at HST
      clear hDU
      have hlk : LL.length = k := by have h9 := HO.out.1; rw [nmK.flat_len LL (fun y hy => HLO.out y (by rw [← HLL.out] at hy; exact (List.mem_filter.1 hy).1))] at h9; exact Nat.eq_of_mul_eq_mul_right nmK.pos h9
      have HLK := Lib.hid hlk
      clear hlk
      have HR := Lib.hid HST.out.row
      have c0 := cell_row HR.out 0 _ (thRow_l ..)
      have f0 := row_free HR.out 0
      go_upto_region 10 with fail
      clear c0 f0
      have hgs := grown_setCell wr p 0 (.slice al k cl)
      have hrs := row_setL HR.out 0 (.slice al k cl)
      rw [thRow_setl] at hrs
      have ho9 := (Off.refl [p] wr).setCell (k := 0) (List.mem_singleton.2 rfl) (.slice al k cl)
      have HAL0 := Lib.hid (fun x hx => (HAL.out x hx).1)
      obtain ⟨_, _, e0, hcl1, hcl2⟩ := sl_own HO.out
      injection e0 with e0 e1 e2; subst e2; clear e0 e1
      have hoo := own_grown HO.out hgs (fun g hg e => own_ne HO.out HR.out (by decide) (hg.trans e))
      have hrk := RK.At.of_own hoo (fun y hy => HLO.out y (by rw [← HLL.out] at hy; exact (List.mem_filter.1 hy).1))
      have hsz : w.heap.size ≤ wr.heap.size := HU.out.off.size
      have hpp := lt_of_block H.out.row
      have hth : ThAt (wr.setCell ⟨p, 0, none⟩ (.slice al k cl)) p (B2 ++ blkS al) (N + n) ⟨LL, S.came, DU, WS, S.now⟩ al ra2 cl rc2 bn bs bg := HST.out.turn ho9 (by rw [HLK.out]; exact hrs) (by rw [HLK.out]; exact hrk) (HST.out.r_off ho9) (by rw [HLK.out]; exact ⟨hcl1, hcl2⟩) HST.out.rc HST.out.now (fun g hg => List.mem_append_left _ hg) (fun g hg => by rcases List.mem_append.1 hg with hg | hg; (have := HST.out.lt g hg; simpa using this); (obtain ⟨y, rfl, rfl⟩ := blkS_mem.1 hg; have := own_ltS hoo rfl; exact this)) (fun y hy => ⟨List.mem_append_right _ (blkS_mem.2 ⟨y, hy, rfl⟩), fun e => by have := HAL0.out y hy; omega, by subst hy; exact own_addr HO.out⟩) (fun y hy => ⟨List.mem_append_left _ (HST.out.ra y hy).1, (HST.out.ra y hy).2⟩) ⟨by rw [HLK.out]; omega, by have := HST.out.len.2; simp only at this; omega⟩
      have hup : UpdO B w (wr.setCell ⟨p, 0, none⟩ (.slice al k cl)) (B2 ++ blkS al) := ⟨HU.out.off.trans (N := [p]) ho9 (fun x hx => by rw [List.mem_singleton.1 hx]; exact .inl H.out.pm), fun g hg => by rcases List.mem_append.1 hg with hg | hg; exact HU.out.new g hg; (obtain ⟨y, rfl, rfl⟩ := blkS_mem.1 hg; exact .inr (HAL0.out y rfl))⟩
      have HT9 := Lib.hid hth; have HU9 := Lib.hid hup
      clear hth hup hoo hrk hrs ho9 hgs hsz hpp
      generalize wr.setCell ⟨p, 0, none⟩ (.slice al k cl) = w9 at HT9 HU9 ⊢
      clear HO HU HST HR HD HFH HT0
      have hdrop : dropM S is = ⟨LL, S.came, DU, WS, if S.now.1 ∈ WS ∧ 0 < LL.length then LL.headD S.now else S.now⟩ := by unfold dropM; simp only [HLE.out, HLL.out, HWS.out, HDU.out]
      have HDR := Lib.hid hdrop
      clear hdrop
      have hns := HNOW.out.1
      have HR9 := Lib.hid HT9.out.row
      obtain ⟨ng, fg, hg, hgf⟩ := HT9.out.gn
      have HGm := Lib.hid hg
      have hgv := hgf S.now.1 hns
      clear hg hgf
      try simp only [Act.put]
      rw [HLK.out] at HR9
      by_cases hin : S.now.1 ∈ WS
      · skip
        rw [if_pos hin] at hgv
        by_cases hk0 : 0 < k
        · skip
          have g12 : ∀ z : In (fun y => y.heap[p]? = some (.cells (thRow (.slice al k cl) bn bs S.now bg (.slice ra2 DU.length rc2)).toArray THT (0, 0)) ∧ HM Try.prog U64T y bg ng fg), z.w.cell? ⟨p, 12, none⟩ = some (.map (some bg)) := fun z => cell_row z.h.1 12 _ (thRow_g _ _ _ _ _ HNOW.out)
          have g3 : ∀ z : In (fun y => y.heap[p]? = some (.cells (thRow (.slice al k cl) bn bs S.now bg (.slice ra2 DU.length rc2)).toArray THT (0, 0)) ∧ HM Try.prog U64T y bg ng fg), z.w.cell? ⟨p, 3, none⟩ = some (.int .u64 S.now.1) := fun z => cell_row z.h.1 3 _ (thRow_w ..)
          refine wp_plan (.t 0 (.t 1 (.t 2 (.t 3 (.t 4 (.t 5 (.t 6 (.t 7 (.t 8 (.t 9 (.t 10 (.t 11 (.t 12 (.t 13 (.t 14 .done))))))))))))))) (fun y => y.heap[p]? = some (.cells (thRow (.slice al k cl) bn bs S.now bg (.slice ra2 DU.length rc2)).toArray THT (0, 0)) ∧ HM Try.prog U64T y bg ng fg) (by kernel_rfl) (by kernel_rfl) (by kernel_rfl) (fun c a d v w h => by cases d <;> exact h) ⟨HR9.out, HGm.out.below (Below.refl _ _).drew⟩ ?_
          haveI hne : Nonempty (In (fun y => y.heap[p]? = some (.cells (thRow (.slice al k cl) bn bs S.now bg (.slice ra2 DU.length rc2)).toArray THT (0, 0)) ∧ HM Try.prog U64T y bg ng fg)) := ⟨⟨w9, ⟨HR9.out, HGm.out⟩⟩⟩
          repeat (first | (refine plan_t (by rfl) ?_; (first | go_big_quiet_skip | (go_big_quiet_want; go_big_quiet_op; go_big_quiet_on)); refine wpQuiet_nil ?_))
          refine plan_t_hm (z := .bool false) (key := .int .u64 S.now.1) (f := fg) (by rfl) (by kernel_rfl) _ _ _ rfl keyU Try.underlying71 zeroB rfl rfl (keyUof hns) (fun y hy => ⟨_, hy.2⟩) ?_
          rw [hgv]
          simp only [Act.put, List.setIfInBounds_toArray, List.set_cons_succ, List.set_cons_zero]
          simp only [Option.getD_some, Option.getD_none, Bool.false_eq_true, if_false]
          repeat (first | (refine plan_t (by rfl) ?_; (first | go_big_quiet_skip | (go_big_quiet_want; go_big_quiet_op; go_big_quiet_on)); refine wpQuiet_nil ?_))
          clear hne g12 g3
          show Exit.then _ _ _ _ _
          have hdr := (Below.refl w9.heap.size w9).drew
          have HT10 := Lib.hid (HT9.out.below hdr); have HU10 := Lib.hid (HU9.out.next hdr)
          clear hdr HR9 HGm
          generalize w9.drew = w10 at HT10 HU10 ⊢
          obtain ⟨hb, ho, x0, rfl, _, hx0, hok0, hrg0⟩ := HT10.out.l.at (j := 0) (by rw [HLK.out]; exact hk0)
          simp only at hx0
          rw [show ho + 0 * nmK.N = ho by rw [Nat.zero_mul, Nat.add_zero]] at hrg0
          have HX0 := Lib.hid hx0; have HOK0 := Lib.hid hok0; have hl9 := nmK.len x0 hok0; have ho9 := nmK.one x0 hok0
          obtain ⟨R0, hR0⟩ : ∃ R, nmK.enc x0 = R := ⟨_, rfl⟩
          have HR0 := Lib.hid hR0
          rw [hR0] at hl9 ho9 hrg0
          have HL9 : Hid (R0.length = 9) := Lib.hid hl9; have HO9 := Lib.hid ho9; have HRG0 := Lib.hid hrg0
          clear hl9 ho9 hrg0 hx0 hok0 hR0
          have hrow : w10.heap[p]? = some (.cells (([.slice (some ⟨hb, ho, none⟩) k cl, .map (some bn), .map (some bs)] : List Value) ++ (nmK.enc S.now ++ ([.map (some bg), .slice ra2 DU.length rc2] : List Value))).toArray THT (0, 0)) := by have h9 := HT10.out.row; simp only [HLK.out] at h9; unfold thRow at h9; rw [List.append_assoc] at h9; exact h9
          have hnl := nmK.len S.now HNOW.out
          obtain ⟨R1, hR1⟩ : ∃ R, nmK.enc S.now = R := ⟨_, rfl⟩
          rw [hR1] at hrow hnl
          have HROW := Lib.hid hrow; have HNL : Hid (R1.length = 9) := Lib.hid hnl
          clear hrow hnl hR1
          go_wp2_with (first | (refine wpList_load_mid rfl 65 _ rfl hb (ho) rfl R0 _ (HRG0.out) Try.underlying65 rfl (by rw [HL9.out]; rfl) ?_) | (refine wpList_store_part rfl 65 _ _ rfl p 3 rfl R0 THT [.slice (some ⟨hb, ho, none⟩) k cl, .map (some bn), .map (some bs)] R1 [.map (some bg), .slice ra2 DU.length rc2] rfl HROW.out rfl (by rw [HNL.out, HL9.out]) (by rw [HL9.out]; rfl) HO9.out ?_; intro w11 hr hg; have HR11 := Lib.hid hr; have HG11 := Lib.hid hg; clear hr hg) | fail)
          (try simp only [Exit.inBlock, Exit.then])
          refine bodyPost_end (results_none rfl _ _ _) rfl ?_
          have ho11 : Off [p] w10 w11 := Off.of_grown HG11.out (fun g hg => by injection hg with hg; subst hg; simp)
          have hrow : w11.heap[p]? = some (.cells (thRow (.slice (some ⟨hb, ho, none⟩) LL.length cl) bn bs x0 bg (.slice ra2 DU.length rc2)).toArray THT (0, 0)) := by have h9 := HR11.out; rw [← HR0.out] at h9; unfold thRow; rw [HLK.out, List.append_assoc]; exact h9
          have hth := HT10.out.turn ho11 hrow (HT10.out.l_off ho11) (HT10.out.r_off ho11) HT10.out.lc HT10.out.rc HOK0.out (fun g hg => hg) (fun g hg => Nat.lt_of_lt_of_le (HT10.out.lt g hg) ho11.size) HT10.out.la HT10.out.ra HT10.out.len
          refine ⟨rfl, _, some ⟨hb, ho, none⟩, ra2, cl, rc2, HU10.out.trans ⟨ho11.wide (fun y hy => by rw [List.mem_singleton.1 hy]; exact HT10.out.pm), fun g hg => .inl hg⟩, ?_⟩
          rw [HDR.out, if_pos ⟨hin, by rw [HLK.out]; exact hk0⟩, List.headD_eq_head?_getD, List.head?_eq_getElem?, HX0.out]
          exact hth
        · skip
          have g12 : ∀ z : In (fun y => y.heap[p]? = some (.cells (thRow (.slice al k cl) bn bs S.now bg (.slice ra2 DU.length rc2)).toArray THT (0, 0)) ∧ HM Try.prog U64T y bg ng fg), z.w.cell? ⟨p, 12, none⟩ = some (.map (some bg)) := fun z => cell_row z.h.1 12 _ (thRow_g _ _ _ _ _ HNOW.out)
          have g3 : ∀ z : In (fun y => y.heap[p]? = some (.cells (thRow (.slice al k cl) bn bs S.now bg (.slice ra2 DU.length rc2)).toArray THT (0, 0)) ∧ HM Try.prog U64T y bg ng fg), z.w.cell? ⟨p, 3, none⟩ = some (.int .u64 S.now.1) := fun z => cell_row z.h.1 3 _ (thRow_w ..)
          refine wp_plan (.t 0 (.t 1 (.t 2 (.t 3 (.t 4 (.t 5 (.t 6 (.t 7 (.t 8 (.t 9 (.t 10 (.t 11 (.t 12 (.t 13 (.t 14 .done))))))))))))))) (fun y => y.heap[p]? = some (.cells (thRow (.slice al k cl) bn bs S.now bg (.slice ra2 DU.length rc2)).toArray THT (0, 0)) ∧ HM Try.prog U64T y bg ng fg) (by kernel_rfl) (by kernel_rfl) (by kernel_rfl) (fun c a d v w h => by cases d <;> exact h) ⟨HR9.out, HGm.out.below (Below.refl _ _).drew⟩ ?_
          haveI hne : Nonempty (In (fun y => y.heap[p]? = some (.cells (thRow (.slice al k cl) bn bs S.now bg (.slice ra2 DU.length rc2)).toArray THT (0, 0)) ∧ HM Try.prog U64T y bg ng fg)) := ⟨⟨w9, ⟨HR9.out, HGm.out⟩⟩⟩
          repeat (first | (refine plan_t (by rfl) ?_; (first | go_big_quiet_skip | (go_big_quiet_want; go_big_quiet_op; go_big_quiet_on)); refine wpQuiet_nil ?_))
          refine plan_t_hm (z := .bool false) (key := .int .u64 S.now.1) (f := fg) (by rfl) (by kernel_rfl) _ _ _ rfl keyU Try.underlying71 zeroB rfl rfl (keyUof hns) (fun y hy => ⟨_, hy.2⟩) ?_
          rw [hgv]
          simp only [Act.put, List.setIfInBounds_toArray, List.set_cons_succ, List.set_cons_zero]
          simp only [Option.getD_some, Option.getD_none, Bool.false_eq_true, if_false]
          repeat (first | (refine plan_t (by rfl) ?_; (first | go_big_quiet_skip | (go_big_quiet_want; go_big_quiet_op; go_big_quiet_on)); refine wpQuiet_nil ?_))
          clear hne g12 g3
          show Exit.then _ _ _ _ _
          have hdr := (Below.refl w9.heap.size w9).drew
          have HT10 := Lib.hid (HT9.out.below hdr); have HU10 := Lib.hid (HU9.out.next hdr)
          clear hdr HR9 HGm
          generalize w9.drew = w10 at HT10 HU10 ⊢
          go_wp2_with fail
          (try simp only [Exit.inBlock, Exit.then])
          refine bodyPost_end (results_none rfl _ _ _) rfl ?_
          refine ⟨rfl, _, al, ra2, cl, rc2, HU10.out, ?_⟩
          rw [HDR.out, if_neg (fun h => hk0 (by rw [← HLK.out]; exact h.2))]
          exact HT10.out
      · skip
        rw [if_neg hin] at hgv
        by_cases hk0 : 0 < k
        · skip
          have g12 : ∀ z : In (fun y => y.heap[p]? = some (.cells (thRow (.slice al k cl) bn bs S.now bg (.slice ra2 DU.length rc2)).toArray THT (0, 0)) ∧ HM Try.prog U64T y bg ng fg), z.w.cell? ⟨p, 12, none⟩ = some (.map (some bg)) := fun z => cell_row z.h.1 12 _ (thRow_g _ _ _ _ _ HNOW.out)
          have g3 : ∀ z : In (fun y => y.heap[p]? = some (.cells (thRow (.slice al k cl) bn bs S.now bg (.slice ra2 DU.length rc2)).toArray THT (0, 0)) ∧ HM Try.prog U64T y bg ng fg), z.w.cell? ⟨p, 3, none⟩ = some (.int .u64 S.now.1) := fun z => cell_row z.h.1 3 _ (thRow_w ..)
          refine wp_plan (.t 0 (.t 1 (.t 2 (.t 3 (.t 4 (.t 5 (.t 6 (.t 7 (.t 8 (.t 9 (.t 10 (.t 11 (.t 12 (.t 13 (.t 14 .done))))))))))))))) (fun y => y.heap[p]? = some (.cells (thRow (.slice al k cl) bn bs S.now bg (.slice ra2 DU.length rc2)).toArray THT (0, 0)) ∧ HM Try.prog U64T y bg ng fg) (by kernel_rfl) (by kernel_rfl) (by kernel_rfl) (fun c a d v w h => by cases d <;> exact h) ⟨HR9.out, HGm.out.below (Below.refl _ _).drew⟩ ?_
          haveI hne : Nonempty (In (fun y => y.heap[p]? = some (.cells (thRow (.slice al k cl) bn bs S.now bg (.slice ra2 DU.length rc2)).toArray THT (0, 0)) ∧ HM Try.prog U64T y bg ng fg)) := ⟨⟨w9, ⟨HR9.out, HGm.out⟩⟩⟩
          repeat (first | (refine plan_t (by rfl) ?_; (first | go_big_quiet_skip | (go_big_quiet_want; go_big_quiet_op; go_big_quiet_on)); refine wpQuiet_nil ?_))
          refine plan_t_hm (z := .bool false) (key := .int .u64 S.now.1) (f := fg) (by rfl) (by kernel_rfl) _ _ _ rfl keyU Try.underlying71 zeroB rfl rfl (keyUof hns) (fun y hy => ⟨_, hy.2⟩) ?_
          rw [hgv]
          simp only [Act.put, List.setIfInBounds_toArray, List.set_cons_succ, List.set_cons_zero]
          simp only [Option.getD_some, Option.getD_none, Bool.false_eq_true, if_false]
          repeat (first | (refine plan_t (by rfl) ?_; (first | go_big_quiet_skip | (go_big_quiet_want; go_big_quiet_op; go_big_quiet_on)); refine wpQuiet_nil ?_))
          clear hne g12 g3
          show Exit.then _ _ _ _ _
          have hdr := (Below.refl w9.heap.size w9).drew
          have HT10 := Lib.hid (HT9.out.below hdr); have HU10 := Lib.hid (HU9.out.next hdr)
          clear hdr HR9 HGm
          generalize w9.drew = w10 at HT10 HU10 ⊢
          go_wp2_with fail
          (try simp only [Exit.inBlock, Exit.then])
          refine bodyPost_end (results_none rfl _ _ _) rfl ?_
          refine ⟨rfl, _, al, ra2, cl, rc2, HU10.out, ?_⟩
          rw [HDR.out, if_neg (fun h => hin h.1)]
          exact HT10.out
        · skip
          have g12 : ∀ z : In (fun y => y.heap[p]? = some (.cells (thRow (.slice al k cl) bn bs S.now bg (.slice ra2 DU.length rc2)).toArray THT (0, 0)) ∧ HM Try.prog U64T y bg ng fg), z.w.cell? ⟨p, 12, none⟩ = some (.map (some bg)) := fun z => cell_row z.h.1 12 _ (thRow_g _ _ _ _ _ HNOW.out)
          have g3 : ∀ z : In (fun y => y.heap[p]? = some (.cells (thRow (.slice al k cl) bn bs S.now bg (.slice ra2 DU.length rc2)).toArray THT (0, 0)) ∧ HM Try.prog U64T y bg ng fg), z.w.cell? ⟨p, 3, none⟩ = some (.int .u64 S.now.1) := fun z => cell_row z.h.1 3 _ (thRow_w ..)
          refine wp_plan (.t 0 (.t 1 (.t 2 (.t 3 (.t 4 (.t 5 (.t 6 (.t 7 (.t 8 (.t 9 (.t 10 (.t 11 (.t 12 (.t 13 (.t 14 .done))))))))))))))) (fun y => y.heap[p]? = some (.cells (thRow (.slice al k cl) bn bs S.now bg (.slice ra2 DU.length rc2)).toArray THT (0, 0)) ∧ HM Try.prog U64T y bg ng fg) (by kernel_rfl) (by kernel_rfl) (by kernel_rfl) (fun c a d v w h => by cases d <;> exact h) ⟨HR9.out, HGm.out.below (Below.refl _ _).drew⟩ ?_
          haveI hne : Nonempty (In (fun y => y.heap[p]? = some (.cells (thRow (.slice al k cl) bn bs S.now bg (.slice ra2 DU.length rc2)).toArray THT (0, 0)) ∧ HM Try.prog U64T y bg ng fg)) := ⟨⟨w9, ⟨HR9.out, HGm.out⟩⟩⟩
          repeat (first | (refine plan_t (by rfl) ?_; (first | go_big_quiet_skip | (go_big_quiet_want; go_big_quiet_op; go_big_quiet_on)); refine wpQuiet_nil ?_))
          refine plan_t_hm (z := .bool false) (key := .int .u64 S.now.1) (f := fg) (by rfl) (by kernel_rfl) _ _ _ rfl keyU Try.underlying71 zeroB rfl rfl (keyUof hns) (fun y hy => ⟨_, hy.2⟩) ?_
          rw [hgv]
          simp only [Act.put, List.setIfInBounds_toArray, List.set_cons_succ, List.set_cons_zero]
          simp only [Option.getD_some, Option.getD_none, Bool.false_eq_true, if_false]
          repeat (first | (refine plan_t (by rfl) ?_; (first | go_big_quiet_skip | (go_big_quiet_want; go_big_quiet_op; go_big_quiet_on)); refine wpQuiet_nil ?_))
          clear hne g12 g3
          show Exit.then _ _ _ _ _
          have hdr := (Below.refl w9.heap.size w9).drew
          have HT10 := Lib.hid (HT9.out.below hdr); have HU10 := Lib.hid (HU9.out.next hdr)
          clear hdr HR9 HGm
          generalize w9.drew = w10 at HT10 HU10 ⊢
          go_wp2_with fail
          (try simp only [Exit.inBlock, Exit.then])
          refine bodyPost_end (results_none rfl _ _ _) rfl ?_
          refine ⟨rfl, _, al, ra2, cl, rc2, HU10.out, ?_⟩
          rw [HDR.out, if_neg (fun h => hin h.1)]
          exact HT10.out
end Go.Proofs.Ytjdcmhclamjcjaa
