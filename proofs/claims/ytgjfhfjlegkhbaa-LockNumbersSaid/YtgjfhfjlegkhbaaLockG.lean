/- chapter 8's walks: same. -/
import Derived.Test.YtgjfhfjlegkhbaaLockF
namespace Go.Proofs.Ytgjfhfjlegkhbaa
open Go.RowKit
set_option linter.unusedVariables false

set_option maxRecDepth 100000 in
set_option maxHeartbeats 4000000 in
theorem same8_any (w : World) (key n : Int) (ha : Option Addr) (hl hc : Nat) (hs : List Int) (sa : Option Addr) (sl sc : Nat) (ss : List Int) (hn : (Lit.int .u64 n).wf = true) (hlen : hl + sl + 24 ≤ 140737488355328) (hs1 : sl ≤ 1000000) (hH : IntsK .u8 w ha hl hs) (hS : IntsK .u8 w sa sl ss) :
    Makes Try.prog 14 #[.int .u64 key, .int .u64 n, .slice ha hl hc, .slice sa sl sc] w (.bool true) := by
  have HH := Lib.hid hH; have HS := Lib.hid hS; have HN := Lib.hid hn
  have hsz : (strOfNums hs).size ≤ 9223372036854775807 := by rw [strOfNums_size, hH.1]; omega
  have HD := Lib.hid (fun w => derive_any w key (strOfNums hs) hsz)
  have HRD := Lib.hid (fun w => rderive_any w key (strOfNums hs) hsz)
  have HRS : Hid (∀ w, Makes Try.prog 24 #[.int .u64 key, .string ⟨#[115, 101, 97, 108]⟩] w (.int .u64 (keyedM key [115, 101, 97, 108]))) := Lib.hid (fun w => rderive_any w key ⟨#[115, 101, 97, 108]⟩ (by decide))
  have HRM : Hid (∀ w, Makes Try.prog 24 #[.int .u64 key, .string ⟨#[109, 97, 115, 107]⟩] w (.int .u64 (keyedM key [109, 97, 115, 107]))) := Lib.hid (fun w => rderive_any w key ⟨#[109, 97, 115, 107]⟩ (by decide))
  have HRN : Hid (∀ w, Makes Try.prog 24 #[.int .u64 key, .string ⟨#[110, 101, 120, 116]⟩] w (.int .u64 (keyedM key [110, 101, 120, 116]))) := Lib.hid (fun w => rderive_any w key ⟨#[110, 101, 120, 116]⟩ (by decide))
  clear hH hS hn hsz
  go_enter Try.func14, Try.ntmps14
  go_wp2_with fail
  refine Calls.mono (of_any _ key) ?_
  rintro e w1 ⟨rfl, hb1⟩
  have HB1 := Lib.hid hb1; clear hb1
  go_upto_region 2 with fail
  have hrow := heap_alloc_new w1 (.cells #[.int .u64 (keyedM key [115, 101, 97, 108]), .int .u64 (keyedM key [109, 97, 115, 107])] 45)
  have hbW := HB1.out.alloc HB1.out.size (.cells #[.int .u64 (keyedM key [115, 101, 97, 108]), .int .u64 (keyedM key [109, 97, 115, 107])] 45)
  generalize w1.alloc (.cells #[.int .u64 (keyedM key [115, 101, 97, 108]), .int .u64 (keyedM key [109, 97, 115, 107])] 45) = W at hrow hbW ⊢
  generalize w1.heap.size = g at hrow ⊢
  have HROW := Lib.hid hrow; have HW := Lib.hid hbW
  clear hrow hbW HB1
  have hcvh : ∀ s : In (fun y => Below W.heap.size W y), (convert 23 9 (.slice ha hl hc)).run Try.prog s.w = .ok (.string (strOfNums hs)) s.w := fun s => conv_ints _ 5 _ _ Try.underlying23 Try.underlying5 Try.underlying9 ((HH.out.below HW.out).below s.h)
  refine wp_plan (.t 0 (.t 1 (.t 2 (.t 3 (.t 6 (.t 7 (.t 8 (.t 9 (.u 4 (.t 5 (.u 10 (.t 11 (.t 12 (.t 13 (.t 14 (.t 15 (.t 16 (.t 18 (.t 19 (.t 20 (.u 17 (.u 21 (.t 22 (.t 23 (.t 24 (.t 25 (.t 26 (.t 27 (.u 28 (.t 29 (.t 30 (.t 31 (.t 32 (.t 33 (.t 34 (.u 35 (.t 36 (.t 37 (.t 38 (.t 39 (.t 41 (.u 40 (.u 42 (.t 43 (.t 44 (.t 45 .done)))))))))))))))))))))))))))))))))))))))))))))) (fun y => Below W.heap.size W y) (by kernel_rfl) (by kernel_rfl) (by kernel_rfl) (fun c a d v w h => by cases d <;> exact h) (Below.refl _ _).drew ?_
  have hS : Below W.heap.size W W.drew := (Below.refl _ _).drew
  generalize W.drew = W1 at hS ⊢
  haveI hne : Nonempty (In fun y => Below W.heap.size W y) := ⟨⟨W, Below.refl _ _⟩⟩
  repeat (refine plan_t (by rfl) ?_; (first | go_big_quiet_skip | (go_big_quiet_want; go_big_quiet_op; go_big_quiet_on)); refine wpQuiet_nil ?_)
  refine plan_un (by rfl) (by kernel_rfl) ?_
  intro K hK
  go_wp2_with fail
  refine Calls.mono (seal_any _ key n ha hl hc hs sa sl sc ss HN.out hlen hs1 ((HH.out.below HW.out).below hS) ((HS.out.below HW.out).below hS)) ?_
  rintro e W2 ⟨v, rfl, hb, ho⟩
  obtain ⟨bW2, cpW2, rfl, _, hi, _⟩ := ints_of_own ho (sealM_wf _ _ _ _ HS.out.2.1)
  have hSn := bl_next hS hS.size hb
  have HI2 := Lib.hid hi
  have hcv2 : ∀ s : In (fun y => Below W2.heap.size W2 y), (convert 23 9 (.slice bW2 (sl + 8) cpW2)).run Try.prog s.w = .ok (.string (strOfNums (sealM key n hs ss))) s.w := fun s => conv_ints _ 5 _ _ Try.underlying23 Try.underlying5 Try.underlying9 (HI2.out.below s.h)
  clear hb ho hi hne
  go_wp2_with fail
  refine ⟨fun y => Below W2.heap.size W2 y, fun x hx => bl_next hSn hSn.size hx, Below.refl _ _, ?_⟩
  haveI hne : Nonempty (In fun y => Below W2.heap.size W2 y) := ⟨⟨W2, Below.refl _ _⟩⟩
  replace hS := hSn; clear hSn
  repeat (refine plan_t (by rfl) ?_; (first | go_big_quiet_skip | (go_big_quiet_want; go_big_quiet_op; go_big_quiet_on)); refine wpQuiet_nil ?_)
  refine plan_un (by rfl) (by kernel_rfl) ?_
  intro K hK
  go_wp2_with fail
  refine Calls.mono (rseal_any _ key n ha hl hc hs sa sl sc ss HN.out hlen hs1 ((HH.out.below HW.out).below hS) ((HS.out.below HW.out).below hS)) ?_
  rintro e W3 ⟨v, rfl, hb, ho⟩
  obtain ⟨bW3, cpW3, rfl, _, hi, _⟩ := ints_of_own ho (sealM_wf _ _ _ _ HS.out.2.1)
  have hSn := bl_next hS hS.size hb
  have HI3 := Lib.hid hi
  have hcv3 : ∀ s : In (fun y => Below W3.heap.size W3 y), (convert 23 9 (.slice bW3 (sl + 8) cpW3)).run Try.prog s.w = .ok (.string (strOfNums (sealM key n hs ss))) s.w := fun s => conv_ints _ 5 _ _ Try.underlying23 Try.underlying5 Try.underlying9 (HI3.out.below s.h)
  have hcvh3 : ∀ s : In (fun y => Below W3.heap.size W3 y), (convert 23 9 (.slice ha hl hc)).run Try.prog s.w = .ok (.string (strOfNums hs)) s.w := fun s => conv_ints _ 5 _ _ Try.underlying23 Try.underlying5 Try.underlying9 ((HH.out.below HW.out).below (bl_next hSn hSn.size s.h))
  have hr3 := bl_row hSn (lt_of_block HROW.out) HROW.out
  have c0 : ∀ s : In (fun y => Below W3.heap.size W3 y), s.w.cell? ⟨g, 0, none⟩ = some (.int .u64 (keyedM key [115, 101, 97, 108])) := fun s => row_cell (bl_row s.h (lt_of_block hr3) hr3) 0 _ rfl
  have c1 : ∀ s : In (fun y => Below W3.heap.size W3 y), s.w.cell? ⟨g, 1, none⟩ = some (.int .u64 (keyedM key [109, 97, 115, 107])) := fun s => row_cell (bl_row s.h (lt_of_block hr3) hr3) 1 _ rfl
  have HL := Lib.hid (bl_next HW.out HW.out.size hSn)
  have hb3 := hb
  clear hb ho hi hne hcvh hcv2 hr3 hSn
  go_wp2_with fail
  refine ⟨fun y => Below W3.heap.size W3 y, fun x hx => bl_next hb3 hb3.size hx, Below.refl _ _, ?_⟩
  haveI hne : Nonempty (In fun y => Below W3.heap.size W3 y) := ⟨⟨W3, Below.refl _ _⟩⟩
  clear hS
  have hS : Below W3.heap.size W3 W3 := Below.refl _ _
  repeat (refine plan_t (by rfl) ?_; (first | go_big_quiet_skip | (go_big_quiet_want; go_big_quiet_op; go_big_quiet_on)); refine wpQuiet_nil ?_)
  refine plan_us (by rfl) (by kernel_rfl) ?_
  intro K hK
  go_wp2_with fail
  refine Calls.mono (HD.out _) ?_
  rintro e W2 ⟨rfl, hb⟩
  replace hS := bl_next hS hS.size hb; clear hb
  go_wp2_with fail
  refine ⟨hS, ?_⟩
  repeat (refine plan_t (by rfl) ?_; (first | go_big_quiet_skip | (go_big_quiet_want; go_big_quiet_op; go_big_quiet_on)); refine wpQuiet_nil ?_)
  refine plan_us (by rfl) (by kernel_rfl) ?_
  intro K hK
  go_wp2_with fail
  refine Calls.mono (HRD.out _) ?_
  rintro e W2 ⟨rfl, hb⟩
  replace hS := bl_next hS hS.size hb; clear hb
  go_wp2_with fail
  refine ⟨hS, ?_⟩
  repeat (refine plan_t (by rfl) ?_; (first | go_big_quiet_skip | (go_big_quiet_want; go_big_quiet_op; go_big_quiet_on)); refine wpQuiet_nil ?_)
  refine plan_us (by rfl) (by kernel_rfl) ?_
  intro K hK
  go_wp2_with fail
  refine Calls.mono (HRS.out _) ?_
  rintro e W2 ⟨rfl, hb⟩
  replace hS := bl_next hS hS.size hb; clear hb
  go_wp2_with fail
  refine ⟨hS, ?_⟩
  repeat (refine plan_t (by rfl) ?_; (first | go_big_quiet_skip | (go_big_quiet_want; go_big_quiet_op; go_big_quiet_on)); refine wpQuiet_nil ?_)
  refine plan_us (by rfl) (by kernel_rfl) ?_
  intro K hK
  go_wp2_with fail
  refine Calls.mono (HRM.out _) ?_
  rintro e W2 ⟨rfl, hb⟩
  replace hS := bl_next hS hS.size hb; clear hb
  go_wp2_with fail
  refine ⟨hS, ?_⟩
  repeat (refine plan_t (by rfl) ?_; (first | go_big_quiet_skip | (go_big_quiet_want; go_big_quiet_op; go_big_quiet_on)); refine wpQuiet_nil ?_)
  refine plan_us (by rfl) (by kernel_rfl) ?_
  intro K hK
  go_wp2_with fail
  refine Calls.mono (lnext_any _ key) ?_
  rintro e W2 ⟨rfl, hb⟩
  replace hS := bl_next hS hS.size hb; clear hb
  go_wp2_with fail
  refine ⟨hS, ?_⟩
  repeat (refine plan_t (by rfl) ?_; (first | go_big_quiet_skip | (go_big_quiet_want; go_big_quiet_op; go_big_quiet_on)); refine wpQuiet_nil ?_)
  refine plan_us (by rfl) (by kernel_rfl) ?_
  intro K hK
  go_wp2_with fail
  refine Calls.mono (HRN.out _) ?_
  rintro e W2 ⟨rfl, hb⟩
  replace hS := bl_next hS hS.size hb; clear hb
  go_wp2_with fail
  refine ⟨hS, ?_⟩
  repeat (refine plan_t (by rfl) ?_; (first | go_big_quiet_skip | (go_big_quiet_want; go_big_quiet_op; go_big_quiet_on)); refine wpQuiet_nil ?_)
  show Exit.then _ _ _ _ _
  go_wp2_with fail
  go_ret
  exact ⟨rfl, bl_next HL.out HL.out.size hS⟩
end Go.Proofs.Ytgjfhfjlegkhbaa
