/- texts of the proof, laid together: Cid41, Cid42, Cid43, Cid4, Copyr. -/
import Derived.Test.YtjdcmhclamjcjaaV8
import Derived.Test.YtjdcmhclamjcjaaV2
import Derived.Test.YtjdcmhclamjcjaaV4
import Derived.Test.YtjdcmhclamjcjaaV1
import Derived.Laws.CopyOwn
namespace Go.Proofs.Ytjdcmhclamjcjaa
open Go.RowKit
set_option linter.unusedVariables false
set_option linter.unusedSimpArgs false

set_option maxRecDepth 100000 in
set_option maxHeartbeats 4000000 in
theorem ws_f {x1 x2 x4 x7 x8 x9 x10 x11 x12 x13 x14 x15 x16 x17 x18 x19 x20 x21 x22 x23 x24 x25 x26 x27 x28 x29 x30 x31 x32 x33 x34 x35 x36 x37 x38 x39 x40 x41 x42 x43 x44 x45 x46 x47 x48 x49 x50 x51 x52 x53 x54 x55 x56 x57 x58 x59 x60 x61 x62 x63 x64 x65 x66 x67 x68 x69 x70 x71 x72 x73 x74 x75 x76 x77 x78 x79 x80 x81 x82 x83 x84 x85 x86 x87 x88 x89 x90 : Value} {g gc po pt pp pq i n cp : Nat} {a : Option Addr} {L : List Nm} {nx sd d : Int} {e c : List Int} {CX : List Value} (w : World) {Q : Exit → Act → World → Prop}
    (HR : Hid (w.heap[g]? = some (.cells (wdRow po pt pp pq).toArray WDT (0, 0)))) (HP : Hid (w.heap[pp]? = some (.cells ([.slice a n cp, .int .u64 nx, .int .u64 sd] : List Value).toArray POT (0, 0)))) (HG : Hid (w.heap[gc]? = some (.cells CX.toArray 38 (0, 0)))) (HCX : Hid (c.map (Value.int .u8) = CX)) (HCO : Hid (cidOk c)) (HL : Hid (nmK.At w a n L)) (hlt : i < n) (hnb : n ≤ 100) (HX : Hid (L[i]? = some (d, e)))
    (hQp : ∀ c a d v w, Q (.panic c) (a.put d v) w → Q (.panic c) a w)
    (hQ : ∀ (y19 y20 y21 y22 y23 y24 y25 y26 y27 y28 y29 y30 y31 y32 y33 y34 : Value) (w' : World), Hid (Below w.heap.size w w') → Q .normal ⟨List.toArray (.pointer (some ⟨g, 0, none⟩) :: x1 :: x2 :: .pointer (some ⟨gc, 0, none⟩) :: x4 :: .bool (e == c) :: .int .i64 i :: x7 :: x8 :: x9 :: x10 :: x11 :: x12 :: x13 :: x14 :: x15 :: x16 :: x17 :: x18 :: y19 :: y20 :: y21 :: y22 :: y23 :: y24 :: y25 :: y26 :: y27 :: y28 :: y29 :: y30 :: y31 :: y32 :: y33 :: y34 :: x35 :: x36 :: x37 :: x38 :: x39 :: x40 :: x41 :: x42 :: x43 :: x44 :: x45 :: x46 :: x47 :: x48 :: x49 :: x50 :: x51 :: x52 :: x53 :: x54 :: x55 :: x56 :: x57 :: x58 :: x59 :: x60 :: x61 :: x62 :: x63 :: x64 :: x65 :: x66 :: x67 :: x68 :: x69 :: x70 :: x71 :: x72 :: x73 :: x74 :: x75 :: x76 :: x77 :: x78 :: x79 :: x80 :: x81 :: x82 :: x83 :: x84 :: x85 :: x86 :: x87 :: x88 :: x89 :: x90 :: []), []⟩ w') :
    Code.wp Try.prog (((Try.f27.body.bind (subRegion 5)).getD .skip)) Q ⟨List.toArray (.pointer (some ⟨g, 0, none⟩) :: x1 :: x2 :: .pointer (some ⟨gc, 0, none⟩) :: x4 :: .bool false :: .int .i64 i :: x7 :: x8 :: x9 :: x10 :: x11 :: x12 :: x13 :: x14 :: x15 :: x16 :: x17 :: x18 :: x19 :: x20 :: x21 :: x22 :: x23 :: x24 :: x25 :: x26 :: x27 :: x28 :: x29 :: x30 :: x31 :: x32 :: x33 :: x34 :: x35 :: x36 :: x37 :: x38 :: x39 :: x40 :: x41 :: x42 :: x43 :: x44 :: x45 :: x46 :: x47 :: x48 :: x49 :: x50 :: x51 :: x52 :: x53 :: x54 :: x55 :: x56 :: x57 :: x58 :: x59 :: x60 :: x61 :: x62 :: x63 :: x64 :: x65 :: x66 :: x67 :: x68 :: x69 :: x70 :: x71 :: x72 :: x73 :: x74 :: x75 :: x76 :: x77 :: x78 :: x79 :: x80 :: x81 :: x82 :: x83 :: x84 :: x85 :: x86 :: x87 :: x88 :: x89 :: x90 :: []), []⟩ w := by
  have HK := Lib.hid hQ; have HKP := Lib.hid hQp
  clear hQ hQp
  conv => arg 2; whnf
  obtain ⟨ab, ao, y, rfl, _, hx, hok, hrg⟩ := HL.out.at hlt
  rw [HX.out] at hx; injection hx with hx; subst hx
  have HOK := Lib.hid hok
  obtain ⟨RX, hRX⟩ : ∃ R, nmK.enc (d, e) = R := ⟨_, rfl⟩
  have HRX := Lib.hid hRX
  rw [hRX] at hrg
  have HRG := Lib.hid hrg
  clear hok hrg hRX HL
  have hq1 : w.rangeAt ab (ao + i * 9 + 1) (e.map (Value.int .u8)) := fun j v hv => by have h9 := HRG.out (1 + j) v (nm_tail HRX.out j v hv); rw [← Nat.add_assoc] at h9; exact h9
  have he8 : (e.map (Value.int .u8)).length = 8 := by simp [HOK.out.2.1]
  have hc8 : (c.map (Value.int .u8)).length = 8 := by simp [HCO.out.1]
  obtain ⟨EX, hEX⟩ : ∃ C, e.map (Value.int .u8) = C := ⟨_, rfl⟩
  have HEX := Lib.hid hEX
  rw [hEX] at he8 hq1; rw [HCX.out] at hc8
  have HE8 := Lib.hid he8; have HC8 := Lib.hid hc8; have HQ1 := Lib.hid hq1
  clear he8 hc8 hq1 hEX HRG
  have g0 : ∀ z : In (fun y => y.heap[g]? = some (.cells (wdRow po pt pp pq).toArray WDT (0, 0)) ∧ y.heap[pp]? = some (.cells ([.slice (some ⟨ab, ao, none⟩) n cp, .int .u64 nx, .int .u64 sd] : List Value).toArray POT (0, 0)) ∧ y.heap[gc]? = some (.cells CX.toArray 38 (0, 0)) ∧ y.rangeAt ab (ao + i * 9 + 1) EX), z.w.cell? ⟨g, 2, none⟩ = some (.pointer (some ⟨pp, 0, none⟩)) := fun z => cell_row z.h.1 2 _ rfl
  have g1 : ∀ z : In (fun y => y.heap[g]? = some (.cells (wdRow po pt pp pq).toArray WDT (0, 0)) ∧ y.heap[pp]? = some (.cells ([.slice (some ⟨ab, ao, none⟩) n cp, .int .u64 nx, .int .u64 sd] : List Value).toArray POT (0, 0)) ∧ y.heap[gc]? = some (.cells CX.toArray 38 (0, 0)) ∧ y.rangeAt ab (ao + i * 9 + 1) EX), z.w.cell? ⟨pp, 0, none⟩ = some (.slice (some ⟨ab, ao, none⟩) n cp) := fun z => cell_row z.h.2.1 0 _ rfl
  refine wp_plan (.t 0 (.t 1 (.t 2 (.t 3 (.t 4 (.t 5 (.t 6 (.t 7 (.t 8 (.t 9 (.t 10 (.t 11 (.t 12 (.t 13 (.t 14 (.t 15 (.t 16 .done))))))))))))))))) (fun y => y.heap[g]? = some (.cells (wdRow po pt pp pq).toArray WDT (0, 0)) ∧ y.heap[pp]? = some (.cells ([.slice (some ⟨ab, ao, none⟩) n cp, .int .u64 nx, .int .u64 sd] : List Value).toArray POT (0, 0)) ∧ y.heap[gc]? = some (.cells CX.toArray 38 (0, 0)) ∧ y.rangeAt ab (ao + i * 9 + 1) EX) (by kernel_rfl) (by kernel_rfl) (by kernel_rfl) (fun c a d v w h => by first | (cases d <;> exact h) | exact HKP.out c a d v w h) ⟨HR.out, HP.out, HG.out, HQ1.out⟩ ?_
  haveI hne : Nonempty (In (fun y => y.heap[g]? = some (.cells (wdRow po pt pp pq).toArray WDT (0, 0)) ∧ y.heap[pp]? = some (.cells ([.slice (some ⟨ab, ao, none⟩) n cp, .int .u64 nx, .int .u64 sd] : List Value).toArray POT (0, 0)) ∧ y.heap[gc]? = some (.cells CX.toArray 38 (0, 0)) ∧ y.rangeAt ab (ao + i * 9 + 1) EX)) := ⟨⟨w, ⟨HR.out, HP.out, HG.out, HQ1.out⟩⟩⟩
  repeat (first | (refine plan_t_load (by rfl) (by kernel_rfl) 38 _ rfl ab (ao + i * 9 + 1) rfl EX _ (fun y hy => hy.2.2.2) Try.underlying38 rfl (by rw [HE8.out]; rfl) ?_; simp only [Act.put, List.setIfInBounds_toArray, List.set_cons_succ, List.set_cons_zero]) | (refine plan_t_load (by rfl) (by kernel_rfl) 38 _ rfl gc 0 rfl CX _ (fun y hy => rngL hy.2.2.1) Try.underlying38 rfl (by rw [HC8.out]; rfl) ?_; simp only [Act.put, List.setIfInBounds_toArray, List.set_cons_succ, List.set_cons_zero]) | (refine plan_t_eql_cid (by rfl) (by kernel_rfl) _ _ _ rfl e c (by rw [HEX.out]; rfl) (by rw [HCX.out]; rfl) HOK.out.2 HCO.out ?_; simp only [Act.put, List.setIfInBounds_toArray, List.set_cons_succ, List.set_cons_zero]) | (refine plan_t (by rfl) ?_; (first | go_big_quiet_skip | (go_big_quiet_want; go_big_quiet_op; go_big_quiet_on)); refine wpQuiet_nil ?_))
  clear hne g0 g1
  show Q _ _ _
  exact HK.out _ _ _ _ _ _ _ _ _ _ _ _ _ _ _ _ w.drew (Lib.hid (Below.refl w.heap.size w).drew)
set_option maxRecDepth 100000 in
set_option maxHeartbeats 4000000 in
theorem ws_t {x1 x2 x4 x7 x8 x9 x10 x11 x12 x13 x14 x15 x16 x17 x18 x19 x20 x21 x22 x23 x24 x25 x26 x27 x28 x29 x30 x31 x32 x33 x34 x35 x36 x37 x38 x39 x40 x41 x42 x43 x44 x45 x46 x47 x48 x49 x50 x51 x52 x53 x54 x55 x56 x57 x58 x59 x60 x61 x62 x63 x64 x65 x66 x67 x68 x69 x70 x71 x72 x73 x74 x75 x76 x77 x78 x79 x80 x81 x82 x83 x84 x85 x86 x87 x88 x89 x90 : Value} {g gc po pt pp pq i n cp : Nat} {a : Option Addr} {L : List Nm} {nx sd d : Int} {e c : List Int} {CX : List Value} (w : World) {Q : Exit → Act → World → Prop}
    (HR : Hid (w.heap[g]? = some (.cells (wdRow po pt pp pq).toArray WDT (0, 0)))) (HP : Hid (w.heap[pp]? = some (.cells ([.slice a n cp, .int .u64 nx, .int .u64 sd] : List Value).toArray POT (0, 0)))) (HG : Hid (w.heap[gc]? = some (.cells CX.toArray 38 (0, 0)))) (HCX : Hid (c.map (Value.int .u8) = CX)) (HCO : Hid (cidOk c)) (HL : Hid (nmK.At w a n L)) (hlt : i < n) (hnb : n ≤ 100) (HX : Hid (L[i]? = some (d, e)))
    (hQp : ∀ c a d v w, Q (.panic c) (a.put d v) w → Q (.panic c) a w)
    (hQ : ∀ (y19 y20 y21 y22 y23 y24 y25 y26 y27 y28 y29 y30 y31 y32 y33 y34 : Value) (w' : World), Hid (Below w.heap.size w w') → Q .normal ⟨List.toArray (.pointer (some ⟨g, 0, none⟩) :: x1 :: x2 :: .pointer (some ⟨gc, 0, none⟩) :: x4 :: .bool true :: .int .i64 i :: x7 :: x8 :: x9 :: x10 :: x11 :: x12 :: x13 :: x14 :: x15 :: x16 :: x17 :: x18 :: y19 :: y20 :: y21 :: y22 :: y23 :: y24 :: y25 :: y26 :: y27 :: y28 :: y29 :: y30 :: y31 :: y32 :: y33 :: y34 :: x35 :: x36 :: x37 :: x38 :: x39 :: x40 :: x41 :: x42 :: x43 :: x44 :: x45 :: x46 :: x47 :: x48 :: x49 :: x50 :: x51 :: x52 :: x53 :: x54 :: x55 :: x56 :: x57 :: x58 :: x59 :: x60 :: x61 :: x62 :: x63 :: x64 :: x65 :: x66 :: x67 :: x68 :: x69 :: x70 :: x71 :: x72 :: x73 :: x74 :: x75 :: x76 :: x77 :: x78 :: x79 :: x80 :: x81 :: x82 :: x83 :: x84 :: x85 :: x86 :: x87 :: x88 :: x89 :: x90 :: []), []⟩ w') :
    Code.wp Try.prog (((Try.f27.body.bind (subRegion 5)).getD .skip)) Q ⟨List.toArray (.pointer (some ⟨g, 0, none⟩) :: x1 :: x2 :: .pointer (some ⟨gc, 0, none⟩) :: x4 :: .bool true :: .int .i64 i :: x7 :: x8 :: x9 :: x10 :: x11 :: x12 :: x13 :: x14 :: x15 :: x16 :: x17 :: x18 :: x19 :: x20 :: x21 :: x22 :: x23 :: x24 :: x25 :: x26 :: x27 :: x28 :: x29 :: x30 :: x31 :: x32 :: x33 :: x34 :: x35 :: x36 :: x37 :: x38 :: x39 :: x40 :: x41 :: x42 :: x43 :: x44 :: x45 :: x46 :: x47 :: x48 :: x49 :: x50 :: x51 :: x52 :: x53 :: x54 :: x55 :: x56 :: x57 :: x58 :: x59 :: x60 :: x61 :: x62 :: x63 :: x64 :: x65 :: x66 :: x67 :: x68 :: x69 :: x70 :: x71 :: x72 :: x73 :: x74 :: x75 :: x76 :: x77 :: x78 :: x79 :: x80 :: x81 :: x82 :: x83 :: x84 :: x85 :: x86 :: x87 :: x88 :: x89 :: x90 :: []), []⟩ w := by
  have HK := Lib.hid hQ; have HKP := Lib.hid hQp
  clear hQ hQp
  conv => arg 2; whnf
  obtain ⟨ab, ao, y, rfl, _, hx, hok, hrg⟩ := HL.out.at hlt
  rw [HX.out] at hx; injection hx with hx; subst hx
  have HOK := Lib.hid hok
  obtain ⟨RX, hRX⟩ : ∃ R, nmK.enc (d, e) = R := ⟨_, rfl⟩
  have HRX := Lib.hid hRX
  rw [hRX] at hrg
  have HRG := Lib.hid hrg
  clear hok hrg hRX HL
  have hq1 : w.rangeAt ab (ao + i * 9 + 1) (e.map (Value.int .u8)) := fun j v hv => by have h9 := HRG.out (1 + j) v (nm_tail HRX.out j v hv); rw [← Nat.add_assoc] at h9; exact h9
  have he8 : (e.map (Value.int .u8)).length = 8 := by simp [HOK.out.2.1]
  have hc8 : (c.map (Value.int .u8)).length = 8 := by simp [HCO.out.1]
  obtain ⟨EX, hEX⟩ : ∃ C, e.map (Value.int .u8) = C := ⟨_, rfl⟩
  have HEX := Lib.hid hEX
  rw [hEX] at he8 hq1; rw [HCX.out] at hc8
  have HE8 := Lib.hid he8; have HC8 := Lib.hid hc8; have HQ1 := Lib.hid hq1
  clear he8 hc8 hq1 hEX HRG
  have g0 : ∀ z : In (fun y => y.heap[g]? = some (.cells (wdRow po pt pp pq).toArray WDT (0, 0)) ∧ y.heap[pp]? = some (.cells ([.slice (some ⟨ab, ao, none⟩) n cp, .int .u64 nx, .int .u64 sd] : List Value).toArray POT (0, 0)) ∧ y.heap[gc]? = some (.cells CX.toArray 38 (0, 0)) ∧ y.rangeAt ab (ao + i * 9 + 1) EX), z.w.cell? ⟨g, 2, none⟩ = some (.pointer (some ⟨pp, 0, none⟩)) := fun z => cell_row z.h.1 2 _ rfl
  have g1 : ∀ z : In (fun y => y.heap[g]? = some (.cells (wdRow po pt pp pq).toArray WDT (0, 0)) ∧ y.heap[pp]? = some (.cells ([.slice (some ⟨ab, ao, none⟩) n cp, .int .u64 nx, .int .u64 sd] : List Value).toArray POT (0, 0)) ∧ y.heap[gc]? = some (.cells CX.toArray 38 (0, 0)) ∧ y.rangeAt ab (ao + i * 9 + 1) EX), z.w.cell? ⟨pp, 0, none⟩ = some (.slice (some ⟨ab, ao, none⟩) n cp) := fun z => cell_row z.h.2.1 0 _ rfl
  refine wp_plan (.t 0 (.t 1 (.t 2 (.t 3 (.t 4 (.t 5 (.t 6 (.t 7 (.t 8 (.t 9 (.t 10 (.t 11 (.t 12 (.t 13 (.t 14 (.t 15 (.t 16 .done))))))))))))))))) (fun y => y.heap[g]? = some (.cells (wdRow po pt pp pq).toArray WDT (0, 0)) ∧ y.heap[pp]? = some (.cells ([.slice (some ⟨ab, ao, none⟩) n cp, .int .u64 nx, .int .u64 sd] : List Value).toArray POT (0, 0)) ∧ y.heap[gc]? = some (.cells CX.toArray 38 (0, 0)) ∧ y.rangeAt ab (ao + i * 9 + 1) EX) (by kernel_rfl) (by kernel_rfl) (by kernel_rfl) (fun c a d v w h => by first | (cases d <;> exact h) | exact HKP.out c a d v w h) ⟨HR.out, HP.out, HG.out, HQ1.out⟩ ?_
  haveI hne : Nonempty (In (fun y => y.heap[g]? = some (.cells (wdRow po pt pp pq).toArray WDT (0, 0)) ∧ y.heap[pp]? = some (.cells ([.slice (some ⟨ab, ao, none⟩) n cp, .int .u64 nx, .int .u64 sd] : List Value).toArray POT (0, 0)) ∧ y.heap[gc]? = some (.cells CX.toArray 38 (0, 0)) ∧ y.rangeAt ab (ao + i * 9 + 1) EX)) := ⟨⟨w, ⟨HR.out, HP.out, HG.out, HQ1.out⟩⟩⟩
  repeat (first | (refine plan_t (by rfl) ?_; (first | go_big_quiet_skip | (go_big_quiet_want; go_big_quiet_op; go_big_quiet_on)); refine wpQuiet_nil ?_))
  clear hne g0 g1
  show Q _ _ _
  exact HK.out _ _ _ _ _ _ _ _ _ _ _ _ _ _ _ _ w.drew (Lib.hid (Below.refl w.heap.size w).drew)
set_option maxRecDepth 100000 in
set_option maxHeartbeats 4000000 in
theorem ws_all {x1 x2 x4 x6 x7 x8 x9 x10 x11 x12 x13 x14 x15 x16 x17 x18 x19 x20 x21 x22 x23 x24 x25 x26 x27 x28 x29 x30 x31 x32 x33 x34 x35 x36 x37 x38 x39 x40 x41 x42 x43 x44 x45 x46 x47 x48 x49 x50 x51 x52 x53 x54 x55 x56 x57 x58 x59 x60 x61 x62 x63 x64 x65 x66 x67 x68 x69 x70 x71 x72 x73 x74 x75 x76 x77 x78 x79 x80 x81 x82 x83 x84 x85 x86 x87 x88 x89 x90 : Value} {g gc po pt pp pq bse N : Nat} {B1 B2 B3 B4 : List Nat} {o : Ow} {t : Th} {c : List Int} {CX : List Value} (w : World) {Q : Exit → Act → World → Prop}
    (HT : Hid (Wd bse w g po pt pp pq B1 B2 B3 B4 N o t o t)) (HG : Hid (w.heap[gc]? = some (.cells CX.toArray 38 (0, 0)))) (HCX : Hid (c.map (Value.int .u8) = CX)) (HCO : Hid (cidOk c)) (hnb : N ≤ 10000)
    (hQp : ∀ c a d v w, Q (.panic c) (a.put d v) w → Q (.panic c) a w)
    (hQ : ∀ (y35 y36 y37 y38 y39 y40 y41 y42 y43 y44 y45 y46 y47 y48 y49 y50 y51 y52 y53 y54 y55 y56 y57 y58 y59 y60 y61 y62 y63 y64 y65 y66 y67 y68 y69 y70 y71 y72 y73 y74 y75 y76 y77 y78 y79 y80 y81 y82 y83 y84 y85 y86 y87 y88 y89 y90 : Value) (w' : World), Hid (Below w.heap.size w w') → Q .normal ⟨List.toArray (.pointer (some ⟨g, 0, none⟩) :: x1 :: x2 :: .pointer (some ⟨gc, 0, none⟩) :: .bool true :: .bool (o.L.any fun x => x.2 == c) :: x6 :: x7 :: x8 :: x9 :: x10 :: x11 :: x12 :: x13 :: x14 :: x15 :: x16 :: x17 :: x18 :: x19 :: x20 :: x21 :: x22 :: x23 :: x24 :: x25 :: x26 :: x27 :: x28 :: x29 :: x30 :: x31 :: x32 :: x33 :: x34 :: y35 :: y36 :: y37 :: y38 :: y39 :: y40 :: y41 :: y42 :: y43 :: y44 :: y45 :: y46 :: y47 :: y48 :: y49 :: y50 :: y51 :: y52 :: y53 :: y54 :: y55 :: y56 :: y57 :: y58 :: y59 :: y60 :: y61 :: y62 :: y63 :: y64 :: y65 :: y66 :: y67 :: y68 :: y69 :: y70 :: y71 :: y72 :: y73 :: y74 :: y75 :: y76 :: y77 :: y78 :: y79 :: y80 :: y81 :: y82 :: y83 :: y84 :: y85 :: y86 :: y87 :: y88 :: y89 :: y90 :: []), []⟩ w') :
    Code.wp Try.prog (((Try.f27.body.bind (subRegion 6)).getD .skip)) Q ⟨List.toArray (.pointer (some ⟨g, 0, none⟩) :: x1 :: x2 :: .pointer (some ⟨gc, 0, none⟩) :: x4 :: .bool (o.L.any fun x => x.2 == c) :: x6 :: x7 :: x8 :: x9 :: x10 :: x11 :: x12 :: x13 :: x14 :: x15 :: x16 :: x17 :: x18 :: x19 :: x20 :: x21 :: x22 :: x23 :: x24 :: x25 :: x26 :: x27 :: x28 :: x29 :: x30 :: x31 :: x32 :: x33 :: x34 :: x35 :: x36 :: x37 :: x38 :: x39 :: x40 :: x41 :: x42 :: x43 :: x44 :: x45 :: x46 :: x47 :: x48 :: x49 :: x50 :: x51 :: x52 :: x53 :: x54 :: x55 :: x56 :: x57 :: x58 :: x59 :: x60 :: x61 :: x62 :: x63 :: x64 :: x65 :: x66 :: x67 :: x68 :: x69 :: x70 :: x71 :: x72 :: x73 :: x74 :: x75 :: x76 :: x77 :: x78 :: x79 :: x80 :: x81 :: x82 :: x83 :: x84 :: x85 :: x86 :: x87 :: x88 :: x89 :: x90 :: []), []⟩ w := by
  have HK := Lib.hid hQ; have HKP := Lib.hid hQp
  clear hQ hQp
  conv => arg 2; whnf
  obtain ⟨b, hb⟩ : ∃ b, (o.L.any fun x => x.2 == c) = b := ⟨_, rfl⟩
  have HBB := Lib.hid hb
  rw [hb]
  clear hb
  have hc8 : CX.length = 8 := by rw [← HCX.out]; simp [HCO.out.1]
  have HC8 := Lib.hid hc8
  clear hc8
  obtain ⟨a, cp, hrow, hown, hblk⟩ := HT.out.hp.ex
  have HPR := Lib.hid hrow
  have HRK := Lib.hid (RK.At.of_own hown (OwnAt.ok HT.out.hp))
  have hl4 := OwnAt.len HT.out.hp
  obtain ⟨n, hn⟩ : ∃ n, o.L.length = n := ⟨_, rfl⟩
  have HN := Lib.hid hn
  rw [hn] at HPR HRK hl4
  clear hrow hown hblk hn
  obtain ⟨hh, hq⟩ := HT.out.hq
  have HQR := Lib.hid hq.row
  have HQ := Lib.hid hq
  have hql := hq.len.1
  obtain ⟨m, hm⟩ : ∃ n, t.L.length = n := ⟨_, rfl⟩
  have HM := Lib.hid hm
  rw [hm] at HQR hql
  clear hq hm
  obtain ⟨q0, qc, hqn⟩ : ∃ a b, t.now = (a, b) := ⟨_, _, rfl⟩
  have HQN := Lib.hid hqn
  have HQO : Hid (cidOk qc) := Lib.hid (by have h9 := HQ.out.now.2; rw [hqn] at h9; exact h9)
  rw [hqn] at HQR
  clear hqn
  have hq8 : (qc.map (Value.int .u8)).length = 8 := by simp [HQO.out.1]
  obtain ⟨QX, hQX⟩ : ∃ C, qc.map (Value.int .u8) = C := ⟨_, rfl⟩
  have HQX := Lib.hid hQX
  rw [hQX] at hq8
  have HQ8 := Lib.hid hq8
  clear hq8 hQX
  have hqq : (qc == qc) = true := by simp
  have HQT : Hid (∀ (j : Nat) (v : Value), QX[j]? = some v → (rtRow (.slice hh.la m hh.lc) (.slice hh.ca t.came.length hh.cc) (.slice hh.ra t.due.length hh.rc) (.slice hh.wa t.was.length hh.wc) (q0, qc))[5 + j]? = some v) := Lib.hid (fun j v hv => by have h9 := rtRow_now (.slice hh.la m hh.lc) (.slice hh.ca t.came.length hh.cc) (.slice hh.ra t.due.length hh.rc) (.slice hh.wa t.was.length hh.wc) (q0, qc) (1 + j) v (nm_tail rfl j v (by rw [HQX.out]; exact hv)); rw [show 4 + (1 + j) = 5 + j by omega] at h9; exact h9)
  have g0 : ∀ z : In (fun y => Below w.heap.size w y), z.w.cell? ⟨g, 0, none⟩ = some (.pointer (some ⟨po, 0, none⟩)) := fun z => cell_row (bl_row z.h HT.out.gs HT.out.row) 0 _ rfl
  have g1 : ∀ z : In (fun y => Below w.heap.size w y), z.w.cell? ⟨g, 1, none⟩ = some (.pointer (some ⟨pt, 0, none⟩)) := fun z => cell_row (bl_row z.h HT.out.gs HT.out.row) 1 _ rfl
  have g2 : ∀ z : In (fun y => Below w.heap.size w y), z.w.cell? ⟨g, 2, none⟩ = some (.pointer (some ⟨pp, 0, none⟩)) := fun z => cell_row (bl_row z.h HT.out.gs HT.out.row) 2 _ rfl
  have g3 : ∀ z : In (fun y => Below w.heap.size w y), z.w.cell? ⟨g, 3, none⟩ = some (.pointer (some ⟨pq, 0, none⟩)) := fun z => cell_row (bl_row z.h HT.out.gs HT.out.row) 3 _ rfl
  have g4 : ∀ z : In (fun y => Below w.heap.size w y), z.w.cell? ⟨pp, 0, none⟩ = some (.slice a n cp) := fun z => cell_row (bl_row z.h (lt_of_block HPR.out) HPR.out) 0 _ rfl
  have g5 : ∀ z : In (fun y => Below w.heap.size w y), z.w.cell? ⟨pq, 0, none⟩ = some (.slice hh.la m hh.lc) := fun z => cell_row (bl_row z.h (lt_of_block HQR.out) HQR.out) 0 _ rfl
  refine wp_plan (.t 0 (.t 1 (.t 2 (.t 3 (.t 5 (.t 6 (.t 7 (.t 8 (.t 9 (.t 10 (.t 11 (.u 4 (.u 12 (.u 13 (.t 14 (.t 15 (.t 16 (.t 17 (.t 18 (.t 19 (.t 21 (.u 20 (.t 22 (.t 23 (.t 24 (.t 25 (.t 26 (.t 27 (.t 28 (.t 30 (.t 31 (.t 32 (.t 33 (.t 34 (.t 35 (.t 36 (.t 37 (.u 29 (.t 38 (.t 39 (.t 40 (.t 41 (.t 42 (.t 43 (.t 44 (.t 46 (.t 47 (.t 48 (.t 49 (.t 50 (.t 51 (.t 52 (.t 53 (.u 45 (.t 54 (.t 55 (.t 56 .done))))))))))))))))))))))))))))))))))))))))))))))))))))))))) (fun y => Below w.heap.size w y) (by kernel_rfl) (by kernel_rfl) (by kernel_rfl) (fun c a d v w h => by first | (cases d <;> exact h) | exact HKP.out c a d v w h) (Below.refl _ _).drew ?_
  have hdr := (Below.refl w.heap.size w).drew
  have HT1 := Lib.hid (HT.out.below hdr)
  have HRK1 := Lib.hid (HRK.out.below hdr)
  have HB := Lib.hid hdr
  clear hdr
  generalize w.drew = w1 at HT1 HRK1 HB ⊢
  haveI hne : Nonempty (In (fun y => Below w.heap.size w y)) := ⟨⟨w, Below.refl _ _⟩⟩
  repeat (first | (refine plan_t_load (by rfl) (by kernel_rfl) 38 _ rfl gc 0 rfl CX _ (fun y hy => rngL (bl_row hy (lt_of_block HG.out) HG.out)) Try.underlying38 rfl (by rw [HC8.out]; rfl) ?_; simp only [Act.put, List.setIfInBounds_toArray, List.set_cons_succ, List.set_cons_zero]) | (refine plan_t_load (by rfl) (by kernel_rfl) 38 _ rfl pq (4 + 1) rfl QX _ (fun y hy => rng_row (bl_row hy (lt_of_block HQR.out) HQR.out) 5 _ HQT.out) Try.underlying38 rfl (by rw [HQ8.out]; rfl) ?_; simp only [Act.put, List.setIfInBounds_toArray, List.set_cons_succ, List.set_cons_zero]) | (refine plan_t_load (by rfl) (by kernel_rfl) 38 _ rfl pq 5 rfl QX _ (fun y hy => rng_row (bl_row hy (lt_of_block HQR.out) HQR.out) 5 _ HQT.out) Try.underlying38 rfl (by rw [HQ8.out]; rfl) ?_; simp only [Act.put, List.setIfInBounds_toArray, List.set_cons_succ, List.set_cons_zero]) | (refine plan_t_eql_cid (by rfl) (by kernel_rfl) _ _ _ rfl qc qc (by rw [HQX.out]; rfl) (by rw [HQX.out]; rfl) HQO.out HQO.out ?_; simp only [Act.put, List.setIfInBounds_toArray, List.set_cons_succ, List.set_cons_zero]; rw [hqq]) | (refine plan_t (by rfl) ?_; (first | go_big_quiet_skip | (go_big_quiet_want; go_big_quiet_op; go_big_quiet_on)); refine wpQuiet_nil ?_))
  skip
  refine plan_us (by rfl) (by kernel_rfl) ?_
  intro K hK
  go_wp2_with fail
  refine Calls.mono (all_any w1 po B1 o.L o.nx o.sd HT1.out.ho) ?_
  rintro e w2 ⟨a1, n1, k1, rfl, hnk1, hkm1, hat1, hb⟩
  have HA1 := Lib.hid hat1
  clear hat1
  replace HT1 := Lib.hid (HT1.out.below hb)
  replace HB := Lib.hid (bl_next HB.out HB.out.size hb)
  replace HRK1 := Lib.hid (HRK1.out.below hb)
  clear hb
  go_wp2_with fail
  refine ⟨HB.out, ?_⟩
  refine plan_us (by rfl) (by kernel_rfl) ?_
  intro K hK
  go_wp2_with fail
  refine Calls.mono (names_any w2 a n cp o.L HRK1.out (by omega)) ?_
  rintro e w3 ⟨a2, n2, k2, rfl, hnk2, hkm2, hat2, hb⟩
  have HA2 := Lib.hid hat2
  clear hat2
  replace HA1 := Lib.hid (HA1.out.below hb)
  replace HT1 := Lib.hid (HT1.out.below hb)
  replace HB := Lib.hid (bl_next HB.out HB.out.size hb)
  clear hb
  go_wp2_with fail
  refine ⟨HB.out, ?_⟩
  have hn1 : n1 ≤ 1000 := by have h9 := HA1.out.1; rw [List.length_map, HN.out] at h9; omega
  refine plan_us (by rfl) (by kernel_rfl) ?_
  intro K hK
  go_wp2_with fail
  refine Calls.mono (same20_any w3 a1 a2 n1 n2 k1 k2 (o.L.map Prod.snd) HA1.out HA2.out hn1) ?_
  rintro e w4 ⟨rfl, hb⟩
  replace HT1 := Lib.hid (HT1.out.below hb)
  replace HB := Lib.hid (bl_next HB.out HB.out.size hb)
  clear hb
  go_wp2_with fail
  refine ⟨HB.out, ?_⟩
  repeat (first | (refine plan_t_load (by rfl) (by kernel_rfl) 38 _ rfl gc 0 rfl CX _ (fun y hy => rngL (bl_row hy (lt_of_block HG.out) HG.out)) Try.underlying38 rfl (by rw [HC8.out]; rfl) ?_; simp only [Act.put, List.setIfInBounds_toArray, List.set_cons_succ, List.set_cons_zero]) | (refine plan_t_load (by rfl) (by kernel_rfl) 38 _ rfl pq (4 + 1) rfl QX _ (fun y hy => rng_row (bl_row hy (lt_of_block HQR.out) HQR.out) 5 _ HQT.out) Try.underlying38 rfl (by rw [HQ8.out]; rfl) ?_; simp only [Act.put, List.setIfInBounds_toArray, List.set_cons_succ, List.set_cons_zero]) | (refine plan_t_load (by rfl) (by kernel_rfl) 38 _ rfl pq 5 rfl QX _ (fun y hy => rng_row (bl_row hy (lt_of_block HQR.out) HQR.out) 5 _ HQT.out) Try.underlying38 rfl (by rw [HQ8.out]; rfl) ?_; simp only [Act.put, List.setIfInBounds_toArray, List.set_cons_succ, List.set_cons_zero]) | (refine plan_t_eql_cid (by rfl) (by kernel_rfl) _ _ _ rfl qc qc (by rw [HQX.out]; rfl) (by rw [HQX.out]; rfl) HQO.out HQO.out ?_; simp only [Act.put, List.setIfInBounds_toArray, List.set_cons_succ, List.set_cons_zero]; rw [hqq]) | (refine plan_t (by rfl) ?_; (first | go_big_quiet_skip | (go_big_quiet_want; go_big_quiet_op; go_big_quiet_on)); refine wpQuiet_nil ?_))
  have hcl := has_any w4 po B1 o.L o.nx o.sd HT1.out.ho c HCO.out
  rw [show cidV c = .agg CX.toArray by unfold cidV; rw [HCX.out], HBB.out] at hcl
  have HCL := Lib.hid hcl
  clear hcl
  refine plan_us (by rfl) (by kernel_rfl) ?_
  intro K hK
  go_wp2_with fail
  refine Calls.mono (HCL.out) ?_
  rintro e w5 ⟨rfl, hb⟩
  clear HCL
  replace HT1 := Lib.hid (HT1.out.below hb)
  replace HB := Lib.hid (bl_next HB.out HB.out.size hb)
  clear hb
  go_wp2_with fail
  refine ⟨HB.out, ?_⟩
  have hbb : (b == b) = true := by cases b <;> rfl
  (refine plan_t (by rfl) ?_; (first | go_big_quiet_skip | (go_big_quiet_want; go_big_quiet_op; go_big_quiet_on)); refine wpQuiet_nil ?_)
  (refine plan_t (by rfl) ?_; (first | go_big_quiet_skip | (go_big_quiet_want; go_big_quiet_op; go_big_quiet_on)); refine wpQuiet_nil ?_)
  first | rw [hbb] | skip
  repeat (first | (refine plan_t_load (by rfl) (by kernel_rfl) 38 _ rfl gc 0 rfl CX _ (fun y hy => rngL (bl_row hy (lt_of_block HG.out) HG.out)) Try.underlying38 rfl (by rw [HC8.out]; rfl) ?_; simp only [Act.put, List.setIfInBounds_toArray, List.set_cons_succ, List.set_cons_zero]) | (refine plan_t_load (by rfl) (by kernel_rfl) 38 _ rfl pq (4 + 1) rfl QX _ (fun y hy => rng_row (bl_row hy (lt_of_block HQR.out) HQR.out) 5 _ HQT.out) Try.underlying38 rfl (by rw [HQ8.out]; rfl) ?_; simp only [Act.put, List.setIfInBounds_toArray, List.set_cons_succ, List.set_cons_zero]) | (refine plan_t_load (by rfl) (by kernel_rfl) 38 _ rfl pq 5 rfl QX _ (fun y hy => rng_row (bl_row hy (lt_of_block HQR.out) HQR.out) 5 _ HQT.out) Try.underlying38 rfl (by rw [HQ8.out]; rfl) ?_; simp only [Act.put, List.setIfInBounds_toArray, List.set_cons_succ, List.set_cons_zero]) | (refine plan_t_eql_cid (by rfl) (by kernel_rfl) _ _ _ rfl qc qc (by rw [HQX.out]; rfl) (by rw [HQX.out]; rfl) HQO.out HQO.out ?_; simp only [Act.put, List.setIfInBounds_toArray, List.set_cons_succ, List.set_cons_zero]; rw [hqq]) | (refine plan_t (by rfl) ?_; (first | go_big_quiet_skip | (go_big_quiet_want; go_big_quiet_op; go_big_quiet_on)); refine wpQuiet_nil ?_))
  obtain ⟨la, ra, lc, rc, bn, bs, bg, hth⟩ := HT1.out.ht
  have hnc := now20_any w5 pt B2 N t la ra lc rc bn bs bg hth
  rw [show cidV t.now.2 = .agg QX.toArray by unfold cidV; rw [HQN.out, HQX.out]] at hnc
  have HNC := Lib.hid hnc
  clear hnc hth
  refine plan_us (by rfl) (by kernel_rfl) ?_
  intro K hK
  go_wp2_with fail
  refine Calls.mono (HNC.out) ?_
  rintro e w6 ⟨rfl, hb⟩
  clear HNC
  replace HT1 := Lib.hid (HT1.out.below hb)
  replace HB := Lib.hid (bl_next HB.out HB.out.size hb)
  clear hb
  go_wp2_with fail
  refine ⟨HB.out, ?_⟩
  repeat (first | (refine plan_t_load (by rfl) (by kernel_rfl) 38 _ rfl gc 0 rfl CX _ (fun y hy => rngL (bl_row hy (lt_of_block HG.out) HG.out)) Try.underlying38 rfl (by rw [HC8.out]; rfl) ?_; simp only [Act.put, List.setIfInBounds_toArray, List.set_cons_succ, List.set_cons_zero]) | (refine plan_t_load (by rfl) (by kernel_rfl) 38 _ rfl pq (4 + 1) rfl QX _ (fun y hy => rng_row (bl_row hy (lt_of_block HQR.out) HQR.out) 5 _ HQT.out) Try.underlying38 rfl (by rw [HQ8.out]; rfl) ?_; simp only [Act.put, List.setIfInBounds_toArray, List.set_cons_succ, List.set_cons_zero]) | (refine plan_t_load (by rfl) (by kernel_rfl) 38 _ rfl pq 5 rfl QX _ (fun y hy => rng_row (bl_row hy (lt_of_block HQR.out) HQR.out) 5 _ HQT.out) Try.underlying38 rfl (by rw [HQ8.out]; rfl) ?_; simp only [Act.put, List.setIfInBounds_toArray, List.set_cons_succ, List.set_cons_zero]) | (refine plan_t_eql_cid (by rfl) (by kernel_rfl) _ _ _ rfl qc qc (by rw [HQX.out]; rfl) (by rw [HQX.out]; rfl) HQO.out HQO.out ?_; simp only [Act.put, List.setIfInBounds_toArray, List.set_cons_succ, List.set_cons_zero]; rw [hqq]) | (refine plan_t (by rfl) ?_; (first | go_big_quiet_skip | (go_big_quiet_want; go_big_quiet_op; go_big_quiet_on)); refine wpQuiet_nil ?_))
  obtain ⟨la, ra, lc, rc, bn, bs, bg, hth⟩ := HT1.out.ht
  have hnc := len20_any w6 pt B2 N t la ra lc rc bn bs bg hth
  rw [HM.out] at hnc
  have HNC := Lib.hid hnc
  clear hnc hth
  refine plan_us (by rfl) (by kernel_rfl) ?_
  intro K hK
  go_wp2_with fail
  refine Calls.mono (HNC.out) ?_
  rintro e w7 ⟨rfl, hb⟩
  clear HNC
  replace HT1 := Lib.hid (HT1.out.below hb)
  replace HB := Lib.hid (bl_next HB.out HB.out.size hb)
  clear hb
  go_wp2_with fail
  refine ⟨HB.out, ?_⟩
  have hmm : ((m : Int) == (m : Int)) = true := by simp
  (refine plan_t (by rfl) ?_; (first | go_big_quiet_skip | (go_big_quiet_want; go_big_quiet_op; go_big_quiet_on)); refine wpQuiet_nil ?_)
  first | rw [hmm] | skip
  repeat (first | (refine plan_t_load (by rfl) (by kernel_rfl) 38 _ rfl gc 0 rfl CX _ (fun y hy => rngL (bl_row hy (lt_of_block HG.out) HG.out)) Try.underlying38 rfl (by rw [HC8.out]; rfl) ?_; simp only [Act.put, List.setIfInBounds_toArray, List.set_cons_succ, List.set_cons_zero]) | (refine plan_t_load (by rfl) (by kernel_rfl) 38 _ rfl pq (4 + 1) rfl QX _ (fun y hy => rng_row (bl_row hy (lt_of_block HQR.out) HQR.out) 5 _ HQT.out) Try.underlying38 rfl (by rw [HQ8.out]; rfl) ?_; simp only [Act.put, List.setIfInBounds_toArray, List.set_cons_succ, List.set_cons_zero]) | (refine plan_t_load (by rfl) (by kernel_rfl) 38 _ rfl pq 5 rfl QX _ (fun y hy => rng_row (bl_row hy (lt_of_block HQR.out) HQR.out) 5 _ HQT.out) Try.underlying38 rfl (by rw [HQ8.out]; rfl) ?_; simp only [Act.put, List.setIfInBounds_toArray, List.set_cons_succ, List.set_cons_zero]) | (refine plan_t_eql_cid (by rfl) (by kernel_rfl) _ _ _ rfl qc qc (by rw [HQX.out]; rfl) (by rw [HQX.out]; rfl) HQO.out HQO.out ?_; simp only [Act.put, List.setIfInBounds_toArray, List.set_cons_succ, List.set_cons_zero]; rw [hqq]) | (refine plan_t (by rfl) ?_; (first | go_big_quiet_skip | (go_big_quiet_want; go_big_quiet_op; go_big_quiet_on)); refine wpQuiet_nil ?_))
  clear hne
  show Q _ _ _
  have hb9 := HBB.out
  subst hb9
  exact HK.out _ _ _ _ _ _ _ _ _ _ _ _ _ _ _ _ _ _ _ _ _ _ _ _ _ _ _ _ _ _ _ _ _ _ _ _ _ _ _ _ _ _ _ _ _ _ _ _ _ _ _ _ _ _ _ _ w7 HB
end Go.Proofs.Ytjdcmhclamjcjaa
namespace Go.Proofs.Ytjdcmhclamjcjaa
open Go.RowKit
set_option linter.unusedVariables false
set_option linter.unusedSimpArgs false

set_option maxRecDepth 100000 in
set_option maxHeartbeats 8000000 in
theorem wsame_any (w : World) {g po pt pp pq bse N : Nat} {B1 B2 B3 B4 : List Nat} {o : Ow} {t : Th} (h : Wd bse w g po pt pp pq B1 B2 B3 B4 N o t o t) (c : List Int) (hc : cidOk c) (hN : N ≤ 10000) :
    Makes Try.prog 27 #[.pointer (some ⟨g, 0, none⟩), cidV c] w (.bool true) := by
  have HT := Lib.hid h; have HCO := Lib.hid hc
  obtain ⟨a, cp, hrow, hown, hblk⟩ := h.hp.ex
  have HPR := Lib.hid hrow
  have HRK := Lib.hid (RK.At.of_own hown (OwnAt.ok h.hp))
  have hl4 := OwnAt.len h.hp
  obtain ⟨n, hn⟩ : ∃ n, o.L.length = n := ⟨_, rfl⟩
  have HN := Lib.hid hn
  rw [hn] at HPR HRK hl4
  clear hrow hown hblk hn
  have HR := Lib.hid h.row
  have hcl : (c.map (Value.int .u8)).length = 8 := by simp [hc.1]
  unfold cidV
  obtain ⟨CX, hCX⟩ : ∃ C, c.map (Value.int .u8) = C := ⟨_, rfl⟩
  have HCX := Lib.hid hCX
  rw [hCX] at hcl ⊢
  have HB := Lib.hid (Below.refl w.heap.size w)
  clear h hc hCX hcl
  go_enter Try.func27, Try.ntmps27
  go_upto_region 1 with fail
  change Code.wp _ _ _ _ (w.alloc (.cells CX.toArray 38))
  have hb := (Below.refl w.heap.size w).alloc (Nat.le_refl _) (.cells CX.toArray 38)
  replace HB := Lib.hid (bl_next HB.out HB.out.size hb)
  replace HR := Lib.hid (bl_row hb (lt_of_block HR.out) HR.out)
  replace HPR := Lib.hid (bl_row hb (lt_of_block HPR.out) HPR.out)
  replace HRK := Lib.hid (HRK.out.below hb)
  replace HT := Lib.hid (HT.out.below hb)
  have HG := Lib.hid (heap_alloc_new w (.cells CX.toArray 38))
  clear hb
  generalize w.alloc (.cells CX.toArray 38) = w1 at HB HR HPR HRK HT HG ⊢
  obtain ⟨gc, hg⟩ : ∃ g, w.heap.size = g := ⟨_, rfl⟩
  rw [hg] at HG ⊢
  clear hg
  go_wp2_with fail
  go_loopw [5, 6] (fun s5 s6 wr => ∃ (i : Nat) (has : Bool), s5 = .bool has ∧ s6 = .int .i64 i ∧ i ≤ n ∧ Hid (Below w1.heap.size w1 wr) ∧ Hid (has = (o.L.take i).any (fun x => x.2 == c))) (fun _ s _ => n - (intOf s).toNat)
  case atStart => exact ⟨0, false, rfl, rfl, by omega, Lib.hid (Below.refl _ _), Lib.hid rfl⟩
  case round =>
    obtain ⟨i, has, rfl, rfl, hi, HBW, HH⟩ := hrel
    have hbw := HBW.out
    replace HB := Lib.hid (bl_next HB.out HB.out.size hbw)
    replace HR := Lib.hid (bl_row hbw (lt_of_block HR.out) HR.out)
    replace HPR := Lib.hid (bl_row hbw (lt_of_block HPR.out) HPR.out)
    replace HRK := Lib.hid (HRK.out.below hbw)
    replace HT := Lib.hid (HT.out.below hbw)
    replace HG := Lib.hid (bl_row hbw (lt_of_block HG.out) HG.out)
    clear hbw
    have cg2 := cell_row HR.out 2 _ wdRow_2
    have cp0 := row_cell HPR.out 0 _ rfl
    by_cases hlt : i < n
    · skip
      obtain ⟨d, e, hx⟩ := nm_pair (L := o.L) (i := i) (by rw [HN.out]; exact hlt)
      have HX := Lib.hid hx
      have HTS := Lib.hid (take_snd' hx)
      clear hx
      go_upto_region 5 with fail
      clear cg2 cp0
      cases has
      · skip
        refine ws_f _ HR HPR HG HCX HCO HRK hlt (by omega) HX (fun c a d v w h => by cases d <;> exact h) ?_
        rintro _ _ _ _ _ _ _ _ _ _ _ _ _ _ _ _ w8 HB8
        have hb8 := HB8.out
        replace HB := Lib.hid (bl_next HB.out HB.out.size hb8)
        replace HR := Lib.hid (bl_row hb8 (lt_of_block HR.out) HR.out)
        replace HPR := Lib.hid (bl_row hb8 (lt_of_block HPR.out) HPR.out)
        replace HRK := Lib.hid (HRK.out.below hb8)
        replace HT := Lib.hid (HT.out.below hb8)
        replace HG := Lib.hid (bl_row hb8 (lt_of_block HG.out) HG.out)
        replace HBW := Lib.hid (bl_next HBW.out HBW.out.size hb8)
        clear hb8 HB8
        obtain ⟨b, hb⟩ : ∃ b, (e == c) = b := ⟨_, rfl⟩
        rw [hb]
        have HEB := Lib.hid hb
        clear hb
        go_wp2_with fail
        go_roundw
        case rel => exact ⟨i + 1, b, rfl, by go_num, by omega, HBW, Lib.hid (by rw [HTS.out, List.any_append, ← HH.out]; simp only [List.any_cons, List.any_nil, HEB.out]; cases b <;> rfl)⟩
        case measure => simp [intOf]; omega
      · skip
        refine ws_t _ HR HPR HG HCX HCO HRK hlt (by omega) HX (fun c a d v w h => by cases d <;> exact h) ?_
        rintro _ _ _ _ _ _ _ _ _ _ _ _ _ _ _ _ w8 HB8
        have hb8 := HB8.out
        replace HB := Lib.hid (bl_next HB.out HB.out.size hb8)
        replace HR := Lib.hid (bl_row hb8 (lt_of_block HR.out) HR.out)
        replace HPR := Lib.hid (bl_row hb8 (lt_of_block HPR.out) HPR.out)
        replace HRK := Lib.hid (HRK.out.below hb8)
        replace HT := Lib.hid (HT.out.below hb8)
        replace HG := Lib.hid (bl_row hb8 (lt_of_block HG.out) HG.out)
        replace HBW := Lib.hid (bl_next HBW.out HBW.out.size hb8)
        clear hb8 HB8
        go_wp2_with fail
        go_roundw
        case rel => exact ⟨i + 1, true, rfl, by go_num, by omega, HBW, Lib.hid (by rw [HTS.out, List.any_append, ← HH.out]; simp only [List.any_cons, List.any_nil]; rfl)⟩
        case measure => simp [intOf]; omega
    · obtain rfl : n = i := by omega
      have htk : o.L.take n = o.L := List.take_of_length_le (by rw [HN.out]; exact Nat.le_refl _)
      rw [htk] at HH
      clear htk
      have hh := HH.out
      subst hh
      go_upto_region 6 with fail
      clear cg2 cp0
      refine ws_all _ HT HG HCX HCO hN (fun c a d v w h => by cases d <;> exact h) ?_
      rintro _ _ _ _ _ _ _ _ _ _ _ _ _ _ _ _ _ _ _ _ _ _ _ _ _ _ _ _ _ _ _ _ _ _ _ _ _ _ _ _ _ _ _ _ _ _ _ _ _ _ _ _ _ _ _ _ w9 HB9
      go_wp2_with fail
      (try simp only [Exit.inBlock, Exit.then])
      go_ret
      exact ⟨rfl, bl_next HB.out HB.out.size HB9.out⟩
end Go.Proofs.Ytjdcmhclamjcjaa
namespace Go.Proofs.Ytjdcmhclamjcjaa
open Go.RowKit
set_option linter.unusedVariables false
set_option linter.unusedSimpArgs false

abbrev AKT : TypeId := 30
abbrev FRT : TypeId := 53
def Ax (k : Nat) (B1 B2 B3 B4 : List Nat) : Prop := k ∉ B1 ∧ k ∉ B2 ∧ k ∉ B3 ∧ k ∉ B4
abbrev AuxR := Nat × List Value × TypeId
def rowOf (w : World) (r : AuxR) : Prop := w.heap[r.1]? = some (.cells r.2.1.toArray r.2.2 (0, 0))
structure Sx (bse : Nat) (w0 w : World) (g po pt pp pq : Nat) (B1 B2 B3 B4 : List Nat) (N : Nat) (o : Ow) (t : Th) (p : Ow) (q : Th) (R : List AuxR) : Prop where
  wd : Wd bse w g po pt pp pq B1 B2 B3 B4 N o t p q
  low : Below bse w0 w
  row : ∀ r ∈ R, rowOf w r
  ax : ∀ r ∈ R, Ax r.1 B1 B2 B3 B4 ∧ r.1 ≠ g ∧ bse ≤ r.1
section
variable {bse : Nat} {w0 w y : World} {g po pt pp pq N N' : Nat} {B1 B2 B3 B4 C : List Nat} {o p : Ow} {t q : Th} {R : List AuxR}
theorem Sx.lt (h : Sx bse w0 w g po pt pp pq B1 B2 B3 B4 N o t p q R) : ∀ r ∈ R, r.1 < w.heap.size := fun r hr => lt_of_block (h.row r hr)
theorem Sx.ne (h : Sx bse w0 w g po pt pp pq B1 B2 B3 B4 N o t p q R) : ∀ r ∈ R, r.1 ≠ w.heap.size := fun r hr => Nat.ne_of_lt (h.lt r hr)
theorem Sx.below (h : Sx bse w0 w g po pt pp pq B1 B2 B3 B4 N o t p q R) (hb : Below w.heap.size w y) : Sx bse w0 y g po pt pp pq B1 B2 B3 B4 N o t p q R :=
  ⟨h.wd.below hb, h.low.trans (hb.mono h.wd.bs), fun r hr => bl_row hb (h.lt r hr) (h.row r hr), h.ax⟩
theorem Sx.drew (h : Sx bse w0 w g po pt pp pq B1 B2 B3 B4 N o t p q R) : Sx bse w0 w.drew g po pt pp pq B1 B2 B3 B4 N o t p q R := h.below (Below.refl _ _).drew
theorem Sx.less {R' : List AuxR} (h : Sx bse w0 w g po pt pp pq B1 B2 B3 B4 N o t p q R) (hs : ∀ r ∈ R', r ∈ R) : Sx bse w0 w g po pt pp pq B1 B2 B3 B4 N o t p q R' :=
  ⟨h.wd, h.low, fun r hr => h.row r (hs r hr), fun r hr => h.ax r (hs r hr)⟩
theorem Sx.stepO (h : Sx bse w0 w g po pt pp pq B1 B2 B3 B4 N o t p q R) (hu : UpdO B1 w y C) {o' : Ow} (hn : OwnP y po C o'.L o'.nx o'.sd) : Sx bse w0 y g po pt pp pq C B2 B3 B4 N o' t p q R :=
  ⟨h.wd.stepO hu hn, h.low.trans (low_of hu h.wd.ge.2.1 h.wd.bs), fun r hr => hu.off.row (h.row r hr) (h.ax r hr).1.1, fun r hr => ⟨⟨ni_new hu (h.ax r hr).1.1 (h.lt r hr), (h.ax r hr).1.2⟩, (h.ax r hr).2⟩⟩
theorem Sx.stepP (h : Sx bse w0 w g po pt pp pq B1 B2 B3 B4 N o t p q R) (hu : UpdO B3 w y C) {p' : Ow} (hn : OwnR y pp C p'.L p'.nx p'.sd) : Sx bse w0 y g po pt pp pq B1 B2 C B4 N o t p' q R :=
  ⟨h.wd.stepP hu hn, h.low.trans (low_of hu h.wd.ge.2.2.2.1 h.wd.bs), fun r hr => hu.off.row (h.row r hr) (h.ax r hr).1.2.2.1, fun r hr => ⟨⟨(h.ax r hr).1.1, (h.ax r hr).1.2.1, ni_new hu (h.ax r hr).1.2.2.1 (h.lt r hr), (h.ax r hr).1.2.2.2⟩, (h.ax r hr).2⟩⟩
theorem Sx.stepT (h : Sx bse w0 w g po pt pp pq B1 B2 B3 B4 N o t p q R) (hu : UpdO B2 w y C) {t' : Th} (hn : ThX y pt C N' t') (hN : N ≤ N') : Sx bse w0 y g po pt pp pq B1 C B3 B4 N' o t' p q R :=
  ⟨h.wd.stepT hu hn hN, h.low.trans (low_of hu h.wd.ge.2.2.1 h.wd.bs), fun r hr => hu.off.row (h.row r hr) (h.ax r hr).1.2.1, fun r hr => ⟨⟨(h.ax r hr).1.1, ni_new hu (h.ax r hr).1.2.1 (h.lt r hr), (h.ax r hr).1.2.2⟩, (h.ax r hr).2⟩⟩
theorem Sx.stepQ (h : Sx bse w0 w g po pt pp pq B1 B2 B3 B4 N o t p q R) (hu : UpdO B4 w y C) {q' : Th} (hn : RtX y pq C N' q') (hN : N ≤ N') : Sx bse w0 y g po pt pp pq B1 B2 B3 C N' o t p q' R :=
  ⟨h.wd.stepQ hu hn hN, h.low.trans (low_of hu h.wd.ge.2.2.2.2 h.wd.bs), fun r hr => hu.off.row (h.row r hr) (h.ax r hr).1.2.2.2, fun r hr => ⟨⟨(h.ax r hr).1.1, (h.ax r hr).1.2.1, (h.ax r hr).1.2.2.1, ni_new hu (h.ax r hr).1.2.2.2 (h.lt r hr)⟩, (h.ax r hr).2⟩⟩
theorem Sx.fresh (h : Sx bse w0 w g po pt pp pq B1 B2 B3 B4 N o t p q R) : Ax w.heap.size B1 B2 B3 B4 ∧ w.heap.size ≠ g ∧ bse ≤ w.heap.size :=
  ⟨⟨fun hm => Nat.lt_irrefl _ (h.wd.ho.lt _ hm), fun hm => Nat.lt_irrefl _ (h.wd.ht.lt _ hm), fun hm => Nat.lt_irrefl _ (h.wd.hp.lt _ hm), fun hm => Nat.lt_irrefl _ (h.wd.hq.lt _ hm)⟩, fun e => by have := h.wd.gs; omega, h.wd.bs⟩
/-- a new block with a row. -/
theorem Sx.boxed (h : Sx bse w0 w g po pt pp pq B1 B2 B3 B4 N o t p q R) (l : List Value) (ty : TypeId) : Sx bse w0 (w.alloc (.cells l.toArray ty)) g po pt pp pq B1 B2 B3 B4 N o t p q ((w.heap.size, l, ty) :: R) :=
  have hb := (Below.refl w.heap.size w).alloc (Nat.le_refl _) (.cells l.toArray ty)
  have h2 := h.below hb
  ⟨h2.wd, h2.low, fun r hr => by rcases List.mem_cons.1 hr with rfl | hr; exact heap_alloc_new w (.cells l.toArray ty); exact h2.row r hr, fun r hr => by rcases List.mem_cons.1 hr with rfl | hr; exact h.fresh; exact h.ax r hr⟩
theorem Wd.aux {k : Nat} (h : Wd bse w g po pt pp pq B1 B2 B3 B4 N o t p q) (ho : Off [k] w y) (hk : Ax k B1 B2 B3 B4) (hg : k ≠ g) : Wd bse y g po pt pp pq B1 B2 B3 B4 N o t p q :=
  ⟨ho.row h.row (fun hm => hg (List.mem_singleton.1 hm).symm), h.ho.off ho (fun x hx hm => hk.1 (by rw [← List.mem_singleton.1 hm]; exact hx)), h.ht.off ho (fun x hx hm => hk.2.1 (by rw [← List.mem_singleton.1 hm]; exact hx)), h.hp.off ho (fun x hx hm => hk.2.2.1 (by rw [← List.mem_singleton.1 hm]; exact hx)), h.hq.off ho (fun x hx hm => hk.2.2.2 (by rw [← List.mem_singleton.1 hm]; exact hx)),
    h.d12, h.d13, h.d14, h.d23, h.d24, h.d34, h.g0, h.ge⟩
/-- another row in the newest block. -/
theorem Sx.stored {k : Nat} {z l : List Value} {ty : TypeId} (h : Sx bse w0 w g po pt pp pq B1 B2 B3 B4 N o t p q ((k, z, ty) :: R)) (hd : ∀ r ∈ R, r.1 ≠ k) (hg : w.grownBy y (some k)) (hr : y.heap[k]? = some (.cells l.toArray ty (0, 0))) :
    Sx bse w0 y g po pt pp pq B1 B2 B3 B4 N o t p q ((k, l, ty) :: R) :=
  have hk := h.ax _ (List.mem_cons_self ..)
  have ho : Off [k] w y := Off.of_grown hg (fun g hg => by injection hg with hg; subst hg; simp)
  ⟨h.wd.aux ho hk.1 hk.2.1, h.low.trans (ho.below h.wd.bs (fun x hx => by rw [List.mem_singleton.1 hx]; exact hk.2.2)), fun r hm => by rcases List.mem_cons.1 hm with rfl | hm; exact hr; exact ho.row (h.row r (List.mem_cons_of_mem _ hm)) (fun e => hd r hm (List.mem_singleton.1 e)),
    fun r hm => by rcases List.mem_cons.1 hm with rfl | hm; exact hk; exact h.ax r (List.mem_cons_of_mem _ hm)⟩
end
/-- what Retire tells. -/
def retT (L : List Nm) (s : Int) : List Int × Int × List Nm := match retM L s with
  | none => (Z8, 22, L)
  | some (x, l) => if L.length = 1 then (Z8, 24, L) else (x.2, 0, l)
theorem retM_mem : ∀ {L : List Nm} {s : Int} {x : Nm} {l : List Nm}, retM L s = some (x, l) → x ∈ L
  | [], s, x, l, h => by cases h
  | y :: L, s, x, l, h => by
    simp only [retM] at h
    split at h
    · injection h with h; injection h with h1 h2; rw [← h1]; exact List.mem_cons_self ..
    · cases hr : retM L s with
      | none => rw [hr] at h; cases h
      | some z => rw [hr] at h; injection h with h; injection h with h1 h2; rw [← h1]; exact List.mem_cons_of_mem _ (retM_mem (l := z.2) hr)
theorem retT_ok {L : List Nm} (s : Int) (h : ∀ x ∈ L, nmK.ok x) : cidOk (retT L s).1 := by
  unfold retT
  cases hr : retM L s with
  | none => exact z8_ok
  | some z => obtain ⟨x, l⟩ := z; simp only; split; exact z8_ok; exact (h x (retM_mem hr)).2
theorem RetR.get {OT NT : TypeId} {w w' : World} {p : Nat} {B : List Nat} {L : List Nm} {nx sd s : Int} {e : Ending} (h : RetR OT NT w p B L nx sd s e w') :
    ∃ C, UpdO B w w' C ∧ e = .returned (.tuple #[.agg ((retT L s).1.map (Value.int .u8)).toArray, .int .i64 (retT L s).2.1]) ∧ OwnAt OT NT w' p C (retT L s).2.2 nx sd := by
  obtain ⟨C, hu, h⟩ := h
  refine ⟨C, hu, ?_⟩
  unfold retT
  rcases h with ⟨h1, h2, h3⟩ | ⟨x, l, h1, h⟩
  · rw [h1]; exact ⟨h2, h3⟩
  · rw [h1]
    rcases h with ⟨h2, h3, h4⟩ | ⟨h2, h3, h4⟩
    · simp only; rw [if_pos h2]; exact ⟨h3, h4⟩
    · simp only; rw [if_neg h2]; exact ⟨h3, h4⟩
/-- what Issue tells. -/
def issT (o : Ow) : Fr × Bool × Ow := if 4 ≤ o.L.length then (zeroF 0, false, o) else (issF o.nx (bytesM (nextM o.sd)), true, ⟨o.L ++ [(o.nx, bytesM (nextM o.sd))], o.nx + 1, nextM o.sd⟩)
theorem IssR.get {OT NT : TypeId} {w w' : World} {p : Nat} {B : List Nat} {o : Ow} {e : Ending} (h : IssR OT NT w p B o.L o.nx o.sd e w') :
    ∃ C, UpdO B w w' C ∧ e = .returned (.tuple #[.agg ((issT o).1.cells NILV NILV).toArray, .bool (issT o).2.1]) ∧ OwnAt OT NT w' p C (issT o).2.2.L (issT o).2.2.nx (issT o).2.2.sd := by
  obtain ⟨C, hu, h⟩ := h
  refine ⟨C, hu, ?_⟩
  unfold issT
  rcases h with ⟨h1, h2, h3⟩ | ⟨h1, h2, h3⟩
  · rw [if_pos h1]; exact ⟨h2, h3⟩
  · rw [if_neg (by omega)]; exact ⟨h2, h3⟩
/-- what Next tells. -/
def nxtT (S : Th) : Fr × Bool := match S.due with | [] => (zeroF 0, false) | d :: _ => (retF d, true)
theorem nextV_eq (S : Th) : nextV S.due = .tuple #[.agg ((nxtT S).1.cells NILV NILV).toArray, .bool (nxtT S).2] := by
  unfold nxtT; cases S.due <;> rfl
theorem zeroF_wf : (zeroF 0).Wf := (FrAt.zero default 0 ⟨by omega, by omega⟩).wf
end Go.Proofs.Ytjdcmhclamjcjaa
namespace Go.Proofs.Ytjdcmhclamjcjaa
open Go.RowKit
set_option linter.unusedVariables false
set_option linter.unusedSimpArgs false

set_option maxRecDepth 100000 in
set_option maxHeartbeats 8000000 in
theorem issue_any (w : World) (p : Nat) (B : List Nat) (L : List Nm) (nx sd : Int) (h : OwnAt 68 65 w p B L nx sd) (hnm : nx ≤ 1000000) :
    Calls Try.prog 25 #[.pointer (some ⟨p, 0, none⟩)] w (IssR 68 65 w p B L nx sd) := by
  have H := Lib.hid h
  have HNX := Lib.hid h.nx; have HPM := Lib.hid h.pm
  have HO := Lib.hid (Off.refl B w); have HB := Lib.hid (Below.refl w.heap.size w)
  obtain ⟨a, cp, hrow, hown, hblk⟩ := h.ex
  have HROW := Lib.hid hrow; have HOWN := Lib.hid hown; have HBK := Lib.hid hblk
  have hL := h.len
  clear hrow hown hblk h
  obtain ⟨n, hn⟩ : ∃ n, L.length = n := ⟨_, rfl⟩
  have HN := Lib.hid hn
  rw [hn] at HROW HOWN hL
  clear hn
  go_enter Try.func25, Try.ntmps25
  go_upto_region 1 with fail
  change Code.wp _ _ _ _ (w.alloc (.cells ([.int .i64 0, .int .u64 0, .int .u64 0, .slice none 0 0, .bool false, .int .u64 0, .int .u64 0, .int .u64 0, .int .u64 0, .int .u64 0, .slice none 0 0, .int .u8 0, .int .u8 0, .int .u8 0, .int .u8 0, .int .u8 0, .int .u8 0, .int .u8 0, .int .u8 0] : List Value).toArray 53))
  have hb := (Below.refl w.heap.size w).alloc (Nat.le_refl _) (.cells ([.int .i64 0, .int .u64 0, .int .u64 0, .slice none 0 0, .bool false, .int .u64 0, .int .u64 0, .int .u64 0, .int .u64 0, .int .u64 0, .slice none 0 0, .int .u8 0, .int .u8 0, .int .u8 0, .int .u8 0, .int .u8 0, .int .u8 0, .int .u8 0, .int .u8 0] : List Value).toArray 53)
  replace HO := Lib.hid (HO.out.next hb)
  replace HB := Lib.hid (bl_next HB.out HB.out.size hb)
  replace HROW := Lib.hid (bl_row hb (lt_of_block HROW.out) HROW.out)
  replace HOWN := Lib.hid (own_below HOWN.out hb)
  have HZ := Lib.hid (heap_alloc_new w (.cells ([.int .i64 0, .int .u64 0, .int .u64 0, .slice none 0 0, .bool false, .int .u64 0, .int .u64 0, .int .u64 0, .int .u64 0, .int .u64 0, .slice none 0 0, .int .u8 0, .int .u8 0, .int .u8 0, .int .u8 0, .int .u8 0, .int .u8 0, .int .u8 0, .int .u8 0] : List Value).toArray 53))
  clear hb
  generalize w.alloc (.cells ([.int .i64 0, .int .u64 0, .int .u64 0, .slice none 0 0, .bool false, .int .u64 0, .int .u64 0, .int .u64 0, .int .u64 0, .int .u64 0, .slice none 0 0, .int .u8 0, .int .u8 0, .int .u8 0, .int .u8 0, .int .u8 0, .int .u8 0, .int .u8 0, .int .u8 0] : List Value).toArray 53) = w1 at HB HROW HOWN HO HZ ⊢
  obtain ⟨gz, hg⟩ : ∃ g, w.heap.size = g := ⟨_, rfl⟩
  rw [hg] at HZ ⊢
  have HGZ := Lib.hid hg
  clear hg
  have c0 := row_cell HROW.out 0 _ rfl
  by_cases h4 : 4 ≤ n
  · skip
    go_wp2_with (first | (refine wpList_store_row rfl 53 _ _ rfl gz rfl [.int .i64 0, .int .u64 0, .int .u64 0, .slice none 0 0, .bool false, .int .u64 0, .int .u64 0, .int .u64 0, .int .u64 0, .int .u64 0, .slice none 0 0, .int .u8 0, .int .u8 0, .int .u8 0, .int .u8 0, .int .u8 0, .int .u8 0, .int .u8 0, .int .u8 0] [.int .i64 0, .int .u64 0, .int .u64 0, .slice none 0 0, .bool false, .int .u64 0, .int .u64 0, .int .u64 0, .int .u64 0, .int .u64 0, .slice none 0 0, .int .u8 0, .int .u8 0, .int .u8 0, .int .u8 0, .int .u8 0, .int .u8 0, .int .u8 0, .int .u8 0] rfl 53 HZ.out rfl rfl (one19 rfl rfl) ?_; intro w9 hz hg9) | fail)
    clear c0
    refine bodyPost_ret (results_cell2 rfl _ _ gz rfl [.int .i64 0, .int .u64 0, .int .u64 0, .slice none 0 0, .bool false, .int .u64 0, .int .u64 0, .int .u64 0, .int .u64 0, .int .u64 0, .slice none 0 0, .int .u8 0, .int .u8 0, .int .u8 0, .int .u8 0, .int .u8 0, .int .u8 0, .int .u8 0, .int .u8 0] _ _ hz Try.underlying53 rfl rfl) rfl ?_
    have hbz : Below w.heap.size w w9 := HB.out.grown hg9 HB.out.size (by intro k hk; injection hk with hk; have := HGZ.out; omega)
    exact ⟨B, UpdO.of_below hbz, .inl ⟨by rw [HN.out]; omega, rfl, H.out.below hbz⟩⟩
  · skip
    have hgzw := HGZ.out
    obtain ⟨b0, b1, b2, b3, b4, b5, b6, b7, hby⟩ := bytes8 (nextM sd)
    have HBY := Lib.hid (fun W => bytes_any W (nextM sd))
    rw [hby] at HBY
    have HBE := Lib.hid hby
    have HBOK : Hid (cidOk [b0, b1, b2, b3, b4, b5, b6, b7]) := Lib.hid (by rw [← hby]; exact bytes_ok _)
    simp only [List.map_cons, List.map_nil] at HBY
    clear hby HB
    have c2 := row_cell HROW.out 2 _ rfl
    have f2 := row_free HROW.out 2
    go_wp2_with fail
    refine Calls.mono (next_any _ sd) ?_
    rintro e wq ⟨rfl, m, rfl⟩
    clear c0 c2 f2
    have hb := bl_drewN (Below.refl w1.heap.size w1) m
    replace HO := Lib.hid (HO.out.next hb)
    replace HROW := Lib.hid (bl_row hb (lt_of_block HROW.out) HROW.out)
    replace HOWN := Lib.hid (own_below HOWN.out hb)
    replace HZ := Lib.hid (bl_row hb (lt_of_block HZ.out) HZ.out)
    clear hb
    generalize w1.drewN m = w2 at HROW HOWN HZ HO ⊢
    have c2 := row_cell HROW.out 2 _ rfl
    have f2 := row_free HROW.out 2
    go_upto_region 4 with fail
    clear c2 f2
    have hgs := grown_setCell w2 p 2 (.int .u64 (nextM sd))
    have hrs := row_setL HROW.out 2 (.int .u64 (nextM sd))
    replace HOWN := Lib.hid (own_grown HOWN.out hgs (fun g hg e => own_ne HOWN.out HROW.out (by decide) (hg.trans e)))
    replace HZ := Lib.hid (grown_row hgs (row_ne HZ.out HROW.out (by decide)) HZ.out)
    replace HO := Lib.hid (HO.out.setCell (k := 2) HPM.out (.int .u64 (nextM sd)))
    replace HROW : Hid ((w2.setCell ⟨p, 2, none⟩ (.int .u64 (nextM sd))).heap[p]? = some (.cells ([.slice a n cp, .int .u64 nx, .int .u64 (nextM sd)] : List Value).toArray 68 (0, 0))) := Lib.hid hrs
    clear hgs hrs
    generalize w2.setCell ⟨p, 2, none⟩ (.int .u64 (nextM sd)) = w3 at HROW HOWN HZ HO ⊢
    have g1 : ∀ z : In (fun y => y.heap[p]? = some (.cells ([.slice a n cp, .int .u64 nx, .int .u64 (nextM sd)] : List Value).toArray 68 (0, 0))), z.w.cell? ⟨p, 1, none⟩ = some (.int .u64 nx) := fun z => row_cell z.h 1 _ rfl
    have g2 : ∀ z : In (fun y => y.heap[p]? = some (.cells ([.slice a n cp, .int .u64 nx, .int .u64 (nextM sd)] : List Value).toArray 68 (0, 0))), z.w.cell? ⟨p, 2, none⟩ = some (.int .u64 (nextM sd)) := fun z => row_cell z.h 2 _ rfl
    refine wp_plan (.t 0 (.t 1 (.t 2 (.t 3 (.t 4 (.t 5 (.t 6 (.t 7 (.b 8 (.t 9 (.u 10 (.u 11 .done))) 10 (.u 8 (.t 9 (.u 11 .done)))))))))))) (fun y => y.heap[p]? = some (.cells ([.slice a n cp, .int .u64 nx, .int .u64 (nextM sd)] : List Value).toArray 68 (0, 0))) (by kernel_rfl) (by kernel_rfl) (by kernel_rfl) (fun c a d v w h => by cases d <;> exact h) HROW.out ?_
    have hb := (Below.refl w3.heap.size w3).drew
    replace HO := Lib.hid (HO.out.next hb)
    replace HROW := Lib.hid (bl_row hb (lt_of_block HROW.out) HROW.out)
    replace HOWN := Lib.hid (own_below HOWN.out hb)
    replace HZ := Lib.hid (bl_row hb (lt_of_block HZ.out) HZ.out)
    clear hb
    generalize w3.drew = w4 at HROW HOWN HZ HO ⊢
    haveI hne : Nonempty (In (fun y => y.heap[p]? = some (.cells ([.slice a n cp, .int .u64 nx, .int .u64 (nextM sd)] : List Value).toArray 68 (0, 0)))) := ⟨⟨w4, HROW.out⟩⟩
    repeat (first | (refine plan_t (by rfl) ?_; (first | go_big_quiet_skip | (go_big_quiet_want; go_big_quiet_op; go_big_quiet_on)); refine wpQuiet_nil ?_))
    clear g1 g2
    refine plan_b ?_ ?_
    · refine plan_half (by rfl) (by kernel_rfl) ?_
      intro K hK
      go_wp2_with fail
      refine Calls.mono (HBY.out _) ?_
      rintro e w5 ⟨rfl, hb⟩
      replace HO := Lib.hid (HO.out.next hb)
      replace HROW := Lib.hid (bl_row hb (lt_of_block HROW.out) HROW.out)
      replace HOWN := Lib.hid (own_below HOWN.out hb)
      replace HZ := Lib.hid (bl_row hb (lt_of_block HZ.out) HZ.out)
      clear hb
      go_wp2_with fail
      refine ⟨HROW.out, ?_⟩
      repeat (first | (refine plan_t (by rfl) ?_; (first | go_big_quiet_skip | (go_big_quiet_want; go_big_quiet_op; go_big_quiet_on)); refine wpQuiet_nil ?_))
      refine plan_us (by rfl) (by kernel_rfl) ?_
      intro K hK
      have HSZ : Hid (w.heap.size ≤ w5.heap.size) := Lib.hid HO.out.size
      go_wp2_with fail
      have hal := (Below.refl w5.heap.size w5).alloc (Nat.le_refl _) (.cells ([.int .u64 0, .int .u8 0, .int .u8 0, .int .u8 0, .int .u8 0, .int .u8 0, .int .u8 0, .int .u8 0, .int .u8 0] : List Value).toArray 65)
      replace HO := Lib.hid (HO.out.next hal)
      replace HROW := Lib.hid (bl_row hal (lt_of_block HROW.out) HROW.out)
      replace HOWN := Lib.hid (own_below HOWN.out hal)
      replace HZ := Lib.hid (bl_row hal (lt_of_block HZ.out) HZ.out)
      have HX := Lib.hid (heap_alloc_new w5 (.cells ([.int .u64 0, .int .u8 0, .int .u8 0, .int .u8 0, .int .u8 0, .int .u8 0, .int .u8 0, .int .u8 0, .int .u8 0] : List Value).toArray 65))
      skip
      refine ⟨HROW.out, ?_⟩
      clear hal
      have hne2 : ∀ g, (Value.slice a n cp).ownBlock = some g → g ≠ w5.heap.size := fun g hg e => by have := H.out.lt g (own_block_in HBK.out g hg); have := HSZ.out; omega
      (try change Plan.wp _ _ _ _ _ _ (w5.alloc (.cells ([.int .u64 0, .int .u8 0, .int .u8 0, .int .u8 0, .int .u8 0, .int .u8 0, .int .u8 0, .int .u8 0, .int .u8 0] : List Value).toArray 65)))
      generalize w5.alloc (.cells ([.int .u64 0, .int .u8 0, .int .u8 0, .int .u8 0, .int .u8 0, .int .u8 0, .int .u8 0, .int .u8 0, .int .u8 0] : List Value).toArray 65) = w6 at HROW HOWN HZ HO HX ⊢
      obtain ⟨gx, hgx⟩ : ∃ g, w5.heap.size = g := ⟨_, rfl⟩
      rw [hgx] at HX hne2 ⊢
      have HGX : Hid (w.heap.size ≤ gx) := Lib.hid (by rw [← hgx]; exact HSZ.out)
      have HNE := Lib.hid hne2
      clear hgx hne2
      refine plan_us (by rfl) (by kernel_rfl) ?_
      intro K hK
      refine wp_store_row 65 _ _ rfl gx rfl [.int .u64 nx, .int .u8 b0, .int .u8 b1, .int .u8 b2, .int .u8 b3, .int .u8 b4, .int .u8 b5, .int .u8 b6, .int .u8 b7] [.int .u64 0, .int .u8 0, .int .u8 0, .int .u8 0, .int .u8 0, .int .u8 0, .int .u8 0, .int .u8 0, .int .u8 0] rfl 65 HX.out rfl rfl (by intro v hv; simp only [List.mem_cons, List.not_mem_nil, or_false] at hv; rcases hv with rfl | rfl | rfl | rfl | rfl | rfl | rfl | rfl | rfl <;> rfl) ?_
      intro w7 hr hg
      replace HROW := Lib.hid (grown_row hg (row_ne HROW.out HX.out (by decide)) HROW.out)
      replace HOWN := Lib.hid (own_grown HOWN.out hg (fun g hg e => HNE.out g hg (by injection e)))
      replace HZ := Lib.hid (grown_row hg (row_ne HZ.out HX.out (by decide)) HZ.out)
      replace HO := Lib.hid (HO.out.fresh hg HGX.out)
      replace HX := Lib.hid hr
      clear hr hg
      refine hK _ _ ⟨HROW.out, ?_⟩
      clear hK K
      clear hne HSZ
      show Exit.then _ _ _ _ _
      simp only [Act.put, List.setIfInBounds_toArray, List.set_cons_succ, List.set_cons_zero]
      obtain ⟨hnx0, hnx1⟩ := HNX.out
      have c1 := row_cell HROW.out 1 _ rfl
      have f1 := row_free HROW.out 1
      go_upto_region 6 with fail
      clear c1 f1
      have hgs := grown_setCell w7 p 1 (.int .u64 (nx + 1))
      have hrs := row_setL HROW.out 1 (.int .u64 (nx + 1))
      replace HOWN := Lib.hid (own_grown HOWN.out hgs (fun g hg e => own_ne HOWN.out HROW.out (by decide) (hg.trans e)))
      replace HZ := Lib.hid (grown_row hgs (row_ne HZ.out HROW.out (by decide)) HZ.out)
      replace HO := Lib.hid (HO.out.setCell (k := 1) HPM.out (.int .u64 (nx + 1)))
      replace HX := Lib.hid (grown_row hgs (row_ne HX.out HROW.out (by decide)) HX.out)
      replace HROW : Hid ((w7.setCell ⟨p, 1, none⟩ (.int .u64 (nx + 1))).heap[p]? = some (.cells ([.slice a n cp, .int .u64 (nx + 1), .int .u64 (nextM sd)] : List Value).toArray 68 (0, 0))) := Lib.hid hrs
      clear hgs hrs
      generalize w7.setCell ⟨p, 1, none⟩ (.int .u64 (nx + 1)) = w8 at HROW HOWN HZ HO HX ⊢
      refine wp_plan (.t 0 (.t 1 (.t 2 (.t 3 (.t 5 (.b 4 (.u 6 (.u 7 (.t 8 (.t 9 (.u 10 .done))))) 6 (.u 4 (.u 7 (.t 8 (.t 9 (.u 10 .done))))))))))) (fun y => y.heap[gx]? = some (.cells ([.int .u64 nx, .int .u8 b0, .int .u8 b1, .int .u8 b2, .int .u8 b3, .int .u8 b4, .int .u8 b5, .int .u8 b6, .int .u8 b7] : List Value).toArray 65 (0, 0))) (by kernel_rfl) (by kernel_rfl) (by kernel_rfl) (fun c a d v w h => by cases d <;> exact h) HX.out ?_
      have hb := (Below.refl w8.heap.size w8).drew
      replace HO := Lib.hid (HO.out.next hb)
      replace HROW := Lib.hid (bl_row hb (lt_of_block HROW.out) HROW.out)
      replace HOWN := Lib.hid (own_below HOWN.out hb)
      replace HZ := Lib.hid (bl_row hb (lt_of_block HZ.out) HZ.out)
      replace HX := Lib.hid (bl_row hb (lt_of_block HX.out) HX.out)
      clear hb
      generalize w8.drew = w9 at HROW HOWN HZ HX HO ⊢
      haveI hne : Nonempty (In (fun y => y.heap[gx]? = some (.cells ([.int .u64 nx, .int .u8 b0, .int .u8 b1, .int .u8 b2, .int .u8 b3, .int .u8 b4, .int .u8 b5, .int .u8 b6, .int .u8 b7] : List Value).toArray 65 (0, 0)))) := ⟨⟨w9, HX.out⟩⟩
      repeat (first | (refine plan_t_load (by rfl) (by kernel_rfl) 65 _ rfl gx 0 rfl [.int .u64 nx, .int .u8 b0, .int .u8 b1, .int .u8 b2, .int .u8 b3, .int .u8 b4, .int .u8 b5, .int .u8 b6, .int .u8 b7] _ (fun y hy => rngL hy) Try.underlying65 rfl rfl ?_; simp only [Act.put, List.setIfInBounds_toArray, List.set_cons_succ, List.set_cons_zero]) | (refine plan_t (by rfl) ?_; (first | go_big_quiet_skip | (go_big_quiet_want; go_big_quiet_op; go_big_quiet_on)); refine wpQuiet_nil ?_))
      have HNE2 : Hid (some gx ≠ some p) := Lib.hid (row_ne HX.out HROW.out (by decide))
      have HXO : Hid (nmK.ok ((nx, [b0, b1, b2, b3, b4, b5, b6, b7]) : Nm)) := Lib.hid ⟨⟨by have := HNX.out; simp only; omega, by have := HNX.out; simp only; omega⟩, HBOK.out⟩
      refine plan_b ?_ ?_
      · refine plan_half (by rfl) (by kernel_rfl) ?_
        intro K hK
        have c0 := row_cell HROW.out 0 _ rfl
        go_wp2_with fail
        refine ⟨HX.out, ?_⟩
        clear c0
        refine plan_us (by rfl) (by kernel_rfl) ?_
        intro K hK
        refine wp_build_rk nmT _ rfl ((nx, [b0, b1, b2, b3, b4, b5, b6, b7]) : Nm) HXO.out rfl ?_
        have hal := (Below.refl w9.heap.size w9).alloc (Nat.le_refl _) (.cells (nmK.flat [((nx, [b0, b1, b2, b3, b4, b5, b6, b7]) : Nm)]).toArray 65)
        have HLT := Lib.hid (RK.At.of_row (K := nmK) (t := 65) (l := [((nx, [b0, b1, b2, b3, b4, b5, b6, b7]) : Nm)]) (heap_alloc_new w9 _) (fun y hy => by rw [List.mem_singleton.1 hy]; exact HXO.out))
        replace HO := Lib.hid (HO.out.next hal)
        replace HROW := Lib.hid (bl_row hal (lt_of_block HROW.out) HROW.out)
        replace HOWN := Lib.hid (own_below HOWN.out hal)
        replace HZ := Lib.hid (bl_row hal (lt_of_block HZ.out) HZ.out)
        replace HX := Lib.hid (bl_row hal (lt_of_block HX.out) HX.out)
        refine hK _ _ ⟨HX.out, ?_⟩
        clear hal hK K
        simp only [Act.put, List.setIfInBounds_toArray, List.set_cons_succ, List.set_cons_zero]
        generalize w9.alloc (.cells (nmK.flat [((nx, [b0, b1, b2, b3, b4, b5, b6, b7]) : Nm)]).toArray 65) = w11 at HROW HOWN HZ HX HO HLT ⊢
        generalize w9.heap.size = gs at HLT ⊢
        refine plan_us (by rfl) (by kernel_rfl) ?_
        intro K hK
        refine wp_append_rk nmT _ _ rfl 0 n (.slice a n cp) L rfl HOWN.out _ 1 1 [((nx, [b0, b1, b2, b3, b4, b5, b6, b7]) : Nm)] rfl HLT.out (by omega) (Nat.zero_le _) ?_
        intro v' w12 ho2 hg2 hor
        have HOR := Lib.hid hor
        obtain ⟨ab2, ac2, rfl, _⟩ := sl_own ho2
        have HSZ2 : Hid (w.heap.size ≤ w11.heap.size) := Lib.hid HO.out.size
        replace HO := Lib.hid (HO.out.trans (N := B) (Off.of_grown hg2 (own_block_in HBK.out)) (fun x hx => .inl hx))
        replace HROW := Lib.hid (grown_row hg2 (fun e => own_ne HOWN.out HROW.out (by decide) e.symm) HROW.out)
        replace HZ := Lib.hid (grown_row hg2 (fun e => own_ne HOWN.out HZ.out (by decide) e.symm) HZ.out)
        replace HX := Lib.hid (grown_row hg2 (fun e => HNE.out gx e.symm rfl) HX.out)
        replace HOWN := Lib.hid ho2
        clear ho2 hg2 hor HLT
        refine hK _ _ ⟨HX.out, ?_⟩
        clear hK K
        simp only [Act.put, List.setIfInBounds_toArray, List.set_cons_succ, List.set_cons_zero]
        repeat (first | (refine plan_t_load (by rfl) (by kernel_rfl) 65 _ rfl gx 0 rfl [.int .u64 nx, .int .u8 b0, .int .u8 b1, .int .u8 b2, .int .u8 b3, .int .u8 b4, .int .u8 b5, .int .u8 b6, .int .u8 b7] _ (fun y hy => rngL hy) Try.underlying65 rfl rfl ?_; simp only [Act.put, List.setIfInBounds_toArray, List.set_cons_succ, List.set_cons_zero]) | (refine plan_t (by rfl) ?_; (first | go_big_quiet_skip | (go_big_quiet_want; go_big_quiet_op; go_big_quiet_on)); refine wpQuiet_nil ?_))
        refine plan_us (by rfl) (by kernel_rfl) ?_
        intro K hK
        have c0 := row_cell HROW.out 0 _ rfl
        have f0 := row_free HROW.out 0
        go_wp2_with fail
        clear c0 f0
        have hgs := grown_setCell w12 p 0 (.slice ab2 (n + 1) ac2)
        have hrs := row_setL HROW.out 0 (.slice ab2 (n + 1) ac2)
        have hX9 := grown_row hgs (fun e => HNE2.out e) HX.out
        refine ⟨hX9, ?_⟩
        replace HX := Lib.hid hX9
        replace HZ := Lib.hid (grown_row hgs (row_ne HZ.out HROW.out (by decide)) HZ.out)
        replace HOWN := Lib.hid (own_grown HOWN.out hgs (fun g hg e => own_ne HOWN.out HROW.out (by decide) (hg.trans e)))
        replace HO := Lib.hid (HO.out.setCell (k := 0) HPM.out (.slice ab2 (n + 1) ac2))
        replace HROW : Hid ((w12.setCell ⟨p, 0, none⟩ (.slice ab2 (n + 1) ac2)).heap[p]? = some (.cells ([.slice ab2 (n + 1) ac2, .int .u64 (nx + 1), .int .u64 (nextM sd)] : List Value).toArray 68 (0, 0))) := Lib.hid hrs
        clear hgs hrs hX9
        generalize w12.setCell ⟨p, 0, none⟩ (.slice ab2 (n + 1) ac2) = w13 at HX HZ HOWN HO HROW ⊢
        clear hne
        show Exit.then _ _ _ _ _
        try simp only [Act.put, List.setIfInBounds_toArray, List.set_cons_succ, List.set_cons_zero]
        have x0 := row_cell HX.out 0 _ rfl
        have hrgx := rng_row HX.out 1 [.int .u8 b0, .int .u8 b1, .int .u8 b2, .int .u8 b3, .int .u8 b4, .int .u8 b5, .int .u8 b6, .int .u8 b7] (fun j v hv => by rw [Nat.add_comm]; exact hv)
        go_wp2_with (first | (refine wpList_load_mid rfl 38 _ rfl gx 1 rfl [.int .u8 b0, .int .u8 b1, .int .u8 b2, .int .u8 b3, .int .u8 b4, .int .u8 b5, .int .u8 b6, .int .u8 b7] _ hrgx Try.underlying38 rfl rfl ?_) | (refine wpList_store_row rfl 53 _ _ rfl gz rfl [.int .i64 24, .int .u64 0, .int .u64 0, .slice none 0 0, .bool false, .int .u64 0, .int .u64 0, .int .u64 0, .int .u64 nx, .int .u64 0, .slice none 0 0, .int .u8 b0, .int .u8 b1, .int .u8 b2, .int .u8 b3, .int .u8 b4, .int .u8 b5, .int .u8 b6, .int .u8 b7] [.int .i64 0, .int .u64 0, .int .u64 0, .slice none 0 0, .bool false, .int .u64 0, .int .u64 0, .int .u64 0, .int .u64 0, .int .u64 0, .slice none 0 0, .int .u8 0, .int .u8 0, .int .u8 0, .int .u8 0, .int .u8 0, .int .u8 0, .int .u8 0, .int .u8 0] rfl 53 HZ.out rfl rfl (one19 rfl rfl) ?_; intro w9 hz hg9; have HZ9 := Lib.hid hz; have HG9 := Lib.hid hg9; clear hz hg9) | fail)
        clear x0 hrgx
        refine bodyPost_ret (results_cell2 rfl _ _ gz rfl [.int .i64 24, .int .u64 0, .int .u64 0, .slice none 0 0, .bool false, .int .u64 0, .int .u64 0, .int .u64 0, .int .u64 nx, .int .u64 0, .slice none 0 0, .int .u8 b0, .int .u8 b1, .int .u8 b2, .int .u8 b3, .int .u8 b4, .int .u8 b5, .int .u8 b6, .int .u8 b7] _ _ HZ9.out Try.underlying53 rfl rfl) rfl ?_
        have hOff := HO.out.fresh HG9.out (by rw [HGZ.out]; exact Nat.le_refl _)
        have hr9 := grown_row HG9.out (row_ne HROW.out HZ.out (by decide)) HROW.out
        have ho9 := own_grown HOWN.out HG9.out (fun g hg e => own_ne HOWN.out HZ.out (by decide) (hg.trans e))
        have hln : (L ++ [((nx, [b0, b1, b2, b3, b4, b5, b6, b7]) : Nm)]).length = n + 1 := by simp [HN.out]
        refine ⟨B ++ blkS ab2, ⟨hOff, fun g hg => ?_⟩, .inr ⟨by rw [HN.out]; omega, by rw [HBE.out]; rfl, ?_⟩⟩
        · rcases List.mem_append.1 hg with hg | hg
          · exact .inl hg
          · obtain ⟨x, rfl, rfl⟩ := blkS_mem.1 hg
            rcases HOR.out with e | e
            · exact .inl (own_block_in HBK.out _ (by rw [← e]; rfl))
            · refine .inr ?_; have e2 : some x.block = _ := e; injection e2 with e2; rw [e2]; exact HSZ2.out
        · rw [HBE.out]
          refine ⟨⟨ab2, ac2, by rw [hln]; exact hr9, by rw [hln]; exact ho9, fun x hx => List.mem_append_right _ (blkS_mem.2 ⟨x, hx, rfl⟩)⟩, List.mem_append_left _ HPM.out, fun g hg => ?_, fun y hy => ?_, by omega, wf_next_u sd, by rw [hln]; omega⟩
          · rcases List.mem_append.1 hg with hg | hg
            · exact Nat.lt_of_lt_of_le (H.out.lt g hg) hOff.size
            · obtain ⟨x, rfl, rfl⟩ := blkS_mem.1 hg
              rcases ho9.2 with ⟨e, _⟩ | ⟨g2, cap, cur, e, _, hrow, _⟩
              · cases e
              · injection e with e; injection e with e; rw [e]; exact lt_of_block hrow
          · rcases List.mem_append.1 hy with hy | hy
            · exact H.out.ok y hy
            · rw [List.mem_singleton.1 hy]; exact HXO.out
      · refine plan_half (by rfl) (by kernel_rfl) ?_
        intro K hK
        refine wp_build_rk nmT _ rfl ((nx, [b0, b1, b2, b3, b4, b5, b6, b7]) : Nm) HXO.out rfl ?_
        have hal := (Below.refl w9.heap.size w9).alloc (Nat.le_refl _) (.cells (nmK.flat [((nx, [b0, b1, b2, b3, b4, b5, b6, b7]) : Nm)]).toArray 65)
        have HLT := Lib.hid (RK.At.of_row (K := nmK) (t := 65) (l := [((nx, [b0, b1, b2, b3, b4, b5, b6, b7]) : Nm)]) (heap_alloc_new w9 _) (fun y hy => by rw [List.mem_singleton.1 hy]; exact HXO.out))
        replace HO := Lib.hid (HO.out.next hal)
        replace HROW := Lib.hid (bl_row hal (lt_of_block HROW.out) HROW.out)
        replace HOWN := Lib.hid (own_below HOWN.out hal)
        replace HZ := Lib.hid (bl_row hal (lt_of_block HZ.out) HZ.out)
        replace HX := Lib.hid (bl_row hal (lt_of_block HX.out) HX.out)
        refine hK _ _ ⟨HX.out, ?_⟩
        clear hal hK K
        simp only [Act.put, List.setIfInBounds_toArray, List.set_cons_succ, List.set_cons_zero]
        generalize w9.alloc (.cells (nmK.flat [((nx, [b0, b1, b2, b3, b4, b5, b6, b7]) : Nm)]).toArray 65) = w14 at HROW HOWN HZ HX HO HLT ⊢
        generalize w9.heap.size = gs at HLT ⊢
        refine plan_us (by rfl) (by kernel_rfl) ?_
        intro K hK
        have c0 := row_cell HROW.out 0 _ rfl
        go_wp2_with fail
        refine ⟨HX.out, ?_⟩
        clear c0
        refine plan_us (by rfl) (by kernel_rfl) ?_
        intro K hK
        refine wp_append_rk nmT _ _ rfl 0 n (.slice a n cp) L rfl HOWN.out _ 1 1 [((nx, [b0, b1, b2, b3, b4, b5, b6, b7]) : Nm)] rfl HLT.out (by omega) (Nat.zero_le _) ?_
        intro v' w16 ho2 hg2 hor
        have HOR := Lib.hid hor
        obtain ⟨ab2, ac2, rfl, _⟩ := sl_own ho2
        have HSZ2 : Hid (w.heap.size ≤ w14.heap.size) := Lib.hid HO.out.size
        replace HO := Lib.hid (HO.out.trans (N := B) (Off.of_grown hg2 (own_block_in HBK.out)) (fun x hx => .inl hx))
        replace HROW := Lib.hid (grown_row hg2 (fun e => own_ne HOWN.out HROW.out (by decide) e.symm) HROW.out)
        replace HZ := Lib.hid (grown_row hg2 (fun e => own_ne HOWN.out HZ.out (by decide) e.symm) HZ.out)
        replace HX := Lib.hid (grown_row hg2 (fun e => HNE.out gx e.symm rfl) HX.out)
        replace HOWN := Lib.hid ho2
        clear ho2 hg2 hor HLT
        refine hK _ _ ⟨HX.out, ?_⟩
        clear hK K
        simp only [Act.put, List.setIfInBounds_toArray, List.set_cons_succ, List.set_cons_zero]
        repeat (first | (refine plan_t_load (by rfl) (by kernel_rfl) 65 _ rfl gx 0 rfl [.int .u64 nx, .int .u8 b0, .int .u8 b1, .int .u8 b2, .int .u8 b3, .int .u8 b4, .int .u8 b5, .int .u8 b6, .int .u8 b7] _ (fun y hy => rngL hy) Try.underlying65 rfl rfl ?_; simp only [Act.put, List.setIfInBounds_toArray, List.set_cons_succ, List.set_cons_zero]) | (refine plan_t (by rfl) ?_; (first | go_big_quiet_skip | (go_big_quiet_want; go_big_quiet_op; go_big_quiet_on)); refine wpQuiet_nil ?_))
        refine plan_us (by rfl) (by kernel_rfl) ?_
        intro K hK
        have c0 := row_cell HROW.out 0 _ rfl
        have f0 := row_free HROW.out 0
        go_wp2_with fail
        clear c0 f0
        have hgs := grown_setCell w16 p 0 (.slice ab2 (n + 1) ac2)
        have hrs := row_setL HROW.out 0 (.slice ab2 (n + 1) ac2)
        have hX9 := grown_row hgs (fun e => HNE2.out e) HX.out
        refine ⟨hX9, ?_⟩
        replace HX := Lib.hid hX9
        replace HZ := Lib.hid (grown_row hgs (row_ne HZ.out HROW.out (by decide)) HZ.out)
        replace HOWN := Lib.hid (own_grown HOWN.out hgs (fun g hg e => own_ne HOWN.out HROW.out (by decide) (hg.trans e)))
        replace HO := Lib.hid (HO.out.setCell (k := 0) HPM.out (.slice ab2 (n + 1) ac2))
        replace HROW : Hid ((w16.setCell ⟨p, 0, none⟩ (.slice ab2 (n + 1) ac2)).heap[p]? = some (.cells ([.slice ab2 (n + 1) ac2, .int .u64 (nx + 1), .int .u64 (nextM sd)] : List Value).toArray 68 (0, 0))) := Lib.hid hrs
        clear hgs hrs hX9
        generalize w16.setCell ⟨p, 0, none⟩ (.slice ab2 (n + 1) ac2) = w17 at HX HZ HOWN HO HROW ⊢
        clear hne
        show Exit.then _ _ _ _ _
        try simp only [Act.put, List.setIfInBounds_toArray, List.set_cons_succ, List.set_cons_zero]
        have x0 := row_cell HX.out 0 _ rfl
        have hrgx := rng_row HX.out 1 [.int .u8 b0, .int .u8 b1, .int .u8 b2, .int .u8 b3, .int .u8 b4, .int .u8 b5, .int .u8 b6, .int .u8 b7] (fun j v hv => by rw [Nat.add_comm]; exact hv)
        go_wp2_with (first | (refine wpList_load_mid rfl 38 _ rfl gx 1 rfl [.int .u8 b0, .int .u8 b1, .int .u8 b2, .int .u8 b3, .int .u8 b4, .int .u8 b5, .int .u8 b6, .int .u8 b7] _ hrgx Try.underlying38 rfl rfl ?_) | (refine wpList_store_row rfl 53 _ _ rfl gz rfl [.int .i64 24, .int .u64 0, .int .u64 0, .slice none 0 0, .bool false, .int .u64 0, .int .u64 0, .int .u64 0, .int .u64 nx, .int .u64 0, .slice none 0 0, .int .u8 b0, .int .u8 b1, .int .u8 b2, .int .u8 b3, .int .u8 b4, .int .u8 b5, .int .u8 b6, .int .u8 b7] [.int .i64 0, .int .u64 0, .int .u64 0, .slice none 0 0, .bool false, .int .u64 0, .int .u64 0, .int .u64 0, .int .u64 0, .int .u64 0, .slice none 0 0, .int .u8 0, .int .u8 0, .int .u8 0, .int .u8 0, .int .u8 0, .int .u8 0, .int .u8 0, .int .u8 0] rfl 53 HZ.out rfl rfl (one19 rfl rfl) ?_; intro w9 hz hg9; have HZ9 := Lib.hid hz; have HG9 := Lib.hid hg9; clear hz hg9) | fail)
        clear x0 hrgx
        refine bodyPost_ret (results_cell2 rfl _ _ gz rfl [.int .i64 24, .int .u64 0, .int .u64 0, .slice none 0 0, .bool false, .int .u64 0, .int .u64 0, .int .u64 0, .int .u64 nx, .int .u64 0, .slice none 0 0, .int .u8 b0, .int .u8 b1, .int .u8 b2, .int .u8 b3, .int .u8 b4, .int .u8 b5, .int .u8 b6, .int .u8 b7] _ _ HZ9.out Try.underlying53 rfl rfl) rfl ?_
        have hOff := HO.out.fresh HG9.out (by rw [HGZ.out]; exact Nat.le_refl _)
        have hr9 := grown_row HG9.out (row_ne HROW.out HZ.out (by decide)) HROW.out
        have ho9 := own_grown HOWN.out HG9.out (fun g hg e => own_ne HOWN.out HZ.out (by decide) (hg.trans e))
        have hln : (L ++ [((nx, [b0, b1, b2, b3, b4, b5, b6, b7]) : Nm)]).length = n + 1 := by simp [HN.out]
        refine ⟨B ++ blkS ab2, ⟨hOff, fun g hg => ?_⟩, .inr ⟨by rw [HN.out]; omega, by rw [HBE.out]; rfl, ?_⟩⟩
        · rcases List.mem_append.1 hg with hg | hg
          · exact .inl hg
          · obtain ⟨x, rfl, rfl⟩ := blkS_mem.1 hg
            rcases HOR.out with e | e
            · exact .inl (own_block_in HBK.out _ (by rw [← e]; rfl))
            · refine .inr ?_; have e2 : some x.block = _ := e; injection e2 with e2; rw [e2]; exact HSZ2.out
        · rw [HBE.out]
          refine ⟨⟨ab2, ac2, by rw [hln]; exact hr9, by rw [hln]; exact ho9, fun x hx => List.mem_append_right _ (blkS_mem.2 ⟨x, hx, rfl⟩)⟩, List.mem_append_left _ HPM.out, fun g hg => ?_, fun y hy => ?_, by omega, wf_next_u sd, by rw [hln]; omega⟩
          · rcases List.mem_append.1 hg with hg | hg
            · exact Nat.lt_of_lt_of_le (H.out.lt g hg) hOff.size
            · obtain ⟨x, rfl, rfl⟩ := blkS_mem.1 hg
              rcases ho9.2 with ⟨e, _⟩ | ⟨g2, cap, cur, e, _, hrow, _⟩
              · cases e
              · injection e with e; injection e with e; rw [e]; exact lt_of_block hrow
          · rcases List.mem_append.1 hy with hy | hy
            · exact H.out.ok y hy
            · rw [List.mem_singleton.1 hy]; exact HXO.out
    · refine plan_half (by rfl) (by kernel_rfl) ?_
      intro K hK
      have HSZ : Hid (w.heap.size ≤ w4.heap.size) := Lib.hid HO.out.size
      go_wp2_with fail
      have hal := (Below.refl w4.heap.size w4).alloc (Nat.le_refl _) (.cells ([.int .u64 0, .int .u8 0, .int .u8 0, .int .u8 0, .int .u8 0, .int .u8 0, .int .u8 0, .int .u8 0, .int .u8 0] : List Value).toArray 65)
      replace HO := Lib.hid (HO.out.next hal)
      replace HROW := Lib.hid (bl_row hal (lt_of_block HROW.out) HROW.out)
      replace HOWN := Lib.hid (own_below HOWN.out hal)
      replace HZ := Lib.hid (bl_row hal (lt_of_block HZ.out) HZ.out)
      have HX := Lib.hid (heap_alloc_new w4 (.cells ([.int .u64 0, .int .u8 0, .int .u8 0, .int .u8 0, .int .u8 0, .int .u8 0, .int .u8 0, .int .u8 0, .int .u8 0] : List Value).toArray 65))
      skip
      refine ⟨HROW.out, ?_⟩
      clear hal
      have hne2 : ∀ g, (Value.slice a n cp).ownBlock = some g → g ≠ w4.heap.size := fun g hg e => by have := H.out.lt g (own_block_in HBK.out g hg); have := HSZ.out; omega
      (try change Plan.wp _ _ _ _ _ _ (w4.alloc (.cells ([.int .u64 0, .int .u8 0, .int .u8 0, .int .u8 0, .int .u8 0, .int .u8 0, .int .u8 0, .int .u8 0, .int .u8 0] : List Value).toArray 65)))
      generalize w4.alloc (.cells ([.int .u64 0, .int .u8 0, .int .u8 0, .int .u8 0, .int .u8 0, .int .u8 0, .int .u8 0, .int .u8 0, .int .u8 0] : List Value).toArray 65) = w18 at HROW HOWN HZ HO HX ⊢
      obtain ⟨gx, hgx⟩ : ∃ g, w4.heap.size = g := ⟨_, rfl⟩
      rw [hgx] at HX hne2 ⊢
      have HGX : Hid (w.heap.size ≤ gx) := Lib.hid (by rw [← hgx]; exact HSZ.out)
      have HNE := Lib.hid hne2
      clear hgx hne2
      refine plan_us (by rfl) (by kernel_rfl) ?_
      intro K hK
      go_wp2_with fail
      refine Calls.mono (HBY.out _) ?_
      rintro e w19 ⟨rfl, hb⟩
      replace HO := Lib.hid (HO.out.next hb)
      replace HROW := Lib.hid (bl_row hb (lt_of_block HROW.out) HROW.out)
      replace HOWN := Lib.hid (own_below HOWN.out hb)
      replace HZ := Lib.hid (bl_row hb (lt_of_block HZ.out) HZ.out)
      replace HX := Lib.hid (bl_row hb (lt_of_block HX.out) HX.out)
      clear hb
      go_wp2_with fail
      refine ⟨HROW.out, ?_⟩
      repeat (first | (refine plan_t (by rfl) ?_; (first | go_big_quiet_skip | (go_big_quiet_want; go_big_quiet_op; go_big_quiet_on)); refine wpQuiet_nil ?_))
      refine plan_us (by rfl) (by kernel_rfl) ?_
      intro K hK
      refine wp_store_row 65 _ _ rfl gx rfl [.int .u64 nx, .int .u8 b0, .int .u8 b1, .int .u8 b2, .int .u8 b3, .int .u8 b4, .int .u8 b5, .int .u8 b6, .int .u8 b7] [.int .u64 0, .int .u8 0, .int .u8 0, .int .u8 0, .int .u8 0, .int .u8 0, .int .u8 0, .int .u8 0, .int .u8 0] rfl 65 HX.out rfl rfl (by intro v hv; simp only [List.mem_cons, List.not_mem_nil, or_false] at hv; rcases hv with rfl | rfl | rfl | rfl | rfl | rfl | rfl | rfl | rfl <;> rfl) ?_
      intro w20 hr hg
      replace HROW := Lib.hid (grown_row hg (row_ne HROW.out HX.out (by decide)) HROW.out)
      replace HOWN := Lib.hid (own_grown HOWN.out hg (fun g hg e => HNE.out g hg (by injection e)))
      replace HZ := Lib.hid (grown_row hg (row_ne HZ.out HX.out (by decide)) HZ.out)
      replace HO := Lib.hid (HO.out.fresh hg HGX.out)
      replace HX := Lib.hid hr
      clear hr hg
      refine hK _ _ ⟨HROW.out, ?_⟩
      clear hK K
      clear hne HSZ
      show Exit.then _ _ _ _ _
      simp only [Act.put, List.setIfInBounds_toArray, List.set_cons_succ, List.set_cons_zero]
      obtain ⟨hnx0, hnx1⟩ := HNX.out
      have c1 := row_cell HROW.out 1 _ rfl
      have f1 := row_free HROW.out 1
      go_upto_region 6 with fail
      clear c1 f1
      have hgs := grown_setCell w20 p 1 (.int .u64 (nx + 1))
      have hrs := row_setL HROW.out 1 (.int .u64 (nx + 1))
      replace HOWN := Lib.hid (own_grown HOWN.out hgs (fun g hg e => own_ne HOWN.out HROW.out (by decide) (hg.trans e)))
      replace HZ := Lib.hid (grown_row hgs (row_ne HZ.out HROW.out (by decide)) HZ.out)
      replace HX := Lib.hid (grown_row hgs (row_ne HX.out HROW.out (by decide)) HX.out)
      replace HO := Lib.hid (HO.out.setCell (k := 1) HPM.out (.int .u64 (nx + 1)))
      replace HROW : Hid ((w20.setCell ⟨p, 1, none⟩ (.int .u64 (nx + 1))).heap[p]? = some (.cells ([.slice a n cp, .int .u64 (nx + 1), .int .u64 (nextM sd)] : List Value).toArray 68 (0, 0))) := Lib.hid hrs
      clear hgs hrs
      generalize w20.setCell ⟨p, 1, none⟩ (.int .u64 (nx + 1)) = w21 at HROW HOWN HZ HX HO ⊢
      refine wp_plan (.t 0 (.t 1 (.t 2 (.t 3 (.t 5 (.b 4 (.u 6 (.u 7 (.t 8 (.t 9 (.u 10 .done))))) 6 (.u 4 (.u 7 (.t 8 (.t 9 (.u 10 .done))))))))))) (fun y => y.heap[gx]? = some (.cells ([.int .u64 nx, .int .u8 b0, .int .u8 b1, .int .u8 b2, .int .u8 b3, .int .u8 b4, .int .u8 b5, .int .u8 b6, .int .u8 b7] : List Value).toArray 65 (0, 0))) (by kernel_rfl) (by kernel_rfl) (by kernel_rfl) (fun c a d v w h => by cases d <;> exact h) HX.out ?_
      have hb := (Below.refl w21.heap.size w21).drew
      replace HO := Lib.hid (HO.out.next hb)
      replace HROW := Lib.hid (bl_row hb (lt_of_block HROW.out) HROW.out)
      replace HOWN := Lib.hid (own_below HOWN.out hb)
      replace HZ := Lib.hid (bl_row hb (lt_of_block HZ.out) HZ.out)
      replace HX := Lib.hid (bl_row hb (lt_of_block HX.out) HX.out)
      clear hb
      generalize w21.drew = w22 at HROW HOWN HZ HX HO ⊢
      haveI hne : Nonempty (In (fun y => y.heap[gx]? = some (.cells ([.int .u64 nx, .int .u8 b0, .int .u8 b1, .int .u8 b2, .int .u8 b3, .int .u8 b4, .int .u8 b5, .int .u8 b6, .int .u8 b7] : List Value).toArray 65 (0, 0)))) := ⟨⟨w22, HX.out⟩⟩
      repeat (first | (refine plan_t_load (by rfl) (by kernel_rfl) 65 _ rfl gx 0 rfl [.int .u64 nx, .int .u8 b0, .int .u8 b1, .int .u8 b2, .int .u8 b3, .int .u8 b4, .int .u8 b5, .int .u8 b6, .int .u8 b7] _ (fun y hy => rngL hy) Try.underlying65 rfl rfl ?_; simp only [Act.put, List.setIfInBounds_toArray, List.set_cons_succ, List.set_cons_zero]) | (refine plan_t (by rfl) ?_; (first | go_big_quiet_skip | (go_big_quiet_want; go_big_quiet_op; go_big_quiet_on)); refine wpQuiet_nil ?_))
      have HNE2 : Hid (some gx ≠ some p) := Lib.hid (row_ne HX.out HROW.out (by decide))
      have HXO : Hid (nmK.ok ((nx, [b0, b1, b2, b3, b4, b5, b6, b7]) : Nm)) := Lib.hid ⟨⟨by have := HNX.out; simp only; omega, by have := HNX.out; simp only; omega⟩, HBOK.out⟩
      refine plan_b ?_ ?_
      · refine plan_half (by rfl) (by kernel_rfl) ?_
        intro K hK
        have c0 := row_cell HROW.out 0 _ rfl
        go_wp2_with fail
        refine ⟨HX.out, ?_⟩
        clear c0
        refine plan_us (by rfl) (by kernel_rfl) ?_
        intro K hK
        refine wp_build_rk nmT _ rfl ((nx, [b0, b1, b2, b3, b4, b5, b6, b7]) : Nm) HXO.out rfl ?_
        have hal := (Below.refl w22.heap.size w22).alloc (Nat.le_refl _) (.cells (nmK.flat [((nx, [b0, b1, b2, b3, b4, b5, b6, b7]) : Nm)]).toArray 65)
        have HLT := Lib.hid (RK.At.of_row (K := nmK) (t := 65) (l := [((nx, [b0, b1, b2, b3, b4, b5, b6, b7]) : Nm)]) (heap_alloc_new w22 _) (fun y hy => by rw [List.mem_singleton.1 hy]; exact HXO.out))
        replace HO := Lib.hid (HO.out.next hal)
        replace HROW := Lib.hid (bl_row hal (lt_of_block HROW.out) HROW.out)
        replace HOWN := Lib.hid (own_below HOWN.out hal)
        replace HZ := Lib.hid (bl_row hal (lt_of_block HZ.out) HZ.out)
        replace HX := Lib.hid (bl_row hal (lt_of_block HX.out) HX.out)
        refine hK _ _ ⟨HX.out, ?_⟩
        clear hal hK K
        simp only [Act.put, List.setIfInBounds_toArray, List.set_cons_succ, List.set_cons_zero]
        generalize w22.alloc (.cells (nmK.flat [((nx, [b0, b1, b2, b3, b4, b5, b6, b7]) : Nm)]).toArray 65) = w24 at HROW HOWN HZ HX HO HLT ⊢
        generalize w22.heap.size = gs at HLT ⊢
        refine plan_us (by rfl) (by kernel_rfl) ?_
        intro K hK
        refine wp_append_rk nmT _ _ rfl 0 n (.slice a n cp) L rfl HOWN.out _ 1 1 [((nx, [b0, b1, b2, b3, b4, b5, b6, b7]) : Nm)] rfl HLT.out (by omega) (Nat.zero_le _) ?_
        intro v' w25 ho2 hg2 hor
        have HOR := Lib.hid hor
        obtain ⟨ab2, ac2, rfl, _⟩ := sl_own ho2
        have HSZ2 : Hid (w.heap.size ≤ w24.heap.size) := Lib.hid HO.out.size
        replace HO := Lib.hid (HO.out.trans (N := B) (Off.of_grown hg2 (own_block_in HBK.out)) (fun x hx => .inl hx))
        replace HROW := Lib.hid (grown_row hg2 (fun e => own_ne HOWN.out HROW.out (by decide) e.symm) HROW.out)
        replace HZ := Lib.hid (grown_row hg2 (fun e => own_ne HOWN.out HZ.out (by decide) e.symm) HZ.out)
        replace HX := Lib.hid (grown_row hg2 (fun e => HNE.out gx e.symm rfl) HX.out)
        replace HOWN := Lib.hid ho2
        clear ho2 hg2 hor HLT
        refine hK _ _ ⟨HX.out, ?_⟩
        clear hK K
        simp only [Act.put, List.setIfInBounds_toArray, List.set_cons_succ, List.set_cons_zero]
        repeat (first | (refine plan_t_load (by rfl) (by kernel_rfl) 65 _ rfl gx 0 rfl [.int .u64 nx, .int .u8 b0, .int .u8 b1, .int .u8 b2, .int .u8 b3, .int .u8 b4, .int .u8 b5, .int .u8 b6, .int .u8 b7] _ (fun y hy => rngL hy) Try.underlying65 rfl rfl ?_; simp only [Act.put, List.setIfInBounds_toArray, List.set_cons_succ, List.set_cons_zero]) | (refine plan_t (by rfl) ?_; (first | go_big_quiet_skip | (go_big_quiet_want; go_big_quiet_op; go_big_quiet_on)); refine wpQuiet_nil ?_))
        refine plan_us (by rfl) (by kernel_rfl) ?_
        intro K hK
        have c0 := row_cell HROW.out 0 _ rfl
        have f0 := row_free HROW.out 0
        go_wp2_with fail
        clear c0 f0
        have hgs := grown_setCell w25 p 0 (.slice ab2 (n + 1) ac2)
        have hrs := row_setL HROW.out 0 (.slice ab2 (n + 1) ac2)
        have hX9 := grown_row hgs (fun e => HNE2.out e) HX.out
        refine ⟨hX9, ?_⟩
        replace HX := Lib.hid hX9
        replace HZ := Lib.hid (grown_row hgs (row_ne HZ.out HROW.out (by decide)) HZ.out)
        replace HOWN := Lib.hid (own_grown HOWN.out hgs (fun g hg e => own_ne HOWN.out HROW.out (by decide) (hg.trans e)))
        replace HO := Lib.hid (HO.out.setCell (k := 0) HPM.out (.slice ab2 (n + 1) ac2))
        replace HROW : Hid ((w25.setCell ⟨p, 0, none⟩ (.slice ab2 (n + 1) ac2)).heap[p]? = some (.cells ([.slice ab2 (n + 1) ac2, .int .u64 (nx + 1), .int .u64 (nextM sd)] : List Value).toArray 68 (0, 0))) := Lib.hid hrs
        clear hgs hrs hX9
        generalize w25.setCell ⟨p, 0, none⟩ (.slice ab2 (n + 1) ac2) = w26 at HX HZ HOWN HO HROW ⊢
        clear hne
        show Exit.then _ _ _ _ _
        try simp only [Act.put, List.setIfInBounds_toArray, List.set_cons_succ, List.set_cons_zero]
        have x0 := row_cell HX.out 0 _ rfl
        have hrgx := rng_row HX.out 1 [.int .u8 b0, .int .u8 b1, .int .u8 b2, .int .u8 b3, .int .u8 b4, .int .u8 b5, .int .u8 b6, .int .u8 b7] (fun j v hv => by rw [Nat.add_comm]; exact hv)
        go_wp2_with (first | (refine wpList_load_mid rfl 38 _ rfl gx 1 rfl [.int .u8 b0, .int .u8 b1, .int .u8 b2, .int .u8 b3, .int .u8 b4, .int .u8 b5, .int .u8 b6, .int .u8 b7] _ hrgx Try.underlying38 rfl rfl ?_) | (refine wpList_store_row rfl 53 _ _ rfl gz rfl [.int .i64 24, .int .u64 0, .int .u64 0, .slice none 0 0, .bool false, .int .u64 0, .int .u64 0, .int .u64 0, .int .u64 nx, .int .u64 0, .slice none 0 0, .int .u8 b0, .int .u8 b1, .int .u8 b2, .int .u8 b3, .int .u8 b4, .int .u8 b5, .int .u8 b6, .int .u8 b7] [.int .i64 0, .int .u64 0, .int .u64 0, .slice none 0 0, .bool false, .int .u64 0, .int .u64 0, .int .u64 0, .int .u64 0, .int .u64 0, .slice none 0 0, .int .u8 0, .int .u8 0, .int .u8 0, .int .u8 0, .int .u8 0, .int .u8 0, .int .u8 0, .int .u8 0] rfl 53 HZ.out rfl rfl (one19 rfl rfl) ?_; intro w9 hz hg9; have HZ9 := Lib.hid hz; have HG9 := Lib.hid hg9; clear hz hg9) | fail)
        clear x0 hrgx
        refine bodyPost_ret (results_cell2 rfl _ _ gz rfl [.int .i64 24, .int .u64 0, .int .u64 0, .slice none 0 0, .bool false, .int .u64 0, .int .u64 0, .int .u64 0, .int .u64 nx, .int .u64 0, .slice none 0 0, .int .u8 b0, .int .u8 b1, .int .u8 b2, .int .u8 b3, .int .u8 b4, .int .u8 b5, .int .u8 b6, .int .u8 b7] _ _ HZ9.out Try.underlying53 rfl rfl) rfl ?_
        have hOff := HO.out.fresh HG9.out (by rw [HGZ.out]; exact Nat.le_refl _)
        have hr9 := grown_row HG9.out (row_ne HROW.out HZ.out (by decide)) HROW.out
        have ho9 := own_grown HOWN.out HG9.out (fun g hg e => own_ne HOWN.out HZ.out (by decide) (hg.trans e))
        have hln : (L ++ [((nx, [b0, b1, b2, b3, b4, b5, b6, b7]) : Nm)]).length = n + 1 := by simp [HN.out]
        refine ⟨B ++ blkS ab2, ⟨hOff, fun g hg => ?_⟩, .inr ⟨by rw [HN.out]; omega, by rw [HBE.out]; rfl, ?_⟩⟩
        · rcases List.mem_append.1 hg with hg | hg
          · exact .inl hg
          · obtain ⟨x, rfl, rfl⟩ := blkS_mem.1 hg
            rcases HOR.out with e | e
            · exact .inl (own_block_in HBK.out _ (by rw [← e]; rfl))
            · refine .inr ?_; have e2 : some x.block = _ := e; injection e2 with e2; rw [e2]; exact HSZ2.out
        · rw [HBE.out]
          refine ⟨⟨ab2, ac2, by rw [hln]; exact hr9, by rw [hln]; exact ho9, fun x hx => List.mem_append_right _ (blkS_mem.2 ⟨x, hx, rfl⟩)⟩, List.mem_append_left _ HPM.out, fun g hg => ?_, fun y hy => ?_, by omega, wf_next_u sd, by rw [hln]; omega⟩
          · rcases List.mem_append.1 hg with hg | hg
            · exact Nat.lt_of_lt_of_le (H.out.lt g hg) hOff.size
            · obtain ⟨x, rfl, rfl⟩ := blkS_mem.1 hg
              rcases ho9.2 with ⟨e, _⟩ | ⟨g2, cap, cur, e, _, hrow, _⟩
              · cases e
              · injection e with e; injection e with e; rw [e]; exact lt_of_block hrow
          · rcases List.mem_append.1 hy with hy | hy
            · exact H.out.ok y hy
            · rw [List.mem_singleton.1 hy]; exact HXO.out
      · refine plan_half (by rfl) (by kernel_rfl) ?_
        intro K hK
        refine wp_build_rk nmT _ rfl ((nx, [b0, b1, b2, b3, b4, b5, b6, b7]) : Nm) HXO.out rfl ?_
        have hal := (Below.refl w22.heap.size w22).alloc (Nat.le_refl _) (.cells (nmK.flat [((nx, [b0, b1, b2, b3, b4, b5, b6, b7]) : Nm)]).toArray 65)
        have HLT := Lib.hid (RK.At.of_row (K := nmK) (t := 65) (l := [((nx, [b0, b1, b2, b3, b4, b5, b6, b7]) : Nm)]) (heap_alloc_new w22 _) (fun y hy => by rw [List.mem_singleton.1 hy]; exact HXO.out))
        replace HO := Lib.hid (HO.out.next hal)
        replace HROW := Lib.hid (bl_row hal (lt_of_block HROW.out) HROW.out)
        replace HOWN := Lib.hid (own_below HOWN.out hal)
        replace HZ := Lib.hid (bl_row hal (lt_of_block HZ.out) HZ.out)
        replace HX := Lib.hid (bl_row hal (lt_of_block HX.out) HX.out)
        refine hK _ _ ⟨HX.out, ?_⟩
        clear hal hK K
        simp only [Act.put, List.setIfInBounds_toArray, List.set_cons_succ, List.set_cons_zero]
        generalize w22.alloc (.cells (nmK.flat [((nx, [b0, b1, b2, b3, b4, b5, b6, b7]) : Nm)]).toArray 65) = w27 at HROW HOWN HZ HX HO HLT ⊢
        generalize w22.heap.size = gs at HLT ⊢
        refine plan_us (by rfl) (by kernel_rfl) ?_
        intro K hK
        have c0 := row_cell HROW.out 0 _ rfl
        go_wp2_with fail
        refine ⟨HX.out, ?_⟩
        clear c0
        refine plan_us (by rfl) (by kernel_rfl) ?_
        intro K hK
        refine wp_append_rk nmT _ _ rfl 0 n (.slice a n cp) L rfl HOWN.out _ 1 1 [((nx, [b0, b1, b2, b3, b4, b5, b6, b7]) : Nm)] rfl HLT.out (by omega) (Nat.zero_le _) ?_
        intro v' w29 ho2 hg2 hor
        have HOR := Lib.hid hor
        obtain ⟨ab2, ac2, rfl, _⟩ := sl_own ho2
        have HSZ2 : Hid (w.heap.size ≤ w27.heap.size) := Lib.hid HO.out.size
        replace HO := Lib.hid (HO.out.trans (N := B) (Off.of_grown hg2 (own_block_in HBK.out)) (fun x hx => .inl hx))
        replace HROW := Lib.hid (grown_row hg2 (fun e => own_ne HOWN.out HROW.out (by decide) e.symm) HROW.out)
        replace HZ := Lib.hid (grown_row hg2 (fun e => own_ne HOWN.out HZ.out (by decide) e.symm) HZ.out)
        replace HX := Lib.hid (grown_row hg2 (fun e => HNE.out gx e.symm rfl) HX.out)
        replace HOWN := Lib.hid ho2
        clear ho2 hg2 hor HLT
        refine hK _ _ ⟨HX.out, ?_⟩
        clear hK K
        simp only [Act.put, List.setIfInBounds_toArray, List.set_cons_succ, List.set_cons_zero]
        repeat (first | (refine plan_t_load (by rfl) (by kernel_rfl) 65 _ rfl gx 0 rfl [.int .u64 nx, .int .u8 b0, .int .u8 b1, .int .u8 b2, .int .u8 b3, .int .u8 b4, .int .u8 b5, .int .u8 b6, .int .u8 b7] _ (fun y hy => rngL hy) Try.underlying65 rfl rfl ?_; simp only [Act.put, List.setIfInBounds_toArray, List.set_cons_succ, List.set_cons_zero]) | (refine plan_t (by rfl) ?_; (first | go_big_quiet_skip | (go_big_quiet_want; go_big_quiet_op; go_big_quiet_on)); refine wpQuiet_nil ?_))
        refine plan_us (by rfl) (by kernel_rfl) ?_
        intro K hK
        have c0 := row_cell HROW.out 0 _ rfl
        have f0 := row_free HROW.out 0
        go_wp2_with fail
        clear c0 f0
        have hgs := grown_setCell w29 p 0 (.slice ab2 (n + 1) ac2)
        have hrs := row_setL HROW.out 0 (.slice ab2 (n + 1) ac2)
        have hX9 := grown_row hgs (fun e => HNE2.out e) HX.out
        refine ⟨hX9, ?_⟩
        replace HX := Lib.hid hX9
        replace HZ := Lib.hid (grown_row hgs (row_ne HZ.out HROW.out (by decide)) HZ.out)
        replace HOWN := Lib.hid (own_grown HOWN.out hgs (fun g hg e => own_ne HOWN.out HROW.out (by decide) (hg.trans e)))
        replace HO := Lib.hid (HO.out.setCell (k := 0) HPM.out (.slice ab2 (n + 1) ac2))
        replace HROW : Hid ((w29.setCell ⟨p, 0, none⟩ (.slice ab2 (n + 1) ac2)).heap[p]? = some (.cells ([.slice ab2 (n + 1) ac2, .int .u64 (nx + 1), .int .u64 (nextM sd)] : List Value).toArray 68 (0, 0))) := Lib.hid hrs
        clear hgs hrs hX9
        generalize w29.setCell ⟨p, 0, none⟩ (.slice ab2 (n + 1) ac2) = w30 at HX HZ HOWN HO HROW ⊢
        clear hne
        show Exit.then _ _ _ _ _
        try simp only [Act.put, List.setIfInBounds_toArray, List.set_cons_succ, List.set_cons_zero]
        have x0 := row_cell HX.out 0 _ rfl
        have hrgx := rng_row HX.out 1 [.int .u8 b0, .int .u8 b1, .int .u8 b2, .int .u8 b3, .int .u8 b4, .int .u8 b5, .int .u8 b6, .int .u8 b7] (fun j v hv => by rw [Nat.add_comm]; exact hv)
        go_wp2_with (first | (refine wpList_load_mid rfl 38 _ rfl gx 1 rfl [.int .u8 b0, .int .u8 b1, .int .u8 b2, .int .u8 b3, .int .u8 b4, .int .u8 b5, .int .u8 b6, .int .u8 b7] _ hrgx Try.underlying38 rfl rfl ?_) | (refine wpList_store_row rfl 53 _ _ rfl gz rfl [.int .i64 24, .int .u64 0, .int .u64 0, .slice none 0 0, .bool false, .int .u64 0, .int .u64 0, .int .u64 0, .int .u64 nx, .int .u64 0, .slice none 0 0, .int .u8 b0, .int .u8 b1, .int .u8 b2, .int .u8 b3, .int .u8 b4, .int .u8 b5, .int .u8 b6, .int .u8 b7] [.int .i64 0, .int .u64 0, .int .u64 0, .slice none 0 0, .bool false, .int .u64 0, .int .u64 0, .int .u64 0, .int .u64 0, .int .u64 0, .slice none 0 0, .int .u8 0, .int .u8 0, .int .u8 0, .int .u8 0, .int .u8 0, .int .u8 0, .int .u8 0, .int .u8 0] rfl 53 HZ.out rfl rfl (one19 rfl rfl) ?_; intro w9 hz hg9; have HZ9 := Lib.hid hz; have HG9 := Lib.hid hg9; clear hz hg9) | fail)
        clear x0 hrgx
        refine bodyPost_ret (results_cell2 rfl _ _ gz rfl [.int .i64 24, .int .u64 0, .int .u64 0, .slice none 0 0, .bool false, .int .u64 0, .int .u64 0, .int .u64 0, .int .u64 nx, .int .u64 0, .slice none 0 0, .int .u8 b0, .int .u8 b1, .int .u8 b2, .int .u8 b3, .int .u8 b4, .int .u8 b5, .int .u8 b6, .int .u8 b7] _ _ HZ9.out Try.underlying53 rfl rfl) rfl ?_
        have hOff := HO.out.fresh HG9.out (by rw [HGZ.out]; exact Nat.le_refl _)
        have hr9 := grown_row HG9.out (row_ne HROW.out HZ.out (by decide)) HROW.out
        have ho9 := own_grown HOWN.out HG9.out (fun g hg e => own_ne HOWN.out HZ.out (by decide) (hg.trans e))
        have hln : (L ++ [((nx, [b0, b1, b2, b3, b4, b5, b6, b7]) : Nm)]).length = n + 1 := by simp [HN.out]
        refine ⟨B ++ blkS ab2, ⟨hOff, fun g hg => ?_⟩, .inr ⟨by rw [HN.out]; omega, by rw [HBE.out]; rfl, ?_⟩⟩
        · rcases List.mem_append.1 hg with hg | hg
          · exact .inl hg
          · obtain ⟨x, rfl, rfl⟩ := blkS_mem.1 hg
            rcases HOR.out with e | e
            · exact .inl (own_block_in HBK.out _ (by rw [← e]; rfl))
            · refine .inr ?_; have e2 : some x.block = _ := e; injection e2 with e2; rw [e2]; exact HSZ2.out
        · rw [HBE.out]
          refine ⟨⟨ab2, ac2, by rw [hln]; exact hr9, by rw [hln]; exact ho9, fun x hx => List.mem_append_right _ (blkS_mem.2 ⟨x, hx, rfl⟩)⟩, List.mem_append_left _ HPM.out, fun g hg => ?_, fun y hy => ?_, by omega, wf_next_u sd, by rw [hln]; omega⟩
          · rcases List.mem_append.1 hg with hg | hg
            · exact Nat.lt_of_lt_of_le (H.out.lt g hg) hOff.size
            · obtain ⟨x, rfl, rfl⟩ := blkS_mem.1 hg
              rcases ho9.2 with ⟨e, _⟩ | ⟨g2, cap, cur, e, _, hrow, _⟩
              · cases e
              · injection e with e; injection e with e; rw [e]; exact lt_of_block hrow
          · rcases List.mem_append.1 hy with hy | hy
            · exact H.out.ok y hy
            · rw [List.mem_singleton.1 hy]; exact HXO.out
end Go.Proofs.Ytjdcmhclamjcjaa
namespace Go.Proofs.Ytjdcmhclamjcjaa
open Go.RowKit
set_option linter.unusedVariables false

theorem grown_setRow (w : World) (g : Nat) (cs : Array Value) : w.grownBy (w.setRow g cs) (some g) :=
  ⟨rfl, rfl, rfl, by simp [World.setRow], fun i _ hr => setRow_other w g i cs (by intro e; exact hr (by rw [e]))⟩
set_option maxRecDepth 100000 in
theorem infoU8t : (Try.prog.info? 5).map (·.size) = some 1 := by kernel_rfl
theorem wp_copy_grown {P : Program} {w : World} {o : Oper} {a : Act} {K : Act → World → Prop} {Q : Exit → Act → World → Prop} (d s : Operand) (dT sT : TypeId)
    (ho : o.op = .call { callee := .builtin .copy, args := #[d, s], argTypes := #[dT, sT] }) (elem : TypeId) (hu : P.underlying dT = some (.slice elem)) (hsz : (P.info? elem).map (·.size) = some 1)
    (dp sp : Option Addr) (dLen dCap sLen sCap : Nat) (hd : a.eval d = .slice dp dLen dCap) (hs : a.eval s = .slice sp sLen sCap)
    (g off : Nat) (cur : List Value) (t : TypeId) (hg : w.heap[g]? = some (.cells cur.toArray t (0, 0))) (cs : List Value) (hn : cs.length = Nat.min sLen dLen)
    (hpos : 0 < cs.length → dp = some ⟨g, off, none⟩ ∧ ∃ ad, sp = some ad ∧ ∀ j v, cs[j]? = some v → w.cell? (ad.add j) = some v)
    (hfit : off + cs.length ≤ cur.length) (h1 : ∀ v ∈ cs, v.oneCell' = true)
    (h : ∀ w', w'.heap[g]? = some (.cells (splice cur off cs).toArray t (0, 0)) → w.grownBy w' (some g) → K (a.put o.dst (goInt cs.length)) w') :
    Oper.wp P o a w K Q := by
  by_cases h0 : cs.length = 0
  · obtain rfl : cs = [] := List.eq_nil_of_length_eq_zero h0
    have hrun := run_copy_none (P := P) w dT sT o.type elem dp sp dLen dCap sLen sCap hu hsz (by simpa using hn.symm)
    unfold Oper.wp
    simp [execOp, ho, resolve, invoke, builtin, hd, hs, hrun, Result.andThen]
    exact h w (by simpa [splice] using hg) (grown_refl _ _)
  · obtain ⟨rfl, ad, rfl, hsrc⟩ := hpos (by omega)
    have hrun := run_copy_row (P := P) w dT sT o.type elem g off dLen dCap ad sLen sCap cur.toArray t cs hu hsz hg hn hsrc (by simpa using hfit) h1
    unfold Oper.wp
    simp [execOp, ho, resolve, invoke, builtin, hd, hs, hrun, Result.andThen]
    exact h _ (by simpa [splice] using setRow_heap w g _ _ t _ hg) (grown_setRow _ _ _)
end Go.Proofs.Ytjdcmhclamjcjaa
