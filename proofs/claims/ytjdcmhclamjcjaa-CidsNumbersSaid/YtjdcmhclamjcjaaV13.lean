/- texts of the proof, laid together: Cid50. -/
import Derived.Test.YtjdcmhclamjcjaaV12
import Derived.Great.BuildSlice
namespace Go.Proofs.Ytjdcmhclamjcjaa
open Go.RowKit
set_option linter.unusedVariables false
set_option linter.unusedSimpArgs false

def askK : RK AskV := ⟨12, AskV.cells, fun _ => True, by omega, by omega, fun _ _ => rfl, fun x _ v hv => ask_one x v hv⟩
set_option maxRecDepth 100000 in
theorem askT : RT askK AKT 31 (.agg #[.int .i64 0, .int .i64 0, .int .u64 0, .int .u64 0, .int .i64 0, .int .u64 0, .int .u64 0, .int .u64 0, .slice none 0 0, .bool false, .slice none 0 0, .int .i64 0]) 128 := ⟨Try.underlying31, by kernel_rfl, rfl, by omega⟩
def mkA (q : Int × Int × Int × Int) : AskV := ⟨q.1, q.2.1, q.2.2.1, q.2.2.2, 0, 0, 0, 0, 0, false, none, 0, 0, none, 0, 0, [], []⟩
def numQ : List (Int × Int × Int × Int) := [(0, 0, 0, 0), (0, 0, 0, 0), (0, 0, 0, 0), (0, 0, 0, 0), (2, 0, 9, 0), (2, 0, 1, 0), (0, 0, 0, 0), (2, 0, 0, 0), (2, 0, 2, 0), (2, 0, 3, 0), (2, 0, 4, 0), (3, 0, 3, 0), (3, 0, 1, 0), (3, 0, 1, 0), (3, 4, 1, 0), (6, 0, 0, 0), (7, 0, 0, 0), (7, 0, 0, 0), (8, 0, 0, 0), (8, 0, 5, 0), (7, 0, 0, 0), (3, 0, 5, 6), (3, 0, 6, 3), (7, 0, 0, 0), (6, 0, 0, 0), (6, 0, 0, 0), (3, 0, 2, 0), (3, 0, 7, 0), (3, 0, 8, 0), (3, 0, 9, 0), (3, 0, 10, 0), (7, 0, 0, 0), (7, 0, 0, 0), (3, 0, 11, 11), (7, 0, 0, 0), (7, 0, 0, 0), (6, 0, 0, 0)]
def numA : List AskV := numQ.map mkA
theorem numQ_ok : ∀ q ∈ numQ, 0 ≤ q.1 ∧ q.1 ≤ 100 ∧ 0 ≤ q.2.1 ∧ q.2.1 ≤ 100 ∧ 0 ≤ q.2.2.1 ∧ q.2.2.1 ≤ 100 ∧ 0 ≤ q.2.2.2 ∧ q.2.2.2 ≤ 100 := by decide
theorem numA_ok {x : AskV} (h : x ∈ numA) (W : World) : x.At W := by
  obtain ⟨q, hq, rfl⟩ := List.mem_map.1 h
  have := numQ_ok q hq
  exact ⟨⟨by simp only [mkA]; omega, by simp only [mkA]; omega⟩, ⟨by simp only [mkA]; omega, by simp only [mkA]; omega⟩, ⟨by simp only [mkA]; omega, by simp only [mkA]; omega⟩, ⟨by simp only [mkA]; omega, by simp only [mkA]; omega⟩,
    ⟨by simp [mkA], by simp [mkA]⟩, ⟨by simp [mkA], by simp [mkA]⟩, ⟨by simp [mkA], by simp [mkA]⟩, ⟨by simp [mkA], by simp [mkA]⟩, ⟨by simp [mkA], by simp [mkA]⟩, IntsK.nil _ _ _, ⟨Nat.le_refl _, by simp [mkA]⟩, IntsK.nil _ _ _, by simp [mkA]⟩
theorem wpList_build_asks {ops : Array Oper} {rest : List Oper} {o : Oper} {a : Act} {w : World} {Q : Exit → Act → World → Prop} {n : Nat} (hgd : o.guard = none) (parts : Array (Nat × Operand)) (ho : o.op = .buildSlice 31 n parts) (l : List AskV) (hlen : l.length = n) (hn : 0 < n ∧ n ≤ 1000)
    (hp : (parts.map fun (i, x) => (i, a.eval x)).toList = ((l.map fun x => Value.agg x.cells.toArray).zipIdx 0).map fun x => (x.2, x.1))
    (h : wpList Try.prog ops Q rest (a.put o.dst (.slice (some ⟨w.heap.size, 0, none⟩) n n)) (w.alloc (.cells (askK.flat l).toArray AKT))) : wpList Try.prog ops Q (o :: rest) a w := by
  obtain ⟨i0, hi, hz0, hz1, hz2⟩ := info_parts askT.i
  have h12 : askK.N = 12 := rfl
  rw [h12] at hz1
  refine wpList_buildSlice hgd 31 AKT n _ ho (askK.flat l).toArray i0 _ Try.underlying31 hi hz0 (by rw [hz1]; omega) (by rw [hz1]; omega) ?_ h
  rw [hz1, hp]
  have hf := Great.fill_whole (s := 12) (by omega) (l.map fun x => Value.agg x.cells.toArray) ((Array.range (n * 12)).map fun x => ((.agg #[.int .i64 0, .int .i64 0, .int .u64 0, .int .u64 0, .int .i64 0, .int .u64 0, .int .u64 0, .int .u64 0, .slice none 0 0, .bool false, .slice none 0 0, .int .i64 0]) : Value).cells[x % ((.agg #[.int .i64 0, .int .i64 0, .int .u64 0, .int .u64 0, .int .i64 0, .int .u64 0, .int .u64 0, .int .u64 0, .slice none 0 0, .bool false, .slice none 0 0, .int .i64 0]) : Value).cells.size]!) (fun v hv => by obtain ⟨x, _, rfl⟩ := List.mem_map.1 hv; simp [Value.cells, AskV.cells]) (by simp [hlen])
  rw [List.flatMap_map] at hf
  simpa [Value.cells, RK.flat, askK] using hf
set_option maxRecDepth 100000 in
set_option maxHeartbeats 8000000 in
theorem numbers20_any (w : World) :
    Makes Try.prog 3 #[] w (.bool true) := by
  have HF := Lib.hid (fresh_any w 5 ⟨by omega, by omega⟩)
  obtain ⟨LA, hLA⟩ : ∃ l, numA = l := ⟨_, rfl⟩
  have HLA := Lib.hid hLA
  have HLN : Hid (LA.length = 37) := Lib.hid (by rw [← hLA]; rfl)
  have HAO : Hid (∀ x ∈ LA, ∀ W, x.At W) := Lib.hid (by rw [← hLA]; exact fun x hx W => numA_ok hx W)
  clear hLA
  go_enter Try.func3, Try.ntmps3
  go_wp2_with fail
  refine Calls.mono HF.out ?_
  rintro e w1 ⟨g, po, pt, pp, pq, B1, B2, B3, B4, rfl, hS⟩
  have HS := Lib.hid hS
  clear hS HF
  go_upto_region 4 with fail
  go_wp2_with (first | (refine wpList_build_asks rfl _ rfl LA HLN.out (by omega) (by rw [← HLA.out]; simp only [List.map_toArray, List.map_cons, List.map_nil]; rfl) ?_) | fail)
  change Code.wp _ _ _ _ (w1.alloc (.cells (askK.flat LA).toArray AKT))
  replace HS := Lib.hid (HS.out.boxed (askK.flat LA) AKT)
  generalize w1.alloc (.cells (askK.flat LA).toArray AKT) = w2 at HS ⊢
  obtain ⟨gl, hgl⟩ : ∃ g, w1.heap.size = g := ⟨_, rfl⟩
  rw [hgl] at HS ⊢
  clear hgl
  have hr : Rnd w g [(gl, askK.flat LA, AKT)] 0 w2 := ⟨po, pt, pp, pq, B1, B2, B3, B4, 1, _, _, HS.out, by omega, TI.first (cid_of1 (by omega) (by omega) (by omega) (by omega)), TW.first _, by simp [th0], by simp⟩
  have HR := Lib.hid hr
  clear hr HS HLA
  go_loopw [46] (fun s6 wr => ∃ (i : Nat), s6 = .int .i64 i ∧ i ≤ 37 ∧ Hid (Rnd w g [(gl, askK.flat LA, AKT)] i wr)) (fun s _ => 37 - (intOf s).toNat)
  case atStart => exact ⟨0, rfl, by omega, HR⟩
  case round =>
    clear HR
    obtain ⟨i, rfl, hi, HR⟩ := hrel
    skip
    obtain ⟨po, pt, pp, pq, B1, B2, B3, B4, N, o, t, hS, hN, ti, tw, hc, hnx⟩ := HR.out
    have HS := Lib.hid hS; have HTI := Lib.hid ti; have HTW := Lib.hid tw; have HC := Lib.hid hc; have HNX := Lib.hid hnx
    clear hS ti tw hc hnx HR
    by_cases hlt : i < 37
    · skip
      obtain ⟨x, hx⟩ : ∃ x, LA[i]? = some x := ⟨LA[i]'(by rw [HLN.out]; exact hlt), List.getElem?_eq_getElem _⟩
      have HA9 : Hid (∀ W, Below w.heap.size w W → x.At W) := Lib.hid (fun W _ => HAO.out x (List.mem_of_getElem? hx) W)
      obtain ⟨RX, hRX⟩ : ∃ R, x.cells = R := ⟨_, rfl⟩
      have HRX := Lib.hid hRX
      have hrow := HS.out.row _ (List.mem_cons_self ..)
      have hrg : wr.rangeAt gl (0 + i * 12) RX := fun j v hv => cell_row hrow (0 + i * 12 + j) v (by rw [Nat.zero_add]; exact askK.flat_at LA (fun _ _ => trivial) i j x v hx (by rw [show askK.enc x = x.cells from rfl, hRX]; exact hv))
      have HRG := Lib.hid hrg
      have HL : Hid (RX.length = 12) := Lib.hid (by rw [← hRX]; rfl)
      have HO : Hid (∀ v ∈ RX, v.oneCell' = true) := Lib.hid (by rw [← hRX]; exact ask_one x)
      have HI6 := Lib.hid hi
      clear hx hrow hrg hRX
      go_upto_region 7 with (first | (refine wpList_load_mid rfl AKT _ rfl gl (0 + i * 12) rfl RX _ HRG.out Try.underlying30 rfl (by rw [HL.out]; rfl) ?_) | (refine wpList_load_mid rfl AKT _ rfl gl (i * 12) rfl RX _ (by have h9 := HRG.out; rw [Nat.zero_add] at h9; exact h9) Try.underlying30 rfl (by rw [HL.out]; rfl) ?_) | (refine wpList_store_row rfl AKT _ _ rfl wr.heap.size rfl RX [.int .i64 0, .int .i64 0, .int .u64 0, .int .u64 0, .int .i64 0, .int .u64 0, .int .u64 0, .int .u64 0, .slice none 0 0, .bool false, .slice none 0 0, .int .i64 0] rfl AKT (heap_alloc_new _ _) (by rw [HL.out]; rfl) (by rw [HL.out]; rfl) HO.out ?_; intro w3 hr hg; have HN9 := Lib.hid HS.out.ne; replace HS := Lib.hid ((HS.out.boxed [.int .i64 0, .int .i64 0, .int .u64 0, .int .u64 0, .int .i64 0, .int .u64 0, .int .u64 0, .int .u64 0, .slice none 0 0, .bool false, .slice none 0 0, .int .i64 0] AKT).stored HN9.out hg hr); clear hr hg HN9) | fail)
      try simp only [Act.put]
      obtain ⟨gx, hgx⟩ : ∃ g, wr.heap.size = g := ⟨_, rfl⟩
      rw [hgx] at HS ⊢
      clear hgx HRG
      have hrow := HS.out.row _ (List.mem_cons_self ..)
      have HROW : Hid (w3.heap[gx]? = some (.cells RX.toArray AKT (0, 0))) := Lib.hid hrow
      clear hrow
      have hcl := wdo_any w w3 (HS.out.less (R' := [(gl, askK.flat LA, AKT)]) (fun r hr => List.mem_cons_of_mem _ hr)) HTI.out HTW.out x HA9.out hN (by have := HNX.out; omega)
      rw [HRX.out] at hcl
      have HCL := Lib.hid hcl
      clear hcl
      go_wp2_with (first | (refine wpList_load_mid rfl AKT _ rfl gx 0 rfl RX _ (rngL HROW.out) Try.underlying30 rfl (by rw [HL.out]; rfl) ?_) | fail)
      refine Calls.mono HCL.out ?_
      rintro e w9 ⟨rfl, hd⟩
      have HR9 := Lib.hid (Rnd.next HC.out HNX.out (by omega) hd)
      clear hd HCL HS HROW
      go_wp2_with fail
      go_roundw
      case rel => exact ⟨i + 1, by go_num, by omega, HR9⟩
      case measure => simp [intOf]; omega
    · obtain rfl : i = 37 := by omega
      have HK9 : Hid (∀ W, Makes Try.prog 7 #[] W (.bool true)) := Lib.hid known20_any
      have HLOW := Lib.hid HS.out.low
      clear HS
      go_wp2_with fail
      refine Calls.mono (HK9.out _) ?_
      rintro e w9 ⟨rfl, hb⟩
      go_wp2_with fail
      (try simp only [Exit.inBlock, Exit.then])
      go_ret
      exact ⟨rfl, bl_next HLOW.out HLOW.out.size hb⟩
end Go.Proofs.Ytjdcmhclamjcjaa
