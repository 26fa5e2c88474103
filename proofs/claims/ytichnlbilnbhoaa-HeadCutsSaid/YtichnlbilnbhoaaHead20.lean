/- heads: HeadTells, any input. -/
import Derived.Test.YtichnlbilnbhoaaHead19
namespace Go.Proofs.Ytichnlbilnbhoaa
open Go.RowKit
set_option linter.unusedVariables false

theorem row_set17 (h : Hd) (a : Option Addr) (tc m : Nat) (ht : h.t.length = 8) (hf : h.f.length = 8) : (h.row a tc).set 17 (.slice a (min h.k.length m) tc) = ({ h with k := h.k.take m } : Hd).row a tc := by
  obtain ⟨s, t, f, k, wd, p⟩ := h
  obtain ⟨t0, t1, t2, t3, t4, t5, t6, t7, rfl⟩ := len8 ht
  obtain ⟨f0, f1, f2, f3, f4, f5, f6, f7, rfl⟩ := len8 hf
  simp [Hd.row, Nat.min_comm]

set_option maxHeartbeats 2000000 in
theorem tells5_any (w : World) (q : HX) (r : Hd) (ra : Option Addr) (rc : Nat) (n att turn : Int) (ba : Option Addr) (bl bc : Nat) (bb : List Int) (hq : q.ok w) (hr : r.ok) (hrI : IntsK .u8 w ra r.k.length r.k) (hrl : r.k.length ≤ rc) (hrc : rc ≤ 9223372036854775807)
    (hn : -9223372036854775808 ≤ n ∧ n ≤ 9223372036854775807) (hat : -9223372036854775808 ≤ att ∧ att ≤ 9223372036854775807) (hbl : bl ≤ bc) (hbc : bc ≤ 9223372036854775807) (hB : IntsK .u8 w ba bl bb) :
    Makes Try.prog 3 #[q.val, r.val ra rc, .int .i64 n, .slice ba bl bc, .int .i64 att, .int .u8 turn] w (.bool true) := by
  have hwi := within_in n 4 300 (by omega)
  have hwa := fun w => within_any w n 4 300 (by omega) (by omega) (by omega) hn
  obtain ⟨k, ek⟩ : ∃ k : Nat, within n 4 300 = k := ⟨(within n 4 300).toNat, by omega⟩
  rw [ek] at hwi hwa
  have hok := keepH_ok q.s q.t q.f q.w q.k q.p hq.ints.2.1
  have hri := keepH_right q.s q.t q.f q.w q.k q.p
  have hkl := keepH_k q.s q.t q.f q.w q.k q.p
  have hkh := fun w1 (hb : Below w.heap.size w w1) => khead_any w1 q.s q.t q.f q.w q.a q.tl q.tc q.k q.p hq.le hq.max (hq.ints.below hb) hq.bs hq.bt hq.bf hq.bw
  generalize keepH q.s q.t q.f q.w q.k q.p = h at hok hri hkl hkh
  have hrp := (hrightM_eq h).1 hri
  have hKH : ∀ w1, Below w.heap.size w w1 → Calls Try.prog 6 #[.agg q.row.toArray] w1 fun e w' => Below w1.heap.size w1 w' ∧ ∃ b tc, e = .returned (.agg (h.row b tc).toArray) ∧ IntsK .u8 w' b h.k.length h.k := fun w1 hb => (hkh w1 hb).mono fun e w' ⟨b, he, hb, hi⟩ => ⟨hb, b, _, he, hi⟩
  have hL1 := encH_len h k
  have hL2 := encH_le h hok (by omega)
  have hL0 : 1 ≤ (encH h k).length := by unfold encH; split <;> simp
  have hwj := within_in att 0 (((encH h k).length : Int) + k - 1) (by omega)
  have hwb := fun w => within_any w att 0 (((encH h k).length : Int) + k - 1) (by omega) (by omega) (by omega) hat
  obtain ⟨j, ej⟩ : ∃ j : Nat, within att 0 (((encH h k).length : Int) + k - 1) = j := ⟨(within att 0 (((encH h k).length : Int) + k - 1)).toNat, by omega⟩
  rw [ej] at hwj hwb
  have hlen : ((encH h k) ++ List.replicate k 0).length = (encH h k).length + k := by simp
  have hj : j < (encH h k).length + k := by omega
  have hxj := List.getElem?_eq_getElem (l := (encH h k) ++ List.replicate k 0) (i := j) (by omega)
  have hwf := zeros_wf (encH_wf h hok hrp k (by omega)) k
  have hyw := set_wf hwf j (bits .xor .u8 (((encH h k) ++ List.replicate k 0)[j]'(by omega)) turn) (wf_bits _ _ _ _)
  have hr2 : ({ r with k := r.k.take 40 } : Hd).ok := ⟨hr.ws, hr.ww, hr.lt, hr.lf, hr.wt, hr.wf, fun x hx => hr.wk x (List.mem_of_mem_take hx)⟩
  have hk2 : (r.k.take 40).length = min r.k.length 40 := by rw [List.length_take, Nat.min_comm]
  have hI2 := hrI.pre (min r.k.length 40) (by omega)
  have ht2 : r.k.take (min r.k.length 40) = r.k.take 40 := by
    by_cases h40 : r.k.length ≤ 40
    · rw [Nat.min_eq_left h40, List.take_length, List.take_of_length_le h40]
    · rw [Nat.min_eq_right (by omega)]
  rw [ht2] at hI2
  have henc : ∀ w1 m, (-9223372036854775808 ≤ m ∧ m ≤ 9223372036854775807) → IntsK .u8 w1 ra (min r.k.length 40) (r.k.take 40) → Makes Try.prog 10 #[.agg ((r.row ra rc).set 17 (.slice ra (min r.k.length 40) rc)).toArray, .int .i64 m] w1 (.bool true) := fun w1 m hm hI => by
    rw [row_set17 r ra rc 40 hr.lt hr.lf]
    rw [← hk2] at hI
    exact encodes5_any w1 { r with k := r.k.take 40 } ra rc m hr2 (by simp; omega) hm hI
  have hBq := hB.pre (min bl 80) (by omega)
  exact tells5_core w q.row (r.row ra rc) n att turn ra ba r.k.length rc (min r.k.length 40) bl bc (min bl 80) (r.k.take 40) (bb.take (min bl 80)) h k (encH h k).length h.k.length j (encH h k) h.k _
    (Lib.hid fun a tc => ⟨row_len h a tc hok.lt hok.lf, row_one h a tc⟩) (Lib.hid rfl) (Lib.hid (row_len r ra rc hr.lt hr.lf)) (Lib.hid (row_17 r ra rc hr.lt hr.lf).1) ⟨hL0, by omega⟩ (by omega) hj (Lib.hid hxj) (Lib.hid hyw) (Lib.hid hI2) (Lib.hid hBq)
    (Lib.hid hKH) (Lib.hid fun w1 => cut_any w1 ra r.k.length rc 40 hrl hrc) (Lib.hid fun w1 => cut_any w1 ba bl bc 80 hbl hbc) (Lib.hid hwa) (Lib.hid hwb)
    (Lib.hid fun w1 b tc hI => rencode_any w1 h b tc k hok hri (by omega) hI) (Lib.hid fun w1 b tc hI => encodes5_any w1 h b tc n hok (by omega) hn hI)
    (Lib.hid fun w1 hI => henc w1 n hn hI) (Lib.hid fun w1 hI => henc w1 k (by omega) hI)
    (Lib.hid fun w1 a cap h1 h2 hI => parses5_any w1 a _ cap _ h1 h2 (by omega) hI) (Lib.hid fun w1 hI => parses5_any w1 ba _ bc _ (by omega) hbc (by omega) hI) (Lib.hid known5_any)
theorem bdU8 {n : Int} (h : (Lit.int .u8 n).wf = true) : 0 ≤ n ∧ n ≤ 255 := by
  simp [Lit.wf, IntKind.min, IntKind.max, IntKind.signed, IntKind.bits] at h; omega
end Go.Proofs.Ytichnlbilnbhoaa
