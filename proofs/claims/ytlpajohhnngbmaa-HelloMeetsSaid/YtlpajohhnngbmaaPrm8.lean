/- params, names: as they are drawn. -/
import Derived.Test.YtlpajohhnngbmaaPrm7
namespace Go.Proofs.Ytlpajohhnngbmaa
open Go.RowKit
set_option linter.unusedVariables false

theorem set8c {w : World} {b : Nat} {u0 u1 u2 u3 u4 u5 u6 u7 : Value} {t : TypeId} (h : w.heap[b]? = some (.cells #[u0, u1, u2, u3, u4, u5, u6, u7] t (0, 0))) (x0 x1 x2 x3 x4 x5 x6 x7 : Value) :
    At ((((((((w.setCell ⟨b, 0, none⟩ (x0)).setCell ⟨b, 1, none⟩ (x1)).setCell ⟨b, 2, none⟩ (x2)).setCell ⟨b, 3, none⟩ (x3)).setCell ⟨b, 4, none⟩ (x4)).setCell ⟨b, 5, none⟩ (x5)).setCell ⟨b, 6, none⟩ (x6)).setCell ⟨b, 7, none⟩ (x7)) b #[x0, x1, x2, x3, x4, x5, x6, x7] t w := by
  have h0 := At.base h
  have k0 : At _ b #[x0, u1, u2, u3, u4, u5, u6, u7] t w := (h0.set 0 x0).conv (by rfl)
  have k1 : At _ b #[x0, x1, u2, u3, u4, u5, u6, u7] t w := (k0.set 1 x1).conv (by rfl)
  have k2 : At _ b #[x0, x1, x2, u3, u4, u5, u6, u7] t w := (k1.set 2 x2).conv (by rfl)
  have k3 : At _ b #[x0, x1, x2, x3, u4, u5, u6, u7] t w := (k2.set 3 x3).conv (by rfl)
  have k4 : At _ b #[x0, x1, x2, x3, x4, u5, u6, u7] t w := (k3.set 4 x4).conv (by rfl)
  have k5 : At _ b #[x0, x1, x2, x3, x4, x5, u6, u7] t w := (k4.set 5 x5).conv (by rfl)
  have k6 : At _ b #[x0, x1, x2, x3, x4, x5, x6, u7] t w := (k5.set 6 x6).conv (by rfl)
  have k7 : At _ b #[x0, x1, x2, x3, x4, x5, x6, x7] t w := (k6.set 7 x7).conv (by rfl)
  exact k7
theorem row8 {w : World} {b : Nat} {u0 u1 u2 u3 u4 u5 u6 u7 : Value} {t : TypeId} (h : w.heap[b]? = some (.cells #[u0, u1, u2, u3, u4, u5, u6, u7] t (0, 0))) :
    w.cell? ⟨b, 0, none⟩ = some u0 ∧ w.cell? ⟨b, 1, none⟩ = some u1 ∧ w.cell? ⟨b, 2, none⟩ = some u2 ∧ w.cell? ⟨b, 3, none⟩ = some u3 ∧ w.cell? ⟨b, 4, none⟩ = some u4 ∧ w.cell? ⟨b, 5, none⟩ = some u5 ∧ w.cell? ⟨b, 6, none⟩ = some u6 ∧ w.cell? ⟨b, 7, none⟩ = some u7 :=
  ⟨row_cell h 0 _ rfl, row_cell h 1 _ rfl, row_cell h 2 _ rfl, row_cell h 3 _ rfl, row_cell h 4 _ rfl, row_cell h 5 _ rfl, row_cell h 6 _ rfl, row_cell h 7 _ rfl⟩
theorem free8 {w : World} {b : Nat} {cs : Array Value} {t : TypeId} (h : w.heap[b]? = some (.cells cs t (0, 0))) :
    w.frozen? ⟨b, 0, none⟩ = false ∧ w.frozen? ⟨b, 1, none⟩ = false ∧ w.frozen? ⟨b, 2, none⟩ = false ∧ w.frozen? ⟨b, 3, none⟩ = false ∧ w.frozen? ⟨b, 4, none⟩ = false ∧ w.frozen? ⟨b, 5, none⟩ = false ∧ w.frozen? ⟨b, 6, none⟩ = false ∧ w.frozen? ⟨b, 7, none⟩ = false :=
  ⟨row_free h 0, row_free h 1, row_free h 2, row_free h 3, row_free h 4, row_free h 5, row_free h 6, row_free h 7⟩
def cidM (n : Int) : List Int := [1, within n 0 1048576 % 5, 7, 0, 0, 0, 0, 0]
theorem cidM_wf (n : Int) : ∀ x ∈ cidM n, (Lit.int .u8 x).wf = true := by
  intro x hx
  simp only [cidM, List.mem_cons, List.not_mem_nil, or_false] at hx
  rcases hx with rfl | rfl | rfl | rfl | rfl | rfl | rfl | rfl
  case inr.inl => exact wf_u8_of (by omega) (by omega)
  all_goals decide

set_option maxRecDepth 100000 in
theorem kcid_any (w : World) (n : Int) (hn : -9223372036854775808 ≤ n ∧ n ≤ 9223372036854775807) : Makes Try.prog 24 #[.int .i64 n] w (.agg ((cidM n).map (Value.int .u8)).toArray) := by
  have hwi := within_in n 0 1048576 (by omega)
  have HW := Lib.hid (fun w => within_any w n 0 1048576 (by omega) (by omega) (by omega) hn)
  have HE : Hid ((cidM n).map (Value.int .u8) = [.int .u8 1, .int .u8 (within n 0 1048576 % 5), .int .u8 7, .int .u8 0, .int .u8 0, .int .u8 0, .int .u8 0, .int .u8 0]) := Lib.hid rfl
  obtain ⟨k, hk⟩ : ∃ k, within n 0 1048576 = k := ⟨_, rfl⟩
  rw [hk] at HW hwi HE
  clear hk
  go_enter Try.func24, Try.ntmps24
  go_wp2_with fail
  refine Calls.mono (HW.out _) ?_
  have hrow := heap_alloc_new w (.cells #[.int .u8 0, .int .u8 0, .int .u8 0, .int .u8 0, .int .u8 0, .int .u8 0, .int .u8 0, .int .u8 0] 24)
  have hbW := (Below.refl w.heap.size w).alloc (Nat.le_refl _) (.cells #[.int .u8 0, .int .u8 0, .int .u8 0, .int .u8 0, .int .u8 0, .int .u8 0, .int .u8 0, .int .u8 0] 24)
  generalize w.alloc (.cells #[.int .u8 0, .int .u8 0, .int .u8 0, .int .u8 0, .int .u8 0, .int .u8 0, .int .u8 0, .int .u8 0] 24) = W at hrow hbW ⊢
  rintro e w1 ⟨rfl, rfl⟩
  obtain ⟨g, hg⟩ : ∃ g, w.heap.size = g := ⟨_, rfl⟩
  rw [hg] at hrow ⊢
  have HG := Lib.hid hg
  clear hg
  obtain ⟨z0, z1, z2, z3, z4, z5, z6, z7⟩ := row8 hrow
  obtain ⟨f0, f1, f2, f3, f4, f5, f6, f7⟩ := free8 hrow
  have HR := Lib.hid hrow; have HB := Lib.hid hbW
  clear hrow hbW
  obtain ⟨x, hx⟩ : ∃ x, k % 5 = x := ⟨_, rfl⟩
  have hxb : 0 ≤ x ∧ x < 5 := by omega
  go_wp2_with fail
  simp only [hx]
  have hA := set8c HR.out (.int .u8 1) (.int .u8 x) (.int .u8 7) (.int .u8 0) (.int .u8 0) (.int .u8 0) (.int .u8 0) (.int .u8 0)
  generalize ((((((((W.setCell ⟨g, 0, none⟩ (.int .u8 1)).setCell ⟨g, 1, none⟩ (.int .u8 x)).setCell ⟨g, 2, none⟩ (.int .u8 7)).setCell ⟨g, 3, none⟩ (.int .u8 0)).setCell ⟨g, 4, none⟩ (.int .u8 0)).setCell ⟨g, 5, none⟩ (.int .u8 0)).setCell ⟨g, 6, none⟩ (.int .u8 0)).setCell ⟨g, 7, none⟩ (.int .u8 0)) = W9 at hA ⊢
  have hLZ : Below w.heap.size w W9 := HB.out.grown hA.rest HB.out.size (by intro k hk; injection hk with hk; have := HG.out; omega)
  obtain ⟨e0, e1, e2, e3, e4, e5, e6, e7⟩ := row8 hA.row
  rw [HE.out, hx]
  exact bodyPost_ret (v := .agg #[.int .u8 1, .int .u8 x, .int .u8 7, .int .u8 0, .int .u8 0, .int .u8 0, .int .u8 0, .int .u8 0]) (by simp [results, Try.results24, go_sem, e0, e1, e2, e3, e4, e5, e6, e7]) rfl ⟨rfl, hLZ⟩

def keepM (a b c d n : Int) : Pm := ⟨smallM a % 1073741825, smallM b % 1099511627777, smallM c % 1099511627777, smallM d % 1048577, cidM n⟩
theorem keepM_right (a b c d n : Int) : rightM (keepM a b c d n) = true := by
  rw [rightM_eq]; unfold keepM
  refine ⟨?_, ?_, ?_, ?_⟩ <;> simp only <;> omega
theorem keepM_ok (a b c d n : Int) : (keepM a b c d n).ok := by
  refine ⟨wf_u64_of ?_ ?_, wf_u64_of ?_ ?_, wf_u64_of ?_ ?_, wf_u64_of ?_ ?_, rfl, cidM_wf n⟩ <;> simp only [keepM] <;> omega

set_option maxRecDepth 100000 in
set_option maxHeartbeats 2000000 in
theorem kparams_any (w : World) (a b c d n : Int) (ha : 0 ≤ a ∧ a < 18446744073709551616) (hb : 0 ≤ b ∧ b < 18446744073709551616) (hc : 0 ≤ c ∧ c < 18446744073709551616) (hd : 0 ≤ d ∧ d < 18446744073709551616) (hn : -9223372036854775808 ≤ n ∧ n ≤ 9223372036854775807) :
    Makes Try.prog 6 #[.int .u64 a, .int .u64 b, .int .u64 c, .int .u64 d, .int .i64 n] w (keepM a b c d n).val := by
  have HA := Lib.hid (fun w => small_any w a ha); have HB := Lib.hid (fun w => small_any w b hb); have HC := Lib.hid (fun w => small_any w c hc); have HD := Lib.hid (fun w => small_any w d hd)
  have HN := Lib.hid (fun w => kcid_any w n hn)
  have HE : Hid ((keepM a b c d n).val = .agg #[.int .u64 (smallM a % 1073741825), .int .u64 (smallM b % 1099511627777), .int .u64 (smallM c % 1099511627777), .int .u64 (smallM d % 1048577), .int .u8 1, .int .u8 (within n 0 1048576 % 5), .int .u8 7, .int .u8 0, .int .u8 0, .int .u8 0, .int .u8 0, .int .u8 0]) := Lib.hid rfl
  have hia := smallM_in a; have hib := smallM_in b; have hic := smallM_in c; have hid := smallM_in d
  obtain ⟨sa, esa⟩ : ∃ k, smallM a = k := ⟨_, rfl⟩
  obtain ⟨sb, esb⟩ : ∃ k, smallM b = k := ⟨_, rfl⟩
  obtain ⟨sc, esc⟩ : ∃ k, smallM c = k := ⟨_, rfl⟩
  obtain ⟨sd, esd⟩ : ∃ k, smallM d = k := ⟨_, rfl⟩
  rw [esa] at HA HE hia; rw [esb] at HB HE hib; rw [esc] at HC HE hic; rw [esd] at HD HE hid
  have hcm : (cidM n).map (Value.int .u8) = [.int .u8 1, .int .u8 (within n 0 1048576 % 5), .int .u8 7, .int .u8 0, .int .u8 0, .int .u8 0, .int .u8 0, .int .u8 0] := rfl
  rw [hcm] at HN
  obtain ⟨x, hx⟩ : ∃ x, within n 0 1048576 % 5 = x := ⟨_, rfl⟩
  rw [hx] at HN HE
  clear esa esb esc esd hcm hx
  go_enter Try.func6, Try.ntmps6
  have hrow := heap_alloc_new w (.cells #[.int .u64 0, .int .u64 0, .int .u64 0, .int .u64 0, .int .u8 0, .int .u8 0, .int .u8 0, .int .u8 0, .int .u8 0, .int .u8 0, .int .u8 0, .int .u8 0] 26)
  have hbW := (Below.refl w.heap.size w).alloc (Nat.le_refl _) (.cells #[.int .u64 0, .int .u64 0, .int .u64 0, .int .u64 0, .int .u8 0, .int .u8 0, .int .u8 0, .int .u8 0, .int .u8 0, .int .u8 0, .int .u8 0, .int .u8 0] 26)
  have HR := Lib.hid hrow; have HL := Lib.hid hbW
  clear hrow hbW
  go_wp2_with fail
  refine Calls.mono (HA.out _) ?_
  generalize w.alloc (.cells #[.int .u64 0, .int .u64 0, .int .u64 0, .int .u64 0, .int .u8 0, .int .u8 0, .int .u8 0, .int .u8 0, .int .u8 0, .int .u8 0, .int .u8 0, .int .u8 0] 26) = W0 at HR HL ⊢
  obtain ⟨g, hg⟩ : ∃ g, w.heap.size = g := ⟨_, rfl⟩
  rw [hg] at HR ⊢
  have HG := Lib.hid hg
  clear hg
  rintro e w1 ⟨rfl, hb1⟩
  have HR1 := Lib.hid (bl_row hb1 (lt_of_block HR.out) HR.out)
  have HL1 := Lib.hid (bl_next HL.out HL.out.size hb1)
  clear hb1 HR HL
  go_wp2_with fail
  refine Calls.mono (HB.out _) ?_
  rintro e w2 ⟨rfl, hb2⟩
  have HR2 := Lib.hid (bl_row hb2 (lt_of_block HR1.out) HR1.out)
  have HL2 := Lib.hid (bl_next HL1.out HL1.out.size hb2)
  clear hb2 HR1 HL1
  go_wp2_with fail
  refine Calls.mono (HC.out _) ?_
  rintro e w3 ⟨rfl, hb3⟩
  have HR3 := Lib.hid (bl_row hb3 (lt_of_block HR2.out) HR2.out)
  have HL3 := Lib.hid (bl_next HL2.out HL2.out.size hb3)
  clear hb3 HR2 HL2
  go_wp2_with fail
  refine Calls.mono (HD.out _) ?_
  rintro e w4 ⟨rfl, hb4⟩
  have HR4 := Lib.hid (bl_row hb4 (lt_of_block HR3.out) HR3.out)
  have HL4 := Lib.hid (bl_next HL3.out HL3.out.size hb4)
  clear hb4 HR3 HL3
  go_wp2_with fail
  refine Calls.mono (HN.out _) ?_
  rintro e w5 ⟨rfl, hb5⟩
  have HR5 := Lib.hid (bl_row hb5 (lt_of_block HR4.out) HR4.out)
  have HL5 := Lib.hid (bl_next HL4.out HL4.out.size hb5)
  clear hb5 HR4 HL4
  obtain ⟨z0, z1, z2, z3, z4, z5, z6, z7, z8, z9, z10, z11⟩ := row12 HR5.out
  obtain ⟨f0, f1, f2, f3, f4, f5, f6, f7, f8, f9, f10, f11⟩ := free12 HR5.out
  go_wp2_with fail
  have hA := set12 HR5.out (.int .u64 (sa % 1073741825)) (.int .u64 (sb % 1099511627777)) (.int .u64 (sc % 1099511627777)) (.int .u64 (sd % 1048577)) (.int .u8 1) (.int .u8 x) (.int .u8 7) (.int .u8 0) (.int .u8 0) (.int .u8 0) (.int .u8 0) (.int .u8 0)
  generalize ((((((((((((w5.setCell ⟨g, 0, none⟩ (.int .u64 (sa % 1073741825))).setCell ⟨g, 1, none⟩ (.int .u64 (sb % 1099511627777))).setCell ⟨g, 2, none⟩ (.int .u64 (sc % 1099511627777))).setCell ⟨g, 3, none⟩ (.int .u64 (sd % 1048577))).setCell ⟨g, 4, none⟩ (.int .u8 1)).setCell ⟨g, 5, none⟩ (.int .u8 x)).setCell ⟨g, 6, none⟩ (.int .u8 7)).setCell ⟨g, 7, none⟩ (.int .u8 0)).setCell ⟨g, 8, none⟩ (.int .u8 0)).setCell ⟨g, 9, none⟩ (.int .u8 0)).setCell ⟨g, 10, none⟩ (.int .u8 0)).setCell ⟨g, 11, none⟩ (.int .u8 0)) = W9 at hA ⊢
  have hLZ : Below w.heap.size w W9 := HL5.out.grown hA.rest HL5.out.size (by intro k hk; injection hk with hk; have := HG.out; omega)
  obtain ⟨e0, e1, e2, e3, e4, e5, e6, e7, e8, e9, e10, e11⟩ := row12 hA.row
  rw [HE.out]
  exact bodyPost_ret (v := .agg #[.int .u64 (sa % 1073741825), .int .u64 (sb % 1099511627777), .int .u64 (sc % 1099511627777), .int .u64 (sd % 1048577), .int .u8 1, .int .u8 x, .int .u8 7, .int .u8 0, .int .u8 0, .int .u8 0, .int .u8 0, .int .u8 0]) (by simp [results, Try.results6, go_sem, e0, e1, e2, e3, e4, e5, e6, e7, e8, e9, e10, e11]) rfl ⟨rfl, hLZ⟩
end Go.Proofs.Ytlpajohhnngbmaa
