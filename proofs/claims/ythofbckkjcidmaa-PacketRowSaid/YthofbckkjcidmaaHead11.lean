/- heads: First, Same. -/
import Derived.Test.YthofbckkjcidmaaHead10
namespace Go.Proofs.Ythofbckkjcidmaa
open Go.RowKit
set_option linter.unusedVariables false

theorem parM_lens {bs : List Int} {r : Hd × Nat × Nat} (h : parM bs = some r) : r.1.t.length = 8 ∧ r.1.f.length = 8 := by
  unfold parM at h
  simp only at h
  split at h
  · cases h
  · split at h
    · split at h
      · cases h
      · rename_i hc
        injection h with h
        subst h
        exact ⟨rd_ok8 (by cases hh : (rdM (byteM bs false).2.1 (byteM bs false).2.2 8).2.2 <;> simp_all), rfl⟩
    · split at h
      · cases h
      · rename_i g hg
        split at h
        · cases h
        · rename_i hc
          injection h with h
          subst h
          exact lg_lens hg (by cases hh : g.b <;> simp_all)
def firstCid (bs : List Int) : List Int := match parM bs with
  | some r => r.1.t
  | none => z8
theorem firstCid_len (bs : List Int) : (firstCid bs).length = 8 := by
  unfold firstCid
  split
  · rename_i r h; exact (parM_lens h).1
  · rfl
theorem row_cid (h : Hd) (a : Option Addr) (tc : Nat) (ht : h.t.length = 8) (j : Nat) (v : Value) (hv : (h.t.map (Value.int .u8))[j]? = some v) : (h.row a tc)[1 + j]? = some v := by
  unfold Hd.row
  have hj : j < 8 := by have := lt_of_get hv; rw [List.length_map] at this; omega
  rw [List.getElem?_append_right (by simp), List.length_singleton, show 1 + j - 1 = j by omega, List.getElem?_append_left (by rw [List.length_map]; omega)]
  exact hv
theorem rowZ_is : rowZ = (Hd.mk 0 z8 z8 [] 0 false).row none 0 := rfl
/-- what Parse answers, in one. -/
theorem parR_one {w w' : World} {bs : List Int} {e : Ending} (h : ParR w bs e w') : ∃ (hd : Hd) (at' en : Nat) (a : Option Addr) (tc : Nat),
    e = .returned (.tuple #[.agg (hd.row a tc).toArray, .int .i64 at', .int .i64 en, .int .i64 (if (parM bs).isSome = true then 0 else 12)]) ∧ hd.t.length = 8 ∧ hd.f.length = 8 ∧ (hd, at', en) = (parM bs).getD (⟨0, z8, z8, [], 0, false⟩, 0, 0) ∧ IntsK .u8 w' a hd.k.length hd.k ∧ hd.k.length ≤ tc := by
  rcases h.2 with ⟨h1, h2⟩ | ⟨hd, at', en, a, tc, h1, h2, h3, h4, h5⟩
  · exact ⟨⟨0, z8, z8, [], 0, false⟩, 0, 0, none, 0, by rw [h2, h1, rowZ_is]; rfl, rfl, rfl, by rw [h1]; rfl, IntsK.nil _ _ _, Nat.le_refl _⟩
  · have hl := parM_lens h1
    exact ⟨hd, at', en, a, tc, by rw [h2, h1]; rfl, hl.1, hl.2, by rw [h1]; rfl, h3, h4⟩
theorem rparR_one {w w' : World} {bs : List Int} {e : Ending} (h : rParR w bs e w') : ∃ (hd : Hd) (at' en : Nat) (a : Option Addr) (tc : Nat),
    e = .returned (.tuple #[.agg (hd.row a tc).toArray, .int .i64 at', .int .i64 en, .bool (parM bs).isSome]) ∧ hd.t.length = 8 ∧ hd.f.length = 8 ∧ (hd, at', en) = (parM bs).getD (⟨0, z8, z8, [], 0, false⟩, 0, 0) ∧ IntsK .u8 w' a hd.k.length hd.k ∧ hd.k.length ≤ tc := by
  rcases h.2 with ⟨h1, h2⟩ | ⟨hd, at', en, a, tc, h1, h2, h3, h4, h5⟩
  · exact ⟨⟨0, z8, z8, [], 0, false⟩, 0, 0, none, 0, by rw [h2, h1, rowZ_is]; rfl, rfl, rfl, by rw [h1]; rfl, IntsK.nil _ _ _, Nat.le_refl _⟩
  · have hl := parM_lens h1
    exact ⟨hd, at', en, a, tc, by rw [h2, h1]; rfl, hl.1, hl.2, by rw [h1]; rfl, h3, h4⟩
theorem firstCid_of {bs : List Int} {hd : Hd} {at' en : Nat} (h : (hd, at', en) = (parM bs).getD (⟨0, z8, z8, [], 0, false⟩, 0, 0)) : firstCid bs = hd.t := by
  unfold firstCid
  cases hp : parM bs with
  | none => rw [hp] at h; injection h with h; rw [h]
  | some r => rw [hp] at h; simp only [Option.getD_some] at h; rw [← h]

set_option maxRecDepth 100000 in
set_option maxHeartbeats 4000000 in
theorem same_core (w : World) (s t0 t1 t2 t3 t4 t5 t6 t7 f0 f1 f2 f3 f4 f5 f6 f7 wd : Int) (a b : Option Addr) (tl tc uc : Nat) (p : Bool) (ks : List Int) (hIa : IntsK .u8 w a tl ks) (hIb : IntsK .u8 w b tl ks) (hwt : ∀ x ∈ [t0, t1, t2, t3, t4, t5, t6, t7], (Lit.int .u8 x).wf = true) (hwf : ∀ x ∈ [f0, f1, f2, f3, f4, f5, f6, f7], (Lit.int .u8 x).wf = true) :
    Makes Try.prog 13 #[.agg #[.int .i64 s, .int .u8 t0, .int .u8 t1, .int .u8 t2, .int .u8 t3, .int .u8 t4, .int .u8 t5, .int .u8 t6, .int .u8 t7, .int .u8 f0, .int .u8 f1, .int .u8 f2, .int .u8 f3, .int .u8 f4, .int .u8 f5, .int .u8 f6, .int .u8 f7, .slice a tl tc, .int .i64 wd, .bool p], .agg #[.int .i64 s, .int .u8 t0, .int .u8 t1, .int .u8 t2, .int .u8 t3, .int .u8 t4, .int .u8 t5, .int .u8 t6, .int .u8 t7, .int .u8 f0, .int .u8 f1, .int .u8 f2, .int .u8 f3, .int .u8 f4, .int .u8 f5, .int .u8 f6, .int .u8 f7, .slice b tl uc, .int .i64 wd, .bool p]] w (.bool true) := by
  have hq1 : ∀ w, (Op.equalIn 10000 30 (.agg #[.int .u8 t0, .int .u8 t1, .int .u8 t2, .int .u8 t3, .int .u8 t4, .int .u8 t5, .int .u8 t6, .int .u8 t7]) (.agg #[.int .u8 t0, .int .u8 t1, .int .u8 t2, .int .u8 t3, .int .u8 t4, .int .u8 t5, .int .u8 t6, .int .u8 t7])).run Try.prog w = .ok true w := fun w => by
    have h := eqin_two w 9998 30 8 Try.underlying30 [t0, t1, t2, t3, t4, t5, t6, t7] [t0, t1, t2, t3, t4, t5, t6, t7] rfl rfl hwt hwt
    rw [beq_self_eq_true] at h; exact h
  have hq2 : ∀ w, (Op.equalIn 10000 30 (.agg #[.int .u8 f0, .int .u8 f1, .int .u8 f2, .int .u8 f3, .int .u8 f4, .int .u8 f5, .int .u8 f6, .int .u8 f7]) (.agg #[.int .u8 f0, .int .u8 f1, .int .u8 f2, .int .u8 f3, .int .u8 f4, .int .u8 f5, .int .u8 f6, .int .u8 f7])).run Try.prog w = .ok true w := fun w => by
    have h := eqin_two w 9998 30 8 Try.underlying30 [f0, f1, f2, f3, f4, f5, f6, f7] [f0, f1, f2, f3, f4, f5, f6, f7] rfl rfl hwf hwf
    rw [beq_self_eq_true] at h; exact h
  have HQ1 := Lib.hid hq1; have HQ2 := Lib.hid hq2; have HIA := Lib.hid hIa; have HIB := Lib.hid hIb
  clear hq1 hq2 hIa hIb hwt hwf
  go_enter Try.func13, Try.ntmps13
  go_upto_region 1 with fail
  have hb1 := (Below.refl w.heap.size w).alloc (Nat.le_refl _) (.cells #[.int .i64 s, .int .u8 t0, .int .u8 t1, .int .u8 t2, .int .u8 t3, .int .u8 t4, .int .u8 t5, .int .u8 t6, .int .u8 t7, .int .u8 f0, .int .u8 f1, .int .u8 f2, .int .u8 f3, .int .u8 f4, .int .u8 f5, .int .u8 f6, .int .u8 f7, .slice a tl tc, .int .i64 wd, .bool p] 32)
  have hr1 := heap_alloc_new w (.cells #[.int .i64 s, .int .u8 t0, .int .u8 t1, .int .u8 t2, .int .u8 t3, .int .u8 t4, .int .u8 t5, .int .u8 t6, .int .u8 t7, .int .u8 f0, .int .u8 f1, .int .u8 f2, .int .u8 f3, .int .u8 f4, .int .u8 f5, .int .u8 f6, .int .u8 f7, .slice a tl tc, .int .i64 wd, .bool p] 32)
  have hs1 : (w.alloc (.cells #[.int .i64 s, .int .u8 t0, .int .u8 t1, .int .u8 t2, .int .u8 t3, .int .u8 t4, .int .u8 t5, .int .u8 t6, .int .u8 t7, .int .u8 f0, .int .u8 f1, .int .u8 f2, .int .u8 f3, .int .u8 f4, .int .u8 f5, .int .u8 f6, .int .u8 f7, .slice a tl tc, .int .i64 wd, .bool p] 32)).heap.size = w.heap.size + 1 := by simp
  generalize w.alloc (.cells #[.int .i64 s, .int .u8 t0, .int .u8 t1, .int .u8 t2, .int .u8 t3, .int .u8 t4, .int .u8 t5, .int .u8 t6, .int .u8 t7, .int .u8 f0, .int .u8 f1, .int .u8 f2, .int .u8 f3, .int .u8 f4, .int .u8 f5, .int .u8 f6, .int .u8 f7, .slice a tl tc, .int .i64 wd, .bool p] 32) = w1 at hb1 hr1 hs1 ⊢
  have hb2 := (Below.refl w1.heap.size w1).alloc (Nat.le_refl _) (.cells #[.int .i64 s, .int .u8 t0, .int .u8 t1, .int .u8 t2, .int .u8 t3, .int .u8 t4, .int .u8 t5, .int .u8 t6, .int .u8 t7, .int .u8 f0, .int .u8 f1, .int .u8 f2, .int .u8 f3, .int .u8 f4, .int .u8 f5, .int .u8 f6, .int .u8 f7, .slice b tl uc, .int .i64 wd, .bool p] 32)
  have hr2 := heap_alloc_new w1 (.cells #[.int .i64 s, .int .u8 t0, .int .u8 t1, .int .u8 t2, .int .u8 t3, .int .u8 t4, .int .u8 t5, .int .u8 t6, .int .u8 t7, .int .u8 f0, .int .u8 f1, .int .u8 f2, .int .u8 f3, .int .u8 f4, .int .u8 f5, .int .u8 f6, .int .u8 f7, .slice b tl uc, .int .i64 wd, .bool p] 32)
  rw [hs1] at hr2
  have HR1 := Lib.hid (bl_row hb2 (lt_of_block hr1) hr1); have HR2 := Lib.hid hr2; have HB := Lib.hid (bl_next hb1 hb1.size hb2)
  clear hr1 hr2 hb1 hb2 hs1
  generalize w1.alloc (.cells #[.int .i64 s, .int .u8 t0, .int .u8 t1, .int .u8 t2, .int .u8 t3, .int .u8 t4, .int .u8 t5, .int .u8 t6, .int .u8 t7, .int .u8 f0, .int .u8 f1, .int .u8 f2, .int .u8 f3, .int .u8 f4, .int .u8 f5, .int .u8 f6, .int .u8 f7, .slice b tl uc, .int .i64 wd, .bool p] 32) = w2 at HR1 HR2 HB ⊢
  obtain ⟨g2, hg2⟩ : ∃ g2, w.heap.size + 1 = g2 := ⟨_, rfl⟩
  rw [hg2] at HR2 ⊢
  clear hg2
  obtain ⟨g1, hg⟩ : ∃ g1, w.heap.size = g1 := ⟨_, rfl⟩
  rw [hg] at HR1 ⊢
  have HG1 := Lib.hid hg
  clear hg
  have hcv1 : (convert 23 9 (.slice a tl tc)).run Try.prog w2 = .ok (.string (strOfNums ks)) w2 := conv_ints _ 5 _ _ Try.underlying23 Try.underlying5 Try.underlying9 (HIA.out.below HB.out)
  have hcv2 : (convert 23 9 (.slice b tl uc)).run Try.prog w2 = .ok (.string (strOfNums ks)) w2 := conv_ints _ 5 _ _ Try.underlying23 Try.underlying5 Try.underlying9 (HIB.out.below HB.out)
  obtain ⟨STR, hSTR⟩ : ∃ x, strOfNums ks = x := ⟨_, rfl⟩
  rw [hSTR] at hcv1 hcv2
  clear hSTR
  have hq1 := HQ1.out w2; have hq2 := HQ2.out w2
  obtain ⟨c0, c1, c2, c3, c4, c5, c6, c7, c8, c9, c10, c11, c12, c13, c14, c15, c16, c17, c18, c19⟩ := row20 HR1.out
  obtain ⟨d0, d1, d2, d3, d4, d5, d6, d7, d8, d9, d10, d11, d12, d13, d14, d15, d16, d17, d18, d19⟩ := row20 HR2.out
  go_wp2_with fail
  (try go_ret)
  first
    | exact ⟨rfl, by have := HG1.out; exact HB.out⟩
    | trace_state
end Go.Proofs.Ythofbckkjcidmaa
