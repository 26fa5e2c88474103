/- hello: greeted. -/
import Derived.Test.YtlpajohhnngbmaaHlo5
import Derived.Test.YtlpajohhnngbmaaGrow3
namespace Go.Proofs.Ytlpajohhnngbmaa
open Go.RowKit
set_option linter.unusedVariables false
set_option linter.unusedSimpArgs false

theorem zeroPm_ok : zeroPm.ok := ⟨by decide, by decide, by decide, by decide, rfl, by decide⟩
theorem takeM_ok (p : Pm) (id : Int) (x : List Int) (h : p.ok) (hx : ∀ y ∈ x, (Lit.int .u8 y).wf = true) : (takeM p id x).1.ok := by
  have hv := varM_in x false (fun y hy => bounds_u8 (hx y hy))
  have hw : (Lit.int .u64 (varM x false).1).wf = true := wf_u64_of hv.1 (by omega)
  have hl := takeM_len p id x h.len
  unfold takeM at hl ⊢
  split
  · refine ⟨h.wi, h.wd, h.ws, h.wm, by rename_i h0; rw [if_pos h0] at hl; exact hl, fun y hy => ?_⟩
    simp only [splice] at hy
    rcases List.mem_append.1 hy with h1 | h1
    · exact h.wf y (List.mem_of_mem_take h1)
    · rcases List.mem_append.1 h1 with h1 | h1
      · exact hx y (List.mem_of_mem_take h1)
      · exact h.wf y (List.mem_of_mem_drop h1)
  · split
    · exact ⟨hw, h.wd, h.ws, h.wm, h.len, h.wf⟩
    · split
      · exact ⟨h.wi, hw, h.ws, h.wm, h.len, h.wf⟩
      · split
        · exact ⟨h.wi, h.wd, hw, h.wm, h.len, h.wf⟩
        · split
          · exact ⟨h.wi, h.wd, h.ws, hw, h.len, h.wf⟩
          · exact h
theorem varM_mem (bs : List Int) (bad : Bool) : ∀ y ∈ (varM bs bad).2.1, y ∈ bs := by
  unfold varM; split
  · simp
  · intro y hy; exact List.mem_of_mem_drop hy
theorem textM_mem (bs : List Int) (bad : Bool) : (∀ y ∈ (textM bs bad).1, y ∈ bs) ∧ (∀ y ∈ (textM bs bad).2.1, y ∈ bs) := by
  unfold textM
  split
  · simp
  · unfold rdM
    split
    · simp
    · exact ⟨fun y hy => varM_mem _ _ y (List.mem_of_mem_take hy), fun y hy => varM_mem _ _ y (List.mem_of_mem_drop hy)⟩
theorem decM_ok : ∀ (k : Nat) (bs : List Int) (p : Pm) (came : List Int), p.ok → (∀ y ∈ bs, (Lit.int .u8 y).wf = true) → ∀ q c, decM k bs p came = some (q, c) → q.ok
  | k, [], p, came, hp, _, q, c, h => by
    have h2 : decM k [] p came = some (p, came) := by unfold decM; rfl
    rw [h2] at h; injection h with h; injection h with h1 h2; subst h1; exact hp
  | 0, _ :: _, p, came, _, _, q, c, h => by simp [decM] at h
  | k + 1, b :: bs, p, came, hp, hb, q, c, h => by
    have hv : ∀ y ∈ (varM (b :: bs) false).2.1, (Lit.int .u8 y).wf = true := fun y hy => hb y (varM_mem _ _ y hy)
    have ht := textM_mem (varM (b :: bs) false).2.1 (varM (b :: bs) false).2.2
    unfold decM at h
    simp only at h
    split at h
    · cases h
    · split at h
      · exact decM_ok k _ _ _ (takeM_ok p _ _ hp (fun y hy => hv y (ht.1 y hy))) (fun y hy => hv y (ht.2 y hy)) q c h
      · cases h
theorem decF_ok (bs : List Int) (hb : ∀ y ∈ bs, (Lit.int .u8 y).wf = true) : (decF bs).1.ok := by
  unfold decF
  split
  · exact zeroPm_ok
  · rename_i p came h
    split
    · exact decM_ok _ _ _ _ zeroPm_ok hb _ _ h
    · exact zeroPm_ok

theorem Off.grown {w y z : World} {p : Nat} (h : Off [p] w y) (hg : y.grownBy z (some p)) : Off [p] w z :=
  h.trans (N := [p]) ⟨hg.os, hg.tape, hg.output, hg.size, fun i hi hm => hg.block i hi (by intro e; injection e with e; exact hm (by simp [e]))⟩ (fun x hx => .inl hx)
theorem pm_one (p : Pm) : ∀ v ∈ p.row, v.oneCell' = true := by
  intro v hv
  unfold Pm.row at hv
  rcases List.mem_append.1 hv with h | h
  · simp only [List.mem_cons, List.not_mem_nil, or_false] at h
    rcases h with rfl | rfl | rfl | rfl <;> rfl
  · obtain ⟨x, _, rfl⟩ := List.mem_map.1 h; rfl
def sdHead (s : Sd) (v0 v1 u0 u1 : Value) : List Value := [.bool s.asks, .int .u64 s.psk, v0, v1, u0, u1, .bool s.h0, .bool s.h1, .int .u64 s.sh, .bool s.knows, .bool s.done]
theorem sdRow_eq (s : Sd) (v0 v1 u0 u1 : Value) : sdRow s v0 v1 u0 u1 = sdHead s v0 v1 u0 u1 ++ (s.th.row ++ [.int .i64 s.code]) := rfl
set_option maxRecDepth 100000 in
set_option maxHeartbeats 8000000 in
theorem greeted_r3 {x0 x2 x3 x4 x5 x6 x7 x8 x9 x10 x11 x12 x13 x14 x15 x16 x17 x18 x19 x20 x21 x22 x23 x24 x25 x26 x27 x28 x29 x30 x31 x32 x33 x34 x35 x36 x37 x38 x39 x40 x41 x42 x43 x44 x45 x46 x47 x48 x49 x50 x51 x52 x53 x54 x55 x56 x57 x58 x59 x60 x61 x62 x63 x64 x65 x66 x67 x68 x69 x70 x71 x72 x73 x74 x75 x76 : Value} {ga go len cap : Nat} {bs : List Int} {D : List Value} {er : Int} (w : World) {Q : Exit → Act → World → Prop}
    (h11 : 11 ≤ len) (hlc : len ≤ cap) (hlen : len ≤ 100000) (HI : Hid (IntsK .u8 w (some ⟨ga, go, none⟩) len bs)) (HDL : Hid (D.length = 12)) (HDO : Hid (∀ v ∈ D, v.oneCell' = true)) (HDV : Hid ((decF (bs.drop 11)).1.val = .agg D.toArray)) (HER : Hid (pcode (decF (bs.drop 11)).2 = er))
    (hQp : ∀ c a d v w, Q (.panic c) (a.put d v) w → Q (.panic c) a w)
    (hQ : ∀ (y10 y11 y12 y13 y14 y15 : Value) (gq : Nat) (w' : World), Below w.heap.size w w' → w'.heap[gq]? = some (.cells D.toArray 26 (0, 0)) → w.heap.size ≤ gq → Q .normal ⟨List.toArray (x0 :: .slice (some ⟨ga, go, none⟩) len cap :: x2 :: x3 :: x4 :: .pointer (some ⟨gq, 0, none⟩) :: .int .i64 er :: x7 :: x8 :: x9 :: y10 :: y11 :: y12 :: y13 :: y14 :: y15 :: x16 :: x17 :: x18 :: x19 :: x20 :: x21 :: x22 :: x23 :: x24 :: x25 :: x26 :: x27 :: x28 :: x29 :: x30 :: x31 :: x32 :: x33 :: x34 :: x35 :: x36 :: x37 :: x38 :: x39 :: x40 :: x41 :: x42 :: x43 :: x44 :: x45 :: x46 :: x47 :: x48 :: x49 :: x50 :: x51 :: x52 :: x53 :: x54 :: x55 :: x56 :: x57 :: x58 :: x59 :: x60 :: x61 :: x62 :: x63 :: x64 :: x65 :: x66 :: x67 :: x68 :: x69 :: x70 :: x71 :: x72 :: x73 :: x74 :: x75 :: x76 :: []), []⟩ w') :
    Code.wp Try.prog (((Try.f39.body.bind (subRegion 3)).getD .skip)) Q ⟨List.toArray (x0 :: .slice (some ⟨ga, go, none⟩) len cap :: x2 :: x3 :: x4 :: x5 :: x6 :: x7 :: x8 :: x9 :: x10 :: x11 :: x12 :: x13 :: x14 :: x15 :: x16 :: x17 :: x18 :: x19 :: x20 :: x21 :: x22 :: x23 :: x24 :: x25 :: x26 :: x27 :: x28 :: x29 :: x30 :: x31 :: x32 :: x33 :: x34 :: x35 :: x36 :: x37 :: x38 :: x39 :: x40 :: x41 :: x42 :: x43 :: x44 :: x45 :: x46 :: x47 :: x48 :: x49 :: x50 :: x51 :: x52 :: x53 :: x54 :: x55 :: x56 :: x57 :: x58 :: x59 :: x60 :: x61 :: x62 :: x63 :: x64 :: x65 :: x66 :: x67 :: x68 :: x69 :: x70 :: x71 :: x72 :: x73 :: x74 :: x75 :: x76 :: []), []⟩ w := by
  have HK := Lib.hid hQ; have HKP := Lib.hid hQp
  clear hQ hQp
  conv => arg 2; whnf
  have E1 : (11 : Int) ≤ (len : Int) := by omega
  have E2 : (11 : Int) ≤ (cap : Int) := by omega
  by_cases hz : cap = 11
  · skip
    obtain rfl : len = 11 := by omega
    subst hz
    have hd : bs.drop 11 = [] := List.drop_of_length_le (by rw [HI.out.1]; exact Nat.le_refl _)
    rw [hd] at HDV HER
    have HDC := Lib.hid (fun W (hb : Below w.heap.size w W) => pdecode_any W (some ⟨ga, go, none⟩) 0 0 [] (by omega) (IntsK.nil _ _ _))
    rw [HDV.out, HER.out] at HDC
    have HB := Lib.hid (Below.refl w.heap.size w)
    go_wp2_with fail
    refine Calls.mono (HDC.out _ HB.out) ?_
    rintro e w1 ⟨rfl, hb⟩
    replace HB := Lib.hid (bl_next HB.out HB.out.size hb)
    clear hb HDC
    have HSZ := Lib.hid HB.out.size
    have HE := Lib.hid (Below.refl w.heap.size w)
    go_wp2_with (first | (refine wpList_store_row rfl 26 _ _ rfl _ rfl D (.int .u64 0 :: .int .u64 0 :: .int .u64 0 :: .int .u64 0 :: .int .u8 0 :: .int .u8 0 :: .int .u8 0 :: .int .u8 0 :: .int .u8 0 :: .int .u8 0 :: .int .u8 0 :: .int .u8 0 :: []) rfl 26 (heap_alloc_new _ _) (by rw [HDL.out]; rfl) (by rw [HDL.out]; rfl) HDO.out ?_; intro wst1 hr hg) | fail)
    have hal := (Below.refl w1.heap.size w1).alloc (Nat.le_refl _) (.cells ((.int .u64 0 :: .int .u64 0 :: .int .u64 0 :: .int .u64 0 :: .int .u8 0 :: .int .u8 0 :: .int .u8 0 :: .int .u8 0 :: .int .u8 0 :: .int .u8 0 :: .int .u8 0 :: .int .u8 0 :: [])).toArray 26)
    have hb : Below w1.heap.size w1 wst1 := hal.grown hg hal.size (by intro k hk; injection hk with hk; omega)
    exact HK.out _ _ _ _ _ _ _ _ (bl_next HB.out HB.out.size hb) hr HSZ.out
  · skip
    have E3 : cap ≠ 11 := hz
    have HDC := Lib.hid (fun W (hb : Below w.heap.size w W) => pdecode_any W (some ⟨ga, go + 11, none⟩) (len - 11) (cap - 11) (bs.drop 11) (by omega) ((HI.out.suf 11 h11).below hb))
    rw [HDV.out, HER.out] at HDC
    have HB := Lib.hid (Below.refl w.heap.size w)
    go_wp2_with fail
    refine Calls.mono (HDC.out _ HB.out) ?_
    rintro e w1 ⟨rfl, hb⟩
    replace HB := Lib.hid (bl_next HB.out HB.out.size hb)
    clear hb HDC
    have HSZ := Lib.hid HB.out.size
    have HE := Lib.hid (Below.refl w.heap.size w)
    go_wp2_with (first | (refine wpList_store_row rfl 26 _ _ rfl _ rfl D (.int .u64 0 :: .int .u64 0 :: .int .u64 0 :: .int .u64 0 :: .int .u8 0 :: .int .u8 0 :: .int .u8 0 :: .int .u8 0 :: .int .u8 0 :: .int .u8 0 :: .int .u8 0 :: .int .u8 0 :: []) rfl 26 (heap_alloc_new _ _) (by rw [HDL.out]; rfl) (by rw [HDL.out]; rfl) HDO.out ?_; intro wst0 hr hg) | fail)
    have hal := (Below.refl w1.heap.size w1).alloc (Nat.le_refl _) (.cells ((.int .u64 0 :: .int .u64 0 :: .int .u64 0 :: .int .u64 0 :: .int .u8 0 :: .int .u8 0 :: .int .u8 0 :: .int .u8 0 :: .int .u8 0 :: .int .u8 0 :: .int .u8 0 :: .int .u8 0 :: [])).toArray 26)
    have hb : Below w1.heap.size w1 wst0 := hal.grown hg hal.size (by intro k hk; injection hk with hk; omega)
    exact HK.out _ _ _ _ _ _ _ _ (bl_next HB.out HB.out.size hb) hr HSZ.out
end Go.Proofs.Ytlpajohhnngbmaa
