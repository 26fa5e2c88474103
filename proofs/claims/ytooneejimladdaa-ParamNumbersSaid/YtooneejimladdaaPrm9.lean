/- chapter 6's walks: encodes, decodes. -/
import Derived.Test.YtooneejimladdaaPrm5
import Derived.Test.YtooneejimladdaaPrm8
namespace Go.Proofs.Ytooneejimladdaa
open Go.RowKit
set_option linter.unusedVariables false

theorem eqin_same (w : World) (d t n : Nat) (ht : Try.prog.underlying t = some (.array n 5)) (xs : List Int) (hx : xs.length = n) (wx : ∀ x ∈ xs, (Lit.int .u8 x).wf = true) :
    (Op.equalIn (d + 2) t (.agg (xs.map (Value.int .u8)).toArray) (.agg (xs.map (Value.int .u8)).toArray)).run Try.prog w = .ok true w := by
  have h := run_equalIn_bytes (P := Try.prog) w d t 5 n ht Try.underlying5 sizeU8 (xs.map toU) (xs.map toU) (by simp [hx]) (by simp [hx])
  rw [map_toU wx, toU_inj wx wx, beq_self_eq_true] at h
  exact h
def decP (bs : List Int) : Pm := (decF bs).1
theorem zeroPm_ok : zeroPm.ok := ⟨by decide, by decide, by decide, by decide, rfl, by decide⟩
theorem takeM_ok (p : Pm) (id : Int) (x : List Int) (h : p.ok) (hx : ∀ y ∈ x, (Lit.int .u8 y).wf = true) : (takeM p id x).1.ok := by
  have hv := varM_in x false (fun y hy => bounds_u8 (hx y hy))
  have hw : (Lit.int .u64 (varM x false).1).wf = true := wf_u64_of hv.1 (by omega)
  have hl := takeM_len p id x h.len
  unfold takeM at hl ⊢
  split
  · refine ⟨h.wi, h.wd, h.ws, h.wm, by rename_i h0; rw [if_pos h0] at hl; exact hl, fun y hy => ?_⟩
    simp only [splice] at hy
    rcases List.mem_append.1 hy with h1 | h1
    · exact h.wf y (List.mem_of_mem_take h1)
    · rcases List.mem_append.1 h1 with h1 | h1
      · exact hx y (List.mem_of_mem_take h1)
      · exact h.wf y (List.mem_of_mem_drop h1)
  · split
    · exact ⟨hw, h.wd, h.ws, h.wm, h.len, h.wf⟩
    · split
      · exact ⟨h.wi, hw, h.ws, h.wm, h.len, h.wf⟩
      · split
        · exact ⟨h.wi, h.wd, hw, h.wm, h.len, h.wf⟩
        · split
          · exact ⟨h.wi, h.wd, h.ws, hw, h.len, h.wf⟩
          · exact h
theorem varM_mem (bs : List Int) (bad : Bool) : ∀ y ∈ (varM bs bad).2.1, y ∈ bs := by
  unfold varM; split
  · simp
  · intro y hy; exact List.mem_of_mem_drop hy
theorem textM_mem (bs : List Int) (bad : Bool) : (∀ y ∈ (textM bs bad).1, y ∈ bs) ∧ (∀ y ∈ (textM bs bad).2.1, y ∈ bs) := by
  unfold textM
  split
  · simp
  · unfold rdM
    split
    · simp
    · exact ⟨fun y hy => varM_mem _ _ y (List.mem_of_mem_take hy), fun y hy => varM_mem _ _ y (List.mem_of_mem_drop hy)⟩
theorem decM_ok : ∀ (k : Nat) (bs : List Int) (p : Pm) (came : List Int), p.ok → (∀ y ∈ bs, (Lit.int .u8 y).wf = true) → ∀ q c, decM k bs p came = some (q, c) → q.ok
  | k, [], p, came, hp, _, q, c, h => by
    have h2 : decM k [] p came = some (p, came) := by unfold decM; rfl
    rw [h2] at h; injection h with h; injection h with h1 h2; subst h1; exact hp
  | 0, _ :: _, p, came, _, _, q, c, h => by simp [decM] at h
  | k + 1, b :: bs, p, came, hp, hb, q, c, h => by
    have hv : ∀ y ∈ (varM (b :: bs) false).2.1, (Lit.int .u8 y).wf = true := fun y hy => hb y (varM_mem _ _ y hy)
    have ht := textM_mem (varM (b :: bs) false).2.1 (varM (b :: bs) false).2.2
    unfold decM at h
    simp only at h
    split at h
    · cases h
    · split at h
      · exact decM_ok k _ _ _ (takeM_ok p _ _ hp (fun y hy => hv y (ht.1 y hy))) (fun y hy => hv y (ht.2 y hy)) q c h
      · cases h
theorem decF_ok (bs : List Int) (hb : ∀ y ∈ bs, (Lit.int .u8 y).wf = true) : (decF bs).1.ok := by
  unfold decF
  split
  · exact zeroPm_ok
  · rename_i p came h
    split
    · exact decM_ok _ _ _ _ zeroPm_ok hb _ _ h
    · exact zeroPm_ok

set_option maxHeartbeats 4000000 in
theorem decodes6_any (w : World) (a : Option Addr) (len cap : Nat) (bs : List Int) (hlen : len ≤ 1000000) (hlc : len ≤ cap) (hcap : cap ≤ 9223372036854775807) (hI : IntsK .u8 w a len bs) :
    Makes Try.prog 10 #[.slice a len cap] w (.bool true) := by
  have HI := Lib.hid hI
  have hok := decF_ok bs hI.2.1
  have HD := Lib.hid (fun w (h : IntsK .u8 w a len bs) => pdecode_any w a len cap bs hlen h)
  have HRD := Lib.hid (fun w (h : IntsK .u8 w a len bs) => rpdecode_any w a len cap bs hlen hlc hcap h)
  obtain ⟨⟨p, ok⟩, hp⟩ : ∃ r, decF bs = r := ⟨_, rfl⟩
  rw [hp] at hok HD HRD
  simp only at hok HD HRD
  obtain ⟨wi, wd, ws, wm, hl8, wf⟩ := hok
  obtain ⟨i, d, s, m, f⟩ := p
  obtain ⟨y0, y1, y2, y3, y4, y5, y6, y7, rfl⟩ := len8 hl8
  have hq : ∀ w, (Op.equalIn 9999 24 (.agg #[.int .u8 y0, .int .u8 y1, .int .u8 y2, .int .u8 y3, .int .u8 y4, .int .u8 y5, .int .u8 y6, .int .u8 y7]) (.agg #[.int .u8 y0, .int .u8 y1, .int .u8 y2, .int .u8 y3, .int .u8 y4, .int .u8 y5, .int .u8 y6, .int .u8 y7])).run Try.prog w = .ok true w := fun w => eqin_same w 9997 24 8 Try.underlying24 [y0, y1, y2, y3, y4, y5, y6, y7] rfl wf
  have HQ := Lib.hid hq
  have HV : Hid (Pm.val ⟨i, d, s, m, [y0, y1, y2, y3, y4, y5, y6, y7]⟩ = .agg #[.int .u64 i, .int .u64 d, .int .u64 s, .int .u64 m, .int .u8 y0, .int .u8 y1, .int .u8 y2, .int .u8 y3, .int .u8 y4, .int .u8 y5, .int .u8 y6, .int .u8 y7]) := Lib.hid rfl
  rw [HV.out] at HD HRD
  clear hI hp wi wd ws wm hl8 wf hq
  go_enter Try.func10, Try.ntmps10
  go_wp2_with fail
  refine Calls.mono (HD.out _ HI.out) ?_
  rintro e w1 ⟨rfl, hb1⟩
  have HB1 := Lib.hid hb1
  clear hb1
  have hrow := heap_alloc_new w1 (.cells #[.int .u64 i, .int .u64 d, .int .u64 s, .int .u64 m, .int .u8 y0, .int .u8 y1, .int .u8 y2, .int .u8 y3, .int .u8 y4, .int .u8 y5, .int .u8 y6, .int .u8 y7] 26)
  have hbA := (Below.refl w1.heap.size w1).alloc (Nat.le_refl _) (.cells #[.int .u64 i, .int .u64 d, .int .u64 s, .int .u64 m, .int .u8 y0, .int .u8 y1, .int .u8 y2, .int .u8 y3, .int .u8 y4, .int .u8 y5, .int .u8 y6, .int .u8 y7] 26)
  have HRO := Lib.hid hrow; have HBA := Lib.hid hbA
  clear hrow hbA
  have hpc : ok = true ∨ ok = false := by cases ok <;> simp
  go_wp2_with fail
  refine Calls.mono (HRD.out _ (HI.out.below (bl_next HB1.out HB1.out.size HBA.out))) ?_
  generalize w1.alloc (.cells #[.int .u64 i, .int .u64 d, .int .u64 s, .int .u64 m, .int .u8 y0, .int .u8 y1, .int .u8 y2, .int .u8 y3, .int .u8 y4, .int .u8 y5, .int .u8 y6, .int .u8 y7] 26) = W at HRO HBA ⊢
  obtain ⟨g, hg⟩ : ∃ g, w1.heap.size = g := ⟨_, rfl⟩
  rw [hg] at HRO ⊢
  have HG := Lib.hid hg
  clear hg
  rintro e w2 ⟨rfl, hb2⟩
  have HL2 := Lib.hid (bl_next (bl_next HB1.out HB1.out.size HBA.out) (Nat.le_trans HB1.out.size HBA.out.size) hb2)
  have HR2 := Lib.hid (bl_row hb2 (lt_of_block HRO.out) HRO.out)
  have hgl := lt_of_block HR2.out
  have hrowB := heap_alloc_new w2 (.cells #[.int .u64 i, .int .u64 d, .int .u64 s, .int .u64 m, .int .u8 y0, .int .u8 y1, .int .u8 y2, .int .u8 y3, .int .u8 y4, .int .u8 y5, .int .u8 y6, .int .u8 y7] 26)
  have hbB := (Below.refl w2.heap.size w2).alloc (Nat.le_refl _) (.cells #[.int .u64 i, .int .u64 d, .int .u64 s, .int .u64 m, .int .u8 y0, .int .u8 y1, .int .u8 y2, .int .u8 y3, .int .u8 y4, .int .u8 y5, .int .u8 y6, .int .u8 y7] 26)
  have HR2B := Lib.hid (bl_row hbB hgl HR2.out); have HRB := Lib.hid hrowB; have HLB := Lib.hid (bl_next HL2.out HL2.out.size hbB)
  clear hb2 hrowB hbB HBA HB1 HRO HR2 HL2
  go_upto_region 3 with fail
  generalize w2.alloc (.cells #[.int .u64 i, .int .u64 d, .int .u64 s, .int .u64 m, .int .u8 y0, .int .u8 y1, .int .u8 y2, .int .u8 y3, .int .u8 y4, .int .u8 y5, .int .u8 y6, .int .u8 y7] 26) = W3 at HR2B HRB HLB ⊢
  generalize w2.heap.size = g2 at HRB ⊢
  obtain ⟨c0, c1, c2, c3, c4, c5, c6, c7, c8, c9, c10, c11⟩ := row12 HR2B.out
  obtain ⟨d0, d1, d2, d3, d4, d5, d6, d7, d8, d9, d10, d11⟩ := row12 HRB.out
  have hq := HQ.out
  rcases hpc with rfl | rfl
  · have hpc1 : pcode true = 0 := rfl
    rw [hpc1]
    clear hpc1
    go_wp2_with fail
    go_ret
    exact ⟨rfl, HLB.out⟩
  · have hpc1 : pcode false = 12 := rfl
    rw [hpc1]
    clear hpc1
    go_wp2_with fail
    go_ret
    exact ⟨rfl, HLB.out⟩
end Go.Proofs.Ytooneejimladdaa
