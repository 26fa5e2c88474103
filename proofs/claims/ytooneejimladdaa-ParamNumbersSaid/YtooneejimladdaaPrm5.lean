/- params: contract of the reference's Decode. -/
import Derived.Test.YtooneejimladdaaPrm4
namespace Go.Proofs.Ytooneejimladdaa
open Go.RowKit
set_option linter.unusedVariables false

def camB (came : List Int) (j : Int) : Value := .bool (decide (j ∈ came))
def camRow (came : List Int) : List Value := [camB came 0, camB came 1, .bool false, .bool false, camB came 4, camB came 5, .bool false, .bool false, camB came 8]
theorem camB_add (came : List Int) (j id : Int) : camB (came ++ [id]) j = if j = id then .bool true else camB came j := by
  unfold camB
  by_cases h : j = id
  · rw [if_pos h]; subst h; simp
  · rw [if_neg h]; congr 1; simp [h]
theorem camRow_none (came : List Int) (id : Int) (h0 : id ≠ 0) (h1 : id ≠ 1) (h4 : id ≠ 4) (h5 : id ≠ 5) (h8 : id ≠ 8) : camRow (came ++ [id]) = camRow came := by
  unfold camRow
  rw [camB_add, camB_add, camB_add, camB_add, camB_add, if_neg (Ne.symm h0), if_neg (Ne.symm h1), if_neg (Ne.symm h4), if_neg (Ne.symm h5), if_neg (Ne.symm h8)]
theorem numOk_iff (x : List Int) : numOk x = true ↔ getS x = x.length ∧ getS x ≠ 0 := by
  unfold numOk varM
  have hl := getS_le x
  by_cases h : getS x = 0
  · rw [if_pos (.inr h)]; simp [h]
  · rw [if_neg (by simp [h])]; simp [h]; omega
theorem varM_n (x : List Int) (h : getS x ≠ 0) : (varM x false).1 = getN x := by unfold varM; rw [if_neg (by simp [h])]

set_option maxRecDepth 100000 in
set_option maxHeartbeats 8000000 in
theorem rpdecode_any (w : World) (a : Option Addr) (len cap : Nat) (bs : List Int) (hlen : len ≤ 1000000) (hlc : len ≤ cap) (hcap : cap ≤ 9223372036854775807) (hI : IntsK .u8 w a len bs) :
    Calls Try.prog 21 #[.slice a len cap] w fun e w' => e = .returned (.tuple #[(decF bs).1.val, .bool (decF bs).2]) ∧ Below w.heap.size w w' := by
  have HI := Lib.hid hI
  have hl0 := hI.1
  have HF : Hid (decF bs = decC (decM bs.length bs zeroPm [])) := Lib.hid rfl
  clear hI
  go_enter Try.func21, Try.ntmps21
  go_wp2_with fail
  have h1 := heap_alloc_new w (.cells #[.int .u64 0, .int .u64 0, .int .u64 0, .int .u64 0, .int .u8 0, .int .u8 0, .int .u8 0, .int .u8 0, .int .u8 0, .int .u8 0, .int .u8 0, .int .u8 0] 26)
  have b1 := (Below.refl w.heap.size w).alloc (Nat.le_refl _) (.cells #[.int .u64 0, .int .u64 0, .int .u64 0, .int .u64 0, .int .u8 0, .int .u8 0, .int .u8 0, .int .u8 0, .int .u8 0, .int .u8 0, .int .u8 0, .int .u8 0] 26)
  have s1 : (w.alloc (.cells #[.int .u64 0, .int .u64 0, .int .u64 0, .int .u64 0, .int .u8 0, .int .u8 0, .int .u8 0, .int .u8 0, .int .u8 0, .int .u8 0, .int .u8 0, .int .u8 0] 26)).heap.size = w.heap.size + 1 := by simp
  generalize w.alloc (.cells #[.int .u64 0, .int .u64 0, .int .u64 0, .int .u64 0, .int .u8 0, .int .u8 0, .int .u8 0, .int .u8 0, .int .u8 0, .int .u8 0, .int .u8 0, .int .u8 0] 26) = wa at h1 b1 s1 ⊢
  have h2 := heap_alloc_new wa (.cells #[.slice a len cap, .bool false] 71)
  have b2 := (Below.refl wa.heap.size wa).alloc (Nat.le_refl _) (.cells #[.slice a len cap, .bool false] 71)
  have s2 : (wa.alloc (.cells #[.slice a len cap, .bool false] 71)).heap.size = w.heap.size + 1 + 1 := by simp [s1]
  generalize wa.alloc (.cells #[.slice a len cap, .bool false] 71) = wb at h2 b2 s2 ⊢
  have h3 := heap_alloc_new wb (.cells #[.int .u64 0, .int .u64 0, .int .u64 0, .int .u64 0, .int .u8 0, .int .u8 0, .int .u8 0, .int .u8 0, .int .u8 0, .int .u8 0, .int .u8 0, .int .u8 0] 26)
  have b3 := (Below.refl wb.heap.size wb).alloc (Nat.le_refl _) (.cells #[.int .u64 0, .int .u64 0, .int .u64 0, .int .u64 0, .int .u8 0, .int .u8 0, .int .u8 0, .int .u8 0, .int .u8 0, .int .u8 0, .int .u8 0, .int .u8 0] 26)
  have s3 : (wb.alloc (.cells #[.int .u64 0, .int .u64 0, .int .u64 0, .int .u64 0, .int .u8 0, .int .u8 0, .int .u8 0, .int .u8 0, .int .u8 0, .int .u8 0, .int .u8 0, .int .u8 0] 26)).heap.size = w.heap.size + 1 + 1 + 1 := by simp [s2]
  generalize wb.alloc (.cells #[.int .u64 0, .int .u64 0, .int .u64 0, .int .u64 0, .int .u8 0, .int .u8 0, .int .u8 0, .int .u8 0, .int .u8 0, .int .u8 0, .int .u8 0, .int .u8 0] 26) = wc at h3 b3 s3 ⊢
  have h4 := heap_alloc_new wc (.cells #[.bool false, .bool false, .bool false, .bool false, .bool false, .bool false, .bool false, .bool false, .bool false] 72)
  have b4 := (Below.refl wc.heap.size wc).alloc (Nat.le_refl _) (.cells #[.bool false, .bool false, .bool false, .bool false, .bool false, .bool false, .bool false, .bool false, .bool false] 72)
  have s4 : (wc.alloc (.cells #[.bool false, .bool false, .bool false, .bool false, .bool false, .bool false, .bool false, .bool false, .bool false] 72)).heap.size = w.heap.size + 1 + 1 + 1 + 1 := by simp [s3]
  generalize wc.alloc (.cells #[.bool false, .bool false, .bool false, .bool false, .bool false, .bool false, .bool false, .bool false, .bool false] 72) = W at h4 b4 s4 ⊢
  rw [s1] at h2 b2; rw [s2] at h3 b3; rw [s3] at h4 b4
  have hW : Below w.heap.size w W := (((b1.trans (b2.mono (by omega))).trans (b3.mono (by omega))).trans (b4.mono (by omega)))
  have r0 : W.heap[w.heap.size]? = some (.cells zeroPm.row.toArray 26 (0, 0)) := bl_row b4 (by omega) (bl_row b3 (by omega) (bl_row b2 (by omega) h1))
  have r1 : W.heap[w.heap.size + 1]? = some (.cells #[.slice a len cap, .bool false] 71 (0, 0)) := bl_row b4 (by omega) (bl_row b3 (by omega) h2)
  have r2 : W.heap[w.heap.size + 1 + 1]? = some (.cells zeroPm.row.toArray 26 (0, 0)) := bl_row b4 (by omega) h3
  have r3 : W.heap[w.heap.size + 1 + 1 + 1]? = some (.cells (camRow []).toArray 72 (0, 0)) := h4
  have rd : Rd w W 0 (w.heap.size + 1) 71 bs false := ⟨by omega, fun i _ hi => hW.block i hi, by omega, a, len, cap, r1, hlc, hcap, HI.out, fun _ _ => Nat.zero_le _⟩
  obtain ⟨g0, hg0⟩ : ∃ g0, w.heap.size = g0 := ⟨_, rfl⟩
  rw [hg0] at r0 r1 r2 r3 rd ⊢
  have HGZ := Lib.hid hg0
  obtain ⟨pr, hpr⟩ : ∃ pr, g0 + 1 = pr := ⟨_, rfl⟩
  rw [hpr] at r1 r2 r3 rd ⊢
  obtain ⟨g, hg⟩ : ∃ g, pr + 1 = g := ⟨_, rfl⟩
  rw [hg] at r2 r3 ⊢
  obtain ⟨gc, hgc⟩ : ∃ gc, g + 1 = gc := ⟨_, rfl⟩
  rw [hgc] at r3 ⊢
  have h01 : g0 < pr := by omega
  have h12 : pr < g := by omega
  have h23 : g < gc := by omega
  have HL := Lib.hid hW; have HR0 := Lib.hid r0; have HR := Lib.hid rd; have HP := Lib.hid r2; have HC := Lib.hid r3
  clear h1 b1 s1 h2 b2 s2 h3 b3 s3 h4 b4 s4 hW r0 r1 r2 r3 rd hg0 hpr hg hgc
  obtain ⟨D, hD⟩ : ∃ D, decM bs.length bs zeroPm [] = D := ⟨_, rfl⟩
  rw [hD] at HF
  have HD := Lib.hid hD; clear hD
  go_wp2_with fail
  go_loopg [] bs.length (fun gm wr => ∃ (ys : List Int) (bad : Bool) (p : Pm) (came : List Int), ys.length ≤ gm ∧ gm ≤ 1000000 ∧ p.f.length = 8 ∧ Hid ((bad = false ∧ decM gm ys p came = D) ∨ (bad = true ∧ D = none)) ∧ Hid (Below w.heap.size w wr) ∧
    Hid (wr.heap[g0]? = some (.cells zeroPm.row.toArray 26 (0, 0))) ∧ Hid (wr.heap[g]? = some (.cells p.row.toArray 26 (0, 0))) ∧ Hid (wr.heap[gc]? = some (.cells (camRow came).toArray 72 (0, 0))) ∧ Hid (Rd w wr 0 pr 71 ys bad))
  case atStart => exact ⟨bs, false, zeroPm, [], Nat.le_refl _, by omega, rfl, Lib.hid (.inl ⟨rfl, HD.out⟩), HL, HR0, HP, HC, HR⟩
  case round =>
    clear HD HL HR0 HP HC HR
    obtain ⟨ys, bad, p, came, hyk, hkc, hpf, HDD, HL, HR0, HP, HC, HR⟩ := hrel
    obtain ⟨ra, rn, rc, hrow, hrn, hrc, hri, _⟩ := HR.out.ex
    have q0 : wr.cell? ⟨pr, 0, none⟩ = some (.slice ra rn rc) := row_cell hrow 0 _ rfl
    have q1 : wr.cell? ⟨pr, 1, none⟩ = some (.bool bad) := row_cell hrow 1 _ rfl
    have hrl := hri.1
    clear hrow hri
    cases bad with
    | true =>
      have HE : Hid (D = none) := Lib.hid (by rcases HDD.out with ⟨h, _⟩ | ⟨_, h⟩; cases h; exact h)
      have HFF : Hid (decF bs = (zeroPm, false)) := Lib.hid (by rw [HF.out, HE.out]; rfl)
      obtain ⟨f0, f1, f2, f3, f4, f5, f6, f7, f8, f9, f10, f11⟩ := free12 HR0.out
      obtain ⟨z0, z1, z2, z3, z4, z5, z6, z7, z8, z9, z10, z11⟩ := row12 HR0.out
      by_cases hr0 : rn = 0
      · subst hr0
        go_wp2_with fail
        have hA := set12 HR0.out (.int .u64 0) (.int .u64 0) (.int .u64 0) (.int .u64 0) (.int .u8 0) (.int .u8 0) (.int .u8 0) (.int .u8 0) (.int .u8 0) (.int .u8 0) (.int .u8 0) (.int .u8 0)
        have hge : w.heap.size ≤ g0 := by rw [HGZ.out]; exact Nat.le_refl _
        generalize ((((((((((((wr.setCell ⟨g0, 0, none⟩ (.int .u64 0)).setCell ⟨g0, 1, none⟩ (.int .u64 0)).setCell ⟨g0, 2, none⟩ (.int .u64 0)).setCell ⟨g0, 3, none⟩ (.int .u64 0)).setCell ⟨g0, 4, none⟩ (.int .u8 0)).setCell ⟨g0, 5, none⟩ (.int .u8 0)).setCell ⟨g0, 6, none⟩ (.int .u8 0)).setCell ⟨g0, 7, none⟩ (.int .u8 0)).setCell ⟨g0, 8, none⟩ (.int .u8 0)).setCell ⟨g0, 9, none⟩ (.int .u8 0)).setCell ⟨g0, 10, none⟩ (.int .u8 0)).setCell ⟨g0, 11, none⟩ (.int .u8 0)) = W9 at hA ⊢
        have hrow := hA.row
        have hLZ : Below w.heap.size w W9 := HL.out.grown hA.rest HL.out.size (by intro k hk; injection hk with hk; omega)
        obtain ⟨e0, e1, e2, e3, e4, e5, e6, e7, e8, e9, e10, e11⟩ := row12 hrow
        exact bodyPost_ret (v := .tuple #[.agg #[.int .u64 0, .int .u64 0, .int .u64 0, .int .u64 0, .int .u8 0, .int .u8 0, .int .u8 0, .int .u8 0, .int .u8 0, .int .u8 0, .int .u8 0, .int .u8 0], .bool false]) (by simp [results, Try.results21, go_sem, e0, e1, e2, e3, e4, e5, e6, e7, e8, e9, e10, e11]) rfl ⟨by rw [HFF.out]; rfl, hLZ⟩
      · have hr1 : (0 : Int) < (rn : Nat) := by omega
        go_wp2_with fail
        have hA := set12 HR0.out (.int .u64 0) (.int .u64 0) (.int .u64 0) (.int .u64 0) (.int .u8 0) (.int .u8 0) (.int .u8 0) (.int .u8 0) (.int .u8 0) (.int .u8 0) (.int .u8 0) (.int .u8 0)
        have hge : w.heap.size ≤ g0 := by rw [HGZ.out]; exact Nat.le_refl _
        generalize ((((((((((((wr.setCell ⟨g0, 0, none⟩ (.int .u64 0)).setCell ⟨g0, 1, none⟩ (.int .u64 0)).setCell ⟨g0, 2, none⟩ (.int .u64 0)).setCell ⟨g0, 3, none⟩ (.int .u64 0)).setCell ⟨g0, 4, none⟩ (.int .u8 0)).setCell ⟨g0, 5, none⟩ (.int .u8 0)).setCell ⟨g0, 6, none⟩ (.int .u8 0)).setCell ⟨g0, 7, none⟩ (.int .u8 0)).setCell ⟨g0, 8, none⟩ (.int .u8 0)).setCell ⟨g0, 9, none⟩ (.int .u8 0)).setCell ⟨g0, 10, none⟩ (.int .u8 0)).setCell ⟨g0, 11, none⟩ (.int .u8 0)) = W9 at hA ⊢
        have hrow := hA.row
        have hLZ : Below w.heap.size w W9 := HL.out.grown hA.rest HL.out.size (by intro k hk; injection hk with hk; omega)
        obtain ⟨e0, e1, e2, e3, e4, e5, e6, e7, e8, e9, e10, e11⟩ := row12 hrow
        exact bodyPost_ret (v := .tuple #[.agg #[.int .u64 0, .int .u64 0, .int .u64 0, .int .u64 0, .int .u8 0, .int .u8 0, .int .u8 0, .int .u8 0, .int .u8 0, .int .u8 0, .int .u8 0, .int .u8 0], .bool false]) (by simp [results, Try.results21, go_sem, e0, e1, e2, e3, e4, e5, e6, e7, e8, e9, e10, e11]) rfl ⟨by rw [HFF.out]; rfl, hLZ⟩
    | false =>
      have hdm : decM gk ys p came = D := by rcases HDD.out with ⟨_, h⟩ | ⟨h, _⟩; exact h; cases h
      have HDM := Lib.hid hdm
      clear hdm HDD
      cases ys with
      | nil =>
        have HE : Hid (D = some (p, came)) := Lib.hid (by rw [← HDM.out]; cases gk <;> rfl)
        obtain rfl : rn = 0 := by simpa using hrl.symm
        obtain ⟨i, d, s, m, f⟩ := p
        obtain ⟨y0, y1, y2, y3, y4, y5, y6, y7, rfl⟩ := len8 hpf
        have k0 : wr.cell? ⟨gc, 0, none⟩ = some (camB came 0) := row_cell HC.out 0 _ rfl
        unfold camB at k0
        by_cases h0 : (0 : Int) ∈ came
        · rw [decide_eq_true h0] at k0
          obtain ⟨c0, c1, c2, c3, c4, c5, c6, c7, c8, c9, c10, c11⟩ := row12 HP.out
          have H0 := Lib.hid h0
          clear h0
          go_wp2_with fail
          refine Calls.mono (rright_any _ ⟨i, d, s, m, [y0, y1, y2, y3, y4, y5, y6, y7]⟩ rfl) ?_
          rintro e w5 ⟨rfl, hb5⟩
          have HP5 := Lib.hid (bl_row hb5 (lt_of_block HP.out) HP.out)
          have HR5 := Lib.hid (bl_row hb5 (lt_of_block HR0.out) HR0.out)
          have HL5 := Lib.hid (bl_next HL.out HL.out.size hb5)
          clear c0 c1 c2 c3 c4 c5 c6 c7 c8 c9 c10 c11 hb5 HP HR0 HL
          obtain ⟨f0, f1, f2, f3, f4, f5, f6, f7, f8, f9, f10, f11⟩ := free12 HR5.out
          obtain ⟨z0, z1, z2, z3, z4, z5, z6, z7, z8, z9, z10, z11⟩ := row12 HR5.out
          by_cases hrt : rightM ⟨i, d, s, m, [y0, y1, y2, y3, y4, y5, y6, y7]⟩ = true
          · have HFF : Hid (decF bs = (⟨i, d, s, m, [y0, y1, y2, y3, y4, y5, y6, y7]⟩, true)) := Lib.hid (by rw [HF.out, HE.out]; unfold decC; exact if_pos ⟨H0.out, hrt⟩)
            obtain ⟨c0, c1, c2, c3, c4, c5, c6, c7, c8, c9, c10, c11⟩ := row12 HP5.out
            rw [hrt]
            clear hrt
            go_wp2_with fail
            have hA := set12 HR5.out (.int .u64 i) (.int .u64 d) (.int .u64 s) (.int .u64 m) (.int .u8 y0) (.int .u8 y1) (.int .u8 y2) (.int .u8 y3) (.int .u8 y4) (.int .u8 y5) (.int .u8 y6) (.int .u8 y7)
            have hge : w.heap.size ≤ g0 := by rw [HGZ.out]; exact Nat.le_refl _
            generalize ((((((((((((w5.setCell ⟨g0, 0, none⟩ (.int .u64 i)).setCell ⟨g0, 1, none⟩ (.int .u64 d)).setCell ⟨g0, 2, none⟩ (.int .u64 s)).setCell ⟨g0, 3, none⟩ (.int .u64 m)).setCell ⟨g0, 4, none⟩ (.int .u8 y0)).setCell ⟨g0, 5, none⟩ (.int .u8 y1)).setCell ⟨g0, 6, none⟩ (.int .u8 y2)).setCell ⟨g0, 7, none⟩ (.int .u8 y3)).setCell ⟨g0, 8, none⟩ (.int .u8 y4)).setCell ⟨g0, 9, none⟩ (.int .u8 y5)).setCell ⟨g0, 10, none⟩ (.int .u8 y6)).setCell ⟨g0, 11, none⟩ (.int .u8 y7)) = W9 at hA ⊢
            have hrow := hA.row
            have hLZ : Below w.heap.size w W9 := HL5.out.grown hA.rest HL5.out.size (by intro k hk; injection hk with hk; omega)
            obtain ⟨e0, e1, e2, e3, e4, e5, e6, e7, e8, e9, e10, e11⟩ := row12 hrow
            exact bodyPost_ret (v := .tuple #[.agg #[.int .u64 i, .int .u64 d, .int .u64 s, .int .u64 m, .int .u8 y0, .int .u8 y1, .int .u8 y2, .int .u8 y3, .int .u8 y4, .int .u8 y5, .int .u8 y6, .int .u8 y7], .bool true]) (by simp [results, Try.results21, go_sem, e0, e1, e2, e3, e4, e5, e6, e7, e8, e9, e10, e11]) rfl ⟨by rw [HFF.out]; rfl, hLZ⟩
          · have hrt' : rightM ⟨i, d, s, m, [y0, y1, y2, y3, y4, y5, y6, y7]⟩ = false := by simpa using hrt
            have HFF : Hid (decF bs = (zeroPm, false)) := Lib.hid (by rw [HF.out, HE.out]; unfold decC; exact if_neg (fun h => hrt h.2))
            rw [hrt']
            clear hrt hrt'
            go_wp2_with fail
            have hA := set12 HR5.out (.int .u64 0) (.int .u64 0) (.int .u64 0) (.int .u64 0) (.int .u8 0) (.int .u8 0) (.int .u8 0) (.int .u8 0) (.int .u8 0) (.int .u8 0) (.int .u8 0) (.int .u8 0)
            have hge : w.heap.size ≤ g0 := by rw [HGZ.out]; exact Nat.le_refl _
            generalize ((((((((((((w5.setCell ⟨g0, 0, none⟩ (.int .u64 0)).setCell ⟨g0, 1, none⟩ (.int .u64 0)).setCell ⟨g0, 2, none⟩ (.int .u64 0)).setCell ⟨g0, 3, none⟩ (.int .u64 0)).setCell ⟨g0, 4, none⟩ (.int .u8 0)).setCell ⟨g0, 5, none⟩ (.int .u8 0)).setCell ⟨g0, 6, none⟩ (.int .u8 0)).setCell ⟨g0, 7, none⟩ (.int .u8 0)).setCell ⟨g0, 8, none⟩ (.int .u8 0)).setCell ⟨g0, 9, none⟩ (.int .u8 0)).setCell ⟨g0, 10, none⟩ (.int .u8 0)).setCell ⟨g0, 11, none⟩ (.int .u8 0)) = W9 at hA ⊢
            have hrow := hA.row
            have hLZ : Below w.heap.size w W9 := HL5.out.grown hA.rest HL5.out.size (by intro k hk; injection hk with hk; omega)
            obtain ⟨e0, e1, e2, e3, e4, e5, e6, e7, e8, e9, e10, e11⟩ := row12 hrow
            exact bodyPost_ret (v := .tuple #[.agg #[.int .u64 0, .int .u64 0, .int .u64 0, .int .u64 0, .int .u8 0, .int .u8 0, .int .u8 0, .int .u8 0, .int .u8 0, .int .u8 0, .int .u8 0, .int .u8 0], .bool false]) (by simp [results, Try.results21, go_sem, e0, e1, e2, e3, e4, e5, e6, e7, e8, e9, e10, e11]) rfl ⟨by rw [HFF.out]; rfl, hLZ⟩
        · rw [decide_eq_false h0] at k0
          have HFF : Hid (decF bs = (zeroPm, false)) := Lib.hid (by rw [HF.out, HE.out]; unfold decC; exact if_neg (fun h => h0 h.1))
          obtain ⟨f0, f1, f2, f3, f4, f5, f6, f7, f8, f9, f10, f11⟩ := free12 HR0.out
          obtain ⟨z0, z1, z2, z3, z4, z5, z6, z7, z8, z9, z10, z11⟩ := row12 HR0.out
          clear h0
          go_wp2_with fail
          have hA := set12 HR0.out (.int .u64 0) (.int .u64 0) (.int .u64 0) (.int .u64 0) (.int .u8 0) (.int .u8 0) (.int .u8 0) (.int .u8 0) (.int .u8 0) (.int .u8 0) (.int .u8 0) (.int .u8 0)
          have hge : w.heap.size ≤ g0 := by rw [HGZ.out]; exact Nat.le_refl _
          generalize ((((((((((((wr.setCell ⟨g0, 0, none⟩ (.int .u64 0)).setCell ⟨g0, 1, none⟩ (.int .u64 0)).setCell ⟨g0, 2, none⟩ (.int .u64 0)).setCell ⟨g0, 3, none⟩ (.int .u64 0)).setCell ⟨g0, 4, none⟩ (.int .u8 0)).setCell ⟨g0, 5, none⟩ (.int .u8 0)).setCell ⟨g0, 6, none⟩ (.int .u8 0)).setCell ⟨g0, 7, none⟩ (.int .u8 0)).setCell ⟨g0, 8, none⟩ (.int .u8 0)).setCell ⟨g0, 9, none⟩ (.int .u8 0)).setCell ⟨g0, 10, none⟩ (.int .u8 0)).setCell ⟨g0, 11, none⟩ (.int .u8 0)) = W9 at hA ⊢
          have hrow := hA.row
          have hLZ : Below w.heap.size w W9 := HL.out.grown hA.rest HL.out.size (by intro k hk; injection hk with hk; omega)
          obtain ⟨e0, e1, e2, e3, e4, e5, e6, e7, e8, e9, e10, e11⟩ := row12 hrow
          exact bodyPost_ret (v := .tuple #[.agg #[.int .u64 0, .int .u64 0, .int .u64 0, .int .u64 0, .int .u8 0, .int .u8 0, .int .u8 0, .int .u8 0, .int .u8 0, .int .u8 0, .int .u8 0, .int .u8 0], .bool false]) (by simp [results, Try.results21, go_sem, e0, e1, e2, e3, e4, e5, e6, e7, e8, e9, e10, e11]) rfl ⟨by rw [HFF.out]; rfl, hLZ⟩
      | cons c t =>
        have hid := varM_in (c :: t) false HR.out.bytes
        have hlt1 := varM_lt c t
        have hlt2 := textM_len (varM (c :: t) false).2.1 (varM (c :: t) false).2.2
        have hlt3 := textM_len1 (varM (c :: t) false).2.1 (varM (c :: t) false).2.2
        obtain ⟨k', rfl⟩ : ∃ k', gk = k' + 1 := ⟨gk - 1, by simp at hyk; omega⟩
        have hdd : decM (k' + 1) (c :: t) p came = if (textM (varM (c :: t) false).2.1 (varM (c :: t) false).2.2).2.2 = true ∨ (knownId (varM (c :: t) false).1 = true ∧ (varM (c :: t) false).1 ∈ came) then none
          else if (takeM p (varM (c :: t) false).1 (textM (varM (c :: t) false).2.1 (varM (c :: t) false).2.2).1).2 = true then decM k' (textM (varM (c :: t) false).2.1 (varM (c :: t) false).2.2).2.1 (takeM p (varM (c :: t) false).1 (textM (varM (c :: t) false).2.1 (varM (c :: t) false).2.2).1).1 (came ++ [(varM (c :: t) false).1]) else none := rfl
        have HV := Lib.hid (fun w0 (h : Rd w w0 0 pr 71 (c :: t) false) => rvar_any _ _ _ _ _ _ h)
        obtain ⟨⟨id, r1, b1⟩, hv⟩ : ∃ r, varM (c :: t) false = r := ⟨_, rfl⟩
        rw [hv] at hid hlt1 hlt2 hlt3 hdd HV
        simp only at hid hlt1 hlt2 hlt3 hdd HV
        obtain ⟨⟨x, r2, b2⟩, htx⟩ : ∃ r, textM r1 b1 = r := ⟨_, rfl⟩
        have HT := Lib.hid (fun w0 (h : Rd w w0 0 pr 71 r1 b1) => rtext_any _ _ _ _ _ _ h)
        rw [htx] at hlt2 hlt3 hdd HT
        simp only at hlt2 hlt3 hdd HT
        rw [hdd] at HDM
        have hr2 : r2.length ≤ k' := by simp at hyk; omega
        have hx3 : x.length ≤ 1000000 := by simp at hyk; omega
        have hkc' : k' ≤ 1000000 := by omega
        have hrn1 : (0 : Int) < (rn : Nat) := by simp at hrl; omega
        clear hv htx hdd hlt1 hlt2 hlt3 hyk hrl
        go_wp2_with fail
        clear q0 q1
        refine Calls.mono (HV.out _ HR.out) ?_
        rintro e w4 ⟨rfl, hR4, hg4⟩
        have HR4 := Lib.hid hR4
        have HL4 := Lib.hid (HL.out.grown hg4 HL.out.size (by intro k hk; injection hk with hk; have := HGZ.out; omega))
        have HR04 := Lib.hid (grown_row hg4 (b := g0) (by intro e; injection e with e; omega) HR0.out)
        have HP4 := Lib.hid (grown_row hg4 (b := g) (by intro e; injection e with e; omega) HP.out)
        have HC4 := Lib.hid (grown_row hg4 (b := gc) (by intro e; injection e with e; omega) HC.out)
        have HG4 := Lib.hid (lt_of_block HC4.out)
        clear hR4 hg4 HR HL HR0 HP HC
        go_wp2_with fail
        refine Calls.mono (HT.out _ HR4.out) ?_
        rintro e w5 ⟨xa, xl, xc, rfl, hxc, hi5, hR5, hg5, hxlo⟩
        have HR5 := Lib.hid hR5
        have HL5 := Lib.hid (HL4.out.grown hg5 HL4.out.size (by intro k hk; injection hk with hk; have := HGZ.out; omega))
        have HR05 := Lib.hid (grown_row hg5 (b := g0) (by intro e; injection e with e; omega) HR04.out)
        have HP5 := Lib.hid (grown_row hg5 (b := g) (by intro e; injection e with e; omega) HP4.out)
        have HC5 := Lib.hid (grown_row hg5 (b := gc) (by intro e; injection e with e; omega) HC4.out)
        have HI5 := Lib.hid hi5
        have hxl := hi5.1
        clear hR5 hg5 HR4 HL4 HR04 HP4 HC4 hi5 HV HT
        obtain ⟨ra5, rn5, rc5, hrow5, _, _, _, _⟩ := HR5.out.ex
        have q1 : w5.cell? ⟨pr, 1, none⟩ = some (.bool b2) := row_cell hrow5 1 _ rfl
        clear hrow5
        by_cases h0 : id = 0
        · subst h0
          cases b2 with
          | true =>
            have HFF : Hid (decF bs = (zeroPm, false)) := Lib.hid (by rw [HF.out, ← HDM.out, if_pos (.inl rfl)]; rfl)
            obtain ⟨f0, f1, f2, f3, f4, f5, f6, f7, f8, f9, f10, f11⟩ := free12 HR05.out
            obtain ⟨z0, z1, z2, z3, z4, z5, z6, z7, z8, z9, z10, z11⟩ := row12 HR05.out
            go_wp2_with fail
            have hA := set12 HR05.out (.int .u64 0) (.int .u64 0) (.int .u64 0) (.int .u64 0) (.int .u8 0) (.int .u8 0) (.int .u8 0) (.int .u8 0) (.int .u8 0) (.int .u8 0) (.int .u8 0) (.int .u8 0)
            have hge : w.heap.size ≤ g0 := by rw [HGZ.out]; exact Nat.le_refl _
            generalize ((((((((((((w5.setCell ⟨g0, 0, none⟩ (.int .u64 0)).setCell ⟨g0, 1, none⟩ (.int .u64 0)).setCell ⟨g0, 2, none⟩ (.int .u64 0)).setCell ⟨g0, 3, none⟩ (.int .u64 0)).setCell ⟨g0, 4, none⟩ (.int .u8 0)).setCell ⟨g0, 5, none⟩ (.int .u8 0)).setCell ⟨g0, 6, none⟩ (.int .u8 0)).setCell ⟨g0, 7, none⟩ (.int .u8 0)).setCell ⟨g0, 8, none⟩ (.int .u8 0)).setCell ⟨g0, 9, none⟩ (.int .u8 0)).setCell ⟨g0, 10, none⟩ (.int .u8 0)).setCell ⟨g0, 11, none⟩ (.int .u8 0)) = W9 at hA ⊢
            have hrow := hA.row
            have hLZ : Below w.heap.size w W9 := HL5.out.grown hA.rest HL5.out.size (by intro k hk; injection hk with hk; omega)
            obtain ⟨e0, e1, e2, e3, e4, e5, e6, e7, e8, e9, e10, e11⟩ := row12 hrow
            exact bodyPost_ret (v := .tuple #[.agg #[.int .u64 0, .int .u64 0, .int .u64 0, .int .u64 0, .int .u8 0, .int .u8 0, .int .u8 0, .int .u8 0, .int .u8 0, .int .u8 0, .int .u8 0, .int .u8 0], .bool false]) (by simp [results, Try.results21, go_sem, e0, e1, e2, e3, e4, e5, e6, e7, e8, e9, e10, e11]) rfl ⟨by rw [HFF.out]; rfl, hLZ⟩
          | false =>
            have k0 : w5.cell? ⟨gc, 0, none⟩ = some (camB came 0) := row_cell HC5.out 0 _ rfl
            unfold camB at k0
            by_cases hin : (0 : Int) ∈ came
            · rw [decide_eq_true hin] at k0
              have hpf2 : (false = true ∨ knownId 0 = true ∧ (0 : Int) ∈ came) := .inr ⟨rfl, hin⟩
              have HFF : Hid (decF bs = (zeroPm, false)) := Lib.hid (by rw [HF.out, ← HDM.out, if_pos hpf2]; rfl)
              obtain ⟨f0, f1, f2, f3, f4, f5, f6, f7, f8, f9, f10, f11⟩ := free12 HR05.out
              obtain ⟨z0, z1, z2, z3, z4, z5, z6, z7, z8, z9, z10, z11⟩ := row12 HR05.out
              clear hin hpf2
              go_wp2_with fail
              have hA := set12 HR05.out (.int .u64 0) (.int .u64 0) (.int .u64 0) (.int .u64 0) (.int .u8 0) (.int .u8 0) (.int .u8 0) (.int .u8 0) (.int .u8 0) (.int .u8 0) (.int .u8 0) (.int .u8 0)
              have hge : w.heap.size ≤ g0 := by rw [HGZ.out]; exact Nat.le_refl _
              generalize ((((((((((((w5.setCell ⟨g0, 0, none⟩ (.int .u64 0)).setCell ⟨g0, 1, none⟩ (.int .u64 0)).setCell ⟨g0, 2, none⟩ (.int .u64 0)).setCell ⟨g0, 3, none⟩ (.int .u64 0)).setCell ⟨g0, 4, none⟩ (.int .u8 0)).setCell ⟨g0, 5, none⟩ (.int .u8 0)).setCell ⟨g0, 6, none⟩ (.int .u8 0)).setCell ⟨g0, 7, none⟩ (.int .u8 0)).setCell ⟨g0, 8, none⟩ (.int .u8 0)).setCell ⟨g0, 9, none⟩ (.int .u8 0)).setCell ⟨g0, 10, none⟩ (.int .u8 0)).setCell ⟨g0, 11, none⟩ (.int .u8 0)) = W9 at hA ⊢
              have hrow := hA.row
              have hLZ : Below w.heap.size w W9 := HL5.out.grown hA.rest HL5.out.size (by intro k hk; injection hk with hk; omega)
              obtain ⟨e0, e1, e2, e3, e4, e5, e6, e7, e8, e9, e10, e11⟩ := row12 hrow
              exact bodyPost_ret (v := .tuple #[.agg #[.int .u64 0, .int .u64 0, .int .u64 0, .int .u64 0, .int .u8 0, .int .u8 0, .int .u8 0, .int .u8 0, .int .u8 0, .int .u8 0, .int .u8 0, .int .u8 0], .bool false]) (by simp [results, Try.results21, go_sem, e0, e1, e2, e3, e4, e5, e6, e7, e8, e9, e10, e11]) rfl ⟨by rw [HFF.out]; rfl, hLZ⟩
            · rw [decide_eq_false hin] at k0
              have hno : ¬ (false = true ∨ knownId 0 = true ∧ (0 : Int) ∈ came) := by simp [hin]
              have HNO := Lib.hid hno
              clear hin hno
              have fgc := row_free HC5.out 0
              have hAC := (At.base HC5.out).set 0 (.bool true)
              have hCC : ((camRow came).toArray.setIfInBounds 0 (.bool true)) = (camRow (came ++ [0])).toArray := by
                unfold camRow
                rw [camB_add, camB_add, camB_add, camB_add, camB_add]
                simp
              have hAC2 := hAC.conv hCC
              have HAC := Lib.hid hAC2
              clear hAC hCC hAC2
              go_upto_region 11 with fail
              have hA2 := HAC.out
              generalize w5.setCell ⟨gc, 0, none⟩ (.bool true) = w6 at hA2 ⊢
              have hC6 := hA2.row
              have hg6 := hA2.rest
              have hR6 := HR5.out.aside hg6 (.inr (by have := HR5.out.lo; omega)) (by omega)
              have HR6 := Lib.hid hR6; have HC6 := Lib.hid hC6
              have HL6 := Lib.hid (HL5.out.grown hg6 HL5.out.size (by intro k hk; injection hk with hk; have := HGZ.out; omega))
              have HR06 := Lib.hid (grown_row hg6 (b := g0) (by intro e; injection e with e; omega) HR05.out)
              have HP6 := Lib.hid (grown_row hg6 (b := g) (by intro e; injection e with e; omega) HP5.out)
              have HI6 := Lib.hid (HI5.out.grown (r := some gc) hg6 (fun y hy e => by have := hxlo y hy; injection e with e; have := HG4.out; omega))
              clear hC6 hg6 hA2 hR6 q1 k0 fgc HAC HR5 HC5 HL5 HR05 HP5 HI5
              go_wp2_with fail
              refine Calls.mono (rget_any w6 xa xl xc x (by omega) hxc HI6.out) ?_
              rintro e w7 ⟨rfl, rfl⟩
              by_cases hx8 : xl = 8
              · subst hx8
                have htk : takeM p 0 x = ({ p with f := splice p.f 0 (x.take 8) }, true) := by unfold takeM; rw [if_pos rfl, hxl]; rfl
                have HDD : Hid (decM k' r2 { p with f := splice p.f 0 (x.take 8) } (came ++ [0]) = D) := Lib.hid (by rw [← HDM.out, if_neg HNO.out, htk, if_pos rfl])
                have htl := takeM_len p 0 x hpf
                rw [htk] at htl
                have HTL := Lib.hid htl
                obtain ⟨cs, hcs⟩ : ∃ cs, x.take 8 = cs := ⟨_, rfl⟩
                rw [hcs] at HDD HTL
                have hcl : (cs.map (Value.int .u8)).length = Nat.min 8 8 := by rw [← hcs, List.length_map, List.length_take, hxl]; try rfl
                have hpos : 0 < (cs.map (Value.int .u8)).length → ∃ ad, xa = some ad ∧ ∀ j v, (cs.map (Value.int .u8))[j]? = some v → w7.cell? (ad.add j) = some v := by
                  intro _
                  obtain ⟨ad, e, _, h2⟩ := HI6.out.src (by omega)
                  refine ⟨ad, e, fun j v hv => h2 j v ?_⟩
                  rw [← hcs, List.map_take] at hv
                  by_cases hj : j < 8
                  · rw [List.getElem?_take_of_lt hj] at hv; exact hv
                  · rw [List.getElem?_eq_none (by rw [List.length_take]; omega)] at hv; cases hv
                have hfit : 4 + (cs.map (Value.int .u8)).length ≤ p.row.length := by
                  rw [hcl]; simp [Pm.row, hpf]
                have HCQ := Lib.hid (And.intro hcl (And.intro hpos hfit))
                clear hcl hpos hfit hcs htk htl HDM HNO hxl
                go_wp2_with (first
                  | (with_reducible refine wpList_copy_grown rfl _ _ 29 29 rfl 5 Try.underlying29 infoU8t _ _ _ _ _ _ rfl rfl g 4 p.row 26 HP6.out (cs.map (Value.int .u8)) HCQ.out.1 (fun h => ⟨rfl, HCQ.out.2.1 h⟩) HCQ.out.2.2 ints_one ?_; intro w8 HP8 hg8)
                  | fail)
                rw [row_splice] at HP8
                have hR8 := HR6.out.aside hg8 (.inr (by have := HR6.out.lo; omega)) (by omega)
                have HR8 := Lib.hid hR8
                have HL8 := Lib.hid (HL6.out.grown hg8 HL6.out.size (by intro k hk; injection hk with hk; have := HGZ.out; omega))
                have HR08 := Lib.hid (grown_row hg8 (b := g0) (by intro e; injection e with e; omega) HR06.out)
                have HC8 := Lib.hid (grown_row hg8 (b := gc) (by intro e; injection e with e; omega) HC6.out)
                clear hg8 hR8
                go_roundg k'
                case rel => exact ⟨r2, false, { p with f := splice p.f 0 cs }, came ++ [0], hr2, hkc', HTL.out, Lib.hid (.inl ⟨rfl, HDD.out⟩), HL8, HR08, HP8, HC8, HR8⟩
                case measure => omega
              · have htk : (takeM p 0 x).2 ≠ true := by unfold takeM; rw [if_pos rfl]; simp; omega
                have hx8' : ((xl : Int) != 8) = true := by simp; omega
                have HFF : Hid (decF bs = (zeroPm, false)) := Lib.hid (by rw [HF.out, ← HDM.out, if_neg HNO.out, if_neg htk]; rfl)
                obtain ⟨f0, f1, f2, f3, f4, f5, f6, f7, f8, f9, f10, f11⟩ := free12 HR06.out
                obtain ⟨z0, z1, z2, z3, z4, z5, z6, z7, z8, z9, z10, z11⟩ := row12 HR06.out
                clear hx8 htk hxl HNO HDM
                go_wp2_with fail
                have hA := set12 HR06.out (.int .u64 0) (.int .u64 0) (.int .u64 0) (.int .u64 0) (.int .u8 0) (.int .u8 0) (.int .u8 0) (.int .u8 0) (.int .u8 0) (.int .u8 0) (.int .u8 0) (.int .u8 0)
                have hge : w.heap.size ≤ g0 := by rw [HGZ.out]; exact Nat.le_refl _
                generalize ((((((((((((w7.setCell ⟨g0, 0, none⟩ (.int .u64 0)).setCell ⟨g0, 1, none⟩ (.int .u64 0)).setCell ⟨g0, 2, none⟩ (.int .u64 0)).setCell ⟨g0, 3, none⟩ (.int .u64 0)).setCell ⟨g0, 4, none⟩ (.int .u8 0)).setCell ⟨g0, 5, none⟩ (.int .u8 0)).setCell ⟨g0, 6, none⟩ (.int .u8 0)).setCell ⟨g0, 7, none⟩ (.int .u8 0)).setCell ⟨g0, 8, none⟩ (.int .u8 0)).setCell ⟨g0, 9, none⟩ (.int .u8 0)).setCell ⟨g0, 10, none⟩ (.int .u8 0)).setCell ⟨g0, 11, none⟩ (.int .u8 0)) = W9 at hA ⊢
                have hrow := hA.row
                have hLZ : Below w.heap.size w W9 := HL6.out.grown hA.rest HL6.out.size (by intro k hk; injection hk with hk; omega)
                obtain ⟨e0, e1, e2, e3, e4, e5, e6, e7, e8, e9, e10, e11⟩ := row12 hrow
                exact bodyPost_ret (v := .tuple #[.agg #[.int .u64 0, .int .u64 0, .int .u64 0, .int .u64 0, .int .u8 0, .int .u8 0, .int .u8 0, .int .u8 0, .int .u8 0, .int .u8 0, .int .u8 0, .int .u8 0], .bool false]) (by simp [results, Try.results21, go_sem, e0, e1, e2, e3, e4, e5, e6, e7, e8, e9, e10, e11]) rfl ⟨by rw [HFF.out]; rfl, hLZ⟩
        have b0 : (id == 0) = false := by simpa using h0
        have n0 : (id != 0) = true := by simpa using h0
        by_cases h1 : id = 1
        · subst h1
          cases b2 with
          | true =>
            have HFF : Hid (decF bs = (zeroPm, false)) := Lib.hid (by rw [HF.out, ← HDM.out, if_pos (.inl rfl)]; rfl)
            obtain ⟨f0, f1, f2, f3, f4, f5, f6, f7, f8, f9, f10, f11⟩ := free12 HR05.out
            obtain ⟨z0, z1, z2, z3, z4, z5, z6, z7, z8, z9, z10, z11⟩ := row12 HR05.out
            go_wp2_with fail
            have hA := set12 HR05.out (.int .u64 0) (.int .u64 0) (.int .u64 0) (.int .u64 0) (.int .u8 0) (.int .u8 0) (.int .u8 0) (.int .u8 0) (.int .u8 0) (.int .u8 0) (.int .u8 0) (.int .u8 0)
            have hge : w.heap.size ≤ g0 := by rw [HGZ.out]; exact Nat.le_refl _
            generalize ((((((((((((w5.setCell ⟨g0, 0, none⟩ (.int .u64 0)).setCell ⟨g0, 1, none⟩ (.int .u64 0)).setCell ⟨g0, 2, none⟩ (.int .u64 0)).setCell ⟨g0, 3, none⟩ (.int .u64 0)).setCell ⟨g0, 4, none⟩ (.int .u8 0)).setCell ⟨g0, 5, none⟩ (.int .u8 0)).setCell ⟨g0, 6, none⟩ (.int .u8 0)).setCell ⟨g0, 7, none⟩ (.int .u8 0)).setCell ⟨g0, 8, none⟩ (.int .u8 0)).setCell ⟨g0, 9, none⟩ (.int .u8 0)).setCell ⟨g0, 10, none⟩ (.int .u8 0)).setCell ⟨g0, 11, none⟩ (.int .u8 0)) = W9 at hA ⊢
            have hrow := hA.row
            have hLZ : Below w.heap.size w W9 := HL5.out.grown hA.rest HL5.out.size (by intro k hk; injection hk with hk; omega)
            obtain ⟨e0, e1, e2, e3, e4, e5, e6, e7, e8, e9, e10, e11⟩ := row12 hrow
            exact bodyPost_ret (v := .tuple #[.agg #[.int .u64 0, .int .u64 0, .int .u64 0, .int .u64 0, .int .u8 0, .int .u8 0, .int .u8 0, .int .u8 0, .int .u8 0, .int .u8 0, .int .u8 0, .int .u8 0], .bool false]) (by simp [results, Try.results21, go_sem, e0, e1, e2, e3, e4, e5, e6, e7, e8, e9, e10, e11]) rfl ⟨by rw [HFF.out]; rfl, hLZ⟩
          | false =>
            have k0 : w5.cell? ⟨gc, 1, none⟩ = some (camB came 1) := row_cell HC5.out 1 _ rfl
            unfold camB at k0
            by_cases hin : (1 : Int) ∈ came
            · rw [decide_eq_true hin] at k0
              have hpf2 : (false = true ∨ knownId 1 = true ∧ (1 : Int) ∈ came) := .inr ⟨rfl, hin⟩
              have HFF : Hid (decF bs = (zeroPm, false)) := Lib.hid (by rw [HF.out, ← HDM.out, if_pos hpf2]; rfl)
              obtain ⟨f0, f1, f2, f3, f4, f5, f6, f7, f8, f9, f10, f11⟩ := free12 HR05.out
              obtain ⟨z0, z1, z2, z3, z4, z5, z6, z7, z8, z9, z10, z11⟩ := row12 HR05.out
              clear hin hpf2
              go_wp2_with fail
              have hA := set12 HR05.out (.int .u64 0) (.int .u64 0) (.int .u64 0) (.int .u64 0) (.int .u8 0) (.int .u8 0) (.int .u8 0) (.int .u8 0) (.int .u8 0) (.int .u8 0) (.int .u8 0) (.int .u8 0)
              have hge : w.heap.size ≤ g0 := by rw [HGZ.out]; exact Nat.le_refl _
              generalize ((((((((((((w5.setCell ⟨g0, 0, none⟩ (.int .u64 0)).setCell ⟨g0, 1, none⟩ (.int .u64 0)).setCell ⟨g0, 2, none⟩ (.int .u64 0)).setCell ⟨g0, 3, none⟩ (.int .u64 0)).setCell ⟨g0, 4, none⟩ (.int .u8 0)).setCell ⟨g0, 5, none⟩ (.int .u8 0)).setCell ⟨g0, 6, none⟩ (.int .u8 0)).setCell ⟨g0, 7, none⟩ (.int .u8 0)).setCell ⟨g0, 8, none⟩ (.int .u8 0)).setCell ⟨g0, 9, none⟩ (.int .u8 0)).setCell ⟨g0, 10, none⟩ (.int .u8 0)).setCell ⟨g0, 11, none⟩ (.int .u8 0)) = W9 at hA ⊢
              have hrow := hA.row
              have hLZ : Below w.heap.size w W9 := HL5.out.grown hA.rest HL5.out.size (by intro k hk; injection hk with hk; omega)
              obtain ⟨e0, e1, e2, e3, e4, e5, e6, e7, e8, e9, e10, e11⟩ := row12 hrow
              exact bodyPost_ret (v := .tuple #[.agg #[.int .u64 0, .int .u64 0, .int .u64 0, .int .u64 0, .int .u8 0, .int .u8 0, .int .u8 0, .int .u8 0, .int .u8 0, .int .u8 0, .int .u8 0, .int .u8 0], .bool false]) (by simp [results, Try.results21, go_sem, e0, e1, e2, e3, e4, e5, e6, e7, e8, e9, e10, e11]) rfl ⟨by rw [HFF.out]; rfl, hLZ⟩
            · rw [decide_eq_false hin] at k0
              have hno : ¬ (false = true ∨ knownId 1 = true ∧ (1 : Int) ∈ came) := by simp [hin]
              have HNO := Lib.hid hno
              clear hin hno
              have fgc := row_free HC5.out 1
              have hAC := (At.base HC5.out).set 1 (.bool true)
              have hCC : ((camRow came).toArray.setIfInBounds 1 (.bool true)) = (camRow (came ++ [1])).toArray := by
                unfold camRow
                rw [camB_add, camB_add, camB_add, camB_add, camB_add]
                simp
              have hAC2 := hAC.conv hCC
              have HAC := Lib.hid hAC2
              clear hAC hCC hAC2
              go_upto_region 11 with fail
              have hA2 := HAC.out
              generalize w5.setCell ⟨gc, 1, none⟩ (.bool true) = w6 at hA2 ⊢
              have hC6 := hA2.row
              have hg6 := hA2.rest
              have hR6 := HR5.out.aside hg6 (.inr (by have := HR5.out.lo; omega)) (by omega)
              have HR6 := Lib.hid hR6; have HC6 := Lib.hid hC6
              have HL6 := Lib.hid (HL5.out.grown hg6 HL5.out.size (by intro k hk; injection hk with hk; have := HGZ.out; omega))
              have HR06 := Lib.hid (grown_row hg6 (b := g0) (by intro e; injection e with e; omega) HR05.out)
              have HP6 := Lib.hid (grown_row hg6 (b := g) (by intro e; injection e with e; omega) HP5.out)
              have HI6 := Lib.hid (HI5.out.grown (r := some gc) hg6 (fun y hy e => by have := hxlo y hy; injection e with e; have := HG4.out; omega))
              clear hC6 hg6 hA2 hR6 q1 k0 fgc HAC HR5 HC5 HL5 HR05 HP5 HI5
              go_wp2_with fail
              refine Calls.mono (rget_any w6 xa xl xc x (by omega) hxc HI6.out) ?_
              rintro e w7 ⟨rfl, rfl⟩
              have htk : takeM p 1 x = ({ p with i := (varM x false).1 }, numOk x) := by simp [takeM]
              by_cases hnk : numOk x = true
              · obtain ⟨hq1, hq2⟩ := (numOk_iff x).1 hnk
                have HDD : Hid (decM k' r2 { p with i := getN x } (came ++ [1]) = D) := Lib.hid (by rw [← HDM.out, if_neg HNO.out, htk, hnk, if_pos rfl, varM_n x hq2])
                have hs1 : ((getS x : Int) != (xl : Int)) = false := by rw [hq1, hxl]; simp
                have hs2 : ((getS x : Int) == 0) = false := by simp; omega
                generalize getS x = sz at *
                generalize getN x = nn at *
                have hf := row_free HP6.out 0
                have hc : w7.cell? ⟨g, 0, none⟩ = some (.int .u64 p.i) := row_cell HP6.out 0 _ rfl
                have HA := Lib.hid (((At.base HP6.out).set 0 (.int .u64 nn)).conv (cs' := { p with i := nn }.row.toArray) (by simp [Pm.row]))
                clear hnk hq1 hq2 htk HDM HNO hxl
                go_wp2_with fail
                have hA2 := HA.out
                generalize w7.setCell ⟨g, 0, none⟩ (.int .u64 nn) = w8 at hA2 ⊢
                have HP8 := Lib.hid hA2.row
                have hg8 := hA2.rest
                have hR8 := HR6.out.aside hg8 (.inr (by have := HR6.out.lo; omega)) (by omega)
                have HR8 := Lib.hid hR8
                have HL8 := Lib.hid (HL6.out.grown hg8 HL6.out.size (by intro k hk; injection hk with hk; have := HGZ.out; omega))
                have HR08 := Lib.hid (grown_row hg8 (b := g0) (by intro e; injection e with e; omega) HR06.out)
                have HC8 := Lib.hid (grown_row hg8 (b := gc) (by intro e; injection e with e; omega) HC6.out)
                clear hg8 hR8 hA2 hf hc HA
                go_roundg k'
                case rel => exact ⟨r2, false, { p with i := nn }, came ++ [1], hr2, hkc', hpf, Lib.hid (.inl ⟨rfl, HDD.out⟩), HL8, HR08, HP8, HC8, HR8⟩
                case measure => omega
              · have htk2 : (takeM p 1 x).2 ≠ true := by rw [htk]; exact hnk
                have hnq := fun h => hnk ((numOk_iff x).2 h)
                have HFF : Hid (decF bs = (zeroPm, false)) := Lib.hid (by rw [HF.out, ← HDM.out, if_neg HNO.out, if_neg htk2]; rfl)
                obtain ⟨f0, f1, f2, f3, f4, f5, f6, f7, f8, f9, f10, f11⟩ := free12 HR06.out
                obtain ⟨z0, z1, z2, z3, z4, z5, z6, z7, z8, z9, z10, z11⟩ := row12 HR06.out
                by_cases hq1 : getS x = xl
                · have hs1 : ((getS x : Int) != (xl : Int)) = false := by rw [hq1]; simp
                  have hs2 : ((getS x : Int) == 0) = true := by
                    have hz : getS x = 0 := Classical.byContradiction fun h => hnq ⟨by rw [hq1, hxl], h⟩
                    rw [hz]; rfl
                  generalize getS x = sz at *
                  clear hnk htk htk2 hnq hq1 hxl HNO HDM
                  go_wp2_with fail
                  have hA := set12 HR06.out (.int .u64 0) (.int .u64 0) (.int .u64 0) (.int .u64 0) (.int .u8 0) (.int .u8 0) (.int .u8 0) (.int .u8 0) (.int .u8 0) (.int .u8 0) (.int .u8 0) (.int .u8 0)
                  have hge : w.heap.size ≤ g0 := by rw [HGZ.out]; exact Nat.le_refl _
                  generalize ((((((((((((w7.setCell ⟨g0, 0, none⟩ (.int .u64 0)).setCell ⟨g0, 1, none⟩ (.int .u64 0)).setCell ⟨g0, 2, none⟩ (.int .u64 0)).setCell ⟨g0, 3, none⟩ (.int .u64 0)).setCell ⟨g0, 4, none⟩ (.int .u8 0)).setCell ⟨g0, 5, none⟩ (.int .u8 0)).setCell ⟨g0, 6, none⟩ (.int .u8 0)).setCell ⟨g0, 7, none⟩ (.int .u8 0)).setCell ⟨g0, 8, none⟩ (.int .u8 0)).setCell ⟨g0, 9, none⟩ (.int .u8 0)).setCell ⟨g0, 10, none⟩ (.int .u8 0)).setCell ⟨g0, 11, none⟩ (.int .u8 0)) = W9 at hA ⊢
                  have hrow := hA.row
                  have hLZ : Below w.heap.size w W9 := HL6.out.grown hA.rest HL6.out.size (by intro k hk; injection hk with hk; omega)
                  obtain ⟨e0, e1, e2, e3, e4, e5, e6, e7, e8, e9, e10, e11⟩ := row12 hrow
                  exact bodyPost_ret (v := .tuple #[.agg #[.int .u64 0, .int .u64 0, .int .u64 0, .int .u64 0, .int .u8 0, .int .u8 0, .int .u8 0, .int .u8 0, .int .u8 0, .int .u8 0, .int .u8 0, .int .u8 0], .bool false]) (by simp [results, Try.results21, go_sem, e0, e1, e2, e3, e4, e5, e6, e7, e8, e9, e10, e11]) rfl ⟨by rw [HFF.out]; rfl, hLZ⟩
                · have hs1 : ((getS x : Int) != (xl : Int)) = true := by simp; omega
                  generalize getS x = sz at *
                  clear hnk htk htk2 hnq hq1 hxl HNO HDM
                  go_wp2_with fail
                  have hA := set12 HR06.out (.int .u64 0) (.int .u64 0) (.int .u64 0) (.int .u64 0) (.int .u8 0) (.int .u8 0) (.int .u8 0) (.int .u8 0) (.int .u8 0) (.int .u8 0) (.int .u8 0) (.int .u8 0)
                  have hge : w.heap.size ≤ g0 := by rw [HGZ.out]; exact Nat.le_refl _
                  generalize ((((((((((((w7.setCell ⟨g0, 0, none⟩ (.int .u64 0)).setCell ⟨g0, 1, none⟩ (.int .u64 0)).setCell ⟨g0, 2, none⟩ (.int .u64 0)).setCell ⟨g0, 3, none⟩ (.int .u64 0)).setCell ⟨g0, 4, none⟩ (.int .u8 0)).setCell ⟨g0, 5, none⟩ (.int .u8 0)).setCell ⟨g0, 6, none⟩ (.int .u8 0)).setCell ⟨g0, 7, none⟩ (.int .u8 0)).setCell ⟨g0, 8, none⟩ (.int .u8 0)).setCell ⟨g0, 9, none⟩ (.int .u8 0)).setCell ⟨g0, 10, none⟩ (.int .u8 0)).setCell ⟨g0, 11, none⟩ (.int .u8 0)) = W9 at hA ⊢
                  have hrow := hA.row
                  have hLZ : Below w.heap.size w W9 := HL6.out.grown hA.rest HL6.out.size (by intro k hk; injection hk with hk; omega)
                  obtain ⟨e0, e1, e2, e3, e4, e5, e6, e7, e8, e9, e10, e11⟩ := row12 hrow
                  exact bodyPost_ret (v := .tuple #[.agg #[.int .u64 0, .int .u64 0, .int .u64 0, .int .u64 0, .int .u8 0, .int .u8 0, .int .u8 0, .int .u8 0, .int .u8 0, .int .u8 0, .int .u8 0, .int .u8 0], .bool false]) (by simp [results, Try.results21, go_sem, e0, e1, e2, e3, e4, e5, e6, e7, e8, e9, e10, e11]) rfl ⟨by rw [HFF.out]; rfl, hLZ⟩
        have b1 : (id == 1) = false := by simpa using h1
        have n1 : (id != 1) = true := by simpa using h1
        by_cases h4 : id = 4
        · subst h4
          cases b2 with
          | true =>
            have HFF : Hid (decF bs = (zeroPm, false)) := Lib.hid (by rw [HF.out, ← HDM.out, if_pos (.inl rfl)]; rfl)
            obtain ⟨f0, f1, f2, f3, f4, f5, f6, f7, f8, f9, f10, f11⟩ := free12 HR05.out
            obtain ⟨z0, z1, z2, z3, z4, z5, z6, z7, z8, z9, z10, z11⟩ := row12 HR05.out
            go_wp2_with fail
            have hA := set12 HR05.out (.int .u64 0) (.int .u64 0) (.int .u64 0) (.int .u64 0) (.int .u8 0) (.int .u8 0) (.int .u8 0) (.int .u8 0) (.int .u8 0) (.int .u8 0) (.int .u8 0) (.int .u8 0)
            have hge : w.heap.size ≤ g0 := by rw [HGZ.out]; exact Nat.le_refl _
            generalize ((((((((((((w5.setCell ⟨g0, 0, none⟩ (.int .u64 0)).setCell ⟨g0, 1, none⟩ (.int .u64 0)).setCell ⟨g0, 2, none⟩ (.int .u64 0)).setCell ⟨g0, 3, none⟩ (.int .u64 0)).setCell ⟨g0, 4, none⟩ (.int .u8 0)).setCell ⟨g0, 5, none⟩ (.int .u8 0)).setCell ⟨g0, 6, none⟩ (.int .u8 0)).setCell ⟨g0, 7, none⟩ (.int .u8 0)).setCell ⟨g0, 8, none⟩ (.int .u8 0)).setCell ⟨g0, 9, none⟩ (.int .u8 0)).setCell ⟨g0, 10, none⟩ (.int .u8 0)).setCell ⟨g0, 11, none⟩ (.int .u8 0)) = W9 at hA ⊢
            have hrow := hA.row
            have hLZ : Below w.heap.size w W9 := HL5.out.grown hA.rest HL5.out.size (by intro k hk; injection hk with hk; omega)
            obtain ⟨e0, e1, e2, e3, e4, e5, e6, e7, e8, e9, e10, e11⟩ := row12 hrow
            exact bodyPost_ret (v := .tuple #[.agg #[.int .u64 0, .int .u64 0, .int .u64 0, .int .u64 0, .int .u8 0, .int .u8 0, .int .u8 0, .int .u8 0, .int .u8 0, .int .u8 0, .int .u8 0, .int .u8 0], .bool false]) (by simp [results, Try.results21, go_sem, e0, e1, e2, e3, e4, e5, e6, e7, e8, e9, e10, e11]) rfl ⟨by rw [HFF.out]; rfl, hLZ⟩
          | false =>
            have k0 : w5.cell? ⟨gc, 4, none⟩ = some (camB came 4) := row_cell HC5.out 4 _ rfl
            unfold camB at k0
            by_cases hin : (4 : Int) ∈ came
            · rw [decide_eq_true hin] at k0
              have hpf2 : (false = true ∨ knownId 4 = true ∧ (4 : Int) ∈ came) := .inr ⟨rfl, hin⟩
              have HFF : Hid (decF bs = (zeroPm, false)) := Lib.hid (by rw [HF.out, ← HDM.out, if_pos hpf2]; rfl)
              obtain ⟨f0, f1, f2, f3, f4, f5, f6, f7, f8, f9, f10, f11⟩ := free12 HR05.out
              obtain ⟨z0, z1, z2, z3, z4, z5, z6, z7, z8, z9, z10, z11⟩ := row12 HR05.out
              clear hin hpf2
              go_wp2_with fail
              have hA := set12 HR05.out (.int .u64 0) (.int .u64 0) (.int .u64 0) (.int .u64 0) (.int .u8 0) (.int .u8 0) (.int .u8 0) (.int .u8 0) (.int .u8 0) (.int .u8 0) (.int .u8 0) (.int .u8 0)
              have hge : w.heap.size ≤ g0 := by rw [HGZ.out]; exact Nat.le_refl _
              generalize ((((((((((((w5.setCell ⟨g0, 0, none⟩ (.int .u64 0)).setCell ⟨g0, 1, none⟩ (.int .u64 0)).setCell ⟨g0, 2, none⟩ (.int .u64 0)).setCell ⟨g0, 3, none⟩ (.int .u64 0)).setCell ⟨g0, 4, none⟩ (.int .u8 0)).setCell ⟨g0, 5, none⟩ (.int .u8 0)).setCell ⟨g0, 6, none⟩ (.int .u8 0)).setCell ⟨g0, 7, none⟩ (.int .u8 0)).setCell ⟨g0, 8, none⟩ (.int .u8 0)).setCell ⟨g0, 9, none⟩ (.int .u8 0)).setCell ⟨g0, 10, none⟩ (.int .u8 0)).setCell ⟨g0, 11, none⟩ (.int .u8 0)) = W9 at hA ⊢
              have hrow := hA.row
              have hLZ : Below w.heap.size w W9 := HL5.out.grown hA.rest HL5.out.size (by intro k hk; injection hk with hk; omega)
              obtain ⟨e0, e1, e2, e3, e4, e5, e6, e7, e8, e9, e10, e11⟩ := row12 hrow
              exact bodyPost_ret (v := .tuple #[.agg #[.int .u64 0, .int .u64 0, .int .u64 0, .int .u64 0, .int .u8 0, .int .u8 0, .int .u8 0, .int .u8 0, .int .u8 0, .int .u8 0, .int .u8 0, .int .u8 0], .bool false]) (by simp [results, Try.results21, go_sem, e0, e1, e2, e3, e4, e5, e6, e7, e8, e9, e10, e11]) rfl ⟨by rw [HFF.out]; rfl, hLZ⟩
            · rw [decide_eq_false hin] at k0
              have hno : ¬ (false = true ∨ knownId 4 = true ∧ (4 : Int) ∈ came) := by simp [hin]
              have HNO := Lib.hid hno
              clear hin hno
              have fgc := row_free HC5.out 4
              have hAC := (At.base HC5.out).set 4 (.bool true)
              have hCC : ((camRow came).toArray.setIfInBounds 4 (.bool true)) = (camRow (came ++ [4])).toArray := by
                unfold camRow
                rw [camB_add, camB_add, camB_add, camB_add, camB_add]
                simp
              have hAC2 := hAC.conv hCC
              have HAC := Lib.hid hAC2
              clear hAC hCC hAC2
              go_upto_region 11 with fail
              have hA2 := HAC.out
              generalize w5.setCell ⟨gc, 4, none⟩ (.bool true) = w6 at hA2 ⊢
              have hC6 := hA2.row
              have hg6 := hA2.rest
              have hR6 := HR5.out.aside hg6 (.inr (by have := HR5.out.lo; omega)) (by omega)
              have HR6 := Lib.hid hR6; have HC6 := Lib.hid hC6
              have HL6 := Lib.hid (HL5.out.grown hg6 HL5.out.size (by intro k hk; injection hk with hk; have := HGZ.out; omega))
              have HR06 := Lib.hid (grown_row hg6 (b := g0) (by intro e; injection e with e; omega) HR05.out)
              have HP6 := Lib.hid (grown_row hg6 (b := g) (by intro e; injection e with e; omega) HP5.out)
              have HI6 := Lib.hid (HI5.out.grown (r := some gc) hg6 (fun y hy e => by have := hxlo y hy; injection e with e; have := HG4.out; omega))
              clear hC6 hg6 hA2 hR6 q1 k0 fgc HAC HR5 HC5 HL5 HR05 HP5 HI5
              go_wp2_with fail
              refine Calls.mono (rget_any w6 xa xl xc x (by omega) hxc HI6.out) ?_
              rintro e w7 ⟨rfl, rfl⟩
              have htk : takeM p 4 x = ({ p with d := (varM x false).1 }, numOk x) := by simp [takeM]
              by_cases hnk : numOk x = true
              · obtain ⟨hq1, hq2⟩ := (numOk_iff x).1 hnk
                have HDD : Hid (decM k' r2 { p with d := getN x } (came ++ [4]) = D) := Lib.hid (by rw [← HDM.out, if_neg HNO.out, htk, hnk, if_pos rfl, varM_n x hq2])
                have hs1 : ((getS x : Int) != (xl : Int)) = false := by rw [hq1, hxl]; simp
                have hs2 : ((getS x : Int) == 0) = false := by simp; omega
                generalize getS x = sz at *
                generalize getN x = nn at *
                have hf := row_free HP6.out 1
                have hc : w7.cell? ⟨g, 1, none⟩ = some (.int .u64 p.d) := row_cell HP6.out 1 _ rfl
                have HA := Lib.hid (((At.base HP6.out).set 1 (.int .u64 nn)).conv (cs' := { p with d := nn }.row.toArray) (by simp [Pm.row]))
                clear hnk hq1 hq2 htk HDM HNO hxl
                go_wp2_with fail
                have hA2 := HA.out
                generalize w7.setCell ⟨g, 1, none⟩ (.int .u64 nn) = w8 at hA2 ⊢
                have HP8 := Lib.hid hA2.row
                have hg8 := hA2.rest
                have hR8 := HR6.out.aside hg8 (.inr (by have := HR6.out.lo; omega)) (by omega)
                have HR8 := Lib.hid hR8
                have HL8 := Lib.hid (HL6.out.grown hg8 HL6.out.size (by intro k hk; injection hk with hk; have := HGZ.out; omega))
                have HR08 := Lib.hid (grown_row hg8 (b := g0) (by intro e; injection e with e; omega) HR06.out)
                have HC8 := Lib.hid (grown_row hg8 (b := gc) (by intro e; injection e with e; omega) HC6.out)
                clear hg8 hR8 hA2 hf hc HA
                go_roundg k'
                case rel => exact ⟨r2, false, { p with d := nn }, came ++ [4], hr2, hkc', hpf, Lib.hid (.inl ⟨rfl, HDD.out⟩), HL8, HR08, HP8, HC8, HR8⟩
                case measure => omega
              · have htk2 : (takeM p 4 x).2 ≠ true := by rw [htk]; exact hnk
                have hnq := fun h => hnk ((numOk_iff x).2 h)
                have HFF : Hid (decF bs = (zeroPm, false)) := Lib.hid (by rw [HF.out, ← HDM.out, if_neg HNO.out, if_neg htk2]; rfl)
                obtain ⟨f0, f1, f2, f3, f4, f5, f6, f7, f8, f9, f10, f11⟩ := free12 HR06.out
                obtain ⟨z0, z1, z2, z3, z4, z5, z6, z7, z8, z9, z10, z11⟩ := row12 HR06.out
                by_cases hq1 : getS x = xl
                · have hs1 : ((getS x : Int) != (xl : Int)) = false := by rw [hq1]; simp
                  have hs2 : ((getS x : Int) == 0) = true := by
                    have hz : getS x = 0 := Classical.byContradiction fun h => hnq ⟨by rw [hq1, hxl], h⟩
                    rw [hz]; rfl
                  generalize getS x = sz at *
                  clear hnk htk htk2 hnq hq1 hxl HNO HDM
                  go_wp2_with fail
                  have hA := set12 HR06.out (.int .u64 0) (.int .u64 0) (.int .u64 0) (.int .u64 0) (.int .u8 0) (.int .u8 0) (.int .u8 0) (.int .u8 0) (.int .u8 0) (.int .u8 0) (.int .u8 0) (.int .u8 0)
                  have hge : w.heap.size ≤ g0 := by rw [HGZ.out]; exact Nat.le_refl _
                  generalize ((((((((((((w7.setCell ⟨g0, 0, none⟩ (.int .u64 0)).setCell ⟨g0, 1, none⟩ (.int .u64 0)).setCell ⟨g0, 2, none⟩ (.int .u64 0)).setCell ⟨g0, 3, none⟩ (.int .u64 0)).setCell ⟨g0, 4, none⟩ (.int .u8 0)).setCell ⟨g0, 5, none⟩ (.int .u8 0)).setCell ⟨g0, 6, none⟩ (.int .u8 0)).setCell ⟨g0, 7, none⟩ (.int .u8 0)).setCell ⟨g0, 8, none⟩ (.int .u8 0)).setCell ⟨g0, 9, none⟩ (.int .u8 0)).setCell ⟨g0, 10, none⟩ (.int .u8 0)).setCell ⟨g0, 11, none⟩ (.int .u8 0)) = W9 at hA ⊢
                  have hrow := hA.row
                  have hLZ : Below w.heap.size w W9 := HL6.out.grown hA.rest HL6.out.size (by intro k hk; injection hk with hk; omega)
                  obtain ⟨e0, e1, e2, e3, e4, e5, e6, e7, e8, e9, e10, e11⟩ := row12 hrow
                  exact bodyPost_ret (v := .tuple #[.agg #[.int .u64 0, .int .u64 0, .int .u64 0, .int .u64 0, .int .u8 0, .int .u8 0, .int .u8 0, .int .u8 0, .int .u8 0, .int .u8 0, .int .u8 0, .int .u8 0], .bool false]) (by simp [results, Try.results21, go_sem, e0, e1, e2, e3, e4, e5, e6, e7, e8, e9, e10, e11]) rfl ⟨by rw [HFF.out]; rfl, hLZ⟩
                · have hs1 : ((getS x : Int) != (xl : Int)) = true := by simp; omega
                  generalize getS x = sz at *
                  clear hnk htk htk2 hnq hq1 hxl HNO HDM
                  go_wp2_with fail
                  have hA := set12 HR06.out (.int .u64 0) (.int .u64 0) (.int .u64 0) (.int .u64 0) (.int .u8 0) (.int .u8 0) (.int .u8 0) (.int .u8 0) (.int .u8 0) (.int .u8 0) (.int .u8 0) (.int .u8 0)
                  have hge : w.heap.size ≤ g0 := by rw [HGZ.out]; exact Nat.le_refl _
                  generalize ((((((((((((w7.setCell ⟨g0, 0, none⟩ (.int .u64 0)).setCell ⟨g0, 1, none⟩ (.int .u64 0)).setCell ⟨g0, 2, none⟩ (.int .u64 0)).setCell ⟨g0, 3, none⟩ (.int .u64 0)).setCell ⟨g0, 4, none⟩ (.int .u8 0)).setCell ⟨g0, 5, none⟩ (.int .u8 0)).setCell ⟨g0, 6, none⟩ (.int .u8 0)).setCell ⟨g0, 7, none⟩ (.int .u8 0)).setCell ⟨g0, 8, none⟩ (.int .u8 0)).setCell ⟨g0, 9, none⟩ (.int .u8 0)).setCell ⟨g0, 10, none⟩ (.int .u8 0)).setCell ⟨g0, 11, none⟩ (.int .u8 0)) = W9 at hA ⊢
                  have hrow := hA.row
                  have hLZ : Below w.heap.size w W9 := HL6.out.grown hA.rest HL6.out.size (by intro k hk; injection hk with hk; omega)
                  obtain ⟨e0, e1, e2, e3, e4, e5, e6, e7, e8, e9, e10, e11⟩ := row12 hrow
                  exact bodyPost_ret (v := .tuple #[.agg #[.int .u64 0, .int .u64 0, .int .u64 0, .int .u64 0, .int .u8 0, .int .u8 0, .int .u8 0, .int .u8 0, .int .u8 0, .int .u8 0, .int .u8 0, .int .u8 0], .bool false]) (by simp [results, Try.results21, go_sem, e0, e1, e2, e3, e4, e5, e6, e7, e8, e9, e10, e11]) rfl ⟨by rw [HFF.out]; rfl, hLZ⟩
        have b4 : (id == 4) = false := by simpa using h4
        have n4 : (id != 4) = true := by simpa using h4
        by_cases h5 : id = 5
        · subst h5
          cases b2 with
          | true =>
            have HFF : Hid (decF bs = (zeroPm, false)) := Lib.hid (by rw [HF.out, ← HDM.out, if_pos (.inl rfl)]; rfl)
            obtain ⟨f0, f1, f2, f3, f4, f5, f6, f7, f8, f9, f10, f11⟩ := free12 HR05.out
            obtain ⟨z0, z1, z2, z3, z4, z5, z6, z7, z8, z9, z10, z11⟩ := row12 HR05.out
            go_wp2_with fail
            have hA := set12 HR05.out (.int .u64 0) (.int .u64 0) (.int .u64 0) (.int .u64 0) (.int .u8 0) (.int .u8 0) (.int .u8 0) (.int .u8 0) (.int .u8 0) (.int .u8 0) (.int .u8 0) (.int .u8 0)
            have hge : w.heap.size ≤ g0 := by rw [HGZ.out]; exact Nat.le_refl _
            generalize ((((((((((((w5.setCell ⟨g0, 0, none⟩ (.int .u64 0)).setCell ⟨g0, 1, none⟩ (.int .u64 0)).setCell ⟨g0, 2, none⟩ (.int .u64 0)).setCell ⟨g0, 3, none⟩ (.int .u64 0)).setCell ⟨g0, 4, none⟩ (.int .u8 0)).setCell ⟨g0, 5, none⟩ (.int .u8 0)).setCell ⟨g0, 6, none⟩ (.int .u8 0)).setCell ⟨g0, 7, none⟩ (.int .u8 0)).setCell ⟨g0, 8, none⟩ (.int .u8 0)).setCell ⟨g0, 9, none⟩ (.int .u8 0)).setCell ⟨g0, 10, none⟩ (.int .u8 0)).setCell ⟨g0, 11, none⟩ (.int .u8 0)) = W9 at hA ⊢
            have hrow := hA.row
            have hLZ : Below w.heap.size w W9 := HL5.out.grown hA.rest HL5.out.size (by intro k hk; injection hk with hk; omega)
            obtain ⟨e0, e1, e2, e3, e4, e5, e6, e7, e8, e9, e10, e11⟩ := row12 hrow
            exact bodyPost_ret (v := .tuple #[.agg #[.int .u64 0, .int .u64 0, .int .u64 0, .int .u64 0, .int .u8 0, .int .u8 0, .int .u8 0, .int .u8 0, .int .u8 0, .int .u8 0, .int .u8 0, .int .u8 0], .bool false]) (by simp [results, Try.results21, go_sem, e0, e1, e2, e3, e4, e5, e6, e7, e8, e9, e10, e11]) rfl ⟨by rw [HFF.out]; rfl, hLZ⟩
          | false =>
            have k0 : w5.cell? ⟨gc, 5, none⟩ = some (camB came 5) := row_cell HC5.out 5 _ rfl
            unfold camB at k0
            by_cases hin : (5 : Int) ∈ came
            · rw [decide_eq_true hin] at k0
              have hpf2 : (false = true ∨ knownId 5 = true ∧ (5 : Int) ∈ came) := .inr ⟨rfl, hin⟩
              have HFF : Hid (decF bs = (zeroPm, false)) := Lib.hid (by rw [HF.out, ← HDM.out, if_pos hpf2]; rfl)
              obtain ⟨f0, f1, f2, f3, f4, f5, f6, f7, f8, f9, f10, f11⟩ := free12 HR05.out
              obtain ⟨z0, z1, z2, z3, z4, z5, z6, z7, z8, z9, z10, z11⟩ := row12 HR05.out
              clear hin hpf2
              go_wp2_with fail
              have hA := set12 HR05.out (.int .u64 0) (.int .u64 0) (.int .u64 0) (.int .u64 0) (.int .u8 0) (.int .u8 0) (.int .u8 0) (.int .u8 0) (.int .u8 0) (.int .u8 0) (.int .u8 0) (.int .u8 0)
              have hge : w.heap.size ≤ g0 := by rw [HGZ.out]; exact Nat.le_refl _
              generalize ((((((((((((w5.setCell ⟨g0, 0, none⟩ (.int .u64 0)).setCell ⟨g0, 1, none⟩ (.int .u64 0)).setCell ⟨g0, 2, none⟩ (.int .u64 0)).setCell ⟨g0, 3, none⟩ (.int .u64 0)).setCell ⟨g0, 4, none⟩ (.int .u8 0)).setCell ⟨g0, 5, none⟩ (.int .u8 0)).setCell ⟨g0, 6, none⟩ (.int .u8 0)).setCell ⟨g0, 7, none⟩ (.int .u8 0)).setCell ⟨g0, 8, none⟩ (.int .u8 0)).setCell ⟨g0, 9, none⟩ (.int .u8 0)).setCell ⟨g0, 10, none⟩ (.int .u8 0)).setCell ⟨g0, 11, none⟩ (.int .u8 0)) = W9 at hA ⊢
              have hrow := hA.row
              have hLZ : Below w.heap.size w W9 := HL5.out.grown hA.rest HL5.out.size (by intro k hk; injection hk with hk; omega)
              obtain ⟨e0, e1, e2, e3, e4, e5, e6, e7, e8, e9, e10, e11⟩ := row12 hrow
              exact bodyPost_ret (v := .tuple #[.agg #[.int .u64 0, .int .u64 0, .int .u64 0, .int .u64 0, .int .u8 0, .int .u8 0, .int .u8 0, .int .u8 0, .int .u8 0, .int .u8 0, .int .u8 0, .int .u8 0], .bool false]) (by simp [results, Try.results21, go_sem, e0, e1, e2, e3, e4, e5, e6, e7, e8, e9, e10, e11]) rfl ⟨by rw [HFF.out]; rfl, hLZ⟩
            · rw [decide_eq_false hin] at k0
              have hno : ¬ (false = true ∨ knownId 5 = true ∧ (5 : Int) ∈ came) := by simp [hin]
              have HNO := Lib.hid hno
              clear hin hno
              have fgc := row_free HC5.out 5
              have hAC := (At.base HC5.out).set 5 (.bool true)
              have hCC : ((camRow came).toArray.setIfInBounds 5 (.bool true)) = (camRow (came ++ [5])).toArray := by
                unfold camRow
                rw [camB_add, camB_add, camB_add, camB_add, camB_add]
                simp
              have hAC2 := hAC.conv hCC
              have HAC := Lib.hid hAC2
              clear hAC hCC hAC2
              go_upto_region 11 with fail
              have hA2 := HAC.out
              generalize w5.setCell ⟨gc, 5, none⟩ (.bool true) = w6 at hA2 ⊢
              have hC6 := hA2.row
              have hg6 := hA2.rest
              have hR6 := HR5.out.aside hg6 (.inr (by have := HR5.out.lo; omega)) (by omega)
              have HR6 := Lib.hid hR6; have HC6 := Lib.hid hC6
              have HL6 := Lib.hid (HL5.out.grown hg6 HL5.out.size (by intro k hk; injection hk with hk; have := HGZ.out; omega))
              have HR06 := Lib.hid (grown_row hg6 (b := g0) (by intro e; injection e with e; omega) HR05.out)
              have HP6 := Lib.hid (grown_row hg6 (b := g) (by intro e; injection e with e; omega) HP5.out)
              have HI6 := Lib.hid (HI5.out.grown (r := some gc) hg6 (fun y hy e => by have := hxlo y hy; injection e with e; have := HG4.out; omega))
              clear hC6 hg6 hA2 hR6 q1 k0 fgc HAC HR5 HC5 HL5 HR05 HP5 HI5
              go_wp2_with fail
              refine Calls.mono (rget_any w6 xa xl xc x (by omega) hxc HI6.out) ?_
              rintro e w7 ⟨rfl, rfl⟩
              have htk : takeM p 5 x = ({ p with s := (varM x false).1 }, numOk x) := by simp [takeM]
              by_cases hnk : numOk x = true
              · obtain ⟨hq1, hq2⟩ := (numOk_iff x).1 hnk
                have HDD : Hid (decM k' r2 { p with s := getN x } (came ++ [5]) = D) := Lib.hid (by rw [← HDM.out, if_neg HNO.out, htk, hnk, if_pos rfl, varM_n x hq2])
                have hs1 : ((getS x : Int) != (xl : Int)) = false := by rw [hq1, hxl]; simp
                have hs2 : ((getS x : Int) == 0) = false := by simp; omega
                generalize getS x = sz at *
                generalize getN x = nn at *
                have hf := row_free HP6.out 2
                have hc : w7.cell? ⟨g, 2, none⟩ = some (.int .u64 p.s) := row_cell HP6.out 2 _ rfl
                have HA := Lib.hid (((At.base HP6.out).set 2 (.int .u64 nn)).conv (cs' := { p with s := nn }.row.toArray) (by simp [Pm.row]))
                clear hnk hq1 hq2 htk HDM HNO hxl
                go_wp2_with fail
                have hA2 := HA.out
                generalize w7.setCell ⟨g, 2, none⟩ (.int .u64 nn) = w8 at hA2 ⊢
                have HP8 := Lib.hid hA2.row
                have hg8 := hA2.rest
                have hR8 := HR6.out.aside hg8 (.inr (by have := HR6.out.lo; omega)) (by omega)
                have HR8 := Lib.hid hR8
                have HL8 := Lib.hid (HL6.out.grown hg8 HL6.out.size (by intro k hk; injection hk with hk; have := HGZ.out; omega))
                have HR08 := Lib.hid (grown_row hg8 (b := g0) (by intro e; injection e with e; omega) HR06.out)
                have HC8 := Lib.hid (grown_row hg8 (b := gc) (by intro e; injection e with e; omega) HC6.out)
                clear hg8 hR8 hA2 hf hc HA
                go_roundg k'
                case rel => exact ⟨r2, false, { p with s := nn }, came ++ [5], hr2, hkc', hpf, Lib.hid (.inl ⟨rfl, HDD.out⟩), HL8, HR08, HP8, HC8, HR8⟩
                case measure => omega
              · have htk2 : (takeM p 5 x).2 ≠ true := by rw [htk]; exact hnk
                have hnq := fun h => hnk ((numOk_iff x).2 h)
                have HFF : Hid (decF bs = (zeroPm, false)) := Lib.hid (by rw [HF.out, ← HDM.out, if_neg HNO.out, if_neg htk2]; rfl)
                obtain ⟨f0, f1, f2, f3, f4, f5, f6, f7, f8, f9, f10, f11⟩ := free12 HR06.out
                obtain ⟨z0, z1, z2, z3, z4, z5, z6, z7, z8, z9, z10, z11⟩ := row12 HR06.out
                by_cases hq1 : getS x = xl
                · have hs1 : ((getS x : Int) != (xl : Int)) = false := by rw [hq1]; simp
                  have hs2 : ((getS x : Int) == 0) = true := by
                    have hz : getS x = 0 := Classical.byContradiction fun h => hnq ⟨by rw [hq1, hxl], h⟩
                    rw [hz]; rfl
                  generalize getS x = sz at *
                  clear hnk htk htk2 hnq hq1 hxl HNO HDM
                  go_wp2_with fail
                  have hA := set12 HR06.out (.int .u64 0) (.int .u64 0) (.int .u64 0) (.int .u64 0) (.int .u8 0) (.int .u8 0) (.int .u8 0) (.int .u8 0) (.int .u8 0) (.int .u8 0) (.int .u8 0) (.int .u8 0)
                  have hge : w.heap.size ≤ g0 := by rw [HGZ.out]; exact Nat.le_refl _
                  generalize ((((((((((((w7.setCell ⟨g0, 0, none⟩ (.int .u64 0)).setCell ⟨g0, 1, none⟩ (.int .u64 0)).setCell ⟨g0, 2, none⟩ (.int .u64 0)).setCell ⟨g0, 3, none⟩ (.int .u64 0)).setCell ⟨g0, 4, none⟩ (.int .u8 0)).setCell ⟨g0, 5, none⟩ (.int .u8 0)).setCell ⟨g0, 6, none⟩ (.int .u8 0)).setCell ⟨g0, 7, none⟩ (.int .u8 0)).setCell ⟨g0, 8, none⟩ (.int .u8 0)).setCell ⟨g0, 9, none⟩ (.int .u8 0)).setCell ⟨g0, 10, none⟩ (.int .u8 0)).setCell ⟨g0, 11, none⟩ (.int .u8 0)) = W9 at hA ⊢
                  have hrow := hA.row
                  have hLZ : Below w.heap.size w W9 := HL6.out.grown hA.rest HL6.out.size (by intro k hk; injection hk with hk; omega)
                  obtain ⟨e0, e1, e2, e3, e4, e5, e6, e7, e8, e9, e10, e11⟩ := row12 hrow
                  exact bodyPost_ret (v := .tuple #[.agg #[.int .u64 0, .int .u64 0, .int .u64 0, .int .u64 0, .int .u8 0, .int .u8 0, .int .u8 0, .int .u8 0, .int .u8 0, .int .u8 0, .int .u8 0, .int .u8 0], .bool false]) (by simp [results, Try.results21, go_sem, e0, e1, e2, e3, e4, e5, e6, e7, e8, e9, e10, e11]) rfl ⟨by rw [HFF.out]; rfl, hLZ⟩
                · have hs1 : ((getS x : Int) != (xl : Int)) = true := by simp; omega
                  generalize getS x = sz at *
                  clear hnk htk htk2 hnq hq1 hxl HNO HDM
                  go_wp2_with fail
                  have hA := set12 HR06.out (.int .u64 0) (.int .u64 0) (.int .u64 0) (.int .u64 0) (.int .u8 0) (.int .u8 0) (.int .u8 0) (.int .u8 0) (.int .u8 0) (.int .u8 0) (.int .u8 0) (.int .u8 0)
                  have hge : w.heap.size ≤ g0 := by rw [HGZ.out]; exact Nat.le_refl _
                  generalize ((((((((((((w7.setCell ⟨g0, 0, none⟩ (.int .u64 0)).setCell ⟨g0, 1, none⟩ (.int .u64 0)).setCell ⟨g0, 2, none⟩ (.int .u64 0)).setCell ⟨g0, 3, none⟩ (.int .u64 0)).setCell ⟨g0, 4, none⟩ (.int .u8 0)).setCell ⟨g0, 5, none⟩ (.int .u8 0)).setCell ⟨g0, 6, none⟩ (.int .u8 0)).setCell ⟨g0, 7, none⟩ (.int .u8 0)).setCell ⟨g0, 8, none⟩ (.int .u8 0)).setCell ⟨g0, 9, none⟩ (.int .u8 0)).setCell ⟨g0, 10, none⟩ (.int .u8 0)).setCell ⟨g0, 11, none⟩ (.int .u8 0)) = W9 at hA ⊢
                  have hrow := hA.row
                  have hLZ : Below w.heap.size w W9 := HL6.out.grown hA.rest HL6.out.size (by intro k hk; injection hk with hk; omega)
                  obtain ⟨e0, e1, e2, e3, e4, e5, e6, e7, e8, e9, e10, e11⟩ := row12 hrow
                  exact bodyPost_ret (v := .tuple #[.agg #[.int .u64 0, .int .u64 0, .int .u64 0, .int .u64 0, .int .u8 0, .int .u8 0, .int .u8 0, .int .u8 0, .int .u8 0, .int .u8 0, .int .u8 0, .int .u8 0], .bool false]) (by simp [results, Try.results21, go_sem, e0, e1, e2, e3, e4, e5, e6, e7, e8, e9, e10, e11]) rfl ⟨by rw [HFF.out]; rfl, hLZ⟩
        have b5 : (id == 5) = false := by simpa using h5
        have n5 : (id != 5) = true := by simpa using h5
        by_cases h8 : id = 8
        · subst h8
          cases b2 with
          | true =>
            have HFF : Hid (decF bs = (zeroPm, false)) := Lib.hid (by rw [HF.out, ← HDM.out, if_pos (.inl rfl)]; rfl)
            obtain ⟨f0, f1, f2, f3, f4, f5, f6, f7, f8, f9, f10, f11⟩ := free12 HR05.out
            obtain ⟨z0, z1, z2, z3, z4, z5, z6, z7, z8, z9, z10, z11⟩ := row12 HR05.out
            go_wp2_with fail
            have hA := set12 HR05.out (.int .u64 0) (.int .u64 0) (.int .u64 0) (.int .u64 0) (.int .u8 0) (.int .u8 0) (.int .u8 0) (.int .u8 0) (.int .u8 0) (.int .u8 0) (.int .u8 0) (.int .u8 0)
            have hge : w.heap.size ≤ g0 := by rw [HGZ.out]; exact Nat.le_refl _
            generalize ((((((((((((w5.setCell ⟨g0, 0, none⟩ (.int .u64 0)).setCell ⟨g0, 1, none⟩ (.int .u64 0)).setCell ⟨g0, 2, none⟩ (.int .u64 0)).setCell ⟨g0, 3, none⟩ (.int .u64 0)).setCell ⟨g0, 4, none⟩ (.int .u8 0)).setCell ⟨g0, 5, none⟩ (.int .u8 0)).setCell ⟨g0, 6, none⟩ (.int .u8 0)).setCell ⟨g0, 7, none⟩ (.int .u8 0)).setCell ⟨g0, 8, none⟩ (.int .u8 0)).setCell ⟨g0, 9, none⟩ (.int .u8 0)).setCell ⟨g0, 10, none⟩ (.int .u8 0)).setCell ⟨g0, 11, none⟩ (.int .u8 0)) = W9 at hA ⊢
            have hrow := hA.row
            have hLZ : Below w.heap.size w W9 := HL5.out.grown hA.rest HL5.out.size (by intro k hk; injection hk with hk; omega)
            obtain ⟨e0, e1, e2, e3, e4, e5, e6, e7, e8, e9, e10, e11⟩ := row12 hrow
            exact bodyPost_ret (v := .tuple #[.agg #[.int .u64 0, .int .u64 0, .int .u64 0, .int .u64 0, .int .u8 0, .int .u8 0, .int .u8 0, .int .u8 0, .int .u8 0, .int .u8 0, .int .u8 0, .int .u8 0], .bool false]) (by simp [results, Try.results21, go_sem, e0, e1, e2, e3, e4, e5, e6, e7, e8, e9, e10, e11]) rfl ⟨by rw [HFF.out]; rfl, hLZ⟩
          | false =>
            have k0 : w5.cell? ⟨gc, 8, none⟩ = some (camB came 8) := row_cell HC5.out 8 _ rfl
            unfold camB at k0
            by_cases hin : (8 : Int) ∈ came
            · rw [decide_eq_true hin] at k0
              have hpf2 : (false = true ∨ knownId 8 = true ∧ (8 : Int) ∈ came) := .inr ⟨rfl, hin⟩
              have HFF : Hid (decF bs = (zeroPm, false)) := Lib.hid (by rw [HF.out, ← HDM.out, if_pos hpf2]; rfl)
              obtain ⟨f0, f1, f2, f3, f4, f5, f6, f7, f8, f9, f10, f11⟩ := free12 HR05.out
              obtain ⟨z0, z1, z2, z3, z4, z5, z6, z7, z8, z9, z10, z11⟩ := row12 HR05.out
              clear hin hpf2
              go_wp2_with fail
              have hA := set12 HR05.out (.int .u64 0) (.int .u64 0) (.int .u64 0) (.int .u64 0) (.int .u8 0) (.int .u8 0) (.int .u8 0) (.int .u8 0) (.int .u8 0) (.int .u8 0) (.int .u8 0) (.int .u8 0)
              have hge : w.heap.size ≤ g0 := by rw [HGZ.out]; exact Nat.le_refl _
              generalize ((((((((((((w5.setCell ⟨g0, 0, none⟩ (.int .u64 0)).setCell ⟨g0, 1, none⟩ (.int .u64 0)).setCell ⟨g0, 2, none⟩ (.int .u64 0)).setCell ⟨g0, 3, none⟩ (.int .u64 0)).setCell ⟨g0, 4, none⟩ (.int .u8 0)).setCell ⟨g0, 5, none⟩ (.int .u8 0)).setCell ⟨g0, 6, none⟩ (.int .u8 0)).setCell ⟨g0, 7, none⟩ (.int .u8 0)).setCell ⟨g0, 8, none⟩ (.int .u8 0)).setCell ⟨g0, 9, none⟩ (.int .u8 0)).setCell ⟨g0, 10, none⟩ (.int .u8 0)).setCell ⟨g0, 11, none⟩ (.int .u8 0)) = W9 at hA ⊢
              have hrow := hA.row
              have hLZ : Below w.heap.size w W9 := HL5.out.grown hA.rest HL5.out.size (by intro k hk; injection hk with hk; omega)
              obtain ⟨e0, e1, e2, e3, e4, e5, e6, e7, e8, e9, e10, e11⟩ := row12 hrow
              exact bodyPost_ret (v := .tuple #[.agg #[.int .u64 0, .int .u64 0, .int .u64 0, .int .u64 0, .int .u8 0, .int .u8 0, .int .u8 0, .int .u8 0, .int .u8 0, .int .u8 0, .int .u8 0, .int .u8 0], .bool false]) (by simp [results, Try.results21, go_sem, e0, e1, e2, e3, e4, e5, e6, e7, e8, e9, e10, e11]) rfl ⟨by rw [HFF.out]; rfl, hLZ⟩
            · rw [decide_eq_false hin] at k0
              have hno : ¬ (false = true ∨ knownId 8 = true ∧ (8 : Int) ∈ came) := by simp [hin]
              have HNO := Lib.hid hno
              clear hin hno
              have fgc := row_free HC5.out 8
              have hAC := (At.base HC5.out).set 8 (.bool true)
              have hCC : ((camRow came).toArray.setIfInBounds 8 (.bool true)) = (camRow (came ++ [8])).toArray := by
                unfold camRow
                rw [camB_add, camB_add, camB_add, camB_add, camB_add]
                simp
              have hAC2 := hAC.conv hCC
              have HAC := Lib.hid hAC2
              clear hAC hCC hAC2
              go_upto_region 11 with fail
              have hA2 := HAC.out
              generalize w5.setCell ⟨gc, 8, none⟩ (.bool true) = w6 at hA2 ⊢
              have hC6 := hA2.row
              have hg6 := hA2.rest
              have hR6 := HR5.out.aside hg6 (.inr (by have := HR5.out.lo; omega)) (by omega)
              have HR6 := Lib.hid hR6; have HC6 := Lib.hid hC6
              have HL6 := Lib.hid (HL5.out.grown hg6 HL5.out.size (by intro k hk; injection hk with hk; have := HGZ.out; omega))
              have HR06 := Lib.hid (grown_row hg6 (b := g0) (by intro e; injection e with e; omega) HR05.out)
              have HP6 := Lib.hid (grown_row hg6 (b := g) (by intro e; injection e with e; omega) HP5.out)
              have HI6 := Lib.hid (HI5.out.grown (r := some gc) hg6 (fun y hy e => by have := hxlo y hy; injection e with e; have := HG4.out; omega))
              clear hC6 hg6 hA2 hR6 q1 k0 fgc HAC HR5 HC5 HL5 HR05 HP5 HI5
              go_wp2_with fail
              refine Calls.mono (rget_any w6 xa xl xc x (by omega) hxc HI6.out) ?_
              rintro e w7 ⟨rfl, rfl⟩
              have htk : takeM p 8 x = ({ p with m := (varM x false).1 }, numOk x) := by simp [takeM]
              by_cases hnk : numOk x = true
              · obtain ⟨hq1, hq2⟩ := (numOk_iff x).1 hnk
                have HDD : Hid (decM k' r2 { p with m := getN x } (came ++ [8]) = D) := Lib.hid (by rw [← HDM.out, if_neg HNO.out, htk, hnk, if_pos rfl, varM_n x hq2])
                have hs1 : ((getS x : Int) != (xl : Int)) = false := by rw [hq1, hxl]; simp
                have hs2 : ((getS x : Int) == 0) = false := by simp; omega
                generalize getS x = sz at *
                generalize getN x = nn at *
                have hf := row_free HP6.out 3
                have hc : w7.cell? ⟨g, 3, none⟩ = some (.int .u64 p.m) := row_cell HP6.out 3 _ rfl
                have HA := Lib.hid (((At.base HP6.out).set 3 (.int .u64 nn)).conv (cs' := { p with m := nn }.row.toArray) (by simp [Pm.row]))
                clear hnk hq1 hq2 htk HDM HNO hxl
                go_wp2_with fail
                have hA2 := HA.out
                generalize w7.setCell ⟨g, 3, none⟩ (.int .u64 nn) = w8 at hA2 ⊢
                have HP8 := Lib.hid hA2.row
                have hg8 := hA2.rest
                have hR8 := HR6.out.aside hg8 (.inr (by have := HR6.out.lo; omega)) (by omega)
                have HR8 := Lib.hid hR8
                have HL8 := Lib.hid (HL6.out.grown hg8 HL6.out.size (by intro k hk; injection hk with hk; have := HGZ.out; omega))
                have HR08 := Lib.hid (grown_row hg8 (b := g0) (by intro e; injection e with e; omega) HR06.out)
                have HC8 := Lib.hid (grown_row hg8 (b := gc) (by intro e; injection e with e; omega) HC6.out)
                clear hg8 hR8 hA2 hf hc HA
                go_roundg k'
                case rel => exact ⟨r2, false, { p with m := nn }, came ++ [8], hr2, hkc', hpf, Lib.hid (.inl ⟨rfl, HDD.out⟩), HL8, HR08, HP8, HC8, HR8⟩
                case measure => omega
              · have htk2 : (takeM p 8 x).2 ≠ true := by rw [htk]; exact hnk
                have hnq := fun h => hnk ((numOk_iff x).2 h)
                have HFF : Hid (decF bs = (zeroPm, false)) := Lib.hid (by rw [HF.out, ← HDM.out, if_neg HNO.out, if_neg htk2]; rfl)
                obtain ⟨f0, f1, f2, f3, f4, f5, f6, f7, f8, f9, f10, f11⟩ := free12 HR06.out
                obtain ⟨z0, z1, z2, z3, z4, z5, z6, z7, z8, z9, z10, z11⟩ := row12 HR06.out
                by_cases hq1 : getS x = xl
                · have hs1 : ((getS x : Int) != (xl : Int)) = false := by rw [hq1]; simp
                  have hs2 : ((getS x : Int) == 0) = true := by
                    have hz : getS x = 0 := Classical.byContradiction fun h => hnq ⟨by rw [hq1, hxl], h⟩
                    rw [hz]; rfl
                  generalize getS x = sz at *
                  clear hnk htk htk2 hnq hq1 hxl HNO HDM
                  go_wp2_with fail
                  have hA := set12 HR06.out (.int .u64 0) (.int .u64 0) (.int .u64 0) (.int .u64 0) (.int .u8 0) (.int .u8 0) (.int .u8 0) (.int .u8 0) (.int .u8 0) (.int .u8 0) (.int .u8 0) (.int .u8 0)
                  have hge : w.heap.size ≤ g0 := by rw [HGZ.out]; exact Nat.le_refl _
                  generalize ((((((((((((w7.setCell ⟨g0, 0, none⟩ (.int .u64 0)).setCell ⟨g0, 1, none⟩ (.int .u64 0)).setCell ⟨g0, 2, none⟩ (.int .u64 0)).setCell ⟨g0, 3, none⟩ (.int .u64 0)).setCell ⟨g0, 4, none⟩ (.int .u8 0)).setCell ⟨g0, 5, none⟩ (.int .u8 0)).setCell ⟨g0, 6, none⟩ (.int .u8 0)).setCell ⟨g0, 7, none⟩ (.int .u8 0)).setCell ⟨g0, 8, none⟩ (.int .u8 0)).setCell ⟨g0, 9, none⟩ (.int .u8 0)).setCell ⟨g0, 10, none⟩ (.int .u8 0)).setCell ⟨g0, 11, none⟩ (.int .u8 0)) = W9 at hA ⊢
                  have hrow := hA.row
                  have hLZ : Below w.heap.size w W9 := HL6.out.grown hA.rest HL6.out.size (by intro k hk; injection hk with hk; omega)
                  obtain ⟨e0, e1, e2, e3, e4, e5, e6, e7, e8, e9, e10, e11⟩ := row12 hrow
                  exact bodyPost_ret (v := .tuple #[.agg #[.int .u64 0, .int .u64 0, .int .u64 0, .int .u64 0, .int .u8 0, .int .u8 0, .int .u8 0, .int .u8 0, .int .u8 0, .int .u8 0, .int .u8 0, .int .u8 0], .bool false]) (by simp [results, Try.results21, go_sem, e0, e1, e2, e3, e4, e5, e6, e7, e8, e9, e10, e11]) rfl ⟨by rw [HFF.out]; rfl, hLZ⟩
                · have hs1 : ((getS x : Int) != (xl : Int)) = true := by simp; omega
                  generalize getS x = sz at *
                  clear hnk htk htk2 hnq hq1 hxl HNO HDM
                  go_wp2_with fail
                  have hA := set12 HR06.out (.int .u64 0) (.int .u64 0) (.int .u64 0) (.int .u64 0) (.int .u8 0) (.int .u8 0) (.int .u8 0) (.int .u8 0) (.int .u8 0) (.int .u8 0) (.int .u8 0) (.int .u8 0)
                  have hge : w.heap.size ≤ g0 := by rw [HGZ.out]; exact Nat.le_refl _
                  generalize ((((((((((((w7.setCell ⟨g0, 0, none⟩ (.int .u64 0)).setCell ⟨g0, 1, none⟩ (.int .u64 0)).setCell ⟨g0, 2, none⟩ (.int .u64 0)).setCell ⟨g0, 3, none⟩ (.int .u64 0)).setCell ⟨g0, 4, none⟩ (.int .u8 0)).setCell ⟨g0, 5, none⟩ (.int .u8 0)).setCell ⟨g0, 6, none⟩ (.int .u8 0)).setCell ⟨g0, 7, none⟩ (.int .u8 0)).setCell ⟨g0, 8, none⟩ (.int .u8 0)).setCell ⟨g0, 9, none⟩ (.int .u8 0)).setCell ⟨g0, 10, none⟩ (.int .u8 0)).setCell ⟨g0, 11, none⟩ (.int .u8 0)) = W9 at hA ⊢
                  have hrow := hA.row
                  have hLZ : Below w.heap.size w W9 := HL6.out.grown hA.rest HL6.out.size (by intro k hk; injection hk with hk; omega)
                  obtain ⟨e0, e1, e2, e3, e4, e5, e6, e7, e8, e9, e10, e11⟩ := row12 hrow
                  exact bodyPost_ret (v := .tuple #[.agg #[.int .u64 0, .int .u64 0, .int .u64 0, .int .u64 0, .int .u8 0, .int .u8 0, .int .u8 0, .int .u8 0, .int .u8 0, .int .u8 0, .int .u8 0, .int .u8 0], .bool false]) (by simp [results, Try.results21, go_sem, e0, e1, e2, e3, e4, e5, e6, e7, e8, e9, e10, e11]) rfl ⟨by rw [HFF.out]; rfl, hLZ⟩
        have b8 : (id == 8) = false := by simpa using h8
        have n8 : (id != 8) = true := by simpa using h8
        have hkn : knownId id = false := by unfold knownId; simp [h0, h1, h4, h5, h8]
        have htk : takeM p id x = (p, true) := by simp [takeM, h0, h1, h4, h5, h8]
        have HCR : Hid (w5.heap[gc]? = some (.cells (camRow (came ++ [id])).toArray 72 (0, 0))) := Lib.hid (by rw [camRow_none came id h0 h1 h4 h5 h8]; exact HC5.out)
        have HDN : Hid ((b2 = false ∧ decM k' r2 p (came ++ [id]) = D) ∨ (b2 = true ∧ D = none)) := Lib.hid (by
          have h := HDM.out
          cases b2 with
          | true => rw [if_pos (.inl rfl)] at h; exact .inr ⟨rfl, h.symm⟩
          | false => rw [if_neg (by simp [hkn]), htk, if_pos rfl] at h; exact .inl ⟨rfl, h⟩)
        clear hkn htk HDM h0 h1 h4 h5 h8 q1 hxl
        by_cases h9 : 8 < id
        · go_wp2_with fail
          go_roundg k'
          case rel => exact ⟨r2, b2, p, came ++ [id], hr2, hkc', hpf, HDN, HL5, HR05, HP5, HCR, HR5⟩
          case measure => omega
        · go_wp2_with fail
          go_roundg k'
          case rel => exact ⟨r2, b2, p, came ++ [id], hr2, hkc', hpf, HDN, HL5, HR05, HP5, HCR, HR5⟩
          case measure => omega
end Go.Proofs.Ytooneejimladdaa
