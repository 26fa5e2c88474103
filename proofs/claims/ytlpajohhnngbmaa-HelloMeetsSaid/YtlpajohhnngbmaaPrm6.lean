/- params: contract of Encode. -/
import Derived.Test.YtlpajohhnngbmaaPrm4
namespace Go.Proofs.Ytlpajohhnngbmaa
open Go.RowKit
set_option linter.unusedVariables false

def oneM (id n : Int) : List Int := if n = 0 then [] else putM id ++ (putM (putM n).length ++ putM n)
def prs (p : Pm) : List (Int × Int) := [(1, p.i), (4, p.d), (5, p.s), (8, p.m)]
def onesM (p : Pm) (j : Nat) : List Int := ((prs p).take j).flatMap fun x => oneM x.1 x.2
def encP (p : Pm) : List Int := onesM p 4 ++ (putM 0 ++ (putM p.f.length ++ p.f))
theorem sizeM_le (n : Int) : sizeM n ≤ 8 := by rcases sizeM_cases n with h | h | h | h | h <;> omega
theorem putM_le (n : Int) : (putM n).length ≤ 8 := by rw [putM_len]; exact sizeM_le n
theorem oneM_len (id n : Int) : (oneM id n).length ≤ 24 := by
  unfold oneM
  split
  · simp
  · have h1 := putM_le id; have h2 := putM_le n; have h3 := putM_le (putM n).length
    rw [List.length_append, List.length_append]; omega
theorem oneM_wf (id n : Int) (h0 : 0 ≤ id) (h1 : 0 ≤ n) : ∀ x ∈ oneM id n, (Lit.int .u8 x).wf = true := by
  unfold oneM
  split
  · simp
  · intro x hx
    rcases List.mem_append.1 hx with h | h
    · exact putM_wf _ h0 x h
    · rcases List.mem_append.1 h with h | h
      · exact putM_wf _ (by omega) x h
      · exact putM_wf _ h1 x h
theorem onesM_succ (p : Pm) (j : Nat) (a b : Int) (h : (prs p)[j]? = some (a, b)) : onesM p (j + 1) = onesM p j ++ oneM a b := by
  unfold onesM
  rw [List.take_add_one, h]; simp
theorem onesM_len (p : Pm) (j : Nat) : (onesM p j).length ≤ 24 * j := by
  induction j with
  | zero => simp [onesM]
  | succ j ih =>
    by_cases hj : j < 4
    · obtain ⟨⟨a, b⟩, h⟩ : ∃ r, (prs p)[j]? = some r := ⟨_, List.getElem?_eq_getElem hj⟩
      rw [onesM_succ p j a b h, List.length_append]
      have := oneM_len a b
      omega
    · have : onesM p (j + 1) = onesM p j := by
        unfold onesM
        rw [List.take_of_length_le (by show 4 ≤ j + 1; omega), List.take_of_length_le (by show 4 ≤ j; omega)]
      rw [this]; omega
theorem prs_in (p : Pm) (hr : rightM p = true) (hp : 0 ≤ p.i ∧ 0 ≤ p.d ∧ 0 ≤ p.s ∧ 0 ≤ p.m) (j : Nat) (a b : Int) (h : (prs p)[j]? = some (a, b)) : 1 ≤ a ∧ a ≤ 8 ∧ 0 ≤ b ∧ b ≤ 1099511627776 := by
  have hr := (rightM_eq p).1 hr
  match j, h with
  | 0, h => injection h with h; injection h with h1 h2; omega
  | 1, h => injection h with h; injection h with h1 h2; omega
  | 2, h => injection h with h; injection h with h1 h2; omega
  | 3, h => injection h with h; injection h with h1 h2; omega
theorem onesM_wf (p : Pm) (hr : rightM p = true) (hp : 0 ≤ p.i ∧ 0 ≤ p.d ∧ 0 ≤ p.s ∧ 0 ≤ p.m) (j : Nat) : ∀ x ∈ onesM p j, (Lit.int .u8 x).wf = true := by
  intro x hx
  unfold onesM at hx
  obtain ⟨⟨a, b⟩, h1, h2⟩ := List.mem_flatMap.1 hx
  obtain ⟨k, hk⟩ := List.getElem?_of_mem (List.mem_of_mem_take h1)
  have := prs_in p hr hp k a b hk
  exact oneM_wf a b (by omega) (by omega) x h2

theorem Ch.row {w w' : World} {p b : Nat} {q : Option Nat} {o : Obj} (h : Ch w w' p q) (hb : w.heap[b]? = some o) (h1 : b ≠ p) (h2 : q ≠ some b) : w'.heap[b]? = some o := (h.block b (lt_of_block hb) h1 h2).trans hb
theorem ints_tail {w : World} {g : Nat} {v0 v1 v2 v3 : Value} {ys : List Int} {t : TypeId} (h : w.heap[g]? = some (.cells ([v0, v1, v2, v3] ++ ys.map (Value.int .u8)).toArray t (0, 0))) (hw : ∀ x ∈ ys, (Lit.int .u8 x).wf = true) : IntsK .u8 w (some ⟨g, 4, none⟩) ys.length ys := by
  refine ⟨rfl, hw, .inr ⟨g, 4, rfl, lt_of_block h, fun i hi => ?_⟩⟩
  rw [cell_of_row _ _ _ _ _ _ h, List.getElem?_toArray, List.getElem?_append_right (by simp), List.getElem?_map]
  simp [List.getD_eq_getElem?_getD, hi]
def prRow (p : Pm) : List Value := (prs p).flatMap fun x => [.int .u64 x.1, .int .u64 x.2]
theorem prRow_at (p : Pm) (j : Nat) (a b : Int) (h : (prs p)[j]? = some (a, b)) : (prRow p)[j * 2]? = some (.int .u64 a) ∧ (prRow p)[j * 2 + 1]? = some (.int .u64 b) := by
  match j, h with
  | 0, h => injection h with h; injection h with h1 h2; subst h1 h2; exact ⟨rfl, rfl⟩
  | 1, h => injection h with h; injection h with h1 h2; subst h1 h2; exact ⟨rfl, rfl⟩
  | 2, h => injection h with h; injection h with h1 h2; subst h1 h2; exact ⟨rfl, rfl⟩
  | 3, h => injection h with h; injection h with h1 h2; subst h1 h2; exact ⟨rfl, rfl⟩

set_option maxRecDepth 100000 in
set_option maxHeartbeats 4000000 in
theorem pencode_core (w : World) (i d s m : Int) (y0 y1 y2 y3 y4 y5 y6 y7 : Int) (h0 : 0 ≤ i ∧ 0 ≤ d ∧ 0 ≤ s ∧ 0 ≤ m) (hw : ∀ x ∈ [y0, y1, y2, y3, y4, y5, y6, y7], (Lit.int .u8 x).wf = true) (hr : rightM ⟨i, d, s, m, [y0, y1, y2, y3, y4, y5, y6, y7]⟩ = true) :
    Calls Try.prog 36 #[Pm.val ⟨i, d, s, m, [y0, y1, y2, y3, y4, y5, y6, y7]⟩] w fun e w' => ∃ a cap, e = .returned (.tuple #[.slice a (encP ⟨i, d, s, m, [y0, y1, y2, y3, y4, y5, y6, y7]⟩).length cap, .int .i64 0]) ∧ (encP ⟨i, d, s, m, [y0, y1, y2, y3, y4, y5, y6, y7]⟩).length ≤ cap ∧ cap ≤ 9223372036854775807 ∧ IntsK .u8 w' a (encP ⟨i, d, s, m, [y0, y1, y2, y3, y4, y5, y6, y7]⟩).length (encP ⟨i, d, s, m, [y0, y1, y2, y3, y4, y5, y6, y7]⟩) ∧ (∀ x, a = some x → w.heap.size ≤ x.block) ∧ Below w.heap.size w w' := by
  have HRA := Lib.hid (fun w => right_any w ⟨i, d, s, m, [y0, y1, y2, y3, y4, y5, y6, y7]⟩ rfl)
  obtain ⟨P, hP⟩ : ∃ P : Pm, (⟨i, d, s, m, [y0, y1, y2, y3, y4, y5, y6, y7]⟩ : Pm) = P := ⟨_, rfl⟩
  have HRM : Hid (rightM P = true) := Lib.hid (by rw [← hP]; exact hr)
  have HEN : Hid (encP P = onesM P 4 ++ (putM 0 ++ (putM 8 ++ [y0, y1, y2, y3, y4, y5, y6, y7]))) := Lib.hid (by rw [← hP]; rfl)
  have HIN := Lib.hid (fun j a b h => prs_in P HRM.out (by rw [← hP]; exact h0) j a b h)
  have HWF := Lib.hid (fun j => onesM_wf P HRM.out (by rw [← hP]; exact h0) j)
  have HP0 : Hid ((prs P)[0]? = some (1, i)) := Lib.hid (by rw [← hP]; rfl)
  have HP1 : Hid ((prs P)[1]? = some (4, d)) := Lib.hid (by rw [← hP]; rfl)
  have HP2 : Hid ((prs P)[2]? = some (5, s)) := Lib.hid (by rw [← hP]; rfl)
  have HP3 : Hid ((prs P)[3]? = some (8, m)) := Lib.hid (by rw [← hP]; rfl)
  rw [hr] at HRA
  have HW := Lib.hid hw
  clear hr hw
  rw [hP]
  have HPP := Lib.hid hP
  rw [← hP]
  clear hP
  show Calls Try.prog 36 #[.agg #[.int .u64 i, .int .u64 d, .int .u64 s, .int .u64 m, .int .u8 y0, .int .u8 y1, .int .u8 y2, .int .u8 y3, .int .u8 y4, .int .u8 y5, .int .u8 y6, .int .u8 y7]] w _
  go_enter Try.func36, Try.ntmps36
  go_wp2_with fail
  refine Calls.mono (HRA.out _) ?_
  rintro e w2 ⟨rfl, hb2⟩
  have h1 := heap_alloc_new w (.cells #[.int .u64 i, .int .u64 d, .int .u64 s, .int .u64 m, .int .u8 y0, .int .u8 y1, .int .u8 y2, .int .u8 y3, .int .u8 y4, .int .u8 y5, .int .u8 y6, .int .u8 y7] 26)
  have hr2 := bl_row hb2 (by simp) h1
  have hL2 := ((Below.refl w.heap.size w).alloc (Nat.le_refl _) (.cells #[.int .u64 i, .int .u64 d, .int .u64 s, .int .u64 m, .int .u8 y0, .int .u8 y1, .int .u8 y2, .int .u8 y3, .int .u8 y4, .int .u8 y5, .int .u8 y6, .int .u8 y7] 26)).trans (hb2.mono (by simp))
  obtain ⟨gp, hgp⟩ : ∃ gp, w.heap.size = gp := ⟨_, rfl⟩
  rw [hgp] at hr2 ⊢
  have HGP := Lib.hid hgp
  have HP2' := Lib.hid hr2; have HL2 := Lib.hid hL2
  clear h1 hr2 hL2 hb2 hgp
  go_wp2_with fail
  refine Calls.mono (new_any w2) ?_
  rintro e w3 ⟨rfl, hW3, hb3⟩
  have hB := Nat.lt_of_lt_of_le (lt_of_block HP2'.out) (Nat.le_refl _)
  have hr3 := bl_row hb3 (lt_of_block HP2'.out) HP2'.out
  have HL3 := Lib.hid (bl_next HL2.out HL2.out.size hb3)
  obtain ⟨pw, hpw⟩ : ∃ pw, w2.heap.size = pw := ⟨_, rfl⟩
  rw [hpw] at hW3 hB ⊢
  have c0 : w3.cell? ⟨gp, 0, none⟩ = some (.int .u64 i) := row_cell hr3 0 _ rfl
  have c1 : w3.cell? ⟨gp, 1, none⟩ = some (.int .u64 d) := row_cell hr3 1 _ rfl
  have c2 : w3.cell? ⟨gp, 2, none⟩ = some (.int .u64 s) := row_cell hr3 2 _ rfl
  have c3 : w3.cell? ⟨gp, 3, none⟩ = some (.int .u64 m) := row_cell hr3 3 _ rfl
  have HR3 := Lib.hid hr3; have HW3 := Lib.hid hW3
  clear hr3 hW3 hb3 hpw HP2' HL2
  go_wp2_with fail
  have hx := heap_alloc_new w3 (.cells #[.int .u64 1, .int .u64 i, .int .u64 4, .int .u64 d, .int .u64 5, .int .u64 s, .int .u64 8, .int .u64 m] 90)
  have hbx := (Below.refl w3.heap.size w3).alloc (Nat.le_refl _) (.cells #[.int .u64 1, .int .u64 i, .int .u64 4, .int .u64 d, .int .u64 5, .int .u64 s, .int .u64 8, .int .u64 m] 90)
  have HW4 := Lib.hid (HW3.out.to hbx)
  have HR4 := Lib.hid (bl_row hbx (lt_of_block HR3.out) HR3.out)
  have HL4 := Lib.hid (bl_next HL3.out HL3.out.size hbx)
  have HX4 : Hid (_ = some (Obj.cells (prRow P).toArray 90 (0, 0))) := Lib.hid (hx.trans (by rw [← HPP.out]; rfl))
  have hpx := HW3.out.lt
  clear c0 c1 c2 c3 hx hbx HW3 HR3 HL3
  generalize w3.alloc (.cells #[.int .u64 1, .int .u64 i, .int .u64 4, .int .u64 d, .int .u64 5, .int .u64 s, .int .u64 8, .int .u64 m] 90) = W4 at HW4 HR4 HL4 HX4 ⊢
  obtain ⟨gx, hgx⟩ : ∃ gx, w3.heap.size = gx := ⟨_, rfl⟩
  rw [hgx] at HX4 hpx ⊢
  clear hgx
  go_loopw [26] (fun s26 wr => ∃ (j : Nat) (v : Value), s26 = .int .i64 j ∧ j ≤ 4 ∧ Hid (Below w.heap.size w wr) ∧ Hid (wr.heap[gp]? = some (.cells #[.int .u64 i, .int .u64 d, .int .u64 s, .int .u64 m, .int .u8 y0, .int .u8 y1, .int .u8 y2, .int .u8 y3, .int .u8 y4, .int .u8 y5, .int .u8 y6, .int .u8 y7] 26 (0, 0))) ∧
    Hid (wr.heap[gx]? = some (.cells (prRow P).toArray 90 (0, 0))) ∧ Hid (Wr wr pw pw v (onesM P j)) ∧ v.ownBlock ≠ some gx) (fun s26 _ => 4 - (intOf s26).toNat)
  case atStart => exact ⟨0, _, rfl, by omega, HL4, HR4, HX4, HW4, by simp [Value.ownBlock]⟩
  case round =>
    clear HL4 HR4 HX4 HW4
    obtain ⟨j, v, rfl, hj, HL, HR, HX, HWr, hvx⟩ := hrel
    by_cases hlt : j < 4
    · obtain ⟨⟨a, b⟩, hab⟩ : ∃ r, (prs P)[j]? = some r := ⟨_, List.getElem?_eq_getElem hlt⟩
      have hin := HIN.out j a b hab
      have hat := prRow_at P j a b hab
      have hon := onesM_succ P j a b hab
      have hle := onesM_len P j
      have c0 : wr.cell? ⟨gx, j * 2, none⟩ = some (.int .u64 a) := row_cell HX.out _ _ (by rw [List.getElem?_toArray]; exact hat.1)
      have c1 : wr.cell? ⟨gx, j * 2 + 1, none⟩ = some (.int .u64 b) := row_cell HX.out _ _ (by rw [List.getElem?_toArray]; exact hat.2)
      have HON := Lib.hid hon
      clear hat hon hab
      have hba := (Below.refl wr.heap.size wr).alloc (Nat.le_refl _) (.cells #[.int .u64 a, .int .u64 b] 90)
      have HLA := Lib.hid (bl_next HL.out HL.out.size hba)
      have HRA2 := Lib.hid (bl_row hba (lt_of_block HR.out) HR.out)
      have HXA := Lib.hid (bl_row hba (lt_of_block HX.out) HX.out)
      have HWA := Lib.hid (HWr.out.to hba)
      have HNA := Lib.hid (heap_alloc_new wr (.cells #[.int .u64 a, .int .u64 b] 90))
      have hgxl := lt_of_block HX.out
      clear hba
      by_cases hb0 : b = 0
      · subst hb0
        have HON2 : Hid (onesM P (j + 1) = onesM P j) := Lib.hid (by rw [HON.out]; simp [oneM])
        go_wp2_with fail
        go_roundw
        case rel => exact ⟨j + 1, v, by go_num, by omega, HLA, HRA2, HXA, by rw [HON2.out]; exact HWA, hvx⟩
        case measure => simp [intOf]; omega
      · have hb1 : 0 < b := by omega
        go_wp2_with fail
        generalize wr.alloc (.cells #[.int .u64 a, .int .u64 b] 90) = Wa at HLA HRA2 HXA HWA HNA ⊢
        obtain ⟨ga, hga⟩ : ∃ ga, wr.heap.size = ga := ⟨_, rfl⟩
        rw [hga] at HNA hgxl ⊢
        have hvl : ∀ k, v.ownBlock = some k → pw ≤ k ∧ k < ga := fun k hk => by have h := HWr.out.own.lt k hk; omega
        have HVL := Lib.hid hvl
        have hgaa := lt_of_block HNA.out
        clear hga HL HR HX HWr c0 c1 hvl
        refine Calls.mono (new_any Wa) ?_
        rintro e w5 ⟨rfl, hW5, hb5⟩
        obtain ⟨p2, hp2⟩ : ∃ p2, Wa.heap.size = p2 := ⟨_, rfl⟩
        rw [hp2] at hW5 hgaa ⊢
        have HL5 := Lib.hid (bl_next HLA.out HLA.out.size hb5)
        have HR5 := Lib.hid (bl_row hb5 (lt_of_block HRA2.out) HRA2.out)
        have HX5 := Lib.hid (bl_row hb5 (lt_of_block HXA.out) HXA.out)
        have HN5 := Lib.hid (bl_row hb5 (lt_of_block HNA.out) HNA.out)
        have HWr5 := Lib.hid (HWA.out.to hb5)
        have HW5 := Lib.hid hW5
        have hp5 := hW5.lt
        have c1 : w5.cell? ⟨ga, 1, none⟩ = some (.int .u64 b) := row_cell HN5.out 1 _ rfl
        clear hW5 hb5 HLA HRA2 HXA HNA HWA hp2
        go_wp2_with fail
        clear c1
        refine Calls.mono (wvar_any _ _ _ _ _ b (by simp) HW5.out (by omega)) ?_
        rintro e w6 ⟨v2, rfl, hW6, hC6, hv2⟩
        rw [List.nil_append] at hW6
        have hv2k : ∀ k, v2.ownBlock = some k → w5.heap.size ≤ k := fun k hk => by
          rcases hv2 with h | ⟨k2, h, h2⟩
          · rw [hk] at h; simp [Value.ownBlock] at h
          · rw [hk] at h2; injection h2 with h2; omega
        have HL6 := Lib.hid (hC6.below HL5.out HL5.out.size (by have := HGP.out; omega) (by intro k hk; simp [Value.ownBlock] at hk))
        have HR6 := Lib.hid (hC6.row HR5.out (by omega) (by simp [Value.ownBlock]))
        have HX6 := Lib.hid (hC6.row HX5.out (by omega) (by simp [Value.ownBlock]))
        have HN6 := Lib.hid (hC6.row HN5.out (by omega) (by simp [Value.ownBlock]))
        have HWr6 := Lib.hid (HWr5.out.ch (hC6.block pw HWr5.out.lt (by omega) (by simp [Value.ownBlock])) (fun k hk hl => hC6.block k hl (by have := HVL.out k hk; omega) (by simp [Value.ownBlock])))
        have HW6 := Lib.hid hW6
        have hs6 := hC6.size
        have c0 : w6.cell? ⟨ga, 0, none⟩ = some (.int .u64 a) := row_cell HN6.out 0 _ rfl
        have HV2 := Lib.hid hv2k
        clear hW6 hC6 hv2 hv2k HL5 HR5 HX5 HN5 HWr5 HW5
        go_wp2_with fail
        clear c0
        refine Calls.mono (wvar_any _ _ _ _ _ a (by omega) HWr6.out (by omega)) ?_
        rintro e w7 ⟨v3, rfl, hW7, hC7, hv3⟩
        have hv3k : ∀ k, v3.ownBlock = some k → (pw ≤ k ∧ k < ga) ∨ w6.heap.size ≤ k := fun k hk => by
          rcases hv3 with h | ⟨k2, h, h2⟩
          · rw [hk] at h; exact .inl (HVL.out k h.symm)
          · rw [hk] at h2; injection h2 with h2; exact .inr (by omega)
        have hvx3 : v3.ownBlock ≠ some gx := fun e => by
          rcases hv3 with h | ⟨k2, h, h2⟩
          · rw [e] at h; exact hvx h.symm
          · rw [e] at h2; injection h2 with h2; omega
        have HL7 := Lib.hid (hC7.below HL6.out HL6.out.size (by have := HGP.out; omega) (by intro k hk; have := HVL.out k hk; have := HGP.out; omega))
        have HR7 := Lib.hid (hC7.row HR6.out (by omega) (by intro e; have := HVL.out _ e; omega))
        have HX7 := Lib.hid (hC7.row HX6.out (by omega) hvx)
        have HWb7 := Lib.hid (HW6.out.ch (hC7.block p2 HW6.out.lt (by omega) (by intro e; have := HVL.out _ e; omega)) (fun k hk hl => hC7.block k hl (by have := HV2.out k hk; omega) (by intro e; have := HVL.out _ e; have := HV2.out k hk; omega)))
        have HW7 := Lib.hid hW7
        have hs7 := hC7.size
        have HV3 := Lib.hid hv3k
        clear hW7 hC7 hv3 hv3k HL6 HR6 HX6 HN6 HWr6 HW6 HVL
        go_wp2_with fail
        have hpb := putM_le b
        have hpa := putM_le a
        refine Calls.mono (wdone_any _ _ _ _ _ (by omega) (putM_wf b (by omega)) HWb7.out) ?_
        rintro e w8 ⟨a8, cp8, rfl, hc8, hm8, hi8, hlo8, hb8⟩
        have HL8 := Lib.hid (bl_next HL7.out HL7.out.size hb8)
        have HR8 := Lib.hid (bl_row hb8 (lt_of_block HR7.out) HR7.out)
        have HX8 := Lib.hid (bl_row hb8 (lt_of_block HX7.out) HX7.out)
        have HW8 := Lib.hid (HW7.out.to hb8)
        have HI8 := Lib.hid hi8
        have hs8 := hb8.size
        have HAP : Hid (0 < (putM b).length → ∀ x, a8 = some x → x.block ≠ pw ∧ v3.ownBlock ≠ some x.block) := Lib.hid (fun _ x hx => by
          have h := hlo8 x hx
          have hl := HW7.out.lt
          exact ⟨by omega, fun e => by have := (HW7.out.own.lt _ e).2; omega⟩)
        clear hi8 hlo8 hb8 HL7 HR7 HX7 HWb7 HW7
        go_wp2_with fail
        refine Calls.mono (wtext_any _ _ _ _ _ a8 _ cp8 _ (by rw [List.length_append]; omega) HW8.out HI8.out HAP.out) ?_
        rintro e w9 ⟨v4, rfl, hW9, hC9, hv4⟩
        have HL9 := Lib.hid (hC9.below HL8.out HL8.out.size (by have := HGP.out; omega) (by intro k hk; have := HV3.out k hk; have := HGP.out; omega))
        have HR9 := Lib.hid (hC9.row HR8.out (by omega) (by intro e; have := HV3.out _ e; omega))
        have HX9 := Lib.hid (hC9.row HX8.out (by omega) hvx3)
        have hvx4 : v4.ownBlock ≠ some gx := fun e => by
          rcases hv4 with h | ⟨k2, h, h2⟩
          · rw [e] at h; exact hvx3 h.symm
          · rw [e] at h2; injection h2 with h2; omega
        have hon : onesM P (j + 1) = onesM P j ++ putM a ++ (putM (putM b).length ++ putM b) := by rw [HON.out]; unfold oneM; rw [if_neg hb0]; simp
        have HW9 : Hid (Wr w9 pw pw v4 (onesM P (j + 1))) := Lib.hid (by rw [hon]; exact hW9)
        clear hW9 hC9 hv4 hon HL8 HR8 HX8 HW8 HI8 HAP HV3 HV2
        go_wp2_with fail
        go_roundw
        case rel => exact ⟨j + 1, v4, by go_num, by omega, HL9, HR9, HX9, HW9, hvx4⟩
        case measure => simp [intOf]; omega
    · obtain rfl : j = 4 := by omega
      have hle := onesM_len P 4
      have hvl : ∀ k, v.ownBlock = some k → pw ≤ k := fun k hk => (HWr.out.own.lt k hk).1
      have HVL := Lib.hid hvl
      clear hvl
      go_wp2_with fail
      refine Calls.mono (wvar_any _ _ _ _ _ 0 (by omega) HWr.out (by omega)) ?_
      rintro e w5 ⟨v5, rfl, hW5, hC5, hv5⟩
      have HL5 := Lib.hid (hC5.below HL.out HL.out.size (by have := HGP.out; omega) (by intro k hk; have := HVL.out k hk; have := HGP.out; omega))
      have hR5 := hC5.row HR.out (by omega) (by intro e; have := HVL.out _ e; omega)
      have hi5 := ints_tail (v0 := .int .u64 i) (v1 := .int .u64 d) (v2 := .int .u64 s) (v3 := .int .u64 m) (ys := [y0, y1, y2, y3, y4, y5, y6, y7]) hR5 HW.out
      have hv5k : ∀ k, v5.ownBlock = some k → pw ≤ k := fun k hk => (hW5.own.lt k hk).1
      have HI5 := Lib.hid hi5; have HW5 := Lib.hid hW5
      have HV5 := Lib.hid hv5k
      clear hW5 hC5 hv5 hR5 hi5 hv5k HL HR HX HWr HVL
      go_wp2_with fail
      refine Calls.mono (wtext_any _ _ _ _ _ _ 8 8 _ (by rw [List.length_append]; have := putM_le 0; omega) HW5.out HI5.out (fun _ x hx => by injection hx with hx; subst hx; exact ⟨by show gp ≠ pw; omega, fun e => by have := HV5.out _ e; have : gp = _ := rfl; simp only at *; omega⟩)) ?_
      rintro e w6 ⟨v6, rfl, hW6, hC6, hv6⟩
      have HL6 := Lib.hid (hC6.below HL5.out HL5.out.size (by have := HGP.out; omega) (by intro k hk; have := HV5.out k hk; have := HGP.out; omega))
      have HW6 := Lib.hid hW6
      clear hW6 hC6 hv6 HI5 HW5 HV5 HL5
      go_wp2_with fail
      have hwf : ∀ x ∈ onesM P 4 ++ putM 0 ++ (putM ((8 : Nat) : Int) ++ [y0, y1, y2, y3, y4, y5, y6, y7]), (Lit.int .u8 x).wf = true := by
        intro x hx
        rcases List.mem_append.1 hx with h | h
        · rcases List.mem_append.1 h with h | h
          · exact HWF.out 4 x h
          · exact putM_wf 0 (by omega) x h
        · rcases List.mem_append.1 h with h | h
          · exact putM_wf _ (by omega) x h
          · exact HW.out x h
      refine Calls.mono (wdone_any _ _ _ _ _ (by simp only [List.length_append, List.length_cons, List.length_nil]; have := putM_le 0; have := putM_le ((8 : Nat) : Int); omega) hwf HW6.out) ?_
      rintro e w7 ⟨a7, cp7, rfl, hc7, hm7, hi7, hlo7, hb7⟩
      rw [show onesM P 4 ++ putM 0 ++ (putM ((8 : Nat) : Int) ++ [y0, y1, y2, y3, y4, y5, y6, y7]) = encP P by rw [HEN.out, List.append_assoc]; rfl] at hc7 hi7 ⊢
      have HB7 := Lib.hid (bl_next HL6.out HL6.out.size hb7)
      have hlo : ∀ x, a7 = some x → w.heap.size ≤ x.block := fun x hx => Nat.le_trans HL6.out.size (hlo7 x hx)
      have HLO := Lib.hid hlo; have HI7 := Lib.hid hi7
      clear hwf hi7 hlo7 hb7 hlo
      go_wp2_with fail
      go_ret2
      rw [HPP.out]
      exact ⟨a7, cp7, rfl, hc7, hm7, HI7.out, HLO.out, HB7.out⟩

/-- Encode, any params. -/
def EncR (w : World) (p : Pm) (e : Ending) (w' : World) : Prop :=
  Below w.heap.size w w' ∧ ((rightM p = true ∧ ∃ a cap, e = .returned (.tuple #[.slice a (encP p).length cap, .int .i64 0]) ∧ (encP p).length ≤ cap ∧ cap ≤ 9223372036854775807 ∧ IntsK .u8 w' a (encP p).length (encP p) ∧ (∀ x, a = some x → w.heap.size ≤ x.block)) ∨
    (rightM p = false ∧ e = .returned (.tuple #[.slice none 0 0, .int .i64 1])))
set_option maxRecDepth 100000 in
theorem pencode_any (w : World) (p : Pm) (hp : p.ok) : Calls Try.prog 36 #[p.val] w (EncR w p) := by
  by_cases hr : rightM p = true
  · obtain ⟨wi, wd, ws, wm, len, wf⟩ := hp
    have b1 := bdU64 wi; have b2 := bdU64 wd; have b3 := bdU64 ws; have b4 := bdU64 wm
    obtain ⟨i, d, s, m, f⟩ := p
    obtain ⟨y0, y1, y2, y3, y4, y5, y6, y7, rfl⟩ := len8 len
    refine Calls.mono (pencode_core w i d s m y0 y1 y2 y3 y4 y5 y6 y7 ⟨b1.1, b2.1, b3.1, b4.1⟩ wf hr) ?_
    rintro e w' ⟨a, cap, h1, h2, h3, h4, h5, h6⟩
    exact ⟨h6, .inl ⟨hr, a, cap, h1, h2, h3, h4, h5⟩⟩
  · have hr' : rightM p = false := by simpa using hr
    obtain ⟨i, d, s, m, f⟩ := p
    obtain ⟨y0, y1, y2, y3, y4, y5, y6, y7, rfl⟩ := len8 hp.len
    have HRA := Lib.hid (fun w => right_any w ⟨i, d, s, m, [y0, y1, y2, y3, y4, y5, y6, y7]⟩ rfl)
    rw [hr'] at HRA
    have HRF := Lib.hid hr'
    clear hr hr' hp
    show Calls Try.prog 36 #[.agg #[.int .u64 i, .int .u64 d, .int .u64 s, .int .u64 m, .int .u8 y0, .int .u8 y1, .int .u8 y2, .int .u8 y3, .int .u8 y4, .int .u8 y5, .int .u8 y6, .int .u8 y7]] w _
    go_enter Try.func36, Try.ntmps36
    go_wp2_with fail
    refine Calls.mono (HRA.out _) ?_
    rintro e w2 ⟨rfl, hb2⟩
    have HB := Lib.hid (((Below.refl w.heap.size w).alloc (Nat.le_refl _) _).trans (hb2.mono (by simp)))
    clear hb2
    go_wp2_with fail
    go_ret2
    exact ⟨HB.out, .inr ⟨HRF.out, rfl⟩⟩
end Go.Proofs.Ytlpajohhnngbmaa
