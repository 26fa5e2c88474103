/- heads: the plain law: what they are, how they are written and read. -/
import Derived.Test.YthofbckkjcidmaaGen
namespace Go.Proofs.Ythofbckkjcidmaa
open Go.RowKit
set_option linter.unusedVariables false

/-- a head; its token is where it lies: t, of tl bytes, tc room. -/
structure Hd where
  s : Int
  t : List Int
  f : List Int
  k : List Int
  w : Int
  p : Bool
def z8 : List Int := [0, 0, 0, 0, 0, 0, 0, 0]
def Hd.row (h : Hd) (a : Option Addr) (tc : Nat) : List Value := [.int .i64 h.s] ++ (h.t.map (Value.int .u8) ++ (h.f.map (Value.int .u8) ++ [.slice a h.k.length tc, .int .i64 h.w, .bool h.p]))
def Hd.val (h : Hd) (a : Option Addr) (tc : Nat) : Value := .agg (h.row a tc).toArray
structure Hd.ok (h : Hd) : Prop where
  ws : (Lit.int .i64 h.s).wf = true
  ww : (Lit.int .i64 h.w).wf = true
  lt : h.t.length = 8
  lf : h.f.length = 8
  wt : ∀ x ∈ h.t, (Lit.int .u8 x).wf = true
  wf : ∀ x ∈ h.f, (Lit.int .u8 x).wf = true
  wk : ∀ x ∈ h.k, (Lit.int .u8 x).wf = true
def hrightP (h : Hd) : Prop := 1 ≤ h.w ∧ h.w ≤ 4 ∧ ((h.s = 0 ∧ h.k.length ≤ 32 ∧ h.p = false) ∨ (h.s = 1 ∧ h.k.length = 0 ∧ h.p = false) ∨ (h.s = 2 ∧ h.k.length = 0 ∧ h.f = z8))
instance (h : Hd) : Decidable (hrightP h) := by unfold hrightP; infer_instance
def hrightM (h : Hd) : Bool := decide (hrightP h)
theorem hrightM_eq (h : Hd) : hrightM h = true ↔ hrightP h := by unfold hrightM; simp
theorem hrightM_no (h : Hd) (hn : ¬ hrightP h) : hrightM h = false := by unfold hrightM; simp only [decide_eq_false_iff_not]; exact hn
/-- the first byte -/
def firstM (h : Hd) : Int := if h.s = 2 then 63 + h.w + (if h.p then 4 else 0) else 191 + h.w + 16 * h.s
def encH (h : Hd) (n : Int) : List Int :=
  if h.s = 2 then firstM h :: h.t
  else [firstM h, 0, 0, 0, 1, 8] ++ (h.t ++ ([8] ++ (h.f ++ ((if h.s = 0 then putM h.k.length ++ h.k else []) ++ [(16384 + n) / 256, (16384 + n) % 256]))))

def nameM (bs : List Int) (bad : Bool) : Bool × List Int × List Int × Bool :=
  (decide ((byteM bs bad).1 = 8), rdM (byteM bs bad).2.1 (byteM bs bad).2.2 8)
def tokM (s : Int) (bs : List Int) (bad : Bool) : List Int × List Int × Bool := if s = 0 then textM bs bad else ([], bs, bad)
/-- behind the first byte of a long one: space, names, token, how many bytes follow, what is left, whether it lacked. -/
structure Lg where
  s : Int
  t : List Int
  f : List Int
  k : List Int
  n : Int
  r : List Int
  b : Bool
def lgM (first : Int) (bs : List Int) (bad : Bool) : Option Lg :=
  let v := rdM bs bad 4
  let a := nameM v.2.1 v.2.2
  let c := nameM a.2.2.1 a.2.2.2
  let t := tokM (first / 16 % 4) c.2.2.1 c.2.2.2
  let n := varM t.2.1 t.2.2
  if first / 16 % 4 ≤ 1 ∧ v.1 = [0, 0, 0, 1] ∧ a.1 = true ∧ c.1 = true ∧ t.1.length ≤ 32 then some ⟨first / 16 % 4, a.2.1, c.2.1, t.1, n.1, n.2.1, n.2.2⟩ else none
/-- what a head is read as: it, where its number begins, where the packet ends. -/
def parM (bs : List Int) : Option (Hd × Nat × Nat) :=
  let x := byteM bs false
  if x.2.2 = true ∨ x.1 / 64 % 2 = 0 then none
  else if x.1 / 128 % 2 = 0 then
    let y := rdM x.2.1 x.2.2 8
    if y.2.2 = true ∨ y.2.1.length < 12 then none else some (⟨2, y.1, z8, [], 1, false⟩, bs.length - y.2.1.length, bs.length)
  else match lgM x.1 x.2.1 x.2.2 with
    | none => none
    | some g => if g.b = true ∨ g.n < 12 ∨ (g.r.length : Int) < g.n then none else some (⟨g.s, g.t, g.f, g.k, 1, false⟩, bs.length - g.r.length, bs.length - g.r.length + g.n.toNat)

/-! read what was written -/
theorem var2 (n : Int) (h : 0 ≤ n ∧ n ≤ 16383) (R : List Int) : varM ([(16384 + n) / 256, (16384 + n) % 256] ++ R) false = (n, R, false) := by
  have e1 : (16384 + n) / 256 = 64 + n / 256 := by omega
  have e2 : (16384 + n) % 256 = n % 256 := by omega
  have hz : szM ((16384 + n) / 256) = 2 := by unfold szM; (repeat' split) <;> omega
  have hS : getS ([(16384 + n) / 256, (16384 + n) % 256] ++ R) = 2 := by
    show (if ((16384 + n) / 256 :: (16384 + n) % 256 :: R).length < szM _ then 0 else szM _) = 2
    rw [hz, if_neg (by simp)]
  have hN : getN ([(16384 + n) / 256, (16384 + n) % 256] ++ R) = n := by
    show (if ((16384 + n) / 256 :: (16384 + n) % 256 :: R).length < szM ((16384 + n) / 256) then 0 else valM ((16384 + n) / 256 % 64) (((16384 + n) % 256 :: R).take (szM ((16384 + n) / 256) - 1))) = n
    rw [hz, if_neg (by simp)]
    simp [valM]
    omega
  unfold varM
  rw [if_neg (by rw [hS]; simp), hS, hN]
  rfl
theorem rd_raw8 (ys R : List Int) (h : ys.length = 8) : rdM (ys ++ R) false 8 = (ys, R, false) := by
  have := rd_raw ys R
  rw [h] at this
  exact this
theorem name_back (ys R : List Int) (h : ys.length = 8) : nameM ([8] ++ (ys ++ R)) false = (true, ys, R, false) := by
  unfold nameM
  rw [rd_byte 8 (ys ++ R)]
  show (decide ((8 : Int) = 8), rdM (ys ++ R) false 8) = _
  rw [rd_raw8 ys R h]
  rfl
theorem rd_raw4 (R : List Int) : rdM ([0, 0, 0, 1] ++ R) false 4 = ([0, 0, 0, 1], R, false) := rd_raw [0, 0, 0, 1] R
theorem tok_back (h : Hd) (hr : hrightP h) (R : List Int) : tokM h.s ((if h.s = 0 then putM h.k.length ++ h.k else []) ++ R) false = (h.k, R, false) := by
  unfold tokM
  by_cases h0 : h.s = 0
  · rw [if_pos h0, if_pos h0]
    have : h.k.length ≤ 32 := by rcases hr.2.2 with h | h | h <;> omega
    exact rd_text h.k R (by omega)
  · rw [if_neg h0, if_neg h0]
    have : h.k.length = 0 := by rcases hr.2.2 with h | h | h <;> omega
    rw [List.eq_nil_of_length_eq_zero this]
    rfl
theorem lg_back (h : Hd) (hk : h.ok) (hr : hrightP h) (hs : h.s ≠ 2) (n : Int) (hn : 0 ≤ n ∧ n ≤ 16383) (R : List Int) :
    lgM (firstM h) ([0, 0, 0, 1] ++ ([8] ++ (h.t ++ ([8] ++ (h.f ++ ((if h.s = 0 then putM h.k.length ++ h.k else []) ++ ([(16384 + n) / 256, (16384 + n) % 256] ++ R))))))) false = some ⟨h.s, h.t, h.f, h.k, n, R, false⟩ := by
  have hf : firstM h / 16 % 4 = h.s := by
    unfold firstM; rw [if_neg hs]
    have h1 := hr.1; have h2 := hr.2.1
    rcases hr.2.2 with h3 | h3 | h3
    · rw [h3.1]; omega
    · rw [h3.1]; omega
    · exact absurd h3.1 hs
  unfold lgM
  simp only [hf]
  rw [rd_raw4]
  simp only
  rw [name_back h.t _ hk.lt]
  simp only
  rw [name_back h.f _ hk.lf]
  simp only
  rw [tok_back h hr]
  simp only
  rw [var2 n hn]
  simp only
  rw [if_pos]
  refine ⟨?_, by trivial, by trivial, by trivial, ?_⟩
  · rcases hr.2.2 with h3 | h3 | h3
    · rw [h3.1]; omega
    · rw [h3.1]; omega
    · exact absurd h3.1 hs
  · rcases hr.2.2 with h3 | h3 | h3 <;> omega
theorem par_back (h : Hd) (hk : h.ok) (hr : hrightP h) (k : Nat) (h12 : 12 ≤ k) (hm : k ≤ 16383) (R : List Int) (hR : k ≤ R.length) :
    parM (encH h k ++ R) = some (⟨h.s, h.t, if h.s = 2 then z8 else h.f, h.k, 1, false⟩, (encH h k).length, if h.s = 2 then (encH h k).length + R.length else (encH h k).length + k) := by
  have hw1 := hr.1; have hw4 := hr.2.1
  by_cases hs : h.s = 2
  · have hl0 : h.k = [] := by
      rcases hr.2.2 with h3 | h3 | h3
      · omega
      · omega
      · exact List.eq_nil_of_length_eq_zero h3.2.1
    have hf : firstM h / 64 % 2 = 1 ∧ firstM h / 128 % 2 = 0 := by
      unfold firstM; rw [if_pos hs]; cases h.p <;> simp <;> omega
    have hb := rd_byte (firstM h) (h.t ++ R)
    have e : encH h k ++ R = [firstM h] ++ (h.t ++ R) := by unfold encH; rw [if_pos hs]; rfl
    have el : (encH h k).length = 9 := by unfold encH; rw [if_pos hs, List.length_cons, hk.lt]
    rw [if_pos hs, if_pos hs]
    unfold parM
    rw [e, hb]
    simp only
    rw [if_neg (by simp [hf.1]), if_pos hf.2, rd_raw8 h.t R hk.lt]
    simp only
    rw [if_neg (by simp; omega)]
    rw [hs, hl0, el]
    simp [hk.lt]
    omega
  · have hf : firstM h / 64 % 2 = 1 ∧ firstM h / 128 % 2 = 1 := by
      unfold firstM; rw [if_neg hs]
      rcases hr.2.2 with h3 | h3 | h3
      · rw [h3.1]; omega
      · rw [h3.1]; omega
      · exact absurd h3.1 hs
    have e : encH h k ++ R = [firstM h] ++ ([0, 0, 0, 1] ++ ([8] ++ (h.t ++ ([8] ++ (h.f ++ ((if h.s = 0 then putM h.k.length ++ h.k else []) ++ ([(16384 + (k : Int)) / 256, (16384 + (k : Int)) % 256] ++ R))))))) := by
      unfold encH; rw [if_neg hs]; simp
    have el : (encH h k ++ R).length = (encH h k).length + R.length := List.length_append
    rw [if_neg hs, if_neg hs]
    have hb := rd_byte (firstM h) ([0, 0, 0, 1] ++ ([8] ++ (h.t ++ ([8] ++ (h.f ++ ((if h.s = 0 then putM h.k.length ++ h.k else []) ++ ([(16384 + (k : Int)) / 256, (16384 + (k : Int)) % 256] ++ R)))))))
    unfold parM
    rw [el, e, hb]
    simp only
    rw [if_neg (by simp [hf.1]), if_neg (by omega), lg_back h hk hr hs k (by omega) R]
    simp only
    rw [if_neg (by simp; omega)]
    simp

/-! what is read of a beginning is read of the whole, of a long one. -/
theorem rd_more {bs : List Int} {n : Int} {bad : Bool} (X : List Int) (h : (rdM bs bad n).2.2 = false) : bad = false ∧ rdM (bs ++ X) bad n = ((rdM bs bad n).1, (rdM bs bad n).2.1 ++ X, false) ∧ n.toNat ≤ bs.length := by
  unfold rdM at h ⊢
  split at h
  · cases h
  · rename_i hn
    have h1 : bad = false := by cases bad <;> simp_all
    have h2 : ¬ n < 0 := fun e => hn (.inr (.inl e))
    have h3 : ¬ (bs.length : Int) < n := fun e => hn (.inr (.inr e))
    refine ⟨h1, ?_, by omega⟩
    rw [if_neg (by rw [h1]; simp; omega), if_neg hn]
    rw [List.take_append_of_le_length (by omega), List.drop_append_of_le_length (by omega)]
theorem byte_more {bs : List Int} {bad : Bool} (X : List Int) (h : (byteM bs bad).2.2 = false) : bad = false ∧ byteM (bs ++ X) bad = ((byteM bs bad).1, (byteM bs bad).2.1 ++ X, false) := by
  have h1 := rd_more (n := 1) X h
  refine ⟨h1.1, ?_⟩
  unfold byteM
  rw [h1.2.1]
theorem name_more {bs : List Int} {bad : Bool} (X : List Int) (h : (nameM bs bad).2.2.2 = false) : bad = false ∧ nameM (bs ++ X) bad = ((nameM bs bad).1, (nameM bs bad).2.1, (nameM bs bad).2.2.1 ++ X, false) := by
  unfold nameM at h ⊢
  have h1 := rd_more X h
  have h2 := byte_more X h1.1
  refine ⟨h2.1, ?_⟩
  rw [h2.2, h1.1] at *
  simp only
  rw [h1.2.1]
theorem getS_more (bs X : List Int) (h : getS bs ≠ 0) : getS (bs ++ X) = getS bs ∧ getN (bs ++ X) = getN bs ∧ getS bs ≤ bs.length := by
  cases bs with
  | nil => exact absurd rfl h
  | cons b t =>
    have h1 : ¬ (b :: t).length < szM b := by
      intro hh; apply h; show (if (b :: t).length < szM b then 0 else szM b) = 0; rw [if_pos hh]
    have e1 : getS (b :: t) = szM b := by show (if (b :: t).length < szM b then 0 else szM b) = szM b; rw [if_neg h1]
    have e2 : getS (b :: t ++ X) = szM b := by show (if (b :: (t ++ X)).length < szM b then 0 else szM b) = szM b; rw [if_neg (by simp at h1 ⊢; omega)]
    refine ⟨e2.trans e1.symm, ?_, by rw [e1]; omega⟩
    show (if (b :: (t ++ X)).length < szM b then 0 else valM (b % 64) ((t ++ X).take (szM b - 1))) = (if (b :: t).length < szM b then 0 else valM (b % 64) (t.take (szM b - 1)))
    rw [if_neg (by simp at h1 ⊢; omega), if_neg h1, List.take_append_of_le_length (by simp at h1; omega)]
theorem var_more {bs : List Int} {bad : Bool} (X : List Int) (h : (varM bs bad).2.2 = false) : bad = false ∧ varM (bs ++ X) bad = ((varM bs bad).1, (varM bs bad).2.1 ++ X, false) := by
  unfold varM at h ⊢
  split at h
  · cases h
  · rename_i hn
    have h1 : bad = false := by cases bad <;> simp_all
    have h2 : getS bs ≠ 0 := fun e => hn (.inr e)
    have h3 := getS_more bs X h2
    refine ⟨h1, ?_⟩
    rw [if_neg (by rw [h3.1]; exact hn), if_neg hn, h3.1, h3.2.1, List.drop_append_of_le_length h3.2.2]
theorem text_more {bs : List Int} {bad : Bool} (X : List Int) (h : (textM bs bad).2.2 = false) : bad = false ∧ textM (bs ++ X) bad = ((textM bs bad).1, (textM bs bad).2.1 ++ X, false) := by
  unfold textM at h ⊢
  split at h
  · cases h
  · rename_i hn
    have h1 := rd_more X h
    have h2 := var_more X h1.1
    refine ⟨h2.1, ?_⟩
    rw [h2.2]
    simp only
    rw [if_neg (by simp; omega), if_neg hn]
    have h4 := h1.1
    rw [h4] at h1
    rw [h1.2.1, h4]
theorem tok_more {s : Int} {bs : List Int} {bad : Bool} (X : List Int) (h : (tokM s bs bad).2.2 = false) : bad = false ∧ tokM s (bs ++ X) bad = ((tokM s bs bad).1, (tokM s bs bad).2.1 ++ X, false) := by
  unfold tokM at h ⊢
  split
  · rename_i h0
    rw [if_pos h0] at h
    exact text_more X h
  · rename_i h0
    rw [if_neg h0] at h
    simp only at h
    subst h
    exact ⟨rfl, rfl⟩
theorem lg_more {first : Int} {bs : List Int} {bad : Bool} (X : List Int) {g : Lg} (h : lgM first bs bad = some g) (hb : g.b = false) : bad = false ∧ lgM first (bs ++ X) bad = some { g with r := g.r ++ X } := by
  unfold lgM at h ⊢
  simp only at h ⊢
  obtain ⟨⟨v1, v2, v3⟩, hv⟩ : ∃ r, rdM bs bad 4 = r := ⟨_, rfl⟩
  rw [hv] at h
  simp only at h
  obtain ⟨⟨a1, a2, a3, a4⟩, ha⟩ : ∃ r, nameM v2 v3 = r := ⟨_, rfl⟩
  rw [ha] at h
  simp only at h
  obtain ⟨⟨c1, c2, c3, c4⟩, hc⟩ : ∃ r, nameM a3 a4 = r := ⟨_, rfl⟩
  rw [hc] at h
  simp only at h
  obtain ⟨⟨t1, t2, t3⟩, ht⟩ : ∃ r, tokM (first / 16 % 4) c3 c4 = r := ⟨_, rfl⟩
  rw [ht] at h
  simp only at h
  obtain ⟨⟨n1, n2, n3⟩, hn⟩ : ∃ r, varM t2 t3 = r := ⟨_, rfl⟩
  rw [hn] at h
  simp only at h
  split at h
  · rename_i hcc
    injection h with h
    subst h
    simp only at hb
    subst hb
    have h1 := var_more (bs := t2) (bad := t3) X (by rw [hn])
    rw [hn] at h1
    obtain ⟨rfl, h1⟩ := h1
    have h2 := tok_more (s := first / 16 % 4) (bs := c3) (bad := c4) X (by rw [ht])
    rw [ht] at h2
    obtain ⟨rfl, h2⟩ := h2
    have h3 := name_more (bs := a3) (bad := a4) X (by rw [hc])
    rw [hc] at h3
    obtain ⟨rfl, h3⟩ := h3
    have h4 := name_more (bs := v2) (bad := v3) X (by rw [ha])
    rw [ha] at h4
    obtain ⟨rfl, h4⟩ := h4
    have h5 := rd_more (bs := bs) (bad := bad) (n := 4) X (by rw [hv])
    rw [hv] at h5
    obtain ⟨rfl, h5, _⟩ := h5
    refine ⟨rfl, ?_⟩
    rw [h5]
    simp only
    rw [h4]
    simp only
    rw [h3]
    simp only
    rw [h2]
    simp only
    rw [h1]
    simp only
    rw [if_pos hcc]
  · cases h
theorem par_more (bs X : List Int) (r : Hd × Nat × Nat) (h : parM bs = some r) (hl : (byteM bs false).1 / 128 % 2 = 1) : parM (bs ++ X) = some r ∧ r.2.2 ≤ bs.length := by
  unfold parM at h
  simp only at h
  split at h
  · cases h
  · rename_i hx
    rw [if_neg (by omega)] at h
    split at h
    · cases h
    · rename_i g hg
      split at h
      · cases h
      · rename_i hc
        injection h with h
        subst h
        have hgb : g.b = false := by cases hh : g.b <;> simp_all
        have hxb : (byteM bs false).2.2 = false := by cases hh : (byteM bs false).2.2 <;> simp_all
        have h1 := byte_more X hxb
        have h2 := lg_more X hg hgb
        have hgl : g.r.length ≤ bs.length := by
          unfold lgM at hg
          simp only at hg
          split at hg
          · injection hg with hg
            rw [← hg]
            simp only
            have hv : ∀ b c, (varM b c).2.1.length ≤ b.length := fun b c => by unfold varM; split <;> simp
            have hr : ∀ b c n, (rdM b c n).2.1.length ≤ b.length := fun b c n => by unfold rdM; split <;> simp
            have hbm : ∀ b c, (byteM b c).2.1.length ≤ b.length := fun b c => hr b c 1
            have hnm : ∀ b c, (nameM b c).2.2.1.length ≤ b.length := fun b c => Nat.le_trans (hr _ _ 8) (hbm b c)
            have htk : ∀ s b c, (tokM s b c).2.1.length ≤ b.length := fun s b c => by unfold tokM; split; exact textM_len b c; exact Nat.le_refl _
            exact Nat.le_trans (hv _ _) (Nat.le_trans (htk _ _ _) (Nat.le_trans (hnm _ _) (Nat.le_trans (hnm _ _) (Nat.le_trans (hr _ _ _) (hbm _ _)))))
          · cases hg
        constructor
        · unfold parM
          simp only
          rw [h1.2]
          simp only
          rw [if_neg (by simp; omega), if_neg (by omega)]
          rw [hxb] at h2
          rw [h2.2]
          simp only
          rw [if_neg (by simp only [List.length_append]; intro hh; apply hc; rcases hh with h | h | h; exact .inl h; exact .inr (.inl h); exact absurd h (by omega))]
          simp only [List.length_append]
          congr 2
          · congr 1
            · omega
            · omega
        · simp only
          omega
theorem par_cut (h : Hd) (hk : h.ok) (hr : hrightP h) (hs : h.s ≠ 2) (k : Nat) (h12 : 12 ≤ k) (hm : k ≤ 16383) (j : Nat) (hj : j < (encH h k).length + k) : parM ((encH h k ++ List.replicate k 0).take j) = none := by
  cases hp : parM ((encH h k ++ List.replicate k 0).take j) with
  | none => rfl
  | some r =>
    exfalso
    have h0 : 0 < j := by
      rcases Nat.eq_zero_or_pos j with h0 | h0
      · subst h0; rw [List.take_zero] at hp; cases hp
      · exact h0
    have hb : (byteM ((encH h k ++ List.replicate k 0).take j) false).1 = firstM h := by
      have e : ∃ T, (encH h k ++ List.replicate k 0).take j = [firstM h] ++ T := by
        obtain ⟨j', rfl⟩ : ∃ j', j = j' + 1 := ⟨j - 1, by omega⟩
        unfold encH; rw [if_neg hs]
        exact ⟨_, rfl⟩
      obtain ⟨T, e⟩ := e
      rw [e, rd_byte]
    have hf : firstM h / 128 % 2 = 1 := by
      have hw1 := hr.1; have hw4 := hr.2.1
      unfold firstM; rw [if_neg hs]
      rcases hr.2.2 with h3 | h3 | h3
      · rw [h3.1]; omega
      · rw [h3.1]; omega
      · exact absurd h3.1 hs
    have hm1 := par_more _ ((encH h k ++ List.replicate k 0).drop j) r hp (by rw [hb]; exact hf)
    rw [List.take_append_drop] at hm1
    have hb2 := par_back h hk hr k h12 hm (List.replicate k 0) (by simp)
    rw [hm1.1] at hb2
    injection hb2 with hb2
    have h3 := hm1.2
    have h4 : r.2.2 = (encH h k).length + k := by rw [hb2]; exact if_neg hs
    rw [h4] at h3
    simp only [List.length_take, List.length_append, List.length_replicate] at h3
    omega
/-- another first bit; another version -/
theorem par_first (b : Int) (T : List Int) (h : b / 64 % 2 = 0) : parM ([b] ++ T) = none := by
  unfold parM
  rw [rd_byte]
  simp only
  rw [if_pos (.inr h)]
theorem par_version (b x0 x1 x2 x3 : Int) (T : List Int) (h : b / 128 % 2 = 1) (hx : x3 ≠ 1) : parM ([b] ++ ([x0, x1, x2, x3] ++ T)) = none := by
  unfold parM
  rw [rd_byte]
  simp only
  split
  · rfl
  · rw [if_neg (by omega)]
    have e : lgM b ([x0, x1, x2, x3] ++ T) false = none := by
      unfold lgM
      simp only
      rw [show rdM ([x0, x1, x2, x3] ++ T) false 4 = ([x0, x1, x2, x3], T, false) from rd_raw [x0, x1, x2, x3] T]
      simp only
      rw [if_neg (by intro hh; have := hh.2.1; simp at this; exact hx this.2.2.2)]
    rw [e]
end Go.Proofs.Ythofbckkjcidmaa
