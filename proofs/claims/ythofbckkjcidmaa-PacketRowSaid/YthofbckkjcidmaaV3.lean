/- texts of the proof, laid together: PnumLaw, Pkt, Pkt2, Pkt3, Pkt4, Pkt5, Pkt6. -/
import Derived.Test.YthofbckkjcidmaaV2
import Derived.Deep.DeepCutAuto
import Derived.Deep.CutBlock
import Derived.Test.YthofbckkjcidmaaPktBase
import Derived.Test.YthofbckkjcidmaaV1
import Derived.Test.YthofbckkjcidmaaGrow2
namespace Go.Proofs.Ythofbckkjcidmaa
open Go.RowKit
set_option linter.unusedVariables false

theorem u64_bounds {n : Int} (h : (Lit.int .u64 n).wf = true) : 0 ≤ n ∧ n < 18446744073709551616 := by
  simp [Lit.wf, IntKind.min, IntKind.max, IntKind.signed, IntKind.bits] at h; omega
theorem u32_bounds {n : Int} (h : (Lit.int .u32 n).wf = true) : 0 ≤ n ∧ n < 4294967296 := by
  simp [Lit.wf, IntKind.min, IntKind.max, IntKind.signed, IntKind.bits] at h; omega
theorem i64_bounds3 {n : Int} (h : (Lit.int .i64 n).wf = true) : -9223372036854775808 ≤ n ∧ n ≤ 9223372036854775807 := by
  simp [Lit.wf, IntKind.min, IntKind.max, IntKind.signed, IntKind.bits] at h; omega

theorem cutM_in (k m : Int) : 0 ≤ cutM k m ∧ cutM k m < 4294967296 := by
  unfold cutM powW; (repeat' split) <;> omega
theorem wM_width {d : Int} : wM (widthM d) = widthM d := by unfold widthM wM; (repeat' split) <;> omega
theorem back0 {k : Int} (h0 : 0 ≤ k) (h1 : k < 2147483647) : wholeM (nxM 0 false) (cutM k (wM (widthM (dM k 0 false)))) (powW (wM (widthM (dM k 0 false)))) = k := by
  have e : dM k 0 false = k + 1 := by simp [dM]; omega
  rw [wM_width, e, show nxM 0 false = 0 from rfl]
  unfold widthM
  (repeat' split) <;> simp only [powW, wholeM, cutM] <;> simp only [reduceIte, Int.reduceEq, Int.reduceDiv] <;> (repeat' split) <;> omega
theorem back1 {k x h : Int} (h0 : 0 ≤ k) (h1 : k ≤ 4611686018427387903) (x0 : 0 < x) (xk : x ≤ k) (x1 : x < 2147483648) (hh : k - x ≤ h) (hk : h < k) :
    wholeM (nxM h true) (cutM k (wM (widthM (dM k (k - x) true)))) (powW (wM (widthM (dM k (k - x) true)))) = k := by
  have e : dM k (k - x) true = x := by simp [dM]; omega
  have e2 : nxM h true = h + 1 := by simp [nxM]; omega
  rw [wM_width, e, e2]
  unfold widthM
  (repeat' split) <;> simp only [powW, wholeM, cutM] <;> simp only [reduceIte, Int.reduceEq, Int.reduceDiv] <;> (repeat' split) <;> omega
theorem widthM_in (d : Int) : 1 ≤ widthM d ∧ widthM d ≤ 4 := by unfold widthM; (repeat' split) <;> omega

theorem near_law {l low m : Int} (hl : 0 ≤ l ∧ l ≤ 4611686018427387903) (hlow : 0 ≤ low) (hm : m = 1 ∨ m = 2 ∨ m = 3 ∨ m = 4) :
    ∃ n, wholeM (nxM l true) low (powW m) = n ∧ 0 ≤ n ∧ n ≤ 4611686018427387904 + powW m ∧ cutM n m = cutM low m ∧
      (l + 1 ≤ n → n - (l + 1) ≤ powW m / 2 ∨ n < powW m ∨ 4611686018427387904 - 2 * powW m < l + 1) ∧ (n < l + 1 → (l + 1) - n ≤ powW m / 2 ∨ n < powW m ∨ 4611686018427387904 - 2 * powW m < l + 1) := by
  have e : nxM l true = l + 1 := by simp [nxM]; omega
  refine ⟨_, rfl, ?_⟩
  rw [e]
  rcases hm with rfl | rfl | rfl | rfl <;> simp only [powW, wholeM, cutM] <;> (try simp only [reduceIte, Int.reduceEq, Int.reduceDiv]) <;> (repeat' split) <;> (refine ⟨?_, ?_, ?_, ?_, ?_⟩ <;> omega)

end Go.Proofs.Ythofbckkjcidmaa
namespace Go.Proofs.Ythofbckkjcidmaa
open Go.RowKit
set_option linter.unusedVariables false

/-! what a head is read as does not hang on the first byte's low bits, nor on what lies behind. -/
theorem parM_nil : parM [] = none := by decide
theorem parM_cons (b : Int) (T : List Int) : parM (b :: T) = (if b / 64 % 2 = 0 then none else if b / 128 % 2 = 0 then
      (if (rdM T false 8).2.2 = true ∨ (rdM T false 8).2.1.length < 12 then none else some (⟨2, (rdM T false 8).1, z8, [], 1, false⟩, T.length + 1 - (rdM T false 8).2.1.length, T.length + 1))
    else match lgM b T false with
      | none => none
      | some g => if g.b = true ∨ g.n < 12 ∨ (g.r.length : Int) < g.n then none else some (⟨g.s, g.t, g.f, g.k, 1, false⟩, T.length + 1 - g.r.length, T.length + 1 - g.r.length + g.n.toNat)) := by
  have h : byteM (b :: T) false = (b, T, false) := rd_byte b T
  unfold parM
  rw [h]
  simp only [List.length_cons, Bool.false_eq_true, false_or]
  rfl
theorem lgM_first {f f' : Int} (h : f / 16 % 4 = f' / 16 % 4) (T : List Int) (b : Bool) : lgM f T b = lgM f' T b := by
  unfold lgM; rw [h]
theorem parM_first {b b' : Int} (T : List Int) (h : b / 32 = b' / 32) (h2 : b / 128 % 2 = 1 → b / 16 = b' / 16) : parM (b :: T) = parM (b' :: T) := by
  rw [parM_cons, parM_cons]
  have h64 : b / 64 % 2 = b' / 64 % 2 := by omega
  have h128 : b / 128 % 2 = b' / 128 % 2 := by omega
  rw [h64, h128]
  by_cases hd : b' / 128 % 2 = 0
  · rw [if_pos hd, if_pos hd]
  · have h16 := h2 (by omega)
    rw [if_neg hd, if_neg hd, lgM_first (f := b) (f' := b') (by rw [h16])]
theorem parM_bd {bs : List Int} {h : Hd} {at' en : Nat} (hp : parM bs = some (h, at', en)) : 1 ≤ at' ∧ at' + 12 ≤ en ∧ en ≤ bs.length ∧ h.w = 1 ∧ h.p = false ∧ (h.s = 2 ↔ bs.getD 0 0 / 128 % 2 = 0) := by
  cases bs with
  | nil => rw [parM_nil] at hp; cases hp
  | cons b T =>
    rw [parM_cons] at hp
    show _ ∧ _ ∧ _ ∧ _ ∧ _ ∧ (h.s = 2 ↔ b / 128 % 2 = 0)
    split at hp
    · cases hp
    · split at hp
      · rename_i hd
        split at hp
        · cases hp
        · rename_i hc
          injection hp with hp; injection hp with h1 h2; injection h2 with h2 h3
          subst h1; subst h2; subst h3
          have hl := rd_lenr T false 8
          refine ⟨by omega, by omega, by simp, rfl, rfl, by simp [hd]⟩
      · rename_i hd
        cases hg : lgM b T false with
        | none => rw [hg] at hp; cases hp
        | some g =>
          rw [hg] at hp
          simp only at hp
          have hlr := lg_lenr hg
          have hs : g.s ≤ 1 := by
            unfold lgM at hg
            simp only at hg
            split at hg
            · rename_i hc; injection hg with hg; subst hg; exact hc.1
            · cases hg
          split at hp
          · cases hp
          · rename_i hc
            injection hp with hp; injection hp with h1 h2; injection h2 with h2 h3
            subst h1; subst h2; subst h3
            refine ⟨by omega, by omega, by simp only [List.length_cons]; omega, rfl, rfl, ?_⟩
            constructor
            · intro h; simp only at h; omega
            · intro h; exact absurd h hd

/-! the mask -/
def hidM (f : Int) : Int := if f / 128 % 2 = 1 then 15 else 31
def keptM (f : Int) : Int := if f / 128 % 2 = 1 then 12 else 24
def mskM (km : Int) (b : List Int) (at' : Nat) : List Int := (bytesM (keyedM km ((b.drop (at' + 4)).take 8))).take 5
def xorAt (m : List Int) (at' w : Nat) (b : List Int) : List Int := b.mapIdx fun i x => if at' ≤ i ∧ i < at' + w then bits .xor .u8 x (m.getD (1 + (i - at')) 0) else x
def x0M (m b : List Int) : Int := bits .xor .u8 (b.getD 0 0) (bits .and .u8 (m.getD 0 0) (hidM (b.getD 0 0)))
def maskedM (km : Int) (b : List Int) (at' w : Nat) : List Int := xorAt (mskM km b at') at' w (b.set 0 (x0M (mskM km b at') b))
theorem mskM_len (km : Int) (b : List Int) (at' : Nat) : (mskM km b at').length = 5 := by
  unfold mskM; rw [List.length_take]; simp [bytesM]
theorem mskM_wf (km : Int) (b : List Int) (at' : Nat) : ∀ x ∈ mskM km b at', (Lit.int .u8 x).wf = true := fun x hx => wf_bytes _ x (List.mem_of_mem_take hx)
theorem getD_wfB {m : List Int} (h : ∀ x ∈ m, (Lit.int .u8 x).wf = true) (i : Nat) : (Lit.int .u8 (m.getD i 0)).wf = true := by
  rw [List.getD_eq_getElem?_getD]
  cases hi : m[i]? with
  | none => rfl
  | some x => exact h x (List.mem_of_getElem? hi)
theorem xorAt_len (m : List Int) (at' w : Nat) (b : List Int) : (xorAt m at' w b).length = b.length := by simp [xorAt]
theorem xorAt_get (m : List Int) (at' w : Nat) (b : List Int) (i : Nat) : (xorAt m at' w b)[i]? = b[i]?.map fun x => if at' ≤ i ∧ i < at' + w then bits .xor .u8 x (m.getD (1 + (i - at')) 0) else x := by
  unfold xorAt; rw [List.getElem?_mapIdx]
theorem xorAt_zero (m : List Int) (at' : Nat) (b : List Int) : xorAt m at' 0 b = b := by
  apply List.ext_getElem?; intro i
  rw [xorAt_get]
  cases b[i]? with
  | none => rfl
  | some x => simp only [Option.map_some]; rw [if_neg (by omega)]
theorem xorAt_succ (m : List Int) (at' w : Nat) (b : List Int) : xorAt m at' (w + 1) b = (xorAt m at' w b).set (at' + w) (bits .xor .u8 (b.getD (at' + w) 0) (m.getD (1 + w) 0)) := by
  apply List.ext_getElem?; intro i
  rw [List.getElem?_set, xorAt_get, xorAt_len]
  by_cases h : at' + w = i
  · subst h
    rw [if_pos rfl]
    by_cases hl : at' + w < b.length
    · rw [if_pos hl, List.getElem?_eq_getElem hl]
      simp only [Option.map_some]
      rw [if_pos (by omega), show at' + w - at' = w by omega, show b.getD (at' + w) 0 = b[at' + w] by rw [List.getD_eq_getElem?_getD, List.getElem?_eq_getElem hl]; rfl]
    · rw [if_neg hl, List.getElem?_eq_none (by omega)]; rfl
  · rw [if_neg h, xorAt_get]
    cases b[i]? with
    | none => rfl
    | some x =>
      simp only [Option.map_some]
      by_cases h2 : at' ≤ i ∧ i < at' + w
      · rw [if_pos h2, if_pos (by omega)]
      · rw [if_neg h2, if_neg (by omega)]
theorem xorAt_at (m : List Int) (at' w : Nat) (b : List Int) : (xorAt m at' w b).getD (at' + w) 0 = b.getD (at' + w) 0 := by
  rw [List.getD_eq_getElem?_getD, List.getD_eq_getElem?_getD, xorAt_get]
  cases b[at' + w]? with
  | none => rfl
  | some x => simp only [Option.map_some]; rw [if_neg (by omega)]
theorem xorAt_take (m : List Int) (at' w n : Nat) (b : List Int) : (xorAt m at' w b).take n = xorAt m at' w (b.take n) := by
  apply List.ext_getElem?; intro i
  rw [xorAt_get, List.getElem?_take, List.getElem?_take, xorAt_get]
  split <;> rfl
theorem xorAt_drop (m : List Int) (at' w n : Nat) (b : List Int) (h : at' + w ≤ n) : (xorAt m at' w b).drop n = b.drop n := by
  apply List.ext_getElem?; intro i
  rw [List.getElem?_drop, List.getElem?_drop, xorAt_get]
  cases b[n + i]? with
  | none => rfl
  | some x => simp only [Option.map_some]; rw [if_neg (by omega)]
theorem xorAt_wf {m : List Int} {at' w : Nat} {b : List Int} (h : ∀ x ∈ b, (Lit.int .u8 x).wf = true) : ∀ x ∈ xorAt m at' w b, (Lit.int .u8 x).wf = true := by
  intro x hx
  obtain ⟨i, hi⟩ := List.getElem?_of_mem hx
  rw [xorAt_get] at hi
  cases hb : b[i]? with
  | none => rw [hb] at hi; cases hi
  | some y =>
    rw [hb] at hi
    simp only [Option.map_some, Option.some.injEq] at hi
    rw [← hi]
    split
    · exact wf_bits _ _ _ _
    · exact h y (List.mem_of_getElem? hb)
theorem xorAt_back {m : List Int} (hm : ∀ x ∈ m, (Lit.int .u8 x).wf = true) (at' w : Nat) {b : List Int} (h : ∀ x ∈ b, (Lit.int .u8 x).wf = true) : xorAt m at' w (xorAt m at' w b) = b := by
  apply List.ext_getElem?; intro i
  rw [xorAt_get, xorAt_get]
  cases hb : b[i]? with
  | none => rfl
  | some x =>
    simp only [Option.map_some]
    split
    · rw [xor8_back (h x (List.mem_of_getElem? hb)) (getD_wfB hm _)]
    · rfl
/-- what lies ahead of the number, what lies behind. -/
theorem xorAt_append (m : List Int) (w : Nat) (e R : List Int) : xorAt m e.length w (e ++ R) = e ++ xorAt m 0 w R := by
  apply List.ext_getElem?; intro i
  rw [xorAt_get]
  by_cases h : i < e.length
  · rw [List.getElem?_append_left h, List.getElem?_append_left h]
    cases e[i]? with
    | none => rfl
    | some x => simp only [Option.map_some]; rw [if_neg (by omega)]
  · rw [List.getElem?_append_right (by omega), List.getElem?_append_right (by omega), xorAt_get]
    cases R[i - e.length]? with
    | none => rfl
    | some x =>
      simp only [Option.map_some]
      by_cases h2 : i - e.length < w
      · rw [if_pos (by omega), if_pos (by omega), Nat.sub_zero]
      · rw [if_neg (by omega), if_neg (by omega)]

/-! the number's bytes -/
def numM (low : Int) : Nat → List Int
  | 0 => []
  | i + 1 => (low / 2 ^ (8 * i) % 256) :: numM low i
theorem numM_len (low : Int) : ∀ w, (numM low w).length = w
  | 0 => rfl
  | w + 1 => by rw [numM, List.length_cons, numM_len low w]
theorem numM_wf (low : Int) : ∀ w, ∀ x ∈ numM low w, (Lit.int .u8 x).wf = true
  | 0, x, hx => by cases hx
  | w + 1, x, hx => by
    rw [numM, List.mem_cons] at hx
    rcases hx with rfl | hx
    · exact wf_u8_of (by omega) (by omega)
    · exact numM_wf low w x hx
def lowB (x : List Int) (at' : Nat) : Nat → Int
  | 0 => 0
  | j + 1 => lowB x at' j * 256 + x.getD (at' + j) 0
theorem lowM_bd {x : List Int} (h : ∀ y ∈ x, (Lit.int .u8 y).wf = true) (at' : Nat) : ∀ j, 0 ≤ lowB x at' j ∧ lowB x at' j < 256 ^ j
  | 0 => by simp [lowB]
  | j + 1 => by
    have ih := lowM_bd h at' j
    have hb := (bdU8 (getD_wfB h (at' + j)))
    rw [lowB, Int.pow_succ]
    omega
theorem lowM_congr {x y : List Int} {at' : Nat} : ∀ j, (∀ i, i < j → x.getD (at' + i) 0 = y.getD (at' + i) 0) → lowB x at' j = lowB y at' j
  | 0, _ => rfl
  | j + 1, h => by rw [lowB, lowB, lowM_congr j (fun i hi => h i (by omega)), h j (by omega)]
theorem lowM_num (low : Int) (w : Nat) (hw : w = 1 ∨ w = 2 ∨ w = 3 ∨ w = 4) (h : 0 ≤ low ∧ low < powW w) (e R : List Int) : lowB (e ++ (numM low w ++ R)) e.length w = low := by
  have g : ∀ i, i < w → (e ++ (numM low w ++ R)).getD (e.length + i) 0 = (numM low w).getD i 0 := by
    intro i hi
    rw [List.getD_eq_getElem?_getD, List.getElem?_append_right (by omega), show e.length + i - e.length = i by omega, List.getElem?_append_left (by rw [numM_len]; exact hi), List.getD_eq_getElem?_getD]
  rcases hw with rfl | rfl | rfl | rfl
  · simp only [lowB, g 0 (by omega), numM, powW] at *
    simp at *; omega
  · simp only [lowB, g 0 (by omega), g 1 (by omega), numM, powW] at *
    simp at *; omega
  · simp only [lowB, g 0 (by omega), g 1 (by omega), g 2 (by omega), numM, powW] at *
    simp at *; omega
  · simp only [lowB, g 0 (by omega), g 1 (by omega), g 2 (by omega), g 3 (by omega), numM, powW] at *
    simp at *; omega

/-! what is sealed; what is read -/
def protM (ks km : Int) (h : Hd) (n : Int) (pl : List Int) : Option (List Int) :=
  if hrightM h = true ∧ n ≤ 4611686018427387903 ∧ 4 ≤ h.w + pl.length ∧ ((encH h (h.w + pl.length + 8)).length : Int) + h.w + pl.length + 8 ≤ 512 then
    some (maskedM km ((encH h (h.w + pl.length + 8) ++ numM (cutM n (wM h.w)) h.w.toNat) ++ sealM ks n (encH h (h.w + pl.length + 8) ++ numM (cutM n (wM h.w)) h.w.toNat) pl) (encH h (h.w + pl.length + 8)).length h.w.toNat)
  else none
structure Rv where
  h : Hd
  low : Int
  x : List Int
  at' : Nat
  en : Nat
def revM (km : Int) (b : List Int) : Option Rv :=
  match parM b with
  | none => none
  | some (h, at', en) =>
    some ⟨{ h with w := x0M (mskM km b at') b % 4 + 1, p := decide (x0M (mskM km b at') b / 128 % 2 = 0 ∧ x0M (mskM km b at') b / 4 % 2 = 1) },
      lowB (xorAt (mskM km b at') at' (x0M (mskM km b at') b % 4 + 1).toNat ((b.take en).set 0 (x0M (mskM km b at') b))) at' (x0M (mskM km b at') b % 4 + 1).toNat,
      xorAt (mskM km b at') at' (x0M (mskM km b at') b % 4 + 1).toNat ((b.take en).set 0 (x0M (mskM km b at') b)), at' + (x0M (mskM km b at') b % 4 + 1).toNat, en⟩
def zH : Hd := ⟨0, z8, z8, [], 0, false⟩
def unpM (ks km : Int) (b : List Int) (largest : Int) (has : Bool) : Hd × Int × List Int × Int :=
  match revM km b with
  | none => (zH, 0, [], 12)
  | some r =>
    if (openM ks (wholeM (nxM largest has) r.low (powW (wM r.h.w))) (r.x.take r.at') (r.x.drop r.at')).2 = false then (zH, 0, [], 25)
    else if bits .and .u8 (r.x.getD 0 0) (keptM (r.x.getD 0 0)) ≠ 0 then (zH, 0, [], 14)
    else (r.h, wholeM (nxM largest has) r.low (powW (wM r.h.w)), (openM ks (wholeM (nxM largest has) r.low (powW (wM r.h.w))) (r.x.take r.at') (r.x.drop r.at')).1, 0)
end Go.Proofs.Ythofbckkjcidmaa
namespace Go.Proofs.Ythofbckkjcidmaa
open Go.RowKit
set_option linter.unusedVariables false

theorem xor_lo (b y : Int) (hb : 0 ≤ b ∧ b ≤ 255) (hy : 0 ≤ y ∧ y < 32) : bits .xor .u8 b y / 32 = b / 32 := by
  have h2 : ∀ (k : Fin 256) (j : Fin 32), bits .xor .u8 ((k.val : Nat) : Int) ((j.val : Nat) : Int) / 32 = ((k.val : Nat) : Int) / 32 := by decide +kernel
  have h3 := h2 ⟨b.toNat, by omega⟩ ⟨y.toNat, by omega⟩
  simp only [Int.toNat_of_nonneg hb.1, Int.toNat_of_nonneg hy.1] at h3
  exact h3
theorem xor_lo16 (b y : Int) (hb : 0 ≤ b ∧ b ≤ 255) (hy : 0 ≤ y ∧ y < 16) : bits .xor .u8 b y / 16 = b / 16 := by
  have h2 : ∀ (k : Fin 256) (j : Fin 16), bits .xor .u8 ((k.val : Nat) : Int) ((j.val : Nat) : Int) / 16 = ((k.val : Nat) : Int) / 16 := by decide +kernel
  have h3 := h2 ⟨b.toNat, by omega⟩ ⟨y.toNat, by omega⟩
  simp only [Int.toNat_of_nonneg hb.1, Int.toNat_of_nonneg hy.1] at h3
  exact h3
theorem and_hid (b : Int) (hb : 0 ≤ b ∧ b ≤ 255) : bits .and .u8 b 15 = b % 16 ∧ bits .and .u8 b 31 = b % 32 ∧ bits .and .u8 b 12 = 4 * (b / 4 % 4) ∧ bits .and .u8 b 24 = 8 * (b / 8 % 4) ∧ bits .and .u8 b 3 = b % 4 ∧ bits .and .u8 b 4 = 4 * (b / 4 % 2) := by
  have h2 : ∀ (k : Fin 256), bits .and .u8 ((k.val : Nat) : Int) 15 = ((k.val : Nat) : Int) % 16 ∧ bits .and .u8 ((k.val : Nat) : Int) 31 = ((k.val : Nat) : Int) % 32 ∧ bits .and .u8 ((k.val : Nat) : Int) 12 = 4 * (((k.val : Nat) : Int) / 4 % 4) ∧ bits .and .u8 ((k.val : Nat) : Int) 24 = 8 * (((k.val : Nat) : Int) / 8 % 4) ∧ bits .and .u8 ((k.val : Nat) : Int) 3 = ((k.val : Nat) : Int) % 4 ∧ bits .and .u8 ((k.val : Nat) : Int) 4 = 4 * (((k.val : Nat) : Int) / 4 % 2) := by decide +kernel
  have h3 := h2 ⟨b.toNat, by omega⟩
  simp only [Int.toNat_of_nonneg hb.1] at h3
  exact h3
theorem x0_same {b m0 : Int} (hb : 0 ≤ b ∧ b ≤ 255) (hm : 0 ≤ m0 ∧ m0 ≤ 255) :
    bits .xor .u8 b (bits .and .u8 m0 (hidM b)) / 32 = b / 32 ∧ (b / 128 % 2 = 1 → bits .xor .u8 b (bits .and .u8 m0 (hidM b)) / 16 = b / 16) := by
  have ha := and_hid m0 hm
  unfold hidM
  split
  · rename_i h
    rw [ha.1]
    have h1 := xor_lo16 b (m0 % 16) hb (by omega)
    have h2 := xor_lo b (m0 % 16) hb (by omega)
    exact ⟨h2, fun _ => h1⟩
  · rename_i h
    rw [ha.2.1]
    exact ⟨xor_lo b (m0 % 32) hb (by omega), fun h2 => absurd h2 h⟩
theorem x0_back {b m0 : Int} (hb : (Lit.int .u8 b).wf = true) (hm : (Lit.int .u8 m0).wf = true) :
    bits .xor .u8 (bits .xor .u8 b (bits .and .u8 m0 (hidM b))) (bits .and .u8 m0 (hidM (bits .xor .u8 b (bits .and .u8 m0 (hidM b))))) = b := by
  have h := (x0_same (bdU8 hb) (bdU8 hm)).1
  have e : hidM (bits .xor .u8 b (bits .and .u8 m0 (hidM b))) = hidM b := by
    generalize bits .xor .u8 b (bits .and .u8 m0 (hidM b)) = y at h
    unfold hidM
    have : y / 128 % 2 = b / 128 % 2 := by omega
    rw [this]
  rw [e]
  exact xor8_back hb (wf_bits _ _ _ _)
theorem encH_cons (h : Hd) (n : Int) : ∃ T, encH h n = firstM h :: T := by
  unfold encH
  split
  · exact ⟨_, rfl⟩
  · exact ⟨_, rfl⟩
theorem firstM_facts (h : Hd) (hr : hrightP h) : 0 ≤ firstM h ∧ firstM h ≤ 255 ∧ firstM h % 4 + 1 = h.w ∧ (decide (firstM h / 128 % 2 = 0 ∧ firstM h / 4 % 2 = 1) = h.p) ∧ bits .and .u8 (firstM h) (keptM (firstM h)) = 0 := by
  have hw1 := hr.1; have hw4 := hr.2.1
  have hb : 0 ≤ firstM h ∧ firstM h ≤ 255 := by
    unfold firstM
    rcases hr.2.2 with ⟨h1, _⟩ | ⟨h1, _⟩ | ⟨h1, _⟩
    · rw [if_neg (by omega)]; omega
    · rw [if_neg (by omega)]; omega
    · rw [if_pos h1]; split <;> omega
  have ha := and_hid _ hb
  refine ⟨hb.1, hb.2, ?_⟩
  unfold keptM
  rcases hr.2.2 with ⟨h1, h2, h3⟩ | ⟨h1, h2, h3⟩ | ⟨h1, h2, h3⟩
  · have hf : firstM h = 191 + h.w + 16 * h.s := by unfold firstM; rw [if_neg (by omega)]
    rw [hf] at ha ⊢
    refine ⟨by omega, ?_, ?_⟩
    · rw [h3, decide_eq_false_iff_not]; omega
    · rw [if_pos (by omega), ha.2.2.1]; omega
  · have hf : firstM h = 191 + h.w + 16 * h.s := by unfold firstM; rw [if_neg (by omega)]
    rw [hf] at ha ⊢
    refine ⟨by omega, ?_, ?_⟩
    · rw [h3, decide_eq_false_iff_not]; omega
    · rw [if_pos (by omega), ha.2.2.1]; omega
  · have hf : firstM h = 63 + h.w + (if h.p = true then 4 else 0) := by unfold firstM; rw [if_pos h1]
    cases hp : h.p with
    | false =>
      rw [hp] at hf
      simp only [Bool.false_eq_true, if_false] at hf
      rw [hf] at ha ⊢
      refine ⟨by omega, ?_, ?_⟩
      · rw [decide_eq_false_iff_not]; omega
      · rw [if_neg (by omega), ha.2.2.2.1]; omega
    | true =>
      rw [hp] at hf
      simp only [if_true] at hf
      rw [hf] at ha ⊢
      refine ⟨by omega, ?_, ?_⟩
      · rw [decide_eq_true_iff]; omega
      · rw [if_neg (by omega), ha.2.2.2.1]; omega
theorem cutM_bd (n m : Int) : 0 ≤ cutM n m ∧ cutM n m < powW m := by
  unfold cutM
  have : 0 < powW m := by unfold powW; split <;> (try split) <;> (try split) <;> omega
  exact ⟨Int.emod_nonneg _ (by omega), Int.emod_lt_of_pos _ this⟩

theorem rev_prot (ks km : Int) (h : Hd) (n : Int) (pl Z : List Int) (hok : h.ok) (hr : hrightP h) (k : Nat) (hk : (k : Int) = h.w + pl.length + 8) (h12 : 12 ≤ k) (hm : k ≤ 16383) (hpl : ∀ x ∈ pl, (Lit.int .u8 x).wf = true) (hz : h.s ≠ 2 ∨ Z = []) :
    revM km (maskedM km ((encH h k ++ numM (cutM n (wM h.w)) h.w.toNat) ++ sealM ks n (encH h k ++ numM (cutM n (wM h.w)) h.w.toNat) pl) (encH h k).length h.w.toNat ++ Z) =
      some ⟨h, cutM n (wM h.w), (encH h k ++ numM (cutM n (wM h.w)) h.w.toNat) ++ sealM ks n (encH h k ++ numM (cutM n (wM h.w)) h.w.toNat) pl, (encH h k).length + h.w.toNat, (encH h k).length + k⟩ := by
  have hw1 := hr.1; have hw4 := hr.2.1
  obtain ⟨w, hw⟩ : ∃ w : Nat, h.w.toNat = w := ⟨_, rfl⟩
  have hwi : (w : Int) = h.w := by omega
  have hwM : wM h.w = h.w := by unfold wM; split <;> (try split) <;> omega
  rw [hw, hwM]
  have hsw : ∀ x ∈ sealM ks n (encH h k ++ numM (cutM n h.w) w) pl, (Lit.int .u8 x).wf = true := sealM_wf ks n _ pl hpl
  have hsl := sealM_len ks n (encH h k ++ numM (cutM n h.w) w) pl
  generalize hS : sealM ks n (encH h k ++ numM (cutM n h.w) w) pl = S at hsw hsl
  have hew : ∀ x ∈ encH h k, (Lit.int .u8 x).wf = true := encH_wf h hok hr k (by omega)
  have hnl := numM_len (cutM n h.w) w
  have hnw := numM_wf (cutM n h.w) w
  obtain ⟨Q, hQ⟩ : ∃ Q, numM (cutM n h.w) w ++ S = Q := ⟨_, rfl⟩
  have hQl : Q.length = k := by rw [← hQ, List.length_append, hnl, hsl]; omega
  have hQw : ∀ x ∈ Q, (Lit.int .u8 x).wf = true := by
    intro x hx
    rw [← hQ, List.mem_append] at hx
    exact hx.elim (hnw x) (hsw x)
  have ff := firstM_facts h hr
  have pb := par_back h hok hr k h12 hm
  have hf : (if h.s = 2 then z8 else h.f) = h.f := by
    split
    · rename_i h2
      rcases hr.2.2 with ⟨h1, _⟩ | ⟨h1, _⟩ | ⟨_, _, h1⟩
      · omega
      · omega
      · exact h1.symm
    · rfl
  rw [hf] at pb
  obtain ⟨T, hT⟩ := encH_cons h k
  have hB : (encH h k ++ numM (cutM n h.w) w) ++ S = encH h k ++ Q := by rw [List.append_assoc, hQ]
  rw [hB]
  obtain ⟨L, hL⟩ : ∃ L, (encH h k).length = L := ⟨_, rfl⟩
  rw [hL] at pb ⊢
  rw [hT] at hew hL ⊢
  have hb0 : (Lit.int .u8 (firstM h)).wf = true := hew _ (List.mem_cons_self ..)
  -- the mask
  have hmw := mskM_wf km ((firstM h :: T) ++ Q) L
  unfold maskedM
  have hx0 : x0M (mskM km ((firstM h :: T) ++ Q) L) ((firstM h :: T) ++ Q) = bits .xor .u8 (firstM h) (bits .and .u8 ((mskM km ((firstM h :: T) ++ Q) L).getD 0 0) (hidM (firstM h))) := rfl
  have hm0 := getD_wfB hmw 0
  have hsame := x0_same (bdU8 hb0) (bdU8 hm0)
  have hback := x0_back hb0 hm0
  rw [hx0]
  generalize hxe : bits .xor .u8 (firstM h) (bits .and .u8 ((mskM km ((firstM h :: T) ++ Q) L).getD 0 0) (hidM (firstM h))) = x0 at hsame hback
  have hset : ((firstM h :: T) ++ Q).set 0 x0 = (x0 :: T) ++ Q := rfl
  rw [hset]
  have hLx : (x0 :: T).length = L := by rw [← hL]; rfl
  have hdrop : ∀ (m : List Int), ((xorAt m L w ((x0 :: T) ++ Q)) ++ Z).drop (L + 4) = ((firstM h :: T) ++ Q).drop (L + 4) ++ Z := by
    intro m
    rw [List.drop_append_of_le_length (by rw [xorAt_len, List.length_append, hLx, hQl]; omega), xorAt_drop _ _ _ _ _ (by omega)]
    congr 1
  have hmsk : mskM km (xorAt (mskM km ((firstM h :: T) ++ Q) L) L w ((x0 :: T) ++ Q) ++ Z) L = mskM km ((firstM h :: T) ++ Q) L := by
    conv => lhs; unfold mskM
    rw [hdrop, List.take_append_of_le_length (by rw [List.length_drop, List.length_append, hL, hQl]; omega)]
    rfl
  generalize hme : mskM km ((firstM h :: T) ++ Q) L = m at *
  have hP : xorAt m L w ((x0 :: T) ++ Q) = (x0 :: T) ++ xorAt m 0 w Q := by
    have := xorAt_append m w (x0 :: T) Q
    rw [hLx] at this; exact this
  have hpar : parM (xorAt m L w ((x0 :: T) ++ Q) ++ Z) = some (⟨h.s, h.t, h.f, h.k, 1, false⟩, L, L + k) := by
    rw [hP, List.append_assoc]
    show parM (x0 :: (T ++ (xorAt m 0 w Q ++ Z))) = _
    rw [parM_first (b := x0) (b' := firstM h) _ (by omega) (by intro h1; exact (hsame.2 (by omega)))]
    have := pb (xorAt m 0 w Q ++ Z) (by rw [List.length_append, xorAt_len, hQl]; omega)
    rw [hT] at this
    rw [show firstM h :: (T ++ (xorAt m 0 w Q ++ Z)) = (firstM h :: T) ++ (xorAt m 0 w Q ++ Z) from rfl, this]
    congr 3
    by_cases h2 : h.s = 2
    · rw [if_pos h2]
      obtain rfl := hz.resolve_left (by simp [h2])
      rw [List.append_nil, xorAt_len, hQl]
    · rw [if_neg h2]
  unfold revM
  rw [hpar]
  simp only
  rw [hmsk]
  have hx1 : x0M m (xorAt m L w ((x0 :: T) ++ Q) ++ Z) = firstM h := by
    rw [hP]
    exact hback
  rw [hx1, ff.2.2.1, hw]
  have htk : ((xorAt m L w ((x0 :: T) ++ Q) ++ Z).take (L + k)).set 0 (firstM h) = xorAt m L w ((firstM h :: T) ++ Q) := by
    have hPl : (xorAt m L w ((x0 :: T) ++ Q)).length = L + k := by rw [xorAt_len, List.length_append, hLx, hQl]
    rw [List.take_append_of_le_length (by omega), List.take_of_length_le (by omega), hP]
    have hP2 : xorAt m L w ((firstM h :: T) ++ Q) = (firstM h :: T) ++ xorAt m 0 w Q := by
      have := xorAt_append m w (firstM h :: T) Q
      rw [hL] at this; exact this
    rw [hP2]
    rfl
  have hall : ∀ x ∈ (firstM h :: T) ++ Q, (Lit.int .u8 x).wf = true := by
    intro x hx
    rw [List.mem_append] at hx
    exact hx.elim (hew x) (hQw x)
  rw [htk, xorAt_back hmw L w hall, ff.2.2.2.1]
  have hlow : lowB ((firstM h :: T) ++ Q) L w = cutM n h.w := by
    have hp := cutM_bd n h.w
    have hc : w = 1 ∨ w = 2 ∨ w = 3 ∨ w = 4 := by omega
    have := lowM_num (cutM n h.w) w hc (by rw [hwi]; exact hp) (firstM h :: T) S
    rw [hL, hQ] at this
    exact this
  rw [hlow]

/-- what was sealed is opened. -/
theorem unp_prot (ks km : Int) (h : Hd) (n : Int) (pl Z : List Int) (hok : h.ok) (hr : hrightP h) (k : Nat) (hk : (k : Int) = h.w + pl.length + 8) (h12 : 12 ≤ k) (hm : k ≤ 16383) (hpl : ∀ x ∈ pl, (Lit.int .u8 x).wf = true) (hz : h.s ≠ 2 ∨ Z = [])
    (largest : Int) (has : Bool) (hn : wholeM (nxM largest has) (cutM n (wM h.w)) (powW (wM h.w)) = n) :
    unpM ks km (maskedM km ((encH h k ++ numM (cutM n (wM h.w)) h.w.toNat) ++ sealM ks n (encH h k ++ numM (cutM n (wM h.w)) h.w.toNat) pl) (encH h k).length h.w.toNat ++ Z) largest has = (h, n, pl, 0) := by
  have hrev := rev_prot ks km h n pl Z hok hr k hk h12 hm hpl hz
  have ff := firstM_facts h hr
  obtain ⟨T, hT⟩ := encH_cons h k
  unfold unpM
  rw [hrev]
  simp only
  rw [hn]
  have hl : (encH h k ++ numM (cutM n (wM h.w)) h.w.toNat).length = (encH h k).length + h.w.toNat := by rw [List.length_append, numM_len]
  rw [List.take_append_of_le_length (by rw [hl]; exact Nat.le_refl _), List.take_of_length_le (by rw [hl]; exact Nat.le_refl _), List.drop_append_of_le_length (by rw [hl]; exact Nat.le_refl _), List.drop_of_length_le (by rw [hl]; exact Nat.le_refl _), List.nil_append, open_seal ks n _ pl hpl]
  have hg : ((encH h k ++ numM (cutM n (wM h.w)) h.w.toNat) ++ sealM ks n (encH h k ++ numM (cutM n (wM h.w)) h.w.toNat) pl).getD 0 0 = firstM h := by rw [hT]; rfl
  rw [hg, if_neg (by simp), if_neg (by rw [ff.2.2.2.2]; simp)]
theorem whole_next {n m : Int} (h : 0 ≤ n) (hm : m = 1 ∨ m = 2 ∨ m = 3 ∨ m = 4) : wholeM n (cutM n m) (powW m) = n := by
  unfold wholeM cutM
  have hp : powW m = 256 ∨ powW m = 65536 ∨ powW m = 16777216 ∨ powW m = 4294967296 := by
    rcases hm with rfl | rfl | rfl | rfl <;> simp [powW]
  rcases hp with hp | hp | hp | hp <;> rw [hp] <;> (repeat' split) <;> omega
end Go.Proofs.Ythofbckkjcidmaa
namespace Go.Proofs.Ythofbckkjcidmaa
open Go.RowKit
set_option linter.unusedVariables false

set_option maxRecDepth 100000 in
theorem hidden_any (w : World) (f : Int) (hf : 0 ≤ f ∧ f ≤ 255) : Calls Try.prog 30 #[.int .u8 f] w fun e w' => e = .returned (.int .u8 (hidM f)) ∧ w = w' := by
  have ha := (and48 f hf).2.1
  by_cases h : f / 128 % 2 = 1
  · have e : hidM f = 15 := if_pos h
    have hb : bits .and .u8 f 128 = 128 := by rw [ha, h]; rfl
    rw [e]
    clear ha h e
    go_enter Try.func30, Try.ntmps30
    go_wp2
    go_ret
    exact ⟨rfl, rfl⟩
  · have e : hidM f = 31 := if_neg h
    have hb : bits .and .u8 f 128 = 0 := by rw [ha, show f / 128 % 2 = 0 by omega]; rfl
    rw [e]
    clear ha h e
    go_enter Try.func30, Try.ntmps30
    go_wp2
    go_ret
    exact ⟨rfl, rfl⟩
set_option maxRecDepth 100000 in
theorem kept_any (w : World) (f : Int) (hf : 0 ≤ f ∧ f ≤ 255) : Calls Try.prog 34 #[.int .u8 f] w fun e w' => e = .returned (.int .u8 (keptM f)) ∧ w = w' := by
  have ha := (and48 f hf).2.1
  by_cases h : f / 128 % 2 = 1
  · have e : keptM f = 12 := if_pos h
    have hb : bits .and .u8 f 128 = 128 := by rw [ha, h]; rfl
    rw [e]
    clear ha h e
    go_enter Try.func34, Try.ntmps34
    go_wp2
    go_ret
    exact ⟨rfl, rfl⟩
  · have e : keptM f = 24 := if_neg h
    have hb : bits .and .u8 f 128 = 0 := by rw [ha, show f / 128 % 2 = 0 by omega]; rfl
    rw [e]
    clear ha h e
    go_enter Try.func34, Try.ntmps34
    go_wp2
    go_ret
    exact ⟨rfl, rfl⟩

set_option maxRecDepth 100000 in
set_option maxHeartbeats 4000000 in
theorem pmask_any (w : World) (ks km : Int) (a : Option Addr) (len cap : Nat) (b : List Int) (at' : Nat) (h12 : at' + 12 ≤ len) (hlc : len ≤ cap) (hcap : cap ≤ 9223372036854775807) (hI : IntsK .u8 w a len b) :
    Makes Try.prog 29 #[.agg #[.int .u64 ks, .int .u64 km], .slice a len cap, .int .i64 at'] w (.agg ((mskM km b at').map (Value.int .u8)).toArray) := by
  have HI := Lib.hid hI
  have hlen := hI.1
  have hs8 : ((b.drop (at' + 4)).take 8).length = 8 := by rw [List.length_take, List.length_drop, hlen]; omega
  have hsw : ∀ x ∈ (b.drop (at' + 4)).take 8, (Lit.int .u8 x).wf = true := fun x hx => hI.2.1 x (List.mem_of_mem_drop (List.mem_of_mem_take hx))
  have HMA := Lib.hid (fun w => mask_any w km ((b.drop (at' + 4)).take 8) hs8 hsw)
  obtain ⟨bb, off, hae⟩ : ∃ bb off, a = some ⟨bb, off, none⟩ := by
    rcases hI.2.2 with h0 | ⟨bb, off, h1, _⟩
    · omega
    · exact ⟨bb, off, h1⟩
  subst hae
  have HS8 := Lib.hid hs8
  have HML : Hid (((mskM km b at').map (Value.int .u8)).length = 5) := Lib.hid (by rw [List.length_map, mskM_len])
  have HMO : Hid (∀ v ∈ (mskM km b at').map (Value.int .u8), v.oneCell' = true) := Lib.hid ints_one
  change Hid (∀ w, Makes Try.prog 54 #[.int .u64 km, .agg (((b.drop (at' + 4)).take 8).map (Value.int .u8)).toArray] w (.agg ((mskM km b at').map (Value.int .u8)).toArray)) at HMA
  obtain ⟨M, hM⟩ : ∃ M, (mskM km b at').map (Value.int .u8) = M := ⟨_, rfl⟩
  rw [hM] at HMA HML HMO ⊢
  clear hI hlen hs8 hsw hM
  go_enter Try.func29, Try.ntmps29
  have HB := Lib.hid (Below.refl w.heap.size w)
  go_upto_region 2 with fail
  have HGE0 := Lib.hid (Nat.le_refl w.heap.size)
  obtain ⟨g0, hg0⟩ : ∃ g, w.heap.size = g := ⟨_, rfl⟩
  try rw [hg0]
  have hb := (Below.refl w.heap.size w).alloc (Nat.le_refl _) (.cells #[.int .u64 ks, .int .u64 km] 27)
  have hrw := heap_alloc_new w (.cells #[.int .u64 ks, .int .u64 km] 27)
  have hsz : (w.alloc (.cells #[.int .u64 ks, .int .u64 km] 27)).heap.size = g0 + 1 := by simp [hg0]
  rw [hg0] at hrw
  replace HB := Lib.hid (bl_next HB.out HB.out.size hb)
  replace HI := Lib.hid (HI.out.below hb)
  have HG0 := Lib.hid hrw
  clear hb hrw
  generalize w.alloc (.cells #[.int .u64 ks, .int .u64 km] 27) = w1 at HB HI HG0 hsz ⊢
  have hg1 := hsz
  clear hsz
  have HGE1 := Lib.hid hg0
  clear hg0
  have hb := (Below.refl w1.heap.size w1).alloc (Nat.le_refl _) (.cells #[.int .u8 0, .int .u8 0, .int .u8 0, .int .u8 0, .int .u8 0] 69)
  have hrw := heap_alloc_new w1 (.cells #[.int .u8 0, .int .u8 0, .int .u8 0, .int .u8 0, .int .u8 0] 69)
  have hsz : (w1.alloc (.cells #[.int .u8 0, .int .u8 0, .int .u8 0, .int .u8 0, .int .u8 0] 69)).heap.size = g0 + 1 + 1 := by simp [hg1]
  rw [hg1] at hrw
  replace HB := Lib.hid (bl_next HB.out HB.out.size hb)
  replace HI := Lib.hid (HI.out.below hb)
  replace HG0 := Lib.hid (bl_row hb (lt_of_block HG0.out) HG0.out)
  have HG1 := Lib.hid hrw
  clear hb hrw
  generalize w1.alloc (.cells #[.int .u8 0, .int .u8 0, .int .u8 0, .int .u8 0, .int .u8 0] 69) = w2 at HB HI HG0 HG1 hsz ⊢
  have hg2 := hsz
  clear hsz
  clear hg1
  obtain ⟨g1, hgg⟩ : ∃ g, g0 + 1 = g := ⟨_, rfl⟩
  rw [hgg] at HG1 hg2 ⊢
  have HLTg1 : Hid (g0 < g1) := Lib.hid (by omega)
  clear hgg
  have hb := (Below.refl w2.heap.size w2).alloc (Nat.le_refl _) (.cells #[.int .u8 0, .int .u8 0, .int .u8 0, .int .u8 0, .int .u8 0, .int .u8 0, .int .u8 0, .int .u8 0] 29)
  have hrw := heap_alloc_new w2 (.cells #[.int .u8 0, .int .u8 0, .int .u8 0, .int .u8 0, .int .u8 0, .int .u8 0, .int .u8 0, .int .u8 0] 29)
  have hsz : (w2.alloc (.cells #[.int .u8 0, .int .u8 0, .int .u8 0, .int .u8 0, .int .u8 0, .int .u8 0, .int .u8 0, .int .u8 0] 29)).heap.size = g1 + 1 + 1 := by simp [hg2]
  rw [hg2] at hrw
  replace HB := Lib.hid (bl_next HB.out HB.out.size hb)
  replace HI := Lib.hid (HI.out.below hb)
  replace HG0 := Lib.hid (bl_row hb (lt_of_block HG0.out) HG0.out)
  replace HG1 := Lib.hid (bl_row hb (lt_of_block HG1.out) HG1.out)
  have HG2 := Lib.hid hrw
  clear hb hrw
  generalize w2.alloc (.cells #[.int .u8 0, .int .u8 0, .int .u8 0, .int .u8 0, .int .u8 0, .int .u8 0, .int .u8 0, .int .u8 0] 29) = w3 at HB HI HG0 HG1 HG2 hsz ⊢
  have hg3 := hsz
  clear hsz
  clear hg2
  obtain ⟨g2, hgg⟩ : ∃ g, g1 + 1 = g := ⟨_, rfl⟩
  rw [hgg] at HG2 hg3 ⊢
  have HLTg2 : Hid (g1 < g2) := Lib.hid (by omega)
  clear hgg
  clear hg3
  have HGE : Hid (w.heap.size ≤ g0) := Lib.hid (by have := HGE1.out; omega)
  skip
  refine wp_plan (.t 0 (.t 1 (.t 2 (.t 3 (.t 4 (.u 5 .done)))))) (fun y => True) (by kernel_rfl) (by kernel_rfl) (by kernel_rfl) (fun c a d v w h => by cases d <;> exact h) trivial ?_
  haveI hne : Nonempty (In fun y => True) := ⟨⟨w3, trivial⟩⟩
  have hb := (Below.refl w3.heap.size w3).drew
  replace HB := Lib.hid (bl_next HB.out HB.out.size hb)
  replace HI := Lib.hid (HI.out.below hb)
  replace HG0 := Lib.hid (bl_row hb (lt_of_block HG0.out) HG0.out)
  replace HG1 := Lib.hid (bl_row hb (lt_of_block HG1.out) HG1.out)
  replace HG2 := Lib.hid (bl_row hb (lt_of_block HG2.out) HG2.out)
  generalize w3.drew = wa at HB HI HG0 HG1 HG2 ⊢
  clear hb
  have hcne : ¬ cap = at' + 4 := by omega
  have hl8 : 8 ≤ len - (at' + 4) := by omega
  repeat (refine plan_t (by rfl) ?_; (first | go_big_quiet_skip | (go_big_quiet_want; go_big_quiet_op; go_big_quiet_on)); refine wpQuiet_nil ?_)
  clear hcne
  refine plan_us (by rfl) (by kernel_rfl) ?_
  intro K hK
  have hsrc := (HI.out.suf (at' + 4) (by omega)).pre 8 hl8
  refine wp_copy_grown _ _ 23 23 rfl 5 Try.underlying23 infoU8t _ _ _ _ _ _ rfl rfl g2 0 [.int .u8 0, .int .u8 0, .int .u8 0, .int .u8 0, .int .u8 0, .int .u8 0, .int .u8 0, .int .u8 0] 29 HG2.out (((b.drop (at' + 4)).take 8).map (Value.int .u8)) ?_ (fun _ => ⟨rfl, ?_⟩) ?_ ints_one ?_
  · rw [List.length_map, HS8.out]; exact (Nat.min_eq_right hl8).symm
  · obtain ⟨ad, e, _, hc⟩ := hsrc.src (by omega)
    exact ⟨ad, e, hc⟩
  · rw [List.length_map, HS8.out]; simp
  intro wb hrow hgr
  have hsp : splice [.int .u8 0, .int .u8 0, .int .u8 0, .int .u8 0, .int .u8 0, .int .u8 0, .int .u8 0, .int .u8 0] 0 (((b.drop (at' + 4)).take 8).map (Value.int .u8)) = ((b.drop (at' + 4)).take 8).map (Value.int .u8) := by
    have h8 := HS8.out
    generalize (b.drop (at' + 4)).take 8 = xs at h8 ⊢
    obtain ⟨x0, x1, x2, x3, x4, x5, x6, x7, rfl⟩ := len8 h8
    rfl
  rw [hsp] at hrow
  clear hsp hsrc hl8
  refine hK _ _ ⟨trivial, ?_⟩
  replace HG0 := Lib.hid (grown_row hgr (by intro e; injection e with e; have := HLTg1.out; have := HLTg2.out; omega) HG0.out)
  replace HG1 := Lib.hid (grown_row hgr (by intro e; injection e with e; have := HLTg2.out; omega) HG1.out)
  replace HB := Lib.hid (HB.out.grown hgr HB.out.size (by intro k hk; injection hk with hk; have := HLTg1.out; have := HLTg2.out; have := HGE.out; omega))
  replace HG2 := Lib.hid hrow
  clear hK hgr hrow hne HI
  show Exit.then _ _ _ _ _
  simp only [Act.put, List.setIfInBounds_toArray, List.set_cons_succ, List.set_cons_zero]
  obtain ⟨S8, hS8⟩ : ∃ S, ((b.drop (at' + 4)).take 8).map (Value.int .u8) = S := ⟨_, rfl⟩
  have HSL : Hid (S8.length = 8) := Lib.hid (by rw [← hS8, List.length_map, HS8.out])
  rw [hS8] at HG2 HMA
  clear hS8
  have k0 := row_cell HG0.out 1 _ rfl
  go_wp2_with (first | (refine wpList_load_mid rfl 29 _ rfl g2 0 rfl S8 _ (rngL HG2.out) Try.underlying29 rfl (by rw [HSL.out]; rfl) ?_) | fail)
  refine Calls.mono (HMA.out _) ?_
  rintro e w4 ⟨rfl, hb⟩
  clear HG2 HG0 k0
  replace HB := Lib.hid (bl_next HB.out HB.out.size hb)
  replace HG1 := Lib.hid (bl_row hb (lt_of_block HG1.out) HG1.out)
  clear hb
  go_wp2_with (first | (refine wpList_store_row rfl 69 _ _ rfl g1 rfl M [.int .u8 0, .int .u8 0, .int .u8 0, .int .u8 0, .int .u8 0] rfl 69 HG1.out (by rw [HML.out]; rfl) (by rw [HML.out]; rfl) HMO.out ?_; intro w5 hr hg) | fail)
  replace HB := Lib.hid (HB.out.grown hg HB.out.size (by intro k hk; injection hk with hk; have := HLTg1.out; have := HGE.out; omega))
  (try simp only [Exit.inBlock, Exit.then])
  exact bodyPost_ret (results_cell1 rfl _ _ g1 rfl M _ _ hr Try.underlying69 rfl (by rw [HML.out]; rfl)) rfl ⟨rfl, HB.out⟩
end Go.Proofs.Ythofbckkjcidmaa
namespace Go.Proofs.Ythofbckkjcidmaa
open Go.RowKit
set_option linter.unusedVariables false
set_option linter.unusedSimpArgs false

/-- a row of bytes of the call's own, off the blocks D. -/
structure ORow (W : World) (B : Nat) (D : List Nat) (a : Option Addr) (n c : Nat) (xs : List Int) : Prop where
  own : W.ownsRow B 5 1 (.slice a n c) n (xs.map (Value.int .u8))
  off : ∀ x, a = some x → x.block ∉ D
  lt : ∀ x ∈ D, x < W.heap.size
/-- low memory, and the blocks D, are as they were. -/
structure Kept (B : Nat) (D : List Nat) (w y : World) : Prop where
  low : Below B w y
  keep : ∀ i ∈ D, y.heap[i]? = w.heap[i]?
section
variable {W W' W2 : World} {B : Nat} {D : List Nat} {a : Option Addr} {n c : Nat} {xs : List Int}
theorem Kept.refl (B : Nat) (D : List Nat) (W : World) : Kept B D W W := ⟨Below.refl _ _, fun _ _ => rfl⟩
theorem Kept.trans (h : Kept B D W W') (k : Kept B D W' W2) : Kept B D W W2 := ⟨h.low.trans k.low, fun i hi => (k.keep i hi).trans (h.keep i hi)⟩
theorem Kept.of_below (h : Below W.heap.size W W') (hB : B ≤ W.heap.size) (hD : ∀ x ∈ D, x < W.heap.size) : Kept B D W W' := ⟨h.mono hB, fun i hi => h.block i (hD i hi)⟩
theorem Kept.of_grown {r : Option Nat} (hg : W.grownBy W' r) (hB : B ≤ W.heap.size) (hD : ∀ x ∈ D, x < W.heap.size) (h1 : ∀ k, r = some k → B ≤ k) (h2 : ∀ x ∈ D, some x ≠ r) : Kept B D W W' :=
  ⟨(Below.refl B W).grown hg hB h1, fun i hi => hg.block i (hD i hi) (h2 i hi)⟩
theorem Kept.row (h : Kept B D W W') {g : Nat} {o : Obj} (hg : g ∈ D) (hr : W.heap[g]? = some o) : W'.heap[g]? = some o := (h.keep g hg).trans hr
theorem ORow.offB (h : ORow W B D a n c xs) : ∀ x ∈ D, some x ≠ (Value.slice a n c).ownBlock := fun x hx e => by
  cases a with
  | none => cases e
  | some y => exact h.off y rfl (by injection e with e; rw [← e]; exact hx)
theorem ORow.below (h : ORow W B D a n c xs) (hb : Below W.heap.size W W') : ORow W' B D a n c xs := ⟨own_below h.own hb, h.off, fun x hx => Nat.lt_of_lt_of_le (h.lt x hx) hb.size⟩
theorem ORow.append (h : ORow W B D a n c xs) {bs : List Int} {m : Nat} {v : Value} (hB : B ≤ W.heap.size) (hown : W'.ownsRow B 5 1 v (n + m) ((xs ++ bs).map (Value.int .u8))) (hg : W.grownBy W' (Value.slice a n c).ownBlock)
    (hor : v.ownBlock = (Value.slice a n c).ownBlock ∨ v.ownBlock = some W.heap.size) : ∃ a' c', v = .slice a' (n + m) c' ∧ ORow W' B D a' (n + m) c' (xs ++ bs) ∧ Kept B D W W' := by
  obtain ⟨b, cp, rfl, _⟩ := own_slice hown
  refine ⟨b, cp, rfl, ⟨hown, fun x hx hm => ?_, fun x hx => Nat.lt_of_lt_of_le (h.lt x hx) hg.size⟩, Kept.of_grown hg hB h.lt (own_base h.own) h.offB⟩
  subst hx
  rcases hor with e | e
  · exact h.offB _ hm e
  · injection e with e
    have := h.lt _ hm; omega
theorem ORow.cap (h : ORow W B D a n c xs) : n ≤ c ∧ c ≤ 9223372036854775807 ∧ xs.length = n := by
  obtain ⟨b, cp, e, hh⟩ := own_slice h.own
  injection e with _ _ e3
  have h2 := own_capm h.own _ _ _ rfl
  have h3 := h.own.1
  rw [List.length_map] at h3
  exact ⟨by omega, h2, by omega⟩
theorem ORow.ints (h : ORow W B D a n c xs) (hw : ∀ x ∈ xs, (Lit.int .u8 x).wf = true) : IntsK .u8 W a n xs := by
  obtain ⟨b, cp, e, _, hi, _⟩ := ints_of_own h.own hw
  injection e with e1 e2 e3
  rw [e1]; exact hi
end
theorem numM_get (low : Int) : ∀ (t i : Nat), (numM low (t + 1 + i))[t]? = some (low / 2 ^ (8 * i) % 256)
  | 0, i => by rw [show 0 + 1 + i = i + 1 by omega, numM]; rfl
  | t + 1, i => by rw [show t + 1 + 1 + i = (t + 1 + i) + 1 by omega, numM, List.getElem?_cons_succ]; exact numM_get low t i
theorem numM_take {low : Int} {wn t i : Nat} (h : wn = t + 1 + i) : (numM low wn).take (t + 1) = (numM low wn).take t ++ [low / 2 ^ (8 * i) % 256] := by
  subst h
  rw [List.take_add_one, numM_get]; rfl

/-- a part of a function's text. -/
def subRegion (n : Nat) : Code → Option Code
  | .region k o d => if k = n then some (.region k o d) else none
  | .seq a b => match subRegion n a with
    | some c => some c
    | none => subRegion n b
  | .cond _ a b => match subRegion n a with
    | some c => some c
    | none => subRegion n b
  | .block _ c => subRegion n c
  | .loop c => subRegion n c
  | _ => none
def subBlock (n : Nat) : Code → Option Code
  | .block k c => if k = n then some (.block k c) else subBlock n c
  | .seq a b => match subBlock n a with
    | some c => some c
    | none => subBlock n b
  | .cond _ a b => match subBlock n a with
    | some c => some c
    | none => subBlock n b
  | .loop c => subBlock n c
  | _ => none
set_option maxRecDepth 100000 in
set_option maxHeartbeats 4000000 in
theorem prot_num {x0 x1 x2 x3 x4 x5 x6 x7 x8 x9 x11 x12 x15 x16 x17 x18 x19 x20 x21 x22 x23 x24 x25 x26 x27 x28 x29 x30 x31 x32 x33 x34 x35 x36 x37 x38 x39 x40 x41 x42 x43 x44 x45 x46 x47 x48 x49 x50 x51 x52 x53 x54 x55 x56 x57 x58 x59 x60 x61 x62 x63 x64 x65 x66 x67 x68 x69 x70 x71 x72 x73 x74 x75 x76 x77 x78 x79 x80 x81 x82 x83 x84 x85 x86 x87 x88 x89 x90 x91 x92 x93 x94 x95 x96 x97 x98 x99 x100 x101 x102 x103 x104 x105 x106 x107 x108 x109 x110 x111 x112 x113 x114 x115 x116 x117 : Value} {B n0 c0 wn : Nat} {D : List Nat} {low wd : Int} {a0 : Option Addr} {E : List Int} (wc : World) {Q : Exit → Act → World → Prop}
    (hwd : 1 ≤ wd ∧ wd ≤ 4) (hwn : wd = (wn : Int)) (hlow : 0 ≤ low ∧ low < 4294967296) (hn0 : n0 ≤ 1000000) (HO : Hid (ORow wc B D a0 (n0) c0 (E))) (hB : B ≤ wc.heap.size)
    (hQp : ∀ c a d v w, Q (.panic c) (a.put d v) w → Q (.panic c) a w)
    (hQ : ∀ (y14 y62 y63 y64 y65 y66 y67 y68 y69 y70 y71 y72 y73 : Value) (a1 : Option Addr) (c1 : Nat) (w' : World), ORow w' B D a1 (n0 + wn) c1 (E ++ numM low wn) → Kept B D wc w' → Q .normal ⟨List.toArray (x0 :: x1 :: x2 :: x3 :: x4 :: x5 :: x6 :: x7 :: x8 :: x9 :: .slice a1 (n0 + wn) c1 :: x11 :: x12 :: .int .u32 low :: y14 :: x15 :: x16 :: x17 :: x18 :: x19 :: x20 :: x21 :: x22 :: x23 :: x24 :: x25 :: x26 :: x27 :: x28 :: x29 :: x30 :: x31 :: x32 :: x33 :: x34 :: x35 :: x36 :: x37 :: x38 :: x39 :: x40 :: x41 :: x42 :: x43 :: x44 :: x45 :: x46 :: x47 :: x48 :: x49 :: x50 :: x51 :: x52 :: x53 :: x54 :: x55 :: x56 :: x57 :: x58 :: x59 :: x60 :: x61 :: y62 :: y63 :: y64 :: y65 :: y66 :: y67 :: y68 :: y69 :: y70 :: y71 :: y72 :: y73 :: x74 :: x75 :: x76 :: x77 :: x78 :: x79 :: x80 :: x81 :: x82 :: x83 :: x84 :: x85 :: x86 :: x87 :: x88 :: x89 :: x90 :: x91 :: x92 :: x93 :: x94 :: x95 :: x96 :: x97 :: x98 :: x99 :: x100 :: x101 :: x102 :: x103 :: x104 :: x105 :: x106 :: x107 :: x108 :: x109 :: x110 :: x111 :: x112 :: x113 :: x114 :: x115 :: x116 :: x117 :: []), []⟩ w') :
    Code.wp Try.prog (((Try.f11.body.bind (subBlock 0)).getD .skip)) Q ⟨List.toArray (x0 :: x1 :: x2 :: x3 :: x4 :: x5 :: x6 :: x7 :: x8 :: x9 :: .slice a0 n0 c0 :: x11 :: x12 :: .int .u32 low :: .int .i64 (wd - 1) :: x15 :: x16 :: x17 :: x18 :: x19 :: x20 :: x21 :: x22 :: x23 :: x24 :: x25 :: x26 :: x27 :: x28 :: x29 :: x30 :: x31 :: x32 :: x33 :: x34 :: x35 :: x36 :: x37 :: x38 :: x39 :: x40 :: x41 :: x42 :: x43 :: x44 :: x45 :: x46 :: x47 :: x48 :: x49 :: x50 :: x51 :: x52 :: x53 :: x54 :: x55 :: x56 :: x57 :: x58 :: x59 :: x60 :: x61 :: x62 :: x63 :: x64 :: x65 :: x66 :: x67 :: x68 :: x69 :: x70 :: x71 :: x72 :: x73 :: x74 :: x75 :: x76 :: x77 :: x78 :: x79 :: x80 :: x81 :: x82 :: x83 :: x84 :: x85 :: x86 :: x87 :: x88 :: x89 :: x90 :: x91 :: x92 :: x93 :: x94 :: x95 :: x96 :: x97 :: x98 :: x99 :: x100 :: x101 :: x102 :: x103 :: x104 :: x105 :: x106 :: x107 :: x108 :: x109 :: x110 :: x111 :: x112 :: x113 :: x114 :: x115 :: x116 :: x117 :: []), []⟩ wc := by
  have HK := Lib.hid hQ; have HKP := Lib.hid hQp
  clear hQ hQp
  conv => arg 2; whnf
  have HS := Lib.hid (Kept.refl B D wc)
  have HO0 : Hid (ORow wc B D a0 (n0 + 0) c0 (E ++ (numM low wn).take 0)) := Lib.hid (by rw [List.take_zero, List.append_nil]; exact HO.out)
  have HWN := Lib.hid hwn
  clear hwn
  have hwn1 : wd ≤ (wn : Int) := by rw [HWN.out]; omega
  have hwn2 : (wn : Int) ≤ wd := by rw [HWN.out]; omega
  go_wp2_with fail
  go_loopw [10, 14] (fun s10 s14 wx => ∃ (t : Nat) (a1 : Option Addr) (c1 : Nat), s10 = .slice a1 (n0 + t) c1 ∧ s14 = .int .i64 (wd - 1 - t) ∧ t ≤ wn ∧ Hid (Kept B D wc wx) ∧ Hid (ORow wx B D a1 (n0 + t) c1 (E ++ (numM low wn).take t))) (fun _ s _ => (intOf s + 1).toNat)
  case atStart => exact ⟨0, a0, c0, rfl, by simp, by omega, HS, HO0⟩
  case round =>
    clear HS HO0
    obtain ⟨t, a1, c1, rfl, rfl, ht, HS, HO1⟩ := hrel
    by_cases hlt : t < wn
    · obtain ⟨i, hi⟩ : ∃ i : Nat, wn = t + 1 + i := ⟨wn - t - 1, by omega⟩
      have hi1 : wd - 1 - (t : Int) = (i : Int) := by omega
      rw [hi1]
      have HI1 := Lib.hid hi1
      have HIW := Lib.hid hi
      clear hi1 hi
      have hi4 : i < 4 := by have := HIW.out; omega
      have HBY : Hid ((Lit.int .u8 (low / 2 ^ (8 * i) % 256)).wf = true) := Lib.hid (wf_u8_of (by omega) (by omega))
      have hbs : B ≤ wr.heap.size := Nat.le_trans hB HS.out.low.size
      have HT := Lib.hid (numM_take (low := low) HIW.out)
      have HAL := Lib.hid ((Below.refl wr.heap.size wr).alloc (Nat.le_refl _) (.cells #[.int .u8 (low / 2 ^ (8 * i) % 256)] 5))
      have HO1A := Lib.hid (HO1.out.below HAL.out)
      go_wp2_with (at_builtin; refine wpList_append_bytes_at rfl _ _ rfl B (n0 + t) _ _ rfl HO1A.out.own _ _ _ [low / 2 ^ (8 * i) % 256] rfl (ints_made _ _ HBY.out) (by omega) (by simp; omega) ?_; intro v w1 hown hgrow hor; obtain ⟨a2, c2, rfl, ho2, hk2⟩ := HO1A.out.append (by simp; omega) hown hgrow hor; have HO2 := Lib.hid ho2; have HK2 := Lib.hid hk2; clear hown hgrow hor ho2 hk2)
      have HS2 : Hid (Kept B D wc w1) := Lib.hid ((HS.out.trans (Kept.of_below HAL.out hbs HO1.out.lt)).trans HK2.out)
      have HO3 : Hid (ORow w1 B D a2 (n0 + (t + 1)) c2 (E ++ (numM low wn).take (t + 1))) := Lib.hid (by rw [HT.out, ← List.append_assoc]; exact HO2.out)
      clear HO2 HK2 hbs
      go_roundw
      case rel => exact ⟨t + 1, a2, c2, rfl, congrArg (Value.int .i64) (by have := HI1.out; omega), by omega, HS2, HO3⟩
      case measure => have := HI1.out; simp only [intOf]; omega
    · obtain rfl : t = wn := by omega
      have hm : wd - 1 - (t : Int) < 0 := by have := HWN.out; omega
      have HTL : Hid ((numM low t).take t = numM low t) := Lib.hid (List.take_of_length_le (by rw [numM_len]; exact Nat.le_refl _))
      rw [HTL.out] at HO1
      go_wp2_with fail
      exact HK.out _ _ _ _ _ _ _ _ _ _ _ _ _ _ _ _ HO1.out HS.out
set_option maxRecDepth 100000 in
set_option maxHeartbeats 4000000 in
theorem prot_first {x0 x1 x2 x3 x4 x5 x6 x7 x8 x9 x11 x12 x13 x14 x16 x17 x18 x19 x20 x21 x22 x23 x24 x25 x26 x27 x28 x29 x30 x31 x32 x33 x34 x35 x36 x37 x38 x39 x40 x41 x42 x43 x44 x45 x46 x47 x48 x49 x50 x51 x52 x53 x54 x55 x56 x57 x58 x59 x60 x61 x62 x63 x64 x65 x66 x67 x68 x69 x70 x71 x72 x73 x74 x75 x76 x77 x78 x79 x80 x81 x82 x83 x84 x85 x86 x87 x88 x89 x90 x91 x92 x93 x94 x95 x96 x97 x98 x99 x100 x101 x102 x103 x104 x105 x106 x107 x108 x109 x110 x111 x112 x113 x114 x115 x116 x117 : Value} {B n0 c0 gb gm : Nat} {xs m : List Int} (wc : World) {Q : Exit → Act → World → Prop}
    (hn : 1 ≤ n0) (hne : gm ≠ gb) (hxw : ∀ x ∈ xs, (Lit.int .u8 x).wf = true) (hmw : ∀ x ∈ m, (Lit.int .u8 x).wf = true) (hml : m.length = 5) (HO : Hid (wc.ownsRow B 5 1 (.slice (some ⟨gb, 0, none⟩) n0 c0) n0 ((xs).map (Value.int .u8)))) (HGM : Hid (wc.heap[gm]? = some (.cells (m.map (Value.int .u8)).toArray 69 (0, 0))))
    (hQp : ∀ c a d v w, Q (.panic c) (a.put d v) w → Q (.panic c) a w)
    (hQ : ∀ (y87 y88 y89 y90 y91 y92 y93 y94 y95 y96 y97 y98 : Value) (w' : World), w'.ownsRow B 5 1 (.slice (some ⟨gb, 0, none⟩) n0 c0) n0 ((xs.set 0 (x0M m xs)).map (Value.int .u8)) → wc.grownBy w' (some gb) → Q .normal ⟨List.toArray (x0 :: x1 :: x2 :: x3 :: x4 :: x5 :: x6 :: x7 :: x8 :: x9 :: .slice (some ⟨gb, 0, none⟩) n0 c0 :: x11 :: x12 :: x13 :: x14 :: .pointer (some ⟨gm, 0, none⟩) :: x16 :: x17 :: x18 :: x19 :: x20 :: x21 :: x22 :: x23 :: x24 :: x25 :: x26 :: x27 :: x28 :: x29 :: x30 :: x31 :: x32 :: x33 :: x34 :: x35 :: x36 :: x37 :: x38 :: x39 :: x40 :: x41 :: x42 :: x43 :: x44 :: x45 :: x46 :: x47 :: x48 :: x49 :: x50 :: x51 :: x52 :: x53 :: x54 :: x55 :: x56 :: x57 :: x58 :: x59 :: x60 :: x61 :: x62 :: x63 :: x64 :: x65 :: x66 :: x67 :: x68 :: x69 :: x70 :: x71 :: x72 :: x73 :: x74 :: x75 :: x76 :: x77 :: x78 :: x79 :: x80 :: x81 :: x82 :: x83 :: x84 :: x85 :: x86 :: y87 :: y88 :: y89 :: y90 :: y91 :: y92 :: y93 :: y94 :: y95 :: y96 :: y97 :: y98 :: x99 :: x100 :: x101 :: x102 :: x103 :: x104 :: x105 :: x106 :: x107 :: x108 :: x109 :: x110 :: x111 :: x112 :: x113 :: x114 :: x115 :: x116 :: x117 :: []), []⟩ w') :
    Code.wp Try.prog (((Try.f11.body.bind (subRegion 12)).getD .skip)) Q ⟨List.toArray (x0 :: x1 :: x2 :: x3 :: x4 :: x5 :: x6 :: x7 :: x8 :: x9 :: .slice (some ⟨gb, 0, none⟩) n0 c0 :: x11 :: x12 :: x13 :: x14 :: .pointer (some ⟨gm, 0, none⟩) :: x16 :: x17 :: x18 :: x19 :: x20 :: x21 :: x22 :: x23 :: x24 :: x25 :: x26 :: x27 :: x28 :: x29 :: x30 :: x31 :: x32 :: x33 :: x34 :: x35 :: x36 :: x37 :: x38 :: x39 :: x40 :: x41 :: x42 :: x43 :: x44 :: x45 :: x46 :: x47 :: x48 :: x49 :: x50 :: x51 :: x52 :: x53 :: x54 :: x55 :: x56 :: x57 :: x58 :: x59 :: x60 :: x61 :: x62 :: x63 :: x64 :: x65 :: x66 :: x67 :: x68 :: x69 :: x70 :: x71 :: x72 :: x73 :: x74 :: x75 :: x76 :: x77 :: x78 :: x79 :: x80 :: x81 :: x82 :: x83 :: x84 :: x85 :: x86 :: x87 :: x88 :: x89 :: x90 :: x91 :: x92 :: x93 :: x94 :: x95 :: x96 :: x97 :: x98 :: x99 :: x100 :: x101 :: x102 :: x103 :: x104 :: x105 :: x106 :: x107 :: x108 :: x109 :: x110 :: x111 :: x112 :: x113 :: x114 :: x115 :: x116 :: x117 :: []), []⟩ wc := by
  have HK := Lib.hid hQ; have HKP := Lib.hid hQp
  clear hQ hQp
  conv => arg 2; whnf
  obtain ⟨gb', hgb, _, _, hz, hcs, _⟩ := own_set HO.out (Below.refl _ _) (i := 0) (by omega) (.int .u8 0) rfl
  injection hgb with hgb; injection hgb with hgb; subst hgb
  have hxl : xs.length = n0 := by have := HO.out.1; rw [List.length_map] at this; omega
  obtain ⟨b0, hb0⟩ : ∃ x, xs[0]? = some x := ⟨_, List.getElem?_eq_getElem (by omega)⟩
  obtain ⟨m0, hm0⟩ : ∃ x, m[0]? = some x := ⟨_, List.getElem?_eq_getElem (by omega)⟩
  have hb0w := bdU8 (hxw b0 (List.mem_of_getElem? hb0)); have hm0w := bdU8 (hmw m0 (List.mem_of_getElem? hm0))
  have c0 : wc.drew.cell? ⟨gb, 0, none⟩ = some (.int .u8 b0) := hcs 0 _ (by rw [List.getElem?_map, hb0]; rfl)
  have z0 : wc.drew.frozen? ⟨gb, 0, none⟩ = false := hz
  have f1 : ∀ t : In (fun y => wc.grownBy y (some gb)), t.w.cell? ⟨gm, 0, none⟩ = some (.int .u8 m0) := fun t => t.h.cell (row_cell HGM.out 0 _ (by rw [List.getElem?_toArray, List.getElem?_map, hm0]; rfl)) (by intro e; injection e with e; exact hne e)
  have HX0 : Hid (x0M m xs = bits .xor .u8 b0 (bits .and .u8 m0 (hidM b0))) := Lib.hid (by unfold x0M; rw [List.getD_eq_getElem?_getD, List.getD_eq_getElem?_getD, hb0, hm0]; rfl)
  have HHI := Lib.hid (fun w => hidden_any w b0 hb0w)
  have HSET := Lib.hid (fun u (hu : u.oneCell' = true) => own_put HO.out (i := 0) (by omega) u hu)
  clear hz hcs hb0 hm0 hmw hxw hml hxl
  generalize hidM b0 = hb at HX0 HHI
  refine wp_plan (.t 0 (.t 1 (.t 3 (.t 4 (.t 5 (.t 6 (.b 2 (.u 7 (.u 8 (.t 9 (.t 10 (.t 11 (.u 12 .done)))))) 7 (.b 2 (.u 8 (.t 9 (.t 10 (.t 11 (.u 12 .done))))) 8 (.t 9 (.u 2 (.t 10 (.t 11 (.u 12 .done))))))))))))) (fun y => wc.grownBy y (some gb)) (by kernel_rfl) (by kernel_rfl) (by kernel_rfl) (fun c a d v w h => by first | (cases d <;> exact h) | exact HKP.out c a d v w h) (grown_drew _ _) ?_
  have hS : Hid (wc.grownBy wc.drew (some gb)) := Lib.hid (grown_drew _ _)
  haveI hne2 : Nonempty (In (fun y => wc.grownBy y (some gb))) := ⟨⟨wc, grown_refl _ _⟩⟩
  have HSD : Hid (∀ u, (wc.drew.setCell ⟨gb, 0, none⟩ u) = (wc.setCell ⟨gb, 0, none⟩ u).drew) := Lib.hid fun u => rfl
  generalize hWd : wc.drew = W0 at c0 z0 hS HSD ⊢
  clear hWd
  repeat (refine plan_t (by rfl) ?_; (first | go_big_quiet_skip | (go_big_quiet_want; go_big_quiet_op; go_big_quiet_on)); refine wpQuiet_nil ?_)
  refine plan_b ?_ ?_
  · refine plan_half (by rfl) (by kernel_rfl) ?_
    intro K hK
    go_wp2_with fail
    refine ⟨hS.out, ?_⟩
    refine plan_us (by rfl) (by kernel_rfl) ?_
    intro K hK
    go_wp2_with fail
    refine ⟨hS.out, ?_⟩
    refine plan_us (by rfl) (by kernel_rfl) ?_
    intro K hK
    go_wp2_with fail
    refine Calls.mono (HHI.out _) ?_
    rintro e wq ⟨rfl, hq⟩
    obtain rfl := hq.symm
    clear hq
    go_wp2_with fail
    refine ⟨hS.out, ?_⟩
    repeat (refine plan_t (by rfl) ?_; (first | go_big_quiet_skip | (go_big_quiet_want; go_big_quiet_op; go_big_quiet_on)); refine wpQuiet_nil ?_)
    refine plan_us (by rfl) (by kernel_rfl) ?_
    intro K hK
    go_wp2_with fail
    rw [HSD.out, ← HX0.out]
    have ho := HSET.out (.int .u8 (x0M m xs)) rfl
    have hg := grown_setCell wc gb 0 (.int .u8 (x0M m xs))
    rw [← List.map_set] at ho
    refine ⟨grown_trans hg (grown_drew _ _), ?_⟩
    skip
    clear hne2
    exact HK.out _ _ _ _ _ _ _ _ _ _ _ _ _ (own_below ho ((Below.refl _ _).drew)) (grown_trans hg (grown_drew _ _))
  · refine plan_half (by rfl) (by kernel_rfl) ?_
    intro K hK
    go_wp2_with fail
    refine ⟨hS.out, ?_⟩
    refine plan_b ?_ ?_
    · refine plan_half (by rfl) (by kernel_rfl) ?_
      intro K hK
      go_wp2_with fail
      refine ⟨hS.out, ?_⟩
      refine plan_us (by rfl) (by kernel_rfl) ?_
      intro K hK
      go_wp2_with fail
      refine Calls.mono (HHI.out _) ?_
      rintro e wq ⟨rfl, hq⟩
      obtain rfl := hq.symm
      clear hq
      go_wp2_with fail
      refine ⟨hS.out, ?_⟩
      repeat (refine plan_t (by rfl) ?_; (first | go_big_quiet_skip | (go_big_quiet_want; go_big_quiet_op; go_big_quiet_on)); refine wpQuiet_nil ?_)
      refine plan_us (by rfl) (by kernel_rfl) ?_
      intro K hK
      go_wp2_with fail
      rw [HSD.out, ← HX0.out]
      have ho := HSET.out (.int .u8 (x0M m xs)) rfl
      have hg := grown_setCell wc gb 0 (.int .u8 (x0M m xs))
      rw [← List.map_set] at ho
      refine ⟨grown_trans hg (grown_drew _ _), ?_⟩
      skip
      clear hne2
      exact HK.out _ _ _ _ _ _ _ _ _ _ _ _ _ (own_below ho ((Below.refl _ _).drew)) (grown_trans hg (grown_drew _ _))
    · refine plan_half (by rfl) (by kernel_rfl) ?_
      intro K hK
      go_wp2_with fail
      refine Calls.mono (HHI.out _) ?_
      rintro e wq ⟨rfl, hq⟩
      obtain rfl := hq.symm
      clear hq
      go_wp2_with fail
      refine ⟨hS.out, ?_⟩
      repeat (refine plan_t (by rfl) ?_; (first | go_big_quiet_skip | (go_big_quiet_want; go_big_quiet_op; go_big_quiet_on)); refine wpQuiet_nil ?_)
      refine plan_us (by rfl) (by kernel_rfl) ?_
      intro K hK
      go_wp2_with fail
      refine ⟨hS.out, ?_⟩
      repeat (refine plan_t (by rfl) ?_; (first | go_big_quiet_skip | (go_big_quiet_want; go_big_quiet_op; go_big_quiet_on)); refine wpQuiet_nil ?_)
      refine plan_us (by rfl) (by kernel_rfl) ?_
      intro K hK
      go_wp2_with fail
      rw [HSD.out, ← HX0.out]
      have ho := HSET.out (.int .u8 (x0M m xs)) rfl
      have hg := grown_setCell wc gb 0 (.int .u8 (x0M m xs))
      rw [← List.map_set] at ho
      refine ⟨grown_trans hg (grown_drew _ _), ?_⟩
      skip
      clear hne2
      exact HK.out _ _ _ _ _ _ _ _ _ _ _ _ _ (own_below ho ((Below.refl _ _).drew)) (grown_trans hg (grown_drew _ _))
set_option maxRecDepth 100000 in
set_option maxHeartbeats 4000000 in
theorem prot_mask {x0 x1 x2 x3 x4 x5 x6 x7 x8 x9 x11 x13 x14 x16 x17 x18 x19 x20 x21 x22 x23 x24 x25 x26 x27 x28 x29 x30 x31 x32 x33 x34 x35 x36 x37 x38 x39 x40 x41 x42 x43 x44 x45 x46 x47 x48 x49 x50 x51 x52 x53 x54 x55 x56 x57 x58 x59 x60 x61 x62 x63 x64 x65 x66 x67 x68 x69 x70 x71 x72 x73 x74 x75 x76 x77 x78 x79 x80 x81 x82 x83 x84 x85 x86 x87 x88 x89 x90 x91 x92 x93 x94 x95 x96 x97 x98 x99 x102 x103 x104 x105 x106 x107 x108 x109 x110 x111 x112 x113 x114 x115 x116 x117 : Value} {B n0 c0 gb gm at' wn : Nat} {xs m : List Int} (wc : World) {Q : Exit → Act → World → Prop}
    (hn : at' + wn ≤ n0) (hn0 : n0 ≤ 1000000) (hw4 : wn ≤ 4) (hne : gm ≠ gb) (hxw : ∀ x ∈ xs, (Lit.int .u8 x).wf = true) (hmw : ∀ x ∈ m, (Lit.int .u8 x).wf = true) (hml : m.length = 5) (HO : Hid (wc.ownsRow B 5 1 (.slice (some ⟨gb, 0, none⟩) n0 c0) n0 ((xs).map (Value.int .u8)))) (HGM : Hid (wc.heap[gm]? = some (.cells (m.map (Value.int .u8)).toArray 69 (0, 0))))
    (hQp : ∀ c a d v w, Q (.panic c) (a.put d v) w → Q (.panic c) a w)
    (hQ : ∀ (y16 y101 y102 y103 y104 y105 y106 y107 y108 y109 y110 y111 y112 y113 y114 y115 y116 : Value) (w' : World), w'.ownsRow B 5 1 (.slice (some ⟨gb, 0, none⟩) n0 c0) n0 (((xorAt m at' wn xs)).map (Value.int .u8)) → wc.grownBy w' (some gb) → Q .normal ⟨List.toArray (x0 :: x1 :: x2 :: x3 :: x4 :: x5 :: x6 :: x7 :: x8 :: x9 :: .slice (some ⟨gb, 0, none⟩) n0 c0 :: x11 :: .int .i64 at' :: x13 :: x14 :: .pointer (some ⟨gm, 0, none⟩) :: y16 :: x17 :: x18 :: x19 :: x20 :: x21 :: x22 :: x23 :: x24 :: x25 :: x26 :: x27 :: x28 :: x29 :: x30 :: x31 :: x32 :: x33 :: x34 :: x35 :: x36 :: x37 :: x38 :: x39 :: x40 :: x41 :: x42 :: x43 :: x44 :: x45 :: x46 :: x47 :: x48 :: x49 :: x50 :: x51 :: x52 :: x53 :: x54 :: x55 :: x56 :: x57 :: x58 :: x59 :: x60 :: x61 :: x62 :: x63 :: x64 :: x65 :: x66 :: x67 :: x68 :: x69 :: x70 :: x71 :: x72 :: x73 :: x74 :: x75 :: x76 :: x77 :: x78 :: x79 :: x80 :: x81 :: x82 :: x83 :: x84 :: x85 :: x86 :: x87 :: x88 :: x89 :: x90 :: x91 :: x92 :: x93 :: x94 :: x95 :: x96 :: x97 :: x98 :: x99 :: .int .i64 wn :: y101 :: y102 :: y103 :: y104 :: y105 :: y106 :: y107 :: y108 :: y109 :: y110 :: y111 :: y112 :: y113 :: y114 :: y115 :: y116 :: x117 :: []), []⟩ w') :
    Code.wp Try.prog (((Try.f11.body.bind (subBlock 2)).getD .skip)) Q ⟨List.toArray (x0 :: x1 :: x2 :: x3 :: x4 :: x5 :: x6 :: x7 :: x8 :: x9 :: .slice (some ⟨gb, 0, none⟩) n0 c0 :: x11 :: .int .i64 at' :: x13 :: x14 :: .pointer (some ⟨gm, 0, none⟩) :: x16 :: x17 :: x18 :: x19 :: x20 :: x21 :: x22 :: x23 :: x24 :: x25 :: x26 :: x27 :: x28 :: x29 :: x30 :: x31 :: x32 :: x33 :: x34 :: x35 :: x36 :: x37 :: x38 :: x39 :: x40 :: x41 :: x42 :: x43 :: x44 :: x45 :: x46 :: x47 :: x48 :: x49 :: x50 :: x51 :: x52 :: x53 :: x54 :: x55 :: x56 :: x57 :: x58 :: x59 :: x60 :: x61 :: x62 :: x63 :: x64 :: x65 :: x66 :: x67 :: x68 :: x69 :: x70 :: x71 :: x72 :: x73 :: x74 :: x75 :: x76 :: x77 :: x78 :: x79 :: x80 :: x81 :: x82 :: x83 :: x84 :: x85 :: x86 :: x87 :: x88 :: x89 :: x90 :: x91 :: x92 :: x93 :: x94 :: x95 :: x96 :: x97 :: x98 :: x99 :: .int .i64 wn :: .int .i64 0 :: x102 :: x103 :: x104 :: x105 :: x106 :: x107 :: x108 :: x109 :: x110 :: x111 :: x112 :: x113 :: x114 :: x115 :: x116 :: x117 :: []), []⟩ wc := by
  have HK := Lib.hid hQ; have HKP := Lib.hid hQp
  clear hQ hQp
  conv => arg 2; whnf
  have HXW := Lib.hid hxw; have HMW := Lib.hid hmw; have HNE := Lib.hid hne; have HML := Lib.hid hml
  clear hxw hmw hne hml
  have HXL : Hid (xs.length = n0) := Lib.hid (by have := HO.out.1; rw [List.length_map] at this; omega)
  have HO0 : Hid (wc.ownsRow B 5 1 (.slice (some ⟨gb, 0, none⟩) n0 c0) n0 (((xorAt m at' 0 xs)).map (Value.int .u8))) := Lib.hid (by rw [xorAt_zero]; exact HO.out)
  have HG0 : Hid (wc.grownBy wc (some gb)) := Lib.hid (grown_refl _ _)
  have hc0 : n0 ≤ c0 ∧ c0 ≤ 9223372036854775807 := by obtain ⟨b, cp, e, h⟩ := own_slice HO.out; injection e with _ _ e3; exact ⟨by omega, own_capm HO.out _ _ _ rfl⟩
  clear HO
  go_wp2_with fail
  go_loopw [101] (fun s wx => ∃ j : Nat, s = .int .i64 j ∧ j ≤ wn ∧ Hid (wx.ownsRow B 5 1 (.slice (some ⟨gb, 0, none⟩) n0 c0) n0 (((xorAt m at' j xs)).map (Value.int .u8))) ∧ Hid (wc.grownBy wx (some gb))) (fun s _ => wn - (intOf s).toNat)
  case atStart => exact ⟨0, rfl, by omega, HO0, HG0⟩
  case round =>
    clear HO0 HG0
    obtain ⟨j, rfl, hj, HO, HG⟩ := hrel
    by_cases hlt : j < wn
    · skip
      obtain ⟨gb', hgb, _, _, hz, hcs, _⟩ := own_set HO.out (Below.refl _ _) (i := at' + j) (by omega) (.int .u8 0) rfl
      injection hgb with hgb; injection hgb with hgb; subst hgb
      obtain ⟨b0, hb0⟩ : ∃ x, xs[at' + j]? = some x := ⟨_, List.getElem?_eq_getElem (by rw [HXL.out]; omega)⟩
      obtain ⟨m0, hm0⟩ : ∃ x, m[1 + j]? = some x := ⟨_, List.getElem?_eq_getElem (by rw [HML.out]; omega)⟩
      have hb0w := bdU8 (HXW.out b0 (List.mem_of_getElem? hb0)); have hm0w := bdU8 (HMW.out m0 (List.mem_of_getElem? hm0))
      have hx0 : (xorAt m at' j xs)[at' + j]? = some b0 := by rw [xorAt_get, hb0]; simp only [Option.map_some]; rw [if_neg (by omega)]
      have c0' : wr.drew.cell? ⟨gb, at' + j, none⟩ = some (.int .u8 b0) := hcs _ _ (by rw [List.getElem?_map, hx0]; rfl)
      have z0 : wr.drew.frozen? ⟨gb, at' + j, none⟩ = false := hz
      have HGM2 := Lib.hid (grown_row HG.out (by intro e; injection e with e; exact HNE.out e) HGM.out)
      have f1 : ∀ t : In (fun y => wr.grownBy y (some gb)), t.w.cell? ⟨gm, 1 + j, none⟩ = some (.int .u8 m0) := fun t => t.h.cell (row_cell HGM2.out (1 + j) _ (by rw [List.getElem?_toArray, List.getElem?_map, hm0]; rfl)) (by intro e; injection e with e; exact HNE.out e)
      have HX0 : Hid (xorAt m at' (j + 1) xs = (xorAt m at' j xs).set (at' + j) (bits .xor .u8 b0 m0)) := Lib.hid (by rw [xorAt_succ, List.getD_eq_getElem?_getD, List.getD_eq_getElem?_getD, hb0, hm0]; rfl)
      have HSET := Lib.hid (fun u (hu : u.oneCell' = true) => own_put HO.out (i := at' + j) (by omega) u hu)
      have E1 : IntKind.i64.wrap ((at' : Int) + (j : Int)) = (at' : Int) + (j : Int) := IntWalk.i64_in _ (by omega)
      have E2 : ((at' : Int) + (j : Int)).toNat = at' + j := by omega
      have E3 : (0 : Int) ≤ (at' : Int) + (j : Int) := by omega
      have E4 : (at' : Int) + (j : Int) < (n0 : Int) := by omega
      have E5 : IntKind.i64.wrap (1 + (j : Int)) = 1 + (j : Int) := IntWalk.i64_in _ (by omega)
      have E6 : (1 + (j : Int)).toNat = 1 + j := by omega
      have E7 : (0 : Int) ≤ 1 + (j : Int) := by omega
      have E8 : 1 + (j : Int) < 5 := by omega
      clear hz hcs hb0 hm0 hx0
      go_upto_region 16 with fail
      refine wp_plan (.t 0 (.t 1 (.t 2 (.t 3 (.t 4 (.t 6 (.t 7 (.t 8 (.t 9 (.u 5 (.t 10 (.t 11 (.u 12 .done))))))))))))) (fun y => wr.grownBy y (some gb)) (by kernel_rfl) (by kernel_rfl) (by kernel_rfl) (fun c a d v w h => by first | (cases d <;> exact h) | exact HKP.out c a d v w h) (grown_drew _ _) ?_
      have hS : Hid (wr.grownBy wr.drew (some gb)) := Lib.hid (grown_drew _ _)
      haveI hne2 : Nonempty (In (fun y => wr.grownBy y (some gb))) := ⟨⟨wr, grown_refl _ _⟩⟩
      have HSD : Hid (∀ u, (wr.drew.setCell ⟨gb, at' + j, none⟩ u) = (wr.setCell ⟨gb, at' + j, none⟩ u).drew) := Lib.hid fun u => rfl
      generalize hWd : wr.drew = W0 at c0' z0 hS HSD ⊢
      clear hWd
      repeat (refine plan_t (by rfl) ?_; (first | go_big_quiet_skip | (go_big_quiet_want; go_big_quiet_op; go_big_quiet_on)); refine wpQuiet_nil ?_)
      refine plan_us (by rfl) (by kernel_rfl) ?_
      intro K hK
      go_wp2_with fail
      refine ⟨hS.out, ?_⟩
      repeat (refine plan_t (by rfl) ?_; (first | go_big_quiet_skip | (go_big_quiet_want; go_big_quiet_op; go_big_quiet_on)); refine wpQuiet_nil ?_)
      refine plan_us (by rfl) (by kernel_rfl) ?_
      intro K hK
      go_wp2_with fail
      rw [HSD.out]
      have ho := HSET.out (.int .u8 (bits .xor .u8 b0 m0)) rfl
      have hg := grown_setCell wr gb (at' + j) (.int .u8 (bits .xor .u8 b0 m0))
      rw [← List.map_set, ← HX0.out] at ho
      refine ⟨grown_trans hg (grown_drew _ _), ?_⟩
      clear hne2 f1 E1 E2 E3 E4 E5 E6 E7 E8 c0' z0
      show Exit.inBlock _ _ _ _ _
      have HO2 := Lib.hid (own_below ho ((Below.refl _ _).drew))
      have HG2 := Lib.hid (grown_trans HG.out (grown_trans hg (grown_drew _ _)))
      clear ho hg HSD HSET
      generalize (wr.setCell ⟨gb, at' + j, none⟩ (.int .u8 (bits .xor .u8 b0 m0))).drew = w2 at HO2 HG2 ⊢
      go_wp2_with fail
      go_roundw
      case rel => exact ⟨j + 1, by go_num, by omega, HO2, HG2⟩
      case measure => simp [intOf]; omega
    · obtain rfl : j = wn := by omega
      go_wp2_with fail
      exact HK.out _ _ _ _ _ _ _ _ _ _ _ _ _ _ _ _ _ _ HO.out HG.out
set_option maxRecDepth 100000 in
set_option maxHeartbeats 4000000 in
theorem prot_seal {x0 x1 x5 x6 x7 x8 x9 x11 x12 x13 x14 x15 x16 x17 x18 x19 x20 x21 x22 x23 x24 x25 x26 x27 x28 x29 x30 x31 x32 x33 x34 x35 x36 x37 x38 x39 x40 x41 x42 x43 x44 x45 x46 x47 x48 x49 x50 x51 x52 x53 x54 x55 x56 x57 x58 x59 x60 x61 x62 x63 x64 x65 x66 x67 x68 x69 x70 x71 x72 x73 x74 x75 x76 x77 x78 x79 x80 x81 x82 x83 x84 x85 x86 x87 x88 x89 x90 x91 x92 x93 x94 x95 x96 x97 x98 x99 x100 x101 x102 x103 x104 x105 x106 x107 x108 x109 x110 x111 x112 x113 x114 x115 x116 x117 : Value} {B n0 c0 pl pc gk : Nat} {D : List Nat} {ks km n : Int} {pa a0 : Option Addr} {xs pls : List Int} (wc : World) {Q : Exit → Act → World → Prop}
    (hn : (Lit.int .u64 n).wf = true) (hn0 : n0 ≤ 1000000) (hpl : pl ≤ 1000000) (hgk : gk ∈ D) (hB : B ≤ wc.heap.size) (hxw : ∀ x ∈ xs, (Lit.int .u8 x).wf = true) (HI : Hid (IntsK .u8 wc pa pl pls)) (HO : Hid (ORow wc B D a0 (n0) c0 (xs))) (HGK : Hid (wc.heap[gk]? = some (.cells #[.int .u64 ks, .int .u64 km] 27 (0, 0))))
    (hQp : ∀ c a d v w, Q (.panic c) (a.put d v) w → Q (.panic c) a w)
    (hQ : ∀ (y74 y75 y76 y77 y78 y79 y80 y81 y82 : Value) (a1 : Option Addr) (c1 : Nat) (w' : World), ORow w' B D a1 (n0 + (pl + 8)) c1 (xs ++ sealM ks n xs pls) → Kept B D wc w' → Q .normal ⟨List.toArray (x0 :: x1 :: .int .u64 n :: .slice pa pl pc :: .pointer (some ⟨gk, 0, none⟩) :: x5 :: x6 :: x7 :: x8 :: x9 :: .slice a1 (n0 + (pl + 8)) c1 :: x11 :: x12 :: x13 :: x14 :: x15 :: x16 :: x17 :: x18 :: x19 :: x20 :: x21 :: x22 :: x23 :: x24 :: x25 :: x26 :: x27 :: x28 :: x29 :: x30 :: x31 :: x32 :: x33 :: x34 :: x35 :: x36 :: x37 :: x38 :: x39 :: x40 :: x41 :: x42 :: x43 :: x44 :: x45 :: x46 :: x47 :: x48 :: x49 :: x50 :: x51 :: x52 :: x53 :: x54 :: x55 :: x56 :: x57 :: x58 :: x59 :: x60 :: x61 :: x62 :: x63 :: x64 :: x65 :: x66 :: x67 :: x68 :: x69 :: x70 :: x71 :: x72 :: x73 :: y74 :: y75 :: y76 :: y77 :: y78 :: y79 :: y80 :: y81 :: y82 :: x83 :: x84 :: x85 :: x86 :: x87 :: x88 :: x89 :: x90 :: x91 :: x92 :: x93 :: x94 :: x95 :: x96 :: x97 :: x98 :: x99 :: x100 :: x101 :: x102 :: x103 :: x104 :: x105 :: x106 :: x107 :: x108 :: x109 :: x110 :: x111 :: x112 :: x113 :: x114 :: x115 :: x116 :: x117 :: []), []⟩ w') :
    Code.wp Try.prog (((Try.f11.body.bind (subRegion 10)).getD .skip)) Q ⟨List.toArray (x0 :: x1 :: .int .u64 n :: .slice pa pl pc :: .pointer (some ⟨gk, 0, none⟩) :: x5 :: x6 :: x7 :: x8 :: x9 :: .slice a0 n0 c0 :: x11 :: x12 :: x13 :: x14 :: x15 :: x16 :: x17 :: x18 :: x19 :: x20 :: x21 :: x22 :: x23 :: x24 :: x25 :: x26 :: x27 :: x28 :: x29 :: x30 :: x31 :: x32 :: x33 :: x34 :: x35 :: x36 :: x37 :: x38 :: x39 :: x40 :: x41 :: x42 :: x43 :: x44 :: x45 :: x46 :: x47 :: x48 :: x49 :: x50 :: x51 :: x52 :: x53 :: x54 :: x55 :: x56 :: x57 :: x58 :: x59 :: x60 :: x61 :: x62 :: x63 :: x64 :: x65 :: x66 :: x67 :: x68 :: x69 :: x70 :: x71 :: x72 :: x73 :: x74 :: x75 :: x76 :: x77 :: x78 :: x79 :: x80 :: x81 :: x82 :: x83 :: x84 :: x85 :: x86 :: x87 :: x88 :: x89 :: x90 :: x91 :: x92 :: x93 :: x94 :: x95 :: x96 :: x97 :: x98 :: x99 :: x100 :: x101 :: x102 :: x103 :: x104 :: x105 :: x106 :: x107 :: x108 :: x109 :: x110 :: x111 :: x112 :: x113 :: x114 :: x115 :: x116 :: x117 :: []), []⟩ wc := by
  have HK := Lib.hid hQ; have HKP := Lib.hid hQp
  clear hQ hQp
  conv => arg 2; whnf
  obtain ⟨ob, hob⟩ : ∃ ob, (Value.slice a0 n0 c0).ownBlock = ob := ⟨_, rfl⟩
  have HOB := Lib.hid hob
  clear hob
  have hgo : some gk ≠ ob := by rw [← HOB.out]; exact HO.out.offB gk hgk
  have f0 : ∀ t : In (fun y => wc.grownBy y ob), t.w.cell? ⟨gk, 0, none⟩ = some (.int .u64 ks) := fun t => t.h.cell (row_cell HGK.out 0 _ rfl) (by exact hgo)
  have HXW := Lib.hid hxw; have HHN := Lib.hid hn; have HGO := Lib.hid hgo
  clear hxw hn hgo
  refine wp_plan (.t 0 (.t 1 (.t 2 (.t 3 (.t 4 (.t 6 (.u 5 (.u 7 (.u 8 (.t 9 .done)))))))))) (fun y => wc.grownBy y ob) (by kernel_rfl) (by kernel_rfl) (by kernel_rfl) (fun c a d v w h => by first | (cases d <;> exact h) | exact HKP.out c a d v w h) (grown_drew _ _) ?_
  haveI hne2 : Nonempty (In (fun y => wc.grownBy y ob)) := ⟨⟨wc, grown_refl _ _⟩⟩
  have hS : Hid (Below wc.heap.size wc wc.drew) := Lib.hid (Below.refl _ _).drew
  generalize wc.drew = W0 at hS ⊢
  repeat (refine plan_t (by rfl) ?_; (first | go_big_quiet_skip | (go_big_quiet_want; go_big_quiet_op; go_big_quiet_on)); refine wpQuiet_nil ?_)
  clear f0
  refine plan_us (by rfl) (by kernel_rfl) ?_
  intro K hK
  go_wp2_with fail
  refine Calls.mono (clone_any8 _ a0 n0 c0 xs (by omega) ((HO.out.below hS.out).ints HXW.out)) ?_
  rintro e w1 ⟨v, rfl, hb, hv⟩
  obtain ⟨va, vc, rfl, hvc, hvi, _⟩ := ints_of_own hv HXW.out
  have HVI := Lib.hid hvi
  replace hS := Lib.hid (bl_next hS.out hS.out.size hb)
  clear hb hv hvi hvc
  go_wp2_with fail
  refine ⟨grown_below hS.out ob, ?_⟩
  refine plan_us (by rfl) (by kernel_rfl) ?_
  intro K hK
  go_wp2_with fail
  refine Calls.mono (seal_any _ ks n va n0 vc xs pa pl pc pls HHN.out (by omega) (by omega) HVI.out (HI.out.below hS.out)) ?_
  rintro e w2 ⟨v, rfl, hb, hv⟩
  obtain ⟨sa, sc, rfl, _, hsi, _⟩ := ints_of_own hv (sealM_wf ks n xs pls HI.out.2.1)
  have HSI := Lib.hid hsi
  replace hS := Lib.hid (bl_next hS.out hS.out.size hb)
  clear hb hv hsi HVI
  go_wp2_with fail
  refine ⟨grown_below hS.out ob, ?_⟩
  refine plan_us (by rfl) (by kernel_rfl) ?_
  intro K hK
  refine wp_append_bytes_at _ _ rfl B n0 _ xs rfl (HO.out.below hS.out).own sa (pl + 8) sc _ rfl HSI.out (by omega) (Nat.le_trans hB hS.out.size) ?_
  intro v w3 hown hgrow hor
  have hg2 : wc.grownBy w3 ob := grown_trans (grown_below hS.out ob) (by rw [← HOB.out]; exact hgrow)
  obtain ⟨a2, c2, rfl, ho2, hk2⟩ := (HO.out.below hS.out).append (Nat.le_trans hB hS.out.size) hown hgrow hor
  have HO2 := Lib.hid ho2; have HK2 := Lib.hid ((Kept.of_below hS.out hB HO.out.lt).trans hk2)
  refine hK _ _ ⟨hg2, ?_⟩
  clear hown hgrow hor ho2 hk2 hK K hS
  simp only [Act.put, List.setIfInBounds_toArray, List.set_cons_succ, List.set_cons_zero]
  repeat (refine plan_t (by rfl) ?_; (first | go_big_quiet_skip | (go_big_quiet_want; go_big_quiet_op; go_big_quiet_on)); refine wpQuiet_nil ?_)
  clear hne2
  exact HK.out _ _ _ _ _ _ _ _ _ _ _ _ HO2.out HK2.out
end Go.Proofs.Ythofbckkjcidmaa
namespace Go.Proofs.Ythofbckkjcidmaa
open Go.RowKit
set_option linter.unusedVariables false
set_option linter.unusedSimpArgs false

def ProtR (w : World) (ks km : Int) (h : Hd) (n : Int) (pls : List Int) (e : Ending) (w' : World) : Prop :=
  Below w.heap.size w w' ∧ ((protM ks km h n pls = none ∧ e = .returned (.tuple #[.slice none 0 0, .int .i64 1])) ∨
    ∃ b a' cap', protM ks km h n pls = some b ∧ e = .returned (.tuple #[.slice a' b.length cap', .int .i64 0]) ∧ b.length ≤ cap' ∧ cap' ≤ 9223372036854775807 ∧ IntsK .u8 w' a' b.length b)
theorem protM_none {ks km n : Int} {h : Hd} {pls : List Int} (hc : ¬ (hrightM h = true ∧ n ≤ 4611686018427387903 ∧ 4 ≤ h.w + pls.length ∧ ((encH h (h.w + pls.length + 8)).length : Int) + h.w + pls.length + 8 ≤ 512)) : protM ks km h n pls = none := by
  unfold protM; rw [if_neg hc]
theorem row_len20 (h : Hd) (a : Option Addr) (tc : Nat) (hk : h.ok) : (h.row a tc).length = 20 := row_len h a tc hk.lt hk.lf

set_option maxRecDepth 100000 in
set_option maxHeartbeats 8000000 in
theorem protect_any (w : World) (ks km n : Int) (h : Hd) (a : Option Addr) (tc : Nat) (pa : Option Addr) (pl pc : Nat) (pls : List Int) (hk : h.ok) (hkl : h.k.length ≤ 1000000) (hIk : IntsK .u8 w a h.k.length h.k)
    (hw : -100 ≤ h.w ∧ h.w ≤ 100) (hn : 0 ≤ n ∧ n < 18446744073709551616) (hpl : pl ≤ 1000000) (hIp : IntsK .u8 w pa pl pls) :
    Calls Try.prog 11 #[.agg #[.int .u64 ks, .int .u64 km], h.val a tc, .int .u64 n, .slice pa pl pc] w (ProtR w ks km h n pls) := by
  have hpln := hIp.1
  obtain ⟨QQ, hQQ⟩ : ∃ Q, ProtR w ks km h n pls = Q := ⟨_, rfl⟩
  have HI := Lib.hid hIp; have HIK := Lib.hid hIk; have HNW : Hid ((Lit.int .u64 n).wf = true) := Lib.hid (by simp [Lit.wf, IntKind.min, IntKind.max, IntKind.signed, IntKind.bits]; omega)
  have HENC := Lib.hid (fun W hI => hencode_any W h a tc (h.w + pl + 8) hk hkl (by omega) hI)
  have HRL := Lib.hid (row_len20 h a tc hk)
  have HR18 := Lib.hid (row_17 h a tc hk.lt hk.lf).2
  have HEW := Lib.hid (fun hr hn => encH_wf h hk hr (h.w + pl + 8) hn)
  have HEL : Hid (hrightP h → (encH h (h.w + pl + 8)).length ≤ 1000) := Lib.hid fun hr => by
    rw [encH_len]
    refine encH_le h hk ?_
    rcases hr.2.2 with ⟨_, h1, _⟩ | ⟨_, h1, _⟩ | ⟨_, h1, _⟩ <;> omega
  have HQN : Hid (∀ w', Below w.heap.size w w' → ¬ (hrightM h = true ∧ n ≤ 4611686018427387903 ∧ 4 ≤ h.w + pl ∧ ((encH h (h.w + pl + 8)).length : Int) + h.w + pl + 8 ≤ 512) → QQ (.returned (.tuple #[.slice none 0 0, .int .i64 1])) w') := Lib.hid fun w' hb hc => by
    rw [← hQQ]; exact ⟨hb, .inl ⟨protM_none (by rw [hpln]; exact hc), rfl⟩⟩
  have HQY : Hid (∀ w' a' c' b, Below w.heap.size w w' → (hrightM h = true ∧ n ≤ 4611686018427387903 ∧ 4 ≤ h.w + pl ∧ ((encH h (h.w + pl + 8)).length : Int) + h.w + pl + 8 ≤ 512) → b = maskedM km ((encH h (h.w + pl + 8) ++ numM (cutM n (wM h.w)) h.w.toNat) ++ sealM ks n (encH h (h.w + pl + 8) ++ numM (cutM n (wM h.w)) h.w.toNat) pls) (encH h (h.w + pl + 8)).length h.w.toNat → b.length ≤ c' → c' ≤ 9223372036854775807 → IntsK .u8 w' a' b.length b → QQ (.returned (.tuple #[.slice a' b.length c', .int .i64 0])) w') := Lib.hid fun w' a' c' b hb hc he hl hm hi => by
    rw [← hQQ]
    refine ⟨hb, .inr ⟨b, a', c', ?_, rfl, hl, hm, hi⟩⟩
    unfold protM
    rw [hpln, if_pos hc, he]
  rw [hQQ]
  have HRP := Lib.hid (hrightM_eq h)
  have HEV : Hid (h.val a tc = .agg (h.row a tc).toArray) := Lib.hid rfl
  rw [HEV.out] at HENC ⊢
  obtain ⟨RW, hRW⟩ : ∃ RW, h.row a tc = RW := ⟨_, rfl⟩
  rw [hRW] at HENC HRL HR18 ⊢
  obtain ⟨wd, hwd⟩ : ∃ wd, h.w = wd := ⟨_, rfl⟩
  rw [hwd] at HENC HR18 HEW HEL HQN HQY hw
  have HWD := Lib.hid hwd
  clear hIp hIk hk hkl hQQ hRW HEV hwd hpln
  go_enter Try.func11, Try.ntmps11
  go_upto_region 1 with fail
  change Code.wp _ _ _ _ ((w.alloc (.cells #[.int .u64 ks, .int .u64 km] 27)).alloc (.cells RW.toArray 32))
  have HB := Lib.hid (Below.refl w.heap.size w)
  obtain ⟨gk, hg0⟩ : ∃ g, w.heap.size = g := ⟨_, rfl⟩
  try rw [hg0]
  have hb := (Below.refl w.heap.size w).alloc (Nat.le_refl _) (.cells #[.int .u64 ks, .int .u64 km] 27)
  have hrw := heap_alloc_new w (.cells #[.int .u64 ks, .int .u64 km] 27)
  have hsz : (w.alloc (.cells #[.int .u64 ks, .int .u64 km] 27)).heap.size = gk + 1 := by simp [hg0]
  rw [hg0] at hrw
  replace HB := Lib.hid (bl_next HB.out HB.out.size hb)
  have HGK := Lib.hid hrw
  clear hb hrw
  generalize w.alloc (.cells #[.int .u64 ks, .int .u64 km] 27) = w1 at HB HGK hsz ⊢
  have hg1 := hsz
  clear hsz
  have HG0 := Lib.hid hg0
  clear hg0
  have hb := (Below.refl w1.heap.size w1).alloc (Nat.le_refl _) (.cells RW.toArray 32)
  have hrw := heap_alloc_new w1 (.cells RW.toArray 32)
  have hsz : (w1.alloc (.cells RW.toArray 32)).heap.size = gk + 1 + 1 := by simp [hg1]
  rw [hg1] at hrw
  replace HB := Lib.hid (bl_next HB.out HB.out.size hb)
  replace HGK := Lib.hid (bl_row hb (lt_of_block HGK.out) HGK.out)
  have HGH := Lib.hid hrw
  clear hb hrw
  generalize w1.alloc (.cells RW.toArray 32) = w2 at HB HGK HGH hsz ⊢
  have hg2 := hsz
  clear hsz
  clear hg1
  obtain ⟨gh, hgg⟩ : ∃ g, gk + 1 = g := ⟨_, rfl⟩
  rw [hgg] at HGH hg2 ⊢
  have HLTgh : Hid (gk < gh) := Lib.hid (by omega)
  clear hgg
  clear hg2
  have ch := cell_row HGH.out 18 _ HR18.out
  go_wp2_with (first | (refine wpList_load_mid rfl 32 _ rfl gh 0 rfl RW _ (rngL HGH.out) Try.underlying32 rfl (by rw [HRL.out]; rfl) ?_) | fail)
  have HSW := Lib.hid HB.out.size
  have HGS : Hid (gk < w2.heap.size ∧ gh < w2.heap.size) := Lib.hid ⟨lt_of_block HGK.out, lt_of_block HGH.out⟩
  refine Calls.mono (HENC.out _ (HIK.out.below HB.out)) ?_
  rintro e w3 ⟨hb, hcase⟩
  have HBW := Lib.hid hb
  replace HB := Lib.hid (bl_next HB.out HB.out.size hb)
  replace HGK := Lib.hid (bl_row hb (lt_of_block HGK.out) HGK.out)
  replace HGH := Lib.hid (bl_row hb (lt_of_block HGH.out) HGH.out)
  clear hb
  clear ch
  have ch := cell_row HGH.out 18 _ HR18.out
  have hgk := lt_of_block HGK.out; have hgh := lt_of_block HGH.out
  skip
  rw [HWD.out] at hcase
  generalize hE : encH h (wd + pl + 8) = E at hcase HQN HQY HEW HEL
  clear hE
  rcases hcase with ⟨hr, hw1, hw2, a', cap', rfl, hl, hm, hi, hor⟩ | ⟨hnr, rfl⟩
  rotate_left
  · go_wp2_with fail
    (try go_ret2)
    exact HQN.out _ HB.out (fun hc => hnr ⟨hc.1, by omega, by omega⟩)
  have hrp := HRP.out.1 hr
  have hw4 : 1 ≤ wd ∧ wd ≤ 4 := by rw [← HWD.out]; exact ⟨hrp.1, hrp.2.1⟩
  have HEW2 := Lib.hid (HEW.out hrp (by omega))
  have HR := Lib.hid hr
  have hlb := HEL.out hrp
  have HO : Hid (ORow w3 w.heap.size [gk, gh] a' E.length cap' E) := Lib.hid ⟨(hor.low HSW.out) _ _ hi hl, fun x hx hm => by
      have h1 := own_base (hor _ _ hi hl) x.block (by rw [hx]; rfl)
      have h2 := HGS.out
      simp only [List.mem_cons, List.not_mem_nil, or_false] at hm
      omega, fun x hx => by
      have h2 := HGS.out; have h3 := HBW.out.size
      simp only [List.mem_cons, List.not_mem_nil, or_false] at hx; omega⟩
  clear HEL HEW HENC hrp hr hor hw1 hw2 hgk hgh HRP HIK
  generalize hL : E.length = L at HQN HQY hl hi hlb HO ⊢
  by_cases c1 : n ≤ 4611686018427387903
  rotate_left
  · go_wp2_with fail
    (try go_ret2)
    exact HQN.out _ HB.out (fun hc => by have := hc.2.1; omega)
  by_cases c2 : 4 ≤ wd + (pl : Int)
  rotate_left
  · go_wp2_with fail
    (try go_ret2)
    exact HQN.out _ HB.out (fun hc => by have := hc.2.2.1; omega)
  by_cases c3 : (L : Int) + wd + pl + 8 ≤ 512
  rotate_left
  · go_wp2_with fail
    (try go_ret2)
    exact HQN.out _ HB.out (fun hc => by have := hc.2.2.2; omega)
  replace HQY := Lib.hid (fun w' a' c' b hb => HQY.out w' a' c' b hb ⟨HR.out, c1, c2, c3⟩)
  clear HQN HR
  go_wp2_with fail
  refine Calls.mono (pcut_any _ n wd hn) ?_
  rintro e wq ⟨rfl, hq⟩
  obtain rfl := hq.symm
  clear hq
  have hcb := cutM_bd n (wM wd)
  have hpw : powW (wM wd) ≤ 4294967296 := by unfold powW; split <;> (try split) <;> (try split) <;> omega
  obtain ⟨wn, hwn⟩ : ∃ wn : Nat, wd = (wn : Int) := ⟨wd.toNat, by omega⟩
  have HWT : Hid (wd.toNat = wn) := Lib.hid (by omega)
  rw [HWT.out] at HQY
  have HWN := Lib.hid hwn
  clear hwn
  generalize cutM n (wM wd) = low at hcb HQY ⊢
  generalize powW (wM wd) = pw at hcb hpw
  go_upto_block 0 with fail
  refine prot_num _ hw4 HWN.out ⟨hcb.1, by omega⟩ (by omega) HO HB.out.size (fun c a d v w h => by first | (cases d <;> exact h) | exact HKP.out c a d v w h) ?_
  rintro _ _ _ _ _ _ _ _ _ _ _ _ _ a1 c1' w5 ho1 hk1
  replace HB := Lib.hid (HB.out.trans hk1.low); replace HGK := Lib.hid (hk1.row (by simp) HGK.out); replace HGH := Lib.hid (hk1.row (by simp) HGH.out); have HO1 := Lib.hid ho1
  have HXW : Hid (∀ x ∈ E ++ numM low wn, (Lit.int .u8 x).wf = true) := Lib.hid (by intro x hx; rw [List.mem_append] at hx; exact hx.elim (HEW2.out x) (numM_wf low wn x))
  clear hk1 ho1 HO hi ch
  go_upto_region 10 with fail
  refine prot_seal _ HNW.out (by have := HWN.out; omega) hpl (by simp) HB.out.size HXW.out (Lib.hid (HI.out.below HB.out)) HO1 HGK (fun c a d v w h => by first | (cases d <;> exact h) | exact HKP.out c a d v w h) ?_
  rintro _ _ _ _ _ _ _ _ _ a2 c2' w6 ho2 hk2
  replace HB := Lib.hid (HB.out.trans hk2.low); replace HGK := Lib.hid (hk2.row (by simp) HGK.out); replace HGH := Lib.hid (hk2.row (by simp) HGH.out)
  have HO := Lib.hid ho2
  have HXW2 : Hid (∀ x ∈ (E ++ numM low wn) ++ sealM ks n (E ++ numM low wn) pls, (Lit.int .u8 x).wf = true) := Lib.hid (by intro x hx; rw [List.mem_append] at hx; exact hx.elim (HXW.out x) (sealM_wf ks n _ pls HI.out.2.1 x))
  generalize hX : (E ++ numM low wn) ++ sealM ks n (E ++ numM low wn) pls = X at HQY HO HXW2
  clear ho2 hk2 HO1 HXW HEW2 hX
  have hcp := HO.out.cap
  have hwn4 : wn ≤ 4 := by have := HWN.out; omega
  have HPM := Lib.hid (fun W hI => pmask_any W ks km a2 (L + wn + (pl + 8)) c2' X L (by have := HWN.out; omega) hcp.1 hcp.2.1 hI)
  have HKL : Hid (([.int .u64 ks, .int .u64 km] : List Value).length = 2) := Lib.hid rfl
  have HGK2 : Hid (w6.heap[gk]? = some (.cells ([.int .u64 ks, .int .u64 km] : List Value).toArray 27 (0, 0))) := HGK
  go_wp2_with (first | (refine wpList_load_mid rfl 27 _ rfl gk 0 rfl [.int .u64 ks, .int .u64 km] _ (rngL HGK2.out) Try.underlying27 rfl (by rw [HKL.out]; rfl) ?_) | fail)
  refine Calls.mono (HPM.out _ (HO.out.ints HXW2.out)) ?_
  rintro e w7 ⟨rfl, hb⟩
  replace HB := Lib.hid (bl_next HB.out HB.out.size hb)
  replace HGH := Lib.hid (bl_row hb (lt_of_block HGH.out) HGH.out)
  replace HO := Lib.hid (HO.out.below hb)
  clear hb HPM HGK HGK2
  have HMW := Lib.hid (mskM_wf km X L)
  have HML8 := Lib.hid (mskM_len km X L)
  replace HQY : Hid (∀ w' a' c' b, Below w.heap.size w w' → b = xorAt (mskM km X L) L wn (X.set 0 (x0M (mskM km X L) X)) → b.length ≤ c' → c' ≤ 9223372036854775807 → IntsK .u8 w' a' b.length b → QQ (.returned (.tuple #[.slice a' b.length c', .int .i64 0])) w') := Lib.hid fun w' a' c' b hb he => HQY.out w' a' c' b hb (by rw [he]; rfl)
  generalize mskM km X L = m at HMW HML8 HQY ⊢
  have HML : Hid ((m.map (Value.int .u8)).length = 5) := Lib.hid (by rw [List.length_map, HML8.out])
  have HMO : Hid (∀ v ∈ m.map (Value.int .u8), v.oneCell' = true) := Lib.hid ints_one
  obtain ⟨gb, rfl, hgb1, hgb2, _⟩ := own_set HO.out.own (Below.refl _ _) (i := 0) (by omega) (.int .u8 0) rfl
  have hgbo := HO.out.off _ rfl
  simp only [List.mem_cons, List.not_mem_nil, or_false, not_or] at hgbo
  have HGB := Lib.hid (And.intro hgb1 hgbo)
  have HNE : Hid (w7.heap.size ≠ gb) := Lib.hid (by omega)
  clear hgb1 hgb2 hgbo
  obtain ⟨MC, hMC⟩ : ∃ MC, m.map (Value.int .u8) = MC := ⟨_, rfl⟩
  rw [hMC] at HML HMO ⊢
  have HMC := Lib.hid hMC
  clear hMC
  go_upto_region 12 with (first | (refine wpList_store_row rfl 69 _ _ rfl _ rfl MC (.int .u8 0 :: .int .u8 0 :: .int .u8 0 :: .int .u8 0 :: .int .u8 0 :: []) rfl 69 (heap_alloc_new _ _) (by rw [HML.out]; rfl) (by rw [HML.out]; rfl) HMO.out ?_; intro w21 hr hg) | fail)
  have hal := (Below.refl w7.heap.size w7).alloc (Nat.le_refl _) (.cells ((.int .u8 0 :: .int .u8 0 :: .int .u8 0 :: .int .u8 0 :: .int .u8 0 :: [])).toArray 69)
  have hb : Below w7.heap.size w7 w21 := hal.grown hg hal.size (by intro k hk; injection hk with hk; omega)
  replace HB := Lib.hid (bl_next HB.out HB.out.size hb)
  replace HGH := Lib.hid (bl_row hb (lt_of_block HGH.out) HGH.out)
  replace HO := Lib.hid (HO.out.below hb)
  have HGM := Lib.hid (hr)
  clear hr hg hal hb
  obtain ⟨gm, hg⟩ : ∃ g, w7.heap.size = g := ⟨_, rfl⟩
  rw [hg] at HGM HNE ⊢
  clear hg
  rw [← HMC.out] at HGM
  refine prot_first _ (by omega) HNE.out HXW2.out HMW.out HML8.out (Lib.hid HO.out.own) HGM (fun c a d v w h => by first | (cases d <;> exact h) | exact HKP.out c a d v w h) ?_
  rintro _ _ _ _ _ _ _ _ _ _ _ _ w8 ho3 hg3
  have hsw := HB.out.size
  replace HB := Lib.hid (HB.out.grown hg3 HB.out.size (by intro k hk; injection hk with hk; subst hk; exact HGB.out.1)); replace HGH := Lib.hid (grown_row hg3 (by intro e; injection e with e; exact HGB.out.2.2 e.symm) HGH.out); replace HGM := Lib.hid (grown_row hg3 (by intro e; injection e with e; exact HNE.out e) HGM.out)
  have HO3 := Lib.hid ho3
  clear ho3 hg3 HO hsw
  have ch := cell_row HGH.out 18 _ HR18.out
  have HXW3 : Hid (∀ x ∈ X.set 0 (x0M m X), (Lit.int .u8 x).wf = true) := Lib.hid (by intro x hx; rcases List.mem_or_eq_of_mem_set hx with h1 | h1; (exact HXW2.out x h1); rw [h1]; exact wf_bits _ _ _ _)
  generalize hX1 : X.set 0 (x0M m X) = X1 at HXW3 HO3 HQY
  clear hX1
  go_upto_block 2 with fail
  rw [HWN.out]
  clear ch
  refine prot_mask _ (by omega) (by omega) hwn4 HNE.out HXW3.out HMW.out HML8.out HO3 HGM (fun c a d v w h => by first | (cases d <;> exact h) | exact HKP.out c a d v w h) ?_
  rintro _ _ _ _ _ _ _ _ _ _ _ _ _ _ _ _ _ w9 ho4 hg4
  replace HB := Lib.hid (HB.out.grown hg4 HB.out.size (by intro k hk; injection hk with hk; subst hk; exact HGB.out.1))
  obtain ⟨b2, hb2⟩ : ∃ b, xorAt m L wn X1 = b := ⟨_, rfl⟩
  have HWF : Hid (∀ x ∈ b2, (Lit.int .u8 x).wf = true) := Lib.hid (by rw [← hb2]; exact xorAt_wf HXW3.out)
  rw [hb2] at ho4
  have HE := Lib.hid hb2.symm
  have hl4 := ho4.1
  rw [List.length_map, Nat.mul_one] at hl4
  have HL4 := Lib.hid hl4
  have HO4 := Lib.hid ho4
  clear ho4 hg4 hb2 hl4
  go_wp2_with fail
  (try go_ret2)
  rw [← HL4.out]
  refine HQY.out _ _ _ b2 HB.out HE.out (by rw [HL4.out]; exact hcp.1) hcp.2.1 ?_
  obtain ⟨b, cp, e, _, hi, _⟩ := ints_of_own HO4.out HWF.out
  injection e with e1 e2 e3
  rw [HL4.out, e1]; exact hi
end Go.Proofs.Ythofbckkjcidmaa
namespace Go.Proofs.Ythofbckkjcidmaa
open Go.RowKit
set_option linter.unusedVariables false
set_option linter.unusedSimpArgs false

theorem or_u32 {l u : Int} (h0 : 0 ≤ l) (h1 : l < 16777216) (h2 : 0 ≤ u) (h3 : u < 256) : bits .or .u32 (l * 256) u = l * 256 + u := by
  rw [u32_or _ _ (by omega) (by omega) (by omega) (by omega), nat_join 8 (l * 256).toNat u.toNat (by omega) (by omega)]; omega
set_option maxRecDepth 100000 in
set_option maxHeartbeats 4000000 in
theorem open_first {x0 x1 x2 x3 x4 x5 x6 x7 x8 x9 x10 x11 x12 x15 x16 x17 x18 x19 x20 x21 x22 x23 x24 x25 x26 x27 x28 x29 x30 x31 x32 x33 x34 x35 x36 x37 x38 x39 x40 x41 x42 x43 x44 x45 x46 x47 x48 x49 x50 x51 x52 x53 x54 x55 x56 x57 x58 x59 x60 x61 x62 x63 x64 x65 x66 x67 x68 x69 x70 x71 x72 x73 x74 x75 x76 x77 x78 x79 x80 x81 x82 x83 x84 x85 x86 x87 x88 x89 x90 x91 x92 x93 x94 x95 x96 x97 x98 x99 x100 x101 x102 x103 x104 x105 : Value} {B n0 c0 gb gm : Nat} {xs m : List Int} (wc : World) {Q : Exit → Act → World → Prop}
    (hn : 1 ≤ n0) (hne : gm ≠ gb) (hxw : ∀ x ∈ xs, (Lit.int .u8 x).wf = true) (hmw : ∀ x ∈ m, (Lit.int .u8 x).wf = true) (hml : m.length = 5) (HO : Hid (wc.ownsRow B 5 1 (.slice (some ⟨gb, 0, none⟩) n0 c0) n0 ((xs).map (Value.int .u8)))) (HGM : Hid (wc.heap[gm]? = some (.cells (m.map (Value.int .u8)).toArray 69 (0, 0))))
    (hQp : ∀ c a d v w, Q (.panic c) (a.put d v) w → Q (.panic c) a w)
    (hQ : ∀ (y37 y38 y39 y40 y41 y42 y43 y44 y45 y46 y47 y48 : Value) (w' : World), w'.ownsRow B 5 1 (.slice (some ⟨gb, 0, none⟩) n0 c0) n0 ((xs.set 0 (x0M m xs)).map (Value.int .u8)) → wc.grownBy w' (some gb) → Q .normal ⟨List.toArray (x0 :: x1 :: x2 :: x3 :: x4 :: x5 :: x6 :: x7 :: x8 :: x9 :: x10 :: x11 :: x12 :: .pointer (some ⟨gm, 0, none⟩) :: .slice (some ⟨gb, 0, none⟩) n0 c0 :: x15 :: x16 :: x17 :: x18 :: x19 :: x20 :: x21 :: x22 :: x23 :: x24 :: x25 :: x26 :: x27 :: x28 :: x29 :: x30 :: x31 :: x32 :: x33 :: x34 :: x35 :: x36 :: y37 :: y38 :: y39 :: y40 :: y41 :: y42 :: y43 :: y44 :: y45 :: y46 :: y47 :: y48 :: x49 :: x50 :: x51 :: x52 :: x53 :: x54 :: x55 :: x56 :: x57 :: x58 :: x59 :: x60 :: x61 :: x62 :: x63 :: x64 :: x65 :: x66 :: x67 :: x68 :: x69 :: x70 :: x71 :: x72 :: x73 :: x74 :: x75 :: x76 :: x77 :: x78 :: x79 :: x80 :: x81 :: x82 :: x83 :: x84 :: x85 :: x86 :: x87 :: x88 :: x89 :: x90 :: x91 :: x92 :: x93 :: x94 :: x95 :: x96 :: x97 :: x98 :: x99 :: x100 :: x101 :: x102 :: x103 :: x104 :: x105 :: []), []⟩ w') :
    Code.wp Try.prog (((Try.f31.body.bind (subRegion 6)).getD .skip)) Q ⟨List.toArray (x0 :: x1 :: x2 :: x3 :: x4 :: x5 :: x6 :: x7 :: x8 :: x9 :: x10 :: x11 :: x12 :: .pointer (some ⟨gm, 0, none⟩) :: .slice (some ⟨gb, 0, none⟩) n0 c0 :: x15 :: x16 :: x17 :: x18 :: x19 :: x20 :: x21 :: x22 :: x23 :: x24 :: x25 :: x26 :: x27 :: x28 :: x29 :: x30 :: x31 :: x32 :: x33 :: x34 :: x35 :: x36 :: x37 :: x38 :: x39 :: x40 :: x41 :: x42 :: x43 :: x44 :: x45 :: x46 :: x47 :: x48 :: x49 :: x50 :: x51 :: x52 :: x53 :: x54 :: x55 :: x56 :: x57 :: x58 :: x59 :: x60 :: x61 :: x62 :: x63 :: x64 :: x65 :: x66 :: x67 :: x68 :: x69 :: x70 :: x71 :: x72 :: x73 :: x74 :: x75 :: x76 :: x77 :: x78 :: x79 :: x80 :: x81 :: x82 :: x83 :: x84 :: x85 :: x86 :: x87 :: x88 :: x89 :: x90 :: x91 :: x92 :: x93 :: x94 :: x95 :: x96 :: x97 :: x98 :: x99 :: x100 :: x101 :: x102 :: x103 :: x104 :: x105 :: []), []⟩ wc := by
  have HK := Lib.hid hQ; have HKP := Lib.hid hQp
  clear hQ hQp
  conv => arg 2; whnf
  obtain ⟨gb', hgb, _, _, hz, hcs, _⟩ := own_set HO.out (Below.refl _ _) (i := 0) (by omega) (.int .u8 0) rfl
  injection hgb with hgb; injection hgb with hgb; subst hgb
  have hxl : xs.length = n0 := by have := HO.out.1; rw [List.length_map] at this; omega
  obtain ⟨b0, hb0⟩ : ∃ x, xs[0]? = some x := ⟨_, List.getElem?_eq_getElem (by omega)⟩
  obtain ⟨m0, hm0⟩ : ∃ x, m[0]? = some x := ⟨_, List.getElem?_eq_getElem (by omega)⟩
  have hb0w := bdU8 (hxw b0 (List.mem_of_getElem? hb0)); have hm0w := bdU8 (hmw m0 (List.mem_of_getElem? hm0))
  have c0 : wc.drew.cell? ⟨gb, 0, none⟩ = some (.int .u8 b0) := hcs 0 _ (by rw [List.getElem?_map, hb0]; rfl)
  have z0 : wc.drew.frozen? ⟨gb, 0, none⟩ = false := hz
  have f1 : ∀ t : In (fun y => wc.grownBy y (some gb)), t.w.cell? ⟨gm, 0, none⟩ = some (.int .u8 m0) := fun t => t.h.cell (row_cell HGM.out 0 _ (by rw [List.getElem?_toArray, List.getElem?_map, hm0]; rfl)) (by intro e; injection e with e; exact hne e)
  have HX0 : Hid (x0M m xs = bits .xor .u8 b0 (bits .and .u8 m0 (hidM b0))) := Lib.hid (by unfold x0M; rw [List.getD_eq_getElem?_getD, List.getD_eq_getElem?_getD, hb0, hm0]; rfl)
  have HHI := Lib.hid (fun w => hidden_any w b0 hb0w)
  have HSET := Lib.hid (fun u (hu : u.oneCell' = true) => own_put HO.out (i := 0) (by omega) u hu)
  clear hz hcs hb0 hm0 hmw hxw hml hxl
  generalize hidM b0 = hb at HX0 HHI
  refine wp_plan (.t 0 (.t 1 (.t 3 (.t 4 (.t 5 (.t 6 (.b 2 (.u 7 (.u 8 (.t 9 (.t 10 (.t 11 (.u 12 .done)))))) 7 (.b 2 (.u 8 (.t 9 (.t 10 (.t 11 (.u 12 .done))))) 8 (.t 9 (.u 2 (.t 10 (.t 11 (.u 12 .done))))))))))))) (fun y => wc.grownBy y (some gb)) (by kernel_rfl) (by kernel_rfl) (by kernel_rfl) (fun c a d v w h => by first | (cases d <;> exact h) | exact HKP.out c a d v w h) (grown_drew _ _) ?_
  have hS : Hid (wc.grownBy wc.drew (some gb)) := Lib.hid (grown_drew _ _)
  haveI hne2 : Nonempty (In (fun y => wc.grownBy y (some gb))) := ⟨⟨wc, grown_refl _ _⟩⟩
  have HSD : Hid (∀ u, (wc.drew.setCell ⟨gb, 0, none⟩ u) = (wc.setCell ⟨gb, 0, none⟩ u).drew) := Lib.hid fun u => rfl
  generalize hWd : wc.drew = W0 at c0 z0 hS HSD ⊢
  clear hWd
  repeat (refine plan_t (by rfl) ?_; (first | go_big_quiet_skip | (go_big_quiet_want; go_big_quiet_op; go_big_quiet_on)); refine wpQuiet_nil ?_)
  refine plan_b ?_ ?_
  · refine plan_half (by rfl) (by kernel_rfl) ?_
    intro K hK
    go_wp2_with fail
    refine ⟨hS.out, ?_⟩
    refine plan_us (by rfl) (by kernel_rfl) ?_
    intro K hK
    go_wp2_with fail
    refine ⟨hS.out, ?_⟩
    refine plan_us (by rfl) (by kernel_rfl) ?_
    intro K hK
    go_wp2_with fail
    refine Calls.mono (HHI.out _) ?_
    rintro e wq ⟨rfl, hq⟩
    obtain rfl := hq.symm
    clear hq
    go_wp2_with fail
    refine ⟨hS.out, ?_⟩
    repeat (refine plan_t (by rfl) ?_; (first | go_big_quiet_skip | (go_big_quiet_want; go_big_quiet_op; go_big_quiet_on)); refine wpQuiet_nil ?_)
    refine plan_us (by rfl) (by kernel_rfl) ?_
    intro K hK
    go_wp2_with fail
    rw [HSD.out, ← HX0.out]
    have ho := HSET.out (.int .u8 (x0M m xs)) rfl
    have hg := grown_setCell wc gb 0 (.int .u8 (x0M m xs))
    rw [← List.map_set] at ho
    refine ⟨grown_trans hg (grown_drew _ _), ?_⟩
    skip
    clear hne2
    exact HK.out _ _ _ _ _ _ _ _ _ _ _ _ _ (own_below ho ((Below.refl _ _).drew)) (grown_trans hg (grown_drew _ _))
  · refine plan_half (by rfl) (by kernel_rfl) ?_
    intro K hK
    go_wp2_with fail
    refine ⟨hS.out, ?_⟩
    refine plan_b ?_ ?_
    · refine plan_half (by rfl) (by kernel_rfl) ?_
      intro K hK
      go_wp2_with fail
      refine ⟨hS.out, ?_⟩
      refine plan_us (by rfl) (by kernel_rfl) ?_
      intro K hK
      go_wp2_with fail
      refine Calls.mono (HHI.out _) ?_
      rintro e wq ⟨rfl, hq⟩
      obtain rfl := hq.symm
      clear hq
      go_wp2_with fail
      refine ⟨hS.out, ?_⟩
      repeat (refine plan_t (by rfl) ?_; (first | go_big_quiet_skip | (go_big_quiet_want; go_big_quiet_op; go_big_quiet_on)); refine wpQuiet_nil ?_)
      refine plan_us (by rfl) (by kernel_rfl) ?_
      intro K hK
      go_wp2_with fail
      rw [HSD.out, ← HX0.out]
      have ho := HSET.out (.int .u8 (x0M m xs)) rfl
      have hg := grown_setCell wc gb 0 (.int .u8 (x0M m xs))
      rw [← List.map_set] at ho
      refine ⟨grown_trans hg (grown_drew _ _), ?_⟩
      skip
      clear hne2
      exact HK.out _ _ _ _ _ _ _ _ _ _ _ _ _ (own_below ho ((Below.refl _ _).drew)) (grown_trans hg (grown_drew _ _))
    · refine plan_half (by rfl) (by kernel_rfl) ?_
      intro K hK
      go_wp2_with fail
      refine Calls.mono (HHI.out _) ?_
      rintro e wq ⟨rfl, hq⟩
      obtain rfl := hq.symm
      clear hq
      go_wp2_with fail
      refine ⟨hS.out, ?_⟩
      repeat (refine plan_t (by rfl) ?_; (first | go_big_quiet_skip | (go_big_quiet_want; go_big_quiet_op; go_big_quiet_on)); refine wpQuiet_nil ?_)
      refine plan_us (by rfl) (by kernel_rfl) ?_
      intro K hK
      go_wp2_with fail
      refine ⟨hS.out, ?_⟩
      repeat (refine plan_t (by rfl) ?_; (first | go_big_quiet_skip | (go_big_quiet_want; go_big_quiet_op; go_big_quiet_on)); refine wpQuiet_nil ?_)
      refine plan_us (by rfl) (by kernel_rfl) ?_
      intro K hK
      go_wp2_with fail
      rw [HSD.out, ← HX0.out]
      have ho := HSET.out (.int .u8 (x0M m xs)) rfl
      have hg := grown_setCell wc gb 0 (.int .u8 (x0M m xs))
      rw [← List.map_set] at ho
      refine ⟨grown_trans hg (grown_drew _ _), ?_⟩
      skip
      clear hne2
      exact HK.out _ _ _ _ _ _ _ _ _ _ _ _ _ (own_below ho ((Below.refl _ _).drew)) (grown_trans hg (grown_drew _ _))
set_option maxRecDepth 100000 in
set_option maxHeartbeats 4000000 in
theorem open_loop {x0 x1 x2 x3 x4 x5 x6 x7 x8 x9 x11 x12 x16 x17 x18 x19 x20 x21 x22 x23 x24 x25 x26 x27 x28 x29 x30 x31 x32 x33 x34 x35 x36 x37 x38 x39 x40 x41 x42 x43 x44 x45 x46 x47 x48 x49 x50 x51 x52 x53 x54 x55 x56 x57 x58 x59 x60 x61 x62 x63 x64 x65 x66 x67 x68 x69 x72 x73 x74 x75 x76 x77 x78 x79 x80 x81 x82 x83 x84 x85 x86 x87 x88 x89 x90 x91 x92 x93 x94 x95 x96 x97 x98 x99 x100 x101 x102 x103 x104 x105 : Value} {B n0 c0 gb gm at' wn : Nat} {xs m : List Int} (wc : World) {Q : Exit → Act → World → Prop}
    (hn : at' + wn ≤ n0) (hn0 : n0 ≤ 2000000000000) (hw4 : wn ≤ 4) (hne : gm ≠ gb) (hxw : ∀ x ∈ xs, (Lit.int .u8 x).wf = true) (hmw : ∀ x ∈ m, (Lit.int .u8 x).wf = true) (hml : m.length = 5) (HO : Hid (wc.ownsRow B 5 1 (.slice (some ⟨gb, 0, none⟩) n0 c0) n0 ((xs).map (Value.int .u8)))) (HGM : Hid (wc.heap[gm]? = some (.cells (m.map (Value.int .u8)).toArray 69 (0, 0))))
    (hQp : ∀ c a d v w, Q (.panic c) (a.put d v) w → Q (.panic c) a w)
    (hQ : ∀ (y16 y71 y72 y73 y74 y75 y76 y77 y78 y79 y80 y81 y82 y83 y84 y85 y86 y87 y88 y89 y90 y91 y92 y93 y94 y95 y96 : Value) (w' : World), w'.ownsRow B 5 1 (.slice (some ⟨gb, 0, none⟩) n0 c0) n0 (((xorAt m at' wn xs)).map (Value.int .u8)) → wc.grownBy w' (some gb) → Q .normal ⟨List.toArray (x0 :: x1 :: x2 :: x3 :: x4 :: x5 :: x6 :: x7 :: x8 :: x9 :: .int .i64 at' :: x11 :: x12 :: .pointer (some ⟨gm, 0, none⟩) :: .slice (some ⟨gb, 0, none⟩) n0 c0 :: .int .u32 (lowB (xorAt m at' wn xs) at' wn) :: y16 :: x17 :: x18 :: x19 :: x20 :: x21 :: x22 :: x23 :: x24 :: x25 :: x26 :: x27 :: x28 :: x29 :: x30 :: x31 :: x32 :: x33 :: x34 :: x35 :: x36 :: x37 :: x38 :: x39 :: x40 :: x41 :: x42 :: x43 :: x44 :: x45 :: x46 :: x47 :: x48 :: x49 :: x50 :: x51 :: x52 :: x53 :: x54 :: x55 :: x56 :: x57 :: x58 :: x59 :: x60 :: x61 :: x62 :: x63 :: x64 :: x65 :: x66 :: x67 :: x68 :: x69 :: .int .i64 wn :: y71 :: y72 :: y73 :: y74 :: y75 :: y76 :: y77 :: y78 :: y79 :: y80 :: y81 :: y82 :: y83 :: y84 :: y85 :: y86 :: y87 :: y88 :: y89 :: y90 :: y91 :: y92 :: y93 :: y94 :: y95 :: y96 :: x97 :: x98 :: x99 :: x100 :: x101 :: x102 :: x103 :: x104 :: x105 :: []), []⟩ w') :
    Code.wp Try.prog (((Try.f31.body.bind (subBlock 0)).getD .skip)) Q ⟨List.toArray (x0 :: x1 :: x2 :: x3 :: x4 :: x5 :: x6 :: x7 :: x8 :: x9 :: .int .i64 at' :: x11 :: x12 :: .pointer (some ⟨gm, 0, none⟩) :: .slice (some ⟨gb, 0, none⟩) n0 c0 :: .int .u32 0 :: x16 :: x17 :: x18 :: x19 :: x20 :: x21 :: x22 :: x23 :: x24 :: x25 :: x26 :: x27 :: x28 :: x29 :: x30 :: x31 :: x32 :: x33 :: x34 :: x35 :: x36 :: x37 :: x38 :: x39 :: x40 :: x41 :: x42 :: x43 :: x44 :: x45 :: x46 :: x47 :: x48 :: x49 :: x50 :: x51 :: x52 :: x53 :: x54 :: x55 :: x56 :: x57 :: x58 :: x59 :: x60 :: x61 :: x62 :: x63 :: x64 :: x65 :: x66 :: x67 :: x68 :: x69 :: .int .i64 wn :: .int .i64 0 :: x72 :: x73 :: x74 :: x75 :: x76 :: x77 :: x78 :: x79 :: x80 :: x81 :: x82 :: x83 :: x84 :: x85 :: x86 :: x87 :: x88 :: x89 :: x90 :: x91 :: x92 :: x93 :: x94 :: x95 :: x96 :: x97 :: x98 :: x99 :: x100 :: x101 :: x102 :: x103 :: x104 :: x105 :: []), []⟩ wc := by
  have HK := Lib.hid hQ; have HKP := Lib.hid hQp
  clear hQ hQp
  conv => arg 2; whnf
  have HXW := Lib.hid hxw; have HMW := Lib.hid hmw; have HNE := Lib.hid hne; have HML := Lib.hid hml
  clear hxw hmw hne hml
  have HXL : Hid (xs.length = n0) := Lib.hid (by have := HO.out.1; rw [List.length_map] at this; omega)
  have HO0 : Hid (wc.ownsRow B 5 1 (.slice (some ⟨gb, 0, none⟩) n0 c0) n0 (((xorAt m at' 0 xs)).map (Value.int .u8))) := Lib.hid (by rw [xorAt_zero]; exact HO.out)
  have HG0 : Hid (wc.grownBy wc (some gb)) := Lib.hid (grown_refl _ _)
  have hc0 : n0 ≤ c0 ∧ c0 ≤ 9223372036854775807 := by obtain ⟨b, cp, e, h⟩ := own_slice HO.out; injection e with _ _ e3; exact ⟨by omega, own_capm HO.out _ _ _ rfl⟩
  obtain ⟨Y, hY⟩ : ∃ Y, xorAt m at' wn xs = Y := ⟨_, rfl⟩
  have HYW : Hid (∀ x ∈ Y, (Lit.int .u8 x).wf = true) := Lib.hid (by rw [← hY]; exact xorAt_wf HXW.out)
  have HYG : Hid (∀ j, j < wn → ∀ b0 m0, xs[at' + j]? = some b0 → m[1 + j]? = some m0 → Y.getD (at' + j) 0 = bits .xor .u8 b0 m0) := Lib.hid fun j hj b0 m0 hb hm => by
    rw [← hY, List.getD_eq_getElem?_getD, xorAt_get, hb]
    simp only [Option.map_some, Option.getD_some]
    rw [if_pos (by omega), List.getD_eq_getElem?_getD, show 1 + (at' + j - at') = 1 + j by omega, hm]; rfl
  have HLB : Hid (∀ j, 0 ≤ lowB Y at' j ∧ lowB Y at' j < 256 ^ j) := Lib.hid (fun j => lowM_bd HYW.out at' j)
  rw [hY] at HK
  have HYE := Lib.hid hY
  clear HO hY
  go_wp2_with fail
  go_loopw [15, 71] (fun s15 s wx => ∃ j : Nat, s15 = .int .u32 (lowB Y at' j) ∧ s = .int .i64 j ∧ j ≤ wn ∧ Hid (wx.ownsRow B 5 1 (.slice (some ⟨gb, 0, none⟩) n0 c0) n0 (((xorAt m at' j xs)).map (Value.int .u8))) ∧ Hid (wc.grownBy wx (some gb))) (fun _ s _ => wn - (intOf s).toNat)
  case atStart => exact ⟨0, rfl, rfl, by omega, HO0, HG0⟩
  case round =>
    clear HO0 HG0
    obtain ⟨j, rfl, rfl, hj, HO, HG⟩ := hrel
    by_cases hlt : j < wn
    · skip
      obtain ⟨gb', hgb, _, _, hz, hcs, _⟩ := own_set HO.out (Below.refl _ _) (i := at' + j) (by omega) (.int .u8 0) rfl
      injection hgb with hgb; injection hgb with hgb; subst hgb
      obtain ⟨b0, hb0⟩ : ∃ x, xs[at' + j]? = some x := ⟨_, List.getElem?_eq_getElem (by rw [HXL.out]; omega)⟩
      obtain ⟨m0, hm0⟩ : ∃ x, m[1 + j]? = some x := ⟨_, List.getElem?_eq_getElem (by rw [HML.out]; omega)⟩
      have hb0w := bdU8 (HXW.out b0 (List.mem_of_getElem? hb0)); have hm0w := bdU8 (HMW.out m0 (List.mem_of_getElem? hm0))
      have hx0 : (xorAt m at' j xs)[at' + j]? = some b0 := by rw [xorAt_get, hb0]; simp only [Option.map_some]; rw [if_neg (by omega)]
      have c0' : wr.drew.cell? ⟨gb, at' + j, none⟩ = some (.int .u8 b0) := hcs _ _ (by rw [List.getElem?_map, hx0]; rfl)
      have z0 : wr.drew.frozen? ⟨gb, at' + j, none⟩ = false := hz
      have HGM2 := Lib.hid (grown_row HG.out (by intro e; injection e with e; exact HNE.out e) HGM.out)
      have f1 : ∀ t : In (fun y => wr.grownBy y (some gb)), t.w.cell? ⟨gm, 1 + j, none⟩ = some (.int .u8 m0) := fun t => t.h.cell (row_cell HGM2.out (1 + j) _ (by rw [List.getElem?_toArray, List.getElem?_map, hm0]; rfl)) (by intro e; injection e with e; exact HNE.out e)
      have HX0 : Hid (xorAt m at' (j + 1) xs = (xorAt m at' j xs).set (at' + j) (bits .xor .u8 b0 m0)) := Lib.hid (by rw [xorAt_succ, List.getD_eq_getElem?_getD, List.getD_eq_getElem?_getD, hb0, hm0]; rfl)
      have HU := Lib.hid (HYG.out j hlt b0 m0 hb0 hm0)
      have HUW : Hid (0 ≤ bits .xor .u8 b0 m0 ∧ bits .xor .u8 b0 m0 ≤ 255) := Lib.hid (bdU8 (wf_bits _ _ _ _))
      have HXJ : Hid ((xorAt m at' (j + 1) xs)[at' + j]? = some (bits .xor .u8 b0 m0)) := Lib.hid (by rw [HX0.out, List.getElem?_set_self (by rw [xorAt_len, HXL.out]; omega)])
      have HSET := Lib.hid (fun u (hu : u.oneCell' = true) => own_put HO.out (i := at' + j) (by omega) u hu)
      have E1 : IntKind.i64.wrap ((at' : Int) + (j : Int)) = (at' : Int) + (j : Int) := IntWalk.i64_in _ (by omega)
      have E2 : ((at' : Int) + (j : Int)).toNat = at' + j := by omega
      have E3 : (0 : Int) ≤ (at' : Int) + (j : Int) := by omega
      have E4 : (at' : Int) + (j : Int) < (n0 : Int) := by omega
      have E5 : IntKind.i64.wrap (1 + (j : Int)) = 1 + (j : Int) := IntWalk.i64_in _ (by omega)
      have E6 : (1 + (j : Int)).toNat = 1 + j := by omega
      have E7 : (0 : Int) ≤ 1 + (j : Int) := by omega
      have E8 : 1 + (j : Int) < 5 := by omega
      clear hz hcs hb0 hm0 hx0
      go_upto_region 13 with fail
      refine wp_plan (.t 0 (.t 1 (.t 2 (.t 3 (.t 4 (.t 6 (.t 7 (.t 8 (.t 9 (.u 5 (.t 10 (.t 11 (.u 12 .done))))))))))))) (fun y => wr.grownBy y (some gb)) (by kernel_rfl) (by kernel_rfl) (by kernel_rfl) (fun c a d v w h => by first | (cases d <;> exact h) | exact HKP.out c a d v w h) (grown_drew _ _) ?_
      have hS : Hid (wr.grownBy wr.drew (some gb)) := Lib.hid (grown_drew _ _)
      haveI hne2 : Nonempty (In (fun y => wr.grownBy y (some gb))) := ⟨⟨wr, grown_refl _ _⟩⟩
      have HSD : Hid (∀ u, (wr.drew.setCell ⟨gb, at' + j, none⟩ u) = (wr.setCell ⟨gb, at' + j, none⟩ u).drew) := Lib.hid fun u => rfl
      generalize hWd : wr.drew = W0 at c0' z0 hS HSD ⊢
      clear hWd
      repeat (refine plan_t (by rfl) ?_; (first | go_big_quiet_skip | (go_big_quiet_want; go_big_quiet_op; go_big_quiet_on)); refine wpQuiet_nil ?_)
      refine plan_us (by rfl) (by kernel_rfl) ?_
      intro K hK
      go_wp2_with fail
      refine ⟨hS.out, ?_⟩
      repeat (refine plan_t (by rfl) ?_; (first | go_big_quiet_skip | (go_big_quiet_want; go_big_quiet_op; go_big_quiet_on)); refine wpQuiet_nil ?_)
      refine plan_us (by rfl) (by kernel_rfl) ?_
      intro K hK
      go_wp2_with fail
      rw [HSD.out]
      have ho := HSET.out (.int .u8 (bits .xor .u8 b0 m0)) rfl
      have hg := grown_setCell wr gb (at' + j) (.int .u8 (bits .xor .u8 b0 m0))
      rw [← List.map_set, ← HX0.out] at ho
      refine ⟨grown_trans hg (grown_drew _ _), ?_⟩
      clear hne2 f1 E1 E2 E3 E4 E5 E6 E7 E8 c0' z0
      show Exit.then _ _ _ _ _
      have HO2 := Lib.hid (own_below ho ((Below.refl _ _).drew))
      have HG2 := Lib.hid (grown_trans HG.out (grown_trans hg (grown_drew _ _)))
      clear ho hg HSD HSET
      generalize (wr.setCell ⟨gb, at' + j, none⟩ (.int .u8 (bits .xor .u8 b0 m0))).drew = w2 at HO2 HG2 ⊢
      obtain ⟨_, hgb2, _, _, _, hcs2, _⟩ := own_set HO2.out (Below.refl _ _) (i := at' + j) (by omega) (.int .u8 0) rfl
      injection hgb2 with hgb2; injection hgb2 with hgb2; subst hgb2
      have cu := hcs2 (at' + j) _ (by rw [List.getElem?_map, HXJ.out]; rfl)
      have hu := HUW.out
      have HLS : Hid (lowB Y at' (j + 1) = lowB Y at' j * 256 + bits .xor .u8 b0 m0) := Lib.hid (by rw [← HU.out]; rfl)
      generalize bits .xor .u8 b0 m0 = u at cu hu HLS
      have hlb := HLB.out j
      have hp : (256 : Int) ^ j ≤ 16777216 := by (rcases (by omega : j = 0 ∨ j = 1 ∨ j = 2 ∨ j = 3) with rfl | rfl | rfl | rfl <;> decide)
      generalize lowB Y at' j = l at hlb HLS ⊢
      have hl2 : 0 ≤ l ∧ l < 16777216 := ⟨hlb.1, by omega⟩
      clear hlb hp hcs2
      have HOR := or_u32 hl2.1 hl2.2 hu.1 (by omega)
      go_wp2_with fail
      exact ⟨⟨j + 1, by rw [HLS.out], by go_num, by omega, HO2, HG2⟩, by simp [intOf]; omega⟩
    · obtain rfl : j = wn := by omega
      go_wp2_with fail
      rw [HYE.out] at HO
      exact HK.out _ _ _ _ _ _ _ _ _ _ _ _ _ _ _ _ _ _ _ _ _ _ _ _ _ _ _ _ HO.out HG.out
end Go.Proofs.Ythofbckkjcidmaa
