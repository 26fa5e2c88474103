/- texts of the proof, laid together: FrmK, FrmL, FrmM, FrmP. -/
import Derived.Test.YtmbjepcbokbemaaU6
import Derived.Test.YtmbjepcbokbemaaU2
set_option linter.unusedVariables false
set_option linter.unusedSimpArgs false
set_option maxRecDepth 100000
set_option maxHeartbeats 16000000
namespace Go.Proofs.Ytmbjepcbokbemaa
open Go.RowKit
theorem one2 (x y : Int) : ([.int .u64 x, .int .u64 y] : List Value).toArray.all (·.oneCell') = true := all_oneCell_toArray (fun v hv => by simp only [List.mem_cons, List.not_mem_nil, or_false] at hv; rcases hv with rfl | rfl <;> rfl)
theorem there_sub {w : World} {g o n m : Nat} (h : w.there g 0 n) (hm : o + m ≤ n) : w.there g o m := fun j hj => by
 have := h (o + j) (by omega)
 rw [Nat.zero_add] at this
 exact this
theorem grown_setCells (w : World) (g : Nat) : ∀ (vs : List Value) (o : Nat), w.grownBy (w.setCells g o vs) (some g) := by
 intro vs
 induction vs generalizing w with
 | nil => intro o; exact grown_refl _ _
 | cons v vs ih => intro o; rw [World.setCells]; exact grown_trans (grown_setCell _ _ _ _) (ih _ _)
def mixR (rs : List (Int × Int)) (i t : Nat) : Option (Int × Int) := if t < i ∨ rs.length - i ≤ t then rs.reverse[t]? else rs[t]?
theorem mixR_step {rs : List (Int × Int)} {i j t : Nat} (hj : j + i + 1 = rs.length) (hij : i < j) : mixR rs (i + 1) t = if t = i then rs[j]? else if t = j then rs[i]? else mixR rs i t := by
 unfold mixR
 by_cases h1 : t = i
 ·
  subst h1
  rw [if_pos (by omega), if_pos rfl, rev_at rfl (by omega)]; congr 1; omega
 ·
  rw [if_neg h1]
  by_cases h2 : t = j
  ·
   subst h2
   rw [if_pos (by omega), if_pos rfl, rev_at rfl (by omega)]; congr 1; omega
  ·
   rw [if_neg h2]
   by_cases h3 : t < i ∨ rs.length - i ≤ t
   ·
    rw [if_pos h3, if_pos (by omega)]
   ·
    rw [if_neg h3, if_neg (by omega)]
theorem mixR_zero {rs : List (Int × Int)} {t : Nat} {x : Int × Int} (h : mixR rs 0 t = some x) : rs[t]? = some x := by
 unfold mixR at h
 by_cases h9 : t < 0 ∨ rs.length - 0 ≤ t
 ·
  rw [if_pos h9, List.getElem?_eq_none (by rw [List.length_reverse]; omega)] at h; cases h
 ·
  rw [if_neg h9] at h; exact h
theorem there_drew {w : World} {g o n : Nat} (h : w.there g o n) : w.drew.there g o n := h
theorem range_drew {w : World} {g o : Nat} {c : List Value} (h : w.rangeAt g o c) : w.drew.rangeAt g o c := h
theorem mixR_end {rs : List (Int × Int)} {i : Nat} (h : rs.length ≤ 2 * i + 1) (t : Nat) (ht : t < rs.length) : mixR rs i t = rs.reverse[t]? := by
 unfold mixR
 by_cases h3 : t < i ∨ rs.length - i ≤ t
 ·
  rw [if_pos h3]
 ·
  rw [if_neg h3, rev_at rfl ht]; congr 1; omega
theorem rev_swap {x1 x4 x5 x6 x7 x8 x9 x10 x11 x12 x13 x14 x15 x16 x17 x18 x19 x20 x21 x22 x23 x24 x25 x26 x27 : Value} {g n cp i j : Nat} {a b c d : Int} (w : World) {Q : Exit → Act → World → Prop}
  (HA : Hid (w.rangeAt g (i * 2) [.int .u64 a, .int .u64 b])) (HC : Hid (w.rangeAt g (j * 2) [.int .u64 c, .int .u64 d])) (HT : Hid (w.there g 0 (n * 2))) (hi : i < n) (hj : j < n) (hnm : n ≤ 1000)
  (hQp : ∀ c a d v w, Q (.panic c) (a.put d v) w → Q (.panic c) a w)
  (hQ : ∀ (y14 y15 y16 y17 y18 y19 y20 y21 y22 y23 y24 y25 y26 y27 : Value) (w' : World), Hid (w' = (w.drew.setCells g (i * 2) [.int .u64 c, .int .u64 d]).setCells g (j * 2) [.int .u64 a, .int .u64 b]) → Q .normal ⟨List.toArray (.slice (some ⟨g, 0, none⟩) n cp :: x1 :: .int .i64 i :: .int .i64 j :: x4 :: x5 :: x6 :: x7 :: x8 :: x9 :: x10 :: x11 :: x12 :: x13 :: y14 :: y15 :: y16 :: y17 :: y18 :: y19 :: y20 :: y21 :: y22 :: y23 :: y24 :: y25 :: y26 :: y27 :: []), []⟩ w') :
  Code.wp Try.prog (((Try.f77.body.bind (subRegion 3)).getD .skip)) Q ⟨List.toArray (.slice (some ⟨g, 0, none⟩) n cp :: x1 :: .int .i64 i :: .int .i64 j :: x4 :: x5 :: x6 :: x7 :: x8 :: x9 :: x10 :: x11 :: x12 :: x13 :: x14 :: x15 :: x16 :: x17 :: x18 :: x19 :: x20 :: x21 :: x22 :: x23 :: x24 :: x25 :: x26 :: x27 :: []), []⟩ w := by
 have HK := Qh hQ; have HKP := Qh hQp
 clear hQ hQp
 conv => arg 2; whnf
 refine wp_plan3 [2, 3, 8, 9, 10] 12 (.t 2 (.t 3 (.t 8 (.t 9 (.t 10 .done))))) (.t 0 (.t 1 (.t 4 (.t 5 (.t 6 (.t 7 (.t 11 .done))))))) (.t 12 (.u 13 (.t 14 (.u 15 .done)))) (by kernel_rfl) (by kernel_rfl) (by kernel_rfl) (fun c a d v w h => by first | (cases d <;> exact h) | exact HKP.out c a d v w h) ?_
 haveI hne0 : Nonempty (In fun _ => True) := ⟨⟨w, trivial⟩⟩
 repeat (first | (refine plan_t (by rfl) ?_; (first | go_big_quiet_skip | (go_big_quiet_want; go_big_quiet_op; go_big_quiet_on)); refine wpQuiet_nil ?_))
 refine ⟨(fun y => y.rangeAt g (i * 2) [.int .u64 a, .int .u64 b] ∧ y.rangeAt g (j * 2) [.int .u64 c, .int .u64 d]), ⟨HA.out, HC.out⟩, ?_⟩
 haveI hne : Nonempty (In (fun y => y.rangeAt g (i * 2) [.int .u64 a, .int .u64 b] ∧ y.rangeAt g (j * 2) [.int .u64 c, .int .u64 d])) := ⟨⟨w, HA.out, HC.out⟩⟩
 have HTD : Hid (w.drew.there g 0 (n * 2)) := HT
 generalize hwd : w.drew = w1 at HTD ⊢
 have HWD := Qh hwd
 clear hwd
 repeat (first | (refine plan_t_load (by rfl) (by kernel_rfl) 71 _ rfl g (j * 2) rfl [.int .u64 c, .int .u64 d] _ (fun y hy => hy.2) Try.underlying71 rfl (by rfl) ?_; simp only [Act.put, List.setIfInBounds_toArray, List.set_cons_succ, List.set_cons_zero]) | (refine plan_t_load (by rfl) (by kernel_rfl) 71 _ rfl g (i * 2) rfl [.int .u64 a, .int .u64 b] _ (fun y hy => hy.1) Try.underlying71 rfl (by rfl) ?_; simp only [Act.put, List.setIfInBounds_toArray, List.set_cons_succ, List.set_cons_zero]) | (refine plan_t (by rfl) ?_; (first | go_big_quiet_skip | (go_big_quiet_want; go_big_quiet_op; go_big_quiet_on)); refine wpQuiet_nil ?_))
 clear hne
 refine ⟨fun _ => True, trivial, ?_⟩
 haveI hne : Nonempty (In fun _ => True) := ⟨⟨w1, trivial⟩⟩
 repeat (first | (refine plan_t (by rfl) ?_; (first | go_big_quiet_skip | (go_big_quiet_want; go_big_quiet_op; go_big_quiet_on)); refine wpQuiet_nil ?_))
 refine plan_us (by rfl) (by kernel_rfl) ?_
 intro K hK
 refine wp_store_mid 71 _ _ rfl g (i * 2) ([.int .u64 c, .int .u64 d] : List Value).toArray rfl rfl ?_ rfl (one2 _ _) ?_
 ·
  exact there_sub HTD.out (by simp only [List.size_toArray, List.length_cons, List.length_nil]; omega)
 refine hK _ _ ⟨trivial, ?_⟩
 clear hK K
 simp only [Act.put, List.setIfInBounds_toArray, List.set_cons_succ, List.set_cons_zero]
 have HTE : Hid ((w1.setCells g (i * 2) [.int .u64 c, .int .u64 d]).there g 0 (n * 2)) := Qh (World.there_setCells HTD.out _ _ _)
 change Plan.wp _ _ _ _ _ _ (w1.setCells g (i * 2) [.int .u64 c, .int .u64 d])
 generalize hwe : w1.setCells g (i * 2) [.int .u64 c, .int .u64 d] = w2 at HTE ⊢
 have HWE := Qh hwe
 clear hwe
 repeat (first | (refine plan_t (by rfl) ?_; (first | go_big_quiet_skip | (go_big_quiet_want; go_big_quiet_op; go_big_quiet_on)); refine wpQuiet_nil ?_))
 refine plan_us (by rfl) (by kernel_rfl) ?_
 intro K hK
 refine wp_store_mid 71 _ _ rfl g (j * 2) ([.int .u64 a, .int .u64 b] : List Value).toArray rfl rfl ?_ rfl (one2 _ _) ?_
 ·
  exact there_sub HTE.out (by simp only [List.size_toArray, List.length_cons, List.length_nil]; omega)
 refine hK _ _ ⟨trivial, ?_⟩
 clear hK K
 simp only [Act.put, List.setIfInBounds_toArray, List.set_cons_succ, List.set_cons_zero]
 clear hne
 show Q _ _ _
 exact HK.out _ _ _ _ _ _ _ _ _ _ _ _ _ _ _ (Qh (by rw [HWD.out, HWE.out]))
theorem reverse_any (w : World) (g n cp : Nat) (rs : List (Int × Int)) (hn : rs.length = n) (hr : ∀ t x, rs[t]? = some x → w.rangeAt g (t * 2) (rgK.enc x)) (ht : w.there g 0 (n * 2)) (hnm : n ≤ 1000) :
  Calls Try.prog 77 #[.slice (some ⟨g, 0, none⟩) n cp] w fun e w' => e = .returned (.tuple #[]) ∧ (∀ t x, rs.reverse[t]? = some x → w'.rangeAt g (t * 2) (rgK.enc x)) ∧ w'.there g 0 (n * 2) ∧ w.grownBy w' (some g) := by
 have HN := Qh hn
 have HR := Qh hr; have HT := Qh ht
 clear hn hr ht
 go_enter Try.func77, Try.ntmps77
 go_wp2_with fail
 go_loopw [2, 3] (fun s2 s3 wr => ∃ i : Nat, s2 = .int .i64 i ∧ s3 = .int .i64 ((n : Int) - 1 - i) ∧ 2 * i ≤ n ∧ Hid (∀ t x, mixR rs i t = some x → wr.rangeAt g (t * 2) (rgK.enc x)) ∧ Hid (wr.there g 0 (n * 2)) ∧ Hid (w.grownBy wr (some g))) (fun s2 s3 _ => (intOf s3 - intOf s2 + 1).toNat)
 case atStart =>
  exact ⟨0, rfl, by simp, by omega, Qh (fun t x hx => HR.out t x (mixR_zero hx)), HT, Qh (grown_refl _ _)⟩
 case round =>
  obtain ⟨i, rfl, rfl, hi, HX, HT1, HG⟩ := hrel
  by_cases hlt : i < n - 1 - i
  ·
   obtain ⟨j, hj⟩ : ∃ j : Nat, j + i + 1 = n := ⟨n - 1 - i, by omega⟩
   have hij : i < j := by omega
   have hjn : j < n := by omega
   obtain ⟨i2, hi2⟩ : ∃ i2 : Int, (n : Int) - 1 - i = i2 := ⟨_, rfl⟩
   have hi3 : i2 = (j : Int) := by omega
   rw [hi2, hi3]
   clear hi2 hi3 i2
   have HJ := Qh hj
   have hm1 : mixR rs i i = some (rs[i]'(by rw [HN.out]; omega)) := by unfold mixR; rw [if_neg (by rw [HN.out]; omega)]; exact List.getElem?_eq_getElem _
   have hm2 : mixR rs i j = some (rs[j]'(by rw [HN.out]; omega)) := by unfold mixR; rw [if_neg (by rw [HN.out]; omega)]; exact List.getElem?_eq_getElem _
   obtain ⟨⟨a, b⟩, hab⟩ : ∃ x, rs[i]'(by rw [HN.out]; omega) = x := ⟨_, rfl⟩
   obtain ⟨⟨c, d⟩, hcd⟩ : ∃ x, rs[j]'(by rw [HN.out]; omega) = x := ⟨_, rfl⟩
   rw [hab] at hm1; rw [hcd] at hm2
   have hri : rs[i]? = some (a, b) := by rw [← hab]; exact List.getElem?_eq_getElem _
   have hrj : rs[j]? = some (c, d) := by rw [← hcd]; exact List.getElem?_eq_getElem _
   have HI := Qh hri; have HJ2 := Qh hrj
   have HA : Hid (wr.rangeAt g (i * 2) [.int .u64 a, .int .u64 b]) := Qh (HX.out i (a, b) hm1)
   have HC : Hid (wr.rangeAt g (j * 2) [.int .u64 c, .int .u64 d]) := Qh (HX.out j (c, d) hm2)
   have hin : i < n := by omega
   have hd : decide ((i : Int) < (j : Int)) = true := by simpa using hij
   have HIJ := Qh hij
   clear hj hm1 hm2 hab hcd hri hrj
   go_upto_region 3 with fail
   refine rev_swap _ HA HC HT1 hin hjn hnm (fun c a d v w h => by cases d <;> exact h) ?_
   rintro _ _ _ _ _ _ _ _ _ _ _ _ _ _ w9 HW9
   have HTD : Hid (wr.drew.there g 0 (n * 2)) := Qh (there_drew HT1.out)
   have HXD : Hid (∀ t x, mixR rs i t = some x → wr.drew.rangeAt g (t * 2) (rgK.enc x)) := Qh (fun t x hx => range_drew (HX.out t x hx))
   have HGD : Hid (w.grownBy wr.drew (some g)) := Qh (grown_trans HG.out (grown_drew wr _))
   generalize wr.drew = wd at HW9 HTD HXD HGD
   have HT9 : Hid (w9.there g 0 (n * 2)) := Qh (by rw [HW9.out]; exact World.there_setCells (World.there_setCells HTD.out _ _ _) _ _ _)
   have HG9 : Hid (w.grownBy w9 (some g)) := Qh (by rw [HW9.out]; exact grown_trans HGD.out (grown_trans (grown_setCells _ _ _ _) (grown_setCells _ _ _ _)))
   have HX9 : Hid (∀ t x, mixR rs (i + 1) t = some x → w9.rangeAt g (t * 2) (rgK.enc x)) := Qh (fun t x hx => by
    have hj := HJ.out; have hij := HIJ.out
    rw [mixR_step (by rw [HN.out]; exact hj) hij] at hx
    rw [HW9.out]
    split at hx
    ·
     next h9 =>
     subst h9
     rw [HJ2.out] at hx; injection hx with hx; subst hx
     exact World.rangeAt_setCells_apart (World.rangeAt_setCells_same _ _ _ _ (there_sub HTD.out (by simp only [List.length_cons, List.length_nil]; omega))) _ _ _ (.inr (.inl (by simp only [rgK, List.length_cons, List.length_nil]; omega)))
    ·
     split at hx
     ·
      next h9 =>
      subst h9
      rw [HI.out] at hx; injection hx with hx; subst hx
      exact World.rangeAt_setCells_same _ _ _ _ (there_sub (World.there_setCells HTD.out _ _ _) (by simp only [List.length_cons, List.length_nil]; omega))
     ·
      next h8 h9 =>
      refine World.rangeAt_setCells_apart (World.rangeAt_setCells_apart (HXD.out t x hx) _ _ _ ?_) _ _ _ ?_
      ·
       have hl : (rgK.enc x).length = 2 := rfl
       rw [hl]; simp only [List.length_cons, List.length_nil]; omega
      ·
       have hl : (rgK.enc x).length = 2 := rfl
       rw [hl]; simp only [List.length_cons, List.length_nil]; omega)
   clear HW9 HA HC HX HT1 HG hd hij HTD HXD HGD
   go_wp2_with fail
   go_roundw
   case rel => exact ⟨i + 1, by go_num, by rw [show (n : Int) - 1 - ((i + 1 : Nat) : Int) = (j : Int) - 1 by have := HJ.out; omega], by have := HJ.out; have := HIJ.out; omega, HX9, HT9, HG9⟩
   case measure => have := HJ.out; have := HIJ.out; simp [intOf]; omega
  ·
   have hd : decide ((i : Int) < (n : Int) - 1 - i) = false := by simp; omega
   have HX9 : Hid (∀ t x, rs.reverse[t]? = some x → wr.rangeAt g (t * 2) (rgK.enc x)) := Qh (fun t x hx => HX.out t x (by
    have htl : t < rs.length := by
     have := (List.getElem?_eq_some_iff.1 hx).1
     rwa [List.length_reverse] at this
    rw [mixR_end (by rw [HN.out]; omega) t htl]; exact hx))
   clear HX
   go_wp2_with fail
   (try simp only [Exit.inBlock, Exit.then])
   refine bodyPost_end (results_none rfl _ _ _) rfl ?_
   exact ⟨rfl, HX9.out, HT1.out, HG.out⟩
end Go.Proofs.Ytmbjepcbokbemaa
namespace Go.Proofs.Ytmbjepcbokbemaa
open Go.RowKit
theorem acks_zero {hi : Int} {acc : List (Int × Int)} {b : List Int} {d : Bool} {sz : Int} {b1 : List Int} {d1 : Bool} (h : varM b d = (sz, b1, d1)) : acksR 0 hi acc b d = if hi < sz then (none, b1, d1) else (some ((hi - sz, hi + 1) :: acc), b1, d1) := by
 unfold acksR bnd
 rw [h]
 simp only
 split <;> rfl
theorem acks_succ {n : Nat} {hi : Int} {acc : List (Int × Int)} {b : List Int} {d : Bool} {sz : Int} {b1 : List Int} {d1 : Bool} {gap : Int} {b2 : List Int} {d2 : Bool} (h : varM b d = (sz, b1, d1)) (h2 : varM b1 d1 = (gap, b2, d2)) :
  acksR (n + 1) hi acc b d = if hi < sz then (none, b1, d1) else if hi - sz < gap + 2 then (none, b2, d2) else acksR n (hi - sz - gap - 2) ((hi - sz, hi + 1) :: acc) b2 d2 := by
 rw [show acksR (n + 1) hi acc b d = bnd varM (fun size => if hi < size then ret none else bnd varM fun gap => if hi - size < gap + 2 then ret none else acksR n (hi - size - gap - 2) ((hi - size, hi + 1) :: acc)) b d from rfl]
 simp only [bnd, h]
 by_cases h9 : hi < sz
 ·
  rw [if_pos h9, if_pos h9]; rfl
 ·
  rw [if_neg h9, if_neg h9]
  show (if hi - sz < (varM b1 d1).1 + 2 then ret none else acksR n (hi - sz - (varM b1 d1).1 - 2) ((hi - sz, hi + 1) :: acc)) (varM b1 d1).2.1 (varM b1 d1).2.2 = _
  rw [h2]
  simp only
  by_cases h8 : hi - sz < gap + 2
  ·
   rw [if_pos h8, if_pos h8]; rfl
  ·
   rw [if_neg h8, if_neg h8]
theorem acks_low {n : Nat} {hi : Int} {acc : List (Int × Int)} {b : List Int} {d : Bool} {sz : Int} {b1 : List Int} {d1 : Bool} (h : varM b d = (sz, b1, d1)) (hl : hi < sz) : acksR n hi acc b d = (none, b1, d1) := by
 cases n with
 | zero => rw [acks_zero h, if_pos hl]
 | succ n => obtain ⟨⟨g, b2, d2⟩, h2⟩ : ∃ r, varM b1 d1 = r := ⟨_, rfl⟩; rw [acks_succ h h2, if_pos hl]
theorem RK.At.of_ranges {w : World} {g n : Nat} {l : List (Int × Int)} (hn : n = l.length) (ho : ∀ x ∈ l, rgK.ok x) (hg : g < w.heap.size) (h : ∀ t x, l[t]? = some x → w.rangeAt g (t * 2) (rgK.enc x)) : rgK.At w (some ⟨g, 0, none⟩) n l := by
 refine ⟨hn, ho, .inr ⟨g, 0, rfl, hg, fun j u hu => ?_⟩⟩
 have hlen : (rgK.flat l).length = l.length * 2 := rgK.flat_len l ho
 have hj : j < l.length * 2 := by rw [← hlen]; exact (List.getElem?_eq_some_iff.1 hu).1
 have hx : l[j / 2]? = some (l[j / 2]'(by omega)) := List.getElem?_eq_getElem (by omega)
 have hlt : j % 2 < (rgK.enc (l[j / 2]'(by omega))).length := by show j % 2 < 2; omega
 have h1 := rgK.flat_at l ho (j / 2) (j % 2) _ _ hx (List.getElem?_eq_getElem hlt)
 have e : j / 2 * rgK.N + j % 2 = j := by show j / 2 * 2 + j % 2 = j; omega
 rw [e, hu] at h1
 have h2 := h (j / 2) _ hx (j % 2) _ (List.getElem?_eq_getElem hlt)
 rw [← h1, show j / 2 * 2 + j % 2 = 0 + j by omega] at h2
 exact h2
def ackF (de : Int) (rg : List (Int × Int)) : Fr := { zeroF 2 with rg := rg, de := de }
theorem FrAt.acks {w : World} {B n : Nat} {de : Int} {v : Value} {rg : List (Int × Int)} (hd : U64 de) (ho : w.ownsRow B 71 2 v n (rgK.flat rg)) (hw : ∀ x ∈ rg, rgK.ok x) : FrAt w (ackF de rg) (.slice none 0 0) v := by
 have hz := zero_wf 2 (by omega)
 obtain ⟨a, c, rfl, h1, h2⟩ := sl_own ho
 exact ⟨⟨hz.kind, hz.st, hz.of_, hz.li, hz.co, hz.fi, hz.se, hd, hz.cidl, hz.cid⟩, ⟨none, 0, 0, rfl, Nat.le_refl _, by omega, IntsK.nil _ _ _⟩, ⟨a, n, c, rfl, h1, h2, RK.At.of_own (K := rgK) ho hw⟩⟩
theorem FrAt.ackR {w : World} {n c : Nat} {de : Int} {a : Option Addr} {rg : List (Int × Int)} (hd : U64 de) (hc : n ≤ c ∧ c ≤ 9223372036854775807) (hr : rgK.At w a n rg) : FrAt w (ackF de rg) (.slice none 0 0) (.slice a n c) := by
 have hz := zero_wf 2 (by omega)
 exact ⟨⟨hz.kind, hz.st, hz.of_, hz.li, hz.co, hz.fi, hz.se, hd, hz.cidl, hz.cid⟩, ⟨none, 0, 0, rfl, Nat.le_refl _, by omega, IntsK.nil _ _ _⟩, ⟨a, n, c, rfl, hc.1, hc.2, hr⟩⟩
theorem own_away {w w' : World} {B e s n g : Nat} {v : Value} {xs : List Value} (h : w.ownsRow B e s v n xs) (hg : w.grownBy w' (some g)) (hlt : g < B) : w'.ownsRow B e s v n xs :=
 own_ch h (fun k hk hl => hg.block k hl (by intro e; injection e with e; have := own_base h k hk; omega))
theorem takeack_any (W0 w : World) (L p gf : Nat) (bs : List Int) (bad : Bool) (h : Rd W0 w L p 97 bs bad) (hF : w.heap[gf]? = some (.cells ((zeroF 2).cells (.slice none 0 0) (.slice none 0 0)).toArray 39 (0, 0))) (hgp : gf ≠ p) (hgW : W0.heap.size ≤ gf) :
  Calls Try.prog 64 #[.pointer (some ⟨p, 0, none⟩), .pointer (some ⟨gf, 0, none⟩)] w (TakeR W0 w L p gf (takeR 2 bs bad)) := by
 obtain ⟨⟨x1, b1, d1⟩, hx1⟩ : ∃ r, varM bs bad = r := ⟨_, rfl⟩
 obtain ⟨⟨x2, b2, d2⟩, hx2⟩ : ∃ r, varM b1 d1 = r := ⟨_, rfl⟩
 obtain ⟨⟨x3, b3, d3⟩, hx3⟩ : ∃ r, varM b2 d2 = r := ⟨_, rfl⟩
 have hq : takeR 2 bs bad = if 16 ≤ x3 then (none, b3, d3) else ((acksR x3.toNat x1 [] b3 d3).1.map (ackF x2), (acksR x3.toNat x1 [] b3 d3).2) := by
  simp only [takeR, bnd, if_true, hx1, hx2, hx3]
  split <;> rfl
 obtain ⟨q, hqq⟩ : ∃ q, takeR 2 bs bad = q := ⟨_, rfl⟩
 rw [hqq] at hq ⊢
 have HQ := Qh hq
 have HPL : Hid (p < w.heap.size) := Qh h.lt
 have HGL : Hid (gf < w.heap.size) := Qh (lt_of_block hF)
 have HR := Qh h; have HF := Qh hF
 have HC := Qh (Ch.refl w p (some gf))
 have HX1 := Qh hx1; have HX2 := Qh hx2; have HX3 := Qh hx3
 clear h hF hx1 hx2 hx3 hq hqq
 go_enter Try.func64, Try.ntmps64
 have hb := var_any W0 w L p bs bad HR.out
 rw [HX1.out] at hb
 have hu := varM_in bs bad HR.out.bytes
 rw [HX1.out] at hu
 simp only at hu
 have HU1 := Qh hu
 have HCL := Qh hb
 clear hb hu
 go_wp2_with fail
 refine Calls.mono HCL.out ?_
 rintro e w1 ⟨rfl, hR, hg⟩
 replace HR := Qh hR
 replace HF := Qh (grown_row hg (by intro e; injection e with e; exact hgp e) HF.out)
 replace HC := Qh (HC.out.byP hg)
 clear hR hg HCL
 have hb := var_any W0 w1 L p b1 d1 HR.out
 rw [HX2.out] at hb
 have hu := varM_in b1 d1 HR.out.bytes
 rw [HX2.out] at hu
 simp only at hu
 have HU2 := Qh hu
 have HCL := Qh hb
 clear hb hu
 go_wp2_with fail
 refine Calls.mono HCL.out ?_
 rintro e w2 ⟨rfl, hR, hg⟩
 replace HR := Qh hR
 replace HF := Qh (grown_row hg (by intro e; injection e with e; exact hgp e) HF.out)
 replace HC := Qh (HC.out.byP hg)
 clear hR hg HCL
 have c9 := row_cell HF.out 9 _ rfl
 have f9 := row_free HF.out 9
 go_upto_region 3 with fail
 have hat := ((At.base HF.out).set 9 (.int .u64 x2)).conv (cs' := ((ackF x2 []).cells (.slice none 0 0) (.slice none 0 0)).toArray) (by rfl)
 have HAT := Qh hat
 clear hat c9 f9
 replace HR := Qh (HR.out.grownG HAT.out.rest hgp hgW)
 replace HC := Qh (HC.out.byQ HAT.out.rest)
 replace HF := Qh HAT.out.row
 clear HAT
 generalize w2.setCell ⟨gf, 9, none⟩ (.int .u64 x2) = v2 at HR HC HF ⊢
 have hb := var_any W0 v2 L p b2 d2 HR.out
 rw [HX3.out] at hb
 have hu := varM_in b2 d2 HR.out.bytes
 rw [HX3.out] at hu
 simp only at hu
 have HU3 := Qh hu
 have HCL := Qh hb
 clear hb hu
 go_wp2_with fail
 refine Calls.mono HCL.out ?_
 rintro e w3 ⟨rfl, hR, hg⟩
 replace HR := Qh hR
 replace HF := Qh (grown_row hg (by intro e; injection e with e; exact hgp e) HF.out)
 replace HC := Qh (HC.out.byP hg)
 clear hR hg HCL
 obtain ⟨u31, u32⟩ := HU3.out
 obtain ⟨u11, u12⟩ := HU1.out
 have HO0 : Hid (w3.ownsRow w.heap.size 71 2 (.slice none 0 0) 0 (rgK.flat ([] : List (Int × Int)))) := Qh (World.ownsRow_nil _ _ _ _)
 by_cases h16 : 16 ≤ x3
 ·
  rw [if_pos h16] at HQ
  go_wp2_with fail
  go_ret
  rw [HQ.out]
  exact ⟨rfl, ackF x2 [], (.slice none 0 0), (.slice none 0 0), fun F' h9 => (by cases h9), HR.out, HF.out, FrAt.acks (u64_of HU2.out) HO0.out (fun x hx => by cases hx), HC.out, FrLo.nil _⟩
 ·
  rw [if_neg h16] at HQ
  obtain ⟨N, hN⟩ : ∃ N : Nat, x3 = N := ⟨x3.toNat, by omega⟩
  subst hN
  rw [Int.toNat_natCast] at HQ
  obtain ⟨⟨qo, qb, qd⟩, hqq⟩ : ∃ q, acksR N x1 [] b3 d3 = q := ⟨_, rfl⟩
  rw [hqq] at HQ
  simp only at HQ
  have HACK := Qh hqq
  have hN16 : N < 16 := by omega
  clear hqq h16 HU3 HX1 HX2 HX3
  have HBS : Hid (w.heap.size ≤ w3.heap.size) := Qh HC.out.size
  go_wp2_with fail
  go_loopw [5, 7] (fun s5 s7 wr => ∃ (i : Nat) (hi : Int) (acc : List (Int × Int)) (b : List Int) (d : Bool) (v : Value), s5 = .int .u64 hi ∧ s7 = .int .u64 i ∧ (i ≤ N ∧ 0 ≤ hi ∧ hi ≤ 4611686018427387903) ∧ Hid (Rd W0 wr L p 97 b d) ∧ Hid (wr.heap[gf]? = some (.cells ((ackF x2 []).cells (.slice none 0 0) v).toArray 39 (0, 0))) ∧ Hid (wr.ownsRow w.heap.size 71 2 v i (rgK.flat acc.reverse)) ∧ Hid (acc.length = i ∧ ∀ x ∈ acc, rgK.ok x) ∧ Hid (Ch w wr p (some gf)) ∧ Hid (acksR (N - i) hi acc b d = (qo, qb, qd))) (fun s5 s7 _ => 16 - (intOf s7).toNat)
  case atStart => exact ⟨0, x1, [], b3, d3, (.slice none 0 0), rfl, rfl, ⟨by omega, by omega, by omega⟩, HR, HF, HO0, Qh ⟨rfl, fun x hx => by cases hx⟩, HC, HACK⟩
  case round =>
   clear HR HF HO0 HC HACK HBS u11 u12 HU1
   obtain ⟨i, hi, acc, b, d, v, rfl, rfl, ⟨hi1, hi2, hi3⟩, HR, HF, HO, HA, HC, HACK⟩ := hrel
   obtain ⟨⟨sz, b4, d4⟩, hx4⟩ : ∃ r, varM b d = r := ⟨_, rfl⟩
   have HX4 := Qh hx4
   clear hx4
   have hb := var_any W0 wr L p b d HR.out
   rw [HX4.out] at hb
   have hu := varM_in b d HR.out.bytes
   rw [HX4.out] at hu
   simp only at hu
   have HU4 := Qh hu
   have HCL := Qh hb
   clear hb hu
   go_wp2_with fail
   refine Calls.mono HCL.out ?_
   rintro e w4 ⟨rfl, hR, hg⟩
   replace HR := Qh hR
   replace HF := Qh (grown_row hg (by intro e; injection e with e; exact hgp e) HF.out)
   replace HC := Qh (HC.out.byP hg); replace HO := Qh (own_away HO.out hg HPL.out)
   clear hR hg HCL
   obtain ⟨u41, u42⟩ := HU4.out
   by_cases hlo : hi < sz
   ·
    have hq := HACK.out
    rw [acks_low HX4.out hlo] at hq
    injection hq with q1 q2; injection q2 with q2 q3; subst q1; subst q2; subst q3
    clear HACK
    go_wp2_with fail
    (try simp only [Exit.inBlock, Exit.then])
    go_ret
    exact ⟨by rw [HQ.out]; rfl, ackF x2 acc.reverse, (.slice none 0 0), v, fun F' h9 => (by rw [HQ.out] at h9; cases h9), by rw [HQ.out]; exact HR.out, HF.out, FrAt.acks (u64_of HU2.out) HO.out (fun x hx => HA.out.2 x (List.mem_reverse.1 hx)), HC.out, FrLo.own HO.out⟩
   ·
    have HLO := Qh hlo
    have hok : rgK.ok (hi - sz, hi + 1) := ⟨⟨by simp only; omega, by simp only; omega⟩, ⟨by simp only; omega, by simp only; omega⟩⟩
    have HOK := Qh hok
    have hal := (Below.refl w4.heap.size w4).alloc (Nat.le_refl _) (.cells (rgK.flat [(hi - sz, hi + 1)]).toArray 71)
    have HE : Hid (rgK.At (w4.alloc (.cells (rgK.flat [(hi - sz, hi + 1)]).toArray 71)) (some ⟨w4.heap.size, 0, none⟩) 1 [(hi - sz, hi + 1)]) := Qh (RK.At.of_row (K := rgK) (l := [(hi - sz, hi + 1)]) (heap_alloc_new w4 _) (fun y hy => by rw [List.mem_singleton.1 hy]; exact hok))
    have HOA : Hid ((w4.alloc (.cells (rgK.flat [(hi - sz, hi + 1)]).toArray 71)).ownsRow w.heap.size 71 2 v i (rgK.flat acc.reverse)) := Qh (own_below HO.out hal)
    have HFA : Hid ((w4.alloc (.cells (rgK.flat [(hi - sz, hi + 1)]).toArray 71)).heap[gf]? = some (.cells ((ackF x2 []).cells (.slice none 0 0) v).toArray 39 (0, 0))) := Qh (bl_row hal (lt_of_block HF.out) HF.out)
    have HBA : Hid (w.heap.size ≤ (w4.alloc (.cells (rgK.flat [(hi - sz, hi + 1)]).toArray 71)).heap.size) := Qh (Nat.le_trans HC.out.size hal.size)
    have HRA : Hid (Rd W0 (w4.alloc (.cells (rgK.flat [(hi - sz, hi + 1)]).toArray 71)) L p 97 b4 d4) := Qh (HR.out.to hal)
    have HCA : Hid (Ch w (w4.alloc (.cells (rgK.flat [(hi - sz, hi + 1)]).toArray 71)) p (some gf)) := Qh (HC.out.to hal)
    have hi17 : i + 1 ≤ 1000000 := by omega
    have c10 := row_cell HF.out 10 v rfl
    clear hal hok
    go_upto_region 12 with (first | (refine wpList_build_rk rgT rfl _ rfl (hi - sz, hi + 1) HOK.out rfl ?_) | (at_builtin; refine wpList_append_rk rgT rfl _ _ rfl w.heap.size i v acc.reverse rfl HOA.out (some ⟨w4.heap.size, 0, none⟩) 1 1 [(hi - sz, hi + 1)] rfl HE.out hi17 HBA.out ?_; intro v' w5 ho hg hor; obtain ⟨a5, c5, rfl, hc5⟩ := sl_own ho; have HO5 := Qh ho; have HG5 := Qh hg; have HF5 := Qh (grown_row hg (by intro e; have h8 := own_base HOA.out gf e.symm; have := HGL.out; omega) HFA.out); clear c10; have c10 := row_cell HF5.out 10 v rfl; have f10 := row_free HF5.out 10; clear ho hg hor hc5) | fail)
    obtain ⟨v', hv'⟩ : ∃ v', Value.slice a5 (i + 1) c5 = v' := ⟨_, rfl⟩
    rw [hv'] at HO5 ⊢
    clear hv'
    have hat := ((At.base HF5.out).set 10 v').conv (cs' := ((ackF x2 []).cells (.slice none 0 0) v').toArray) (by rfl)
    have HAT := Qh hat
    clear hat c10 f10
    have HR5 : Hid (Rd W0 w5 L p 97 b4 d4) := Qh (HRA.out.ch (fun j h1 h2 => HG5.out.block j (by have := HRA.out.size; omega) (by intro e; have h8 := own_base HOA.out j e.symm; have := HRA.out.lo; have := HPL.out; omega)) (HG5.out.block p HRA.out.lt (by intro e; have h8 := own_base HOA.out p e.symm; have := HPL.out; omega)))
    have HC5 : Hid (Ch w w5 p (some gf)) := Qh ⟨HG5.out.os.trans HCA.out.os, HG5.out.tape.trans HCA.out.tape, HG5.out.output.trans HCA.out.output, Nat.le_trans HCA.out.size HG5.out.size, fun j h1 h2 h3 => (HG5.out.block j (Nat.lt_of_lt_of_le h1 HCA.out.size) (by intro e; have h8 := own_base HOA.out j e.symm; omega)).trans (HCA.out.block j h1 h2 h3)⟩
    replace HR := Qh (HR5.out.grownG HAT.out.rest hgp hgW)
    replace HC := Qh (HC5.out.byQ HAT.out.rest)
    replace HF := Qh HAT.out.row
    replace HO := Qh (own_away HO5.out HAT.out.rest HGL.out)
    clear HAT HR5 HC5 HF5 HO5 HG5 HRA HCA HBA HFA HOA HE
    generalize w5.setCell ⟨gf, 10, none⟩ v' = w6 at HR HC HF HO ⊢
    have HA9 : Hid (((hi - sz, hi + 1) :: acc).length = i + 1 ∧ ∀ x ∈ (hi - sz, hi + 1) :: acc, rgK.ok x) := Qh ⟨by rw [List.length_cons, HA.out.1], fun x hx => by rcases List.mem_cons.1 hx with rfl | hx; exact HOK.out; exact HA.out.2 x hx⟩
    have HO9 : Hid (w6.ownsRow w.heap.size 71 2 v' (i + 1) (rgK.flat ((hi - sz, hi + 1) :: acc).reverse)) := Qh (by rw [List.reverse_cons]; exact HO.out)
    clear HO HA HOK
    by_cases hin : i = N
    ·
     subst hin
     have hq := HACK.out
     rw [Nat.sub_self, acks_zero HX4.out, if_neg (by have := HLO.out; omega)] at hq
     injection hq with q1 q2; injection q2 with q2 q3; subst q1; subst q2; subst q3
     clear HACK
     obtain ⟨rg9, hrg9⟩ : ∃ l, (hi - sz, hi + 1) :: acc = l := ⟨_, rfl⟩
     rw [hrg9] at HQ HA9 HO9
     clear hrg9
     obtain ⟨a, c, rfl, hc1, hc2⟩ := sl_own HO9.out
     have hat := RK.At.of_own (K := rgK) HO9.out (fun x hx => HA9.out.2 x (List.mem_reverse.1 hx))
     obtain ⟨ga, go, y9, hy9, rfl⟩ : ∃ ga go, ∃ y : Int × Int, rg9.reverse[0]? = some y ∧ a = some ⟨ga, go, none⟩ := by
      obtain ⟨b, off, x, e, _, hx, _, _⟩ := hat.at (j := 0) (by omega)
      exact ⟨b, off, x, hx, e⟩
     obtain ⟨cur, cap, hrow, hgo⟩ : ∃ cur : Array Value, ∃ cap, w6.heap[ga]? = some (.cells cur 71 (0, 0)) ∧ go = 0 ∧ cur.size = cap * 2 ∧ i + 1 ≤ cap := by
      rcases HO9.out.2 with ⟨_, h0⟩ | ⟨g, cap, cur, e1, hg, hrow, hn, hc, hsz, htk⟩
      ·
       omega
      ·
       injection e1 with e1 e2 e3; injection e1 with e1; injection e1 with e1 e4; subst e1; exact ⟨cur, cap, hrow, e4, hsz, by omega⟩
     obtain ⟨hgo, hsz, hcp⟩ := hgo
     subst hgo
     have hrr : ∀ t x, rg9.reverse[t]? = some x → w6.rangeAt ga (t * 2) (rgK.enc x) := fun t x hx => by
      have ht : t < i + 1 := by have := (List.getElem?_eq_some_iff.1 hx).1; rw [List.length_reverse, HA9.out.1] at this; exact this
      obtain ⟨b, off, x', e, _, hx', _, hr9⟩ := hat.at (j := t) ht
      injection e with e; injection e with e1 e2; subst e1; subst e2
      rw [hx] at hx'; injection hx' with hx'; subst hx'; rw [Nat.zero_add] at hr9; exact hr9
     have hth : w6.there ga 0 ((i + 1) * 2) := fun j hj => by
      have hj2 : j < cur.size := by omega
      rw [Nat.zero_add, row_cell hrow j cur[j] (by simp [hj2]), row_free hrow j]
      exact ⟨rfl, rfl⟩
     have HREV := Qh (reverse_any w6 ga (i + 1) c rg9.reverse (by rw [List.length_reverse, HA9.out.1]) hrr hth (by omega))
     have hgaB := own_base HO9.out ga rfl
     have HGB := Qh hgaB
     have HGA := Qh (lt_of_block hrow)
     clear hat hrr hth hrow hsz hcp hgaB hy9
     have c10 := row_cell HF.out 10 (.slice (some ⟨ga, 0, none⟩) (i + 1) c) rfl
     go_wp2_with fail
     refine Calls.mono HREV.out ?_
     rintro e w7 ⟨rfl, hr7, ht7, hg7⟩
     have HAT7 : Hid (rgK.At w7 (some ⟨ga, 0, none⟩) (i + 1) rg9) := Qh (RK.At.of_ranges HA9.out.1.symm HA9.out.2 (Nat.lt_of_lt_of_le HGA.out hg7.size) (fun t x hx => hr7 t x (by rw [List.reverse_reverse]; exact hx)))
     have HR7 : Hid (Rd W0 w7 L p 97 b4 d4) := Qh (HR.out.ch (fun j h1 h2 => hg7.block j (by have := HR.out.size; omega) (by intro e; injection e with e; have := HGB.out; have := HR.out.lo; have := HPL.out; omega)) (hg7.block p HR.out.lt (by intro e; injection e with e; have := HGB.out; have := HPL.out; omega)))
     have HF7 := Qh (grown_row hg7 (by intro e; injection e with e; have := HGB.out; have := HGL.out; omega) HF.out)
     have HC7 : Hid (Ch w w7 p (some gf)) := Qh ⟨hg7.os.trans HC.out.os, hg7.tape.trans HC.out.tape, hg7.output.trans HC.out.output, Nat.le_trans HC.out.size hg7.size, fun j h1 h2 h3 => (hg7.block j (Nat.lt_of_lt_of_le h1 HC.out.size) (by intro e; injection e with e; have := HGB.out; omega)).trans (HC.out.block j h1 h2 h3)⟩
     clear hr7 ht7 hg7 HR HF HC HREV c10
     go_wp2_with fail
     (try simp only [Exit.inBlock, Exit.then])
     go_ret
     rw [HQ.out]
     exact ⟨rfl, ackF x2 rg9, (.slice none 0 0), .slice (some ⟨ga, 0, none⟩) (i + 1) c, fun F' h9 => (Option.some.inj h9).symm, HR7.out, HF7.out, FrAt.ackR (u64_of HU2.out) ⟨hc1, hc2⟩ HAT7.out, HC7.out, FrLo.own HO9.out⟩
    ·
     have hin9 : ((i : Int) == (N : Int)) = false := by simp; omega
     obtain ⟨⟨gap, b5, d5⟩, hx5⟩ : ∃ r, varM b4 d4 = r := ⟨_, rfl⟩
     have HX5 := Qh hx5
     obtain ⟨m, hm⟩ : ∃ m, N - i = m + 1 := ⟨N - i - 1, by omega⟩
     have hq := HACK.out
     rw [hm, acks_succ HX4.out hx5, if_neg (by have := HLO.out; omega)] at hq
     have HQ5 := Qh hq
     have HM : Hid (N - (i + 1) = m) := Qh (by omega)
     have hiN : i < N := by omega
     have HIN := Qh hin
     clear hx5 hm hq HACK hin
     have hb := var_any W0 w6 L p b4 d4 HR.out
     rw [HX5.out] at hb
     have hu := varM_in b4 d4 HR.out.bytes
     rw [HX5.out] at hu
     simp only at hu
     have HU5 := Qh hu
     have HCL := Qh hb
     clear hb hu
     go_wp2_with fail
     refine Calls.mono HCL.out ?_
     rintro e w7 ⟨rfl, hR, hg⟩
     replace HR := Qh hR
     replace HF := Qh (grown_row hg (by intro e; injection e with e; exact hgp e) HF.out)
     replace HC := Qh (HC.out.byP hg); replace HO9 := Qh (own_away HO9.out hg HPL.out)
     clear hR hg HCL
     obtain ⟨u51, u52⟩ := HU5.out
     by_cases hgp5 : hi - sz < gap + 2
     ·
      have hq := HQ5.out
      rw [if_pos hgp5] at hq
      injection hq with q1 q2; injection q2 with q2 q3; subst q1; subst q2; subst q3
      clear HQ5
      go_wp2_with fail
      (try simp only [Exit.inBlock, Exit.then])
      go_ret
      exact ⟨by rw [HQ.out]; rfl, ackF x2 ((hi - sz, hi + 1) :: acc).reverse, (.slice none 0 0), v', fun F' h9 => (by rw [HQ.out] at h9; cases h9), by rw [HQ.out]; exact HR.out, HF.out, FrAt.acks (u64_of HU2.out) HO9.out (fun x hx => HA9.out.2 x (List.mem_reverse.1 hx)), HC.out, FrLo.own HO9.out⟩
     ·
      have hq := HQ5.out
      rw [if_neg hgp5] at hq
      have HN : Hid (acksR (N - (i + 1)) (hi - sz - gap - 2) ((hi - sz, hi + 1) :: acc) b5 d5 = (qo, qb, qd)) := Qh (by rw [HM.out]; exact hq)
      clear hq HQ5
      go_wp2_with fail
      go_roundw
      case rel => exact ⟨i + 1, hi - sz - gap - 2, (hi - sz, hi + 1) :: acc, b5, d5, v', by first | rfl | (congr 1; omega), by go_num, ⟨by omega, by omega, by omega⟩, HR, HF, HO9, HA9, HC, HN⟩
      case measure => simp [intOf]; omega
end Go.Proofs.Ytmbjepcbokbemaa
namespace Go.Proofs.Ytmbjepcbokbemaa
open Go.RowKit
theorem stream4_8 (W0 w : World) (L p gf : Nat) (bs : List Int) (bad : Bool) (h : Rd W0 w L p 97 bs bad) (hF : w.heap[gf]? = some (.cells ((zeroF 8).cells (.slice none 0 0) (.slice none 0 0)).toArray 39 (0, 0))) (hgp : gf ≠ p) (hgW : W0.heap.size ≤ gf) :
  Calls Try.prog 33 #[.pointer (some ⟨p, 0, none⟩), .pointer (some ⟨gf, 0, none⟩), .int .u64 8] w fun e w' => e = .returned (.tuple #[]) ∧ TakeU W0 w L p gf (streamR 8 bs bad) w' := by
 obtain ⟨⟨x1, b1, d1⟩, hx1⟩ : ∃ r, varM bs bad = r := ⟨_, rfl⟩
 obtain ⟨⟨x2, b2, d2⟩, hx2⟩ : ∃ r, restR b1 d1 = r := ⟨_, rfl⟩
 have hq : streamR 8 bs bad = (some ({ zeroF 8 with st := x1, data := x2 } : Fr), b2, d2) := by
  have e1 : (((8 : Int) % 8 / 4 = 1)) = False := by decide
  have e2 : (((8 : Int) % 4 / 2 = 1)) = False := by decide
  have e3 : decide ((8 : Int) % 2 = 1) = false := by decide
  simp only [streamR, bnd, e1, e2, e3, if_true, if_false, ret, hx1, hx2]
  try rfl
 rw [hq]
 clear hq
 have HX1 := Qh hx1
 have HX2 := Qh hx2
 have HR := Qh h; have HF := Qh hF; have HC := Qh (Ch.refl w p (some gf))
 clear h hF hx1 hx2
 have a1 : bits .and .u64 8 1 = 0 := by decide
 have a2 : bits .and .u64 8 2 = 0 := by decide
 have a4 : bits .and .u64 8 4 = 0 := by decide
 go_enter Try.func33, Try.ntmps33
 have c0 := row_cell HF.out 0 _ rfl
 have c4 := row_cell HF.out 4 _ rfl
 have f0 := row_free HF.out 0
 have f4 := row_free HF.out 4
 go_upto_region 1 with fail
 have hat := (((At.base HF.out).set 0 (.int .i64 8)).set 4 (.bool false)).conv (cs' := (({ zeroF 8 with fin := false } : Fr).cells (.slice none 0 0) (.slice none 0 0)).toArray) (by rfl)
 have HAT := Qh hat
 clear hat c0 f0 c4 f4
 replace HR := Qh (HR.out.grownG HAT.out.rest hgp hgW)
 replace HC := Qh (HC.out.byQ HAT.out.rest)
 replace HF := Qh HAT.out.row
 clear HAT
 generalize ((w.setCell ⟨gf, 0, none⟩ (.int .i64 8)).setCell ⟨gf, 4, none⟩ (.bool false)) = v0 at HR HC HF  ⊢
 have hb := var_any W0 v0 L p bs bad HR.out
 rw [HX1.out] at hb
 have hu := varM_in bs bad HR.out.bytes
 rw [HX1.out] at hu
 have HU1 := Qh (u64_of hu)
 have HCL := Qh hb
 clear hb hu
 go_wp2_with fail
 refine Calls.mono HCL.out ?_
 rintro e w1 ⟨rfl, hR, hg⟩
 replace HR := Qh hR
 replace HF := Qh (grown_row hg (by intro e; injection e with e; exact hgp e) HF.out)
 replace HC := Qh (HC.out.byP hg)
 clear hR hg HCL
 have c1 := row_cell HF.out 1 _ rfl
 have f1 := row_free HF.out 1
 go_upto_region 2 with fail
 have hat := ((At.base HF.out).set 1 (.int .u64 x1)).conv (cs' := (({ zeroF 8 with fin := false, st := x1 } : Fr).cells (.slice none 0 0) (.slice none 0 0)).toArray) (by rfl)
 have HAT := Qh hat
 clear hat c1 f1
 replace HR := Qh (HR.out.grownG HAT.out.rest hgp hgW)
 replace HC := Qh (HC.out.byQ HAT.out.rest)
 replace HF := Qh HAT.out.row
 clear HAT
 generalize (w1.setCell ⟨gf, 1, none⟩ (.int .u64 x1)) = v1 at HR HC HF  ⊢
 have hl := left_any W0 v1 L p b1 d1 HR.out
 have HLF := Qh hl
 clear hl
 go_wp2_with fail
 refine Calls.mono HLF.out ?_
 rintro e wq ⟨rfl, rfl⟩
 have hsm := HR.out.small
 have hb := rawc_any W0 _ L p b1 d1 b1.length (by omega) HR.out
 rw [show rdM b1 d1 (b1.length : Int) = (x2, b2, d2) from HX2.out] at hb
 have HCL := Qh hb
 clear hb hsm HLF
 go_wp2_with fail
 refine Calls.mono HCL.out ?_
 rintro e w9 ⟨da, dn, dc, rfl, hdc, hI, hR, hg, hlo⟩
 have HI := Qh hI; have HLO : Hid (∀ x, da = some x → some x.block ≠ some gf) := Qh (fun x hx e => by injection e with e; have := hlo x hx; have := lt_of_block HF.out; omega)
 have HDC := Qh hdc
 have HLB : Hid (∀ x, da = some x → w.heap.size ≤ x.block) := Qh (fun x hx => Nat.le_trans HC.out.size (hlo x hx))
 clear hI hlo hdc
 replace HR := Qh hR
 replace HF := Qh (grown_row hg (by intro e; injection e with e; exact hgp e) HF.out)
 replace HC := Qh (HC.out.byP hg)
 clear hR hg HCL
 have c3 := row_cell HF.out 3 _ rfl
 have f3 := row_free HF.out 3
 have hat := ((At.base HF.out).set 3 (.slice da dn dc)).conv (cs' := (({ zeroF 8 with st := x1, data := x2 } : Fr).cells (.slice da dn dc) (.slice none 0 0)).toArray) (by rfl)
 have HAT := Qh hat
 clear hat
 go_wp2_with fail
 (try simp only [Exit.inBlock, Exit.then])
 refine bodyPost_end (results_none rfl _ _ _) rfl ?_
 have hz := zero_wf 8 (by omega)
 have hwf : ({ zeroF 8 with st := x1, data := x2 } : Fr).Wf := ⟨hz.kind, HU1.out, hz.of_, hz.li, hz.co, hz.fi, hz.se, hz.de, hz.cidl, hz.cid⟩
 exact ⟨rfl, ({ zeroF 8 with st := x1, data := x2 } : Fr), (.slice da dn dc), (.slice none 0 0), fun F' h9 => (Option.some.inj h9).symm, HR.out.grownG HAT.out.rest hgp hgW, HAT.out.row, FrAt.text hwf HDC.out (HI.out.grown HAT.out.rest HLO.out) rfl, HC.out.byQ HAT.out.rest, FrLo.text HLB.out⟩
theorem stream4_9 (W0 w : World) (L p gf : Nat) (bs : List Int) (bad : Bool) (h : Rd W0 w L p 97 bs bad) (hF : w.heap[gf]? = some (.cells ((zeroF 9).cells (.slice none 0 0) (.slice none 0 0)).toArray 39 (0, 0))) (hgp : gf ≠ p) (hgW : W0.heap.size ≤ gf) :
  Calls Try.prog 33 #[.pointer (some ⟨p, 0, none⟩), .pointer (some ⟨gf, 0, none⟩), .int .u64 9] w fun e w' => e = .returned (.tuple #[]) ∧ TakeU W0 w L p gf (streamR 9 bs bad) w' := by
 obtain ⟨⟨x1, b1, d1⟩, hx1⟩ : ∃ r, varM bs bad = r := ⟨_, rfl⟩
 obtain ⟨⟨x2, b2, d2⟩, hx2⟩ : ∃ r, restR b1 d1 = r := ⟨_, rfl⟩
 have hq : streamR 9 bs bad = (some ({ zeroF 8 with st := x1, data := x2, fin := true } : Fr), b2, d2) := by
  have e1 : (((9 : Int) % 8 / 4 = 1)) = False := by decide
  have e2 : (((9 : Int) % 4 / 2 = 1)) = False := by decide
  have e3 : decide ((9 : Int) % 2 = 1) = true := by decide
  simp only [streamR, bnd, e1, e2, e3, if_true, if_false, ret, hx1, hx2]
  try rfl
 rw [hq]
 clear hq
 have HX1 := Qh hx1
 have HX2 := Qh hx2
 have HR := Qh h; have HF := Qh hF; have HC := Qh (Ch.refl w p (some gf))
 clear h hF hx1 hx2
 have a1 : bits .and .u64 9 1 = 1 := by decide
 have a2 : bits .and .u64 9 2 = 0 := by decide
 have a4 : bits .and .u64 9 4 = 0 := by decide
 go_enter Try.func33, Try.ntmps33
 have c0 := row_cell HF.out 0 _ rfl
 have c4 := row_cell HF.out 4 _ rfl
 have f0 := row_free HF.out 0
 have f4 := row_free HF.out 4
 go_upto_region 1 with fail
 have hat := (((At.base HF.out).set 0 (.int .i64 8)).set 4 (.bool true)).conv (cs' := (({ zeroF 8 with fin := true } : Fr).cells (.slice none 0 0) (.slice none 0 0)).toArray) (by rfl)
 have HAT := Qh hat
 clear hat c0 f0 c4 f4
 replace HR := Qh (HR.out.grownG HAT.out.rest hgp hgW)
 replace HC := Qh (HC.out.byQ HAT.out.rest)
 replace HF := Qh HAT.out.row
 clear HAT
 generalize ((w.setCell ⟨gf, 0, none⟩ (.int .i64 8)).setCell ⟨gf, 4, none⟩ (.bool true)) = v0 at HR HC HF  ⊢
 have hb := var_any W0 v0 L p bs bad HR.out
 rw [HX1.out] at hb
 have hu := varM_in bs bad HR.out.bytes
 rw [HX1.out] at hu
 have HU1 := Qh (u64_of hu)
 have HCL := Qh hb
 clear hb hu
 go_wp2_with fail
 refine Calls.mono HCL.out ?_
 rintro e w1 ⟨rfl, hR, hg⟩
 replace HR := Qh hR
 replace HF := Qh (grown_row hg (by intro e; injection e with e; exact hgp e) HF.out)
 replace HC := Qh (HC.out.byP hg)
 clear hR hg HCL
 have c1 := row_cell HF.out 1 _ rfl
 have f1 := row_free HF.out 1
 go_upto_region 2 with fail
 have hat := ((At.base HF.out).set 1 (.int .u64 x1)).conv (cs' := (({ zeroF 8 with fin := true, st := x1 } : Fr).cells (.slice none 0 0) (.slice none 0 0)).toArray) (by rfl)
 have HAT := Qh hat
 clear hat c1 f1
 replace HR := Qh (HR.out.grownG HAT.out.rest hgp hgW)
 replace HC := Qh (HC.out.byQ HAT.out.rest)
 replace HF := Qh HAT.out.row
 clear HAT
 generalize (w1.setCell ⟨gf, 1, none⟩ (.int .u64 x1)) = v1 at HR HC HF  ⊢
 have hl := left_any W0 v1 L p b1 d1 HR.out
 have HLF := Qh hl
 clear hl
 go_wp2_with fail
 refine Calls.mono HLF.out ?_
 rintro e wq ⟨rfl, rfl⟩
 have hsm := HR.out.small
 have hb := rawc_any W0 _ L p b1 d1 b1.length (by omega) HR.out
 rw [show rdM b1 d1 (b1.length : Int) = (x2, b2, d2) from HX2.out] at hb
 have HCL := Qh hb
 clear hb hsm HLF
 go_wp2_with fail
 refine Calls.mono HCL.out ?_
 rintro e w9 ⟨da, dn, dc, rfl, hdc, hI, hR, hg, hlo⟩
 have HI := Qh hI; have HLO : Hid (∀ x, da = some x → some x.block ≠ some gf) := Qh (fun x hx e => by injection e with e; have := hlo x hx; have := lt_of_block HF.out; omega)
 have HDC := Qh hdc
 have HLB : Hid (∀ x, da = some x → w.heap.size ≤ x.block) := Qh (fun x hx => Nat.le_trans HC.out.size (hlo x hx))
 clear hI hlo hdc
 replace HR := Qh hR
 replace HF := Qh (grown_row hg (by intro e; injection e with e; exact hgp e) HF.out)
 replace HC := Qh (HC.out.byP hg)
 clear hR hg HCL
 have c3 := row_cell HF.out 3 _ rfl
 have f3 := row_free HF.out 3
 have hat := ((At.base HF.out).set 3 (.slice da dn dc)).conv (cs' := (({ zeroF 8 with st := x1, data := x2, fin := true } : Fr).cells (.slice da dn dc) (.slice none 0 0)).toArray) (by rfl)
 have HAT := Qh hat
 clear hat
 go_wp2_with fail
 (try simp only [Exit.inBlock, Exit.then])
 refine bodyPost_end (results_none rfl _ _ _) rfl ?_
 have hz := zero_wf 8 (by omega)
 have hwf : ({ zeroF 8 with st := x1, data := x2, fin := true } : Fr).Wf := ⟨hz.kind, HU1.out, hz.of_, hz.li, hz.co, hz.fi, hz.se, hz.de, hz.cidl, hz.cid⟩
 exact ⟨rfl, ({ zeroF 8 with st := x1, data := x2, fin := true } : Fr), (.slice da dn dc), (.slice none 0 0), fun F' h9 => (Option.some.inj h9).symm, HR.out.grownG HAT.out.rest hgp hgW, HAT.out.row, FrAt.text hwf HDC.out (HI.out.grown HAT.out.rest HLO.out) rfl, HC.out.byQ HAT.out.rest, FrLo.text HLB.out⟩
theorem stream4_10 (W0 w : World) (L p gf : Nat) (bs : List Int) (bad : Bool) (h : Rd W0 w L p 97 bs bad) (hF : w.heap[gf]? = some (.cells ((zeroF 10).cells (.slice none 0 0) (.slice none 0 0)).toArray 39 (0, 0))) (hgp : gf ≠ p) (hgW : W0.heap.size ≤ gf) :
  Calls Try.prog 33 #[.pointer (some ⟨p, 0, none⟩), .pointer (some ⟨gf, 0, none⟩), .int .u64 10] w fun e w' => e = .returned (.tuple #[]) ∧ TakeU W0 w L p gf (streamR 10 bs bad) w' := by
 obtain ⟨⟨x1, b1, d1⟩, hx1⟩ : ∃ r, varM bs bad = r := ⟨_, rfl⟩
 obtain ⟨⟨x2, b2, d2⟩, hx2⟩ : ∃ r, textM b1 d1 = r := ⟨_, rfl⟩
 have hq : streamR 10 bs bad = (some ({ zeroF 8 with st := x1, data := x2 } : Fr), b2, d2) := by
  have e1 : (((10 : Int) % 8 / 4 = 1)) = False := by decide
  have e2 : (((10 : Int) % 4 / 2 = 1)) = True := by decide
  have e3 : decide ((10 : Int) % 2 = 1) = false := by decide
  simp only [streamR, bnd, e1, e2, e3, if_true, if_false, ret, hx1, hx2]
  try rfl
 rw [hq]
 clear hq
 have HX1 := Qh hx1
 have HX2 := Qh hx2
 have HR := Qh h; have HF := Qh hF; have HC := Qh (Ch.refl w p (some gf))
 clear h hF hx1 hx2
 have a1 : bits .and .u64 10 1 = 0 := by decide
 have a2 : bits .and .u64 10 2 = 2 := by decide
 have a4 : bits .and .u64 10 4 = 0 := by decide
 go_enter Try.func33, Try.ntmps33
 have c0 := row_cell HF.out 0 _ rfl
 have c4 := row_cell HF.out 4 _ rfl
 have f0 := row_free HF.out 0
 have f4 := row_free HF.out 4
 go_upto_region 1 with fail
 have hat := (((At.base HF.out).set 0 (.int .i64 8)).set 4 (.bool false)).conv (cs' := (({ zeroF 8 with fin := false } : Fr).cells (.slice none 0 0) (.slice none 0 0)).toArray) (by rfl)
 have HAT := Qh hat
 clear hat c0 f0 c4 f4
 replace HR := Qh (HR.out.grownG HAT.out.rest hgp hgW)
 replace HC := Qh (HC.out.byQ HAT.out.rest)
 replace HF := Qh HAT.out.row
 clear HAT
 generalize ((w.setCell ⟨gf, 0, none⟩ (.int .i64 8)).setCell ⟨gf, 4, none⟩ (.bool false)) = v0 at HR HC HF  ⊢
 have hb := var_any W0 v0 L p bs bad HR.out
 rw [HX1.out] at hb
 have hu := varM_in bs bad HR.out.bytes
 rw [HX1.out] at hu
 have HU1 := Qh (u64_of hu)
 have HCL := Qh hb
 clear hb hu
 go_wp2_with fail
 refine Calls.mono HCL.out ?_
 rintro e w1 ⟨rfl, hR, hg⟩
 replace HR := Qh hR
 replace HF := Qh (grown_row hg (by intro e; injection e with e; exact hgp e) HF.out)
 replace HC := Qh (HC.out.byP hg)
 clear hR hg HCL
 have c1 := row_cell HF.out 1 _ rfl
 have f1 := row_free HF.out 1
 go_upto_region 2 with fail
 have hat := ((At.base HF.out).set 1 (.int .u64 x1)).conv (cs' := (({ zeroF 8 with fin := false, st := x1 } : Fr).cells (.slice none 0 0) (.slice none 0 0)).toArray) (by rfl)
 have HAT := Qh hat
 clear hat c1 f1
 replace HR := Qh (HR.out.grownG HAT.out.rest hgp hgW)
 replace HC := Qh (HC.out.byQ HAT.out.rest)
 replace HF := Qh HAT.out.row
 clear HAT
 generalize (w1.setCell ⟨gf, 1, none⟩ (.int .u64 x1)) = v1 at HR HC HF  ⊢
 have hb := textc_any W0 v1 L p b1 d1 HR.out
 rw [HX2.out] at hb
 have HCL := Qh hb
 clear hb
 go_wp2_with fail
 refine Calls.mono HCL.out ?_
 rintro e w9 ⟨da, dn, dc, rfl, hdc, hI, hR, hg, hlo⟩
 have HI := Qh hI; have HLO : Hid (∀ x, da = some x → some x.block ≠ some gf) := Qh (fun x hx e => by injection e with e; have := hlo x hx; have := lt_of_block HF.out; omega)
 have HDC := Qh hdc
 have HLB : Hid (∀ x, da = some x → w.heap.size ≤ x.block) := Qh (fun x hx => Nat.le_trans HC.out.size (hlo x hx))
 clear hI hlo hdc
 replace HR := Qh hR
 replace HF := Qh (grown_row hg (by intro e; injection e with e; exact hgp e) HF.out)
 replace HC := Qh (HC.out.byP hg)
 clear hR hg HCL
 have c3 := row_cell HF.out 3 _ rfl
 have f3 := row_free HF.out 3
 have hat := ((At.base HF.out).set 3 (.slice da dn dc)).conv (cs' := (({ zeroF 8 with st := x1, data := x2 } : Fr).cells (.slice da dn dc) (.slice none 0 0)).toArray) (by rfl)
 have HAT := Qh hat
 clear hat
 go_wp2_with fail
 (try simp only [Exit.inBlock, Exit.then])
 refine bodyPost_end (results_none rfl _ _ _) rfl ?_
 have hz := zero_wf 8 (by omega)
 have hwf : ({ zeroF 8 with st := x1, data := x2 } : Fr).Wf := ⟨hz.kind, HU1.out, hz.of_, hz.li, hz.co, hz.fi, hz.se, hz.de, hz.cidl, hz.cid⟩
 exact ⟨rfl, ({ zeroF 8 with st := x1, data := x2 } : Fr), (.slice da dn dc), (.slice none 0 0), fun F' h9 => (Option.some.inj h9).symm, HR.out.grownG HAT.out.rest hgp hgW, HAT.out.row, FrAt.text hwf HDC.out (HI.out.grown HAT.out.rest HLO.out) rfl, HC.out.byQ HAT.out.rest, FrLo.text HLB.out⟩
theorem stream4_11 (W0 w : World) (L p gf : Nat) (bs : List Int) (bad : Bool) (h : Rd W0 w L p 97 bs bad) (hF : w.heap[gf]? = some (.cells ((zeroF 11).cells (.slice none 0 0) (.slice none 0 0)).toArray 39 (0, 0))) (hgp : gf ≠ p) (hgW : W0.heap.size ≤ gf) :
  Calls Try.prog 33 #[.pointer (some ⟨p, 0, none⟩), .pointer (some ⟨gf, 0, none⟩), .int .u64 11] w fun e w' => e = .returned (.tuple #[]) ∧ TakeU W0 w L p gf (streamR 11 bs bad) w' := by
 obtain ⟨⟨x1, b1, d1⟩, hx1⟩ : ∃ r, varM bs bad = r := ⟨_, rfl⟩
 obtain ⟨⟨x2, b2, d2⟩, hx2⟩ : ∃ r, textM b1 d1 = r := ⟨_, rfl⟩
 have hq : streamR 11 bs bad = (some ({ zeroF 8 with st := x1, data := x2, fin := true } : Fr), b2, d2) := by
  have e1 : (((11 : Int) % 8 / 4 = 1)) = False := by decide
  have e2 : (((11 : Int) % 4 / 2 = 1)) = True := by decide
  have e3 : decide ((11 : Int) % 2 = 1) = true := by decide
  simp only [streamR, bnd, e1, e2, e3, if_true, if_false, ret, hx1, hx2]
  try rfl
 rw [hq]
 clear hq
 have HX1 := Qh hx1
 have HX2 := Qh hx2
 have HR := Qh h; have HF := Qh hF; have HC := Qh (Ch.refl w p (some gf))
 clear h hF hx1 hx2
 have a1 : bits .and .u64 11 1 = 1 := by decide
 have a2 : bits .and .u64 11 2 = 2 := by decide
 have a4 : bits .and .u64 11 4 = 0 := by decide
 go_enter Try.func33, Try.ntmps33
 have c0 := row_cell HF.out 0 _ rfl
 have c4 := row_cell HF.out 4 _ rfl
 have f0 := row_free HF.out 0
 have f4 := row_free HF.out 4
 go_upto_region 1 with fail
 have hat := (((At.base HF.out).set 0 (.int .i64 8)).set 4 (.bool true)).conv (cs' := (({ zeroF 8 with fin := true } : Fr).cells (.slice none 0 0) (.slice none 0 0)).toArray) (by rfl)
 have HAT := Qh hat
 clear hat c0 f0 c4 f4
 replace HR := Qh (HR.out.grownG HAT.out.rest hgp hgW)
 replace HC := Qh (HC.out.byQ HAT.out.rest)
 replace HF := Qh HAT.out.row
 clear HAT
 generalize ((w.setCell ⟨gf, 0, none⟩ (.int .i64 8)).setCell ⟨gf, 4, none⟩ (.bool true)) = v0 at HR HC HF  ⊢
 have hb := var_any W0 v0 L p bs bad HR.out
 rw [HX1.out] at hb
 have hu := varM_in bs bad HR.out.bytes
 rw [HX1.out] at hu
 have HU1 := Qh (u64_of hu)
 have HCL := Qh hb
 clear hb hu
 go_wp2_with fail
 refine Calls.mono HCL.out ?_
 rintro e w1 ⟨rfl, hR, hg⟩
 replace HR := Qh hR
 replace HF := Qh (grown_row hg (by intro e; injection e with e; exact hgp e) HF.out)
 replace HC := Qh (HC.out.byP hg)
 clear hR hg HCL
 have c1 := row_cell HF.out 1 _ rfl
 have f1 := row_free HF.out 1
 go_upto_region 2 with fail
 have hat := ((At.base HF.out).set 1 (.int .u64 x1)).conv (cs' := (({ zeroF 8 with fin := true, st := x1 } : Fr).cells (.slice none 0 0) (.slice none 0 0)).toArray) (by rfl)
 have HAT := Qh hat
 clear hat c1 f1
 replace HR := Qh (HR.out.grownG HAT.out.rest hgp hgW)
 replace HC := Qh (HC.out.byQ HAT.out.rest)
 replace HF := Qh HAT.out.row
 clear HAT
 generalize (w1.setCell ⟨gf, 1, none⟩ (.int .u64 x1)) = v1 at HR HC HF  ⊢
 have hb := textc_any W0 v1 L p b1 d1 HR.out
 rw [HX2.out] at hb
 have HCL := Qh hb
 clear hb
 go_wp2_with fail
 refine Calls.mono HCL.out ?_
 rintro e w9 ⟨da, dn, dc, rfl, hdc, hI, hR, hg, hlo⟩
 have HI := Qh hI; have HLO : Hid (∀ x, da = some x → some x.block ≠ some gf) := Qh (fun x hx e => by injection e with e; have := hlo x hx; have := lt_of_block HF.out; omega)
 have HDC := Qh hdc
 have HLB : Hid (∀ x, da = some x → w.heap.size ≤ x.block) := Qh (fun x hx => Nat.le_trans HC.out.size (hlo x hx))
 clear hI hlo hdc
 replace HR := Qh hR
 replace HF := Qh (grown_row hg (by intro e; injection e with e; exact hgp e) HF.out)
 replace HC := Qh (HC.out.byP hg)
 clear hR hg HCL
 have c3 := row_cell HF.out 3 _ rfl
 have f3 := row_free HF.out 3
 have hat := ((At.base HF.out).set 3 (.slice da dn dc)).conv (cs' := (({ zeroF 8 with st := x1, data := x2, fin := true } : Fr).cells (.slice da dn dc) (.slice none 0 0)).toArray) (by rfl)
 have HAT := Qh hat
 clear hat
 go_wp2_with fail
 (try simp only [Exit.inBlock, Exit.then])
 refine bodyPost_end (results_none rfl _ _ _) rfl ?_
 have hz := zero_wf 8 (by omega)
 have hwf : ({ zeroF 8 with st := x1, data := x2, fin := true } : Fr).Wf := ⟨hz.kind, HU1.out, hz.of_, hz.li, hz.co, hz.fi, hz.se, hz.de, hz.cidl, hz.cid⟩
 exact ⟨rfl, ({ zeroF 8 with st := x1, data := x2, fin := true } : Fr), (.slice da dn dc), (.slice none 0 0), fun F' h9 => (Option.some.inj h9).symm, HR.out.grownG HAT.out.rest hgp hgW, HAT.out.row, FrAt.text hwf HDC.out (HI.out.grown HAT.out.rest HLO.out) rfl, HC.out.byQ HAT.out.rest, FrLo.text HLB.out⟩
theorem stream4_12 (W0 w : World) (L p gf : Nat) (bs : List Int) (bad : Bool) (h : Rd W0 w L p 97 bs bad) (hF : w.heap[gf]? = some (.cells ((zeroF 12).cells (.slice none 0 0) (.slice none 0 0)).toArray 39 (0, 0))) (hgp : gf ≠ p) (hgW : W0.heap.size ≤ gf) :
  Calls Try.prog 33 #[.pointer (some ⟨p, 0, none⟩), .pointer (some ⟨gf, 0, none⟩), .int .u64 12] w fun e w' => e = .returned (.tuple #[]) ∧ TakeU W0 w L p gf (streamR 12 bs bad) w' := by
 obtain ⟨⟨x1, b1, d1⟩, hx1⟩ : ∃ r, varM bs bad = r := ⟨_, rfl⟩
 obtain ⟨⟨x2, b2, d2⟩, hx2⟩ : ∃ r, varM b1 d1 = r := ⟨_, rfl⟩
 obtain ⟨⟨x3, b3, d3⟩, hx3⟩ : ∃ r, restR b2 d2 = r := ⟨_, rfl⟩
 have hq : streamR 12 bs bad = (some ({ zeroF 8 with st := x1, of_ := x2, data := x3 } : Fr), b3, d3) := by
  have e1 : (((12 : Int) % 8 / 4 = 1)) = True := by decide
  have e2 : (((12 : Int) % 4 / 2 = 1)) = False := by decide
  have e3 : decide ((12 : Int) % 2 = 1) = false := by decide
  simp only [streamR, bnd, e1, e2, e3, if_true, if_false, ret, hx1, hx2, hx3]
  try rfl
 rw [hq]
 clear hq
 have HX1 := Qh hx1
 have HX2 := Qh hx2
 have HX3 := Qh hx3
 have HR := Qh h; have HF := Qh hF; have HC := Qh (Ch.refl w p (some gf))
 clear h hF hx1 hx2 hx3
 have a1 : bits .and .u64 12 1 = 0 := by decide
 have a2 : bits .and .u64 12 2 = 0 := by decide
 have a4 : bits .and .u64 12 4 = 4 := by decide
 go_enter Try.func33, Try.ntmps33
 have c0 := row_cell HF.out 0 _ rfl
 have c4 := row_cell HF.out 4 _ rfl
 have f0 := row_free HF.out 0
 have f4 := row_free HF.out 4
 go_upto_region 1 with fail
 have hat := (((At.base HF.out).set 0 (.int .i64 8)).set 4 (.bool false)).conv (cs' := (({ zeroF 8 with fin := false } : Fr).cells (.slice none 0 0) (.slice none 0 0)).toArray) (by rfl)
 have HAT := Qh hat
 clear hat c0 f0 c4 f4
 replace HR := Qh (HR.out.grownG HAT.out.rest hgp hgW)
 replace HC := Qh (HC.out.byQ HAT.out.rest)
 replace HF := Qh HAT.out.row
 clear HAT
 generalize ((w.setCell ⟨gf, 0, none⟩ (.int .i64 8)).setCell ⟨gf, 4, none⟩ (.bool false)) = v0 at HR HC HF  ⊢
 have hb := var_any W0 v0 L p bs bad HR.out
 rw [HX1.out] at hb
 have hu := varM_in bs bad HR.out.bytes
 rw [HX1.out] at hu
 have HU1 := Qh (u64_of hu)
 have HCL := Qh hb
 clear hb hu
 go_wp2_with fail
 refine Calls.mono HCL.out ?_
 rintro e w1 ⟨rfl, hR, hg⟩
 replace HR := Qh hR
 replace HF := Qh (grown_row hg (by intro e; injection e with e; exact hgp e) HF.out)
 replace HC := Qh (HC.out.byP hg)
 clear hR hg HCL
 have c1 := row_cell HF.out 1 _ rfl
 have f1 := row_free HF.out 1
 go_upto_region 2 with fail
 have hat := ((At.base HF.out).set 1 (.int .u64 x1)).conv (cs' := (({ zeroF 8 with fin := false, st := x1 } : Fr).cells (.slice none 0 0) (.slice none 0 0)).toArray) (by rfl)
 have HAT := Qh hat
 clear hat c1 f1
 replace HR := Qh (HR.out.grownG HAT.out.rest hgp hgW)
 replace HC := Qh (HC.out.byQ HAT.out.rest)
 replace HF := Qh HAT.out.row
 clear HAT
 generalize (w1.setCell ⟨gf, 1, none⟩ (.int .u64 x1)) = v1 at HR HC HF  ⊢
 have hb := var_any W0 v1 L p b1 d1 HR.out
 rw [HX2.out] at hb
 have hu := varM_in b1 d1 HR.out.bytes
 rw [HX2.out] at hu
 have HU2 := Qh (u64_of hu)
 have HCL := Qh hb
 clear hb hu
 go_wp2_with fail
 refine Calls.mono HCL.out ?_
 rintro e w2 ⟨rfl, hR, hg⟩
 replace HR := Qh hR
 replace HF := Qh (grown_row hg (by intro e; injection e with e; exact hgp e) HF.out)
 replace HC := Qh (HC.out.byP hg)
 clear hR hg HCL
 have c2 := row_cell HF.out 2 _ rfl
 have f2 := row_free HF.out 2
 go_upto_region 4 with fail
 have hat := ((At.base HF.out).set 2 (.int .u64 x2)).conv (cs' := (({ zeroF 8 with fin := false, st := x1, of_ := x2 } : Fr).cells (.slice none 0 0) (.slice none 0 0)).toArray) (by rfl)
 have HAT := Qh hat
 clear hat c2 f2
 replace HR := Qh (HR.out.grownG HAT.out.rest hgp hgW)
 replace HC := Qh (HC.out.byQ HAT.out.rest)
 replace HF := Qh HAT.out.row
 clear HAT
 generalize (w2.setCell ⟨gf, 2, none⟩ (.int .u64 x2)) = v2 at HR HC HF  ⊢
 have hl := left_any W0 v2 L p b2 d2 HR.out
 have HLF := Qh hl
 clear hl
 go_wp2_with fail
 refine Calls.mono HLF.out ?_
 rintro e wq ⟨rfl, rfl⟩
 have hsm := HR.out.small
 have hb := rawc_any W0 _ L p b2 d2 b2.length (by omega) HR.out
 rw [show rdM b2 d2 (b2.length : Int) = (x3, b3, d3) from HX3.out] at hb
 have HCL := Qh hb
 clear hb hsm HLF
 go_wp2_with fail
 refine Calls.mono HCL.out ?_
 rintro e w9 ⟨da, dn, dc, rfl, hdc, hI, hR, hg, hlo⟩
 have HI := Qh hI; have HLO : Hid (∀ x, da = some x → some x.block ≠ some gf) := Qh (fun x hx e => by injection e with e; have := hlo x hx; have := lt_of_block HF.out; omega)
 have HDC := Qh hdc
 have HLB : Hid (∀ x, da = some x → w.heap.size ≤ x.block) := Qh (fun x hx => Nat.le_trans HC.out.size (hlo x hx))
 clear hI hlo hdc
 replace HR := Qh hR
 replace HF := Qh (grown_row hg (by intro e; injection e with e; exact hgp e) HF.out)
 replace HC := Qh (HC.out.byP hg)
 clear hR hg HCL
 have c3 := row_cell HF.out 3 _ rfl
 have f3 := row_free HF.out 3
 have hat := ((At.base HF.out).set 3 (.slice da dn dc)).conv (cs' := (({ zeroF 8 with st := x1, of_ := x2, data := x3 } : Fr).cells (.slice da dn dc) (.slice none 0 0)).toArray) (by rfl)
 have HAT := Qh hat
 clear hat
 go_wp2_with fail
 (try simp only [Exit.inBlock, Exit.then])
 refine bodyPost_end (results_none rfl _ _ _) rfl ?_
 have hz := zero_wf 8 (by omega)
 have hwf : ({ zeroF 8 with st := x1, of_ := x2, data := x3 } : Fr).Wf := ⟨hz.kind, HU1.out, HU2.out, hz.li, hz.co, hz.fi, hz.se, hz.de, hz.cidl, hz.cid⟩
 exact ⟨rfl, ({ zeroF 8 with st := x1, of_ := x2, data := x3 } : Fr), (.slice da dn dc), (.slice none 0 0), fun F' h9 => (Option.some.inj h9).symm, HR.out.grownG HAT.out.rest hgp hgW, HAT.out.row, FrAt.text hwf HDC.out (HI.out.grown HAT.out.rest HLO.out) rfl, HC.out.byQ HAT.out.rest, FrLo.text HLB.out⟩
theorem stream4_13 (W0 w : World) (L p gf : Nat) (bs : List Int) (bad : Bool) (h : Rd W0 w L p 97 bs bad) (hF : w.heap[gf]? = some (.cells ((zeroF 13).cells (.slice none 0 0) (.slice none 0 0)).toArray 39 (0, 0))) (hgp : gf ≠ p) (hgW : W0.heap.size ≤ gf) :
  Calls Try.prog 33 #[.pointer (some ⟨p, 0, none⟩), .pointer (some ⟨gf, 0, none⟩), .int .u64 13] w fun e w' => e = .returned (.tuple #[]) ∧ TakeU W0 w L p gf (streamR 13 bs bad) w' := by
 obtain ⟨⟨x1, b1, d1⟩, hx1⟩ : ∃ r, varM bs bad = r := ⟨_, rfl⟩
 obtain ⟨⟨x2, b2, d2⟩, hx2⟩ : ∃ r, varM b1 d1 = r := ⟨_, rfl⟩
 obtain ⟨⟨x3, b3, d3⟩, hx3⟩ : ∃ r, restR b2 d2 = r := ⟨_, rfl⟩
 have hq : streamR 13 bs bad = (some ({ zeroF 8 with st := x1, of_ := x2, data := x3, fin := true } : Fr), b3, d3) := by
  have e1 : (((13 : Int) % 8 / 4 = 1)) = True := by decide
  have e2 : (((13 : Int) % 4 / 2 = 1)) = False := by decide
  have e3 : decide ((13 : Int) % 2 = 1) = true := by decide
  simp only [streamR, bnd, e1, e2, e3, if_true, if_false, ret, hx1, hx2, hx3]
  try rfl
 rw [hq]
 clear hq
 have HX1 := Qh hx1
 have HX2 := Qh hx2
 have HX3 := Qh hx3
 have HR := Qh h; have HF := Qh hF; have HC := Qh (Ch.refl w p (some gf))
 clear h hF hx1 hx2 hx3
 have a1 : bits .and .u64 13 1 = 1 := by decide
 have a2 : bits .and .u64 13 2 = 0 := by decide
 have a4 : bits .and .u64 13 4 = 4 := by decide
 go_enter Try.func33, Try.ntmps33
 have c0 := row_cell HF.out 0 _ rfl
 have c4 := row_cell HF.out 4 _ rfl
 have f0 := row_free HF.out 0
 have f4 := row_free HF.out 4
 go_upto_region 1 with fail
 have hat := (((At.base HF.out).set 0 (.int .i64 8)).set 4 (.bool true)).conv (cs' := (({ zeroF 8 with fin := true } : Fr).cells (.slice none 0 0) (.slice none 0 0)).toArray) (by rfl)
 have HAT := Qh hat
 clear hat c0 f0 c4 f4
 replace HR := Qh (HR.out.grownG HAT.out.rest hgp hgW)
 replace HC := Qh (HC.out.byQ HAT.out.rest)
 replace HF := Qh HAT.out.row
 clear HAT
 generalize ((w.setCell ⟨gf, 0, none⟩ (.int .i64 8)).setCell ⟨gf, 4, none⟩ (.bool true)) = v0 at HR HC HF  ⊢
 have hb := var_any W0 v0 L p bs bad HR.out
 rw [HX1.out] at hb
 have hu := varM_in bs bad HR.out.bytes
 rw [HX1.out] at hu
 have HU1 := Qh (u64_of hu)
 have HCL := Qh hb
 clear hb hu
 go_wp2_with fail
 refine Calls.mono HCL.out ?_
 rintro e w1 ⟨rfl, hR, hg⟩
 replace HR := Qh hR
 replace HF := Qh (grown_row hg (by intro e; injection e with e; exact hgp e) HF.out)
 replace HC := Qh (HC.out.byP hg)
 clear hR hg HCL
 have c1 := row_cell HF.out 1 _ rfl
 have f1 := row_free HF.out 1
 go_upto_region 2 with fail
 have hat := ((At.base HF.out).set 1 (.int .u64 x1)).conv (cs' := (({ zeroF 8 with fin := true, st := x1 } : Fr).cells (.slice none 0 0) (.slice none 0 0)).toArray) (by rfl)
 have HAT := Qh hat
 clear hat c1 f1
 replace HR := Qh (HR.out.grownG HAT.out.rest hgp hgW)
 replace HC := Qh (HC.out.byQ HAT.out.rest)
 replace HF := Qh HAT.out.row
 clear HAT
 generalize (w1.setCell ⟨gf, 1, none⟩ (.int .u64 x1)) = v1 at HR HC HF  ⊢
 have hb := var_any W0 v1 L p b1 d1 HR.out
 rw [HX2.out] at hb
 have hu := varM_in b1 d1 HR.out.bytes
 rw [HX2.out] at hu
 have HU2 := Qh (u64_of hu)
 have HCL := Qh hb
 clear hb hu
 go_wp2_with fail
 refine Calls.mono HCL.out ?_
 rintro e w2 ⟨rfl, hR, hg⟩
 replace HR := Qh hR
 replace HF := Qh (grown_row hg (by intro e; injection e with e; exact hgp e) HF.out)
 replace HC := Qh (HC.out.byP hg)
 clear hR hg HCL
 have c2 := row_cell HF.out 2 _ rfl
 have f2 := row_free HF.out 2
 go_upto_region 4 with fail
 have hat := ((At.base HF.out).set 2 (.int .u64 x2)).conv (cs' := (({ zeroF 8 with fin := true, st := x1, of_ := x2 } : Fr).cells (.slice none 0 0) (.slice none 0 0)).toArray) (by rfl)
 have HAT := Qh hat
 clear hat c2 f2
 replace HR := Qh (HR.out.grownG HAT.out.rest hgp hgW)
 replace HC := Qh (HC.out.byQ HAT.out.rest)
 replace HF := Qh HAT.out.row
 clear HAT
 generalize (w2.setCell ⟨gf, 2, none⟩ (.int .u64 x2)) = v2 at HR HC HF  ⊢
 have hl := left_any W0 v2 L p b2 d2 HR.out
 have HLF := Qh hl
 clear hl
 go_wp2_with fail
 refine Calls.mono HLF.out ?_
 rintro e wq ⟨rfl, rfl⟩
 have hsm := HR.out.small
 have hb := rawc_any W0 _ L p b2 d2 b2.length (by omega) HR.out
 rw [show rdM b2 d2 (b2.length : Int) = (x3, b3, d3) from HX3.out] at hb
 have HCL := Qh hb
 clear hb hsm HLF
 go_wp2_with fail
 refine Calls.mono HCL.out ?_
 rintro e w9 ⟨da, dn, dc, rfl, hdc, hI, hR, hg, hlo⟩
 have HI := Qh hI; have HLO : Hid (∀ x, da = some x → some x.block ≠ some gf) := Qh (fun x hx e => by injection e with e; have := hlo x hx; have := lt_of_block HF.out; omega)
 have HDC := Qh hdc
 have HLB : Hid (∀ x, da = some x → w.heap.size ≤ x.block) := Qh (fun x hx => Nat.le_trans HC.out.size (hlo x hx))
 clear hI hlo hdc
 replace HR := Qh hR
 replace HF := Qh (grown_row hg (by intro e; injection e with e; exact hgp e) HF.out)
 replace HC := Qh (HC.out.byP hg)
 clear hR hg HCL
 have c3 := row_cell HF.out 3 _ rfl
 have f3 := row_free HF.out 3
 have hat := ((At.base HF.out).set 3 (.slice da dn dc)).conv (cs' := (({ zeroF 8 with st := x1, of_ := x2, data := x3, fin := true } : Fr).cells (.slice da dn dc) (.slice none 0 0)).toArray) (by rfl)
 have HAT := Qh hat
 clear hat
 go_wp2_with fail
 (try simp only [Exit.inBlock, Exit.then])
 refine bodyPost_end (results_none rfl _ _ _) rfl ?_
 have hz := zero_wf 8 (by omega)
 have hwf : ({ zeroF 8 with st := x1, of_ := x2, data := x3, fin := true } : Fr).Wf := ⟨hz.kind, HU1.out, HU2.out, hz.li, hz.co, hz.fi, hz.se, hz.de, hz.cidl, hz.cid⟩
 exact ⟨rfl, ({ zeroF 8 with st := x1, of_ := x2, data := x3, fin := true } : Fr), (.slice da dn dc), (.slice none 0 0), fun F' h9 => (Option.some.inj h9).symm, HR.out.grownG HAT.out.rest hgp hgW, HAT.out.row, FrAt.text hwf HDC.out (HI.out.grown HAT.out.rest HLO.out) rfl, HC.out.byQ HAT.out.rest, FrLo.text HLB.out⟩
theorem stream4_14 (W0 w : World) (L p gf : Nat) (bs : List Int) (bad : Bool) (h : Rd W0 w L p 97 bs bad) (hF : w.heap[gf]? = some (.cells ((zeroF 14).cells (.slice none 0 0) (.slice none 0 0)).toArray 39 (0, 0))) (hgp : gf ≠ p) (hgW : W0.heap.size ≤ gf) :
  Calls Try.prog 33 #[.pointer (some ⟨p, 0, none⟩), .pointer (some ⟨gf, 0, none⟩), .int .u64 14] w fun e w' => e = .returned (.tuple #[]) ∧ TakeU W0 w L p gf (streamR 14 bs bad) w' := by
 obtain ⟨⟨x1, b1, d1⟩, hx1⟩ : ∃ r, varM bs bad = r := ⟨_, rfl⟩
 obtain ⟨⟨x2, b2, d2⟩, hx2⟩ : ∃ r, varM b1 d1 = r := ⟨_, rfl⟩
 obtain ⟨⟨x3, b3, d3⟩, hx3⟩ : ∃ r, textM b2 d2 = r := ⟨_, rfl⟩
 have hq : streamR 14 bs bad = (some ({ zeroF 8 with st := x1, of_ := x2, data := x3 } : Fr), b3, d3) := by
  have e1 : (((14 : Int) % 8 / 4 = 1)) = True := by decide
  have e2 : (((14 : Int) % 4 / 2 = 1)) = True := by decide
  have e3 : decide ((14 : Int) % 2 = 1) = false := by decide
  simp only [streamR, bnd, e1, e2, e3, if_true, if_false, ret, hx1, hx2, hx3]
  try rfl
 rw [hq]
 clear hq
 have HX1 := Qh hx1
 have HX2 := Qh hx2
 have HX3 := Qh hx3
 have HR := Qh h; have HF := Qh hF; have HC := Qh (Ch.refl w p (some gf))
 clear h hF hx1 hx2 hx3
 have a1 : bits .and .u64 14 1 = 0 := by decide
 have a2 : bits .and .u64 14 2 = 2 := by decide
 have a4 : bits .and .u64 14 4 = 4 := by decide
 go_enter Try.func33, Try.ntmps33
 have c0 := row_cell HF.out 0 _ rfl
 have c4 := row_cell HF.out 4 _ rfl
 have f0 := row_free HF.out 0
 have f4 := row_free HF.out 4
 go_upto_region 1 with fail
 have hat := (((At.base HF.out).set 0 (.int .i64 8)).set 4 (.bool false)).conv (cs' := (({ zeroF 8 with fin := false } : Fr).cells (.slice none 0 0) (.slice none 0 0)).toArray) (by rfl)
 have HAT := Qh hat
 clear hat c0 f0 c4 f4
 replace HR := Qh (HR.out.grownG HAT.out.rest hgp hgW)
 replace HC := Qh (HC.out.byQ HAT.out.rest)
 replace HF := Qh HAT.out.row
 clear HAT
 generalize ((w.setCell ⟨gf, 0, none⟩ (.int .i64 8)).setCell ⟨gf, 4, none⟩ (.bool false)) = v0 at HR HC HF  ⊢
 have hb := var_any W0 v0 L p bs bad HR.out
 rw [HX1.out] at hb
 have hu := varM_in bs bad HR.out.bytes
 rw [HX1.out] at hu
 have HU1 := Qh (u64_of hu)
 have HCL := Qh hb
 clear hb hu
 go_wp2_with fail
 refine Calls.mono HCL.out ?_
 rintro e w1 ⟨rfl, hR, hg⟩
 replace HR := Qh hR
 replace HF := Qh (grown_row hg (by intro e; injection e with e; exact hgp e) HF.out)
 replace HC := Qh (HC.out.byP hg)
 clear hR hg HCL
 have c1 := row_cell HF.out 1 _ rfl
 have f1 := row_free HF.out 1
 go_upto_region 2 with fail
 have hat := ((At.base HF.out).set 1 (.int .u64 x1)).conv (cs' := (({ zeroF 8 with fin := false, st := x1 } : Fr).cells (.slice none 0 0) (.slice none 0 0)).toArray) (by rfl)
 have HAT := Qh hat
 clear hat c1 f1
 replace HR := Qh (HR.out.grownG HAT.out.rest hgp hgW)
 replace HC := Qh (HC.out.byQ HAT.out.rest)
 replace HF := Qh HAT.out.row
 clear HAT
 generalize (w1.setCell ⟨gf, 1, none⟩ (.int .u64 x1)) = v1 at HR HC HF  ⊢
 have hb := var_any W0 v1 L p b1 d1 HR.out
 rw [HX2.out] at hb
 have hu := varM_in b1 d1 HR.out.bytes
 rw [HX2.out] at hu
 have HU2 := Qh (u64_of hu)
 have HCL := Qh hb
 clear hb hu
 go_wp2_with fail
 refine Calls.mono HCL.out ?_
 rintro e w2 ⟨rfl, hR, hg⟩
 replace HR := Qh hR
 replace HF := Qh (grown_row hg (by intro e; injection e with e; exact hgp e) HF.out)
 replace HC := Qh (HC.out.byP hg)
 clear hR hg HCL
 have c2 := row_cell HF.out 2 _ rfl
 have f2 := row_free HF.out 2
 go_upto_region 4 with fail
 have hat := ((At.base HF.out).set 2 (.int .u64 x2)).conv (cs' := (({ zeroF 8 with fin := false, st := x1, of_ := x2 } : Fr).cells (.slice none 0 0) (.slice none 0 0)).toArray) (by rfl)
 have HAT := Qh hat
 clear hat c2 f2
 replace HR := Qh (HR.out.grownG HAT.out.rest hgp hgW)
 replace HC := Qh (HC.out.byQ HAT.out.rest)
 replace HF := Qh HAT.out.row
 clear HAT
 generalize (w2.setCell ⟨gf, 2, none⟩ (.int .u64 x2)) = v2 at HR HC HF  ⊢
 have hb := textc_any W0 v2 L p b2 d2 HR.out
 rw [HX3.out] at hb
 have HCL := Qh hb
 clear hb
 go_wp2_with fail
 refine Calls.mono HCL.out ?_
 rintro e w9 ⟨da, dn, dc, rfl, hdc, hI, hR, hg, hlo⟩
 have HI := Qh hI; have HLO : Hid (∀ x, da = some x → some x.block ≠ some gf) := Qh (fun x hx e => by injection e with e; have := hlo x hx; have := lt_of_block HF.out; omega)
 have HDC := Qh hdc
 have HLB : Hid (∀ x, da = some x → w.heap.size ≤ x.block) := Qh (fun x hx => Nat.le_trans HC.out.size (hlo x hx))
 clear hI hlo hdc
 replace HR := Qh hR
 replace HF := Qh (grown_row hg (by intro e; injection e with e; exact hgp e) HF.out)
 replace HC := Qh (HC.out.byP hg)
 clear hR hg HCL
 have c3 := row_cell HF.out 3 _ rfl
 have f3 := row_free HF.out 3
 have hat := ((At.base HF.out).set 3 (.slice da dn dc)).conv (cs' := (({ zeroF 8 with st := x1, of_ := x2, data := x3 } : Fr).cells (.slice da dn dc) (.slice none 0 0)).toArray) (by rfl)
 have HAT := Qh hat
 clear hat
 go_wp2_with fail
 (try simp only [Exit.inBlock, Exit.then])
 refine bodyPost_end (results_none rfl _ _ _) rfl ?_
 have hz := zero_wf 8 (by omega)
 have hwf : ({ zeroF 8 with st := x1, of_ := x2, data := x3 } : Fr).Wf := ⟨hz.kind, HU1.out, HU2.out, hz.li, hz.co, hz.fi, hz.se, hz.de, hz.cidl, hz.cid⟩
 exact ⟨rfl, ({ zeroF 8 with st := x1, of_ := x2, data := x3 } : Fr), (.slice da dn dc), (.slice none 0 0), fun F' h9 => (Option.some.inj h9).symm, HR.out.grownG HAT.out.rest hgp hgW, HAT.out.row, FrAt.text hwf HDC.out (HI.out.grown HAT.out.rest HLO.out) rfl, HC.out.byQ HAT.out.rest, FrLo.text HLB.out⟩
theorem stream4_15 (W0 w : World) (L p gf : Nat) (bs : List Int) (bad : Bool) (h : Rd W0 w L p 97 bs bad) (hF : w.heap[gf]? = some (.cells ((zeroF 15).cells (.slice none 0 0) (.slice none 0 0)).toArray 39 (0, 0))) (hgp : gf ≠ p) (hgW : W0.heap.size ≤ gf) :
  Calls Try.prog 33 #[.pointer (some ⟨p, 0, none⟩), .pointer (some ⟨gf, 0, none⟩), .int .u64 15] w fun e w' => e = .returned (.tuple #[]) ∧ TakeU W0 w L p gf (streamR 15 bs bad) w' := by
 obtain ⟨⟨x1, b1, d1⟩, hx1⟩ : ∃ r, varM bs bad = r := ⟨_, rfl⟩
 obtain ⟨⟨x2, b2, d2⟩, hx2⟩ : ∃ r, varM b1 d1 = r := ⟨_, rfl⟩
 obtain ⟨⟨x3, b3, d3⟩, hx3⟩ : ∃ r, textM b2 d2 = r := ⟨_, rfl⟩
 have hq : streamR 15 bs bad = (some ({ zeroF 8 with st := x1, of_ := x2, data := x3, fin := true } : Fr), b3, d3) := by
  have e1 : (((15 : Int) % 8 / 4 = 1)) = True := by decide
  have e2 : (((15 : Int) % 4 / 2 = 1)) = True := by decide
  have e3 : decide ((15 : Int) % 2 = 1) = true := by decide
  simp only [streamR, bnd, e1, e2, e3, if_true, if_false, ret, hx1, hx2, hx3]
  try rfl
 rw [hq]
 clear hq
 have HX1 := Qh hx1
 have HX2 := Qh hx2
 have HX3 := Qh hx3
 have HR := Qh h; have HF := Qh hF; have HC := Qh (Ch.refl w p (some gf))
 clear h hF hx1 hx2 hx3
 have a1 : bits .and .u64 15 1 = 1 := by decide
 have a2 : bits .and .u64 15 2 = 2 := by decide
 have a4 : bits .and .u64 15 4 = 4 := by decide
 go_enter Try.func33, Try.ntmps33
 have c0 := row_cell HF.out 0 _ rfl
 have c4 := row_cell HF.out 4 _ rfl
 have f0 := row_free HF.out 0
 have f4 := row_free HF.out 4
 go_upto_region 1 with fail
 have hat := (((At.base HF.out).set 0 (.int .i64 8)).set 4 (.bool true)).conv (cs' := (({ zeroF 8 with fin := true } : Fr).cells (.slice none 0 0) (.slice none 0 0)).toArray) (by rfl)
 have HAT := Qh hat
 clear hat c0 f0 c4 f4
 replace HR := Qh (HR.out.grownG HAT.out.rest hgp hgW)
 replace HC := Qh (HC.out.byQ HAT.out.rest)
 replace HF := Qh HAT.out.row
 clear HAT
 generalize ((w.setCell ⟨gf, 0, none⟩ (.int .i64 8)).setCell ⟨gf, 4, none⟩ (.bool true)) = v0 at HR HC HF  ⊢
 have hb := var_any W0 v0 L p bs bad HR.out
 rw [HX1.out] at hb
 have hu := varM_in bs bad HR.out.bytes
 rw [HX1.out] at hu
 have HU1 := Qh (u64_of hu)
 have HCL := Qh hb
 clear hb hu
 go_wp2_with fail
 refine Calls.mono HCL.out ?_
 rintro e w1 ⟨rfl, hR, hg⟩
 replace HR := Qh hR
 replace HF := Qh (grown_row hg (by intro e; injection e with e; exact hgp e) HF.out)
 replace HC := Qh (HC.out.byP hg)
 clear hR hg HCL
 have c1 := row_cell HF.out 1 _ rfl
 have f1 := row_free HF.out 1
 go_upto_region 2 with fail
 have hat := ((At.base HF.out).set 1 (.int .u64 x1)).conv (cs' := (({ zeroF 8 with fin := true, st := x1 } : Fr).cells (.slice none 0 0) (.slice none 0 0)).toArray) (by rfl)
 have HAT := Qh hat
 clear hat c1 f1
 replace HR := Qh (HR.out.grownG HAT.out.rest hgp hgW)
 replace HC := Qh (HC.out.byQ HAT.out.rest)
 replace HF := Qh HAT.out.row
 clear HAT
 generalize (w1.setCell ⟨gf, 1, none⟩ (.int .u64 x1)) = v1 at HR HC HF  ⊢
 have hb := var_any W0 v1 L p b1 d1 HR.out
 rw [HX2.out] at hb
 have hu := varM_in b1 d1 HR.out.bytes
 rw [HX2.out] at hu
 have HU2 := Qh (u64_of hu)
 have HCL := Qh hb
 clear hb hu
 go_wp2_with fail
 refine Calls.mono HCL.out ?_
 rintro e w2 ⟨rfl, hR, hg⟩
 replace HR := Qh hR
 replace HF := Qh (grown_row hg (by intro e; injection e with e; exact hgp e) HF.out)
 replace HC := Qh (HC.out.byP hg)
 clear hR hg HCL
 have c2 := row_cell HF.out 2 _ rfl
 have f2 := row_free HF.out 2
 go_upto_region 4 with fail
 have hat := ((At.base HF.out).set 2 (.int .u64 x2)).conv (cs' := (({ zeroF 8 with fin := true, st := x1, of_ := x2 } : Fr).cells (.slice none 0 0) (.slice none 0 0)).toArray) (by rfl)
 have HAT := Qh hat
 clear hat c2 f2
 replace HR := Qh (HR.out.grownG HAT.out.rest hgp hgW)
 replace HC := Qh (HC.out.byQ HAT.out.rest)
 replace HF := Qh HAT.out.row
 clear HAT
 generalize (w2.setCell ⟨gf, 2, none⟩ (.int .u64 x2)) = v2 at HR HC HF  ⊢
 have hb := textc_any W0 v2 L p b2 d2 HR.out
 rw [HX3.out] at hb
 have HCL := Qh hb
 clear hb
 go_wp2_with fail
 refine Calls.mono HCL.out ?_
 rintro e w9 ⟨da, dn, dc, rfl, hdc, hI, hR, hg, hlo⟩
 have HI := Qh hI; have HLO : Hid (∀ x, da = some x → some x.block ≠ some gf) := Qh (fun x hx e => by injection e with e; have := hlo x hx; have := lt_of_block HF.out; omega)
 have HDC := Qh hdc
 have HLB : Hid (∀ x, da = some x → w.heap.size ≤ x.block) := Qh (fun x hx => Nat.le_trans HC.out.size (hlo x hx))
 clear hI hlo hdc
 replace HR := Qh hR
 replace HF := Qh (grown_row hg (by intro e; injection e with e; exact hgp e) HF.out)
 replace HC := Qh (HC.out.byP hg)
 clear hR hg HCL
 have c3 := row_cell HF.out 3 _ rfl
 have f3 := row_free HF.out 3
 have hat := ((At.base HF.out).set 3 (.slice da dn dc)).conv (cs' := (({ zeroF 8 with st := x1, of_ := x2, data := x3, fin := true } : Fr).cells (.slice da dn dc) (.slice none 0 0)).toArray) (by rfl)
 have HAT := Qh hat
 clear hat
 go_wp2_with fail
 (try simp only [Exit.inBlock, Exit.then])
 refine bodyPost_end (results_none rfl _ _ _) rfl ?_
 have hz := zero_wf 8 (by omega)
 have hwf : ({ zeroF 8 with st := x1, of_ := x2, data := x3, fin := true } : Fr).Wf := ⟨hz.kind, HU1.out, HU2.out, hz.li, hz.co, hz.fi, hz.se, hz.de, hz.cidl, hz.cid⟩
 exact ⟨rfl, ({ zeroF 8 with st := x1, of_ := x2, data := x3, fin := true } : Fr), (.slice da dn dc), (.slice none 0 0), fun F' h9 => (Option.some.inj h9).symm, HR.out.grownG HAT.out.rest hgp hgW, HAT.out.row, FrAt.text hwf HDC.out (HI.out.grown HAT.out.rest HLO.out) rfl, HC.out.byQ HAT.out.rest, FrLo.text HLB.out⟩
end Go.Proofs.Ytmbjepcbokbemaa
namespace Go.Proofs.Ytmbjepcbokbemaa
open Go.RowKit
structure Sf {α : Type} (g : Rdr α) : Prop where
 suf : ∀ bs bad, (g bs bad).2.1 <:+ bs
 stick : ∀ bs, (g bs true).2.2 = true
theorem Sf.bnd {α β : Type} {g : Rdr α} {h : α → Rdr β} (hg : Sf g) (hh : ∀ v, Sf (h v)) : Sf (bnd g h) := by
 refine ⟨fun bs bad => ?_, fun bs => ?_⟩
 ·
  exact List.IsSuffix.trans ((hh _).suf _ _) (hg.suf bs bad)
 ·
  show (h _ _ (g bs true).2.2).2.2 = true
  rw [hg.stick]; exact (hh _).stick _
theorem Sf.ret {α : Type} (v : α) : Sf (ret v) := ⟨fun _ _ => List.suffix_refl _, fun _ => rfl⟩
theorem Sf.var : Sf varM := by
 refine ⟨fun bs bad => ?_, St.var.stick⟩
 unfold varM
 split
 ·
  exact List.nil_suffix
 ·
  exact List.drop_suffix _ _
theorem rd_suf (bs : List Int) (bad : Bool) (n : Int) : (rdM bs bad n).2.1 <:+ bs := by
 unfold rdM
 split
 ·
  exact List.nil_suffix
 ·
  exact List.drop_suffix _ _
theorem Sf.byte : Sf byteM := ⟨fun bs bad => rd_suf bs bad 1, St.byte.stick⟩
theorem Sf.name : Sf nameR := ⟨fun bs bad => rd_suf bs bad 8, St.name.stick⟩
theorem Sf.rest : Sf restR := ⟨fun bs bad => rd_suf bs bad _, fun bs => by unfold restR; rw [rd_stick]⟩
theorem Sf.text : Sf textM := by
 refine ⟨fun bs bad => ?_, St.text.stick⟩
 unfold textM
 split
 ·
  exact List.nil_suffix
 ·
  exact List.IsSuffix.trans (rd_suf _ _ _) (Sf.var.suf bs bad)
theorem Sf.ite {α : Type} {c : Prop} [Decidable c] {a b : Rdr α} (ha : Sf a) (hb : Sf b) : Sf (if c then a else b) := by
 by_cases h : c
 ·
  rw [if_pos h]; exact ha
 ·
  rw [if_neg h]; exact hb
theorem Sf.acks : ∀ (n : Nat) (hi : Int) (acc : List (Int × Int)), Sf (acksR n hi acc)
 | 0, hi, acc => Sf.var.bnd fun v => Sf.ite (Sf.ret _) (Sf.ret _)
 | n + 1, hi, acc => Sf.var.bnd fun v => Sf.ite (Sf.ret _) (Sf.var.bnd fun w => Sf.ite (Sf.ret _) (Sf.acks n _ _))
theorem Sf.take (k : Int) : Sf (takeR k) := by
 unfold takeR
 exact Sf.ite (Sf.var.bnd fun _ => Sf.var.bnd fun _ => Sf.var.bnd fun _ => Sf.ite (Sf.ret _) ((Sf.acks _ _ _).bnd fun _ => Sf.ret _))
  (Sf.ite (Sf.var.bnd fun _ => Sf.var.bnd fun _ => Sf.var.bnd fun _ => Sf.ret _)
  (Sf.ite (Sf.var.bnd fun _ => Sf.var.bnd fun _ => Sf.ret _)
  (Sf.ite (Sf.var.bnd fun _ => Sf.text.bnd fun _ => Sf.ret _)
  (Sf.ite (Sf.var.bnd fun _ => Sf.ret _)
  (Sf.ite (Sf.var.bnd fun _ => Sf.var.bnd fun _ => Sf.ret _)
  (Sf.ite (Sf.var.bnd fun _ => Sf.var.bnd fun _ => Sf.byte.bnd fun _ => Sf.name.bnd fun _ => Sf.ret _)
  (Sf.ite (Sf.var.bnd fun _ => Sf.ret _)
  (Sf.ite (Sf.name.bnd fun _ => Sf.ret _)
  (Sf.ite (Sf.var.bnd fun _ => Sf.text.bnd fun _ => Sf.ret _)
  (Sf.ret _))))))))))
theorem Sf.stream (k : Int) : Sf (streamR k) := by
 unfold streamR
 exact Sf.var.bnd fun _ => Sf.bnd (Sf.ite Sf.var (Sf.ret _)) fun _ => Sf.bnd (Sf.ite Sf.text Sf.rest) fun _ => Sf.ret _
theorem Sf.frame (k : Int) : Sf (frameR k) := by
 unfold frameR
 exact Sf.ite (Sf.stream k) (Sf.take k)
theorem dec_suf {bs : List Int} {f : Fr} {r : List Int} (h : decF bs = some (f, r)) : r <:+ bs ∧ r.length < bs.length := by
 unfold decF at h
 split at h
 ·
  cases h
 ·
  cases hb : (varM bs false).2.2 with
  | true =>
   rw [hb, endF_of ((Sf.frame _).stick _)] at h; cases h
  | false =>
   rw [hb] at h
   have h1 := (Sf.frame (varM bs false).1).suf (varM bs false).2.1 false
   obtain ⟨⟨qo, qb, qd⟩, hq⟩ : ∃ q, frameR (varM bs false).1 (varM bs false).2.1 false = q := ⟨_, rfl⟩
   rw [hq] at h h1
   simp only at h1
   have hr : qb = r := by
    cases qo with
    | none => cases h
    | some f' =>
     unfold endF at h
     simp only at h
     split at h
     ·
      cases h
     ·
      injection h with h; injection h
   subst hr
   refine ⟨List.IsSuffix.trans h1 (Sf.var.suf bs false), ?_⟩
   have h2 := h1.length_le
   have h3 : (varM bs false).2.1.length < bs.length := by
    unfold varM at hb ⊢
    split at hb
    ·
     cases hb
    ·
     next h9 =>
     rw [if_neg h9, List.length_drop]
     have h5 : getS bs ≠ 0 := fun e => h9 (.inr e)
     have h6 := getS_le bs
     omega
   omega
theorem dec_len {bs : List Int} {f : Fr} {r : List Int} (h : decF bs = some (f, r)) : r.length ≤ bs.length := Nat.le_of_lt (dec_suf h).2
theorem dec_drop {bs : List Int} {f : Fr} {r : List Int} (h : decF bs = some (f, r)) : bs.drop (bs.length - r.length) = r := (List.suffix_iff_eq_drop.1 (dec_suf h).1).symm
end Go.Proofs.Ytmbjepcbokbemaa
