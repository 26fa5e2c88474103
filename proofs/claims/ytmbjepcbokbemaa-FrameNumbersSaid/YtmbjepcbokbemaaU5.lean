/- texts of the proof, laid together: FrmG, FrmH. -/
import Derived.Test.YtmbjepcbokbemaaU4
set_option linter.unusedVariables false
set_option linter.unusedSimpArgs false
set_option maxRecDepth 100000
set_option maxHeartbeats 16000000
namespace Go.Proofs.Ytmbjepcbokbemaa
open Go.RowKit
theorem fall_at : ∀ {l : List (Int × Int)} {m : Nat} {a b : Int × Int}, fallB l → l[m]? = some a → l[m + 1]? = some b → 0 ≤ b.1 ∧ b.1 < b.2 ∧ b.2 < a.1 ∧ a.1 ≤ 4611686018427387904
 | [], m, a, b, _, h, _ => by cases h
 | [x], m, a, b, _, _, h => by simp at h
 | x :: y :: l, 0, a, b, hf, h1, h2 => by
  injection h1 with h1; injection h2 with h2
  subst h1; subst h2
  obtain ⟨f1, f2, f3, f4, f5⟩ := hf
  cases l with
  | nil => exact ⟨f5.1, f5.2.1, f4, by omega⟩
  | cons z l => exact ⟨f5.1, f5.2.1, f4, by omega⟩
 | x :: y :: l, m + 1, a, b, hf, h1, h2 => fall_at (l := y :: l) (m := m) hf.2.2.2.2 h1 h2
theorem ack_fall {f : Fr} (hr : rightB f = true) (hk : f.kind = 2) (hg : RgOk f) : fallB f.rg.reverse ∧ 1 ≤ f.rg.length ∧ f.rg.length ≤ 16 ∧ f.de ≤ 4611686018427387903 := by
 have h : (ackB f.rg && inB f.de) = true := by rw [← hr]; unfold rightB; simp [hk]
 rw [Bool.and_eq_true] at h
 obtain ⟨h1, h2, h3, h4⟩ := ackB_iff.1 h.1
 refine ⟨fall_of _ (by rw [List.reverse_reverse]; exact h4) (fun x hx => hg x (List.mem_reverse.1 hx)) (fun x hx => ?_), h1, h2, inB_iff.1 h.2⟩
 rw [List.head?_reverse] at hx
 rw [hx] at h3
 exact h3
theorem WrU.start {w : World} {B p : Nat} {v : Value} {bs : List Int} (h : Wr w B p v bs) : WrU w B p v w bs := ⟨v, h, Ch.refl _ _ _, .inl rfl⟩
theorem WrU.next {w w1 w2 : World} {B p : Nat} {v v1 : Value} {bs : List Int} (hc : Ch w w1 p v.ownBlock) (ho : v1.ownBlock = v.ownBlock ∨ ∃ k, w.heap.size ≤ k ∧ v1.ownBlock = some k) (h : WrU w1 B p v1 w2 bs) : WrU w B p v w2 bs := by
 obtain ⟨v2, h1, h2, h3⟩ := h
 exact ⟨v2, h1, hc.next h2 ho, own_next hc.size ho h3⟩
theorem Ch.to {w y z : World} {p : Nat} {q : Option Nat} (h : Ch w y p q) (hb : Below y.heap.size y z) : Ch w z p q :=
 ⟨hb.os.trans h.os, hb.tape.trans h.tape, hb.output.trans h.output, Nat.le_trans h.size hb.size, fun i h1 h2 h3 => (hb.block i (Nat.lt_of_lt_of_le h1 h.size)).trans (h.block i h1 h2 h3)⟩
theorem WrU.to {w y z : World} {B p : Nat} {v : Value} {bs : List Int} (h : WrU w B p v y bs) (hb : Below y.heap.size y z) : WrU w B p v z bs := by
 obtain ⟨v2, h1, h2, h3⟩ := h
 exact ⟨v2, h1.to hb, h2.to hb, h3⟩
theorem WrU.row {w y : World} {B p g : Nat} {v : Value} {bs : List Int} {cs : Array Value} {t : TypeId} {fr : Nat × Nat} (h : WrU w B p v y bs) (hr : w.heap[g]? = some (.cells cs t fr)) (hp : g ≠ p) (ho : v.ownBlock ≠ some g) : y.heap[g]? = some (.cells cs t fr) := by
 obtain ⟨v2, h1, h2, h3⟩ := h
 exact (h2.block g (lt_of_block hr) hp ho).trans hr
theorem WrU.size {w y : World} {B p : Nat} {v : Value} {bs : List Int} (h : WrU w B p v y bs) : w.heap.size ≤ y.heap.size := by
 obtain ⟨v2, h1, h2, h3⟩ := h; exact h2.size
theorem WrU.vars {w y : World} {B p : Nat} {v : Value} {bs : List Int} (h : WrU w B p v y bs) (zs : List Int) (n : Nat) (hn : zs.length = n) (hz : ∀ x ∈ zs, (Lit.int .u64 x).wf = true) (hl : bs.length ≤ 100000) (hzl : n ≤ 1000) :
  Calls Try.prog 56 #[.pointer (some ⟨p, 0, none⟩), .slice (some ⟨y.heap.size, 0, none⟩) n n] (y.alloc (.cells (zs.map (Value.int .u64)).toArray 34)) fun e w' => e = .returned (.tuple #[]) ∧ WrU w B p v w' (bs ++ varsM zs) := by
 obtain ⟨v1, h1, h2, h3⟩ := h
 have hb := (Below.refl y.heap.size y).alloc (Nat.le_refl _) (.cells (zs.map (Value.int .u64)).toArray 34)
 subst hn
 refine Calls.mono (vars4_any _ B p v1 bs _ zs.length zs.length zs (by omega) (by omega) (h1.to hb) (IntsK.of_row (heap_alloc_new y (.cells (zs.map (Value.int .u64)).toArray 34)) hz) (fun x hx => ?_)) (fun e w' hq => ⟨hq.1, ?_⟩)
 ·
  injection hx with hx; subst hx
  exact ⟨by have := h1.lt; show y.heap.size ≠ p; omega, fun e => by have h9 := (h1.own.lt _ e).2; exact absurd h9 (Nat.lt_irrefl _)⟩
 ·
  exact WrU.next h2 h3 (WrU.from hb hq.2)
theorem RK.At.chb {α : Type} {K : RK α} {w y : World} {p : Nat} {q : Option Nat} {a : Option Addr} {n : Nat} {l : List α} (h : K.At w a n l) (hc : Ch w y p q) (ha : ∀ x, a = some x → x.block ≠ p ∧ q ≠ some x.block) : K.At y a n l := by
 refine ⟨h.1, h.2.1, ?_⟩
 rcases h.2.2 with h0 | ⟨b, off, rfl, hl, hcell⟩
 ·
  exact .inl h0
 ·
  refine .inr ⟨b, off, rfl, Nat.lt_of_lt_of_le hl hc.size, fun j u hu => ?_⟩
  rw [← hcell j u hu]
  simp only [World.cell?, hc.block b hl (ha _ rfl).1 (ha _ rfl).2]
theorem gaps_len : ∀ l : List (Int × Int), (revGaps l).length ≤ 2 * l.length
 | [] => by simp [revGaps]
 | [x] => by simp [revGaps]
 | x :: y :: l => by have := gaps_len (y :: l); simp only [revGaps, List.length_cons] at this ⊢; omega
theorem putack_any (W0 w : World) (p : Nat) (v : Value) (bs : List Int) (f : Fr) (dv rv : Value) (h : FrAt W0 f dv rv) (hb0 : Below W0.heap.size W0 w) (hk : f.kind = 2) (hr : rightB f = true) (hg : RgOk f) (hW : Wr w W0.heap.size p v bs) (hl : bs.length ≤ 20000) :
  Calls Try.prog 55 #[.pointer (some ⟨p, 0, none⟩), .agg (f.cells dv rv).toArray] w fun e w' => e = .returned (.tuple #[]) ∧ WrU w W0.heap.size p v w' (bs ++ varsM (ackV f.rg f.de)) := by
 obtain ⟨hfall, hn1, hn16, hde⟩ := ack_fall hr hk hg
 obtain ⟨ra, rn, rc, rfl, hr1, hr2, hR⟩ := h.r
 have hde2 := h.wf.de
 simp only [U64] at hde2
 have hln : f.rg.length = rn := hR.1.symm
 have H9 : Hid ((f.cells dv (.slice ra rn rc))[9]? = some (.int .u64 f.de)) := Qh rfl
 have H10 : Hid ((f.cells dv (.slice ra rn rc))[10]? = some (.slice ra rn rc)) := Qh rfl
 obtain ⟨RF, hRF⟩ : ∃ R, f.cells dv (.slice ra rn rc) = R := ⟨_, rfl⟩
 rw [hRF] at H9 H10 ⊢
 obtain ⟨rg, hrg⟩ : ∃ r, f.rg = r := ⟨_, rfl⟩
 obtain ⟨de, hdee⟩ : ∃ r, f.de = r := ⟨_, rfl⟩
 rw [hrg] at hln hfall hn1 hn16 hR ⊢
 rw [hdee] at hde hde2 H9 ⊢
 clear hRF hrg hdee hr hg hk h
 rw [hln] at hn1 hn16
 obtain ⟨d0, d1⟩ := hde2
 obtain ⟨m, rfl⟩ : ∃ m, rn = m + 1 := ⟨rn - 1, by omega⟩
 have HLN := Qh hln
 obtain ⟨ab, ao, x, rfl, hab, hx, hok, hrgx⟩ := hR.at (j := m) (by omega)
 obtain ⟨d, e⟩ := x
 have hu1 := hok.1; have hu2 := hok.2
 simp only [U64] at hu1 hu2
 have hrev0 : rg.reverse[0]? = some (d, e) := by rw [rev_at hln (by omega)]; exact hx
 obtain ⟨tl, htl⟩ : ∃ tl, rg.reverse = (d, e) :: tl := by
  cases hq : rg.reverse with
  | nil => rw [hq] at hrev0; cases hrev0
  | cons y l => rw [hq] at hrev0; injection hrev0 with e9; exact ⟨l, by rw [e9]⟩
 have htll : tl.length = m := by have := congrArg List.length htl; rw [List.length_reverse, hln, List.length_cons] at this; omega
 have htop : e ≤ 4611686018427387904 ∧ d < e := by rw [htl] at hfall; cases tl with
  | nil => exact ⟨hfall.2.2, hfall.2.1⟩
  | cons z l => exact ⟨hfall.2.2.1, hfall.2.1⟩
 have hack : ackV rg de = [e - 1, de, (m : Int), e - 1 - d] ++ revGaps rg.reverse := by unfold ackV; rw [htl]; simp only; rw [htll]
 have hrev1 : revGaps (rg.reverse.take (0 + 1)) = [] := gaps_one
 rw [hack]
 have HREV := Qh hrev1
 have HFALL := Qh hfall
 obtain ⟨t1, t2⟩ := htop
 have HRW := Qh (hR.below hb0)
 have HRGX : Hid (w.rangeAt ab (ao + m * 2) [.int .u64 d, .int .u64 e]) := Qh (by
  obtain ⟨ab', ao', x', e1, _, hx', _, hrg'⟩ := (hR.below hb0).at (j := m) (by omega)
  injection e1 with e1; injection e1 with e1 e2; subst e1; subst e2
  rw [hx] at hx'; injection hx' with hx'; subst hx'; exact hrg')
 have hab2 : ab < W0.heap.size := hab
 have HAB := Qh hab2
 have HW := Qh hW
 have HBB := Qh hb0
 have HU0 := Qh hfall
 obtain ⟨u1, u2⟩ := hu1
 obtain ⟨u3, u4⟩ := hu2
 clear hR hx hok hrgx hrev0 htl htll hack hrev1 hfall hab hab2 hW hb0 HU0 tl hln
 go_enter Try.func55, Try.ntmps55
 have HB := Qh (Below.refl w.heap.size w)
 go_upto_region 1 with fail
 change Code.wp _ _ _ _ (w.alloc (.cells RF.toArray 39))
 have hgp : w.heap.size ≠ p ∧ v.ownBlock ≠ some w.heap.size := ⟨by have := HW.out.lt; omega, fun e => by have := (HW.out.own.lt _ e).2; omega⟩
 have HGP := Qh hgp
 clear hgp
 replace HRGX : Hid ((w.alloc (.cells RF.toArray 39)).rangeAt ab (ao + m * 2) [.int .u64 d, .int .u64 e]) := Qh (fun i x hi => bl_cell ((Below.refl w.heap.size w).alloc (Nat.le_refl _) (.cells RF.toArray 39)) (p := ⟨ab, ao + m * 2 + i, none⟩) (Nat.lt_of_lt_of_le HAB.out HBB.out.size) (HRGX.out i x hi))
 have hb := (Below.refl w.heap.size w).alloc (Nat.le_refl _) (.cells RF.toArray 39)
 replace HRW := Qh (HRW.out.below hb)
 replace HW := Qh (HW.out.to hb)
 replace HB := Qh (bl_next HB.out HB.out.size hb)
 have HF := Qh (heap_alloc_new w (.cells RF.toArray 39))
 clear hb
 generalize w.alloc (.cells RF.toArray 39) = w1 at HRW HW HB HRGX HF ⊢
 obtain ⟨gf, hg⟩ : ∃ g, w.heap.size = g := ⟨_, rfl⟩
 rw [hg] at HF HGP ⊢
 clear hg
 have c9 := cell_row HF.out 9 _ H9.out
 have c10 := cell_row HF.out 10 _ H10.out
 go_upto_region 3 with (first | (refine wpList_load_mid rfl 71 _ rfl ab (ao + m * 2) rfl [.int .u64 d, .int .u64 e] _ HRGX.out Try.underlying71 rfl rfl ?_) | fail)
 change Code.wp _ _ _ _ (w1.alloc (.cells ([.int .u64 d, .int .u64 e] : List Value).toArray 71))
 have hgr : gf ≠ w1.heap.size := by have := lt_of_block HF.out; omega
 clear c9 c10 HRGX
 have hb := (Below.refl w1.heap.size w1).alloc (Nat.le_refl _) (.cells ([.int .u64 d, .int .u64 e] : List Value).toArray 71)
 replace HRW := Qh (HRW.out.below hb)
 replace HW := Qh (HW.out.to hb)
 replace HB := Qh (bl_next HB.out HB.out.size hb)
 replace HF := Qh (bl_row hb (lt_of_block HF.out) HF.out)
 have HG := Qh (heap_alloc_new w1 (.cells ([.int .u64 d, .int .u64 e] : List Value).toArray 71))
 clear hb
 generalize w1.alloc (.cells ([.int .u64 d, .int .u64 e] : List Value).toArray 71) = w2 at HRW HW HB HF HG ⊢
 obtain ⟨gr, hg⟩ : ∃ g, w1.heap.size = g := ⟨_, rfl⟩
 rw [hg] at HG hgr ⊢
 clear hg hgr
 have c9 := cell_row HF.out 9 _ H9.out
 have c10 := cell_row HF.out 10 _ H10.out
 have c11 := row_cell HG.out 0 _ rfl
 have c12 := row_cell HG.out 1 _ rfl
 have hcl := (WrU.start HW.out).vars [e - 1, de, (m : Int), e - 1 - d] 4 rfl (fun x hx => by simp only [List.mem_cons, List.not_mem_nil, or_false] at hx; rcases hx with rfl | rfl | rfl | rfl <;> exact wf_u64r (by omega) (by omega)) (by omega) (by omega)
 have HCL := Qh hcl
 clear hcl
 go_wp2_with fail
 refine Calls.mono HCL.out ?_
 rintro e9 w3 ⟨rfl, hu⟩
 have HU := Qh hu
 clear hu HCL c9 c10 c11 c12 HG
 go_wp2_with fail
 go_loopw [6] (fun s6 wr => ∃ j : Nat, s6 = .int .i64 ((m : Int) - 1 - j) ∧ j ≤ m ∧ Hid (WrU w2 W0.heap.size p v wr (bs ++ varsM ([e - 1, de, (m : Int), e - 1 - d] ++ revGaps (rg.reverse.take (j + 1)))))) (fun s _ => (intOf s + 1).toNat)
 case atStart => exact ⟨0, by simp, by omega, Qh (by rw [HREV.out, List.append_nil]; exact HU.out)⟩
 case round =>
  clear HU
  obtain ⟨j, rfl, hj, HU⟩ := hrel
  by_cases hlt : j < m
  ·
   obtain ⟨i, hi⟩ : ∃ i : Nat, m = i + j + 1 := ⟨m - 1 - j, by omega⟩
   obtain ⟨i2, hi2⟩ : ∃ i2 : Int, (m : Int) - 1 - j = i2 := ⟨_, rfl⟩
   have hi3 : i2 = (i : Int) := by omega
   rw [hi2, hi3]
   clear hi2 hi3 i2
   obtain ⟨v1, hw1, hc1, ho1⟩ := HU.out
   have hrw : rgK.At wr (some ⟨ab, ao, none⟩) (m + 1) rg := HRW.out.chb hc1 (fun b hb => by injection hb with hb; subst hb; exact ⟨by have := HW.out.lo; have := HAB.out; show ab ≠ p; omega, fun e => absurd (own_base HW.out.own ab e) (by have := HAB.out; omega)⟩)
   obtain ⟨ab', ao', x, e1, _, hx, hok, hrgx⟩ := hrw.at (j := i) (by omega)
   injection e1 with e1; injection e1 with e1 e2; subst e1; subst e2
   obtain ⟨ab', ao', y, e1, _, hy, hok2, hrgy⟩ := hrw.at (j := i + 1) (by omega)
   injection e1 with e1; injection e1 with e1 e2; subst e1; subst e2
   obtain ⟨lo, hi9⟩ := x
   obtain ⟨lo2, hi29⟩ := y
   have hra : rg.reverse[j]? = some (lo2, hi29) := by rw [rev_at HLN.out (by omega), show m + 1 - 1 - j = i + 1 by omega]; exact hy
   have hrb : rg.reverse[j + 1]? = some (lo, hi9) := by rw [rev_at HLN.out (by omega), show m + 1 - 1 - (j + 1) = i by omega]; exact hx
   have HGS := Qh (gaps_snoc hra hrb)
   have hfa := fall_at HFALL.out hra hrb
   simp only at hfa
   have hlo2c : wr.cell? ⟨ab, ao + (i + 1) * 2, none⟩ = some (.int .u64 lo2) := hrgy 0 _ rfl
   have HRX : Hid (wr.rangeAt ab (ao + i * 2) [.int .u64 lo, .int .u64 hi9]) := Qh hrgx
   have HL2 := Qh hlo2c
   have HFW : Hid (wr.heap[gf]? = some (.cells RF.toArray 39 (0, 0))) := Qh (HU.out.row HF.out HGP.out.1 HGP.out.2)
   have HW1 := Qh hw1; have HC1 := Qh hc1; have HO1 := Qh ho1
   clear hw1 hc1 ho1 hrw hx hok hrgx hy hok2 hrgy hra hrb hlo2c
   obtain ⟨f1, f2, f3, f4⟩ := hfa
   have HIJ := Qh hi
   have hin9 : i + 1 < m + 1 := by omega
   have hle9 := varsM_le ([e - 1, de, (m : Int), e - 1 - d] ++ revGaps (rg.reverse.take (j + 1)))
   have hlg : (revGaps (rg.reverse.take (j + 1))).length ≤ 40 := by have := gaps_len (rg.reverse.take (j + 1)); have h9 := List.length_take_le (j + 1) rg.reverse; omega
   simp only [List.length_append, List.length_cons, List.length_nil] at hle9
   have hbl : (bs ++ varsM ([e - 1, de, (m : Int), e - 1 - d] ++ revGaps (rg.reverse.take (j + 1)))).length ≤ 100000 := by rw [List.length_append]; omega
   have HBL := Qh hbl
   clear hle9 hlg hbl hi
   have c10 := cell_row HFW.out 10 _ H10.out
   go_upto_region 8 with (first | (refine wpList_load_mid rfl 71 _ rfl ab (ao + i * 2) rfl [.int .u64 lo, .int .u64 hi9] _ HRX.out Try.underlying71 rfl rfl ?_) | fail)
   change Code.wp _ _ _ _ (wr.alloc (.cells ([.int .u64 lo, .int .u64 hi9] : List Value).toArray 71))
   clear c10 HRX
   have hb := (Below.refl wr.heap.size wr).alloc (Nat.le_refl _) (.cells ([.int .u64 lo, .int .u64 hi9] : List Value).toArray 71)
   have hg4 : wr.heap.size ≠ p ∧ v1.ownBlock ≠ some wr.heap.size := ⟨by have := HW1.out.lt; omega, fun e => by have := (HW1.out.own.lt _ e).2; omega⟩
   have hg5 : gf ≠ p ∧ v1.ownBlock ≠ some gf := ⟨HGP.out.1, fun e => by rcases HO1.out with h9 | ⟨k, hk, h9⟩ <;> rw [h9] at e; exact HGP.out.2 e; injection e with e; have := lt_of_block HF.out; omega⟩
   have hg6 : ab ≠ p ∧ v1.ownBlock ≠ some ab := ⟨by have := HW.out.lo; have := HAB.out; omega, fun e => by have := own_base HW1.out.own _ e; have := HAB.out; omega⟩
   have habw : ab < wr.heap.size := by have := HAB.out; have := HC1.out.size; have := HB.out.size; have := HBB.out.size; omega
   have HGG := Qh (And.intro hg5 (And.intro hg4 (And.intro hg6 (Nat.lt_of_lt_of_le habw hb.size))))
   clear hg4 hg5 hg6
   replace HFW := Qh (bl_row hb (lt_of_block HFW.out) HFW.out)
   replace HL2 := Qh (bl_cell hb (p := ⟨ab, ao + (i + 1) * 2, none⟩) habw HL2.out)
   replace HW1 := Qh (HW1.out.to hb)
   have HBX := Qh hb
   have HG := Qh (heap_alloc_new wr (.cells ([.int .u64 lo, .int .u64 hi9] : List Value).toArray 71))
   clear hb habw
   generalize wr.alloc (.cells ([.int .u64 lo, .int .u64 hi9] : List Value).toArray 71) = w5 at HFW HL2 HW1 HBX HG HGG ⊢
   obtain ⟨gr, hg⟩ : ∃ g, wr.heap.size = g := ⟨_, rfl⟩
   rw [hg] at HG HGG ⊢
   clear hg
   refine pa_gap _ HW1 HBL.out HFW H10 HG HL2 hin9 hn16 ⟨f1, f2, f3, f4⟩ HGG (fun c a d v w h => by cases d <;> exact h) ?_
   rintro _ _ _ _ _ _ _ _ _ _ _ _ _ _ _ _ _ _ _ _ w6 HU6
   have HN : Hid (WrU w2 W0.heap.size p v w6 (bs ++ varsM ([e - 1, de, (m : Int), e - 1 - d] ++ revGaps (rg.reverse.take (j + 1 + 1))))) := Qh (by rw [show j + 1 + 1 = j + 2 by omega, HGS.out, ← List.append_assoc [e - 1, de, (m : Int), e - 1 - d], varsM_app _ [lo2 - hi9 - 1, hi9 - 1 - lo], ← List.append_assoc]; exact WrU.next HC1.out HO1.out (WrU.from HBX.out HU6.out))
   clear HU6 HG HGG HL2 HFW HW1 HC1 HO1 HBX HGS HU HBL
   go_wp2_with fail
   go_roundw
   case rel => exact ⟨j + 1, by rw [show ((m : Int) - 1 - ((j + 1 : Nat) : Int)) = (i : Int) - 1 by have := HIJ.out; omega], by omega, HN⟩
   case measure => have := HIJ.out; simp [intOf] <;> omega
  ·
   obtain rfl : j = m := by omega
   have hN : WrU w W0.heap.size p v wr (bs ++ varsM ([e - 1, de, (j : Int), e - 1 - d] ++ revGaps rg.reverse)) := by have h9 := HU.out; rw [List.take_of_length_le (by rw [List.length_reverse, HLN.out]; exact Nat.le_refl _)] at h9; exact WrU.from HB.out h9
   have HN := Qh hN
   clear hN HU
   rw [show (j : Int) - 1 - j = -1 by omega]
   go_wp2_with fail
   (try simp only [Exit.inBlock, Exit.then])
   refine bodyPost_end (results_none rfl _ _ _) rfl ?_
   exact ⟨rfl, HN.out⟩
end Go.Proofs.Ytmbjepcbokbemaa
namespace Go.Proofs.Ytmbjepcbokbemaa
open Go.RowKit
theorem WrU.var {w y : World} {B p : Nat} {v : Value} {bs : List Int} (h : WrU w B p v y bs) (n : Int) (hn : 0 ≤ n ∧ n < 18446744073709551616) (hl : bs.length ≤ 100000) :
  Calls Try.prog 53 #[.pointer (some ⟨p, 0, none⟩), .int .u64 n] y fun e w' => (∃ b, e = .returned (.bool b)) ∧ WrU w B p v w' (bs ++ putM n) := by
 obtain ⟨v1, h1, h2, h3⟩ := h
 refine Calls.mono (wvar_any y B p v1 bs n (by omega) h1 hn) ?_
 rintro e w' ⟨v2, rfl, k1, k2, k3⟩
 exact ⟨⟨_, rfl⟩, v2, k1, h2.next k2 h3, own_next h2.size h3 k3⟩
theorem WrU.raw {w y : World} {B p : Nat} {v : Value} {bs : List Int} (h : WrU w B p v y bs) (a : Option Addr) (n c : Nat) (xs : List Int) (hI : IntsK .u8 y a n xs) (hl : bs.length + n ≤ 200000) :
  Calls Try.prog 59 #[.pointer (some ⟨p, 0, none⟩), .slice a n c] y fun e w' => e = .returned (.tuple #[]) ∧ WrU w B p v w' (bs ++ xs) := by
 obtain ⟨v1, h1, h2, h3⟩ := h
 refine Calls.mono (wraw_any y B p v1 bs a n c xs (by omega) h1 hI) ?_
 rintro e w' ⟨v2, rfl, k1, k2, k3⟩
 exact ⟨rfl, v2, k1, h2.next k2 h3, own_next h2.size h3 k3⟩
theorem WrU.byte {w y : World} {B p : Nat} {v : Value} {bs : List Int} (h : WrU w B p v y bs) (x : Int) (hx : (Lit.int .u8 x).wf = true) (hl : bs.length ≤ 200000) :
  Calls Try.prog 58 #[.pointer (some ⟨p, 0, none⟩), .int .u8 x] y fun e w' => e = .returned (.tuple #[]) ∧ WrU w B p v w' (bs ++ [x]) := by
 obtain ⟨v1, h1, h2, h3⟩ := h
 refine Calls.mono (wbyte_any y B p v1 bs x (by omega) h1 hx) ?_
 rintro e w' ⟨v2, rfl, k1, k2, k3⟩
 exact ⟨rfl, v2, k1, h2.next k2 h3, own_next h2.size h3 k3⟩
theorem Ch.low {W0 w y : World} {p : Nat} {q : Option Nat} (hb : Below W0.heap.size W0 w) (h : Ch w y p q) (hp : W0.heap.size ≤ p) (hq : ∀ k, q = some k → W0.heap.size ≤ k) : Below W0.heap.size W0 y := h.below hb hb.size hp hq
theorem WrU.low {W0 w y : World} {p : Nat} {v : Value} {bs : List Int} (hb : Below W0.heap.size W0 w) (hp : W0.heap.size ≤ p) (hv : ∀ k, v.ownBlock = some k → W0.heap.size ≤ k) (h : WrU w W0.heap.size p v y bs) : Below W0.heap.size W0 y := by
 obtain ⟨v1, h1, h2, h3⟩ := h
 exact h2.low hb hp hv
theorem WrU.text {W0 w y : World} {p : Nat} {v : Value} {bs : List Int} (hb : Below W0.heap.size W0 w) (hp : W0.heap.size ≤ p) (hv : ∀ k, v.ownBlock = some k → W0.heap.size ≤ k) (h : WrU w W0.heap.size p v y bs) (a : Option Addr) (n c : Nat) (xs : List Int) (hI : IntsK .u8 W0 a n xs) (hl : bs.length ≤ 100000) (hn : n ≤ 1000) :
  Calls Try.prog 57 #[.pointer (some ⟨p, 0, none⟩), .slice a n c] y fun e w' => e = .returned (.tuple #[]) ∧ WrU w W0.heap.size p v w' (bs ++ textB xs) := by
 have hlow := h.low hb hp hv
 obtain ⟨v1, h1, h2, h3⟩ := h
 have hap : 0 < n → ∀ x, a = some x → x.block ≠ p ∧ v1.ownBlock ≠ some x.block := by
  intro h0 x hx
  rcases hI.2.2 with h9 | ⟨b, off, h9, hbl, _⟩
  ·
   omega
  ·
   rw [h9] at hx; injection hx with hx; subst hx
   exact ⟨by show b ≠ p; omega, fun e => absurd (own_base h1.own b e) (by omega)⟩
 refine Calls.mono (wtext_any y W0.heap.size p v1 bs a n c xs (by omega) h1 (hI.below hlow) hap) ?_
 rintro e w' ⟨v2, rfl, k1, k2, k3⟩
 refine ⟨rfl, v2, ?_, h2.next k2 h3, own_next h2.size h3 k3⟩
 unfold textB; rw [hI.1]; exact k1
theorem ints_cid {w : World} {g : Nat} {RF : List Value} {t : TypeId} {cid : List Int} {o : Nat} (h : w.heap[g]? = some (.cells RF.toArray t (0, 0))) (hc : RF.drop o = cid.map (Value.int .u8)) (hl : cid.length = 8) (hw : ∀ x ∈ cid, (Lit.int .u8 x).wf = true) : IntsK .u8 w (some ⟨g, o, none⟩) 8 cid := by
 refine ⟨hl, hw, .inr ⟨g, o, rfl, lt_of_block h, fun i hi => ?_⟩⟩
 have h1 : (RF.drop o)[i]? = some (.int .u8 (cid.getD i 0)) := by
  rw [hc, List.getElem?_map, List.getD_eq_getElem?_getD, List.getElem?_eq_getElem (by omega)]; rfl
 rw [List.getElem?_drop] at h1
 exact cell_row h (o + i) _ h1
theorem text_le (l : List Int) : (textB l).length ≤ 8 + l.length := by unfold textB; rw [List.length_append]; have := putM_le l.length; omega
theorem right_data {f : Fr} (hr : rightB f = true) (hk : f.kind = 6 ∨ f.kind = 8 ∨ f.kind = 28) : f.data.length ≤ 512 := by
 unfold rightB at hr
 rcases hk with hk | hk | hk
 ·
  simp [hk] at hr; exact (atB_iff.1 hr).1
 ·
  simp [hk] at hr; exact (atB_iff.1 hr.2).1
 ·
  simp [hk] at hr; omega
theorem put4_0 (W0 w : World) (p : Nat) (v : Value) (bs : List Int) (f : Fr) (dv rv : Value) (h : FrAt W0 f dv rv) (hb0 : Below W0.heap.size W0 w) (hk : f.kind = 0) (hr : rightB f = true) (hg : RgOk f) (hW : Wr w W0.heap.size p v bs) (hl : bs.length ≤ 10000) :
  Calls Try.prog 28 #[.pointer (some ⟨p, 0, none⟩), .agg (f.cells dv rv).toArray] w fun e w' => e = .returned (.tuple #[]) ∧ WrU w W0.heap.size p v w' (bs ++ oneFM f) := by
 have hwf := h.wf
 have hkm := kindM_in hr
 have hone : bs ++ oneFM f = bs ++ putM (kindM f) := by unfold oneFM bodyM; simp [hk, varsM]
 rw [hone]
 clear hone
 have HRF : Hid ((f.cells dv rv).length = 19) := Qh (Fr.len hwf)
 have H0 : Hid ((f.cells dv rv)[0]? = some (.int .i64 0)) := Qh (by rw [← hk]; rfl)
 have hkd := fun u => kind4_any u f dv rv hwf hr
 obtain ⟨kk, hkk⟩ : ∃ kk, kindM f = kk := ⟨_, rfl⟩
 rw [hkk] at hkm ⊢
 simp only [hkk] at hkd
 obtain ⟨RF, hRF⟩ : ∃ R, (f.cells dv rv) = R := ⟨_, rfl⟩
 simp only [hRF] at HRF H0 hkd
 rw [hRF]
 have HKD := Qh hkd
 have HB0 := Qh hb0
 have HLO := Qh hW.lo; have HOWN := Qh (own_base hW.own)
 clear hwf h hRF hkd hg hkk hb0 hr hk
 obtain ⟨m1, m2⟩ := hkm
 have hgp : w.heap.size ≠ p ∧ v.ownBlock ≠ some w.heap.size := ⟨by have := hW.lt; omega, fun e => by have := (hW.own.lt _ e).2; omega⟩
 have HGP := Qh hgp
 have HW := Qh hW
 clear hgp hW
 go_enter Try.func28, Try.ntmps28
 go_upto_region 1 with fail
 change Code.wp _ _ _ _ (w.alloc (.cells RF.toArray 39))
 have hb := (Below.refl w.heap.size w).alloc (Nat.le_refl _) (.cells RF.toArray 39)
 have HB1 := Qh hb
 have HF := Qh (heap_alloc_new w (.cells RF.toArray 39))
 replace HW := Qh (HW.out.to hb)
 replace HB0 := Qh (bl_next HB0.out HB0.out.size hb)
 clear hb
 generalize w.alloc (.cells RF.toArray 39) = w1 at HB1 HF HW HB0 ⊢
 obtain ⟨gf, hg⟩ : ∃ g, w.heap.size = g := ⟨_, rfl⟩
 rw [hg] at HF HGP ⊢
 clear hg
 have HU := Qh (WrU.start HW.out)
 have HFC := HF
 go_wp2_with (first | (refine wpList_load_mid rfl 39 _ rfl gf 0 rfl RF _ (rngL HFC.out) Try.underlying39 rfl (by rw [HRF.out]; rfl) ?_) | fail)
 refine Calls.mono (HKD.out w1) ?_
 rintro e9 w2 ⟨rfl, hb⟩
 replace HU := Qh (HU.out.to hb)
 replace HFC := Qh (bl_row hb (lt_of_block HFC.out) HFC.out)
 clear hb HKD
 have hcl := HU.out.var kk ⟨by omega, by omega⟩ (by omega)
 have HCL := Qh hcl
 clear hcl
 go_wp2_with fail
 refine Calls.mono HCL.out ?_
 rintro e9 w3 ⟨⟨_, rfl⟩, hu⟩
 replace HU := Qh hu
 clear hu HCL HFC
 have HFC := Qh (HU.out.row HF.out HGP.out.1 HGP.out.2)
 have c0 := cell_row HFC.out 0 _ H0.out
 go_wp2_with fail
 (try simp only [Exit.inBlock, Exit.then])
 refine bodyPost_end (results_none rfl _ _ _) rfl ?_
 exact ⟨rfl, by have h9 := WrU.from HB1.out HU.out; simpa only [List.append_assoc, List.append_nil] using h9⟩
theorem put4_1 (W0 w : World) (p : Nat) (v : Value) (bs : List Int) (f : Fr) (dv rv : Value) (h : FrAt W0 f dv rv) (hb0 : Below W0.heap.size W0 w) (hk : f.kind = 1) (hr : rightB f = true) (hg : RgOk f) (hW : Wr w W0.heap.size p v bs) (hl : bs.length ≤ 10000) :
  Calls Try.prog 28 #[.pointer (some ⟨p, 0, none⟩), .agg (f.cells dv rv).toArray] w fun e w' => e = .returned (.tuple #[]) ∧ WrU w W0.heap.size p v w' (bs ++ oneFM f) := by
 have hwf := h.wf
 have hkm := kindM_in hr
 have hone : bs ++ oneFM f = bs ++ putM (kindM f) := by unfold oneFM bodyM; simp [hk, varsM]
 rw [hone]
 clear hone
 have HRF : Hid ((f.cells dv rv).length = 19) := Qh (Fr.len hwf)
 have H0 : Hid ((f.cells dv rv)[0]? = some (.int .i64 1)) := Qh (by rw [← hk]; rfl)
 have hkd := fun u => kind4_any u f dv rv hwf hr
 obtain ⟨kk, hkk⟩ : ∃ kk, kindM f = kk := ⟨_, rfl⟩
 rw [hkk] at hkm ⊢
 simp only [hkk] at hkd
 obtain ⟨RF, hRF⟩ : ∃ R, (f.cells dv rv) = R := ⟨_, rfl⟩
 simp only [hRF] at HRF H0 hkd
 rw [hRF]
 have HKD := Qh hkd
 have HB0 := Qh hb0
 have HLO := Qh hW.lo; have HOWN := Qh (own_base hW.own)
 clear hwf h hRF hkd hg hkk hb0 hr hk
 obtain ⟨m1, m2⟩ := hkm
 have hgp : w.heap.size ≠ p ∧ v.ownBlock ≠ some w.heap.size := ⟨by have := hW.lt; omega, fun e => by have := (hW.own.lt _ e).2; omega⟩
 have HGP := Qh hgp
 have HW := Qh hW
 clear hgp hW
 go_enter Try.func28, Try.ntmps28
 go_upto_region 1 with fail
 change Code.wp _ _ _ _ (w.alloc (.cells RF.toArray 39))
 have hb := (Below.refl w.heap.size w).alloc (Nat.le_refl _) (.cells RF.toArray 39)
 have HB1 := Qh hb
 have HF := Qh (heap_alloc_new w (.cells RF.toArray 39))
 replace HW := Qh (HW.out.to hb)
 replace HB0 := Qh (bl_next HB0.out HB0.out.size hb)
 clear hb
 generalize w.alloc (.cells RF.toArray 39) = w1 at HB1 HF HW HB0 ⊢
 obtain ⟨gf, hg⟩ : ∃ g, w.heap.size = g := ⟨_, rfl⟩
 rw [hg] at HF HGP ⊢
 clear hg
 have HU := Qh (WrU.start HW.out)
 have HFC := HF
 go_wp2_with (first | (refine wpList_load_mid rfl 39 _ rfl gf 0 rfl RF _ (rngL HFC.out) Try.underlying39 rfl (by rw [HRF.out]; rfl) ?_) | fail)
 refine Calls.mono (HKD.out w1) ?_
 rintro e9 w2 ⟨rfl, hb⟩
 replace HU := Qh (HU.out.to hb)
 replace HFC := Qh (bl_row hb (lt_of_block HFC.out) HFC.out)
 clear hb HKD
 have hcl := HU.out.var kk ⟨by omega, by omega⟩ (by omega)
 have HCL := Qh hcl
 clear hcl
 go_wp2_with fail
 refine Calls.mono HCL.out ?_
 rintro e9 w3 ⟨⟨_, rfl⟩, hu⟩
 replace HU := Qh hu
 clear hu HCL HFC
 have HFC := Qh (HU.out.row HF.out HGP.out.1 HGP.out.2)
 have c0 := cell_row HFC.out 0 _ H0.out
 go_wp2_with fail
 (try simp only [Exit.inBlock, Exit.then])
 refine bodyPost_end (results_none rfl _ _ _) rfl ?_
 exact ⟨rfl, by have h9 := WrU.from HB1.out HU.out; simpa only [List.append_assoc, List.append_nil] using h9⟩
theorem put4_30 (W0 w : World) (p : Nat) (v : Value) (bs : List Int) (f : Fr) (dv rv : Value) (h : FrAt W0 f dv rv) (hb0 : Below W0.heap.size W0 w) (hk : f.kind = 30) (hr : rightB f = true) (hg : RgOk f) (hW : Wr w W0.heap.size p v bs) (hl : bs.length ≤ 10000) :
  Calls Try.prog 28 #[.pointer (some ⟨p, 0, none⟩), .agg (f.cells dv rv).toArray] w fun e w' => e = .returned (.tuple #[]) ∧ WrU w W0.heap.size p v w' (bs ++ oneFM f) := by
 have hwf := h.wf
 have hkm := kindM_in hr
 have hone : bs ++ oneFM f = bs ++ putM (kindM f) := by unfold oneFM bodyM; simp [hk, varsM]
 rw [hone]
 clear hone
 have HRF : Hid ((f.cells dv rv).length = 19) := Qh (Fr.len hwf)
 have H0 : Hid ((f.cells dv rv)[0]? = some (.int .i64 30)) := Qh (by rw [← hk]; rfl)
 have hkd := fun u => kind4_any u f dv rv hwf hr
 obtain ⟨kk, hkk⟩ : ∃ kk, kindM f = kk := ⟨_, rfl⟩
 rw [hkk] at hkm ⊢
 simp only [hkk] at hkd
 obtain ⟨RF, hRF⟩ : ∃ R, (f.cells dv rv) = R := ⟨_, rfl⟩
 simp only [hRF] at HRF H0 hkd
 rw [hRF]
 have HKD := Qh hkd
 have HB0 := Qh hb0
 have HLO := Qh hW.lo; have HOWN := Qh (own_base hW.own)
 clear hwf h hRF hkd hg hkk hb0 hr hk
 obtain ⟨m1, m2⟩ := hkm
 have hgp : w.heap.size ≠ p ∧ v.ownBlock ≠ some w.heap.size := ⟨by have := hW.lt; omega, fun e => by have := (hW.own.lt _ e).2; omega⟩
 have HGP := Qh hgp
 have HW := Qh hW
 clear hgp hW
 go_enter Try.func28, Try.ntmps28
 go_upto_region 1 with fail
 change Code.wp _ _ _ _ (w.alloc (.cells RF.toArray 39))
 have hb := (Below.refl w.heap.size w).alloc (Nat.le_refl _) (.cells RF.toArray 39)
 have HB1 := Qh hb
 have HF := Qh (heap_alloc_new w (.cells RF.toArray 39))
 replace HW := Qh (HW.out.to hb)
 replace HB0 := Qh (bl_next HB0.out HB0.out.size hb)
 clear hb
 generalize w.alloc (.cells RF.toArray 39) = w1 at HB1 HF HW HB0 ⊢
 obtain ⟨gf, hg⟩ : ∃ g, w.heap.size = g := ⟨_, rfl⟩
 rw [hg] at HF HGP ⊢
 clear hg
 have HU := Qh (WrU.start HW.out)
 have HFC := HF
 go_wp2_with (first | (refine wpList_load_mid rfl 39 _ rfl gf 0 rfl RF _ (rngL HFC.out) Try.underlying39 rfl (by rw [HRF.out]; rfl) ?_) | fail)
 refine Calls.mono (HKD.out w1) ?_
 rintro e9 w2 ⟨rfl, hb⟩
 replace HU := Qh (HU.out.to hb)
 replace HFC := Qh (bl_row hb (lt_of_block HFC.out) HFC.out)
 clear hb HKD
 have hcl := HU.out.var kk ⟨by omega, by omega⟩ (by omega)
 have HCL := Qh hcl
 clear hcl
 go_wp2_with fail
 refine Calls.mono HCL.out ?_
 rintro e9 w3 ⟨⟨_, rfl⟩, hu⟩
 replace HU := Qh hu
 clear hu HCL HFC
 have HFC := Qh (HU.out.row HF.out HGP.out.1 HGP.out.2)
 have c0 := cell_row HFC.out 0 _ H0.out
 go_wp2_with fail
 (try simp only [Exit.inBlock, Exit.then])
 refine bodyPost_end (results_none rfl _ _ _) rfl ?_
 exact ⟨rfl, by have h9 := WrU.from HB1.out HU.out; simpa only [List.append_assoc, List.append_nil] using h9⟩
theorem put4_2 (W0 w : World) (p : Nat) (v : Value) (bs : List Int) (f : Fr) (dv rv : Value) (h : FrAt W0 f dv rv) (hb0 : Below W0.heap.size W0 w) (hk : f.kind = 2) (hr : rightB f = true) (hg : RgOk f) (hW : Wr w W0.heap.size p v bs) (hl : bs.length ≤ 10000) :
  Calls Try.prog 28 #[.pointer (some ⟨p, 0, none⟩), .agg (f.cells dv rv).toArray] w fun e w' => e = .returned (.tuple #[]) ∧ WrU w W0.heap.size p v w' (bs ++ oneFM f) := by
 have hwf := h.wf
 have hkm := kindM_in hr
 have hone : bs ++ oneFM f = bs ++ putM (kindM f) ++ varsM (ackV f.rg f.de) := by unfold oneFM bodyM; simp [hk, varsM]
 rw [hone]
 clear hone
 have HRF : Hid ((f.cells dv rv).length = 19) := Qh (Fr.len hwf)
 have H0 : Hid ((f.cells dv rv)[0]? = some (.int .i64 2)) := Qh (by rw [← hk]; rfl)
 have hkd := fun u => kind4_any u f dv rv hwf hr
 obtain ⟨kk, hkk⟩ : ∃ kk, kindM f = kk := ⟨_, rfl⟩
 rw [hkk] at hkm ⊢
 simp only [hkk] at hkd
 have hpa := fun u v2 bs2 hb2 hw2 hl2 => putack_any W0 u p v2 bs2 f dv rv h hb2 hk hr hg hw2 hl2
 obtain ⟨av, hav⟩ : ∃ y, varsM (ackV f.rg f.de) = y := ⟨_, rfl⟩
 rw [hav] at hpa ⊢
 clear hav
 obtain ⟨RF, hRF⟩ : ∃ R, (f.cells dv rv) = R := ⟨_, rfl⟩
 simp only [hRF] at HRF H0 hkd hpa
 rw [hRF]
 have HKD := Qh hkd; have HPA := Qh hpa
 have HB0 := Qh hb0
 have HLO := Qh hW.lo; have HOWN := Qh (own_base hW.own)
 clear hwf h hRF hkd hg hkk hb0 hpa hr hk
 obtain ⟨m1, m2⟩ := hkm
 have hgp : w.heap.size ≠ p ∧ v.ownBlock ≠ some w.heap.size := ⟨by have := hW.lt; omega, fun e => by have := (hW.own.lt _ e).2; omega⟩
 have HGP := Qh hgp
 have HW := Qh hW
 clear hgp hW
 go_enter Try.func28, Try.ntmps28
 go_upto_region 1 with fail
 change Code.wp _ _ _ _ (w.alloc (.cells RF.toArray 39))
 have hb := (Below.refl w.heap.size w).alloc (Nat.le_refl _) (.cells RF.toArray 39)
 have HB1 := Qh hb
 have HF := Qh (heap_alloc_new w (.cells RF.toArray 39))
 replace HW := Qh (HW.out.to hb)
 replace HB0 := Qh (bl_next HB0.out HB0.out.size hb)
 clear hb
 generalize w.alloc (.cells RF.toArray 39) = w1 at HB1 HF HW HB0 ⊢
 obtain ⟨gf, hg⟩ : ∃ g, w.heap.size = g := ⟨_, rfl⟩
 rw [hg] at HF HGP ⊢
 clear hg
 have HU := Qh (WrU.start HW.out)
 have HFC := HF
 go_wp2_with (first | (refine wpList_load_mid rfl 39 _ rfl gf 0 rfl RF _ (rngL HFC.out) Try.underlying39 rfl (by rw [HRF.out]; rfl) ?_) | fail)
 refine Calls.mono (HKD.out w1) ?_
 rintro e9 w2 ⟨rfl, hb⟩
 replace HU := Qh (HU.out.to hb)
 replace HFC := Qh (bl_row hb (lt_of_block HFC.out) HFC.out)
 clear hb HKD
 have hcl := HU.out.var kk ⟨by omega, by omega⟩ (by omega)
 have HCL := Qh hcl
 clear hcl
 go_wp2_with fail
 refine Calls.mono HCL.out ?_
 rintro e9 w3 ⟨⟨_, rfl⟩, hu⟩
 replace HU := Qh hu
 clear hu HCL HFC
 have HFC := Qh (HU.out.row HF.out HGP.out.1 HGP.out.2)
 have c0 := cell_row HFC.out 0 _ H0.out
 obtain ⟨v9, k1, k2, k3⟩ := HU.out
 have hcl := HPA.out w3 v9 (bs ++ putM kk) (HU.out.low HB0.out HLO.out HOWN.out) k1 (by rw [List.length_append]; have := putM_le kk; omega)
 have HK2 := Qh k2; have HK3 := Qh k3; have HCL := Qh hcl
 clear hcl k1 k2 k3
 go_wp2_with (first | (refine wpList_load_mid rfl 39 _ rfl gf 0 rfl RF _ (rngL HFC.out) Try.underlying39 rfl (by rw [HRF.out]; rfl) ?_) | fail)
 refine Calls.mono HCL.out ?_
 rintro e9 w4 ⟨rfl, hu⟩
 replace HU := Qh (WrU.next HK2.out HK3.out hu)
 clear hu HCL HK2 HK3 c0 HFC
 have HFC := Qh (HU.out.row HF.out HGP.out.1 HGP.out.2)
 go_wp2_with fail
 (try simp only [Exit.inBlock, Exit.then])
 refine bodyPost_end (results_none rfl _ _ _) rfl ?_
 exact ⟨rfl, by have h9 := WrU.from HB1.out HU.out; simpa only [List.append_assoc, List.append_nil] using h9⟩
theorem put4_4 (W0 w : World) (p : Nat) (v : Value) (bs : List Int) (f : Fr) (dv rv : Value) (h : FrAt W0 f dv rv) (hb0 : Below W0.heap.size W0 w) (hk : f.kind = 4) (hr : rightB f = true) (hg : RgOk f) (hW : Wr w W0.heap.size p v bs) (hl : bs.length ≤ 10000) :
  Calls Try.prog 28 #[.pointer (some ⟨p, 0, none⟩), .agg (f.cells dv rv).toArray] w fun e w' => e = .returned (.tuple #[]) ∧ WrU w W0.heap.size p v w' (bs ++ oneFM f) := by
 have hwf := h.wf
 have hkm := kindM_in hr
 have hone : bs ++ oneFM f = bs ++ putM (kindM f) ++ varsM [f.st, f.co, f.fi] := by unfold oneFM bodyM; simp [hk, varsM]
 rw [hone]
 clear hone
 have HRF : Hid ((f.cells dv rv).length = 19) := Qh (Fr.len hwf)
 have H0 : Hid ((f.cells dv rv)[0]? = some (.int .i64 4)) := Qh (by rw [← hk]; rfl)
 have hkd := fun u => kind4_any u f dv rv hwf hr
 obtain ⟨kk, hkk⟩ : ∃ kk, kindM f = kk := ⟨_, rfl⟩
 rw [hkk] at hkm ⊢
 simp only [hkk] at hkd
 have H_st : Hid ((f.cells dv rv)[1]? = some (.int .u64 f.st)) := Qh rfl
 have u_st := hwf.st
 simp only [U64] at u_st
 have H_co : Hid ((f.cells dv rv)[6]? = some (.int .u64 f.co)) := Qh rfl
 have u_co := hwf.co
 simp only [U64] at u_co
 have H_fi : Hid ((f.cells dv rv)[7]? = some (.int .u64 f.fi)) := Qh rfl
 have u_fi := hwf.fi
 simp only [U64] at u_fi
 obtain ⟨RF, hRF⟩ : ∃ R, (f.cells dv rv) = R := ⟨_, rfl⟩
 simp only [hRF] at HRF H0 hkd H_st H_co H_fi
 rw [hRF]
 obtain ⟨st, h_st⟩ : ∃ y, f.st = y := ⟨_, rfl⟩
 rw [h_st] at H_st u_st
 try rw [h_st]
 obtain ⟨u1_st, u2_st⟩ := u_st
 clear h_st
 obtain ⟨co, h_co⟩ : ∃ y, f.co = y := ⟨_, rfl⟩
 rw [h_co] at H_co u_co
 try rw [h_co]
 obtain ⟨u1_co, u2_co⟩ := u_co
 clear h_co
 obtain ⟨fi, h_fi⟩ : ∃ y, f.fi = y := ⟨_, rfl⟩
 rw [h_fi] at H_fi u_fi
 try rw [h_fi]
 obtain ⟨u1_fi, u2_fi⟩ := u_fi
 clear h_fi
 have HKD := Qh hkd
 have HB0 := Qh hb0
 have HLO := Qh hW.lo; have HOWN := Qh (own_base hW.own)
 clear hwf h hRF hkd hg hkk hb0 hr hk
 obtain ⟨m1, m2⟩ := hkm
 have hgp : w.heap.size ≠ p ∧ v.ownBlock ≠ some w.heap.size := ⟨by have := hW.lt; omega, fun e => by have := (hW.own.lt _ e).2; omega⟩
 have HGP := Qh hgp
 have HW := Qh hW
 clear hgp hW
 go_enter Try.func28, Try.ntmps28
 go_upto_region 1 with fail
 change Code.wp _ _ _ _ (w.alloc (.cells RF.toArray 39))
 have hb := (Below.refl w.heap.size w).alloc (Nat.le_refl _) (.cells RF.toArray 39)
 have HB1 := Qh hb
 have HF := Qh (heap_alloc_new w (.cells RF.toArray 39))
 replace HW := Qh (HW.out.to hb)
 replace HB0 := Qh (bl_next HB0.out HB0.out.size hb)
 clear hb
 generalize w.alloc (.cells RF.toArray 39) = w1 at HB1 HF HW HB0 ⊢
 obtain ⟨gf, hg⟩ : ∃ g, w.heap.size = g := ⟨_, rfl⟩
 rw [hg] at HF HGP ⊢
 clear hg
 have HU := Qh (WrU.start HW.out)
 have HFC := HF
 go_wp2_with (first | (refine wpList_load_mid rfl 39 _ rfl gf 0 rfl RF _ (rngL HFC.out) Try.underlying39 rfl (by rw [HRF.out]; rfl) ?_) | fail)
 refine Calls.mono (HKD.out w1) ?_
 rintro e9 w2 ⟨rfl, hb⟩
 replace HU := Qh (HU.out.to hb)
 replace HFC := Qh (bl_row hb (lt_of_block HFC.out) HFC.out)
 clear hb HKD
 have hcl := HU.out.var kk ⟨by omega, by omega⟩ (by omega)
 have HCL := Qh hcl
 clear hcl
 go_wp2_with fail
 refine Calls.mono HCL.out ?_
 rintro e9 w3 ⟨⟨_, rfl⟩, hu⟩
 replace HU := Qh hu
 clear hu HCL HFC
 have HFC := Qh (HU.out.row HF.out HGP.out.1 HGP.out.2)
 have c0 := cell_row HFC.out 0 _ H0.out
 have c_st := cell_row HFC.out 1 _ H_st.out
 have c_co := cell_row HFC.out 6 _ H_co.out
 have c_fi := cell_row HFC.out 7 _ H_fi.out
 have hcl := HU.out.vars [st, co, fi] 3 rfl (fun x hx => by simp only [List.mem_cons, List.not_mem_nil, or_false] at hx; rcases hx with rfl | rfl | rfl <;> exact wf_u64r (by omega) (by omega)) (by simp only [List.length_append, List.length_cons, List.length_nil]; have := putM_le kk; omega) (by omega)
 have HCL := Qh hcl
 clear hcl
 go_wp2_with fail
 refine Calls.mono HCL.out ?_
 rintro e9 w4 ⟨rfl, hu⟩
 replace HU := Qh hu
 clear hu HCL HFC c0 c_st c_co c_fi
 have HFC := Qh (HU.out.row HF.out HGP.out.1 HGP.out.2)
 have c0 := cell_row HFC.out 0 _ H0.out
 have c_st := cell_row HFC.out 1 _ H_st.out
 have c_co := cell_row HFC.out 6 _ H_co.out
 have c_fi := cell_row HFC.out 7 _ H_fi.out
 go_wp2_with fail
 (try simp only [Exit.inBlock, Exit.then])
 refine bodyPost_end (results_none rfl _ _ _) rfl ?_
 exact ⟨rfl, by have h9 := WrU.from HB1.out HU.out; simpa only [List.append_assoc, List.append_nil] using h9⟩
theorem put4_5 (W0 w : World) (p : Nat) (v : Value) (bs : List Int) (f : Fr) (dv rv : Value) (h : FrAt W0 f dv rv) (hb0 : Below W0.heap.size W0 w) (hk : f.kind = 5) (hr : rightB f = true) (hg : RgOk f) (hW : Wr w W0.heap.size p v bs) (hl : bs.length ≤ 10000) :
  Calls Try.prog 28 #[.pointer (some ⟨p, 0, none⟩), .agg (f.cells dv rv).toArray] w fun e w' => e = .returned (.tuple #[]) ∧ WrU w W0.heap.size p v w' (bs ++ oneFM f) := by
 have hwf := h.wf
 have hkm := kindM_in hr
 have hone : bs ++ oneFM f = bs ++ putM (kindM f) ++ varsM [f.st, f.co] := by unfold oneFM bodyM; simp [hk, varsM]
 rw [hone]
 clear hone
 have HRF : Hid ((f.cells dv rv).length = 19) := Qh (Fr.len hwf)
 have H0 : Hid ((f.cells dv rv)[0]? = some (.int .i64 5)) := Qh (by rw [← hk]; rfl)
 have hkd := fun u => kind4_any u f dv rv hwf hr
 obtain ⟨kk, hkk⟩ : ∃ kk, kindM f = kk := ⟨_, rfl⟩
 rw [hkk] at hkm ⊢
 simp only [hkk] at hkd
 have H_st : Hid ((f.cells dv rv)[1]? = some (.int .u64 f.st)) := Qh rfl
 have u_st := hwf.st
 simp only [U64] at u_st
 have H_co : Hid ((f.cells dv rv)[6]? = some (.int .u64 f.co)) := Qh rfl
 have u_co := hwf.co
 simp only [U64] at u_co
 obtain ⟨RF, hRF⟩ : ∃ R, (f.cells dv rv) = R := ⟨_, rfl⟩
 simp only [hRF] at HRF H0 hkd H_st H_co
 rw [hRF]
 obtain ⟨st, h_st⟩ : ∃ y, f.st = y := ⟨_, rfl⟩
 rw [h_st] at H_st u_st
 try rw [h_st]
 obtain ⟨u1_st, u2_st⟩ := u_st
 clear h_st
 obtain ⟨co, h_co⟩ : ∃ y, f.co = y := ⟨_, rfl⟩
 rw [h_co] at H_co u_co
 try rw [h_co]
 obtain ⟨u1_co, u2_co⟩ := u_co
 clear h_co
 have HKD := Qh hkd
 have HB0 := Qh hb0
 have HLO := Qh hW.lo; have HOWN := Qh (own_base hW.own)
 clear hwf h hRF hkd hg hkk hb0 hr hk
 obtain ⟨m1, m2⟩ := hkm
 have hgp : w.heap.size ≠ p ∧ v.ownBlock ≠ some w.heap.size := ⟨by have := hW.lt; omega, fun e => by have := (hW.own.lt _ e).2; omega⟩
 have HGP := Qh hgp
 have HW := Qh hW
 clear hgp hW
 go_enter Try.func28, Try.ntmps28
 go_upto_region 1 with fail
 change Code.wp _ _ _ _ (w.alloc (.cells RF.toArray 39))
 have hb := (Below.refl w.heap.size w).alloc (Nat.le_refl _) (.cells RF.toArray 39)
 have HB1 := Qh hb
 have HF := Qh (heap_alloc_new w (.cells RF.toArray 39))
 replace HW := Qh (HW.out.to hb)
 replace HB0 := Qh (bl_next HB0.out HB0.out.size hb)
 clear hb
 generalize w.alloc (.cells RF.toArray 39) = w1 at HB1 HF HW HB0 ⊢
 obtain ⟨gf, hg⟩ : ∃ g, w.heap.size = g := ⟨_, rfl⟩
 rw [hg] at HF HGP ⊢
 clear hg
 have HU := Qh (WrU.start HW.out)
 have HFC := HF
 go_wp2_with (first | (refine wpList_load_mid rfl 39 _ rfl gf 0 rfl RF _ (rngL HFC.out) Try.underlying39 rfl (by rw [HRF.out]; rfl) ?_) | fail)
 refine Calls.mono (HKD.out w1) ?_
 rintro e9 w2 ⟨rfl, hb⟩
 replace HU := Qh (HU.out.to hb)
 replace HFC := Qh (bl_row hb (lt_of_block HFC.out) HFC.out)
 clear hb HKD
 have hcl := HU.out.var kk ⟨by omega, by omega⟩ (by omega)
 have HCL := Qh hcl
 clear hcl
 go_wp2_with fail
 refine Calls.mono HCL.out ?_
 rintro e9 w3 ⟨⟨_, rfl⟩, hu⟩
 replace HU := Qh hu
 clear hu HCL HFC
 have HFC := Qh (HU.out.row HF.out HGP.out.1 HGP.out.2)
 have c0 := cell_row HFC.out 0 _ H0.out
 have c_st := cell_row HFC.out 1 _ H_st.out
 have c_co := cell_row HFC.out 6 _ H_co.out
 have hcl := HU.out.vars [st, co] 2 rfl (fun x hx => by simp only [List.mem_cons, List.not_mem_nil, or_false] at hx; rcases hx with rfl | rfl <;> exact wf_u64r (by omega) (by omega)) (by simp only [List.length_append, List.length_cons, List.length_nil]; have := putM_le kk; omega) (by omega)
 have HCL := Qh hcl
 clear hcl
 go_wp2_with fail
 refine Calls.mono HCL.out ?_
 rintro e9 w4 ⟨rfl, hu⟩
 replace HU := Qh hu
 clear hu HCL HFC c0 c_st c_co
 have HFC := Qh (HU.out.row HF.out HGP.out.1 HGP.out.2)
 have c0 := cell_row HFC.out 0 _ H0.out
 have c_st := cell_row HFC.out 1 _ H_st.out
 have c_co := cell_row HFC.out 6 _ H_co.out
 go_wp2_with fail
 (try simp only [Exit.inBlock, Exit.then])
 refine bodyPost_end (results_none rfl _ _ _) rfl ?_
 exact ⟨rfl, by have h9 := WrU.from HB1.out HU.out; simpa only [List.append_assoc, List.append_nil] using h9⟩
theorem put4_6 (W0 w : World) (p : Nat) (v : Value) (bs : List Int) (f : Fr) (dv rv : Value) (h : FrAt W0 f dv rv) (hb0 : Below W0.heap.size W0 w) (hk : f.kind = 6) (hr : rightB f = true) (hg : RgOk f) (hW : Wr w W0.heap.size p v bs) (hl : bs.length ≤ 10000) :
  Calls Try.prog 28 #[.pointer (some ⟨p, 0, none⟩), .agg (f.cells dv rv).toArray] w fun e w' => e = .returned (.tuple #[]) ∧ WrU w W0.heap.size p v w' (bs ++ oneFM f) := by
 have hwf := h.wf
 have hkm := kindM_in hr
 obtain ⟨da, dn, dc, rfl, hd1, hd2, hd⟩ := h.d
 have hdn : f.data.length = dn := hd.1
 have hdl : dn ≤ 512 := by rw [← hdn]; exact right_data hr (by omega)
 have HD := Qh hd
 have hone : bs ++ oneFM f = bs ++ putM (kindM f) ++ varsM [f.of_] ++ textB f.data := by unfold oneFM bodyM; simp [hk, varsM]
 rw [hone]
 clear hone
 have HRF : Hid ((f.cells (.slice da dn dc) rv).length = 19) := Qh (Fr.len hwf)
 have H0 : Hid ((f.cells (.slice da dn dc) rv)[0]? = some (.int .i64 6)) := Qh (by rw [← hk]; rfl)
 have hkd := fun u => kind4_any u f (.slice da dn dc) rv hwf hr
 obtain ⟨kk, hkk⟩ : ∃ kk, kindM f = kk := ⟨_, rfl⟩
 rw [hkk] at hkm ⊢
 simp only [hkk] at hkd
 have H_of_ : Hid ((f.cells (.slice da dn dc) rv)[2]? = some (.int .u64 f.of_)) := Qh rfl
 have u_of_ := hwf.of_
 simp only [U64] at u_of_
 have H_d : Hid ((f.cells (.slice da dn dc) rv)[3]? = some (.slice da dn dc)) := Qh rfl
 obtain ⟨data, hdata⟩ : ∃ y, f.data = y := ⟨_, rfl⟩
 rw [hdata] at HD hdn ⊢
 clear hdata hd
 obtain ⟨RF, hRF⟩ : ∃ R, (f.cells (.slice da dn dc) rv) = R := ⟨_, rfl⟩
 simp only [hRF] at HRF H0 hkd H_of_ H_d
 rw [hRF]
 obtain ⟨of_, h_of_⟩ : ∃ y, f.of_ = y := ⟨_, rfl⟩
 rw [h_of_] at H_of_ u_of_
 try rw [h_of_]
 obtain ⟨u1_of_, u2_of_⟩ := u_of_
 clear h_of_
 have HKD := Qh hkd
 have HB0 := Qh hb0
 have HLO := Qh hW.lo; have HOWN := Qh (own_base hW.own)
 clear hwf h hRF hkd hg hkk hb0 hr hk
 obtain ⟨m1, m2⟩ := hkm
 have hgp : w.heap.size ≠ p ∧ v.ownBlock ≠ some w.heap.size := ⟨by have := hW.lt; omega, fun e => by have := (hW.own.lt _ e).2; omega⟩
 have HGP := Qh hgp
 have HW := Qh hW
 clear hgp hW
 go_enter Try.func28, Try.ntmps28
 go_upto_region 1 with fail
 change Code.wp _ _ _ _ (w.alloc (.cells RF.toArray 39))
 have hb := (Below.refl w.heap.size w).alloc (Nat.le_refl _) (.cells RF.toArray 39)
 have HB1 := Qh hb
 have HF := Qh (heap_alloc_new w (.cells RF.toArray 39))
 replace HW := Qh (HW.out.to hb)
 replace HB0 := Qh (bl_next HB0.out HB0.out.size hb)
 clear hb
 generalize w.alloc (.cells RF.toArray 39) = w1 at HB1 HF HW HB0 ⊢
 obtain ⟨gf, hg⟩ : ∃ g, w.heap.size = g := ⟨_, rfl⟩
 rw [hg] at HF HGP ⊢
 clear hg
 have HU := Qh (WrU.start HW.out)
 have HFC := HF
 go_wp2_with (first | (refine wpList_load_mid rfl 39 _ rfl gf 0 rfl RF _ (rngL HFC.out) Try.underlying39 rfl (by rw [HRF.out]; rfl) ?_) | fail)
 refine Calls.mono (HKD.out w1) ?_
 rintro e9 w2 ⟨rfl, hb⟩
 replace HU := Qh (HU.out.to hb)
 replace HFC := Qh (bl_row hb (lt_of_block HFC.out) HFC.out)
 clear hb HKD
 have hcl := HU.out.var kk ⟨by omega, by omega⟩ (by omega)
 have HCL := Qh hcl
 clear hcl
 go_wp2_with fail
 refine Calls.mono HCL.out ?_
 rintro e9 w3 ⟨⟨_, rfl⟩, hu⟩
 replace HU := Qh hu
 clear hu HCL HFC
 have HFC := Qh (HU.out.row HF.out HGP.out.1 HGP.out.2)
 have c0 := cell_row HFC.out 0 _ H0.out
 have c_of_ := cell_row HFC.out 2 _ H_of_.out
 have c_d := cell_row HFC.out 3 _ H_d.out
 have hcl := HU.out.vars [of_] 1 rfl (fun x hx => by simp only [List.mem_cons, List.not_mem_nil, or_false] at hx; subst hx; exact wf_u64r (by omega) (by omega)) (by simp only [List.length_append, List.length_cons, List.length_nil]; have := putM_le kk; omega) (by omega)
 have HCL := Qh hcl
 clear hcl
 go_wp2_with fail
 refine Calls.mono HCL.out ?_
 rintro e9 w4 ⟨rfl, hu⟩
 replace HU := Qh hu
 clear hu HCL HFC c0 c_of_ c_d
 have HFC := Qh (HU.out.row HF.out HGP.out.1 HGP.out.2)
 have c0 := cell_row HFC.out 0 _ H0.out
 have c_of_ := cell_row HFC.out 2 _ H_of_.out
 have c_d := cell_row HFC.out 3 _ H_d.out
 have hcl := HU.out.text HB0.out HLO.out HOWN.out da dn dc data HD.out (by simp only [List.length_append, List.length_cons, List.length_nil]; have := putM_le kk; have := varsM_le [of_]; simp only [List.length_cons, List.length_nil] at this; omega) (by omega)
 have HCL := Qh hcl
 clear hcl
 go_wp2_with fail
 refine Calls.mono HCL.out ?_
 rintro e9 w5 ⟨rfl, hu⟩
 replace HU := Qh hu
 clear hu HCL HFC c0 c_of_ c_d
 have HFC := Qh (HU.out.row HF.out HGP.out.1 HGP.out.2)
 have c0 := cell_row HFC.out 0 _ H0.out
 have c_of_ := cell_row HFC.out 2 _ H_of_.out
 have c_d := cell_row HFC.out 3 _ H_d.out
 go_wp2_with fail
 (try simp only [Exit.inBlock, Exit.then])
 refine bodyPost_end (results_none rfl _ _ _) rfl ?_
 exact ⟨rfl, by have h9 := WrU.from HB1.out HU.out; simpa only [List.append_assoc, List.append_nil] using h9⟩
theorem put4_8z (W0 w : World) (p : Nat) (v : Value) (bs : List Int) (f : Fr) (dv rv : Value) (h : FrAt W0 f dv rv) (hb0 : Below W0.heap.size W0 w) (hk : f.kind = 8) (ho : f.of_ = 0) (hr : rightB f = true) (hg : RgOk f) (hW : Wr w W0.heap.size p v bs) (hl : bs.length ≤ 10000) :
  Calls Try.prog 28 #[.pointer (some ⟨p, 0, none⟩), .agg (f.cells dv rv).toArray] w fun e w' => e = .returned (.tuple #[]) ∧ WrU w W0.heap.size p v w' (bs ++ oneFM f) := by
 have hwf := h.wf
 have hkm := kindM_in hr
 obtain ⟨da, dn, dc, rfl, hd1, hd2, hd⟩ := h.d
 have hdn : f.data.length = dn := hd.1
 have hdl : dn ≤ 512 := by rw [← hdn]; exact right_data hr (by omega)
 have HD := Qh hd
 have hone : bs ++ oneFM f = bs ++ putM (kindM f) ++ varsM [f.st] ++ textB f.data := by unfold oneFM bodyM; simp [hk, varsM, ho]
 rw [hone]
 clear hone
 have HRF : Hid ((f.cells (.slice da dn dc) rv).length = 19) := Qh (Fr.len hwf)
 have H0 : Hid ((f.cells (.slice da dn dc) rv)[0]? = some (.int .i64 8)) := Qh (by rw [← hk]; rfl)
 have hkd := fun u => kind4_any u f (.slice da dn dc) rv hwf hr
 obtain ⟨kk, hkk⟩ : ∃ kk, kindM f = kk := ⟨_, rfl⟩
 rw [hkk] at hkm ⊢
 simp only [hkk] at hkd
 have H_st : Hid ((f.cells (.slice da dn dc) rv)[1]? = some (.int .u64 f.st)) := Qh rfl
 have u_st := hwf.st
 simp only [U64] at u_st
 have H_of_ : Hid ((f.cells (.slice da dn dc) rv)[2]? = some (.int .u64 f.of_)) := Qh rfl
 have u_of_ := hwf.of_
 simp only [U64] at u_of_
 have H_d : Hid ((f.cells (.slice da dn dc) rv)[3]? = some (.slice da dn dc)) := Qh rfl
 obtain ⟨data, hdata⟩ : ∃ y, f.data = y := ⟨_, rfl⟩
 rw [hdata] at HD hdn ⊢
 clear hdata hd
 obtain ⟨RF, hRF⟩ : ∃ R, (f.cells (.slice da dn dc) rv) = R := ⟨_, rfl⟩
 simp only [hRF] at HRF H0 hkd H_st H_of_ H_d
 rw [hRF]
 obtain ⟨st, h_st⟩ : ∃ y, f.st = y := ⟨_, rfl⟩
 rw [h_st] at H_st u_st
 try rw [h_st]
 obtain ⟨u1_st, u2_st⟩ := u_st
 clear h_st
 obtain ⟨of_, h_of_⟩ : ∃ y, f.of_ = y := ⟨_, rfl⟩
 rw [h_of_] at H_of_ u_of_ ho
 try rw [h_of_]
 obtain ⟨u1_of_, u2_of_⟩ := u_of_
 clear h_of_
 have HKD := Qh hkd
 have HB0 := Qh hb0
 have HLO := Qh hW.lo; have HOWN := Qh (own_base hW.own)
 clear hwf h hRF hkd hg hkk hb0 hr hk
 obtain ⟨m1, m2⟩ := hkm
 subst ho
 have hgp : w.heap.size ≠ p ∧ v.ownBlock ≠ some w.heap.size := ⟨by have := hW.lt; omega, fun e => by have := (hW.own.lt _ e).2; omega⟩
 have HGP := Qh hgp
 have HW := Qh hW
 clear hgp hW
 go_enter Try.func28, Try.ntmps28
 go_upto_region 1 with fail
 change Code.wp _ _ _ _ (w.alloc (.cells RF.toArray 39))
 have hb := (Below.refl w.heap.size w).alloc (Nat.le_refl _) (.cells RF.toArray 39)
 have HB1 := Qh hb
 have HF := Qh (heap_alloc_new w (.cells RF.toArray 39))
 replace HW := Qh (HW.out.to hb)
 replace HB0 := Qh (bl_next HB0.out HB0.out.size hb)
 clear hb
 generalize w.alloc (.cells RF.toArray 39) = w1 at HB1 HF HW HB0 ⊢
 obtain ⟨gf, hg⟩ : ∃ g, w.heap.size = g := ⟨_, rfl⟩
 rw [hg] at HF HGP ⊢
 clear hg
 have HU := Qh (WrU.start HW.out)
 have HFC := HF
 go_wp2_with (first | (refine wpList_load_mid rfl 39 _ rfl gf 0 rfl RF _ (rngL HFC.out) Try.underlying39 rfl (by rw [HRF.out]; rfl) ?_) | fail)
 refine Calls.mono (HKD.out w1) ?_
 rintro e9 w2 ⟨rfl, hb⟩
 replace HU := Qh (HU.out.to hb)
 replace HFC := Qh (bl_row hb (lt_of_block HFC.out) HFC.out)
 clear hb HKD
 have hcl := HU.out.var kk ⟨by omega, by omega⟩ (by omega)
 have HCL := Qh hcl
 clear hcl
 go_wp2_with fail
 refine Calls.mono HCL.out ?_
 rintro e9 w3 ⟨⟨_, rfl⟩, hu⟩
 replace HU := Qh hu
 clear hu HCL HFC
 have HFC := Qh (HU.out.row HF.out HGP.out.1 HGP.out.2)
 have c0 := cell_row HFC.out 0 _ H0.out
 have c_st := cell_row HFC.out 1 _ H_st.out
 have c_of_ := cell_row HFC.out 2 _ H_of_.out
 have c_d := cell_row HFC.out 3 _ H_d.out
 have hcl := HU.out.vars [st] 1 rfl (fun x hx => by simp only [List.mem_cons, List.not_mem_nil, or_false] at hx; subst hx; exact wf_u64r (by omega) (by omega)) (by simp only [List.length_append, List.length_cons, List.length_nil]; have := putM_le kk; omega) (by omega)
 have HCL := Qh hcl
 clear hcl
 go_wp2_with fail
 refine Calls.mono HCL.out ?_
 rintro e9 w4 ⟨rfl, hu⟩
 replace HU := Qh hu
 clear hu HCL HFC c0 c_st c_of_ c_d
 have HFC := Qh (HU.out.row HF.out HGP.out.1 HGP.out.2)
 have c0 := cell_row HFC.out 0 _ H0.out
 have c_st := cell_row HFC.out 1 _ H_st.out
 have c_of_ := cell_row HFC.out 2 _ H_of_.out
 have c_d := cell_row HFC.out 3 _ H_d.out
 have hcl := HU.out.text HB0.out HLO.out HOWN.out da dn dc data HD.out (by simp only [List.length_append, List.length_cons, List.length_nil]; have := putM_le kk; have := varsM_le [st]; simp only [List.length_cons, List.length_nil] at this; omega) (by omega)
 have HCL := Qh hcl
 clear hcl
 go_wp2_with fail
 refine Calls.mono HCL.out ?_
 rintro e9 w5 ⟨rfl, hu⟩
 replace HU := Qh hu
 clear hu HCL HFC c0 c_st c_of_ c_d
 have HFC := Qh (HU.out.row HF.out HGP.out.1 HGP.out.2)
 have c0 := cell_row HFC.out 0 _ H0.out
 have c_st := cell_row HFC.out 1 _ H_st.out
 have c_of_ := cell_row HFC.out 2 _ H_of_.out
 have c_d := cell_row HFC.out 3 _ H_d.out
 go_wp2_with fail
 (try simp only [Exit.inBlock, Exit.then])
 refine bodyPost_end (results_none rfl _ _ _) rfl ?_
 exact ⟨rfl, by have h9 := WrU.from HB1.out HU.out; simpa only [List.append_assoc, List.append_nil] using h9⟩
theorem put4_8p (W0 w : World) (p : Nat) (v : Value) (bs : List Int) (f : Fr) (dv rv : Value) (h : FrAt W0 f dv rv) (hb0 : Below W0.heap.size W0 w) (hk : f.kind = 8) (ho : 0 < f.of_) (hr : rightB f = true) (hg : RgOk f) (hW : Wr w W0.heap.size p v bs) (hl : bs.length ≤ 10000) :
  Calls Try.prog 28 #[.pointer (some ⟨p, 0, none⟩), .agg (f.cells dv rv).toArray] w fun e w' => e = .returned (.tuple #[]) ∧ WrU w W0.heap.size p v w' (bs ++ oneFM f) := by
 have hwf := h.wf
 have hkm := kindM_in hr
 obtain ⟨da, dn, dc, rfl, hd1, hd2, hd⟩ := h.d
 have hdn : f.data.length = dn := hd.1
 have hdl : dn ≤ 512 := by rw [← hdn]; exact right_data hr (by omega)
 have HD := Qh hd
 have hone : bs ++ oneFM f = bs ++ putM (kindM f) ++ varsM [f.st] ++ varsM [f.of_] ++ textB f.data := by unfold oneFM bodyM; simp [hk, varsM, ho]
 rw [hone]
 clear hone
 have HRF : Hid ((f.cells (.slice da dn dc) rv).length = 19) := Qh (Fr.len hwf)
 have H0 : Hid ((f.cells (.slice da dn dc) rv)[0]? = some (.int .i64 8)) := Qh (by rw [← hk]; rfl)
 have hkd := fun u => kind4_any u f (.slice da dn dc) rv hwf hr
 obtain ⟨kk, hkk⟩ : ∃ kk, kindM f = kk := ⟨_, rfl⟩
 rw [hkk] at hkm ⊢
 simp only [hkk] at hkd
 have H_st : Hid ((f.cells (.slice da dn dc) rv)[1]? = some (.int .u64 f.st)) := Qh rfl
 have u_st := hwf.st
 simp only [U64] at u_st
 have H_of_ : Hid ((f.cells (.slice da dn dc) rv)[2]? = some (.int .u64 f.of_)) := Qh rfl
 have u_of_ := hwf.of_
 simp only [U64] at u_of_
 have H_d : Hid ((f.cells (.slice da dn dc) rv)[3]? = some (.slice da dn dc)) := Qh rfl
 obtain ⟨data, hdata⟩ : ∃ y, f.data = y := ⟨_, rfl⟩
 rw [hdata] at HD hdn ⊢
 clear hdata hd
 obtain ⟨RF, hRF⟩ : ∃ R, (f.cells (.slice da dn dc) rv) = R := ⟨_, rfl⟩
 simp only [hRF] at HRF H0 hkd H_st H_of_ H_d
 rw [hRF]
 obtain ⟨st, h_st⟩ : ∃ y, f.st = y := ⟨_, rfl⟩
 rw [h_st] at H_st u_st
 try rw [h_st]
 obtain ⟨u1_st, u2_st⟩ := u_st
 clear h_st
 obtain ⟨of_, h_of_⟩ : ∃ y, f.of_ = y := ⟨_, rfl⟩
 rw [h_of_] at H_of_ u_of_ ho
 try rw [h_of_]
 obtain ⟨u1_of_, u2_of_⟩ := u_of_
 clear h_of_
 have HKD := Qh hkd
 have HB0 := Qh hb0
 have HLO := Qh hW.lo; have HOWN := Qh (own_base hW.own)
 clear hwf h hRF hkd hg hkk hb0 hr hk
 obtain ⟨m1, m2⟩ := hkm
 have hgp : w.heap.size ≠ p ∧ v.ownBlock ≠ some w.heap.size := ⟨by have := hW.lt; omega, fun e => by have := (hW.own.lt _ e).2; omega⟩
 have HGP := Qh hgp
 have HW := Qh hW
 clear hgp hW
 go_enter Try.func28, Try.ntmps28
 go_upto_region 1 with fail
 change Code.wp _ _ _ _ (w.alloc (.cells RF.toArray 39))
 have hb := (Below.refl w.heap.size w).alloc (Nat.le_refl _) (.cells RF.toArray 39)
 have HB1 := Qh hb
 have HF := Qh (heap_alloc_new w (.cells RF.toArray 39))
 replace HW := Qh (HW.out.to hb)
 replace HB0 := Qh (bl_next HB0.out HB0.out.size hb)
 clear hb
 generalize w.alloc (.cells RF.toArray 39) = w1 at HB1 HF HW HB0 ⊢
 obtain ⟨gf, hg⟩ : ∃ g, w.heap.size = g := ⟨_, rfl⟩
 rw [hg] at HF HGP ⊢
 clear hg
 have HU := Qh (WrU.start HW.out)
 have HFC := HF
 go_wp2_with (first | (refine wpList_load_mid rfl 39 _ rfl gf 0 rfl RF _ (rngL HFC.out) Try.underlying39 rfl (by rw [HRF.out]; rfl) ?_) | fail)
 refine Calls.mono (HKD.out w1) ?_
 rintro e9 w2 ⟨rfl, hb⟩
 replace HU := Qh (HU.out.to hb)
 replace HFC := Qh (bl_row hb (lt_of_block HFC.out) HFC.out)
 clear hb HKD
 have hcl := HU.out.var kk ⟨by omega, by omega⟩ (by omega)
 have HCL := Qh hcl
 clear hcl
 go_wp2_with fail
 refine Calls.mono HCL.out ?_
 rintro e9 w3 ⟨⟨_, rfl⟩, hu⟩
 replace HU := Qh hu
 clear hu HCL HFC
 have HFC := Qh (HU.out.row HF.out HGP.out.1 HGP.out.2)
 have c0 := cell_row HFC.out 0 _ H0.out
 have c_st := cell_row HFC.out 1 _ H_st.out
 have c_of_ := cell_row HFC.out 2 _ H_of_.out
 have c_d := cell_row HFC.out 3 _ H_d.out
 have hcl := HU.out.vars [st] 1 rfl (fun x hx => by simp only [List.mem_cons, List.not_mem_nil, or_false] at hx; subst hx; exact wf_u64r (by omega) (by omega)) (by simp only [List.length_append, List.length_cons, List.length_nil]; have := putM_le kk; omega) (by omega)
 have HCL := Qh hcl
 clear hcl
 go_wp2_with fail
 refine Calls.mono HCL.out ?_
 rintro e9 w4 ⟨rfl, hu⟩
 replace HU := Qh hu
 clear hu HCL HFC c0 c_st c_of_ c_d
 have HFC := Qh (HU.out.row HF.out HGP.out.1 HGP.out.2)
 have c0 := cell_row HFC.out 0 _ H0.out
 have c_st := cell_row HFC.out 1 _ H_st.out
 have c_of_ := cell_row HFC.out 2 _ H_of_.out
 have c_d := cell_row HFC.out 3 _ H_d.out
 have hcl := HU.out.vars [of_] 1 rfl (fun x hx => by simp only [List.mem_cons, List.not_mem_nil, or_false] at hx; subst hx; exact wf_u64r (by omega) (by omega)) (by simp only [List.length_append, List.length_cons, List.length_nil]; have := putM_le kk; have := varsM_le [st]; simp only [List.length_cons, List.length_nil] at this; omega) (by omega)
 have HCL := Qh hcl
 clear hcl
 go_wp2_with fail
 refine Calls.mono HCL.out ?_
 rintro e9 w5 ⟨rfl, hu⟩
 replace HU := Qh hu
 clear hu HCL HFC c0 c_st c_of_ c_d
 have HFC := Qh (HU.out.row HF.out HGP.out.1 HGP.out.2)
 have c0 := cell_row HFC.out 0 _ H0.out
 have c_st := cell_row HFC.out 1 _ H_st.out
 have c_of_ := cell_row HFC.out 2 _ H_of_.out
 have c_d := cell_row HFC.out 3 _ H_d.out
 have hcl := HU.out.text HB0.out HLO.out HOWN.out da dn dc data HD.out (by simp only [List.length_append, List.length_cons, List.length_nil]; have := putM_le kk; have := varsM_le [st]; simp only [List.length_cons, List.length_nil] at this; have := varsM_le [of_]; simp only [List.length_cons, List.length_nil] at this; omega) (by omega)
 have HCL := Qh hcl
 clear hcl
 go_wp2_with fail
 refine Calls.mono HCL.out ?_
 rintro e9 w6 ⟨rfl, hu⟩
 replace HU := Qh hu
 clear hu HCL HFC c0 c_st c_of_ c_d
 have HFC := Qh (HU.out.row HF.out HGP.out.1 HGP.out.2)
 have c0 := cell_row HFC.out 0 _ H0.out
 have c_st := cell_row HFC.out 1 _ H_st.out
 have c_of_ := cell_row HFC.out 2 _ H_of_.out
 have c_d := cell_row HFC.out 3 _ H_d.out
 go_wp2_with fail
 (try simp only [Exit.inBlock, Exit.then])
 refine bodyPost_end (results_none rfl _ _ _) rfl ?_
 exact ⟨rfl, by have h9 := WrU.from HB1.out HU.out; simpa only [List.append_assoc, List.append_nil] using h9⟩
theorem put4_16 (W0 w : World) (p : Nat) (v : Value) (bs : List Int) (f : Fr) (dv rv : Value) (h : FrAt W0 f dv rv) (hb0 : Below W0.heap.size W0 w) (hk : f.kind = 16) (hr : rightB f = true) (hg : RgOk f) (hW : Wr w W0.heap.size p v bs) (hl : bs.length ≤ 10000) :
  Calls Try.prog 28 #[.pointer (some ⟨p, 0, none⟩), .agg (f.cells dv rv).toArray] w fun e w' => e = .returned (.tuple #[]) ∧ WrU w W0.heap.size p v w' (bs ++ oneFM f) := by
 have hwf := h.wf
 have hkm := kindM_in hr
 have hone : bs ++ oneFM f = bs ++ putM (kindM f) ++ varsM [f.li] := by unfold oneFM bodyM; simp [hk, varsM]
 rw [hone]
 clear hone
 have HRF : Hid ((f.cells dv rv).length = 19) := Qh (Fr.len hwf)
 have H0 : Hid ((f.cells dv rv)[0]? = some (.int .i64 16)) := Qh (by rw [← hk]; rfl)
 have hkd := fun u => kind4_any u f dv rv hwf hr
 obtain ⟨kk, hkk⟩ : ∃ kk, kindM f = kk := ⟨_, rfl⟩
 rw [hkk] at hkm ⊢
 simp only [hkk] at hkd
 have H_li : Hid ((f.cells dv rv)[5]? = some (.int .u64 f.li)) := Qh rfl
 have u_li := hwf.li
 simp only [U64] at u_li
 obtain ⟨RF, hRF⟩ : ∃ R, (f.cells dv rv) = R := ⟨_, rfl⟩
 simp only [hRF] at HRF H0 hkd H_li
 rw [hRF]
 obtain ⟨li, h_li⟩ : ∃ y, f.li = y := ⟨_, rfl⟩
 rw [h_li] at H_li u_li
 try rw [h_li]
 obtain ⟨u1_li, u2_li⟩ := u_li
 clear h_li
 have HKD := Qh hkd
 have HB0 := Qh hb0
 have HLO := Qh hW.lo; have HOWN := Qh (own_base hW.own)
 clear hwf h hRF hkd hg hkk hb0 hr hk
 obtain ⟨m1, m2⟩ := hkm
 have hgp : w.heap.size ≠ p ∧ v.ownBlock ≠ some w.heap.size := ⟨by have := hW.lt; omega, fun e => by have := (hW.own.lt _ e).2; omega⟩
 have HGP := Qh hgp
 have HW := Qh hW
 clear hgp hW
 go_enter Try.func28, Try.ntmps28
 go_upto_region 1 with fail
 change Code.wp _ _ _ _ (w.alloc (.cells RF.toArray 39))
 have hb := (Below.refl w.heap.size w).alloc (Nat.le_refl _) (.cells RF.toArray 39)
 have HB1 := Qh hb
 have HF := Qh (heap_alloc_new w (.cells RF.toArray 39))
 replace HW := Qh (HW.out.to hb)
 replace HB0 := Qh (bl_next HB0.out HB0.out.size hb)
 clear hb
 generalize w.alloc (.cells RF.toArray 39) = w1 at HB1 HF HW HB0 ⊢
 obtain ⟨gf, hg⟩ : ∃ g, w.heap.size = g := ⟨_, rfl⟩
 rw [hg] at HF HGP ⊢
 clear hg
 have HU := Qh (WrU.start HW.out)
 have HFC := HF
 go_wp2_with (first | (refine wpList_load_mid rfl 39 _ rfl gf 0 rfl RF _ (rngL HFC.out) Try.underlying39 rfl (by rw [HRF.out]; rfl) ?_) | fail)
 refine Calls.mono (HKD.out w1) ?_
 rintro e9 w2 ⟨rfl, hb⟩
 replace HU := Qh (HU.out.to hb)
 replace HFC := Qh (bl_row hb (lt_of_block HFC.out) HFC.out)
 clear hb HKD
 have hcl := HU.out.var kk ⟨by omega, by omega⟩ (by omega)
 have HCL := Qh hcl
 clear hcl
 go_wp2_with fail
 refine Calls.mono HCL.out ?_
 rintro e9 w3 ⟨⟨_, rfl⟩, hu⟩
 replace HU := Qh hu
 clear hu HCL HFC
 have HFC := Qh (HU.out.row HF.out HGP.out.1 HGP.out.2)
 have c0 := cell_row HFC.out 0 _ H0.out
 have c_li := cell_row HFC.out 5 _ H_li.out
 have hcl := HU.out.vars [li] 1 rfl (fun x hx => by simp only [List.mem_cons, List.not_mem_nil, or_false] at hx; subst hx; exact wf_u64r (by omega) (by omega)) (by simp only [List.length_append, List.length_cons, List.length_nil]; have := putM_le kk; omega) (by omega)
 have HCL := Qh hcl
 clear hcl
 go_wp2_with fail
 refine Calls.mono HCL.out ?_
 rintro e9 w4 ⟨rfl, hu⟩
 replace HU := Qh hu
 clear hu HCL HFC c0 c_li
 have HFC := Qh (HU.out.row HF.out HGP.out.1 HGP.out.2)
 have c0 := cell_row HFC.out 0 _ H0.out
 have c_li := cell_row HFC.out 5 _ H_li.out
 go_wp2_with fail
 (try simp only [Exit.inBlock, Exit.then])
 refine bodyPost_end (results_none rfl _ _ _) rfl ?_
 exact ⟨rfl, by have h9 := WrU.from HB1.out HU.out; simpa only [List.append_assoc, List.append_nil] using h9⟩
theorem put4_18 (W0 w : World) (p : Nat) (v : Value) (bs : List Int) (f : Fr) (dv rv : Value) (h : FrAt W0 f dv rv) (hb0 : Below W0.heap.size W0 w) (hk : f.kind = 18) (hr : rightB f = true) (hg : RgOk f) (hW : Wr w W0.heap.size p v bs) (hl : bs.length ≤ 10000) :
  Calls Try.prog 28 #[.pointer (some ⟨p, 0, none⟩), .agg (f.cells dv rv).toArray] w fun e w' => e = .returned (.tuple #[]) ∧ WrU w W0.heap.size p v w' (bs ++ oneFM f) := by
 have hwf := h.wf
 have hkm := kindM_in hr
 have hone : bs ++ oneFM f = bs ++ putM (kindM f) ++ varsM [f.li] := by unfold oneFM bodyM; simp [hk, varsM]
 rw [hone]
 clear hone
 have HRF : Hid ((f.cells dv rv).length = 19) := Qh (Fr.len hwf)
 have H0 : Hid ((f.cells dv rv)[0]? = some (.int .i64 18)) := Qh (by rw [← hk]; rfl)
 have hkd := fun u => kind4_any u f dv rv hwf hr
 obtain ⟨kk, hkk⟩ : ∃ kk, kindM f = kk := ⟨_, rfl⟩
 rw [hkk] at hkm ⊢
 simp only [hkk] at hkd
 have H_li : Hid ((f.cells dv rv)[5]? = some (.int .u64 f.li)) := Qh rfl
 have u_li := hwf.li
 simp only [U64] at u_li
 obtain ⟨RF, hRF⟩ : ∃ R, (f.cells dv rv) = R := ⟨_, rfl⟩
 simp only [hRF] at HRF H0 hkd H_li
 rw [hRF]
 obtain ⟨li, h_li⟩ : ∃ y, f.li = y := ⟨_, rfl⟩
 rw [h_li] at H_li u_li
 try rw [h_li]
 obtain ⟨u1_li, u2_li⟩ := u_li
 clear h_li
 have HKD := Qh hkd
 have HB0 := Qh hb0
 have HLO := Qh hW.lo; have HOWN := Qh (own_base hW.own)
 clear hwf h hRF hkd hg hkk hb0 hr hk
 obtain ⟨m1, m2⟩ := hkm
 have hgp : w.heap.size ≠ p ∧ v.ownBlock ≠ some w.heap.size := ⟨by have := hW.lt; omega, fun e => by have := (hW.own.lt _ e).2; omega⟩
 have HGP := Qh hgp
 have HW := Qh hW
 clear hgp hW
 go_enter Try.func28, Try.ntmps28
 go_upto_region 1 with fail
 change Code.wp _ _ _ _ (w.alloc (.cells RF.toArray 39))
 have hb := (Below.refl w.heap.size w).alloc (Nat.le_refl _) (.cells RF.toArray 39)
 have HB1 := Qh hb
 have HF := Qh (heap_alloc_new w (.cells RF.toArray 39))
 replace HW := Qh (HW.out.to hb)
 replace HB0 := Qh (bl_next HB0.out HB0.out.size hb)
 clear hb
 generalize w.alloc (.cells RF.toArray 39) = w1 at HB1 HF HW HB0 ⊢
 obtain ⟨gf, hg⟩ : ∃ g, w.heap.size = g := ⟨_, rfl⟩
 rw [hg] at HF HGP ⊢
 clear hg
 have HU := Qh (WrU.start HW.out)
 have HFC := HF
 go_wp2_with (first | (refine wpList_load_mid rfl 39 _ rfl gf 0 rfl RF _ (rngL HFC.out) Try.underlying39 rfl (by rw [HRF.out]; rfl) ?_) | fail)
 refine Calls.mono (HKD.out w1) ?_
 rintro e9 w2 ⟨rfl, hb⟩
 replace HU := Qh (HU.out.to hb)
 replace HFC := Qh (bl_row hb (lt_of_block HFC.out) HFC.out)
 clear hb HKD
 have hcl := HU.out.var kk ⟨by omega, by omega⟩ (by omega)
 have HCL := Qh hcl
 clear hcl
 go_wp2_with fail
 refine Calls.mono HCL.out ?_
 rintro e9 w3 ⟨⟨_, rfl⟩, hu⟩
 replace HU := Qh hu
 clear hu HCL HFC
 have HFC := Qh (HU.out.row HF.out HGP.out.1 HGP.out.2)
 have c0 := cell_row HFC.out 0 _ H0.out
 have c_li := cell_row HFC.out 5 _ H_li.out
 have hcl := HU.out.vars [li] 1 rfl (fun x hx => by simp only [List.mem_cons, List.not_mem_nil, or_false] at hx; subst hx; exact wf_u64r (by omega) (by omega)) (by simp only [List.length_append, List.length_cons, List.length_nil]; have := putM_le kk; omega) (by omega)
 have HCL := Qh hcl
 clear hcl
 go_wp2_with fail
 refine Calls.mono HCL.out ?_
 rintro e9 w4 ⟨rfl, hu⟩
 replace HU := Qh hu
 clear hu HCL HFC c0 c_li
 have HFC := Qh (HU.out.row HF.out HGP.out.1 HGP.out.2)
 have c0 := cell_row HFC.out 0 _ H0.out
 have c_li := cell_row HFC.out 5 _ H_li.out
 go_wp2_with fail
 (try simp only [Exit.inBlock, Exit.then])
 refine bodyPost_end (results_none rfl _ _ _) rfl ?_
 exact ⟨rfl, by have h9 := WrU.from HB1.out HU.out; simpa only [List.append_assoc, List.append_nil] using h9⟩
theorem put4_20 (W0 w : World) (p : Nat) (v : Value) (bs : List Int) (f : Fr) (dv rv : Value) (h : FrAt W0 f dv rv) (hb0 : Below W0.heap.size W0 w) (hk : f.kind = 20) (hr : rightB f = true) (hg : RgOk f) (hW : Wr w W0.heap.size p v bs) (hl : bs.length ≤ 10000) :
  Calls Try.prog 28 #[.pointer (some ⟨p, 0, none⟩), .agg (f.cells dv rv).toArray] w fun e w' => e = .returned (.tuple #[]) ∧ WrU w W0.heap.size p v w' (bs ++ oneFM f) := by
 have hwf := h.wf
 have hkm := kindM_in hr
 have hone : bs ++ oneFM f = bs ++ putM (kindM f) ++ varsM [f.li] := by unfold oneFM bodyM; simp [hk, varsM]
 rw [hone]
 clear hone
 have HRF : Hid ((f.cells dv rv).length = 19) := Qh (Fr.len hwf)
 have H0 : Hid ((f.cells dv rv)[0]? = some (.int .i64 20)) := Qh (by rw [← hk]; rfl)
 have hkd := fun u => kind4_any u f dv rv hwf hr
 obtain ⟨kk, hkk⟩ : ∃ kk, kindM f = kk := ⟨_, rfl⟩
 rw [hkk] at hkm ⊢
 simp only [hkk] at hkd
 have H_li : Hid ((f.cells dv rv)[5]? = some (.int .u64 f.li)) := Qh rfl
 have u_li := hwf.li
 simp only [U64] at u_li
 obtain ⟨RF, hRF⟩ : ∃ R, (f.cells dv rv) = R := ⟨_, rfl⟩
 simp only [hRF] at HRF H0 hkd H_li
 rw [hRF]
 obtain ⟨li, h_li⟩ : ∃ y, f.li = y := ⟨_, rfl⟩
 rw [h_li] at H_li u_li
 try rw [h_li]
 obtain ⟨u1_li, u2_li⟩ := u_li
 clear h_li
 have HKD := Qh hkd
 have HB0 := Qh hb0
 have HLO := Qh hW.lo; have HOWN := Qh (own_base hW.own)
 clear hwf h hRF hkd hg hkk hb0 hr hk
 obtain ⟨m1, m2⟩ := hkm
 have hgp : w.heap.size ≠ p ∧ v.ownBlock ≠ some w.heap.size := ⟨by have := hW.lt; omega, fun e => by have := (hW.own.lt _ e).2; omega⟩
 have HGP := Qh hgp
 have HW := Qh hW
 clear hgp hW
 go_enter Try.func28, Try.ntmps28
 go_upto_region 1 with fail
 change Code.wp _ _ _ _ (w.alloc (.cells RF.toArray 39))
 have hb := (Below.refl w.heap.size w).alloc (Nat.le_refl _) (.cells RF.toArray 39)
 have HB1 := Qh hb
 have HF := Qh (heap_alloc_new w (.cells RF.toArray 39))
 replace HW := Qh (HW.out.to hb)
 replace HB0 := Qh (bl_next HB0.out HB0.out.size hb)
 clear hb
 generalize w.alloc (.cells RF.toArray 39) = w1 at HB1 HF HW HB0 ⊢
 obtain ⟨gf, hg⟩ : ∃ g, w.heap.size = g := ⟨_, rfl⟩
 rw [hg] at HF HGP ⊢
 clear hg
 have HU := Qh (WrU.start HW.out)
 have HFC := HF
 go_wp2_with (first | (refine wpList_load_mid rfl 39 _ rfl gf 0 rfl RF _ (rngL HFC.out) Try.underlying39 rfl (by rw [HRF.out]; rfl) ?_) | fail)
 refine Calls.mono (HKD.out w1) ?_
 rintro e9 w2 ⟨rfl, hb⟩
 replace HU := Qh (HU.out.to hb)
 replace HFC := Qh (bl_row hb (lt_of_block HFC.out) HFC.out)
 clear hb HKD
 have hcl := HU.out.var kk ⟨by omega, by omega⟩ (by omega)
 have HCL := Qh hcl
 clear hcl
 go_wp2_with fail
 refine Calls.mono HCL.out ?_
 rintro e9 w3 ⟨⟨_, rfl⟩, hu⟩
 replace HU := Qh hu
 clear hu HCL HFC
 have HFC := Qh (HU.out.row HF.out HGP.out.1 HGP.out.2)
 have c0 := cell_row HFC.out 0 _ H0.out
 have c_li := cell_row HFC.out 5 _ H_li.out
 have hcl := HU.out.vars [li] 1 rfl (fun x hx => by simp only [List.mem_cons, List.not_mem_nil, or_false] at hx; subst hx; exact wf_u64r (by omega) (by omega)) (by simp only [List.length_append, List.length_cons, List.length_nil]; have := putM_le kk; omega) (by omega)
 have HCL := Qh hcl
 clear hcl
 go_wp2_with fail
 refine Calls.mono HCL.out ?_
 rintro e9 w4 ⟨rfl, hu⟩
 replace HU := Qh hu
 clear hu HCL HFC c0 c_li
 have HFC := Qh (HU.out.row HF.out HGP.out.1 HGP.out.2)
 have c0 := cell_row HFC.out 0 _ H0.out
 have c_li := cell_row HFC.out 5 _ H_li.out
 go_wp2_with fail
 (try simp only [Exit.inBlock, Exit.then])
 refine bodyPost_end (results_none rfl _ _ _) rfl ?_
 exact ⟨rfl, by have h9 := WrU.from HB1.out HU.out; simpa only [List.append_assoc, List.append_nil] using h9⟩
theorem put4_17 (W0 w : World) (p : Nat) (v : Value) (bs : List Int) (f : Fr) (dv rv : Value) (h : FrAt W0 f dv rv) (hb0 : Below W0.heap.size W0 w) (hk : f.kind = 17) (hr : rightB f = true) (hg : RgOk f) (hW : Wr w W0.heap.size p v bs) (hl : bs.length ≤ 10000) :
  Calls Try.prog 28 #[.pointer (some ⟨p, 0, none⟩), .agg (f.cells dv rv).toArray] w fun e w' => e = .returned (.tuple #[]) ∧ WrU w W0.heap.size p v w' (bs ++ oneFM f) := by
 have hwf := h.wf
 have hkm := kindM_in hr
 have hone : bs ++ oneFM f = bs ++ putM (kindM f) ++ varsM [f.st, f.li] := by unfold oneFM bodyM; simp [hk, varsM]
 rw [hone]
 clear hone
 have HRF : Hid ((f.cells dv rv).length = 19) := Qh (Fr.len hwf)
 have H0 : Hid ((f.cells dv rv)[0]? = some (.int .i64 17)) := Qh (by rw [← hk]; rfl)
 have hkd := fun u => kind4_any u f dv rv hwf hr
 obtain ⟨kk, hkk⟩ : ∃ kk, kindM f = kk := ⟨_, rfl⟩
 rw [hkk] at hkm ⊢
 simp only [hkk] at hkd
 have H_st : Hid ((f.cells dv rv)[1]? = some (.int .u64 f.st)) := Qh rfl
 have u_st := hwf.st
 simp only [U64] at u_st
 have H_li : Hid ((f.cells dv rv)[5]? = some (.int .u64 f.li)) := Qh rfl
 have u_li := hwf.li
 simp only [U64] at u_li
 obtain ⟨RF, hRF⟩ : ∃ R, (f.cells dv rv) = R := ⟨_, rfl⟩
 simp only [hRF] at HRF H0 hkd H_st H_li
 rw [hRF]
 obtain ⟨st, h_st⟩ : ∃ y, f.st = y := ⟨_, rfl⟩
 rw [h_st] at H_st u_st
 try rw [h_st]
 obtain ⟨u1_st, u2_st⟩ := u_st
 clear h_st
 obtain ⟨li, h_li⟩ : ∃ y, f.li = y := ⟨_, rfl⟩
 rw [h_li] at H_li u_li
 try rw [h_li]
 obtain ⟨u1_li, u2_li⟩ := u_li
 clear h_li
 have HKD := Qh hkd
 have HB0 := Qh hb0
 have HLO := Qh hW.lo; have HOWN := Qh (own_base hW.own)
 clear hwf h hRF hkd hg hkk hb0 hr hk
 obtain ⟨m1, m2⟩ := hkm
 have hgp : w.heap.size ≠ p ∧ v.ownBlock ≠ some w.heap.size := ⟨by have := hW.lt; omega, fun e => by have := (hW.own.lt _ e).2; omega⟩
 have HGP := Qh hgp
 have HW := Qh hW
 clear hgp hW
 go_enter Try.func28, Try.ntmps28
 go_upto_region 1 with fail
 change Code.wp _ _ _ _ (w.alloc (.cells RF.toArray 39))
 have hb := (Below.refl w.heap.size w).alloc (Nat.le_refl _) (.cells RF.toArray 39)
 have HB1 := Qh hb
 have HF := Qh (heap_alloc_new w (.cells RF.toArray 39))
 replace HW := Qh (HW.out.to hb)
 replace HB0 := Qh (bl_next HB0.out HB0.out.size hb)
 clear hb
 generalize w.alloc (.cells RF.toArray 39) = w1 at HB1 HF HW HB0 ⊢
 obtain ⟨gf, hg⟩ : ∃ g, w.heap.size = g := ⟨_, rfl⟩
 rw [hg] at HF HGP ⊢
 clear hg
 have HU := Qh (WrU.start HW.out)
 have HFC := HF
 go_wp2_with (first | (refine wpList_load_mid rfl 39 _ rfl gf 0 rfl RF _ (rngL HFC.out) Try.underlying39 rfl (by rw [HRF.out]; rfl) ?_) | fail)
 refine Calls.mono (HKD.out w1) ?_
 rintro e9 w2 ⟨rfl, hb⟩
 replace HU := Qh (HU.out.to hb)
 replace HFC := Qh (bl_row hb (lt_of_block HFC.out) HFC.out)
 clear hb HKD
 have hcl := HU.out.var kk ⟨by omega, by omega⟩ (by omega)
 have HCL := Qh hcl
 clear hcl
 go_wp2_with fail
 refine Calls.mono HCL.out ?_
 rintro e9 w3 ⟨⟨_, rfl⟩, hu⟩
 replace HU := Qh hu
 clear hu HCL HFC
 have HFC := Qh (HU.out.row HF.out HGP.out.1 HGP.out.2)
 have c0 := cell_row HFC.out 0 _ H0.out
 have c_st := cell_row HFC.out 1 _ H_st.out
 have c_li := cell_row HFC.out 5 _ H_li.out
 have hcl := HU.out.vars [st, li] 2 rfl (fun x hx => by simp only [List.mem_cons, List.not_mem_nil, or_false] at hx; rcases hx with rfl | rfl <;> exact wf_u64r (by omega) (by omega)) (by simp only [List.length_append, List.length_cons, List.length_nil]; have := putM_le kk; omega) (by omega)
 have HCL := Qh hcl
 clear hcl
 go_wp2_with fail
 refine Calls.mono HCL.out ?_
 rintro e9 w4 ⟨rfl, hu⟩
 replace HU := Qh hu
 clear hu HCL HFC c0 c_st c_li
 have HFC := Qh (HU.out.row HF.out HGP.out.1 HGP.out.2)
 have c0 := cell_row HFC.out 0 _ H0.out
 have c_st := cell_row HFC.out 1 _ H_st.out
 have c_li := cell_row HFC.out 5 _ H_li.out
 go_wp2_with fail
 (try simp only [Exit.inBlock, Exit.then])
 refine bodyPost_end (results_none rfl _ _ _) rfl ?_
 exact ⟨rfl, by have h9 := WrU.from HB1.out HU.out; simpa only [List.append_assoc, List.append_nil] using h9⟩
theorem put4_24 (W0 w : World) (p : Nat) (v : Value) (bs : List Int) (f : Fr) (dv rv : Value) (h : FrAt W0 f dv rv) (hb0 : Below W0.heap.size W0 w) (hk : f.kind = 24) (hr : rightB f = true) (hg : RgOk f) (hW : Wr w W0.heap.size p v bs) (hl : bs.length ≤ 10000) :
  Calls Try.prog 28 #[.pointer (some ⟨p, 0, none⟩), .agg (f.cells dv rv).toArray] w fun e w' => e = .returned (.tuple #[]) ∧ WrU w W0.heap.size p v w' (bs ++ oneFM f) := by
 have hwf := h.wf
 have hkm := kindM_in hr
 have hone : bs ++ oneFM f = bs ++ putM (kindM f) ++ varsM [f.se, f.li] ++ [8] ++ f.cid := by unfold oneFM bodyM; simp [hk, varsM]
 rw [hone]
 clear hone
 have HRF : Hid ((f.cells dv rv).length = 19) := Qh (Fr.len hwf)
 have H0 : Hid ((f.cells dv rv)[0]? = some (.int .i64 24)) := Qh (by rw [← hk]; rfl)
 have hkd := fun u => kind4_any u f dv rv hwf hr
 obtain ⟨kk, hkk⟩ : ∃ kk, kindM f = kk := ⟨_, rfl⟩
 rw [hkk] at hkm ⊢
 simp only [hkk] at hkd
 have H_se : Hid ((f.cells dv rv)[8]? = some (.int .u64 f.se)) := Qh rfl
 have u_se := hwf.se
 simp only [U64] at u_se
 have H_li : Hid ((f.cells dv rv)[5]? = some (.int .u64 f.li)) := Qh rfl
 have u_li := hwf.li
 simp only [U64] at u_li
 have H_c : Hid ((f.cells dv rv).drop 11 = f.cid.map (Value.int .u8)) := Qh rfl
 have hcl := hwf.cidl; have hcw := hwf.cid
 obtain ⟨cid, hcid⟩ : ∃ y, f.cid = y := ⟨_, rfl⟩
 rw [hcid] at H_c hcl hcw ⊢
 have HCL8 := Qh hcl; have HCW := Qh hcw
 clear hcid hcl hcw
 obtain ⟨RF, hRF⟩ : ∃ R, (f.cells dv rv) = R := ⟨_, rfl⟩
 simp only [hRF] at HRF H0 hkd H_se H_li H_c
 rw [hRF]
 obtain ⟨se, h_se⟩ : ∃ y, f.se = y := ⟨_, rfl⟩
 rw [h_se] at H_se u_se
 try rw [h_se]
 obtain ⟨u1_se, u2_se⟩ := u_se
 clear h_se
 obtain ⟨li, h_li⟩ : ∃ y, f.li = y := ⟨_, rfl⟩
 rw [h_li] at H_li u_li
 try rw [h_li]
 obtain ⟨u1_li, u2_li⟩ := u_li
 clear h_li
 have HKD := Qh hkd
 have HB0 := Qh hb0
 have HLO := Qh hW.lo; have HOWN := Qh (own_base hW.own)
 clear hwf h hRF hkd hg hkk hb0 hr hk
 obtain ⟨m1, m2⟩ := hkm
 have hgp : w.heap.size ≠ p ∧ v.ownBlock ≠ some w.heap.size := ⟨by have := hW.lt; omega, fun e => by have := (hW.own.lt _ e).2; omega⟩
 have HGP := Qh hgp
 have HW := Qh hW
 clear hgp hW
 go_enter Try.func28, Try.ntmps28
 go_upto_region 1 with fail
 change Code.wp _ _ _ _ (w.alloc (.cells RF.toArray 39))
 have hb := (Below.refl w.heap.size w).alloc (Nat.le_refl _) (.cells RF.toArray 39)
 have HB1 := Qh hb
 have HF := Qh (heap_alloc_new w (.cells RF.toArray 39))
 replace HW := Qh (HW.out.to hb)
 replace HB0 := Qh (bl_next HB0.out HB0.out.size hb)
 clear hb
 generalize w.alloc (.cells RF.toArray 39) = w1 at HB1 HF HW HB0 ⊢
 obtain ⟨gf, hg⟩ : ∃ g, w.heap.size = g := ⟨_, rfl⟩
 rw [hg] at HF HGP ⊢
 clear hg
 have HU := Qh (WrU.start HW.out)
 have HFC := HF
 go_wp2_with (first | (refine wpList_load_mid rfl 39 _ rfl gf 0 rfl RF _ (rngL HFC.out) Try.underlying39 rfl (by rw [HRF.out]; rfl) ?_) | fail)
 refine Calls.mono (HKD.out w1) ?_
 rintro e9 w2 ⟨rfl, hb⟩
 replace HU := Qh (HU.out.to hb)
 replace HFC := Qh (bl_row hb (lt_of_block HFC.out) HFC.out)
 clear hb HKD
 have hcl := HU.out.var kk ⟨by omega, by omega⟩ (by omega)
 have HCL := Qh hcl
 clear hcl
 go_wp2_with fail
 refine Calls.mono HCL.out ?_
 rintro e9 w3 ⟨⟨_, rfl⟩, hu⟩
 replace HU := Qh hu
 clear hu HCL HFC
 have HFC := Qh (HU.out.row HF.out HGP.out.1 HGP.out.2)
 have c0 := cell_row HFC.out 0 _ H0.out
 have c_se := cell_row HFC.out 8 _ H_se.out
 have c_li := cell_row HFC.out 5 _ H_li.out
 have hcl := HU.out.vars [se, li] 2 rfl (fun x hx => by simp only [List.mem_cons, List.not_mem_nil, or_false] at hx; rcases hx with rfl | rfl <;> exact wf_u64r (by omega) (by omega)) (by simp only [List.length_append, List.length_cons, List.length_nil]; have := putM_le kk; omega) (by omega)
 have HCL := Qh hcl
 clear hcl
 go_wp2_with fail
 refine Calls.mono HCL.out ?_
 rintro e9 w4 ⟨rfl, hu⟩
 replace HU := Qh hu
 clear hu HCL HFC c0 c_se c_li
 have HFC := Qh (HU.out.row HF.out HGP.out.1 HGP.out.2)
 have c0 := cell_row HFC.out 0 _ H0.out
 have c_se := cell_row HFC.out 8 _ H_se.out
 have c_li := cell_row HFC.out 5 _ H_li.out
 have hcl := HU.out.byte 8 rfl (by simp only [List.length_append, List.length_cons, List.length_nil]; have := putM_le kk; have := varsM_le [se, li]; simp only [List.length_cons, List.length_nil] at this; omega)
 have HCL := Qh hcl
 clear hcl
 go_wp2_with fail
 refine Calls.mono HCL.out ?_
 rintro e9 w5 ⟨rfl, hu⟩
 replace HU := Qh hu
 clear hu HCL HFC c0 c_se c_li
 have HFC := Qh (HU.out.row HF.out HGP.out.1 HGP.out.2)
 have c0 := cell_row HFC.out 0 _ H0.out
 have c_se := cell_row HFC.out 8 _ H_se.out
 have c_li := cell_row HFC.out 5 _ H_li.out
 have hcl := HU.out.raw (some ⟨gf, 11, none⟩) 8 8 cid (ints_cid HFC.out H_c.out HCL8.out HCW.out) (by simp only [List.length_append, List.length_cons, List.length_nil]; have := putM_le kk; have := varsM_le [se, li]; simp only [List.length_cons, List.length_nil] at this; omega)
 have HCL := Qh hcl
 clear hcl
 go_wp2_with fail
 refine Calls.mono HCL.out ?_
 rintro e9 w6 ⟨rfl, hu⟩
 replace HU := Qh hu
 clear hu HCL HFC c0 c_se c_li
 have HFC := Qh (HU.out.row HF.out HGP.out.1 HGP.out.2)
 have c0 := cell_row HFC.out 0 _ H0.out
 have c_se := cell_row HFC.out 8 _ H_se.out
 have c_li := cell_row HFC.out 5 _ H_li.out
 go_wp2_with fail
 (try simp only [Exit.inBlock, Exit.then])
 refine bodyPost_end (results_none rfl _ _ _) rfl ?_
 exact ⟨rfl, by have h9 := WrU.from HB1.out HU.out; simpa only [List.append_assoc, List.append_nil] using h9⟩
theorem put4_25 (W0 w : World) (p : Nat) (v : Value) (bs : List Int) (f : Fr) (dv rv : Value) (h : FrAt W0 f dv rv) (hb0 : Below W0.heap.size W0 w) (hk : f.kind = 25) (hr : rightB f = true) (hg : RgOk f) (hW : Wr w W0.heap.size p v bs) (hl : bs.length ≤ 10000) :
  Calls Try.prog 28 #[.pointer (some ⟨p, 0, none⟩), .agg (f.cells dv rv).toArray] w fun e w' => e = .returned (.tuple #[]) ∧ WrU w W0.heap.size p v w' (bs ++ oneFM f) := by
 have hwf := h.wf
 have hkm := kindM_in hr
 have hone : bs ++ oneFM f = bs ++ putM (kindM f) ++ varsM [f.se] := by unfold oneFM bodyM; simp [hk, varsM]
 rw [hone]
 clear hone
 have HRF : Hid ((f.cells dv rv).length = 19) := Qh (Fr.len hwf)
 have H0 : Hid ((f.cells dv rv)[0]? = some (.int .i64 25)) := Qh (by rw [← hk]; rfl)
 have hkd := fun u => kind4_any u f dv rv hwf hr
 obtain ⟨kk, hkk⟩ : ∃ kk, kindM f = kk := ⟨_, rfl⟩
 rw [hkk] at hkm ⊢
 simp only [hkk] at hkd
 have H_se : Hid ((f.cells dv rv)[8]? = some (.int .u64 f.se)) := Qh rfl
 have u_se := hwf.se
 simp only [U64] at u_se
 obtain ⟨RF, hRF⟩ : ∃ R, (f.cells dv rv) = R := ⟨_, rfl⟩
 simp only [hRF] at HRF H0 hkd H_se
 rw [hRF]
 obtain ⟨se, h_se⟩ : ∃ y, f.se = y := ⟨_, rfl⟩
 rw [h_se] at H_se u_se
 try rw [h_se]
 obtain ⟨u1_se, u2_se⟩ := u_se
 clear h_se
 have HKD := Qh hkd
 have HB0 := Qh hb0
 have HLO := Qh hW.lo; have HOWN := Qh (own_base hW.own)
 clear hwf h hRF hkd hg hkk hb0 hr hk
 obtain ⟨m1, m2⟩ := hkm
 have hgp : w.heap.size ≠ p ∧ v.ownBlock ≠ some w.heap.size := ⟨by have := hW.lt; omega, fun e => by have := (hW.own.lt _ e).2; omega⟩
 have HGP := Qh hgp
 have HW := Qh hW
 clear hgp hW
 go_enter Try.func28, Try.ntmps28
 go_upto_region 1 with fail
 change Code.wp _ _ _ _ (w.alloc (.cells RF.toArray 39))
 have hb := (Below.refl w.heap.size w).alloc (Nat.le_refl _) (.cells RF.toArray 39)
 have HB1 := Qh hb
 have HF := Qh (heap_alloc_new w (.cells RF.toArray 39))
 replace HW := Qh (HW.out.to hb)
 replace HB0 := Qh (bl_next HB0.out HB0.out.size hb)
 clear hb
 generalize w.alloc (.cells RF.toArray 39) = w1 at HB1 HF HW HB0 ⊢
 obtain ⟨gf, hg⟩ : ∃ g, w.heap.size = g := ⟨_, rfl⟩
 rw [hg] at HF HGP ⊢
 clear hg
 have HU := Qh (WrU.start HW.out)
 have HFC := HF
 go_wp2_with (first | (refine wpList_load_mid rfl 39 _ rfl gf 0 rfl RF _ (rngL HFC.out) Try.underlying39 rfl (by rw [HRF.out]; rfl) ?_) | fail)
 refine Calls.mono (HKD.out w1) ?_
 rintro e9 w2 ⟨rfl, hb⟩
 replace HU := Qh (HU.out.to hb)
 replace HFC := Qh (bl_row hb (lt_of_block HFC.out) HFC.out)
 clear hb HKD
 have hcl := HU.out.var kk ⟨by omega, by omega⟩ (by omega)
 have HCL := Qh hcl
 clear hcl
 go_wp2_with fail
 refine Calls.mono HCL.out ?_
 rintro e9 w3 ⟨⟨_, rfl⟩, hu⟩
 replace HU := Qh hu
 clear hu HCL HFC
 have HFC := Qh (HU.out.row HF.out HGP.out.1 HGP.out.2)
 have c0 := cell_row HFC.out 0 _ H0.out
 have c_se := cell_row HFC.out 8 _ H_se.out
 have hcl := HU.out.vars [se] 1 rfl (fun x hx => by simp only [List.mem_cons, List.not_mem_nil, or_false] at hx; subst hx; exact wf_u64r (by omega) (by omega)) (by simp only [List.length_append, List.length_cons, List.length_nil]; have := putM_le kk; omega) (by omega)
 have HCL := Qh hcl
 clear hcl
 go_wp2_with fail
 refine Calls.mono HCL.out ?_
 rintro e9 w4 ⟨rfl, hu⟩
 replace HU := Qh hu
 clear hu HCL HFC c0 c_se
 have HFC := Qh (HU.out.row HF.out HGP.out.1 HGP.out.2)
 have c0 := cell_row HFC.out 0 _ H0.out
 have c_se := cell_row HFC.out 8 _ H_se.out
 go_wp2_with fail
 (try simp only [Exit.inBlock, Exit.then])
 refine bodyPost_end (results_none rfl _ _ _) rfl ?_
 exact ⟨rfl, by have h9 := WrU.from HB1.out HU.out; simpa only [List.append_assoc, List.append_nil] using h9⟩
theorem put4_26 (W0 w : World) (p : Nat) (v : Value) (bs : List Int) (f : Fr) (dv rv : Value) (h : FrAt W0 f dv rv) (hb0 : Below W0.heap.size W0 w) (hk : f.kind = 26) (hr : rightB f = true) (hg : RgOk f) (hW : Wr w W0.heap.size p v bs) (hl : bs.length ≤ 10000) :
  Calls Try.prog 28 #[.pointer (some ⟨p, 0, none⟩), .agg (f.cells dv rv).toArray] w fun e w' => e = .returned (.tuple #[]) ∧ WrU w W0.heap.size p v w' (bs ++ oneFM f) := by
 have hwf := h.wf
 have hkm := kindM_in hr
 have hone : bs ++ oneFM f = bs ++ putM (kindM f) ++ f.cid := by unfold oneFM bodyM; simp [hk, varsM]
 rw [hone]
 clear hone
 have HRF : Hid ((f.cells dv rv).length = 19) := Qh (Fr.len hwf)
 have H0 : Hid ((f.cells dv rv)[0]? = some (.int .i64 26)) := Qh (by rw [← hk]; rfl)
 have hkd := fun u => kind4_any u f dv rv hwf hr
 obtain ⟨kk, hkk⟩ : ∃ kk, kindM f = kk := ⟨_, rfl⟩
 rw [hkk] at hkm ⊢
 simp only [hkk] at hkd
 have H_c : Hid ((f.cells dv rv).drop 11 = f.cid.map (Value.int .u8)) := Qh rfl
 have hcl := hwf.cidl; have hcw := hwf.cid
 obtain ⟨cid, hcid⟩ : ∃ y, f.cid = y := ⟨_, rfl⟩
 rw [hcid] at H_c hcl hcw ⊢
 have HCL8 := Qh hcl; have HCW := Qh hcw
 clear hcid hcl hcw
 obtain ⟨RF, hRF⟩ : ∃ R, (f.cells dv rv) = R := ⟨_, rfl⟩
 simp only [hRF] at HRF H0 hkd H_c
 rw [hRF]
 have HKD := Qh hkd
 have HB0 := Qh hb0
 have HLO := Qh hW.lo; have HOWN := Qh (own_base hW.own)
 clear hwf h hRF hkd hg hkk hb0 hr hk
 obtain ⟨m1, m2⟩ := hkm
 have hgp : w.heap.size ≠ p ∧ v.ownBlock ≠ some w.heap.size := ⟨by have := hW.lt; omega, fun e => by have := (hW.own.lt _ e).2; omega⟩
 have HGP := Qh hgp
 have HW := Qh hW
 clear hgp hW
 go_enter Try.func28, Try.ntmps28
 go_upto_region 1 with fail
 change Code.wp _ _ _ _ (w.alloc (.cells RF.toArray 39))
 have hb := (Below.refl w.heap.size w).alloc (Nat.le_refl _) (.cells RF.toArray 39)
 have HB1 := Qh hb
 have HF := Qh (heap_alloc_new w (.cells RF.toArray 39))
 replace HW := Qh (HW.out.to hb)
 replace HB0 := Qh (bl_next HB0.out HB0.out.size hb)
 clear hb
 generalize w.alloc (.cells RF.toArray 39) = w1 at HB1 HF HW HB0 ⊢
 obtain ⟨gf, hg⟩ : ∃ g, w.heap.size = g := ⟨_, rfl⟩
 rw [hg] at HF HGP ⊢
 clear hg
 have HU := Qh (WrU.start HW.out)
 have HFC := HF
 go_wp2_with (first | (refine wpList_load_mid rfl 39 _ rfl gf 0 rfl RF _ (rngL HFC.out) Try.underlying39 rfl (by rw [HRF.out]; rfl) ?_) | fail)
 refine Calls.mono (HKD.out w1) ?_
 rintro e9 w2 ⟨rfl, hb⟩
 replace HU := Qh (HU.out.to hb)
 replace HFC := Qh (bl_row hb (lt_of_block HFC.out) HFC.out)
 clear hb HKD
 have hcl := HU.out.var kk ⟨by omega, by omega⟩ (by omega)
 have HCL := Qh hcl
 clear hcl
 go_wp2_with fail
 refine Calls.mono HCL.out ?_
 rintro e9 w3 ⟨⟨_, rfl⟩, hu⟩
 replace HU := Qh hu
 clear hu HCL HFC
 have HFC := Qh (HU.out.row HF.out HGP.out.1 HGP.out.2)
 have c0 := cell_row HFC.out 0 _ H0.out
 have hcl := HU.out.raw (some ⟨gf, 11, none⟩) 8 8 cid (ints_cid HFC.out H_c.out HCL8.out HCW.out) (by simp only [List.length_append, List.length_cons, List.length_nil]; have := putM_le kk; omega)
 have HCL := Qh hcl
 clear hcl
 go_wp2_with fail
 refine Calls.mono HCL.out ?_
 rintro e9 w4 ⟨rfl, hu⟩
 replace HU := Qh hu
 clear hu HCL HFC c0
 have HFC := Qh (HU.out.row HF.out HGP.out.1 HGP.out.2)
 have c0 := cell_row HFC.out 0 _ H0.out
 go_wp2_with fail
 (try simp only [Exit.inBlock, Exit.then])
 refine bodyPost_end (results_none rfl _ _ _) rfl ?_
 exact ⟨rfl, by have h9 := WrU.from HB1.out HU.out; simpa only [List.append_assoc, List.append_nil] using h9⟩
theorem put4_27 (W0 w : World) (p : Nat) (v : Value) (bs : List Int) (f : Fr) (dv rv : Value) (h : FrAt W0 f dv rv) (hb0 : Below W0.heap.size W0 w) (hk : f.kind = 27) (hr : rightB f = true) (hg : RgOk f) (hW : Wr w W0.heap.size p v bs) (hl : bs.length ≤ 10000) :
  Calls Try.prog 28 #[.pointer (some ⟨p, 0, none⟩), .agg (f.cells dv rv).toArray] w fun e w' => e = .returned (.tuple #[]) ∧ WrU w W0.heap.size p v w' (bs ++ oneFM f) := by
 have hwf := h.wf
 have hkm := kindM_in hr
 have hone : bs ++ oneFM f = bs ++ putM (kindM f) ++ f.cid := by unfold oneFM bodyM; simp [hk, varsM]
 rw [hone]
 clear hone
 have HRF : Hid ((f.cells dv rv).length = 19) := Qh (Fr.len hwf)
 have H0 : Hid ((f.cells dv rv)[0]? = some (.int .i64 27)) := Qh (by rw [← hk]; rfl)
 have hkd := fun u => kind4_any u f dv rv hwf hr
 obtain ⟨kk, hkk⟩ : ∃ kk, kindM f = kk := ⟨_, rfl⟩
 rw [hkk] at hkm ⊢
 simp only [hkk] at hkd
 have H_c : Hid ((f.cells dv rv).drop 11 = f.cid.map (Value.int .u8)) := Qh rfl
 have hcl := hwf.cidl; have hcw := hwf.cid
 obtain ⟨cid, hcid⟩ : ∃ y, f.cid = y := ⟨_, rfl⟩
 rw [hcid] at H_c hcl hcw ⊢
 have HCL8 := Qh hcl; have HCW := Qh hcw
 clear hcid hcl hcw
 obtain ⟨RF, hRF⟩ : ∃ R, (f.cells dv rv) = R := ⟨_, rfl⟩
 simp only [hRF] at HRF H0 hkd H_c
 rw [hRF]
 have HKD := Qh hkd
 have HB0 := Qh hb0
 have HLO := Qh hW.lo; have HOWN := Qh (own_base hW.own)
 clear hwf h hRF hkd hg hkk hb0 hr hk
 obtain ⟨m1, m2⟩ := hkm
 have hgp : w.heap.size ≠ p ∧ v.ownBlock ≠ some w.heap.size := ⟨by have := hW.lt; omega, fun e => by have := (hW.own.lt _ e).2; omega⟩
 have HGP := Qh hgp
 have HW := Qh hW
 clear hgp hW
 go_enter Try.func28, Try.ntmps28
 go_upto_region 1 with fail
 change Code.wp _ _ _ _ (w.alloc (.cells RF.toArray 39))
 have hb := (Below.refl w.heap.size w).alloc (Nat.le_refl _) (.cells RF.toArray 39)
 have HB1 := Qh hb
 have HF := Qh (heap_alloc_new w (.cells RF.toArray 39))
 replace HW := Qh (HW.out.to hb)
 replace HB0 := Qh (bl_next HB0.out HB0.out.size hb)
 clear hb
 generalize w.alloc (.cells RF.toArray 39) = w1 at HB1 HF HW HB0 ⊢
 obtain ⟨gf, hg⟩ : ∃ g, w.heap.size = g := ⟨_, rfl⟩
 rw [hg] at HF HGP ⊢
 clear hg
 have HU := Qh (WrU.start HW.out)
 have HFC := HF
 go_wp2_with (first | (refine wpList_load_mid rfl 39 _ rfl gf 0 rfl RF _ (rngL HFC.out) Try.underlying39 rfl (by rw [HRF.out]; rfl) ?_) | fail)
 refine Calls.mono (HKD.out w1) ?_
 rintro e9 w2 ⟨rfl, hb⟩
 replace HU := Qh (HU.out.to hb)
 replace HFC := Qh (bl_row hb (lt_of_block HFC.out) HFC.out)
 clear hb HKD
 have hcl := HU.out.var kk ⟨by omega, by omega⟩ (by omega)
 have HCL := Qh hcl
 clear hcl
 go_wp2_with fail
 refine Calls.mono HCL.out ?_
 rintro e9 w3 ⟨⟨_, rfl⟩, hu⟩
 replace HU := Qh hu
 clear hu HCL HFC
 have HFC := Qh (HU.out.row HF.out HGP.out.1 HGP.out.2)
 have c0 := cell_row HFC.out 0 _ H0.out
 have hcl := HU.out.raw (some ⟨gf, 11, none⟩) 8 8 cid (ints_cid HFC.out H_c.out HCL8.out HCW.out) (by simp only [List.length_append, List.length_cons, List.length_nil]; have := putM_le kk; omega)
 have HCL := Qh hcl
 clear hcl
 go_wp2_with fail
 refine Calls.mono HCL.out ?_
 rintro e9 w4 ⟨rfl, hu⟩
 replace HU := Qh hu
 clear hu HCL HFC c0
 have HFC := Qh (HU.out.row HF.out HGP.out.1 HGP.out.2)
 have c0 := cell_row HFC.out 0 _ H0.out
 go_wp2_with fail
 (try simp only [Exit.inBlock, Exit.then])
 refine bodyPost_end (results_none rfl _ _ _) rfl ?_
 exact ⟨rfl, by have h9 := WrU.from HB1.out HU.out; simpa only [List.append_assoc, List.append_nil] using h9⟩
theorem put4_28 (W0 w : World) (p : Nat) (v : Value) (bs : List Int) (f : Fr) (dv rv : Value) (h : FrAt W0 f dv rv) (hb0 : Below W0.heap.size W0 w) (hk : f.kind = 28) (hr : rightB f = true) (hg : RgOk f) (hW : Wr w W0.heap.size p v bs) (hl : bs.length ≤ 10000) :
  Calls Try.prog 28 #[.pointer (some ⟨p, 0, none⟩), .agg (f.cells dv rv).toArray] w fun e w' => e = .returned (.tuple #[]) ∧ WrU w W0.heap.size p v w' (bs ++ oneFM f) := by
 have hwf := h.wf
 have hkm := kindM_in hr
 obtain ⟨da, dn, dc, rfl, hd1, hd2, hd⟩ := h.d
 have hdn : f.data.length = dn := hd.1
 have hdl : dn ≤ 512 := by rw [← hdn]; exact right_data hr (by omega)
 have HD := Qh hd
 have hone : bs ++ oneFM f = bs ++ putM (kindM f) ++ varsM [f.co] ++ textB f.data := by unfold oneFM bodyM; simp [hk, varsM]
 rw [hone]
 clear hone
 have HRF : Hid ((f.cells (.slice da dn dc) rv).length = 19) := Qh (Fr.len hwf)
 have H0 : Hid ((f.cells (.slice da dn dc) rv)[0]? = some (.int .i64 28)) := Qh (by rw [← hk]; rfl)
 have hkd := fun u => kind4_any u f (.slice da dn dc) rv hwf hr
 obtain ⟨kk, hkk⟩ : ∃ kk, kindM f = kk := ⟨_, rfl⟩
 rw [hkk] at hkm ⊢
 simp only [hkk] at hkd
 have H_co : Hid ((f.cells (.slice da dn dc) rv)[6]? = some (.int .u64 f.co)) := Qh rfl
 have u_co := hwf.co
 simp only [U64] at u_co
 have H_d : Hid ((f.cells (.slice da dn dc) rv)[3]? = some (.slice da dn dc)) := Qh rfl
 obtain ⟨data, hdata⟩ : ∃ y, f.data = y := ⟨_, rfl⟩
 rw [hdata] at HD hdn ⊢
 clear hdata hd
 obtain ⟨RF, hRF⟩ : ∃ R, (f.cells (.slice da dn dc) rv) = R := ⟨_, rfl⟩
 simp only [hRF] at HRF H0 hkd H_co H_d
 rw [hRF]
 obtain ⟨co, h_co⟩ : ∃ y, f.co = y := ⟨_, rfl⟩
 rw [h_co] at H_co u_co
 try rw [h_co]
 obtain ⟨u1_co, u2_co⟩ := u_co
 clear h_co
 have HKD := Qh hkd
 have HB0 := Qh hb0
 have HLO := Qh hW.lo; have HOWN := Qh (own_base hW.own)
 clear hwf h hRF hkd hg hkk hb0 hr hk
 obtain ⟨m1, m2⟩ := hkm
 have hgp : w.heap.size ≠ p ∧ v.ownBlock ≠ some w.heap.size := ⟨by have := hW.lt; omega, fun e => by have := (hW.own.lt _ e).2; omega⟩
 have HGP := Qh hgp
 have HW := Qh hW
 clear hgp hW
 go_enter Try.func28, Try.ntmps28
 go_upto_region 1 with fail
 change Code.wp _ _ _ _ (w.alloc (.cells RF.toArray 39))
 have hb := (Below.refl w.heap.size w).alloc (Nat.le_refl _) (.cells RF.toArray 39)
 have HB1 := Qh hb
 have HF := Qh (heap_alloc_new w (.cells RF.toArray 39))
 replace HW := Qh (HW.out.to hb)
 replace HB0 := Qh (bl_next HB0.out HB0.out.size hb)
 clear hb
 generalize w.alloc (.cells RF.toArray 39) = w1 at HB1 HF HW HB0 ⊢
 obtain ⟨gf, hg⟩ : ∃ g, w.heap.size = g := ⟨_, rfl⟩
 rw [hg] at HF HGP ⊢
 clear hg
 have HU := Qh (WrU.start HW.out)
 have HFC := HF
 go_wp2_with (first | (refine wpList_load_mid rfl 39 _ rfl gf 0 rfl RF _ (rngL HFC.out) Try.underlying39 rfl (by rw [HRF.out]; rfl) ?_) | fail)
 refine Calls.mono (HKD.out w1) ?_
 rintro e9 w2 ⟨rfl, hb⟩
 replace HU := Qh (HU.out.to hb)
 replace HFC := Qh (bl_row hb (lt_of_block HFC.out) HFC.out)
 clear hb HKD
 have hcl := HU.out.var kk ⟨by omega, by omega⟩ (by omega)
 have HCL := Qh hcl
 clear hcl
 go_wp2_with fail
 refine Calls.mono HCL.out ?_
 rintro e9 w3 ⟨⟨_, rfl⟩, hu⟩
 replace HU := Qh hu
 clear hu HCL HFC
 have HFC := Qh (HU.out.row HF.out HGP.out.1 HGP.out.2)
 have c0 := cell_row HFC.out 0 _ H0.out
 have c_co := cell_row HFC.out 6 _ H_co.out
 have c_d := cell_row HFC.out 3 _ H_d.out
 have hcl := HU.out.vars [co] 1 rfl (fun x hx => by simp only [List.mem_cons, List.not_mem_nil, or_false] at hx; subst hx; exact wf_u64r (by omega) (by omega)) (by simp only [List.length_append, List.length_cons, List.length_nil]; have := putM_le kk; omega) (by omega)
 have HCL := Qh hcl
 clear hcl
 go_wp2_with fail
 refine Calls.mono HCL.out ?_
 rintro e9 w4 ⟨rfl, hu⟩
 replace HU := Qh hu
 clear hu HCL HFC c0 c_co c_d
 have HFC := Qh (HU.out.row HF.out HGP.out.1 HGP.out.2)
 have c0 := cell_row HFC.out 0 _ H0.out
 have c_co := cell_row HFC.out 6 _ H_co.out
 have c_d := cell_row HFC.out 3 _ H_d.out
 have hcl := HU.out.text HB0.out HLO.out HOWN.out da dn dc data HD.out (by simp only [List.length_append, List.length_cons, List.length_nil]; have := putM_le kk; have := varsM_le [co]; simp only [List.length_cons, List.length_nil] at this; omega) (by omega)
 have HCL := Qh hcl
 clear hcl
 go_wp2_with fail
 refine Calls.mono HCL.out ?_
 rintro e9 w5 ⟨rfl, hu⟩
 replace HU := Qh hu
 clear hu HCL HFC c0 c_co c_d
 have HFC := Qh (HU.out.row HF.out HGP.out.1 HGP.out.2)
 have c0 := cell_row HFC.out 0 _ H0.out
 have c_co := cell_row HFC.out 6 _ H_co.out
 have c_d := cell_row HFC.out 3 _ H_d.out
 go_wp2_with fail
 (try simp only [Exit.inBlock, Exit.then])
 refine bodyPost_end (results_none rfl _ _ _) rfl ?_
 exact ⟨rfl, by have h9 := WrU.from HB1.out HU.out; simpa only [List.append_assoc, List.append_nil] using h9⟩
theorem put4_any (W0 w : World) (p : Nat) (v : Value) (bs : List Int) (f : Fr) (dv rv : Value) (h : FrAt W0 f dv rv) (hb0 : Below W0.heap.size W0 w) (hr : rightB f = true) (hg : RgOk f) (hW : Wr w W0.heap.size p v bs) (hl : bs.length ≤ 10000) :
  Calls Try.prog 28 #[.pointer (some ⟨p, 0, none⟩), .agg (f.cells dv rv).toArray] w fun e w' => e = .returned (.tuple #[]) ∧ WrU w W0.heap.size p v w' (bs ++ oneFM f) := by
 rcases right_kind hr with hk | hk | hk | hk | hk | hk | hk | hk | hk | hk | hk | hk | hk | hk | hk | hk | hk
 ·
  exact put4_0 W0 w p v bs f dv rv h hb0 hk hr hg hW hl
 ·
  exact put4_1 W0 w p v bs f dv rv h hb0 hk hr hg hW hl
 ·
  exact put4_30 W0 w p v bs f dv rv h hb0 hk hr hg hW hl
 ·
  exact put4_26 W0 w p v bs f dv rv h hb0 hk hr hg hW hl
 ·
  exact put4_27 W0 w p v bs f dv rv h hb0 hk hr hg hW hl
 ·
  exact put4_2 W0 w p v bs f dv rv h hb0 hk hr hg hW hl
 ·
  exact put4_4 W0 w p v bs f dv rv h hb0 hk hr hg hW hl
 ·
  exact put4_5 W0 w p v bs f dv rv h hb0 hk hr hg hW hl
 ·
  exact put4_6 W0 w p v bs f dv rv h hb0 hk hr hg hW hl
 ·
  by_cases ho : f.of_ = 0
  ·
   exact put4_8z W0 w p v bs f dv rv h hb0 hk ho hr hg hW hl
  ·
   exact put4_8p W0 w p v bs f dv rv h hb0 hk (by have := h.wf.of_.1; omega) hr hg hW hl
 ·
  exact put4_16 W0 w p v bs f dv rv h hb0 hk hr hg hW hl
 ·
  exact put4_17 W0 w p v bs f dv rv h hb0 hk hr hg hW hl
 ·
  exact put4_18 W0 w p v bs f dv rv h hb0 hk hr hg hW hl
 ·
  exact put4_20 W0 w p v bs f dv rv h hb0 hk hr hg hW hl
 ·
  exact put4_24 W0 w p v bs f dv rv h hb0 hk hr hg hW hl
 ·
  exact put4_25 W0 w p v bs f dv rv h hb0 hk hr hg hW hl
 ·
  exact put4_28 W0 w p v bs f dv rv h hb0 hk hr hg hW hl
end Go.Proofs.Ytmbjepcbokbemaa
