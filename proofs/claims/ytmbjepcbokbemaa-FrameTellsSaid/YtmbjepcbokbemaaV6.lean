/- texts of the proof, laid together: FrmH, Grow3, PutR. -/
import Derived.Test.YtmbjepcbokbemaaV5
import Derived.Test.YtmbjepcbokbemaaV4
import Derived.Test.YtmbjepcbokbemaaV1
set_option linter.unusedVariables false
set_option linter.unusedSimpArgs false
set_option maxRecDepth 100000
set_option maxHeartbeats 16000000
namespace Go.Proofs.Ytmbjepcbokbemaa
open Go.RowKit
theorem WrU.var {w y : World} {B p : Nat} {v : Value} {bs : List Int} (h : WrU w B p v y bs) (n : Int) (hn : 0 ≤ n ∧ n < 18446744073709551616) (hl : bs.length ≤ 100000) :
  Calls Try.prog 53 #[.pointer (some ⟨p, 0, none⟩), .int .u64 n] y fun e w' => (∃ b, e = .returned (.bool b)) ∧ WrU w B p v w' (bs ++ putM n) := by
 obtain ⟨v1, h1, h2, h3⟩ := h
 refine Calls.mono (wvar_any y B p v1 bs n (by omega) h1 hn) ?_
 rintro e w' ⟨v2, rfl, k1, k2, k3⟩
 exact ⟨⟨_, rfl⟩, v2, k1, h2.next k2 h3, own_next h2.size h3 k3⟩
theorem WrU.raw {w y : World} {B p : Nat} {v : Value} {bs : List Int} (h : WrU w B p v y bs) (a : Option Addr) (n c : Nat) (xs : List Int) (hI : IntsK .u8 y a n xs) (hl : bs.length + n ≤ 200000) :
  Calls Try.prog 59 #[.pointer (some ⟨p, 0, none⟩), .slice a n c] y fun e w' => e = .returned (.tuple #[]) ∧ WrU w B p v w' (bs ++ xs) := by
 obtain ⟨v1, h1, h2, h3⟩ := h
 refine Calls.mono (wraw_any y B p v1 bs a n c xs (by omega) h1 hI) ?_
 rintro e w' ⟨v2, rfl, k1, k2, k3⟩
 exact ⟨rfl, v2, k1, h2.next k2 h3, own_next h2.size h3 k3⟩
theorem WrU.byte {w y : World} {B p : Nat} {v : Value} {bs : List Int} (h : WrU w B p v y bs) (x : Int) (hx : (Lit.int .u8 x).wf = true) (hl : bs.length ≤ 200000) :
  Calls Try.prog 58 #[.pointer (some ⟨p, 0, none⟩), .int .u8 x] y fun e w' => e = .returned (.tuple #[]) ∧ WrU w B p v w' (bs ++ [x]) := by
 obtain ⟨v1, h1, h2, h3⟩ := h
 refine Calls.mono (wbyte_any y B p v1 bs x (by omega) h1 hx) ?_
 rintro e w' ⟨v2, rfl, k1, k2, k3⟩
 exact ⟨rfl, v2, k1, h2.next k2 h3, own_next h2.size h3 k3⟩
theorem Ch.low {W0 w y : World} {p : Nat} {q : Option Nat} (hb : Below W0.heap.size W0 w) (h : Ch w y p q) (hp : W0.heap.size ≤ p) (hq : ∀ k, q = some k → W0.heap.size ≤ k) : Below W0.heap.size W0 y := h.below hb hb.size hp hq
theorem WrU.low {W0 w y : World} {p : Nat} {v : Value} {bs : List Int} (hb : Below W0.heap.size W0 w) (hp : W0.heap.size ≤ p) (hv : ∀ k, v.ownBlock = some k → W0.heap.size ≤ k) (h : WrU w W0.heap.size p v y bs) : Below W0.heap.size W0 y := by
 obtain ⟨v1, h1, h2, h3⟩ := h
 exact h2.low hb hp hv
theorem WrU.text {W0 w y : World} {p : Nat} {v : Value} {bs : List Int} (hb : Below W0.heap.size W0 w) (hp : W0.heap.size ≤ p) (hv : ∀ k, v.ownBlock = some k → W0.heap.size ≤ k) (h : WrU w W0.heap.size p v y bs) (a : Option Addr) (n c : Nat) (xs : List Int) (hI : IntsK .u8 W0 a n xs) (hl : bs.length ≤ 100000) (hn : n ≤ 1000) :
  Calls Try.prog 57 #[.pointer (some ⟨p, 0, none⟩), .slice a n c] y fun e w' => e = .returned (.tuple #[]) ∧ WrU w W0.heap.size p v w' (bs ++ textB xs) := by
 have hlow := h.low hb hp hv
 obtain ⟨v1, h1, h2, h3⟩ := h
 have hap : 0 < n → ∀ x, a = some x → x.block ≠ p ∧ v1.ownBlock ≠ some x.block := by
  intro h0 x hx
  rcases hI.2.2 with h9 | ⟨b, off, h9, hbl, _⟩
  ·
   omega
  ·
   rw [h9] at hx; injection hx with hx; subst hx
   exact ⟨by show b ≠ p; omega, fun e => absurd (own_base h1.own b e) (by omega)⟩
 refine Calls.mono (wtext_any y W0.heap.size p v1 bs a n c xs (by omega) h1 (hI.below hlow) hap) ?_
 rintro e w' ⟨v2, rfl, k1, k2, k3⟩
 refine ⟨rfl, v2, ?_, h2.next k2 h3, own_next h2.size h3 k3⟩
 unfold textB; rw [hI.1]; exact k1
theorem ints_cid {w : World} {g : Nat} {RF : List Value} {t : TypeId} {cid : List Int} {o : Nat} (h : w.heap[g]? = some (.cells RF.toArray t (0, 0))) (hc : RF.drop o = cid.map (Value.int .u8)) (hl : cid.length = 8) (hw : ∀ x ∈ cid, (Lit.int .u8 x).wf = true) : IntsK .u8 w (some ⟨g, o, none⟩) 8 cid := by
 refine ⟨hl, hw, .inr ⟨g, o, rfl, lt_of_block h, fun i hi => ?_⟩⟩
 have h1 : (RF.drop o)[i]? = some (.int .u8 (cid.getD i 0)) := by
  rw [hc, List.getElem?_map, List.getD_eq_getElem?_getD, List.getElem?_eq_getElem (by omega)]; rfl
 rw [List.getElem?_drop] at h1
 exact cell_row h (o + i) _ h1
theorem text_le (l : List Int) : (textB l).length ≤ 8 + l.length := by unfold textB; rw [List.length_append]; have := putM_le l.length; omega
theorem right_data {f : Fr} (hr : rightB f = true) (hk : f.kind = 6 ∨ f.kind = 8 ∨ f.kind = 28) : f.data.length ≤ 512 := by
 unfold rightB at hr
 rcases hk with hk | hk | hk
 ·
  simp [hk] at hr; exact (atB_iff.1 hr).1
 ·
  simp [hk] at hr; exact (atB_iff.1 hr.2).1
 ·
  simp [hk] at hr; omega
theorem put4_0 (W0 w : World) (p : Nat) (v : Value) (bs : List Int) (f : Fr) (dv rv : Value) (h : FrAt W0 f dv rv) (hb0 : Below W0.heap.size W0 w) (hk : f.kind = 0) (hr : rightB f = true) (hg : RgOk f) (hW : Wr w W0.heap.size p v bs) (hl : bs.length ≤ 10000) :
  Calls Try.prog 28 #[.pointer (some ⟨p, 0, none⟩), .agg (f.cells dv rv).toArray] w fun e w' => e = .returned (.tuple #[]) ∧ WrU w W0.heap.size p v w' (bs ++ oneFM f) := by
 have hwf := h.wf
 have hkm := kindM_in hr
 have hone : bs ++ oneFM f = bs ++ putM (kindM f) := by unfold oneFM bodyM; simp [hk, varsM]
 rw [hone]
 clear hone
 have HRF : Hid ((f.cells dv rv).length = 19) := Qh (Fr.len hwf)
 have H0 : Hid ((f.cells dv rv)[0]? = some (.int .i64 0)) := Qh (by rw [← hk]; rfl)
 have hkd := fun u => kind4_any u f dv rv hwf hr
 obtain ⟨kk, hkk⟩ : ∃ kk, kindM f = kk := ⟨_, rfl⟩
 rw [hkk] at hkm ⊢
 simp only [hkk] at hkd
 obtain ⟨RF, hRF⟩ : ∃ R, (f.cells dv rv) = R := ⟨_, rfl⟩
 simp only [hRF] at HRF H0 hkd
 rw [hRF]
 have HKD := Qh hkd
 have HB0 := Qh hb0
 have HLO := Qh hW.lo; have HOWN := Qh (own_base hW.own)
 clear hwf h hRF hkd hg hkk hb0 hr hk
 obtain ⟨m1, m2⟩ := hkm
 have hgp : w.heap.size ≠ p ∧ v.ownBlock ≠ some w.heap.size := ⟨by have := hW.lt; omega, fun e => by have := (hW.own.lt _ e).2; omega⟩
 have HGP := Qh hgp
 have HW := Qh hW
 clear hgp hW
 go_enter Try.func28, Try.ntmps28
 go_upto_region 1 with fail
 change Code.wp _ _ _ _ (w.alloc (.cells RF.toArray 39))
 have hb := (Below.refl w.heap.size w).alloc (Nat.le_refl _) (.cells RF.toArray 39)
 have HB1 := Qh hb
 have HF := Qh (heap_alloc_new w (.cells RF.toArray 39))
 replace HW := Qh (HW.out.to hb)
 replace HB0 := Qh (bl_next HB0.out HB0.out.size hb)
 clear hb
 generalize w.alloc (.cells RF.toArray 39) = w1 at HB1 HF HW HB0 ⊢
 obtain ⟨gf, hg⟩ : ∃ g, w.heap.size = g := ⟨_, rfl⟩
 rw [hg] at HF HGP ⊢
 clear hg
 have HU := Qh (WrU.start HW.out)
 have HFC := HF
 go_wp2_with (first | (refine wpList_load_mid rfl 39 _ rfl gf 0 rfl RF _ (rngL HFC.out) Try.underlying39 rfl (by rw [HRF.out]; rfl) ?_) | fail)
 refine Calls.mono (HKD.out w1) ?_
 rintro e9 w2 ⟨rfl, hb⟩
 replace HU := Qh (HU.out.to hb)
 replace HFC := Qh (bl_row hb (lt_of_block HFC.out) HFC.out)
 clear hb HKD
 have hcl := HU.out.var kk ⟨by omega, by omega⟩ (by omega)
 have HCL := Qh hcl
 clear hcl
 go_wp2_with fail
 refine Calls.mono HCL.out ?_
 rintro e9 w3 ⟨⟨_, rfl⟩, hu⟩
 replace HU := Qh hu
 clear hu HCL HFC
 have HFC := Qh (HU.out.row HF.out HGP.out.1 HGP.out.2)
 have c0 := cell_row HFC.out 0 _ H0.out
 go_wp2_with fail
 (try simp only [Exit.inBlock, Exit.then])
 refine bodyPost_end (results_none rfl _ _ _) rfl ?_
 exact ⟨rfl, by have h9 := WrU.from HB1.out HU.out; simpa only [List.append_assoc, List.append_nil] using h9⟩
theorem put4_1 (W0 w : World) (p : Nat) (v : Value) (bs : List Int) (f : Fr) (dv rv : Value) (h : FrAt W0 f dv rv) (hb0 : Below W0.heap.size W0 w) (hk : f.kind = 1) (hr : rightB f = true) (hg : RgOk f) (hW : Wr w W0.heap.size p v bs) (hl : bs.length ≤ 10000) :
  Calls Try.prog 28 #[.pointer (some ⟨p, 0, none⟩), .agg (f.cells dv rv).toArray] w fun e w' => e = .returned (.tuple #[]) ∧ WrU w W0.heap.size p v w' (bs ++ oneFM f) := by
 have hwf := h.wf
 have hkm := kindM_in hr
 have hone : bs ++ oneFM f = bs ++ putM (kindM f) := by unfold oneFM bodyM; simp [hk, varsM]
 rw [hone]
 clear hone
 have HRF : Hid ((f.cells dv rv).length = 19) := Qh (Fr.len hwf)
 have H0 : Hid ((f.cells dv rv)[0]? = some (.int .i64 1)) := Qh (by rw [← hk]; rfl)
 have hkd := fun u => kind4_any u f dv rv hwf hr
 obtain ⟨kk, hkk⟩ : ∃ kk, kindM f = kk := ⟨_, rfl⟩
 rw [hkk] at hkm ⊢
 simp only [hkk] at hkd
 obtain ⟨RF, hRF⟩ : ∃ R, (f.cells dv rv) = R := ⟨_, rfl⟩
 simp only [hRF] at HRF H0 hkd
 rw [hRF]
 have HKD := Qh hkd
 have HB0 := Qh hb0
 have HLO := Qh hW.lo; have HOWN := Qh (own_base hW.own)
 clear hwf h hRF hkd hg hkk hb0 hr hk
 obtain ⟨m1, m2⟩ := hkm
 have hgp : w.heap.size ≠ p ∧ v.ownBlock ≠ some w.heap.size := ⟨by have := hW.lt; omega, fun e => by have := (hW.own.lt _ e).2; omega⟩
 have HGP := Qh hgp
 have HW := Qh hW
 clear hgp hW
 go_enter Try.func28, Try.ntmps28
 go_upto_region 1 with fail
 change Code.wp _ _ _ _ (w.alloc (.cells RF.toArray 39))
 have hb := (Below.refl w.heap.size w).alloc (Nat.le_refl _) (.cells RF.toArray 39)
 have HB1 := Qh hb
 have HF := Qh (heap_alloc_new w (.cells RF.toArray 39))
 replace HW := Qh (HW.out.to hb)
 replace HB0 := Qh (bl_next HB0.out HB0.out.size hb)
 clear hb
 generalize w.alloc (.cells RF.toArray 39) = w1 at HB1 HF HW HB0 ⊢
 obtain ⟨gf, hg⟩ : ∃ g, w.heap.size = g := ⟨_, rfl⟩
 rw [hg] at HF HGP ⊢
 clear hg
 have HU := Qh (WrU.start HW.out)
 have HFC := HF
 go_wp2_with (first | (refine wpList_load_mid rfl 39 _ rfl gf 0 rfl RF _ (rngL HFC.out) Try.underlying39 rfl (by rw [HRF.out]; rfl) ?_) | fail)
 refine Calls.mono (HKD.out w1) ?_
 rintro e9 w2 ⟨rfl, hb⟩
 replace HU := Qh (HU.out.to hb)
 replace HFC := Qh (bl_row hb (lt_of_block HFC.out) HFC.out)
 clear hb HKD
 have hcl := HU.out.var kk ⟨by omega, by omega⟩ (by omega)
 have HCL := Qh hcl
 clear hcl
 go_wp2_with fail
 refine Calls.mono HCL.out ?_
 rintro e9 w3 ⟨⟨_, rfl⟩, hu⟩
 replace HU := Qh hu
 clear hu HCL HFC
 have HFC := Qh (HU.out.row HF.out HGP.out.1 HGP.out.2)
 have c0 := cell_row HFC.out 0 _ H0.out
 go_wp2_with fail
 (try simp only [Exit.inBlock, Exit.then])
 refine bodyPost_end (results_none rfl _ _ _) rfl ?_
 exact ⟨rfl, by have h9 := WrU.from HB1.out HU.out; simpa only [List.append_assoc, List.append_nil] using h9⟩
theorem put4_30 (W0 w : World) (p : Nat) (v : Value) (bs : List Int) (f : Fr) (dv rv : Value) (h : FrAt W0 f dv rv) (hb0 : Below W0.heap.size W0 w) (hk : f.kind = 30) (hr : rightB f = true) (hg : RgOk f) (hW : Wr w W0.heap.size p v bs) (hl : bs.length ≤ 10000) :
  Calls Try.prog 28 #[.pointer (some ⟨p, 0, none⟩), .agg (f.cells dv rv).toArray] w fun e w' => e = .returned (.tuple #[]) ∧ WrU w W0.heap.size p v w' (bs ++ oneFM f) := by
 have hwf := h.wf
 have hkm := kindM_in hr
 have hone : bs ++ oneFM f = bs ++ putM (kindM f) := by unfold oneFM bodyM; simp [hk, varsM]
 rw [hone]
 clear hone
 have HRF : Hid ((f.cells dv rv).length = 19) := Qh (Fr.len hwf)
 have H0 : Hid ((f.cells dv rv)[0]? = some (.int .i64 30)) := Qh (by rw [← hk]; rfl)
 have hkd := fun u => kind4_any u f dv rv hwf hr
 obtain ⟨kk, hkk⟩ : ∃ kk, kindM f = kk := ⟨_, rfl⟩
 rw [hkk] at hkm ⊢
 simp only [hkk] at hkd
 obtain ⟨RF, hRF⟩ : ∃ R, (f.cells dv rv) = R := ⟨_, rfl⟩
 simp only [hRF] at HRF H0 hkd
 rw [hRF]
 have HKD := Qh hkd
 have HB0 := Qh hb0
 have HLO := Qh hW.lo; have HOWN := Qh (own_base hW.own)
 clear hwf h hRF hkd hg hkk hb0 hr hk
 obtain ⟨m1, m2⟩ := hkm
 have hgp : w.heap.size ≠ p ∧ v.ownBlock ≠ some w.heap.size := ⟨by have := hW.lt; omega, fun e => by have := (hW.own.lt _ e).2; omega⟩
 have HGP := Qh hgp
 have HW := Qh hW
 clear hgp hW
 go_enter Try.func28, Try.ntmps28
 go_upto_region 1 with fail
 change Code.wp _ _ _ _ (w.alloc (.cells RF.toArray 39))
 have hb := (Below.refl w.heap.size w).alloc (Nat.le_refl _) (.cells RF.toArray 39)
 have HB1 := Qh hb
 have HF := Qh (heap_alloc_new w (.cells RF.toArray 39))
 replace HW := Qh (HW.out.to hb)
 replace HB0 := Qh (bl_next HB0.out HB0.out.size hb)
 clear hb
 generalize w.alloc (.cells RF.toArray 39) = w1 at HB1 HF HW HB0 ⊢
 obtain ⟨gf, hg⟩ : ∃ g, w.heap.size = g := ⟨_, rfl⟩
 rw [hg] at HF HGP ⊢
 clear hg
 have HU := Qh (WrU.start HW.out)
 have HFC := HF
 go_wp2_with (first | (refine wpList_load_mid rfl 39 _ rfl gf 0 rfl RF _ (rngL HFC.out) Try.underlying39 rfl (by rw [HRF.out]; rfl) ?_) | fail)
 refine Calls.mono (HKD.out w1) ?_
 rintro e9 w2 ⟨rfl, hb⟩
 replace HU := Qh (HU.out.to hb)
 replace HFC := Qh (bl_row hb (lt_of_block HFC.out) HFC.out)
 clear hb HKD
 have hcl := HU.out.var kk ⟨by omega, by omega⟩ (by omega)
 have HCL := Qh hcl
 clear hcl
 go_wp2_with fail
 refine Calls.mono HCL.out ?_
 rintro e9 w3 ⟨⟨_, rfl⟩, hu⟩
 replace HU := Qh hu
 clear hu HCL HFC
 have HFC := Qh (HU.out.row HF.out HGP.out.1 HGP.out.2)
 have c0 := cell_row HFC.out 0 _ H0.out
 go_wp2_with fail
 (try simp only [Exit.inBlock, Exit.then])
 refine bodyPost_end (results_none rfl _ _ _) rfl ?_
 exact ⟨rfl, by have h9 := WrU.from HB1.out HU.out; simpa only [List.append_assoc, List.append_nil] using h9⟩
theorem put4_2 (W0 w : World) (p : Nat) (v : Value) (bs : List Int) (f : Fr) (dv rv : Value) (h : FrAt W0 f dv rv) (hb0 : Below W0.heap.size W0 w) (hk : f.kind = 2) (hr : rightB f = true) (hg : RgOk f) (hW : Wr w W0.heap.size p v bs) (hl : bs.length ≤ 10000) :
  Calls Try.prog 28 #[.pointer (some ⟨p, 0, none⟩), .agg (f.cells dv rv).toArray] w fun e w' => e = .returned (.tuple #[]) ∧ WrU w W0.heap.size p v w' (bs ++ oneFM f) := by
 have hwf := h.wf
 have hkm := kindM_in hr
 have hone : bs ++ oneFM f = bs ++ putM (kindM f) ++ varsM (ackV f.rg f.de) := by unfold oneFM bodyM; simp [hk, varsM]
 rw [hone]
 clear hone
 have HRF : Hid ((f.cells dv rv).length = 19) := Qh (Fr.len hwf)
 have H0 : Hid ((f.cells dv rv)[0]? = some (.int .i64 2)) := Qh (by rw [← hk]; rfl)
 have hkd := fun u => kind4_any u f dv rv hwf hr
 obtain ⟨kk, hkk⟩ : ∃ kk, kindM f = kk := ⟨_, rfl⟩
 rw [hkk] at hkm ⊢
 simp only [hkk] at hkd
 have hpa := fun u v2 bs2 hb2 hw2 hl2 => putack_any W0 u p v2 bs2 f dv rv h hb2 hk hr hg hw2 hl2
 obtain ⟨av, hav⟩ : ∃ y, varsM (ackV f.rg f.de) = y := ⟨_, rfl⟩
 rw [hav] at hpa ⊢
 clear hav
 obtain ⟨RF, hRF⟩ : ∃ R, (f.cells dv rv) = R := ⟨_, rfl⟩
 simp only [hRF] at HRF H0 hkd hpa
 rw [hRF]
 have HKD := Qh hkd; have HPA := Qh hpa
 have HB0 := Qh hb0
 have HLO := Qh hW.lo; have HOWN := Qh (own_base hW.own)
 clear hwf h hRF hkd hg hkk hb0 hpa hr hk
 obtain ⟨m1, m2⟩ := hkm
 have hgp : w.heap.size ≠ p ∧ v.ownBlock ≠ some w.heap.size := ⟨by have := hW.lt; omega, fun e => by have := (hW.own.lt _ e).2; omega⟩
 have HGP := Qh hgp
 have HW := Qh hW
 clear hgp hW
 go_enter Try.func28, Try.ntmps28
 go_upto_region 1 with fail
 change Code.wp _ _ _ _ (w.alloc (.cells RF.toArray 39))
 have hb := (Below.refl w.heap.size w).alloc (Nat.le_refl _) (.cells RF.toArray 39)
 have HB1 := Qh hb
 have HF := Qh (heap_alloc_new w (.cells RF.toArray 39))
 replace HW := Qh (HW.out.to hb)
 replace HB0 := Qh (bl_next HB0.out HB0.out.size hb)
 clear hb
 generalize w.alloc (.cells RF.toArray 39) = w1 at HB1 HF HW HB0 ⊢
 obtain ⟨gf, hg⟩ : ∃ g, w.heap.size = g := ⟨_, rfl⟩
 rw [hg] at HF HGP ⊢
 clear hg
 have HU := Qh (WrU.start HW.out)
 have HFC := HF
 go_wp2_with (first | (refine wpList_load_mid rfl 39 _ rfl gf 0 rfl RF _ (rngL HFC.out) Try.underlying39 rfl (by rw [HRF.out]; rfl) ?_) | fail)
 refine Calls.mono (HKD.out w1) ?_
 rintro e9 w2 ⟨rfl, hb⟩
 replace HU := Qh (HU.out.to hb)
 replace HFC := Qh (bl_row hb (lt_of_block HFC.out) HFC.out)
 clear hb HKD
 have hcl := HU.out.var kk ⟨by omega, by omega⟩ (by omega)
 have HCL := Qh hcl
 clear hcl
 go_wp2_with fail
 refine Calls.mono HCL.out ?_
 rintro e9 w3 ⟨⟨_, rfl⟩, hu⟩
 replace HU := Qh hu
 clear hu HCL HFC
 have HFC := Qh (HU.out.row HF.out HGP.out.1 HGP.out.2)
 have c0 := cell_row HFC.out 0 _ H0.out
 obtain ⟨v9, k1, k2, k3⟩ := HU.out
 have hcl := HPA.out w3 v9 (bs ++ putM kk) (HU.out.low HB0.out HLO.out HOWN.out) k1 (by rw [List.length_append]; have := putM_le kk; omega)
 have HK2 := Qh k2; have HK3 := Qh k3; have HCL := Qh hcl
 clear hcl k1 k2 k3
 go_wp2_with (first | (refine wpList_load_mid rfl 39 _ rfl gf 0 rfl RF _ (rngL HFC.out) Try.underlying39 rfl (by rw [HRF.out]; rfl) ?_) | fail)
 refine Calls.mono HCL.out ?_
 rintro e9 w4 ⟨rfl, hu⟩
 replace HU := Qh (WrU.next HK2.out HK3.out hu)
 clear hu HCL HK2 HK3 c0 HFC
 have HFC := Qh (HU.out.row HF.out HGP.out.1 HGP.out.2)
 go_wp2_with fail
 (try simp only [Exit.inBlock, Exit.then])
 refine bodyPost_end (results_none rfl _ _ _) rfl ?_
 exact ⟨rfl, by have h9 := WrU.from HB1.out HU.out; simpa only [List.append_assoc, List.append_nil] using h9⟩
theorem put4_4 (W0 w : World) (p : Nat) (v : Value) (bs : List Int) (f : Fr) (dv rv : Value) (h : FrAt W0 f dv rv) (hb0 : Below W0.heap.size W0 w) (hk : f.kind = 4) (hr : rightB f = true) (hg : RgOk f) (hW : Wr w W0.heap.size p v bs) (hl : bs.length ≤ 10000) :
  Calls Try.prog 28 #[.pointer (some ⟨p, 0, none⟩), .agg (f.cells dv rv).toArray] w fun e w' => e = .returned (.tuple #[]) ∧ WrU w W0.heap.size p v w' (bs ++ oneFM f) := by
 have hwf := h.wf
 have hkm := kindM_in hr
 have hone : bs ++ oneFM f = bs ++ putM (kindM f) ++ varsM [f.st, f.co, f.fi] := by unfold oneFM bodyM; simp [hk, varsM]
 rw [hone]
 clear hone
 have HRF : Hid ((f.cells dv rv).length = 19) := Qh (Fr.len hwf)
 have H0 : Hid ((f.cells dv rv)[0]? = some (.int .i64 4)) := Qh (by rw [← hk]; rfl)
 have hkd := fun u => kind4_any u f dv rv hwf hr
 obtain ⟨kk, hkk⟩ : ∃ kk, kindM f = kk := ⟨_, rfl⟩
 rw [hkk] at hkm ⊢
 simp only [hkk] at hkd
 have H_st : Hid ((f.cells dv rv)[1]? = some (.int .u64 f.st)) := Qh rfl
 have u_st := hwf.st
 simp only [U64] at u_st
 have H_co : Hid ((f.cells dv rv)[6]? = some (.int .u64 f.co)) := Qh rfl
 have u_co := hwf.co
 simp only [U64] at u_co
 have H_fi : Hid ((f.cells dv rv)[7]? = some (.int .u64 f.fi)) := Qh rfl
 have u_fi := hwf.fi
 simp only [U64] at u_fi
 obtain ⟨RF, hRF⟩ : ∃ R, (f.cells dv rv) = R := ⟨_, rfl⟩
 simp only [hRF] at HRF H0 hkd H_st H_co H_fi
 rw [hRF]
 obtain ⟨st, h_st⟩ : ∃ y, f.st = y := ⟨_, rfl⟩
 rw [h_st] at H_st u_st
 try rw [h_st]
 obtain ⟨u1_st, u2_st⟩ := u_st
 clear h_st
 obtain ⟨co, h_co⟩ : ∃ y, f.co = y := ⟨_, rfl⟩
 rw [h_co] at H_co u_co
 try rw [h_co]
 obtain ⟨u1_co, u2_co⟩ := u_co
 clear h_co
 obtain ⟨fi, h_fi⟩ : ∃ y, f.fi = y := ⟨_, rfl⟩
 rw [h_fi] at H_fi u_fi
 try rw [h_fi]
 obtain ⟨u1_fi, u2_fi⟩ := u_fi
 clear h_fi
 have HKD := Qh hkd
 have HB0 := Qh hb0
 have HLO := Qh hW.lo; have HOWN := Qh (own_base hW.own)
 clear hwf h hRF hkd hg hkk hb0 hr hk
 obtain ⟨m1, m2⟩ := hkm
 have hgp : w.heap.size ≠ p ∧ v.ownBlock ≠ some w.heap.size := ⟨by have := hW.lt; omega, fun e => by have := (hW.own.lt _ e).2; omega⟩
 have HGP := Qh hgp
 have HW := Qh hW
 clear hgp hW
 go_enter Try.func28, Try.ntmps28
 go_upto_region 1 with fail
 change Code.wp _ _ _ _ (w.alloc (.cells RF.toArray 39))
 have hb := (Below.refl w.heap.size w).alloc (Nat.le_refl _) (.cells RF.toArray 39)
 have HB1 := Qh hb
 have HF := Qh (heap_alloc_new w (.cells RF.toArray 39))
 replace HW := Qh (HW.out.to hb)
 replace HB0 := Qh (bl_next HB0.out HB0.out.size hb)
 clear hb
 generalize w.alloc (.cells RF.toArray 39) = w1 at HB1 HF HW HB0 ⊢
 obtain ⟨gf, hg⟩ : ∃ g, w.heap.size = g := ⟨_, rfl⟩
 rw [hg] at HF HGP ⊢
 clear hg
 have HU := Qh (WrU.start HW.out)
 have HFC := HF
 go_wp2_with (first | (refine wpList_load_mid rfl 39 _ rfl gf 0 rfl RF _ (rngL HFC.out) Try.underlying39 rfl (by rw [HRF.out]; rfl) ?_) | fail)
 refine Calls.mono (HKD.out w1) ?_
 rintro e9 w2 ⟨rfl, hb⟩
 replace HU := Qh (HU.out.to hb)
 replace HFC := Qh (bl_row hb (lt_of_block HFC.out) HFC.out)
 clear hb HKD
 have hcl := HU.out.var kk ⟨by omega, by omega⟩ (by omega)
 have HCL := Qh hcl
 clear hcl
 go_wp2_with fail
 refine Calls.mono HCL.out ?_
 rintro e9 w3 ⟨⟨_, rfl⟩, hu⟩
 replace HU := Qh hu
 clear hu HCL HFC
 have HFC := Qh (HU.out.row HF.out HGP.out.1 HGP.out.2)
 have c0 := cell_row HFC.out 0 _ H0.out
 have c_st := cell_row HFC.out 1 _ H_st.out
 have c_co := cell_row HFC.out 6 _ H_co.out
 have c_fi := cell_row HFC.out 7 _ H_fi.out
 have hcl := HU.out.vars [st, co, fi] 3 rfl (fun x hx => by simp only [List.mem_cons, List.not_mem_nil, or_false] at hx; rcases hx with rfl | rfl | rfl <;> exact wf_u64r (by omega) (by omega)) (by simp only [List.length_append, List.length_cons, List.length_nil]; have := putM_le kk; omega) (by omega)
 have HCL := Qh hcl
 clear hcl
 go_wp2_with fail
 refine Calls.mono HCL.out ?_
 rintro e9 w4 ⟨rfl, hu⟩
 replace HU := Qh hu
 clear hu HCL HFC c0 c_st c_co c_fi
 have HFC := Qh (HU.out.row HF.out HGP.out.1 HGP.out.2)
 have c0 := cell_row HFC.out 0 _ H0.out
 have c_st := cell_row HFC.out 1 _ H_st.out
 have c_co := cell_row HFC.out 6 _ H_co.out
 have c_fi := cell_row HFC.out 7 _ H_fi.out
 go_wp2_with fail
 (try simp only [Exit.inBlock, Exit.then])
 refine bodyPost_end (results_none rfl _ _ _) rfl ?_
 exact ⟨rfl, by have h9 := WrU.from HB1.out HU.out; simpa only [List.append_assoc, List.append_nil] using h9⟩
theorem put4_5 (W0 w : World) (p : Nat) (v : Value) (bs : List Int) (f : Fr) (dv rv : Value) (h : FrAt W0 f dv rv) (hb0 : Below W0.heap.size W0 w) (hk : f.kind = 5) (hr : rightB f = true) (hg : RgOk f) (hW : Wr w W0.heap.size p v bs) (hl : bs.length ≤ 10000) :
  Calls Try.prog 28 #[.pointer (some ⟨p, 0, none⟩), .agg (f.cells dv rv).toArray] w fun e w' => e = .returned (.tuple #[]) ∧ WrU w W0.heap.size p v w' (bs ++ oneFM f) := by
 have hwf := h.wf
 have hkm := kindM_in hr
 have hone : bs ++ oneFM f = bs ++ putM (kindM f) ++ varsM [f.st, f.co] := by unfold oneFM bodyM; simp [hk, varsM]
 rw [hone]
 clear hone
 have HRF : Hid ((f.cells dv rv).length = 19) := Qh (Fr.len hwf)
 have H0 : Hid ((f.cells dv rv)[0]? = some (.int .i64 5)) := Qh (by rw [← hk]; rfl)
 have hkd := fun u => kind4_any u f dv rv hwf hr
 obtain ⟨kk, hkk⟩ : ∃ kk, kindM f = kk := ⟨_, rfl⟩
 rw [hkk] at hkm ⊢
 simp only [hkk] at hkd
 have H_st : Hid ((f.cells dv rv)[1]? = some (.int .u64 f.st)) := Qh rfl
 have u_st := hwf.st
 simp only [U64] at u_st
 have H_co : Hid ((f.cells dv rv)[6]? = some (.int .u64 f.co)) := Qh rfl
 have u_co := hwf.co
 simp only [U64] at u_co
 obtain ⟨RF, hRF⟩ : ∃ R, (f.cells dv rv) = R := ⟨_, rfl⟩
 simp only [hRF] at HRF H0 hkd H_st H_co
 rw [hRF]
 obtain ⟨st, h_st⟩ : ∃ y, f.st = y := ⟨_, rfl⟩
 rw [h_st] at H_st u_st
 try rw [h_st]
 obtain ⟨u1_st, u2_st⟩ := u_st
 clear h_st
 obtain ⟨co, h_co⟩ : ∃ y, f.co = y := ⟨_, rfl⟩
 rw [h_co] at H_co u_co
 try rw [h_co]
 obtain ⟨u1_co, u2_co⟩ := u_co
 clear h_co
 have HKD := Qh hkd
 have HB0 := Qh hb0
 have HLO := Qh hW.lo; have HOWN := Qh (own_base hW.own)
 clear hwf h hRF hkd hg hkk hb0 hr hk
 obtain ⟨m1, m2⟩ := hkm
 have hgp : w.heap.size ≠ p ∧ v.ownBlock ≠ some w.heap.size := ⟨by have := hW.lt; omega, fun e => by have := (hW.own.lt _ e).2; omega⟩
 have HGP := Qh hgp
 have HW := Qh hW
 clear hgp hW
 go_enter Try.func28, Try.ntmps28
 go_upto_region 1 with fail
 change Code.wp _ _ _ _ (w.alloc (.cells RF.toArray 39))
 have hb := (Below.refl w.heap.size w).alloc (Nat.le_refl _) (.cells RF.toArray 39)
 have HB1 := Qh hb
 have HF := Qh (heap_alloc_new w (.cells RF.toArray 39))
 replace HW := Qh (HW.out.to hb)
 replace HB0 := Qh (bl_next HB0.out HB0.out.size hb)
 clear hb
 generalize w.alloc (.cells RF.toArray 39) = w1 at HB1 HF HW HB0 ⊢
 obtain ⟨gf, hg⟩ : ∃ g, w.heap.size = g := ⟨_, rfl⟩
 rw [hg] at HF HGP ⊢
 clear hg
 have HU := Qh (WrU.start HW.out)
 have HFC := HF
 go_wp2_with (first | (refine wpList_load_mid rfl 39 _ rfl gf 0 rfl RF _ (rngL HFC.out) Try.underlying39 rfl (by rw [HRF.out]; rfl) ?_) | fail)
 refine Calls.mono (HKD.out w1) ?_
 rintro e9 w2 ⟨rfl, hb⟩
 replace HU := Qh (HU.out.to hb)
 replace HFC := Qh (bl_row hb (lt_of_block HFC.out) HFC.out)
 clear hb HKD
 have hcl := HU.out.var kk ⟨by omega, by omega⟩ (by omega)
 have HCL := Qh hcl
 clear hcl
 go_wp2_with fail
 refine Calls.mono HCL.out ?_
 rintro e9 w3 ⟨⟨_, rfl⟩, hu⟩
 replace HU := Qh hu
 clear hu HCL HFC
 have HFC := Qh (HU.out.row HF.out HGP.out.1 HGP.out.2)
 have c0 := cell_row HFC.out 0 _ H0.out
 have c_st := cell_row HFC.out 1 _ H_st.out
 have c_co := cell_row HFC.out 6 _ H_co.out
 have hcl := HU.out.vars [st, co] 2 rfl (fun x hx => by simp only [List.mem_cons, List.not_mem_nil, or_false] at hx; rcases hx with rfl | rfl <;> exact wf_u64r (by omega) (by omega)) (by simp only [List.length_append, List.length_cons, List.length_nil]; have := putM_le kk; omega) (by omega)
 have HCL := Qh hcl
 clear hcl
 go_wp2_with fail
 refine Calls.mono HCL.out ?_
 rintro e9 w4 ⟨rfl, hu⟩
 replace HU := Qh hu
 clear hu HCL HFC c0 c_st c_co
 have HFC := Qh (HU.out.row HF.out HGP.out.1 HGP.out.2)
 have c0 := cell_row HFC.out 0 _ H0.out
 have c_st := cell_row HFC.out 1 _ H_st.out
 have c_co := cell_row HFC.out 6 _ H_co.out
 go_wp2_with fail
 (try simp only [Exit.inBlock, Exit.then])
 refine bodyPost_end (results_none rfl _ _ _) rfl ?_
 exact ⟨rfl, by have h9 := WrU.from HB1.out HU.out; simpa only [List.append_assoc, List.append_nil] using h9⟩
theorem put4_6 (W0 w : World) (p : Nat) (v : Value) (bs : List Int) (f : Fr) (dv rv : Value) (h : FrAt W0 f dv rv) (hb0 : Below W0.heap.size W0 w) (hk : f.kind = 6) (hr : rightB f = true) (hg : RgOk f) (hW : Wr w W0.heap.size p v bs) (hl : bs.length ≤ 10000) :
  Calls Try.prog 28 #[.pointer (some ⟨p, 0, none⟩), .agg (f.cells dv rv).toArray] w fun e w' => e = .returned (.tuple #[]) ∧ WrU w W0.heap.size p v w' (bs ++ oneFM f) := by
 have hwf := h.wf
 have hkm := kindM_in hr
 obtain ⟨da, dn, dc, rfl, hd1, hd2, hd⟩ := h.d
 have hdn : f.data.length = dn := hd.1
 have hdl : dn ≤ 512 := by rw [← hdn]; exact right_data hr (by omega)
 have HD := Qh hd
 have hone : bs ++ oneFM f = bs ++ putM (kindM f) ++ varsM [f.of_] ++ textB f.data := by unfold oneFM bodyM; simp [hk, varsM]
 rw [hone]
 clear hone
 have HRF : Hid ((f.cells (.slice da dn dc) rv).length = 19) := Qh (Fr.len hwf)
 have H0 : Hid ((f.cells (.slice da dn dc) rv)[0]? = some (.int .i64 6)) := Qh (by rw [← hk]; rfl)
 have hkd := fun u => kind4_any u f (.slice da dn dc) rv hwf hr
 obtain ⟨kk, hkk⟩ : ∃ kk, kindM f = kk := ⟨_, rfl⟩
 rw [hkk] at hkm ⊢
 simp only [hkk] at hkd
 have H_of_ : Hid ((f.cells (.slice da dn dc) rv)[2]? = some (.int .u64 f.of_)) := Qh rfl
 have u_of_ := hwf.of_
 simp only [U64] at u_of_
 have H_d : Hid ((f.cells (.slice da dn dc) rv)[3]? = some (.slice da dn dc)) := Qh rfl
 obtain ⟨data, hdata⟩ : ∃ y, f.data = y := ⟨_, rfl⟩
 rw [hdata] at HD hdn ⊢
 clear hdata hd
 obtain ⟨RF, hRF⟩ : ∃ R, (f.cells (.slice da dn dc) rv) = R := ⟨_, rfl⟩
 simp only [hRF] at HRF H0 hkd H_of_ H_d
 rw [hRF]
 obtain ⟨of_, h_of_⟩ : ∃ y, f.of_ = y := ⟨_, rfl⟩
 rw [h_of_] at H_of_ u_of_
 try rw [h_of_]
 obtain ⟨u1_of_, u2_of_⟩ := u_of_
 clear h_of_
 have HKD := Qh hkd
 have HB0 := Qh hb0
 have HLO := Qh hW.lo; have HOWN := Qh (own_base hW.own)
 clear hwf h hRF hkd hg hkk hb0 hr hk
 obtain ⟨m1, m2⟩ := hkm
 have hgp : w.heap.size ≠ p ∧ v.ownBlock ≠ some w.heap.size := ⟨by have := hW.lt; omega, fun e => by have := (hW.own.lt _ e).2; omega⟩
 have HGP := Qh hgp
 have HW := Qh hW
 clear hgp hW
 go_enter Try.func28, Try.ntmps28
 go_upto_region 1 with fail
 change Code.wp _ _ _ _ (w.alloc (.cells RF.toArray 39))
 have hb := (Below.refl w.heap.size w).alloc (Nat.le_refl _) (.cells RF.toArray 39)
 have HB1 := Qh hb
 have HF := Qh (heap_alloc_new w (.cells RF.toArray 39))
 replace HW := Qh (HW.out.to hb)
 replace HB0 := Qh (bl_next HB0.out HB0.out.size hb)
 clear hb
 generalize w.alloc (.cells RF.toArray 39) = w1 at HB1 HF HW HB0 ⊢
 obtain ⟨gf, hg⟩ : ∃ g, w.heap.size = g := ⟨_, rfl⟩
 rw [hg] at HF HGP ⊢
 clear hg
 have HU := Qh (WrU.start HW.out)
 have HFC := HF
 go_wp2_with (first | (refine wpList_load_mid rfl 39 _ rfl gf 0 rfl RF _ (rngL HFC.out) Try.underlying39 rfl (by rw [HRF.out]; rfl) ?_) | fail)
 refine Calls.mono (HKD.out w1) ?_
 rintro e9 w2 ⟨rfl, hb⟩
 replace HU := Qh (HU.out.to hb)
 replace HFC := Qh (bl_row hb (lt_of_block HFC.out) HFC.out)
 clear hb HKD
 have hcl := HU.out.var kk ⟨by omega, by omega⟩ (by omega)
 have HCL := Qh hcl
 clear hcl
 go_wp2_with fail
 refine Calls.mono HCL.out ?_
 rintro e9 w3 ⟨⟨_, rfl⟩, hu⟩
 replace HU := Qh hu
 clear hu HCL HFC
 have HFC := Qh (HU.out.row HF.out HGP.out.1 HGP.out.2)
 have c0 := cell_row HFC.out 0 _ H0.out
 have c_of_ := cell_row HFC.out 2 _ H_of_.out
 have c_d := cell_row HFC.out 3 _ H_d.out
 have hcl := HU.out.vars [of_] 1 rfl (fun x hx => by simp only [List.mem_cons, List.not_mem_nil, or_false] at hx; subst hx; exact wf_u64r (by omega) (by omega)) (by simp only [List.length_append, List.length_cons, List.length_nil]; have := putM_le kk; omega) (by omega)
 have HCL := Qh hcl
 clear hcl
 go_wp2_with fail
 refine Calls.mono HCL.out ?_
 rintro e9 w4 ⟨rfl, hu⟩
 replace HU := Qh hu
 clear hu HCL HFC c0 c_of_ c_d
 have HFC := Qh (HU.out.row HF.out HGP.out.1 HGP.out.2)
 have c0 := cell_row HFC.out 0 _ H0.out
 have c_of_ := cell_row HFC.out 2 _ H_of_.out
 have c_d := cell_row HFC.out 3 _ H_d.out
 have hcl := HU.out.text HB0.out HLO.out HOWN.out da dn dc data HD.out (by simp only [List.length_append, List.length_cons, List.length_nil]; have := putM_le kk; have := varsM_le [of_]; simp only [List.length_cons, List.length_nil] at this; omega) (by omega)
 have HCL := Qh hcl
 clear hcl
 go_wp2_with fail
 refine Calls.mono HCL.out ?_
 rintro e9 w5 ⟨rfl, hu⟩
 replace HU := Qh hu
 clear hu HCL HFC c0 c_of_ c_d
 have HFC := Qh (HU.out.row HF.out HGP.out.1 HGP.out.2)
 have c0 := cell_row HFC.out 0 _ H0.out
 have c_of_ := cell_row HFC.out 2 _ H_of_.out
 have c_d := cell_row HFC.out 3 _ H_d.out
 go_wp2_with fail
 (try simp only [Exit.inBlock, Exit.then])
 refine bodyPost_end (results_none rfl _ _ _) rfl ?_
 exact ⟨rfl, by have h9 := WrU.from HB1.out HU.out; simpa only [List.append_assoc, List.append_nil] using h9⟩
theorem put4_8z (W0 w : World) (p : Nat) (v : Value) (bs : List Int) (f : Fr) (dv rv : Value) (h : FrAt W0 f dv rv) (hb0 : Below W0.heap.size W0 w) (hk : f.kind = 8) (ho : f.of_ = 0) (hr : rightB f = true) (hg : RgOk f) (hW : Wr w W0.heap.size p v bs) (hl : bs.length ≤ 10000) :
  Calls Try.prog 28 #[.pointer (some ⟨p, 0, none⟩), .agg (f.cells dv rv).toArray] w fun e w' => e = .returned (.tuple #[]) ∧ WrU w W0.heap.size p v w' (bs ++ oneFM f) := by
 have hwf := h.wf
 have hkm := kindM_in hr
 obtain ⟨da, dn, dc, rfl, hd1, hd2, hd⟩ := h.d
 have hdn : f.data.length = dn := hd.1
 have hdl : dn ≤ 512 := by rw [← hdn]; exact right_data hr (by omega)
 have HD := Qh hd
 have hone : bs ++ oneFM f = bs ++ putM (kindM f) ++ varsM [f.st] ++ textB f.data := by unfold oneFM bodyM; simp [hk, varsM, ho]
 rw [hone]
 clear hone
 have HRF : Hid ((f.cells (.slice da dn dc) rv).length = 19) := Qh (Fr.len hwf)
 have H0 : Hid ((f.cells (.slice da dn dc) rv)[0]? = some (.int .i64 8)) := Qh (by rw [← hk]; rfl)
 have hkd := fun u => kind4_any u f (.slice da dn dc) rv hwf hr
 obtain ⟨kk, hkk⟩ : ∃ kk, kindM f = kk := ⟨_, rfl⟩
 rw [hkk] at hkm ⊢
 simp only [hkk] at hkd
 have H_st : Hid ((f.cells (.slice da dn dc) rv)[1]? = some (.int .u64 f.st)) := Qh rfl
 have u_st := hwf.st
 simp only [U64] at u_st
 have H_of_ : Hid ((f.cells (.slice da dn dc) rv)[2]? = some (.int .u64 f.of_)) := Qh rfl
 have u_of_ := hwf.of_
 simp only [U64] at u_of_
 have H_d : Hid ((f.cells (.slice da dn dc) rv)[3]? = some (.slice da dn dc)) := Qh rfl
 obtain ⟨data, hdata⟩ : ∃ y, f.data = y := ⟨_, rfl⟩
 rw [hdata] at HD hdn ⊢
 clear hdata hd
 obtain ⟨RF, hRF⟩ : ∃ R, (f.cells (.slice da dn dc) rv) = R := ⟨_, rfl⟩
 simp only [hRF] at HRF H0 hkd H_st H_of_ H_d
 rw [hRF]
 obtain ⟨st, h_st⟩ : ∃ y, f.st = y := ⟨_, rfl⟩
 rw [h_st] at H_st u_st
 try rw [h_st]
 obtain ⟨u1_st, u2_st⟩ := u_st
 clear h_st
 obtain ⟨of_, h_of_⟩ : ∃ y, f.of_ = y := ⟨_, rfl⟩
 rw [h_of_] at H_of_ u_of_ ho
 try rw [h_of_]
 obtain ⟨u1_of_, u2_of_⟩ := u_of_
 clear h_of_
 have HKD := Qh hkd
 have HB0 := Qh hb0
 have HLO := Qh hW.lo; have HOWN := Qh (own_base hW.own)
 clear hwf h hRF hkd hg hkk hb0 hr hk
 obtain ⟨m1, m2⟩ := hkm
 subst ho
 have hgp : w.heap.size ≠ p ∧ v.ownBlock ≠ some w.heap.size := ⟨by have := hW.lt; omega, fun e => by have := (hW.own.lt _ e).2; omega⟩
 have HGP := Qh hgp
 have HW := Qh hW
 clear hgp hW
 go_enter Try.func28, Try.ntmps28
 go_upto_region 1 with fail
 change Code.wp _ _ _ _ (w.alloc (.cells RF.toArray 39))
 have hb := (Below.refl w.heap.size w).alloc (Nat.le_refl _) (.cells RF.toArray 39)
 have HB1 := Qh hb
 have HF := Qh (heap_alloc_new w (.cells RF.toArray 39))
 replace HW := Qh (HW.out.to hb)
 replace HB0 := Qh (bl_next HB0.out HB0.out.size hb)
 clear hb
 generalize w.alloc (.cells RF.toArray 39) = w1 at HB1 HF HW HB0 ⊢
 obtain ⟨gf, hg⟩ : ∃ g, w.heap.size = g := ⟨_, rfl⟩
 rw [hg] at HF HGP ⊢
 clear hg
 have HU := Qh (WrU.start HW.out)
 have HFC := HF
 go_wp2_with (first | (refine wpList_load_mid rfl 39 _ rfl gf 0 rfl RF _ (rngL HFC.out) Try.underlying39 rfl (by rw [HRF.out]; rfl) ?_) | fail)
 refine Calls.mono (HKD.out w1) ?_
 rintro e9 w2 ⟨rfl, hb⟩
 replace HU := Qh (HU.out.to hb)
 replace HFC := Qh (bl_row hb (lt_of_block HFC.out) HFC.out)
 clear hb HKD
 have hcl := HU.out.var kk ⟨by omega, by omega⟩ (by omega)
 have HCL := Qh hcl
 clear hcl
 go_wp2_with fail
 refine Calls.mono HCL.out ?_
 rintro e9 w3 ⟨⟨_, rfl⟩, hu⟩
 replace HU := Qh hu
 clear hu HCL HFC
 have HFC := Qh (HU.out.row HF.out HGP.out.1 HGP.out.2)
 have c0 := cell_row HFC.out 0 _ H0.out
 have c_st := cell_row HFC.out 1 _ H_st.out
 have c_of_ := cell_row HFC.out 2 _ H_of_.out
 have c_d := cell_row HFC.out 3 _ H_d.out
 have hcl := HU.out.vars [st] 1 rfl (fun x hx => by simp only [List.mem_cons, List.not_mem_nil, or_false] at hx; subst hx; exact wf_u64r (by omega) (by omega)) (by simp only [List.length_append, List.length_cons, List.length_nil]; have := putM_le kk; omega) (by omega)
 have HCL := Qh hcl
 clear hcl
 go_wp2_with fail
 refine Calls.mono HCL.out ?_
 rintro e9 w4 ⟨rfl, hu⟩
 replace HU := Qh hu
 clear hu HCL HFC c0 c_st c_of_ c_d
 have HFC := Qh (HU.out.row HF.out HGP.out.1 HGP.out.2)
 have c0 := cell_row HFC.out 0 _ H0.out
 have c_st := cell_row HFC.out 1 _ H_st.out
 have c_of_ := cell_row HFC.out 2 _ H_of_.out
 have c_d := cell_row HFC.out 3 _ H_d.out
 have hcl := HU.out.text HB0.out HLO.out HOWN.out da dn dc data HD.out (by simp only [List.length_append, List.length_cons, List.length_nil]; have := putM_le kk; have := varsM_le [st]; simp only [List.length_cons, List.length_nil] at this; omega) (by omega)
 have HCL := Qh hcl
 clear hcl
 go_wp2_with fail
 refine Calls.mono HCL.out ?_
 rintro e9 w5 ⟨rfl, hu⟩
 replace HU := Qh hu
 clear hu HCL HFC c0 c_st c_of_ c_d
 have HFC := Qh (HU.out.row HF.out HGP.out.1 HGP.out.2)
 have c0 := cell_row HFC.out 0 _ H0.out
 have c_st := cell_row HFC.out 1 _ H_st.out
 have c_of_ := cell_row HFC.out 2 _ H_of_.out
 have c_d := cell_row HFC.out 3 _ H_d.out
 go_wp2_with fail
 (try simp only [Exit.inBlock, Exit.then])
 refine bodyPost_end (results_none rfl _ _ _) rfl ?_
 exact ⟨rfl, by have h9 := WrU.from HB1.out HU.out; simpa only [List.append_assoc, List.append_nil] using h9⟩
theorem put4_8p (W0 w : World) (p : Nat) (v : Value) (bs : List Int) (f : Fr) (dv rv : Value) (h : FrAt W0 f dv rv) (hb0 : Below W0.heap.size W0 w) (hk : f.kind = 8) (ho : 0 < f.of_) (hr : rightB f = true) (hg : RgOk f) (hW : Wr w W0.heap.size p v bs) (hl : bs.length ≤ 10000) :
  Calls Try.prog 28 #[.pointer (some ⟨p, 0, none⟩), .agg (f.cells dv rv).toArray] w fun e w' => e = .returned (.tuple #[]) ∧ WrU w W0.heap.size p v w' (bs ++ oneFM f) := by
 have hwf := h.wf
 have hkm := kindM_in hr
 obtain ⟨da, dn, dc, rfl, hd1, hd2, hd⟩ := h.d
 have hdn : f.data.length = dn := hd.1
 have hdl : dn ≤ 512 := by rw [← hdn]; exact right_data hr (by omega)
 have HD := Qh hd
 have hone : bs ++ oneFM f = bs ++ putM (kindM f) ++ varsM [f.st] ++ varsM [f.of_] ++ textB f.data := by unfold oneFM bodyM; simp [hk, varsM, ho]
 rw [hone]
 clear hone
 have HRF : Hid ((f.cells (.slice da dn dc) rv).length = 19) := Qh (Fr.len hwf)
 have H0 : Hid ((f.cells (.slice da dn dc) rv)[0]? = some (.int .i64 8)) := Qh (by rw [← hk]; rfl)
 have hkd := fun u => kind4_any u f (.slice da dn dc) rv hwf hr
 obtain ⟨kk, hkk⟩ : ∃ kk, kindM f = kk := ⟨_, rfl⟩
 rw [hkk] at hkm ⊢
 simp only [hkk] at hkd
 have H_st : Hid ((f.cells (.slice da dn dc) rv)[1]? = some (.int .u64 f.st)) := Qh rfl
 have u_st := hwf.st
 simp only [U64] at u_st
 have H_of_ : Hid ((f.cells (.slice da dn dc) rv)[2]? = some (.int .u64 f.of_)) := Qh rfl
 have u_of_ := hwf.of_
 simp only [U64] at u_of_
 have H_d : Hid ((f.cells (.slice da dn dc) rv)[3]? = some (.slice da dn dc)) := Qh rfl
 obtain ⟨data, hdata⟩ : ∃ y, f.data = y := ⟨_, rfl⟩
 rw [hdata] at HD hdn ⊢
 clear hdata hd
 obtain ⟨RF, hRF⟩ : ∃ R, (f.cells (.slice da dn dc) rv) = R := ⟨_, rfl⟩
 simp only [hRF] at HRF H0 hkd H_st H_of_ H_d
 rw [hRF]
 obtain ⟨st, h_st⟩ : ∃ y, f.st = y := ⟨_, rfl⟩
 rw [h_st] at H_st u_st
 try rw [h_st]
 obtain ⟨u1_st, u2_st⟩ := u_st
 clear h_st
 obtain ⟨of_, h_of_⟩ : ∃ y, f.of_ = y := ⟨_, rfl⟩
 rw [h_of_] at H_of_ u_of_ ho
 try rw [h_of_]
 obtain ⟨u1_of_, u2_of_⟩ := u_of_
 clear h_of_
 have HKD := Qh hkd
 have HB0 := Qh hb0
 have HLO := Qh hW.lo; have HOWN := Qh (own_base hW.own)
 clear hwf h hRF hkd hg hkk hb0 hr hk
 obtain ⟨m1, m2⟩ := hkm
 have hgp : w.heap.size ≠ p ∧ v.ownBlock ≠ some w.heap.size := ⟨by have := hW.lt; omega, fun e => by have := (hW.own.lt _ e).2; omega⟩
 have HGP := Qh hgp
 have HW := Qh hW
 clear hgp hW
 go_enter Try.func28, Try.ntmps28
 go_upto_region 1 with fail
 change Code.wp _ _ _ _ (w.alloc (.cells RF.toArray 39))
 have hb := (Below.refl w.heap.size w).alloc (Nat.le_refl _) (.cells RF.toArray 39)
 have HB1 := Qh hb
 have HF := Qh (heap_alloc_new w (.cells RF.toArray 39))
 replace HW := Qh (HW.out.to hb)
 replace HB0 := Qh (bl_next HB0.out HB0.out.size hb)
 clear hb
 generalize w.alloc (.cells RF.toArray 39) = w1 at HB1 HF HW HB0 ⊢
 obtain ⟨gf, hg⟩ : ∃ g, w.heap.size = g := ⟨_, rfl⟩
 rw [hg] at HF HGP ⊢
 clear hg
 have HU := Qh (WrU.start HW.out)
 have HFC := HF
 go_wp2_with (first | (refine wpList_load_mid rfl 39 _ rfl gf 0 rfl RF _ (rngL HFC.out) Try.underlying39 rfl (by rw [HRF.out]; rfl) ?_) | fail)
 refine Calls.mono (HKD.out w1) ?_
 rintro e9 w2 ⟨rfl, hb⟩
 replace HU := Qh (HU.out.to hb)
 replace HFC := Qh (bl_row hb (lt_of_block HFC.out) HFC.out)
 clear hb HKD
 have hcl := HU.out.var kk ⟨by omega, by omega⟩ (by omega)
 have HCL := Qh hcl
 clear hcl
 go_wp2_with fail
 refine Calls.mono HCL.out ?_
 rintro e9 w3 ⟨⟨_, rfl⟩, hu⟩
 replace HU := Qh hu
 clear hu HCL HFC
 have HFC := Qh (HU.out.row HF.out HGP.out.1 HGP.out.2)
 have c0 := cell_row HFC.out 0 _ H0.out
 have c_st := cell_row HFC.out 1 _ H_st.out
 have c_of_ := cell_row HFC.out 2 _ H_of_.out
 have c_d := cell_row HFC.out 3 _ H_d.out
 have hcl := HU.out.vars [st] 1 rfl (fun x hx => by simp only [List.mem_cons, List.not_mem_nil, or_false] at hx; subst hx; exact wf_u64r (by omega) (by omega)) (by simp only [List.length_append, List.length_cons, List.length_nil]; have := putM_le kk; omega) (by omega)
 have HCL := Qh hcl
 clear hcl
 go_wp2_with fail
 refine Calls.mono HCL.out ?_
 rintro e9 w4 ⟨rfl, hu⟩
 replace HU := Qh hu
 clear hu HCL HFC c0 c_st c_of_ c_d
 have HFC := Qh (HU.out.row HF.out HGP.out.1 HGP.out.2)
 have c0 := cell_row HFC.out 0 _ H0.out
 have c_st := cell_row HFC.out 1 _ H_st.out
 have c_of_ := cell_row HFC.out 2 _ H_of_.out
 have c_d := cell_row HFC.out 3 _ H_d.out
 have hcl := HU.out.vars [of_] 1 rfl (fun x hx => by simp only [List.mem_cons, List.not_mem_nil, or_false] at hx; subst hx; exact wf_u64r (by omega) (by omega)) (by simp only [List.length_append, List.length_cons, List.length_nil]; have := putM_le kk; have := varsM_le [st]; simp only [List.length_cons, List.length_nil] at this; omega) (by omega)
 have HCL := Qh hcl
 clear hcl
 go_wp2_with fail
 refine Calls.mono HCL.out ?_
 rintro e9 w5 ⟨rfl, hu⟩
 replace HU := Qh hu
 clear hu HCL HFC c0 c_st c_of_ c_d
 have HFC := Qh (HU.out.row HF.out HGP.out.1 HGP.out.2)
 have c0 := cell_row HFC.out 0 _ H0.out
 have c_st := cell_row HFC.out 1 _ H_st.out
 have c_of_ := cell_row HFC.out 2 _ H_of_.out
 have c_d := cell_row HFC.out 3 _ H_d.out
 have hcl := HU.out.text HB0.out HLO.out HOWN.out da dn dc data HD.out (by simp only [List.length_append, List.length_cons, List.length_nil]; have := putM_le kk; have := varsM_le [st]; simp only [List.length_cons, List.length_nil] at this; have := varsM_le [of_]; simp only [List.length_cons, List.length_nil] at this; omega) (by omega)
 have HCL := Qh hcl
 clear hcl
 go_wp2_with fail
 refine Calls.mono HCL.out ?_
 rintro e9 w6 ⟨rfl, hu⟩
 replace HU := Qh hu
 clear hu HCL HFC c0 c_st c_of_ c_d
 have HFC := Qh (HU.out.row HF.out HGP.out.1 HGP.out.2)
 have c0 := cell_row HFC.out 0 _ H0.out
 have c_st := cell_row HFC.out 1 _ H_st.out
 have c_of_ := cell_row HFC.out 2 _ H_of_.out
 have c_d := cell_row HFC.out 3 _ H_d.out
 go_wp2_with fail
 (try simp only [Exit.inBlock, Exit.then])
 refine bodyPost_end (results_none rfl _ _ _) rfl ?_
 exact ⟨rfl, by have h9 := WrU.from HB1.out HU.out; simpa only [List.append_assoc, List.append_nil] using h9⟩
theorem put4_16 (W0 w : World) (p : Nat) (v : Value) (bs : List Int) (f : Fr) (dv rv : Value) (h : FrAt W0 f dv rv) (hb0 : Below W0.heap.size W0 w) (hk : f.kind = 16) (hr : rightB f = true) (hg : RgOk f) (hW : Wr w W0.heap.size p v bs) (hl : bs.length ≤ 10000) :
  Calls Try.prog 28 #[.pointer (some ⟨p, 0, none⟩), .agg (f.cells dv rv).toArray] w fun e w' => e = .returned (.tuple #[]) ∧ WrU w W0.heap.size p v w' (bs ++ oneFM f) := by
 have hwf := h.wf
 have hkm := kindM_in hr
 have hone : bs ++ oneFM f = bs ++ putM (kindM f) ++ varsM [f.li] := by unfold oneFM bodyM; simp [hk, varsM]
 rw [hone]
 clear hone
 have HRF : Hid ((f.cells dv rv).length = 19) := Qh (Fr.len hwf)
 have H0 : Hid ((f.cells dv rv)[0]? = some (.int .i64 16)) := Qh (by rw [← hk]; rfl)
 have hkd := fun u => kind4_any u f dv rv hwf hr
 obtain ⟨kk, hkk⟩ : ∃ kk, kindM f = kk := ⟨_, rfl⟩
 rw [hkk] at hkm ⊢
 simp only [hkk] at hkd
 have H_li : Hid ((f.cells dv rv)[5]? = some (.int .u64 f.li)) := Qh rfl
 have u_li := hwf.li
 simp only [U64] at u_li
 obtain ⟨RF, hRF⟩ : ∃ R, (f.cells dv rv) = R := ⟨_, rfl⟩
 simp only [hRF] at HRF H0 hkd H_li
 rw [hRF]
 obtain ⟨li, h_li⟩ : ∃ y, f.li = y := ⟨_, rfl⟩
 rw [h_li] at H_li u_li
 try rw [h_li]
 obtain ⟨u1_li, u2_li⟩ := u_li
 clear h_li
 have HKD := Qh hkd
 have HB0 := Qh hb0
 have HLO := Qh hW.lo; have HOWN := Qh (own_base hW.own)
 clear hwf h hRF hkd hg hkk hb0 hr hk
 obtain ⟨m1, m2⟩ := hkm
 have hgp : w.heap.size ≠ p ∧ v.ownBlock ≠ some w.heap.size := ⟨by have := hW.lt; omega, fun e => by have := (hW.own.lt _ e).2; omega⟩
 have HGP := Qh hgp
 have HW := Qh hW
 clear hgp hW
 go_enter Try.func28, Try.ntmps28
 go_upto_region 1 with fail
 change Code.wp _ _ _ _ (w.alloc (.cells RF.toArray 39))
 have hb := (Below.refl w.heap.size w).alloc (Nat.le_refl _) (.cells RF.toArray 39)
 have HB1 := Qh hb
 have HF := Qh (heap_alloc_new w (.cells RF.toArray 39))
 replace HW := Qh (HW.out.to hb)
 replace HB0 := Qh (bl_next HB0.out HB0.out.size hb)
 clear hb
 generalize w.alloc (.cells RF.toArray 39) = w1 at HB1 HF HW HB0 ⊢
 obtain ⟨gf, hg⟩ : ∃ g, w.heap.size = g := ⟨_, rfl⟩
 rw [hg] at HF HGP ⊢
 clear hg
 have HU := Qh (WrU.start HW.out)
 have HFC := HF
 go_wp2_with (first | (refine wpList_load_mid rfl 39 _ rfl gf 0 rfl RF _ (rngL HFC.out) Try.underlying39 rfl (by rw [HRF.out]; rfl) ?_) | fail)
 refine Calls.mono (HKD.out w1) ?_
 rintro e9 w2 ⟨rfl, hb⟩
 replace HU := Qh (HU.out.to hb)
 replace HFC := Qh (bl_row hb (lt_of_block HFC.out) HFC.out)
 clear hb HKD
 have hcl := HU.out.var kk ⟨by omega, by omega⟩ (by omega)
 have HCL := Qh hcl
 clear hcl
 go_wp2_with fail
 refine Calls.mono HCL.out ?_
 rintro e9 w3 ⟨⟨_, rfl⟩, hu⟩
 replace HU := Qh hu
 clear hu HCL HFC
 have HFC := Qh (HU.out.row HF.out HGP.out.1 HGP.out.2)
 have c0 := cell_row HFC.out 0 _ H0.out
 have c_li := cell_row HFC.out 5 _ H_li.out
 have hcl := HU.out.vars [li] 1 rfl (fun x hx => by simp only [List.mem_cons, List.not_mem_nil, or_false] at hx; subst hx; exact wf_u64r (by omega) (by omega)) (by simp only [List.length_append, List.length_cons, List.length_nil]; have := putM_le kk; omega) (by omega)
 have HCL := Qh hcl
 clear hcl
 go_wp2_with fail
 refine Calls.mono HCL.out ?_
 rintro e9 w4 ⟨rfl, hu⟩
 replace HU := Qh hu
 clear hu HCL HFC c0 c_li
 have HFC := Qh (HU.out.row HF.out HGP.out.1 HGP.out.2)
 have c0 := cell_row HFC.out 0 _ H0.out
 have c_li := cell_row HFC.out 5 _ H_li.out
 go_wp2_with fail
 (try simp only [Exit.inBlock, Exit.then])
 refine bodyPost_end (results_none rfl _ _ _) rfl ?_
 exact ⟨rfl, by have h9 := WrU.from HB1.out HU.out; simpa only [List.append_assoc, List.append_nil] using h9⟩
theorem put4_18 (W0 w : World) (p : Nat) (v : Value) (bs : List Int) (f : Fr) (dv rv : Value) (h : FrAt W0 f dv rv) (hb0 : Below W0.heap.size W0 w) (hk : f.kind = 18) (hr : rightB f = true) (hg : RgOk f) (hW : Wr w W0.heap.size p v bs) (hl : bs.length ≤ 10000) :
  Calls Try.prog 28 #[.pointer (some ⟨p, 0, none⟩), .agg (f.cells dv rv).toArray] w fun e w' => e = .returned (.tuple #[]) ∧ WrU w W0.heap.size p v w' (bs ++ oneFM f) := by
 have hwf := h.wf
 have hkm := kindM_in hr
 have hone : bs ++ oneFM f = bs ++ putM (kindM f) ++ varsM [f.li] := by unfold oneFM bodyM; simp [hk, varsM]
 rw [hone]
 clear hone
 have HRF : Hid ((f.cells dv rv).length = 19) := Qh (Fr.len hwf)
 have H0 : Hid ((f.cells dv rv)[0]? = some (.int .i64 18)) := Qh (by rw [← hk]; rfl)
 have hkd := fun u => kind4_any u f dv rv hwf hr
 obtain ⟨kk, hkk⟩ : ∃ kk, kindM f = kk := ⟨_, rfl⟩
 rw [hkk] at hkm ⊢
 simp only [hkk] at hkd
 have H_li : Hid ((f.cells dv rv)[5]? = some (.int .u64 f.li)) := Qh rfl
 have u_li := hwf.li
 simp only [U64] at u_li
 obtain ⟨RF, hRF⟩ : ∃ R, (f.cells dv rv) = R := ⟨_, rfl⟩
 simp only [hRF] at HRF H0 hkd H_li
 rw [hRF]
 obtain ⟨li, h_li⟩ : ∃ y, f.li = y := ⟨_, rfl⟩
 rw [h_li] at H_li u_li
 try rw [h_li]
 obtain ⟨u1_li, u2_li⟩ := u_li
 clear h_li
 have HKD := Qh hkd
 have HB0 := Qh hb0
 have HLO := Qh hW.lo; have HOWN := Qh (own_base hW.own)
 clear hwf h hRF hkd hg hkk hb0 hr hk
 obtain ⟨m1, m2⟩ := hkm
 have hgp : w.heap.size ≠ p ∧ v.ownBlock ≠ some w.heap.size := ⟨by have := hW.lt; omega, fun e => by have := (hW.own.lt _ e).2; omega⟩
 have HGP := Qh hgp
 have HW := Qh hW
 clear hgp hW
 go_enter Try.func28, Try.ntmps28
 go_upto_region 1 with fail
 change Code.wp _ _ _ _ (w.alloc (.cells RF.toArray 39))
 have hb := (Below.refl w.heap.size w).alloc (Nat.le_refl _) (.cells RF.toArray 39)
 have HB1 := Qh hb
 have HF := Qh (heap_alloc_new w (.cells RF.toArray 39))
 replace HW := Qh (HW.out.to hb)
 replace HB0 := Qh (bl_next HB0.out HB0.out.size hb)
 clear hb
 generalize w.alloc (.cells RF.toArray 39) = w1 at HB1 HF HW HB0 ⊢
 obtain ⟨gf, hg⟩ : ∃ g, w.heap.size = g := ⟨_, rfl⟩
 rw [hg] at HF HGP ⊢
 clear hg
 have HU := Qh (WrU.start HW.out)
 have HFC := HF
 go_wp2_with (first | (refine wpList_load_mid rfl 39 _ rfl gf 0 rfl RF _ (rngL HFC.out) Try.underlying39 rfl (by rw [HRF.out]; rfl) ?_) | fail)
 refine Calls.mono (HKD.out w1) ?_
 rintro e9 w2 ⟨rfl, hb⟩
 replace HU := Qh (HU.out.to hb)
 replace HFC := Qh (bl_row hb (lt_of_block HFC.out) HFC.out)
 clear hb HKD
 have hcl := HU.out.var kk ⟨by omega, by omega⟩ (by omega)
 have HCL := Qh hcl
 clear hcl
 go_wp2_with fail
 refine Calls.mono HCL.out ?_
 rintro e9 w3 ⟨⟨_, rfl⟩, hu⟩
 replace HU := Qh hu
 clear hu HCL HFC
 have HFC := Qh (HU.out.row HF.out HGP.out.1 HGP.out.2)
 have c0 := cell_row HFC.out 0 _ H0.out
 have c_li := cell_row HFC.out 5 _ H_li.out
 have hcl := HU.out.vars [li] 1 rfl (fun x hx => by simp only [List.mem_cons, List.not_mem_nil, or_false] at hx; subst hx; exact wf_u64r (by omega) (by omega)) (by simp only [List.length_append, List.length_cons, List.length_nil]; have := putM_le kk; omega) (by omega)
 have HCL := Qh hcl
 clear hcl
 go_wp2_with fail
 refine Calls.mono HCL.out ?_
 rintro e9 w4 ⟨rfl, hu⟩
 replace HU := Qh hu
 clear hu HCL HFC c0 c_li
 have HFC := Qh (HU.out.row HF.out HGP.out.1 HGP.out.2)
 have c0 := cell_row HFC.out 0 _ H0.out
 have c_li := cell_row HFC.out 5 _ H_li.out
 go_wp2_with fail
 (try simp only [Exit.inBlock, Exit.then])
 refine bodyPost_end (results_none rfl _ _ _) rfl ?_
 exact ⟨rfl, by have h9 := WrU.from HB1.out HU.out; simpa only [List.append_assoc, List.append_nil] using h9⟩
theorem put4_20 (W0 w : World) (p : Nat) (v : Value) (bs : List Int) (f : Fr) (dv rv : Value) (h : FrAt W0 f dv rv) (hb0 : Below W0.heap.size W0 w) (hk : f.kind = 20) (hr : rightB f = true) (hg : RgOk f) (hW : Wr w W0.heap.size p v bs) (hl : bs.length ≤ 10000) :
  Calls Try.prog 28 #[.pointer (some ⟨p, 0, none⟩), .agg (f.cells dv rv).toArray] w fun e w' => e = .returned (.tuple #[]) ∧ WrU w W0.heap.size p v w' (bs ++ oneFM f) := by
 have hwf := h.wf
 have hkm := kindM_in hr
 have hone : bs ++ oneFM f = bs ++ putM (kindM f) ++ varsM [f.li] := by unfold oneFM bodyM; simp [hk, varsM]
 rw [hone]
 clear hone
 have HRF : Hid ((f.cells dv rv).length = 19) := Qh (Fr.len hwf)
 have H0 : Hid ((f.cells dv rv)[0]? = some (.int .i64 20)) := Qh (by rw [← hk]; rfl)
 have hkd := fun u => kind4_any u f dv rv hwf hr
 obtain ⟨kk, hkk⟩ : ∃ kk, kindM f = kk := ⟨_, rfl⟩
 rw [hkk] at hkm ⊢
 simp only [hkk] at hkd
 have H_li : Hid ((f.cells dv rv)[5]? = some (.int .u64 f.li)) := Qh rfl
 have u_li := hwf.li
 simp only [U64] at u_li
 obtain ⟨RF, hRF⟩ : ∃ R, (f.cells dv rv) = R := ⟨_, rfl⟩
 simp only [hRF] at HRF H0 hkd H_li
 rw [hRF]
 obtain ⟨li, h_li⟩ : ∃ y, f.li = y := ⟨_, rfl⟩
 rw [h_li] at H_li u_li
 try rw [h_li]
 obtain ⟨u1_li, u2_li⟩ := u_li
 clear h_li
 have HKD := Qh hkd
 have HB0 := Qh hb0
 have HLO := Qh hW.lo; have HOWN := Qh (own_base hW.own)
 clear hwf h hRF hkd hg hkk hb0 hr hk
 obtain ⟨m1, m2⟩ := hkm
 have hgp : w.heap.size ≠ p ∧ v.ownBlock ≠ some w.heap.size := ⟨by have := hW.lt; omega, fun e => by have := (hW.own.lt _ e).2; omega⟩
 have HGP := Qh hgp
 have HW := Qh hW
 clear hgp hW
 go_enter Try.func28, Try.ntmps28
 go_upto_region 1 with fail
 change Code.wp _ _ _ _ (w.alloc (.cells RF.toArray 39))
 have hb := (Below.refl w.heap.size w).alloc (Nat.le_refl _) (.cells RF.toArray 39)
 have HB1 := Qh hb
 have HF := Qh (heap_alloc_new w (.cells RF.toArray 39))
 replace HW := Qh (HW.out.to hb)
 replace HB0 := Qh (bl_next HB0.out HB0.out.size hb)
 clear hb
 generalize w.alloc (.cells RF.toArray 39) = w1 at HB1 HF HW HB0 ⊢
 obtain ⟨gf, hg⟩ : ∃ g, w.heap.size = g := ⟨_, rfl⟩
 rw [hg] at HF HGP ⊢
 clear hg
 have HU := Qh (WrU.start HW.out)
 have HFC := HF
 go_wp2_with (first | (refine wpList_load_mid rfl 39 _ rfl gf 0 rfl RF _ (rngL HFC.out) Try.underlying39 rfl (by rw [HRF.out]; rfl) ?_) | fail)
 refine Calls.mono (HKD.out w1) ?_
 rintro e9 w2 ⟨rfl, hb⟩
 replace HU := Qh (HU.out.to hb)
 replace HFC := Qh (bl_row hb (lt_of_block HFC.out) HFC.out)
 clear hb HKD
 have hcl := HU.out.var kk ⟨by omega, by omega⟩ (by omega)
 have HCL := Qh hcl
 clear hcl
 go_wp2_with fail
 refine Calls.mono HCL.out ?_
 rintro e9 w3 ⟨⟨_, rfl⟩, hu⟩
 replace HU := Qh hu
 clear hu HCL HFC
 have HFC := Qh (HU.out.row HF.out HGP.out.1 HGP.out.2)
 have c0 := cell_row HFC.out 0 _ H0.out
 have c_li := cell_row HFC.out 5 _ H_li.out
 have hcl := HU.out.vars [li] 1 rfl (fun x hx => by simp only [List.mem_cons, List.not_mem_nil, or_false] at hx; subst hx; exact wf_u64r (by omega) (by omega)) (by simp only [List.length_append, List.length_cons, List.length_nil]; have := putM_le kk; omega) (by omega)
 have HCL := Qh hcl
 clear hcl
 go_wp2_with fail
 refine Calls.mono HCL.out ?_
 rintro e9 w4 ⟨rfl, hu⟩
 replace HU := Qh hu
 clear hu HCL HFC c0 c_li
 have HFC := Qh (HU.out.row HF.out HGP.out.1 HGP.out.2)
 have c0 := cell_row HFC.out 0 _ H0.out
 have c_li := cell_row HFC.out 5 _ H_li.out
 go_wp2_with fail
 (try simp only [Exit.inBlock, Exit.then])
 refine bodyPost_end (results_none rfl _ _ _) rfl ?_
 exact ⟨rfl, by have h9 := WrU.from HB1.out HU.out; simpa only [List.append_assoc, List.append_nil] using h9⟩
theorem put4_17 (W0 w : World) (p : Nat) (v : Value) (bs : List Int) (f : Fr) (dv rv : Value) (h : FrAt W0 f dv rv) (hb0 : Below W0.heap.size W0 w) (hk : f.kind = 17) (hr : rightB f = true) (hg : RgOk f) (hW : Wr w W0.heap.size p v bs) (hl : bs.length ≤ 10000) :
  Calls Try.prog 28 #[.pointer (some ⟨p, 0, none⟩), .agg (f.cells dv rv).toArray] w fun e w' => e = .returned (.tuple #[]) ∧ WrU w W0.heap.size p v w' (bs ++ oneFM f) := by
 have hwf := h.wf
 have hkm := kindM_in hr
 have hone : bs ++ oneFM f = bs ++ putM (kindM f) ++ varsM [f.st, f.li] := by unfold oneFM bodyM; simp [hk, varsM]
 rw [hone]
 clear hone
 have HRF : Hid ((f.cells dv rv).length = 19) := Qh (Fr.len hwf)
 have H0 : Hid ((f.cells dv rv)[0]? = some (.int .i64 17)) := Qh (by rw [← hk]; rfl)
 have hkd := fun u => kind4_any u f dv rv hwf hr
 obtain ⟨kk, hkk⟩ : ∃ kk, kindM f = kk := ⟨_, rfl⟩
 rw [hkk] at hkm ⊢
 simp only [hkk] at hkd
 have H_st : Hid ((f.cells dv rv)[1]? = some (.int .u64 f.st)) := Qh rfl
 have u_st := hwf.st
 simp only [U64] at u_st
 have H_li : Hid ((f.cells dv rv)[5]? = some (.int .u64 f.li)) := Qh rfl
 have u_li := hwf.li
 simp only [U64] at u_li
 obtain ⟨RF, hRF⟩ : ∃ R, (f.cells dv rv) = R := ⟨_, rfl⟩
 simp only [hRF] at HRF H0 hkd H_st H_li
 rw [hRF]
 obtain ⟨st, h_st⟩ : ∃ y, f.st = y := ⟨_, rfl⟩
 rw [h_st] at H_st u_st
 try rw [h_st]
 obtain ⟨u1_st, u2_st⟩ := u_st
 clear h_st
 obtain ⟨li, h_li⟩ : ∃ y, f.li = y := ⟨_, rfl⟩
 rw [h_li] at H_li u_li
 try rw [h_li]
 obtain ⟨u1_li, u2_li⟩ := u_li
 clear h_li
 have HKD := Qh hkd
 have HB0 := Qh hb0
 have HLO := Qh hW.lo; have HOWN := Qh (own_base hW.own)
 clear hwf h hRF hkd hg hkk hb0 hr hk
 obtain ⟨m1, m2⟩ := hkm
 have hgp : w.heap.size ≠ p ∧ v.ownBlock ≠ some w.heap.size := ⟨by have := hW.lt; omega, fun e => by have := (hW.own.lt _ e).2; omega⟩
 have HGP := Qh hgp
 have HW := Qh hW
 clear hgp hW
 go_enter Try.func28, Try.ntmps28
 go_upto_region 1 with fail
 change Code.wp _ _ _ _ (w.alloc (.cells RF.toArray 39))
 have hb := (Below.refl w.heap.size w).alloc (Nat.le_refl _) (.cells RF.toArray 39)
 have HB1 := Qh hb
 have HF := Qh (heap_alloc_new w (.cells RF.toArray 39))
 replace HW := Qh (HW.out.to hb)
 replace HB0 := Qh (bl_next HB0.out HB0.out.size hb)
 clear hb
 generalize w.alloc (.cells RF.toArray 39) = w1 at HB1 HF HW HB0 ⊢
 obtain ⟨gf, hg⟩ : ∃ g, w.heap.size = g := ⟨_, rfl⟩
 rw [hg] at HF HGP ⊢
 clear hg
 have HU := Qh (WrU.start HW.out)
 have HFC := HF
 go_wp2_with (first | (refine wpList_load_mid rfl 39 _ rfl gf 0 rfl RF _ (rngL HFC.out) Try.underlying39 rfl (by rw [HRF.out]; rfl) ?_) | fail)
 refine Calls.mono (HKD.out w1) ?_
 rintro e9 w2 ⟨rfl, hb⟩
 replace HU := Qh (HU.out.to hb)
 replace HFC := Qh (bl_row hb (lt_of_block HFC.out) HFC.out)
 clear hb HKD
 have hcl := HU.out.var kk ⟨by omega, by omega⟩ (by omega)
 have HCL := Qh hcl
 clear hcl
 go_wp2_with fail
 refine Calls.mono HCL.out ?_
 rintro e9 w3 ⟨⟨_, rfl⟩, hu⟩
 replace HU := Qh hu
 clear hu HCL HFC
 have HFC := Qh (HU.out.row HF.out HGP.out.1 HGP.out.2)
 have c0 := cell_row HFC.out 0 _ H0.out
 have c_st := cell_row HFC.out 1 _ H_st.out
 have c_li := cell_row HFC.out 5 _ H_li.out
 have hcl := HU.out.vars [st, li] 2 rfl (fun x hx => by simp only [List.mem_cons, List.not_mem_nil, or_false] at hx; rcases hx with rfl | rfl <;> exact wf_u64r (by omega) (by omega)) (by simp only [List.length_append, List.length_cons, List.length_nil]; have := putM_le kk; omega) (by omega)
 have HCL := Qh hcl
 clear hcl
 go_wp2_with fail
 refine Calls.mono HCL.out ?_
 rintro e9 w4 ⟨rfl, hu⟩
 replace HU := Qh hu
 clear hu HCL HFC c0 c_st c_li
 have HFC := Qh (HU.out.row HF.out HGP.out.1 HGP.out.2)
 have c0 := cell_row HFC.out 0 _ H0.out
 have c_st := cell_row HFC.out 1 _ H_st.out
 have c_li := cell_row HFC.out 5 _ H_li.out
 go_wp2_with fail
 (try simp only [Exit.inBlock, Exit.then])
 refine bodyPost_end (results_none rfl _ _ _) rfl ?_
 exact ⟨rfl, by have h9 := WrU.from HB1.out HU.out; simpa only [List.append_assoc, List.append_nil] using h9⟩
theorem put4_24 (W0 w : World) (p : Nat) (v : Value) (bs : List Int) (f : Fr) (dv rv : Value) (h : FrAt W0 f dv rv) (hb0 : Below W0.heap.size W0 w) (hk : f.kind = 24) (hr : rightB f = true) (hg : RgOk f) (hW : Wr w W0.heap.size p v bs) (hl : bs.length ≤ 10000) :
  Calls Try.prog 28 #[.pointer (some ⟨p, 0, none⟩), .agg (f.cells dv rv).toArray] w fun e w' => e = .returned (.tuple #[]) ∧ WrU w W0.heap.size p v w' (bs ++ oneFM f) := by
 have hwf := h.wf
 have hkm := kindM_in hr
 have hone : bs ++ oneFM f = bs ++ putM (kindM f) ++ varsM [f.se, f.li] ++ [8] ++ f.cid := by unfold oneFM bodyM; simp [hk, varsM]
 rw [hone]
 clear hone
 have HRF : Hid ((f.cells dv rv).length = 19) := Qh (Fr.len hwf)
 have H0 : Hid ((f.cells dv rv)[0]? = some (.int .i64 24)) := Qh (by rw [← hk]; rfl)
 have hkd := fun u => kind4_any u f dv rv hwf hr
 obtain ⟨kk, hkk⟩ : ∃ kk, kindM f = kk := ⟨_, rfl⟩
 rw [hkk] at hkm ⊢
 simp only [hkk] at hkd
 have H_se : Hid ((f.cells dv rv)[8]? = some (.int .u64 f.se)) := Qh rfl
 have u_se := hwf.se
 simp only [U64] at u_se
 have H_li : Hid ((f.cells dv rv)[5]? = some (.int .u64 f.li)) := Qh rfl
 have u_li := hwf.li
 simp only [U64] at u_li
 have H_c : Hid ((f.cells dv rv).drop 11 = f.cid.map (Value.int .u8)) := Qh rfl
 have hcl := hwf.cidl; have hcw := hwf.cid
 obtain ⟨cid, hcid⟩ : ∃ y, f.cid = y := ⟨_, rfl⟩
 rw [hcid] at H_c hcl hcw ⊢
 have HCL8 := Qh hcl; have HCW := Qh hcw
 clear hcid hcl hcw
 obtain ⟨RF, hRF⟩ : ∃ R, (f.cells dv rv) = R := ⟨_, rfl⟩
 simp only [hRF] at HRF H0 hkd H_se H_li H_c
 rw [hRF]
 obtain ⟨se, h_se⟩ : ∃ y, f.se = y := ⟨_, rfl⟩
 rw [h_se] at H_se u_se
 try rw [h_se]
 obtain ⟨u1_se, u2_se⟩ := u_se
 clear h_se
 obtain ⟨li, h_li⟩ : ∃ y, f.li = y := ⟨_, rfl⟩
 rw [h_li] at H_li u_li
 try rw [h_li]
 obtain ⟨u1_li, u2_li⟩ := u_li
 clear h_li
 have HKD := Qh hkd
 have HB0 := Qh hb0
 have HLO := Qh hW.lo; have HOWN := Qh (own_base hW.own)
 clear hwf h hRF hkd hg hkk hb0 hr hk
 obtain ⟨m1, m2⟩ := hkm
 have hgp : w.heap.size ≠ p ∧ v.ownBlock ≠ some w.heap.size := ⟨by have := hW.lt; omega, fun e => by have := (hW.own.lt _ e).2; omega⟩
 have HGP := Qh hgp
 have HW := Qh hW
 clear hgp hW
 go_enter Try.func28, Try.ntmps28
 go_upto_region 1 with fail
 change Code.wp _ _ _ _ (w.alloc (.cells RF.toArray 39))
 have hb := (Below.refl w.heap.size w).alloc (Nat.le_refl _) (.cells RF.toArray 39)
 have HB1 := Qh hb
 have HF := Qh (heap_alloc_new w (.cells RF.toArray 39))
 replace HW := Qh (HW.out.to hb)
 replace HB0 := Qh (bl_next HB0.out HB0.out.size hb)
 clear hb
 generalize w.alloc (.cells RF.toArray 39) = w1 at HB1 HF HW HB0 ⊢
 obtain ⟨gf, hg⟩ : ∃ g, w.heap.size = g := ⟨_, rfl⟩
 rw [hg] at HF HGP ⊢
 clear hg
 have HU := Qh (WrU.start HW.out)
 have HFC := HF
 go_wp2_with (first | (refine wpList_load_mid rfl 39 _ rfl gf 0 rfl RF _ (rngL HFC.out) Try.underlying39 rfl (by rw [HRF.out]; rfl) ?_) | fail)
 refine Calls.mono (HKD.out w1) ?_
 rintro e9 w2 ⟨rfl, hb⟩
 replace HU := Qh (HU.out.to hb)
 replace HFC := Qh (bl_row hb (lt_of_block HFC.out) HFC.out)
 clear hb HKD
 have hcl := HU.out.var kk ⟨by omega, by omega⟩ (by omega)
 have HCL := Qh hcl
 clear hcl
 go_wp2_with fail
 refine Calls.mono HCL.out ?_
 rintro e9 w3 ⟨⟨_, rfl⟩, hu⟩
 replace HU := Qh hu
 clear hu HCL HFC
 have HFC := Qh (HU.out.row HF.out HGP.out.1 HGP.out.2)
 have c0 := cell_row HFC.out 0 _ H0.out
 have c_se := cell_row HFC.out 8 _ H_se.out
 have c_li := cell_row HFC.out 5 _ H_li.out
 have hcl := HU.out.vars [se, li] 2 rfl (fun x hx => by simp only [List.mem_cons, List.not_mem_nil, or_false] at hx; rcases hx with rfl | rfl <;> exact wf_u64r (by omega) (by omega)) (by simp only [List.length_append, List.length_cons, List.length_nil]; have := putM_le kk; omega) (by omega)
 have HCL := Qh hcl
 clear hcl
 go_wp2_with fail
 refine Calls.mono HCL.out ?_
 rintro e9 w4 ⟨rfl, hu⟩
 replace HU := Qh hu
 clear hu HCL HFC c0 c_se c_li
 have HFC := Qh (HU.out.row HF.out HGP.out.1 HGP.out.2)
 have c0 := cell_row HFC.out 0 _ H0.out
 have c_se := cell_row HFC.out 8 _ H_se.out
 have c_li := cell_row HFC.out 5 _ H_li.out
 have hcl := HU.out.byte 8 rfl (by simp only [List.length_append, List.length_cons, List.length_nil]; have := putM_le kk; have := varsM_le [se, li]; simp only [List.length_cons, List.length_nil] at this; omega)
 have HCL := Qh hcl
 clear hcl
 go_wp2_with fail
 refine Calls.mono HCL.out ?_
 rintro e9 w5 ⟨rfl, hu⟩
 replace HU := Qh hu
 clear hu HCL HFC c0 c_se c_li
 have HFC := Qh (HU.out.row HF.out HGP.out.1 HGP.out.2)
 have c0 := cell_row HFC.out 0 _ H0.out
 have c_se := cell_row HFC.out 8 _ H_se.out
 have c_li := cell_row HFC.out 5 _ H_li.out
 have hcl := HU.out.raw (some ⟨gf, 11, none⟩) 8 8 cid (ints_cid HFC.out H_c.out HCL8.out HCW.out) (by simp only [List.length_append, List.length_cons, List.length_nil]; have := putM_le kk; have := varsM_le [se, li]; simp only [List.length_cons, List.length_nil] at this; omega)
 have HCL := Qh hcl
 clear hcl
 go_wp2_with fail
 refine Calls.mono HCL.out ?_
 rintro e9 w6 ⟨rfl, hu⟩
 replace HU := Qh hu
 clear hu HCL HFC c0 c_se c_li
 have HFC := Qh (HU.out.row HF.out HGP.out.1 HGP.out.2)
 have c0 := cell_row HFC.out 0 _ H0.out
 have c_se := cell_row HFC.out 8 _ H_se.out
 have c_li := cell_row HFC.out 5 _ H_li.out
 go_wp2_with fail
 (try simp only [Exit.inBlock, Exit.then])
 refine bodyPost_end (results_none rfl _ _ _) rfl ?_
 exact ⟨rfl, by have h9 := WrU.from HB1.out HU.out; simpa only [List.append_assoc, List.append_nil] using h9⟩
theorem put4_25 (W0 w : World) (p : Nat) (v : Value) (bs : List Int) (f : Fr) (dv rv : Value) (h : FrAt W0 f dv rv) (hb0 : Below W0.heap.size W0 w) (hk : f.kind = 25) (hr : rightB f = true) (hg : RgOk f) (hW : Wr w W0.heap.size p v bs) (hl : bs.length ≤ 10000) :
  Calls Try.prog 28 #[.pointer (some ⟨p, 0, none⟩), .agg (f.cells dv rv).toArray] w fun e w' => e = .returned (.tuple #[]) ∧ WrU w W0.heap.size p v w' (bs ++ oneFM f) := by
 have hwf := h.wf
 have hkm := kindM_in hr
 have hone : bs ++ oneFM f = bs ++ putM (kindM f) ++ varsM [f.se] := by unfold oneFM bodyM; simp [hk, varsM]
 rw [hone]
 clear hone
 have HRF : Hid ((f.cells dv rv).length = 19) := Qh (Fr.len hwf)
 have H0 : Hid ((f.cells dv rv)[0]? = some (.int .i64 25)) := Qh (by rw [← hk]; rfl)
 have hkd := fun u => kind4_any u f dv rv hwf hr
 obtain ⟨kk, hkk⟩ : ∃ kk, kindM f = kk := ⟨_, rfl⟩
 rw [hkk] at hkm ⊢
 simp only [hkk] at hkd
 have H_se : Hid ((f.cells dv rv)[8]? = some (.int .u64 f.se)) := Qh rfl
 have u_se := hwf.se
 simp only [U64] at u_se
 obtain ⟨RF, hRF⟩ : ∃ R, (f.cells dv rv) = R := ⟨_, rfl⟩
 simp only [hRF] at HRF H0 hkd H_se
 rw [hRF]
 obtain ⟨se, h_se⟩ : ∃ y, f.se = y := ⟨_, rfl⟩
 rw [h_se] at H_se u_se
 try rw [h_se]
 obtain ⟨u1_se, u2_se⟩ := u_se
 clear h_se
 have HKD := Qh hkd
 have HB0 := Qh hb0
 have HLO := Qh hW.lo; have HOWN := Qh (own_base hW.own)
 clear hwf h hRF hkd hg hkk hb0 hr hk
 obtain ⟨m1, m2⟩ := hkm
 have hgp : w.heap.size ≠ p ∧ v.ownBlock ≠ some w.heap.size := ⟨by have := hW.lt; omega, fun e => by have := (hW.own.lt _ e).2; omega⟩
 have HGP := Qh hgp
 have HW := Qh hW
 clear hgp hW
 go_enter Try.func28, Try.ntmps28
 go_upto_region 1 with fail
 change Code.wp _ _ _ _ (w.alloc (.cells RF.toArray 39))
 have hb := (Below.refl w.heap.size w).alloc (Nat.le_refl _) (.cells RF.toArray 39)
 have HB1 := Qh hb
 have HF := Qh (heap_alloc_new w (.cells RF.toArray 39))
 replace HW := Qh (HW.out.to hb)
 replace HB0 := Qh (bl_next HB0.out HB0.out.size hb)
 clear hb
 generalize w.alloc (.cells RF.toArray 39) = w1 at HB1 HF HW HB0 ⊢
 obtain ⟨gf, hg⟩ : ∃ g, w.heap.size = g := ⟨_, rfl⟩
 rw [hg] at HF HGP ⊢
 clear hg
 have HU := Qh (WrU.start HW.out)
 have HFC := HF
 go_wp2_with (first | (refine wpList_load_mid rfl 39 _ rfl gf 0 rfl RF _ (rngL HFC.out) Try.underlying39 rfl (by rw [HRF.out]; rfl) ?_) | fail)
 refine Calls.mono (HKD.out w1) ?_
 rintro e9 w2 ⟨rfl, hb⟩
 replace HU := Qh (HU.out.to hb)
 replace HFC := Qh (bl_row hb (lt_of_block HFC.out) HFC.out)
 clear hb HKD
 have hcl := HU.out.var kk ⟨by omega, by omega⟩ (by omega)
 have HCL := Qh hcl
 clear hcl
 go_wp2_with fail
 refine Calls.mono HCL.out ?_
 rintro e9 w3 ⟨⟨_, rfl⟩, hu⟩
 replace HU := Qh hu
 clear hu HCL HFC
 have HFC := Qh (HU.out.row HF.out HGP.out.1 HGP.out.2)
 have c0 := cell_row HFC.out 0 _ H0.out
 have c_se := cell_row HFC.out 8 _ H_se.out
 have hcl := HU.out.vars [se] 1 rfl (fun x hx => by simp only [List.mem_cons, List.not_mem_nil, or_false] at hx; subst hx; exact wf_u64r (by omega) (by omega)) (by simp only [List.length_append, List.length_cons, List.length_nil]; have := putM_le kk; omega) (by omega)
 have HCL := Qh hcl
 clear hcl
 go_wp2_with fail
 refine Calls.mono HCL.out ?_
 rintro e9 w4 ⟨rfl, hu⟩
 replace HU := Qh hu
 clear hu HCL HFC c0 c_se
 have HFC := Qh (HU.out.row HF.out HGP.out.1 HGP.out.2)
 have c0 := cell_row HFC.out 0 _ H0.out
 have c_se := cell_row HFC.out 8 _ H_se.out
 go_wp2_with fail
 (try simp only [Exit.inBlock, Exit.then])
 refine bodyPost_end (results_none rfl _ _ _) rfl ?_
 exact ⟨rfl, by have h9 := WrU.from HB1.out HU.out; simpa only [List.append_assoc, List.append_nil] using h9⟩
theorem put4_26 (W0 w : World) (p : Nat) (v : Value) (bs : List Int) (f : Fr) (dv rv : Value) (h : FrAt W0 f dv rv) (hb0 : Below W0.heap.size W0 w) (hk : f.kind = 26) (hr : rightB f = true) (hg : RgOk f) (hW : Wr w W0.heap.size p v bs) (hl : bs.length ≤ 10000) :
  Calls Try.prog 28 #[.pointer (some ⟨p, 0, none⟩), .agg (f.cells dv rv).toArray] w fun e w' => e = .returned (.tuple #[]) ∧ WrU w W0.heap.size p v w' (bs ++ oneFM f) := by
 have hwf := h.wf
 have hkm := kindM_in hr
 have hone : bs ++ oneFM f = bs ++ putM (kindM f) ++ f.cid := by unfold oneFM bodyM; simp [hk, varsM]
 rw [hone]
 clear hone
 have HRF : Hid ((f.cells dv rv).length = 19) := Qh (Fr.len hwf)
 have H0 : Hid ((f.cells dv rv)[0]? = some (.int .i64 26)) := Qh (by rw [← hk]; rfl)
 have hkd := fun u => kind4_any u f dv rv hwf hr
 obtain ⟨kk, hkk⟩ : ∃ kk, kindM f = kk := ⟨_, rfl⟩
 rw [hkk] at hkm ⊢
 simp only [hkk] at hkd
 have H_c : Hid ((f.cells dv rv).drop 11 = f.cid.map (Value.int .u8)) := Qh rfl
 have hcl := hwf.cidl; have hcw := hwf.cid
 obtain ⟨cid, hcid⟩ : ∃ y, f.cid = y := ⟨_, rfl⟩
 rw [hcid] at H_c hcl hcw ⊢
 have HCL8 := Qh hcl; have HCW := Qh hcw
 clear hcid hcl hcw
 obtain ⟨RF, hRF⟩ : ∃ R, (f.cells dv rv) = R := ⟨_, rfl⟩
 simp only [hRF] at HRF H0 hkd H_c
 rw [hRF]
 have HKD := Qh hkd
 have HB0 := Qh hb0
 have HLO := Qh hW.lo; have HOWN := Qh (own_base hW.own)
 clear hwf h hRF hkd hg hkk hb0 hr hk
 obtain ⟨m1, m2⟩ := hkm
 have hgp : w.heap.size ≠ p ∧ v.ownBlock ≠ some w.heap.size := ⟨by have := hW.lt; omega, fun e => by have := (hW.own.lt _ e).2; omega⟩
 have HGP := Qh hgp
 have HW := Qh hW
 clear hgp hW
 go_enter Try.func28, Try.ntmps28
 go_upto_region 1 with fail
 change Code.wp _ _ _ _ (w.alloc (.cells RF.toArray 39))
 have hb := (Below.refl w.heap.size w).alloc (Nat.le_refl _) (.cells RF.toArray 39)
 have HB1 := Qh hb
 have HF := Qh (heap_alloc_new w (.cells RF.toArray 39))
 replace HW := Qh (HW.out.to hb)
 replace HB0 := Qh (bl_next HB0.out HB0.out.size hb)
 clear hb
 generalize w.alloc (.cells RF.toArray 39) = w1 at HB1 HF HW HB0 ⊢
 obtain ⟨gf, hg⟩ : ∃ g, w.heap.size = g := ⟨_, rfl⟩
 rw [hg] at HF HGP ⊢
 clear hg
 have HU := Qh (WrU.start HW.out)
 have HFC := HF
 go_wp2_with (first | (refine wpList_load_mid rfl 39 _ rfl gf 0 rfl RF _ (rngL HFC.out) Try.underlying39 rfl (by rw [HRF.out]; rfl) ?_) | fail)
 refine Calls.mono (HKD.out w1) ?_
 rintro e9 w2 ⟨rfl, hb⟩
 replace HU := Qh (HU.out.to hb)
 replace HFC := Qh (bl_row hb (lt_of_block HFC.out) HFC.out)
 clear hb HKD
 have hcl := HU.out.var kk ⟨by omega, by omega⟩ (by omega)
 have HCL := Qh hcl
 clear hcl
 go_wp2_with fail
 refine Calls.mono HCL.out ?_
 rintro e9 w3 ⟨⟨_, rfl⟩, hu⟩
 replace HU := Qh hu
 clear hu HCL HFC
 have HFC := Qh (HU.out.row HF.out HGP.out.1 HGP.out.2)
 have c0 := cell_row HFC.out 0 _ H0.out
 have hcl := HU.out.raw (some ⟨gf, 11, none⟩) 8 8 cid (ints_cid HFC.out H_c.out HCL8.out HCW.out) (by simp only [List.length_append, List.length_cons, List.length_nil]; have := putM_le kk; omega)
 have HCL := Qh hcl
 clear hcl
 go_wp2_with fail
 refine Calls.mono HCL.out ?_
 rintro e9 w4 ⟨rfl, hu⟩
 replace HU := Qh hu
 clear hu HCL HFC c0
 have HFC := Qh (HU.out.row HF.out HGP.out.1 HGP.out.2)
 have c0 := cell_row HFC.out 0 _ H0.out
 go_wp2_with fail
 (try simp only [Exit.inBlock, Exit.then])
 refine bodyPost_end (results_none rfl _ _ _) rfl ?_
 exact ⟨rfl, by have h9 := WrU.from HB1.out HU.out; simpa only [List.append_assoc, List.append_nil] using h9⟩
theorem put4_27 (W0 w : World) (p : Nat) (v : Value) (bs : List Int) (f : Fr) (dv rv : Value) (h : FrAt W0 f dv rv) (hb0 : Below W0.heap.size W0 w) (hk : f.kind = 27) (hr : rightB f = true) (hg : RgOk f) (hW : Wr w W0.heap.size p v bs) (hl : bs.length ≤ 10000) :
  Calls Try.prog 28 #[.pointer (some ⟨p, 0, none⟩), .agg (f.cells dv rv).toArray] w fun e w' => e = .returned (.tuple #[]) ∧ WrU w W0.heap.size p v w' (bs ++ oneFM f) := by
 have hwf := h.wf
 have hkm := kindM_in hr
 have hone : bs ++ oneFM f = bs ++ putM (kindM f) ++ f.cid := by unfold oneFM bodyM; simp [hk, varsM]
 rw [hone]
 clear hone
 have HRF : Hid ((f.cells dv rv).length = 19) := Qh (Fr.len hwf)
 have H0 : Hid ((f.cells dv rv)[0]? = some (.int .i64 27)) := Qh (by rw [← hk]; rfl)
 have hkd := fun u => kind4_any u f dv rv hwf hr
 obtain ⟨kk, hkk⟩ : ∃ kk, kindM f = kk := ⟨_, rfl⟩
 rw [hkk] at hkm ⊢
 simp only [hkk] at hkd
 have H_c : Hid ((f.cells dv rv).drop 11 = f.cid.map (Value.int .u8)) := Qh rfl
 have hcl := hwf.cidl; have hcw := hwf.cid
 obtain ⟨cid, hcid⟩ : ∃ y, f.cid = y := ⟨_, rfl⟩
 rw [hcid] at H_c hcl hcw ⊢
 have HCL8 := Qh hcl; have HCW := Qh hcw
 clear hcid hcl hcw
 obtain ⟨RF, hRF⟩ : ∃ R, (f.cells dv rv) = R := ⟨_, rfl⟩
 simp only [hRF] at HRF H0 hkd H_c
 rw [hRF]
 have HKD := Qh hkd
 have HB0 := Qh hb0
 have HLO := Qh hW.lo; have HOWN := Qh (own_base hW.own)
 clear hwf h hRF hkd hg hkk hb0 hr hk
 obtain ⟨m1, m2⟩ := hkm
 have hgp : w.heap.size ≠ p ∧ v.ownBlock ≠ some w.heap.size := ⟨by have := hW.lt; omega, fun e => by have := (hW.own.lt _ e).2; omega⟩
 have HGP := Qh hgp
 have HW := Qh hW
 clear hgp hW
 go_enter Try.func28, Try.ntmps28
 go_upto_region 1 with fail
 change Code.wp _ _ _ _ (w.alloc (.cells RF.toArray 39))
 have hb := (Below.refl w.heap.size w).alloc (Nat.le_refl _) (.cells RF.toArray 39)
 have HB1 := Qh hb
 have HF := Qh (heap_alloc_new w (.cells RF.toArray 39))
 replace HW := Qh (HW.out.to hb)
 replace HB0 := Qh (bl_next HB0.out HB0.out.size hb)
 clear hb
 generalize w.alloc (.cells RF.toArray 39) = w1 at HB1 HF HW HB0 ⊢
 obtain ⟨gf, hg⟩ : ∃ g, w.heap.size = g := ⟨_, rfl⟩
 rw [hg] at HF HGP ⊢
 clear hg
 have HU := Qh (WrU.start HW.out)
 have HFC := HF
 go_wp2_with (first | (refine wpList_load_mid rfl 39 _ rfl gf 0 rfl RF _ (rngL HFC.out) Try.underlying39 rfl (by rw [HRF.out]; rfl) ?_) | fail)
 refine Calls.mono (HKD.out w1) ?_
 rintro e9 w2 ⟨rfl, hb⟩
 replace HU := Qh (HU.out.to hb)
 replace HFC := Qh (bl_row hb (lt_of_block HFC.out) HFC.out)
 clear hb HKD
 have hcl := HU.out.var kk ⟨by omega, by omega⟩ (by omega)
 have HCL := Qh hcl
 clear hcl
 go_wp2_with fail
 refine Calls.mono HCL.out ?_
 rintro e9 w3 ⟨⟨_, rfl⟩, hu⟩
 replace HU := Qh hu
 clear hu HCL HFC
 have HFC := Qh (HU.out.row HF.out HGP.out.1 HGP.out.2)
 have c0 := cell_row HFC.out 0 _ H0.out
 have hcl := HU.out.raw (some ⟨gf, 11, none⟩) 8 8 cid (ints_cid HFC.out H_c.out HCL8.out HCW.out) (by simp only [List.length_append, List.length_cons, List.length_nil]; have := putM_le kk; omega)
 have HCL := Qh hcl
 clear hcl
 go_wp2_with fail
 refine Calls.mono HCL.out ?_
 rintro e9 w4 ⟨rfl, hu⟩
 replace HU := Qh hu
 clear hu HCL HFC c0
 have HFC := Qh (HU.out.row HF.out HGP.out.1 HGP.out.2)
 have c0 := cell_row HFC.out 0 _ H0.out
 go_wp2_with fail
 (try simp only [Exit.inBlock, Exit.then])
 refine bodyPost_end (results_none rfl _ _ _) rfl ?_
 exact ⟨rfl, by have h9 := WrU.from HB1.out HU.out; simpa only [List.append_assoc, List.append_nil] using h9⟩
theorem put4_28 (W0 w : World) (p : Nat) (v : Value) (bs : List Int) (f : Fr) (dv rv : Value) (h : FrAt W0 f dv rv) (hb0 : Below W0.heap.size W0 w) (hk : f.kind = 28) (hr : rightB f = true) (hg : RgOk f) (hW : Wr w W0.heap.size p v bs) (hl : bs.length ≤ 10000) :
  Calls Try.prog 28 #[.pointer (some ⟨p, 0, none⟩), .agg (f.cells dv rv).toArray] w fun e w' => e = .returned (.tuple #[]) ∧ WrU w W0.heap.size p v w' (bs ++ oneFM f) := by
 have hwf := h.wf
 have hkm := kindM_in hr
 obtain ⟨da, dn, dc, rfl, hd1, hd2, hd⟩ := h.d
 have hdn : f.data.length = dn := hd.1
 have hdl : dn ≤ 512 := by rw [← hdn]; exact right_data hr (by omega)
 have HD := Qh hd
 have hone : bs ++ oneFM f = bs ++ putM (kindM f) ++ varsM [f.co] ++ textB f.data := by unfold oneFM bodyM; simp [hk, varsM]
 rw [hone]
 clear hone
 have HRF : Hid ((f.cells (.slice da dn dc) rv).length = 19) := Qh (Fr.len hwf)
 have H0 : Hid ((f.cells (.slice da dn dc) rv)[0]? = some (.int .i64 28)) := Qh (by rw [← hk]; rfl)
 have hkd := fun u => kind4_any u f (.slice da dn dc) rv hwf hr
 obtain ⟨kk, hkk⟩ : ∃ kk, kindM f = kk := ⟨_, rfl⟩
 rw [hkk] at hkm ⊢
 simp only [hkk] at hkd
 have H_co : Hid ((f.cells (.slice da dn dc) rv)[6]? = some (.int .u64 f.co)) := Qh rfl
 have u_co := hwf.co
 simp only [U64] at u_co
 have H_d : Hid ((f.cells (.slice da dn dc) rv)[3]? = some (.slice da dn dc)) := Qh rfl
 obtain ⟨data, hdata⟩ : ∃ y, f.data = y := ⟨_, rfl⟩
 rw [hdata] at HD hdn ⊢
 clear hdata hd
 obtain ⟨RF, hRF⟩ : ∃ R, (f.cells (.slice da dn dc) rv) = R := ⟨_, rfl⟩
 simp only [hRF] at HRF H0 hkd H_co H_d
 rw [hRF]
 obtain ⟨co, h_co⟩ : ∃ y, f.co = y := ⟨_, rfl⟩
 rw [h_co] at H_co u_co
 try rw [h_co]
 obtain ⟨u1_co, u2_co⟩ := u_co
 clear h_co
 have HKD := Qh hkd
 have HB0 := Qh hb0
 have HLO := Qh hW.lo; have HOWN := Qh (own_base hW.own)
 clear hwf h hRF hkd hg hkk hb0 hr hk
 obtain ⟨m1, m2⟩ := hkm
 have hgp : w.heap.size ≠ p ∧ v.ownBlock ≠ some w.heap.size := ⟨by have := hW.lt; omega, fun e => by have := (hW.own.lt _ e).2; omega⟩
 have HGP := Qh hgp
 have HW := Qh hW
 clear hgp hW
 go_enter Try.func28, Try.ntmps28
 go_upto_region 1 with fail
 change Code.wp _ _ _ _ (w.alloc (.cells RF.toArray 39))
 have hb := (Below.refl w.heap.size w).alloc (Nat.le_refl _) (.cells RF.toArray 39)
 have HB1 := Qh hb
 have HF := Qh (heap_alloc_new w (.cells RF.toArray 39))
 replace HW := Qh (HW.out.to hb)
 replace HB0 := Qh (bl_next HB0.out HB0.out.size hb)
 clear hb
 generalize w.alloc (.cells RF.toArray 39) = w1 at HB1 HF HW HB0 ⊢
 obtain ⟨gf, hg⟩ : ∃ g, w.heap.size = g := ⟨_, rfl⟩
 rw [hg] at HF HGP ⊢
 clear hg
 have HU := Qh (WrU.start HW.out)
 have HFC := HF
 go_wp2_with (first | (refine wpList_load_mid rfl 39 _ rfl gf 0 rfl RF _ (rngL HFC.out) Try.underlying39 rfl (by rw [HRF.out]; rfl) ?_) | fail)
 refine Calls.mono (HKD.out w1) ?_
 rintro e9 w2 ⟨rfl, hb⟩
 replace HU := Qh (HU.out.to hb)
 replace HFC := Qh (bl_row hb (lt_of_block HFC.out) HFC.out)
 clear hb HKD
 have hcl := HU.out.var kk ⟨by omega, by omega⟩ (by omega)
 have HCL := Qh hcl
 clear hcl
 go_wp2_with fail
 refine Calls.mono HCL.out ?_
 rintro e9 w3 ⟨⟨_, rfl⟩, hu⟩
 replace HU := Qh hu
 clear hu HCL HFC
 have HFC := Qh (HU.out.row HF.out HGP.out.1 HGP.out.2)
 have c0 := cell_row HFC.out 0 _ H0.out
 have c_co := cell_row HFC.out 6 _ H_co.out
 have c_d := cell_row HFC.out 3 _ H_d.out
 have hcl := HU.out.vars [co] 1 rfl (fun x hx => by simp only [List.mem_cons, List.not_mem_nil, or_false] at hx; subst hx; exact wf_u64r (by omega) (by omega)) (by simp only [List.length_append, List.length_cons, List.length_nil]; have := putM_le kk; omega) (by omega)
 have HCL := Qh hcl
 clear hcl
 go_wp2_with fail
 refine Calls.mono HCL.out ?_
 rintro e9 w4 ⟨rfl, hu⟩
 replace HU := Qh hu
 clear hu HCL HFC c0 c_co c_d
 have HFC := Qh (HU.out.row HF.out HGP.out.1 HGP.out.2)
 have c0 := cell_row HFC.out 0 _ H0.out
 have c_co := cell_row HFC.out 6 _ H_co.out
 have c_d := cell_row HFC.out 3 _ H_d.out
 have hcl := HU.out.text HB0.out HLO.out HOWN.out da dn dc data HD.out (by simp only [List.length_append, List.length_cons, List.length_nil]; have := putM_le kk; have := varsM_le [co]; simp only [List.length_cons, List.length_nil] at this; omega) (by omega)
 have HCL := Qh hcl
 clear hcl
 go_wp2_with fail
 refine Calls.mono HCL.out ?_
 rintro e9 w5 ⟨rfl, hu⟩
 replace HU := Qh hu
 clear hu HCL HFC c0 c_co c_d
 have HFC := Qh (HU.out.row HF.out HGP.out.1 HGP.out.2)
 have c0 := cell_row HFC.out 0 _ H0.out
 have c_co := cell_row HFC.out 6 _ H_co.out
 have c_d := cell_row HFC.out 3 _ H_d.out
 go_wp2_with fail
 (try simp only [Exit.inBlock, Exit.then])
 refine bodyPost_end (results_none rfl _ _ _) rfl ?_
 exact ⟨rfl, by have h9 := WrU.from HB1.out HU.out; simpa only [List.append_assoc, List.append_nil] using h9⟩
theorem put4_any (W0 w : World) (p : Nat) (v : Value) (bs : List Int) (f : Fr) (dv rv : Value) (h : FrAt W0 f dv rv) (hb0 : Below W0.heap.size W0 w) (hr : rightB f = true) (hg : RgOk f) (hW : Wr w W0.heap.size p v bs) (hl : bs.length ≤ 10000) :
  Calls Try.prog 28 #[.pointer (some ⟨p, 0, none⟩), .agg (f.cells dv rv).toArray] w fun e w' => e = .returned (.tuple #[]) ∧ WrU w W0.heap.size p v w' (bs ++ oneFM f) := by
 rcases right_kind hr with hk | hk | hk | hk | hk | hk | hk | hk | hk | hk | hk | hk | hk | hk | hk | hk | hk
 ·
  exact put4_0 W0 w p v bs f dv rv h hb0 hk hr hg hW hl
 ·
  exact put4_1 W0 w p v bs f dv rv h hb0 hk hr hg hW hl
 ·
  exact put4_30 W0 w p v bs f dv rv h hb0 hk hr hg hW hl
 ·
  exact put4_26 W0 w p v bs f dv rv h hb0 hk hr hg hW hl
 ·
  exact put4_27 W0 w p v bs f dv rv h hb0 hk hr hg hW hl
 ·
  exact put4_2 W0 w p v bs f dv rv h hb0 hk hr hg hW hl
 ·
  exact put4_4 W0 w p v bs f dv rv h hb0 hk hr hg hW hl
 ·
  exact put4_5 W0 w p v bs f dv rv h hb0 hk hr hg hW hl
 ·
  exact put4_6 W0 w p v bs f dv rv h hb0 hk hr hg hW hl
 ·
  by_cases ho : f.of_ = 0
  ·
   exact put4_8z W0 w p v bs f dv rv h hb0 hk ho hr hg hW hl
  ·
   exact put4_8p W0 w p v bs f dv rv h hb0 hk (by have := h.wf.of_.1; omega) hr hg hW hl
 ·
  exact put4_16 W0 w p v bs f dv rv h hb0 hk hr hg hW hl
 ·
  exact put4_17 W0 w p v bs f dv rv h hb0 hk hr hg hW hl
 ·
  exact put4_18 W0 w p v bs f dv rv h hb0 hk hr hg hW hl
 ·
  exact put4_20 W0 w p v bs f dv rv h hb0 hk hr hg hW hl
 ·
  exact put4_24 W0 w p v bs f dv rv h hb0 hk hr hg hW hl
 ·
  exact put4_25 W0 w p v bs f dv rv h hb0 hk hr hg hW hl
 ·
  exact put4_28 W0 w p v bs f dv rv h hb0 hk hr hg hW hl
end Go.Proofs.Ytmbjepcbokbemaa
namespace Go.Proofs.Ytmbjepcbokbemaa
open Go.RowKit
theorem wp_append_bytes_at {o : Oper} {a : Act} {w : World} {K : Act → World → Prop} {Q : Exit → Act → World → Prop} (s x : Operand)
  (ho : o.op = .call { callee := .builtin .append, args := #[s, x], argTypes := #[25, 25] })
  (base n : Nat) (v : Value) (xs : List Int) (hs : a.eval s = v) (hown : w.ownsRow base 5 1 v n (xs.map (Value.int .u8))) (xa : Option Addr) (m c : Nat) (bs : List Int) (hx : a.eval x = .slice xa m c) (hI : IntsK .u8 w xa m bs)
  (hb : n + m ≤ 140737488355328) (hbase : base ≤ w.heap.size)
  (h : ∀ v' w', w'.ownsRow base 5 1 v' (n + m) ((xs ++ bs).map (Value.int .u8)) → w.grownBy w' v.ownBlock → (v'.ownBlock = v.ownBlock ∨ v'.ownBlock = some w.heap.size) → K (a.put o.dst v') w') : Oper.wp Try.prog o a w K Q := by
 obtain ⟨v', w', hr, h2, h3, h4⟩ := append_bytes_at w o.type base n v xs hown xa m c bs hI hb hbase
 unfold Oper.wp execOp
 simp only [ho, resolve, invoke, builtin, Sem.run_bind, Sem.run_pure, Result.andThen_ok, List.map_toArray, List.map_cons, List.map_nil, hs, hx, hr]
 exact h v' w' h2 h3 h4
end Go.Proofs.Ytmbjepcbokbemaa
namespace Go.Proofs.Ytmbjepcbokbemaa
open Go.RowKit
theorem or_u8 (x y : Int) (i : Nat) (hy : y % 2 ^ i = 0) (h0 : 0 ≤ x) (h1 : x < 2 ^ i) (h2 : 0 ≤ y) (h3 : x < 256) (h4 : y < 256) : bits .or .u8 x y = x + y := by
 rw [u8_or _ _ h0 h3 h2 h4, Nat.or_comm]
 have e : ((2 ^ i : Nat) : Int) = (2 : Int) ^ i := by simp
 rw [nat_join i y.toNat x.toNat (by
  have h6 : ((y.toNat : Int)) % ((2 ^ i : Nat) : Int) = 0 := by rw [Int.toNat_of_nonneg h2, e]; exact hy
  exact_mod_cast h6) (by
  have h7 : ((x.toNat : Int)) < ((2 ^ i : Nat) : Int) := by rw [Int.toNat_of_nonneg h0, e]; exact h1
  exact_mod_cast h7)]
 omega
theorem putM_at {n : Int} {s j : Nat} (es : sizeM n = s) (hs : s = 1 ∨ s = 2 ∨ s = 4 ∨ s = 8) (hj : 1 ≤ j) (h : j < s) : (putM n)[j]? = some (n / 2 ^ (8 * (s - 1 - j)) % 256) := by
 rcases hs with rfl | rfl | rfl | rfl
 ·
  omega
 ·
  obtain rfl : j = 1 := by omega
  simp [putM, es]
 ·
  have hc : j = 1 ∨ j = 2 ∨ j = 3 := by omega
  rcases hc with rfl | rfl | rfl <;> simp [putM, es]
 ·
  have hc : j = 1 ∨ j = 2 ∨ j = 3 ∨ j = 4 ∨ j = 5 ∨ j = 6 ∨ j = 7 := by omega
  rcases hc with rfl | rfl | rfl | rfl | rfl | rfl | rfl <;> simp [putM, es]
theorem take_snoc {α : Type} {l : List α} {j : Nat} {x : α} (h : l[j]? = some x) : l.take j ++ [x] = l.take (j + 1) := by
 rw [List.take_add_one, h]; rfl
theorem rput_any (w : World) (a : Option Addr) (len cap : Nat) (bs : List Int) (n : Int) (hn : 0 ≤ n ∧ n ≤ 4611686018427387903) (hlen : len + 8 ≤ 140737488355328) (hI : IntsK .u8 w a len bs) :
  Calls Try.prog 66 #[.slice a len cap, .int .u64 n] w fun e w' => ∃ v, e = .returned v ∧ Below w.heap.size w w' ∧
   w'.ownsRow w.heap.size 5 1 v (len + sizeM n) ((bs ++ putM n).map (Value.int .u8)) := by
 have HI := Qh hI; clear hI
 have hsz := sizeM_cases n
 obtain ⟨s, es⟩ : ∃ s, sizeM n = s := ⟨_, rfl⟩
 have hputl := putM_len n
 rw [es] at hputl hsz
 have ES := Qh es; clear es
 have hn1 := hn.1
 have hs : s = 1 ∨ s = 2 ∨ s = 4 ∨ s = 8 := by omega
 go_enter Try.func66, Try.ntmps66
 go_wp2_with fail
 refine Calls.mono (rsize_any _ n) ?_
 rintro e w' ⟨rfl, rfl⟩
 rw [ES.out]
 go_wp2_with (first | (at_builtin; refine wpList_append_bytes rfl _ _ rfl w'.heap.size 0 (.slice (some ⟨w'.heap.size, 0, none⟩) 0 0) [] rfl (World.ownsRow_made _ _ _ (Nat.le_refl _) (by unfold maxLen; omega) (by rfl)) _ _ _ _ rfl (HI.out.below ((Below.refl _ _).alloc (Nat.le_refl _) _)) (by omega) (by simp) ?_; intro v1 w1 hown1 hgrow1; have HO := Qh hown1; have HL := Qh (((Below.refl w'.heap.size w').alloc (Nat.le_refl _) _).grown hgrow1 (by simp) (by intro k hk; simp [Value.ownBlock] at hk; omega)); clear hown1 hgrow1) | fail)
 have HO0 : Hid (w1.ownsRow w'.heap.size 5 1 v1 (len + 0) ((bs ++ (putM n).take 0).map (Value.int .u8))) := Qh (by simpa using HO.out)
 have hl : bs.length = len := HI.out.1
 clear HO
 go_loopw [6, 7] (fun s6 s7 wr => ∃ (j : Nat), s7 = .int .i64 j ∧ j ≤ s ∧ Hid (Below w'.heap.size w' wr) ∧ Hid (wr.ownsRow w'.heap.size 5 1 s6 (len + j) ((bs ++ (putM n).take j).map (Value.int .u8)))) (fun _ s7 _ => s - (intOf s7).toNat)
 case atStart => exact ⟨0, rfl, by omega, HL, HO0⟩
 case round =>
  clear HO0 HL
  obtain ⟨j, rfl, hj, HL, HO⟩ := hrel
  have hm := HL.out.size
  by_cases hlt : j < s
  ·
   by_cases hj0 : j = 0
   ·
    subst hj0
    rcases hs with rfl | rfl | rfl | rfl
    ·
     have HX : Hid (bits .or .u8 (n) 0 = n) := Qh (by rw [or_u8 _ _ 6 (by decide) (by omega) (by rw [show (2 : Int) ^ 6 = 64 from by decide]; omega) (by omega) (by omega) (by omega)]; try omega)
     have HP : Hid ((putM n)[0]? = some (n)) := Qh (by simp [putM, ES.out])
     have HWF := Qh (putM_wf n hn.1 _ (List.mem_of_getElem? HP.out))
     go_upto_region 9 with fail
     rw [HX.out]
     have HO2 := Qh (own_below HO.out ((Below.refl _ _).alloc (Nat.le_refl _) (.cells #[.int .u8 0, .int .u8 0, .int .u8 64, .int .u8 0, .int .u8 128, .int .u8 0, .int .u8 0, .int .u8 0, .int .u8 192] 5)))
     have HL2 := Qh (HL.out.alloc HL.out.size (.cells #[.int .u8 0, .int .u8 0, .int .u8 64, .int .u8 0, .int .u8 128, .int .u8 0, .int .u8 0, .int .u8 0, .int .u8 192] 5))
     clear HO HL hm
     generalize wr.alloc (.cells #[.int .u8 0, .int .u8 0, .int .u8 64, .int .u8 0, .int .u8 128, .int .u8 0, .int .u8 0, .int .u8 0, .int .u8 192] 5) = W1 at HO2 HL2 ⊢
     have hm := HL2.out.size
     go_wp2_with (first | (at_builtin; refine wpList_append_bytes rfl _ _ rfl w'.heap.size _ _ _ rfl (own_below HO2.out ((Below.refl _ _).alloc (Nat.le_refl _) _)) _ _ _ _ rfl (ints_made _ _ HWF.out) (by omega) (by simp; omega) ?_; intro v3 w3 hown3 hgrow3; have HO3 := Qh hown3; have HL3 := Qh ((HL2.out.alloc HL2.out.size _).grown hgrow3 (by simp; omega) (own_base HO2.out)); clear hown3 hgrow3) | fail)
     have HO4 : Hid (w3.ownsRow w'.heap.size 5 1 v3 (len + (0 + 1)) ((bs ++ (putM n).take (0 + 1)).map (Value.int .u8))) := Qh (by
      have h := HO3.out
      rw [List.append_assoc, take_snoc HP.out] at h
      exact h)
     clear HO3 HO2 HL2 hm
     go_roundw
     case rel => exact ⟨1, rfl, by omega, Qh (by have h := HO4.out; simpa using h)⟩
     case measure => simp [intOf]
    ·
     have HX : Hid (bits .or .u8 (n / 256) 64 = n / 256 + 64) := Qh (by rw [or_u8 _ _ 6 (by decide) (by omega) (by rw [show (2 : Int) ^ 6 = 64 from by decide]; omega) (by omega) (by omega) (by omega)]; try omega)
     have HP : Hid ((putM n)[0]? = some (n / 256 + 64)) := Qh (by simp [putM, ES.out])
     have HWF := Qh (putM_wf n hn.1 _ (List.mem_of_getElem? HP.out))
     go_upto_region 9 with fail
     rw [HX.out]
     have HO2 := Qh (own_below HO.out ((Below.refl _ _).alloc (Nat.le_refl _) (.cells #[.int .u8 0, .int .u8 0, .int .u8 64, .int .u8 0, .int .u8 128, .int .u8 0, .int .u8 0, .int .u8 0, .int .u8 192] 5)))
     have HL2 := Qh (HL.out.alloc HL.out.size (.cells #[.int .u8 0, .int .u8 0, .int .u8 64, .int .u8 0, .int .u8 128, .int .u8 0, .int .u8 0, .int .u8 0, .int .u8 192] 5))
     clear HO HL hm
     generalize wr.alloc (.cells #[.int .u8 0, .int .u8 0, .int .u8 64, .int .u8 0, .int .u8 128, .int .u8 0, .int .u8 0, .int .u8 0, .int .u8 192] 5) = W1 at HO2 HL2 ⊢
     have hm := HL2.out.size
     go_wp2_with (first | (at_builtin; refine wpList_append_bytes rfl _ _ rfl w'.heap.size _ _ _ rfl (own_below HO2.out ((Below.refl _ _).alloc (Nat.le_refl _) _)) _ _ _ _ rfl (ints_made _ _ HWF.out) (by omega) (by simp; omega) ?_; intro v3 w3 hown3 hgrow3; have HO3 := Qh hown3; have HL3 := Qh ((HL2.out.alloc HL2.out.size _).grown hgrow3 (by simp; omega) (own_base HO2.out)); clear hown3 hgrow3) | fail)
     have HO4 : Hid (w3.ownsRow w'.heap.size 5 1 v3 (len + (0 + 1)) ((bs ++ (putM n).take (0 + 1)).map (Value.int .u8))) := Qh (by
      have h := HO3.out
      rw [List.append_assoc, take_snoc HP.out] at h
      exact h)
     clear HO3 HO2 HL2 hm
     go_roundw
     case rel => exact ⟨1, rfl, by omega, Qh (by have h := HO4.out; simpa using h)⟩
     case measure => simp [intOf]
    ·
     have HX : Hid (bits .or .u8 (n / 16777216) 128 = n / 16777216 + 128) := Qh (by rw [or_u8 _ _ 6 (by decide) (by omega) (by rw [show (2 : Int) ^ 6 = 64 from by decide]; omega) (by omega) (by omega) (by omega)]; try omega)
     have HP : Hid ((putM n)[0]? = some (n / 16777216 + 128)) := Qh (by simp [putM, ES.out])
     have HWF := Qh (putM_wf n hn.1 _ (List.mem_of_getElem? HP.out))
     go_upto_region 9 with fail
     rw [HX.out]
     have HO2 := Qh (own_below HO.out ((Below.refl _ _).alloc (Nat.le_refl _) (.cells #[.int .u8 0, .int .u8 0, .int .u8 64, .int .u8 0, .int .u8 128, .int .u8 0, .int .u8 0, .int .u8 0, .int .u8 192] 5)))
     have HL2 := Qh (HL.out.alloc HL.out.size (.cells #[.int .u8 0, .int .u8 0, .int .u8 64, .int .u8 0, .int .u8 128, .int .u8 0, .int .u8 0, .int .u8 0, .int .u8 192] 5))
     clear HO HL hm
     generalize wr.alloc (.cells #[.int .u8 0, .int .u8 0, .int .u8 64, .int .u8 0, .int .u8 128, .int .u8 0, .int .u8 0, .int .u8 0, .int .u8 192] 5) = W1 at HO2 HL2 ⊢
     have hm := HL2.out.size
     go_wp2_with (first | (at_builtin; refine wpList_append_bytes rfl _ _ rfl w'.heap.size _ _ _ rfl (own_below HO2.out ((Below.refl _ _).alloc (Nat.le_refl _) _)) _ _ _ _ rfl (ints_made _ _ HWF.out) (by omega) (by simp; omega) ?_; intro v3 w3 hown3 hgrow3; have HO3 := Qh hown3; have HL3 := Qh ((HL2.out.alloc HL2.out.size _).grown hgrow3 (by simp; omega) (own_base HO2.out)); clear hown3 hgrow3) | fail)
     have HO4 : Hid (w3.ownsRow w'.heap.size 5 1 v3 (len + (0 + 1)) ((bs ++ (putM n).take (0 + 1)).map (Value.int .u8))) := Qh (by
      have h := HO3.out
      rw [List.append_assoc, take_snoc HP.out] at h
      exact h)
     clear HO3 HO2 HL2 hm
     go_roundw
     case rel => exact ⟨1, rfl, by omega, Qh (by have h := HO4.out; simpa using h)⟩
     case measure => simp [intOf]
    ·
     have HX : Hid (bits .or .u8 (n / 72057594037927936) 192 = n / 72057594037927936 + 192) := Qh (by rw [or_u8 _ _ 6 (by decide) (by omega) (by rw [show (2 : Int) ^ 6 = 64 from by decide]; omega) (by omega) (by omega) (by omega)]; try omega)
     have HP : Hid ((putM n)[0]? = some (n / 72057594037927936 + 192)) := Qh (by simp [putM, ES.out])
     have HWF := Qh (putM_wf n hn.1 _ (List.mem_of_getElem? HP.out))
     go_upto_region 9 with fail
     rw [HX.out]
     have HO2 := Qh (own_below HO.out ((Below.refl _ _).alloc (Nat.le_refl _) (.cells #[.int .u8 0, .int .u8 0, .int .u8 64, .int .u8 0, .int .u8 128, .int .u8 0, .int .u8 0, .int .u8 0, .int .u8 192] 5)))
     have HL2 := Qh (HL.out.alloc HL.out.size (.cells #[.int .u8 0, .int .u8 0, .int .u8 64, .int .u8 0, .int .u8 128, .int .u8 0, .int .u8 0, .int .u8 0, .int .u8 192] 5))
     clear HO HL hm
     generalize wr.alloc (.cells #[.int .u8 0, .int .u8 0, .int .u8 64, .int .u8 0, .int .u8 128, .int .u8 0, .int .u8 0, .int .u8 0, .int .u8 192] 5) = W1 at HO2 HL2 ⊢
     have hm := HL2.out.size
     go_wp2_with (first | (at_builtin; refine wpList_append_bytes rfl _ _ rfl w'.heap.size _ _ _ rfl (own_below HO2.out ((Below.refl _ _).alloc (Nat.le_refl _) _)) _ _ _ _ rfl (ints_made _ _ HWF.out) (by omega) (by simp; omega) ?_; intro v3 w3 hown3 hgrow3; have HO3 := Qh hown3; have HL3 := Qh ((HL2.out.alloc HL2.out.size _).grown hgrow3 (by simp; omega) (own_base HO2.out)); clear hown3 hgrow3) | fail)
     have HO4 : Hid (w3.ownsRow w'.heap.size 5 1 v3 (len + (0 + 1)) ((bs ++ (putM n).take (0 + 1)).map (Value.int .u8))) := Qh (by
      have h := HO3.out
      rw [List.append_assoc, take_snoc HP.out] at h
      exact h)
     clear HO3 HO2 HL2 hm
     go_roundw
     case rel => exact ⟨1, rfl, by omega, Qh (by have h := HO4.out; simpa using h)⟩
     case measure => simp [intOf]
   ·
    have hx := putM_at ES.out hs (by omega) hlt
    have HX := Qh hx; clear hx
    go_wp2_with (first | (at_builtin; refine wpList_append_bytes rfl _ _ rfl w'.heap.size _ _ _ rfl (own_below HO.out ((Below.refl _ _).alloc (Nat.le_refl _) _)) _ _ _ _ rfl (ints_made _ _ (wf_u8_mod _)) (by omega) (by simp; omega) ?_; intro v3 w3 hown3 hgrow3; have HO3 := Qh hown3; have HL3 := Qh ((HL.out.alloc HL.out.size _).grown hgrow3 (by simp; omega) (own_base HO.out)); clear hown3 hgrow3) | fail)
    have HO4 : Hid (w3.ownsRow w'.heap.size 5 1 v3 (len + (j + 1)) ((bs ++ (putM n).take (j + 1)).map (Value.int .u8))) := Qh (by
     have h := HO3.out
     rw [List.append_assoc, take_snoc HX.out] at h
     exact h)
    clear HO3 HO HL hm
    go_roundw
    case rel => exact ⟨j + 1, by go_num, by omega, HL3, HO4⟩
    case measure => simp [intOf]; omega
  ·
   obtain rfl : j = s := by omega
   go_wp2_with fail
   go_ret
   refine ⟨_, rfl, HL.out, ?_⟩
   have h := HO.out
   rw [List.take_of_length_le (by omega)] at h
   rw [ES.out]; exact h
end Go.Proofs.Ytmbjepcbokbemaa
