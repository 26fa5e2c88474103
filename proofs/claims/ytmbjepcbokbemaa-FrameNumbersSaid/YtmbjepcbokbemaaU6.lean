/- texts of the proof, laid together: FrmI, OctC, Copyr, FrmJ, Bar, Bar3. -/
import Derived.Test.YtmbjepcbokbemaaU5
import Derived.Test.YtmbjepcbokbemaaU1
import Derived.Test.YtmbjepcbokbemaaU2
import Derived.Laws.CopyOwn
set_option linter.unusedVariables false
set_option linter.unusedSimpArgs false
set_option maxRecDepth 100000
set_option maxHeartbeats 16000000
namespace Go.Proofs.Ytmbjepcbokbemaa
open Go.RowKit
structure FX where
 f : Fr
 dv : Value
 rv : Value
def frK : RK FX := ⟨19, fun x => x.f.cells x.dv x.rv, fun x => x.f.Wf ∧ ∀ v ∈ x.f.cells x.dv x.rv, v.oneCell' = true, by omega, by omega, fun x h => Fr.len h.1, fun x h => h.2⟩
structure FrsAt (w : World) (a : Option Addr) (n : Nat) (l : List FX) : Prop where
 row : frK.At w a n l
 fr : ∀ x ∈ l, FrAt w x.f x.dv x.rv
theorem FrsAt.below {w y : World} {a : Option Addr} {n : Nat} {l : List FX} (h : FrsAt w a n l) (hb : Below w.heap.size w y) : FrsAt y a n l := ⟨h.row.below hb, fun x hx => (h.fr x hx).below hb⟩
theorem FrAt.ok {w : World} {f : Fr} {dv rv : Value} (h : FrAt w f dv rv) : frK.ok ⟨f, dv, rv⟩ := ⟨h.wf, Fr.one h⟩
theorem FrAt.rgok {w : World} {f : Fr} {dv rv : Value} (h : FrAt w f dv rv) : RgOk f := by
 obtain ⟨a, n, c, _, _, _, h9⟩ := h.r
 exact fun x hx => (h9.2.1 x hx).1.1
theorem FrAt.dwf {w : World} {f : Fr} {dv rv : Value} (h : FrAt w f dv rv) : ∀ x ∈ f.data, (Lit.int .u8 x).wf = true := by
 obtain ⟨a, n, c, _, _, _, h9⟩ := h.d
 exact h9.2.1
theorem rv_len (f : Fr) : (ackV f.rg f.de).length ≤ 4 + 2 * f.rg.length := by
 unfold ackV
 cases h : f.rg.reverse with
 | nil => simp
 | cons x l =>
  have h1 := gaps_len (x :: l)
  have h2 : (x :: l).length = f.rg.length := by rw [← h, List.length_reverse]
  simp only [List.length_append, List.length_cons, List.length_nil] at h1 h2 ⊢
  omega
theorem one_le {f : Fr} (hr : rightB f = true) (hw : f.Wf) : (oneFM f).length ≤ 700 := by
 have h8 := hw.cidl
 have hp := fun n => putM_le n
 have hv := fun l => varsM_le l
 have ht := fun l => text_le l
 unfold oneFM
 rw [List.length_append]
 have h0 := hp (kindM f)
 have hk := right_kind hr
 unfold bodyM
 by_cases k2 : f.kind = 2
 ·
  rw [if_pos k2]
  have h := rv_len f; have h1 := hv (ackV f.rg f.de)
  have h2 : (ackB f.rg && inB f.de) = true := by rw [← hr]; unfold rightB; simp [k2]
  rw [Bool.and_eq_true] at h2
  have h3 := (ackB_iff.1 h2.1).2.1
  omega
 rw [if_neg k2]
 by_cases k4 : f.kind = 4
 ·
  rw [if_pos k4]; have := hv [f.st, f.co, f.fi]; simp only [List.length_cons, List.length_nil] at this; omega
 rw [if_neg k4]
 by_cases k5 : f.kind = 5
 ·
  rw [if_pos k5]; have := hv [f.st, f.co]; simp only [List.length_cons, List.length_nil] at this; omega
 rw [if_neg k5]
 by_cases k6 : f.kind = 6
 ·
  rw [if_pos k6, List.length_append]; have := hp f.of_; have := ht f.data; have := right_data hr (by omega); omega
 rw [if_neg k6]
 by_cases k8 : f.kind = 8
 ·
  rw [if_pos k8, List.length_append, List.length_append]
  have := hp f.st; have := ht f.data; have := right_data hr (by omega)
  have : (if 0 < f.of_ then putM f.of_ else []).length ≤ 8 := by split; exact hp _; simp
  omega
 rw [if_neg k8]
 split
 ·
  have := hp f.li; omega
 split
 ·
  have := hv [f.st, f.li]; simp only [List.length_cons, List.length_nil] at this; omega
 split
 ·
  have := hv [f.se, f.li]; simp only [List.length_cons, List.length_nil, List.length_append] at this ⊢; omega
 split
 ·
  have := hp f.se; omega
 split
 ·
  omega
 split
 ·
  rw [List.length_append]; have := hp f.co; have := ht f.data; have := right_data hr (by omega); omega
 ·
  simp; omega
theorem varsM_wf : ∀ (l : List Int), (∀ x ∈ l, 0 ≤ x) → ∀ x ∈ varsM l, (Lit.int .u8 x).wf = true
 | [], _, x, hx => by cases hx
 | n :: l, h, x, hx => by
  rw [varsM_cons] at hx
  rcases List.mem_append.1 hx with h1 | h1
  ·
   exact putM_wf n (h n (List.mem_cons_self ..)) x h1
  ·
   exact varsM_wf l (fun y hy => h y (List.mem_cons_of_mem _ hy)) x h1
theorem text_wf {l : List Int} (h : ∀ x ∈ l, (Lit.int .u8 x).wf = true) : ∀ x ∈ textB l, (Lit.int .u8 x).wf = true := by
 intro x hx
 unfold textB at hx
 rcases List.mem_append.1 hx with h1 | h1
 ·
  exact putM_wf _ (by omega) x h1
 ·
  exact h x h1
theorem fall_nn : ∀ {l : List (Int × Int)}, fallB l → ∀ x ∈ revGaps l, 0 ≤ x
 | [], _, x, h => by cases h
 | [_], _, x, h => by cases h
 | a :: b :: l, hf, x, h => by
  obtain ⟨h1, h2, h3, h4, h5⟩ := hf
  have hb : b.1 < b.2 := by cases l with | nil => exact h5.2.1 | cons z l => exact h5.2.1
  simp only [revGaps, List.mem_cons] at h
  rcases h with h | h | h
  ·
   omega
  ·
   omega
  ·
   exact fall_nn h5 x h
theorem ackV_nn {f : Fr} (hr : rightB f = true) (hk : f.kind = 2) (hg : RgOk f) (hw : f.Wf) : ∀ x ∈ ackV f.rg f.de, 0 ≤ x := by
 obtain ⟨h1, h2, h3, h4⟩ := ack_fall hr hk hg
 intro x hx
 unfold ackV at hx
 cases hq : f.rg.reverse with
 | nil => rw [hq] at hx; cases hx
 | cons y l =>
  rw [hq] at hx h1
  simp only at hx
  have hy : 0 ≤ y.1 ∧ y.1 < y.2 := by cases l with | nil => exact ⟨h1.1, h1.2.1⟩ | cons z l => exact ⟨h1.1, h1.2.1⟩
  have hd := hw.de.1
  rcases List.mem_append.1 hx with h | h
  ·
   simp only [List.mem_cons, List.not_mem_nil, or_false] at h
   rcases h with rfl | rfl | rfl | rfl <;> omega
  ·
   exact fall_nn h1 x h
theorem one_wf {w : World} {f : Fr} {dv rv : Value} (h : FrAt w f dv rv) (hr : rightB f = true) : ∀ x ∈ oneFM f, (Lit.int .u8 x).wf = true := by
 have hw := h.wf
 have hd := h.dwf
 have hk0 := kindM_in hr
 have p := fun (n : Int) (hn : 0 ≤ n) => putM_wf n hn
 intro x hx
 unfold oneFM at hx
 rcases List.mem_append.1 hx with hx | hx
 ·
  exact p _ hk0.1 x hx
 have hv3 : ∀ a b c : Int, 0 ≤ a → 0 ≤ b → 0 ≤ c → ∀ y ∈ varsM [a, b, c], (Lit.int .u8 y).wf = true := fun a b c ha hb hc => varsM_wf _ (fun y hy => by simp only [List.mem_cons, List.not_mem_nil, or_false] at hy; rcases hy with rfl | rfl | rfl <;> assumption)
 have hv2 : ∀ a b : Int, 0 ≤ a → 0 ≤ b → ∀ y ∈ varsM [a, b], (Lit.int .u8 y).wf = true := fun a b ha hb => varsM_wf _ (fun y hy => by simp only [List.mem_cons, List.not_mem_nil, or_false] at hy; rcases hy with rfl | rfl <;> assumption)
 unfold bodyM at hx
 by_cases k2 : f.kind = 2
 ·
  rw [if_pos k2] at hx; exact varsM_wf _ (ackV_nn hr k2 h.rgok hw) x hx
 rw [if_neg k2] at hx
 split at hx
 ·
  exact hv3 _ _ _ hw.st.1 hw.co.1 hw.fi.1 x hx
 split at hx
 ·
  exact hv2 _ _ hw.st.1 hw.co.1 x hx
 split at hx
 ·
  rcases List.mem_append.1 hx with hx | hx
  ·
   exact p _ hw.of_.1 x hx
  ·
   exact text_wf hd x hx
 split at hx
 ·
  rcases List.mem_append.1 hx with hx | hx
  ·
   exact p _ hw.st.1 x hx
  rcases List.mem_append.1 hx with hx | hx
  ·
   split at hx
   ·
    exact p _ hw.of_.1 x hx
   ·
    cases hx
  ·
   exact text_wf hd x hx
 split at hx
 ·
  exact p _ hw.li.1 x hx
 split at hx
 ·
  exact hv2 _ _ hw.st.1 hw.li.1 x hx
 split at hx
 ·
  rcases List.mem_append.1 hx with hx | hx
  ·
   exact hv2 _ _ hw.se.1 hw.li.1 x hx
  rcases List.mem_append.1 hx with hx | hx
  ·
   rw [List.mem_singleton.1 hx]; rfl
  ·
   exact hw.cid x hx
 split at hx
 ·
  exact p _ hw.se.1 x hx
 split at hx
 ·
  exact hw.cid x hx
 split at hx
 ·
  rcases List.mem_append.1 hx with hx | hx
  ·
   exact p _ hw.co.1 x hx
  ·
   exact text_wf hd x hx
 ·
  cases hx
def encM (l : List FX) : List Int := l.flatMap fun x => oneFM x.f
theorem encM_snoc (l : List FX) (x : FX) : encM (l ++ [x]) = encM l ++ oneFM x.f := by unfold encM; simp
theorem encM_le : ∀ (l : List FX), (∀ x ∈ l, x.f.Wf) → l.all (fun x => rightB x.f) = true → (encM l).length ≤ 700 * l.length
 | [], _, _ => Nat.zero_le _
 | x :: l, hw, h => by
  rw [List.all_cons, Bool.and_eq_true] at h
  have h1 := encM_le l (fun y hy => hw y (List.mem_cons_of_mem _ hy)) h.2
  have h2 := one_le h.1 (hw x (List.mem_cons_self ..))
  have h3 : encM (x :: l) = oneFM x.f ++ encM l := by unfold encM; simp
  rw [h3, List.length_append, List.length_cons]; omega
theorem encM_wf {w : World} : ∀ (l : List FX), (∀ x ∈ l, FrAt w x.f x.dv x.rv) → l.all (fun x => rightB x.f) = true → ∀ y ∈ encM l, (Lit.int .u8 y).wf = true
 | [], _, _, y, hy => by cases hy
 | x :: l, hf, h, y, hy => by
  rw [List.all_cons, Bool.and_eq_true] at h
  have h3 : encM (x :: l) = oneFM x.f ++ encM l := by unfold encM; simp
  rw [h3] at hy
  rcases List.mem_append.1 hy with h1 | h1
  ·
   exact one_wf (hf x (List.mem_cons_self ..)) h.1 y h1
  ·
   exact encM_wf l (fun z hz => hf z (List.mem_cons_of_mem _ hz)) h.2 y h1
def EncR (W0 : World) (l : List FX) (e : Ending) (w' : World) : Prop :=
 Below W0.heap.size W0 w' ∧ ((l.all (fun x => rightB x.f) = true ∧ ∃ b c, e = .returned (.tuple #[.slice b (encM l).length c, .int .i64 0]) ∧ (encM l).length ≤ c ∧ c ≤ 9223372036854775807 ∧ IntsK .u8 w' b (encM l).length (encM l) ∧ ∀ x, b = some x → W0.heap.size ≤ x.block) ∨
  (l.all (fun x => rightB x.f) = false ∧ e = .returned (.tuple #[.slice none 0 0, .int .i64 1])))
theorem encode4_any (w : World) (a : Option Addr) (n cp : Nat) (l : List FX) (h : FrsAt w a n l) (hn : n ≤ 12) (hc : n ≤ cp ∧ cp ≤ 9223372036854775807) :
  Calls Try.prog 8 #[.slice a n cp] w (EncR w l) := by
 have hln : l.length = n := h.row.1.symm
 have HLN := Qh hln
 have HL := Qh h
 have HNW := Qh (new_any w)
 obtain ⟨hc1, hc2⟩ := hc
 clear h hln
 go_enter Try.func8, Try.ntmps8
 go_wp2_with fail
 refine Calls.mono HNW.out ?_
 rintro e9 w1 ⟨rfl, hw, hb⟩
 have HW := Qh hw; have HB := Qh hb
 obtain ⟨B, hB⟩ : ∃ B, w.heap.size = B := ⟨_, rfl⟩
 rw [hB] at HW ⊢
 have HBE := Qh hB
 clear hw hb hB HNW
 go_wp2_with fail
 go_loopw [10] (fun s10 wr => ∃ i : Nat, s10 = .int .i64 i ∧ i ≤ n ∧ Hid (WrU w1 B B (.slice none 0 0) wr (encM (l.take i))) ∧ Hid ((l.take i).all (fun x => rightB x.f) = true)) (fun s _ => n - (intOf s).toNat)
 case atStart => exact ⟨0, rfl, by omega, Qh (WrU.start HW.out), Qh rfl⟩
 case round =>
  obtain ⟨i, rfl, hi, HU, HA⟩ := hrel
  have HBR : Hid (Below w.heap.size w wr) := Qh (by have h9 := HU.out; rw [← HBE.out] at h9; exact h9.low HB.out (Nat.le_refl _) (fun k hk => by simp [Value.ownBlock] at hk))
  have hlt9 : i ≤ 12 := by omega
  by_cases hlt : i < n
  ·
   have HLR := Qh (HL.out.below HBR.out)
   obtain ⟨ab, ao, x, rfl, _, hx, hok, hrg⟩ := HLR.out.row.at hlt
   obtain ⟨f, dv, rv⟩ := x
   have HRG : Hid (wr.rangeAt ab (ao + i * 19) (f.cells dv rv)) := Qh hrg
   have HF9 : Hid (FrAt wr f dv rv) := Qh (HLR.out.fr _ (List.mem_of_getElem? hx))
   have HF0 : Hid (FrAt w f dv rv) := Qh (HL.out.fr _ (List.mem_of_getElem? hx))
   have HTS := Qh (take_snd4 hx)
   have HRF : Hid ((f.cells dv rv).length = 19) := Qh (Fr.len hok.1)
   have HRO : Hid (∀ v ∈ f.cells dv rv, v.oneCell' = true) := Qh hok.2
   have hel := encM_le (l.take i) (fun y hy => (HL.out.fr y (List.mem_of_mem_take hy)).wf) HA.out
   rw [List.length_take] at hel
   have hel2 : (encM (l.take i)).length ≤ 10000 := by have : min i l.length ≤ i := Nat.min_le_left ..; omega
   have HEL := Qh hel2
   clear hx hok hrg hel hel2 HLR
   have HRT := Qh (fun u (hu : FrAt u f dv rv) => right4_any u f dv rv hu)
   have HPT := Qh (fun W0 u p v bs hf hb hr hW hl => put4_any W0 u p v bs f dv rv hf hb hr hf.rgok hW hl)
   obtain ⟨RF, hRF⟩ : ∃ R, f.cells dv rv = R := ⟨_, rfl⟩
   rw [hRF] at HRG HRF HRO
   simp only [hRF] at HRT HPT
   clear hRF
   go_upto_region 5 with (first | (refine wpList_load_mid rfl 39 _ rfl ab (ao + i * 19) rfl RF _ HRG.out Try.underlying39 rfl (by rw [HRF.out]; rfl) ?_) | (refine wpList_store_row rfl 39 _ _ rfl _ rfl RF ([.int .i64 0, .int .u64 0, .int .u64 0, .slice none 0 0, .bool false, .int .u64 0, .int .u64 0, .int .u64 0, .int .u64 0, .int .u64 0, .slice none 0 0, .int .u8 0, .int .u8 0, .int .u8 0, .int .u8 0, .int .u8 0, .int .u8 0, .int .u8 0, .int .u8 0] : List Value) rfl 39 (heap_alloc_new _ _) (by rw [HRF.out]; rfl) (by rw [HRF.out]; rfl) HRO.out ?_; intro w2 hr hg) | fail)
   have hal := (Below.refl wr.heap.size wr).alloc (Nat.le_refl _) (.cells (([.int .i64 0, .int .u64 0, .int .u64 0, .slice none 0 0, .bool false, .int .u64 0, .int .u64 0, .int .u64 0, .int .u64 0, .int .u64 0, .slice none 0 0, .int .u8 0, .int .u8 0, .int .u8 0, .int .u8 0, .int .u8 0, .int .u8 0, .int .u8 0, .int .u8 0] : List Value)).toArray 39)
   have hb : Below wr.heap.size wr w2 := hal.grown hg hal.size (by intro k hk; injection hk with hk; omega)
   replace HU := Qh (HU.out.to hb)
   replace HBR := Qh (bl_next HBR.out HBR.out.size hb)
   replace HF9 := Qh (HF9.out.below hb)
   have HG := Qh (hr)
   clear hr hg hal hb
   obtain ⟨g, hg⟩ : ∃ g, wr.heap.size = g := ⟨_, rfl⟩
   rw [hg] at HG ⊢
   clear hg
   clear HRG
   have hrt := HRT.out w2 HF9.out
   obtain ⟨b, hbb⟩ : ∃ b, rightB f = b := ⟨_, rfl⟩
   rw [hbb] at hrt
   have HBB := Qh hbb
   have HRT9 := Qh hrt
   clear hrt hbb HRT HF9
   go_wp2_with (first | (refine wpList_load_mid rfl 39 _ rfl g 0 rfl RF _ (rngL HG.out) Try.underlying39 rfl (by rw [HRF.out]; rfl) ?_) | fail)
   refine Calls.mono HRT9.out ?_
   rintro e9 w3 ⟨rfl, hb⟩
   replace HU := Qh (HU.out.to hb)
   replace HBR := Qh (bl_next HBR.out HBR.out.size hb)
   replace HG := Qh (bl_row hb (lt_of_block HG.out) HG.out)
   clear hb HRT9
   cases b
   ·
    have HN : Hid (l.all (fun x => rightB x.f) = false) := Qh (by cases h9 : l.all (fun x => rightB x.f) with
     | false => rfl
     | true =>
      have hm : (⟨f, dv, rv⟩ : FX) ∈ l := List.mem_of_mem_take (by rw [HTS.out]; simp)
      have := List.all_eq_true.1 h9 _ hm; rw [HBB.out] at this; cases this)
    go_wp2_with fail
    (try simp only [Exit.inBlock, Exit.then])
    go_ret2
    exact ⟨HBR.out, .inr ⟨HN.out, rfl⟩⟩
   ·
    obtain ⟨v1, k1, k2, k3⟩ := HU.out
    have hpt := HPT.out w w3 B v1 (encM (l.take i)) HF0.out HBR.out HBB.out (by rw [HBE.out]; exact k1) HEL.out
    rw [HBE.out] at hpt
    have HK2 := Qh k2; have HK3 := Qh k3; have HPC := Qh hpt
    clear k1 k2 k3 hpt HPT
    go_wp2_with (first | (refine wpList_load_mid rfl 39 _ rfl g 0 rfl RF _ (rngL HG.out) Try.underlying39 rfl (by rw [HRF.out]; rfl) ?_) | fail)
    refine Calls.mono HPC.out ?_
    rintro e9 w4 ⟨rfl, hu⟩
    have HN : Hid (WrU w1 B B (.slice none 0 0) w4 (encM (l.take (i + 1)))) := Qh (by rw [HTS.out, encM_snoc]; exact WrU.next HK2.out HK3.out hu)
    have HM : Hid ((l.take (i + 1)).all (fun x => rightB x.f) = true) := Qh (by rw [HTS.out, List.all_append, HA.out]; simp [HBB.out])
    clear hu HPC HK2 HK3 HU HBR HG HA
    go_wp2_with fail
    go_roundw
    case rel => exact ⟨i + 1, by go_num, by omega, HN, HM⟩
    case measure => simp [intOf]; omega
  ·
   obtain rfl : i = n := by omega
   have htk : l.take i = l := List.take_of_length_le (by rw [HLN.out]; exact Nat.le_refl _)
   rw [htk] at HU HA
   have hel := encM_le l (fun y hy => (HL.out.fr y hy).wf) HA.out
   obtain ⟨v1, k1, k2, k3⟩ := HU.out
   have HDN := Qh (wdone_any wr B B v1 (encM l) (by rw [HLN.out] at hel; omega) (encM_wf l HL.out.fr HA.out) k1)
   have HSZ := Qh HBR.out.size
   clear htk hel k1 k2 k3 HU
   go_wp2_with fail
   refine Calls.mono HDN.out ?_
   rintro e9 w4 ⟨b, c, rfl, h1, h2, h3, h4, hb⟩
   replace HBR := Qh (bl_next HBR.out HBR.out.size hb)
   have HR : Hid (EncR w l (.returned (.tuple #[.slice b (encM l).length c, .int .i64 0])) w4) := Qh ⟨HBR.out, .inl ⟨HA.out, b, c, rfl, h1, h2, h3, fun x hx => Nat.le_trans HSZ.out (h4 x hx)⟩⟩
   clear h1 h2 h3 h4 hb HDN
   go_wp2_with fail
   (try simp only [Exit.inBlock, Exit.then])
   go_ret2
   exact HR.out
theorem frT : RT frK 39 23 (.agg #[.int .i64 0, .int .u64 0, .int .u64 0, .slice none 0 0, .bool false, .int .u64 0, .int .u64 0, .int .u64 0, .int .u64 0, .int .u64 0, .slice none 0 0, .int .u8 0, .int .u8 0, .int .u8 0, .int .u8 0, .int .u8 0, .int .u8 0, .int .u8 0, .int .u8 0]) 128 := ⟨Try.underlying23, by kernel_rfl, rfl, by omega⟩
theorem encM_one (x : FX) : encM [x] = oneFM x.f := by unfold encM; simp
theorem FrsAt.one {w : World} {f : Fr} {dv rv : Value} (h : FrAt w f dv rv) : FrsAt (w.alloc (.cells (frK.flat [⟨f, dv, rv⟩]).toArray 39)) (some ⟨w.heap.size, 0, none⟩) 1 [⟨f, dv, rv⟩] :=
 ⟨RK.At.of_row (K := frK) (l := [(⟨f, dv, rv⟩ : FX)]) (heap_alloc_new w _) (fun x hx => by rw [List.mem_singleton.1 hx]; exact h.ok), fun x hx => by rw [List.mem_singleton.1 hx]; exact h.below ((Below.refl _ _).alloc (Nat.le_refl _) _)⟩
def sizeF (f : Fr) : Nat := if rightB f = true then (oneFM f).length else 0
theorem size4_any (w : World) (f : Fr) (dv rv : Value) (h : FrAt w f dv rv) :
  Calls Try.prog 12 #[.agg (f.cells dv rv).toArray] w fun e w' => e = .returned (.int .i64 (sizeF f)) ∧ Below w.heap.size w w' := by
 have HRF : Hid ((f.cells dv rv).length = 19) := Qh (Fr.len h.wf)
 have HH := Qh h; have HOK := Qh h.ok
 obtain ⟨RF, hRF⟩ : ∃ R, f.cells dv rv = R := ⟨_, rfl⟩
 have HRE := Qh hRF
 rw [hRF] at HRF ⊢
 clear hRF h
 go_enter Try.func12, Try.ntmps12
 go_upto_region 1 with fail
 change Code.wp _ _ _ _ (w.alloc (.cells RF.toArray 39))
 have HB := Qh (Below.refl w.heap.size w)
 have hb := (Below.refl w.heap.size w).alloc (Nat.le_refl _) (.cells RF.toArray 39)
 replace HB := Qh (bl_next HB.out HB.out.size hb)
 replace HH := Qh (HH.out.below hb)
 have HF := Qh (heap_alloc_new w (.cells RF.toArray 39))
 clear hb
 generalize w.alloc (.cells RF.toArray 39) = w1 at HB HH HF ⊢
 obtain ⟨gf, hg⟩ : ∃ g, w.heap.size = g := ⟨_, rfl⟩
 rw [hg] at HF ⊢
 clear hg
 have HEN := Qh (encode4_any _ _ 1 1 _ (FrsAt.one HH.out) (by omega) ⟨Nat.le_refl _, by omega⟩)
 go_wp2_with (first | (refine wpList_load_mid rfl 39 _ rfl gf 0 rfl RF _ (rngL HF.out) Try.underlying39 rfl (by rw [HRF.out]; rfl) ?_) | (refine wpList_build_rk frT rfl _ rfl ⟨f, dv, rv⟩ HOK.out (by show _ = Value.agg (f.cells dv rv).toArray; rw [HRE.out]; rfl) ?_) | fail)
 refine Calls.mono HEN.out ?_
 rintro e9 w2 ⟨hb, hr⟩
 replace HB := Qh (bl_next HB.out HB.out.size (bl_next ((Below.refl _ _).alloc (Nat.le_refl _) (.cells (frK.flat [⟨f, dv, rv⟩]).toArray 39)) ((Below.refl _ _).alloc (Nat.le_refl w1.heap.size) (.cells (frK.flat [⟨f, dv, rv⟩]).toArray 39)).size hb))
 clear hb HEN
 rcases hr with ⟨ha, b, c, rfl, h1, h2, h3, h4⟩ | ⟨ha, rfl⟩
 ·
  have hs : sizeF f = (encM [⟨f, dv, rv⟩]).length := by rw [encM_one]; unfold sizeF; rw [if_pos (by simpa using ha)]
  obtain ⟨n, hn⟩ : ∃ n, (encM [⟨f, dv, rv⟩]).length = n := ⟨_, rfl⟩
  rw [hn] at h1 h3 hs ⊢
  have HS := Qh hs
  clear hs hn ha h3 h4
  go_wp2_with fail
  go_ret
  exact ⟨by rw [HS.out]; rfl, HB.out⟩
 ·
  have hs : sizeF f = 0 := by unfold sizeF; rw [if_neg (by simp at ha; simp [ha])]
  have HS := Qh hs
  clear hs ha
  go_wp2_with fail
  go_ret
  exact ⟨by rw [HS.out]; rfl, HB.out⟩
end Go.Proofs.Ytmbjepcbokbemaa
namespace Go.Proofs.Ytmbjepcbokbemaa
open Go.RowKit
theorem rawc_any (W0 w : World) (L p : Nat) (bs : List Int) (bad : Bool) (n : Int) (hn : -9223372036854775808 ≤ n ∧ n ≤ 9223372036854775807) (h : Rd W0 w L p 97 bs bad) :
  Calls Try.prog 63 #[.pointer (some ⟨p, 0, none⟩), .int .i64 n] w fun e w' => ∃ a m cap, e = .returned (.slice a m cap) ∧ (m ≤ cap ∧ cap ≤ 9223372036854775807) ∧ IntsK .u8 w' a m (rdM bs bad n).1 ∧ Rd W0 w' L p 97 (rdM bs bad n).2.1 (rdM bs bad n).2.2 ∧ w.grownBy w' (some p) ∧ (∀ x, a = some x → w.heap.size ≤ x.block) := by
 obtain ⟨a, len, cap, hr, h1, h2, h3, h4⟩ := h.ex
 have c0 : w.cell? ⟨p, 0, none⟩ = some (.slice a len cap) := row_cell hr 0 _ rfl
 have c1 : w.cell? ⟨p, 1, none⟩ = some (.bool bad) := row_cell hr 1 _ rfl
 have hl := h3.1
 have hsm := h.small
 have HR := Qh h; have H3 := Qh h3
 clear h h3
 by_cases hb : bad = true ∨ n < 0 ∨ (bs.length : Int) < n
 ·
  have HM := Qh (rdM_bad hb)
  have HF := Qh (fail_any W0 w L p bs bad HR.out)
  clear hr
  rw [hl] at hb
  have hb2 : bad = true ∨ (bad = false ∧ n < 0) ∨ (bad = false ∧ ¬ n < 0 ∧ (len : Int) < n) := by cases bad <;> simp at hb ⊢; omega
  clear hb
  go_enter Try.func63, Try.ntmps63
  rcases hb2 with rfl | ⟨rfl, h⟩ | ⟨rfl, h, h'⟩
  all_goals
   go_wp2_with fail
   refine Calls.mono HF.out ?_
   rintro e w' ⟨rfl, hR, hg⟩
   have HR2 := Qh hR; have HG := Qh hg
   clear hR hg
   go_wp2_with fail
   go_ret
   refine ⟨none, 0, 0, rfl, ⟨Nat.le_refl _, by omega⟩, ?_, ?_, HG.out, by simp⟩
   ·
    rw [HM.out]; exact IntsK.nil _ _ _
   ·
    rw [HM.out]; exact HR2.out
 ·
  have hb1 : bad = false := by cases bad <;> simp_all
  subst hb1
  obtain ⟨m, rfl⟩ : ∃ m : Nat, n = m := ⟨n.toNat, by omega⟩
  have hm : m ≤ len := by omega
  have HM := Qh (rdM_ok (bs := bs) (n := m) (by omega))
  clear hb
  go_enter Try.func63, Try.ntmps63
  go_wp2_with fail
  have hw := (HR.out.ints H3.out h4).pre m hm
  refine Calls.mono (clone_any w a m cap _ (by omega) hw) ?_
  rintro e w' ⟨v, rfl, hbw, ho⟩
  have hcm := own_cap ho
  obtain ⟨a1, cap1, rfl, hc1, hi1, hlow⟩ := ints_of_own ho hw.2.1
  replace hcm := hcm _ _ _ rfl
  have hrow := bl_row hbw (lt_of_block hr) hr
  have c0' : w'.cell? ⟨p, 0, none⟩ = some (.slice a len cap) := row_cell hrow 0 _ rfl
  have f0 := row_free hrow 0
  have HROW := Qh hrow; have HI1 := Qh hi1; have HB := Qh hbw
  clear hrow hi1 ho hw hbw hr c0
  have hpa : ∀ x, a1 = some x → some x.block ≠ some p := fun x hx => by
   have h := hlow x hx
   have h2 := HR.out.lt
   simp; omega
  by_cases hlt : m < len
  ·
   rcases H3.out.2.2 with h0 | ⟨ba, off, rfl, _, _⟩
   ·
    omega
   ·
    go_wp2_with fail
    go_ret
    refine ⟨_, _, _, rfl, ⟨hc1, hcm⟩, ?_, ?_, grown_trans (grown_below HB.out _) (grown_setCell _ _ _ _), hlow⟩
    ·
     rw [HM.out]; exact HI1.out.grown (grown_setCell _ _ _ _) hpa
    ·
     rw [HM.out]
     exact HR.out.set (grown_trans (grown_below HB.out _) (grown_setCell _ _ _ _)) ((At.base HROW.out).set 0 _).row (by omega) (by omega) (by simp) (H3.out.rest m hm _ fun _ => ⟨ba, off, rfl, rfl⟩) (fun x hx => by injection hx with hx; subst hx; exact h4 ⟨ba, off, none⟩ rfl)
  ·
   obtain rfl : m = len := by omega
   go_wp2_with fail
   all_goals
    go_ret
    refine ⟨_, _, _, rfl, ⟨hc1, hcm⟩, ?_, ?_, grown_trans (grown_below HB.out _) (grown_setCell _ _ _ _), hlow⟩
    ·
     rw [HM.out]; exact HI1.out.grown (grown_setCell _ _ _ _) hpa
    ·
     rw [HM.out]
     exact HR.out.set (grown_trans (grown_below HB.out _) (grown_setCell _ _ _ _)) ((At.base HROW.out).set 0 _).row (by omega) (by omega) (by simp) (by rw [show (bs.take m, bs.drop m, false).2.1 = [] from List.drop_of_length_le (by omega)]; exact IntsK.nil _ _ _) (by first | exact h4 | exact low_rest h4)
theorem textc_any (W0 w : World) (L p : Nat) (bs : List Int) (bad : Bool) (h : Rd W0 w L p 97 bs bad) :
  Calls Try.prog 62 #[.pointer (some ⟨p, 0, none⟩)] w fun e w' => ∃ a m cap, e = .returned (.slice a m cap) ∧ (m ≤ cap ∧ cap ≤ 9223372036854775807) ∧ IntsK .u8 w' a m (textM bs bad).1 ∧ Rd W0 w' L p 97 (textM bs bad).2.1 (textM bs bad).2.2 ∧ w.grownBy w' (some p) ∧ (∀ x, a = some x → w.heap.size ≤ x.block) := by
 have HV := Qh (var_any W0 w L p bs bad h)
 have hvi := varM_in bs bad h.bytes
 have ht : textM bs bad = if ((varM bs bad).2.1.length : Int) < (varM bs bad).1 then ([], [], true) else rdM (varM bs bad).2.1 (varM bs bad).2.2 (varM bs bad).1 := rfl
 clear h
 obtain ⟨⟨n, bs', bad'⟩, hv⟩ : ∃ r, varM bs bad = r := ⟨_, rfl⟩
 rw [hv] at HV hvi ht
 have HT := Qh ht
 clear hv ht
 simp only at hvi
 go_enter Try.func62, Try.ntmps62
 go_wp2_with fail
 refine Calls.mono HV.out ?_
 rintro e w' ⟨rfl, hR, hg⟩
 obtain ⟨a, len, cap, hr, h1, h2, h3, h4⟩ := hR.ex
 have c0 : w'.cell? ⟨p, 0, none⟩ = some (.slice a len cap) := row_cell hr 0 _ rfl
 have hl := h3.1
 have HR := Qh hR; have HG := Qh hg
 clear hR hg h3 hr HV
 have HT2 := HT.out
 have hl : bs'.length = len := hl
 have HT2 : textM bs bad = if (bs'.length : Int) < n then ([], [], true) else rdM bs' bad' n := HT2
 rw [hl] at HT2
 by_cases hlt : (len : Int) < n
 ·
  rw [if_pos hlt] at HT2
  replace HT2 := Qh HT2; clear HT
  go_wp2_with fail
  refine Calls.mono (fail_any W0 w' L p bs' bad' HR.out) ?_
  rintro e w2 ⟨rfl, hR2, hg2⟩
  have HR2 := Qh hR2; have HG2 := Qh hg2
  clear hR2 hg2
  go_wp2_with fail
  go_ret
  exact ⟨none, 0, 0, rfl, ⟨Nat.le_refl _, by omega⟩, by rw [HT2.out]; exact IntsK.nil _ _ _, by rw [HT2.out]; exact HR2.out, grown_trans HG.out HG2.out, by simp⟩
 ·
  rw [if_neg hlt] at HT2
  replace HT2 := Qh HT2; clear HT
  go_wp2_with fail
  refine Calls.mono (rawc_any W0 w' L p bs' bad' n (by omega) HR.out) ?_
  rintro e w2 ⟨a2, m2, cap2, rfl, hc2, hi2, hR2, hg2, hlo2⟩
  have HR2 := Qh hR2; have HG2 := Qh hg2; have HI2 := Qh hi2
  clear hR2 hg2 hi2
  go_wp2_with fail
  go_ret
  exact ⟨a2, m2, cap2, rfl, hc2, by rw [HT2.out]; exact HI2.out, by rw [HT2.out]; exact HR2.out, grown_trans HG.out HG2.out, fun x hx => Nat.le_trans HG.out.size (hlo2 x hx)⟩
end Go.Proofs.Ytmbjepcbokbemaa
namespace Go.Proofs.Ytmbjepcbokbemaa
open Go.RowKit
theorem grown_setRow (w : World) (g : Nat) (cs : Array Value) : w.grownBy (w.setRow g cs) (some g) :=
 ⟨rfl, rfl, rfl, by simp [World.setRow], fun i _ hr => setRow_other w g i cs (by intro e; exact hr (by rw [e]))⟩
theorem infoU8t : (Try.prog.info? 5).map (·.size) = some 1 := by kernel_rfl
theorem wp_copy_grown {P : Program} {w : World} {o : Oper} {a : Act} {K : Act → World → Prop} {Q : Exit → Act → World → Prop} (d s : Operand) (dT sT : TypeId)
  (ho : o.op = .call { callee := .builtin .copy, args := #[d, s], argTypes := #[dT, sT] }) (elem : TypeId) (hu : P.underlying dT = some (.slice elem)) (hsz : (P.info? elem).map (·.size) = some 1)
  (dp sp : Option Addr) (dLen dCap sLen sCap : Nat) (hd : a.eval d = .slice dp dLen dCap) (hs : a.eval s = .slice sp sLen sCap)
  (g off : Nat) (cur : List Value) (t : TypeId) (hg : w.heap[g]? = some (.cells cur.toArray t (0, 0))) (cs : List Value) (hn : cs.length = Nat.min sLen dLen)
  (hpos : 0 < cs.length → dp = some ⟨g, off, none⟩ ∧ ∃ ad, sp = some ad ∧ ∀ j v, cs[j]? = some v → w.cell? (ad.add j) = some v)
  (hfit : off + cs.length ≤ cur.length) (h1 : ∀ v ∈ cs, v.oneCell' = true)
  (h : ∀ w', w'.heap[g]? = some (.cells (splice cur off cs).toArray t (0, 0)) → w.grownBy w' (some g) → K (a.put o.dst (goInt cs.length)) w') :
  Oper.wp P o a w K Q := by
 by_cases h0 : cs.length = 0
 ·
  obtain rfl : cs = [] := List.eq_nil_of_length_eq_zero h0
  have hrun := run_copy_none (P := P) w dT sT o.type elem dp sp dLen dCap sLen sCap hu hsz (by simpa using hn.symm)
  unfold Oper.wp
  simp [execOp, ho, resolve, invoke, builtin, hd, hs, hrun, Result.andThen]
  exact h w (by simpa [splice] using hg) (grown_refl _ _)
 ·
  obtain ⟨rfl, ad, rfl, hsrc⟩ := hpos (by omega)
  have hrun := run_copy_row (P := P) w dT sT o.type elem g off dLen dCap ad sLen sCap cur.toArray t cs hu hsz hg hn hsrc (by simpa using hfit) h1
  unfold Oper.wp
  simp [execOp, ho, resolve, invoke, builtin, hd, hs, hrun, Result.andThen]
  exact h _ (by simpa [splice] using setRow_heap w g _ _ t _ hg) (grown_setRow _ _ _)
end Go.Proofs.Ytmbjepcbokbemaa
namespace Go.Proofs.Ytmbjepcbokbemaa
open Go.RowKit
theorem int_beq (x y : Int) : (x == y) = decide (x = y) := by rw [Bool.eq_iff_iff]; simp
theorem ints_copy {w : World} {a : Option Addr} {m : Nat} {xs : List Int} (h : IntsK .u8 w a m xs) (n : Nat) (hm : m ≤ n) :
  (xs.map (Value.int .u8)).length = Nat.min m n ∧ (0 < (xs.map (Value.int .u8)).length → ∃ ad, a = some ad ∧ ∀ j v, (xs.map (Value.int .u8))[j]? = some v → w.cell? (ad.add j) = some v) := by
 have hl := h.1
 refine ⟨by rw [List.length_map, hl]; exact (Nat.min_eq_left hm).symm, fun h0 => ?_⟩
 obtain ⟨ad, e, _, h2⟩ := h.src (by rw [List.length_map, hl] at h0; exact h0)
 exact ⟨ad, e, h2⟩
theorem Rd.grownG {W0 w w' : World} {L p g : Nat} {T : TypeId} {bs : List Int} {bad : Bool} (h : Rd W0 w L p T bs bad) (hg : w.grownBy w' (some g)) (h1 : g ≠ p) (h2 : W0.heap.size ≤ g) : Rd W0 w' L p T bs bad :=
 h.ch (fun i _ hi => hg.block i (by have := h.size; omega) (by intro e; injection e with e; omega)) (hg.block p h.lt (by intro e; injection e with e; exact h1 e.symm))
theorem Ch.byP {w w' w2 : World} {p : Nat} {q : Option Nat} (h : Ch w w' p q) (hg : w'.grownBy w2 (some p)) : Ch w w2 p q :=
 ⟨hg.os.trans h.os, hg.tape.trans h.tape, hg.output.trans h.output, Nat.le_trans h.size hg.size, fun i hi h1 h2 => (hg.block i (Nat.lt_of_lt_of_le hi h.size) (by intro e; injection e with e; exact h1 e)).trans (h.block i hi h1 h2)⟩
theorem Ch.byQ {w w' w2 : World} {p g : Nat} (h : Ch w w' p (some g)) (hg : w'.grownBy w2 (some g)) : Ch w w2 p (some g) :=
 ⟨hg.os.trans h.os, hg.tape.trans h.tape, hg.output.trans h.output, Nat.le_trans h.size hg.size, fun i hi h1 h2 => (hg.block i (Nat.lt_of_lt_of_le hi h.size) (by intro e; exact h2 e.symm)).trans (h.block i hi h1 h2)⟩
theorem Ch.both {w w' w2 : World} {p : Nat} {q : Option Nat} (h : Ch w w' p q) (k : Ch w' w2 p q) : Ch w w2 p q :=
 ⟨k.os.trans h.os, k.tape.trans h.tape, k.output.trans h.output, Nat.le_trans h.size k.size, fun i hi h1 h2 => (k.block i (Nat.lt_of_lt_of_le hi h.size) h1 h2).trans (h.block i hi h1 h2)⟩
def FrLo (B : Nat) (dv rv : Value) : Prop := (∀ a n c, dv = .slice (some a) n c → B ≤ a.block) ∧ ∀ a n c, rv = .slice (some a) n c → B ≤ a.block
theorem FrLo.nil (B : Nat) : FrLo B (.slice none 0 0) (.slice none 0 0) := ⟨fun a n c h => (by injection h with h; cases h), fun a n c h => (by injection h with h; cases h)⟩
theorem FrLo.text {B n c : Nat} {a : Option Addr} (h : ∀ x, a = some x → B ≤ x.block) : FrLo B (.slice a n c) (.slice none 0 0) := ⟨fun x m k e => by injection e with e; exact h x e, fun a n c h => (by injection h with h; cases h)⟩
theorem FrLo.own {w : World} {B e s n : Nat} {v : Value} {xs : List Value} (h : w.ownsRow B e s v n xs) : FrLo B (.slice none 0 0) v := ⟨fun a n c h => (by injection h with h; cases h), fun a n c e => own_base h a.block (by rw [e]; rfl)⟩
def TakeU (W0 w : World) (L p gf : Nat) (q : Option Fr × List Int × Bool) (w' : World) : Prop := ∃ F dv rv, (∀ F', q.1 = some F' → F' = F) ∧ Rd W0 w' L p 97 q.2.1 q.2.2 ∧ w'.heap[gf]? = some (.cells (F.cells dv rv).toArray 39 (0, 0)) ∧ FrAt w' F dv rv ∧ Ch w w' p (some gf) ∧ FrLo w.heap.size dv rv
def TakeR (W0 w : World) (L p gf : Nat) (q : Option Fr × List Int × Bool) (e : Ending) (w' : World) : Prop := e = .returned (.bool q.1.isSome) ∧ TakeU W0 w L p gf q w'
theorem FrAt.bare {w : World} {F : Fr} (hw : F.Wf) (hd : F.data = []) (hr : F.rg = []) : FrAt w F (.slice none 0 0) (.slice none 0 0) :=
 ⟨hw, ⟨none, 0, 0, rfl, Nat.le_refl _, by omega, by rw [hd]; exact IntsK.nil _ _ _⟩, ⟨none, 0, 0, rfl, Nat.le_refl _, by omega, by rw [hr]; exact RK.At.nil _ _⟩⟩
theorem FrAt.text {w : World} {F : Fr} {a : Option Addr} {n c : Nat} (hw : F.Wf) (hc : n ≤ c ∧ c ≤ 9223372036854775807) (hI : IntsK .u8 w a n F.data) (hr : F.rg = []) : FrAt w F (.slice a n c) (.slice none 0 0) :=
 ⟨hw, ⟨a, n, c, rfl, hc.1, hc.2, hI⟩, ⟨none, 0, 0, rfl, Nat.le_refl _, by omega, by rw [hr]; exact RK.At.nil _ _⟩⟩
theorem zero_wf (k : Int) (hk : -9223372036854775808 ≤ k ∧ k ≤ 9223372036854775807) : (zeroF k).Wf := (FrAt.zero (default : World) k hk).wf
theorem u64_of {n : Int} (h : 0 ≤ n ∧ n ≤ 4611686018427387903) : U64 n := ⟨h.1, by omega⟩
theorem rd8 (bs : List Int) (bad : Bool) : ((rdM bs bad 8).2.2 = true ∧ (rdM bs bad 8).1 = []) ∨ ((rdM bs bad 8).2.2 = false ∧ (rdM bs bad 8).1.length = 8) := by
 by_cases h : bad = true ∨ (8 : Int) < 0 ∨ (bs.length : Int) < 8
 ·
  rw [rdM_bad h]; exact .inl ⟨rfl, rfl⟩
 ·
  have hb : bad = false := by cases bad <;> simp_all
  subst hb
  have h8 : 8 ≤ bs.length := by omega
  have := rdM_ok (bs := bs) (n := 8) h8
  rw [show ((8 : Nat) : Int) = 8 from rfl] at this
  rw [this]
  exact .inr ⟨rfl, by rw [List.length_take]; omega⟩
theorem name_len (bs : List Int) (bad : Bool) : (nameR bs bad).1.length = 8 := by
 unfold nameR
 rcases rd8 bs bad with ⟨h1, h2⟩ | ⟨h1, h2⟩
 ·
  simp only [h1, if_true]; rfl
 ·
  simp only [h1]; exact h2
theorem name_wf {bs : List Int} (bad : Bool) (h : ∀ x ∈ bs, 0 ≤ x ∧ x ≤ 255) : ∀ x ∈ (nameR bs bad).1, (Lit.int .u8 x).wf = true := by
 intro x hx
 unfold nameR at hx
 have hz : (Lit.int .u8 0).wf = true := rfl
 simp only at hx
 split at hx
 ·
  simp at hx; rw [hx]; rfl
 ·
  have hm : x ∈ bs := by
   unfold rdM at hx
   split at hx
   ·
    cases hx
   ·
    exact List.mem_of_mem_take hx
  obtain ⟨h1, h2⟩ := h x hm
  simp [Lit.wf, IntKind.min, IntKind.max, IntKind.signed, IntKind.bits]; omega
theorem splice_cid (F : Fr) (dv rv : Value) (hz : F.cid = [0, 0, 0, 0, 0, 0, 0, 0]) (bs : List Int) (bad : Bool) :
  splice (F.cells dv rv) 11 ((rdM bs bad 8).1.map (Value.int .u8)) = ({ F with cid := (nameR bs bad).1 } : Fr).cells dv rv := by
 unfold nameR
 rcases rd8 bs bad with ⟨h1, h2⟩ | ⟨h1, h2⟩
 ·
  simp only [h1, if_true, h2]
  unfold splice Fr.cells
  rw [hz]; rfl
 ·
  simp only [h1]
  generalize (rdM bs bad 8).1 = c at h2
  unfold splice Fr.cells
  rw [hz, List.length_map, h2]
  simp
theorem rd8_le (bs : List Int) (bad : Bool) : (rdM bs bad 8).1.length ≤ 8 := by
 rcases rd8 bs bad with ⟨h1, h2⟩ | ⟨h1, h2⟩
 ·
  rw [h2]; simp
 ·
  omega
theorem take4_name19 {x2 x3 x4 x5 x6 x7 x8 x9 x10 x11 x12 x13 x14 x15 x16 x17 x18 x19 x20 x21 x22 x23 x24 x25 x26 x27 x28 x29 x30 x31 x32 x33 x34 x35 x36 x37 x38 x39 x40 x41 x42 x43 x44 x45 x46 x47 x48 x49 x50 x51 x52 x53 x54 x55 x56 x57 x58 x59 x60 x61 x62 x63 x64 x65 x66 x67 x68 x69 x70 x71 x72 x73 x74 x75 x76 x77 x78 x79 x80 x81 x82 x83 x84 x85 x86 x87 x88 x89 x90 x91 x92 x93 x94 x95 x96 x97 x98 x99 x100 x101 x102 x103 x104 x105 x106 x107 x108 x109 x110 x111 x112 x113 x114 x115 x116 x117 x118 x119 x120 x121 x122 x123 x124 x125 x126 x127 x128 : Value} {W0 : World} {L p gf : Nat} {bs : List Int} {bad : Bool} {cur : List Value} (w : World) {Q : Exit → Act → World → Prop}
  (HR : Hid (Rd W0 w L p 97 bs bad)) (HF : Hid (w.heap[gf]? = some (.cells cur.toArray 39 (0, 0)))) (hgp : gf ≠ p) (hgW : W0.heap.size ≤ gf) (hlen : cur.length = 19)
  (hQp : ∀ c a d v w, Q (.panic c) (a.put d v) w → Q (.panic c) a w)
  (hQ : ∀ (y92 y93 y94 y95 y96 y97 y98 : Value) (w' : World), Hid (Rd W0 w' L p 97 (rdM bs bad 8).2.1 (rdM bs bad 8).2.2) → Hid (w'.heap[gf]? = some (.cells (splice cur 11 ((rdM bs bad 8).1.map (Value.int .u8))).toArray 39 (0, 0))) → Hid (Ch w w' p (some gf)) → Q .normal ⟨List.toArray (.pointer (some ⟨p, 0, none⟩) :: .pointer (some ⟨gf, 0, none⟩) :: x2 :: x3 :: x4 :: x5 :: x6 :: x7 :: x8 :: x9 :: x10 :: x11 :: x12 :: x13 :: x14 :: x15 :: x16 :: x17 :: x18 :: x19 :: x20 :: x21 :: x22 :: x23 :: x24 :: x25 :: x26 :: x27 :: x28 :: x29 :: x30 :: x31 :: x32 :: x33 :: x34 :: x35 :: x36 :: x37 :: x38 :: x39 :: x40 :: x41 :: x42 :: x43 :: x44 :: x45 :: x46 :: x47 :: x48 :: x49 :: x50 :: x51 :: x52 :: x53 :: x54 :: x55 :: x56 :: x57 :: x58 :: x59 :: x60 :: x61 :: x62 :: x63 :: x64 :: x65 :: x66 :: x67 :: x68 :: x69 :: x70 :: x71 :: x72 :: x73 :: x74 :: x75 :: x76 :: x77 :: x78 :: x79 :: x80 :: x81 :: x82 :: x83 :: x84 :: x85 :: x86 :: x87 :: x88 :: x89 :: x90 :: x91 :: y92 :: y93 :: y94 :: y95 :: y96 :: y97 :: y98 :: x99 :: x100 :: x101 :: x102 :: x103 :: x104 :: x105 :: x106 :: x107 :: x108 :: x109 :: x110 :: x111 :: x112 :: x113 :: x114 :: x115 :: x116 :: x117 :: x118 :: x119 :: x120 :: x121 :: x122 :: x123 :: x124 :: x125 :: x126 :: x127 :: x128 :: []), []⟩ w') :
  Code.wp Try.prog (((Try.f34.body.bind (subRegion 19)).getD .skip)) Q ⟨List.toArray (.pointer (some ⟨p, 0, none⟩) :: .pointer (some ⟨gf, 0, none⟩) :: x2 :: x3 :: x4 :: x5 :: x6 :: x7 :: x8 :: x9 :: x10 :: x11 :: x12 :: x13 :: x14 :: x15 :: x16 :: x17 :: x18 :: x19 :: x20 :: x21 :: x22 :: x23 :: x24 :: x25 :: x26 :: x27 :: x28 :: x29 :: x30 :: x31 :: x32 :: x33 :: x34 :: x35 :: x36 :: x37 :: x38 :: x39 :: x40 :: x41 :: x42 :: x43 :: x44 :: x45 :: x46 :: x47 :: x48 :: x49 :: x50 :: x51 :: x52 :: x53 :: x54 :: x55 :: x56 :: x57 :: x58 :: x59 :: x60 :: x61 :: x62 :: x63 :: x64 :: x65 :: x66 :: x67 :: x68 :: x69 :: x70 :: x71 :: x72 :: x73 :: x74 :: x75 :: x76 :: x77 :: x78 :: x79 :: x80 :: x81 :: x82 :: x83 :: x84 :: x85 :: x86 :: x87 :: x88 :: x89 :: x90 :: x91 :: x92 :: x93 :: x94 :: x95 :: x96 :: x97 :: x98 :: x99 :: x100 :: x101 :: x102 :: x103 :: x104 :: x105 :: x106 :: x107 :: x108 :: x109 :: x110 :: x111 :: x112 :: x113 :: x114 :: x115 :: x116 :: x117 :: x118 :: x119 :: x120 :: x121 :: x122 :: x123 :: x124 :: x125 :: x126 :: x127 :: x128 :: []), []⟩ w := by
 have HK := Qh hQ; have HKP := Qh hQp
 clear hQ hQp
 conv => arg 2; whnf
 have hyl := rd8_le bs bad
 obtain ⟨⟨y1, y2, y3⟩, hy⟩ : ∃ r, rdM bs bad 8 = r := ⟨_, rfl⟩
 rw [hy] at HK hyl
 have HY := Qh hy; have HYL := Qh hyl
 clear hy hyl
 refine wp_plan (.t 0 (.t 1 (.t 2 (.t 3 (.t 4 (.u 5 (.u 6 .done))))))) (fun y => True) (by kernel_rfl) (by kernel_rfl) (by kernel_rfl) (fun c a d v w h => by first | (cases d <;> exact h) | exact HKP.out c a d v w h) trivial ?_
 haveI hne : Nonempty (In fun y => True) := ⟨⟨w, trivial⟩⟩
 have HC2 := Qh ((Ch.refl w p (some gf)).byP (grown_drew w (some p)))
 have HRD2 := Qh (HR.out.to (Below.refl _ _).drew)
 have HR2 : Hid (w.drew.heap[gf]? = some (.cells cur.toArray 39 (0, 0))) := HF
 generalize w.drew = wa at HC2 HRD2 HR2 ⊢
 repeat (refine plan_t (by rfl) ?_; (first | go_big_quiet_skip | (go_big_quiet_want; go_big_quiet_op; go_big_quiet_on)); refine wpQuiet_nil ?_)
 refine plan_us (by rfl) (by kernel_rfl) ?_
 intro K hK
 go_wp2_with fail
 have hb := rawc_any W0 wa L p bs bad 8 (by omega) HRD2.out
 rw [HY.out] at hb
 refine Calls.mono hb ?_
 clear hb
 rintro e w2 ⟨a, m, cap, rfl, hm, hI, hR, hg1, hlo⟩
 have HR3 := Qh (grown_row hg1 (by intro e; injection e with e; exact hgp e) HR2.out)
 have HC3 := Qh (HC2.out.byP hg1)
 have HRD3 := Qh hR
 have hm8 : m ≤ 8 := by have h1 : y1.length = m := hI.1; have := HYL.out; omega
 have HCP := Qh (ints_copy hI 8 hm8)
 have HFIT : Hid (11 + (y1.map (Value.int .u8)).length ≤ cur.length) := Qh (by rw [List.length_map]; have := HYL.out; omega)
 clear hR hg1 hI hlo HR2 HC2 HRD2 hm
 go_wp2_with fail
 refine ⟨trivial, ?_⟩
 refine plan_us (by rfl) (by kernel_rfl) ?_
 intro K hK
 refine wp_copy_grown _ _ 25 25 rfl 5 Try.underlying25 infoU8t _ _ _ _ _ _ rfl rfl gf 11 cur 39 HR3.out (y1.map (Value.int .u8)) HCP.out.1 (fun h => ⟨rfl, HCP.out.2 h⟩) HFIT.out ints_one ?_
 intro w3 HR4 hg2
 have HRD4 := Qh (HRD3.out.grownG hg2 hgp hgW)
 have HC4 := Qh (HC3.out.byQ hg2)
 replace HR4 := Qh HR4
 refine hK _ _ ⟨trivial, ?_⟩
 clear hK hg2 hne HCP HFIT
 show Q _ _ _
 simp only [Act.put, List.setIfInBounds_toArray, List.set_cons_succ, List.set_cons_zero]
 exact HK.out _ _ _ _ _ _ _ w3 HRD4 HR4 HC4
theorem take4_name25 {x2 x3 x4 x5 x6 x7 x8 x9 x10 x11 x12 x13 x14 x15 x16 x17 x18 x19 x20 x21 x22 x23 x24 x25 x26 x27 x28 x29 x30 x31 x32 x33 x34 x35 x36 x37 x38 x39 x40 x41 x42 x43 x44 x45 x46 x47 x48 x49 x50 x51 x52 x53 x54 x55 x56 x57 x58 x59 x60 x61 x62 x63 x64 x65 x66 x67 x68 x69 x70 x71 x72 x73 x74 x75 x76 x77 x78 x79 x80 x81 x82 x83 x84 x85 x86 x87 x88 x89 x90 x91 x92 x93 x94 x95 x96 x97 x98 x99 x100 x101 x102 x103 x104 x105 x106 x107 x108 x109 x110 x111 x112 x113 x114 x115 x116 x117 x118 x119 x120 x121 x122 x123 x124 x125 x126 x127 x128 : Value} {W0 : World} {L p gf : Nat} {bs : List Int} {bad : Bool} {cur : List Value} (w : World) {Q : Exit → Act → World → Prop}
  (HR : Hid (Rd W0 w L p 97 bs bad)) (HF : Hid (w.heap[gf]? = some (.cells cur.toArray 39 (0, 0)))) (hgp : gf ≠ p) (hgW : W0.heap.size ≤ gf) (hlen : cur.length = 19)
  (hQp : ∀ c a d v w, Q (.panic c) (a.put d v) w → Q (.panic c) a w)
  (hQ : ∀ (y110 y111 y112 y113 y114 y115 y116 : Value) (w' : World), Hid (Rd W0 w' L p 97 (rdM bs bad 8).2.1 (rdM bs bad 8).2.2) → Hid (w'.heap[gf]? = some (.cells (splice cur 11 ((rdM bs bad 8).1.map (Value.int .u8))).toArray 39 (0, 0))) → Hid (Ch w w' p (some gf)) → Q .normal ⟨List.toArray (.pointer (some ⟨p, 0, none⟩) :: .pointer (some ⟨gf, 0, none⟩) :: x2 :: x3 :: x4 :: x5 :: x6 :: x7 :: x8 :: x9 :: x10 :: x11 :: x12 :: x13 :: x14 :: x15 :: x16 :: x17 :: x18 :: x19 :: x20 :: x21 :: x22 :: x23 :: x24 :: x25 :: x26 :: x27 :: x28 :: x29 :: x30 :: x31 :: x32 :: x33 :: x34 :: x35 :: x36 :: x37 :: x38 :: x39 :: x40 :: x41 :: x42 :: x43 :: x44 :: x45 :: x46 :: x47 :: x48 :: x49 :: x50 :: x51 :: x52 :: x53 :: x54 :: x55 :: x56 :: x57 :: x58 :: x59 :: x60 :: x61 :: x62 :: x63 :: x64 :: x65 :: x66 :: x67 :: x68 :: x69 :: x70 :: x71 :: x72 :: x73 :: x74 :: x75 :: x76 :: x77 :: x78 :: x79 :: x80 :: x81 :: x82 :: x83 :: x84 :: x85 :: x86 :: x87 :: x88 :: x89 :: x90 :: x91 :: x92 :: x93 :: x94 :: x95 :: x96 :: x97 :: x98 :: x99 :: x100 :: x101 :: x102 :: x103 :: x104 :: x105 :: x106 :: x107 :: x108 :: x109 :: y110 :: y111 :: y112 :: y113 :: y114 :: y115 :: y116 :: x117 :: x118 :: x119 :: x120 :: x121 :: x122 :: x123 :: x124 :: x125 :: x126 :: x127 :: x128 :: []), []⟩ w') :
  Code.wp Try.prog (((Try.f34.body.bind (subRegion 25)).getD .skip)) Q ⟨List.toArray (.pointer (some ⟨p, 0, none⟩) :: .pointer (some ⟨gf, 0, none⟩) :: x2 :: x3 :: x4 :: x5 :: x6 :: x7 :: x8 :: x9 :: x10 :: x11 :: x12 :: x13 :: x14 :: x15 :: x16 :: x17 :: x18 :: x19 :: x20 :: x21 :: x22 :: x23 :: x24 :: x25 :: x26 :: x27 :: x28 :: x29 :: x30 :: x31 :: x32 :: x33 :: x34 :: x35 :: x36 :: x37 :: x38 :: x39 :: x40 :: x41 :: x42 :: x43 :: x44 :: x45 :: x46 :: x47 :: x48 :: x49 :: x50 :: x51 :: x52 :: x53 :: x54 :: x55 :: x56 :: x57 :: x58 :: x59 :: x60 :: x61 :: x62 :: x63 :: x64 :: x65 :: x66 :: x67 :: x68 :: x69 :: x70 :: x71 :: x72 :: x73 :: x74 :: x75 :: x76 :: x77 :: x78 :: x79 :: x80 :: x81 :: x82 :: x83 :: x84 :: x85 :: x86 :: x87 :: x88 :: x89 :: x90 :: x91 :: x92 :: x93 :: x94 :: x95 :: x96 :: x97 :: x98 :: x99 :: x100 :: x101 :: x102 :: x103 :: x104 :: x105 :: x106 :: x107 :: x108 :: x109 :: x110 :: x111 :: x112 :: x113 :: x114 :: x115 :: x116 :: x117 :: x118 :: x119 :: x120 :: x121 :: x122 :: x123 :: x124 :: x125 :: x126 :: x127 :: x128 :: []), []⟩ w := by
 have HK := Qh hQ; have HKP := Qh hQp
 clear hQ hQp
 conv => arg 2; whnf
 have hyl := rd8_le bs bad
 obtain ⟨⟨y1, y2, y3⟩, hy⟩ : ∃ r, rdM bs bad 8 = r := ⟨_, rfl⟩
 rw [hy] at HK hyl
 have HY := Qh hy; have HYL := Qh hyl
 clear hy hyl
 refine wp_plan (.t 0 (.t 1 (.t 2 (.t 3 (.t 4 (.u 5 (.u 6 .done))))))) (fun y => True) (by kernel_rfl) (by kernel_rfl) (by kernel_rfl) (fun c a d v w h => by first | (cases d <;> exact h) | exact HKP.out c a d v w h) trivial ?_
 haveI hne : Nonempty (In fun y => True) := ⟨⟨w, trivial⟩⟩
 have HC2 := Qh ((Ch.refl w p (some gf)).byP (grown_drew w (some p)))
 have HRD2 := Qh (HR.out.to (Below.refl _ _).drew)
 have HR2 : Hid (w.drew.heap[gf]? = some (.cells cur.toArray 39 (0, 0))) := HF
 generalize w.drew = wa at HC2 HRD2 HR2 ⊢
 repeat (refine plan_t (by rfl) ?_; (first | go_big_quiet_skip | (go_big_quiet_want; go_big_quiet_op; go_big_quiet_on)); refine wpQuiet_nil ?_)
 refine plan_us (by rfl) (by kernel_rfl) ?_
 intro K hK
 go_wp2_with fail
 have hb := rawc_any W0 wa L p bs bad 8 (by omega) HRD2.out
 rw [HY.out] at hb
 refine Calls.mono hb ?_
 clear hb
 rintro e w2 ⟨a, m, cap, rfl, hm, hI, hR, hg1, hlo⟩
 have HR3 := Qh (grown_row hg1 (by intro e; injection e with e; exact hgp e) HR2.out)
 have HC3 := Qh (HC2.out.byP hg1)
 have HRD3 := Qh hR
 have hm8 : m ≤ 8 := by have h1 : y1.length = m := hI.1; have := HYL.out; omega
 have HCP := Qh (ints_copy hI 8 hm8)
 have HFIT : Hid (11 + (y1.map (Value.int .u8)).length ≤ cur.length) := Qh (by rw [List.length_map]; have := HYL.out; omega)
 clear hR hg1 hI hlo HR2 HC2 HRD2 hm
 go_wp2_with fail
 refine ⟨trivial, ?_⟩
 refine plan_us (by rfl) (by kernel_rfl) ?_
 intro K hK
 refine wp_copy_grown _ _ 25 25 rfl 5 Try.underlying25 infoU8t _ _ _ _ _ _ rfl rfl gf 11 cur 39 HR3.out (y1.map (Value.int .u8)) HCP.out.1 (fun h => ⟨rfl, HCP.out.2 h⟩) HFIT.out ints_one ?_
 intro w3 HR4 hg2
 have HRD4 := Qh (HRD3.out.grownG hg2 hgp hgW)
 have HC4 := Qh (HC3.out.byQ hg2)
 replace HR4 := Qh HR4
 refine hK _ _ ⟨trivial, ?_⟩
 clear hK hg2 hne HCP HFIT
 show Q _ _ _
 simp only [Act.put, List.setIfInBounds_toArray, List.set_cons_succ, List.set_cons_zero]
 exact HK.out _ _ _ _ _ _ _ w3 HRD4 HR4 HC4
theorem take4_4 (W0 w : World) (L p gf : Nat) (bs : List Int) (bad : Bool) (h : Rd W0 w L p 97 bs bad) (hF : w.heap[gf]? = some (.cells ((zeroF 4).cells (.slice none 0 0) (.slice none 0 0)).toArray 39 (0, 0))) (hgp : gf ≠ p) (hgW : W0.heap.size ≤ gf) :
  Calls Try.prog 34 #[.pointer (some ⟨p, 0, none⟩), .pointer (some ⟨gf, 0, none⟩)] w (TakeR W0 w L p gf (takeR 4 bs bad)) := by
 obtain ⟨⟨x1, b1, d1⟩, hx1⟩ : ∃ r, varM bs bad = r := ⟨_, rfl⟩
 obtain ⟨⟨x2, b2, d2⟩, hx2⟩ : ∃ r, varM b1 d1 = r := ⟨_, rfl⟩
 obtain ⟨⟨x3, b3, d3⟩, hx3⟩ : ∃ r, varM b2 d2 = r := ⟨_, rfl⟩
 have hq : takeR 4 bs bad = (some ({ zeroF 4 with st := x1, co := x2, fi := x3 } : Fr), b3, d3) := by simp [takeR, bnd, ret, hx1, hx2, hx3]
 rw [hq]
 clear hq
 have HR := Qh h
 have HF := Qh hF
 have HC := Qh (Ch.refl w p (some gf))
 clear h hF
 have HX1 := Qh hx1
 have HX2 := Qh hx2
 have HX3 := Qh hx3
 clear hx1 hx2 hx3
 go_enter Try.func34, Try.ntmps34
 have c0 := row_cell HF.out 0 (.int .i64 4) rfl
 have hb := var_any W0 w L p bs bad HR.out
 rw [HX1.out] at hb
 have hu1 := varM_in bs bad HR.out.bytes
 rw [HX1.out] at hu1
 have HU1 := Qh (u64_of hu1)
 clear hu1
 have HCL := Qh hb
 clear hb
 go_wp2_with fail
 refine Calls.mono HCL.out ?_
 rintro e w1 ⟨rfl, hR, hg⟩
 replace HR := Qh hR
 replace HF := Qh (grown_row hg (by intro e; injection e with e; exact hgp e) HF.out)
 replace HC := Qh (HC.out.byP hg)
 clear hR hg HCL c0
 have hb := var_any W0 w1 L p b1 d1 HR.out
 rw [HX2.out] at hb
 have hu2 := varM_in b1 d1 HR.out.bytes
 rw [HX2.out] at hu2
 have HU2 := Qh (u64_of hu2)
 clear hu2
 have HCL := Qh hb
 clear hb
 go_wp2_with fail
 refine Calls.mono HCL.out ?_
 rintro e w2 ⟨rfl, hR, hg⟩
 replace HR := Qh hR
 replace HF := Qh (grown_row hg (by intro e; injection e with e; exact hgp e) HF.out)
 replace HC := Qh (HC.out.byP hg)
 clear hR hg HCL
 have hb := var_any W0 w2 L p b2 d2 HR.out
 rw [HX3.out] at hb
 have hu3 := varM_in b2 d2 HR.out.bytes
 rw [HX3.out] at hu3
 have HU3 := Qh (u64_of hu3)
 clear hu3
 have HCL := Qh hb
 clear hb
 go_wp2_with fail
 refine Calls.mono HCL.out ?_
 rintro e w3 ⟨rfl, hR, hg⟩
 replace HR := Qh hR
 replace HF := Qh (grown_row hg (by intro e; injection e with e; exact hgp e) HF.out)
 replace HC := Qh (HC.out.byP hg)
 clear hR hg HCL
 have c_st := row_cell HF.out 1 _ rfl
 have f_st := row_free HF.out 1
 have c_co := row_cell HF.out 6 _ rfl
 have f_co := row_free HF.out 6
 have c_fi := row_cell HF.out 7 _ rfl
 have f_fi := row_free HF.out 7
 have hat := ((((At.base HF.out).set 1 (.int .u64 x1)).set 6 (.int .u64 x2)).set 7 (.int .u64 x3)).conv (cs' := (({ zeroF 4 with st := x1, co := x2, fi := x3 } : Fr).cells (.slice none 0 0) (.slice none 0 0)).toArray) (by rfl)
 have HAT := Qh hat
 clear hat
 go_wp2_with fail
 go_ret
 have hz := zero_wf 4 (by omega)
 have hwf : ({ zeroF 4 with st := x1, co := x2, fi := x3 } : Fr).Wf := ⟨hz.kind, HU1.out, hz.of_, hz.li, HU2.out, HU3.out, hz.se, hz.de, hz.cidl, hz.cid⟩
 exact ⟨rfl, ({ zeroF 4 with st := x1, co := x2, fi := x3 } : Fr), (.slice none 0 0), (.slice none 0 0), fun F' h9 => (Option.some.inj h9).symm, HR.out.grownG HAT.out.rest hgp hgW, HAT.out.row, (FrAt.bare hwf rfl rfl), HC.out.byQ HAT.out.rest, FrLo.nil _⟩
theorem take4_5 (W0 w : World) (L p gf : Nat) (bs : List Int) (bad : Bool) (h : Rd W0 w L p 97 bs bad) (hF : w.heap[gf]? = some (.cells ((zeroF 5).cells (.slice none 0 0) (.slice none 0 0)).toArray 39 (0, 0))) (hgp : gf ≠ p) (hgW : W0.heap.size ≤ gf) :
  Calls Try.prog 34 #[.pointer (some ⟨p, 0, none⟩), .pointer (some ⟨gf, 0, none⟩)] w (TakeR W0 w L p gf (takeR 5 bs bad)) := by
 obtain ⟨⟨x1, b1, d1⟩, hx1⟩ : ∃ r, varM bs bad = r := ⟨_, rfl⟩
 obtain ⟨⟨x2, b2, d2⟩, hx2⟩ : ∃ r, varM b1 d1 = r := ⟨_, rfl⟩
 have hq : takeR 5 bs bad = (some ({ zeroF 5 with st := x1, co := x2 } : Fr), b2, d2) := by simp [takeR, bnd, ret, hx1, hx2]
 rw [hq]
 clear hq
 have HR := Qh h
 have HF := Qh hF
 have HC := Qh (Ch.refl w p (some gf))
 clear h hF
 have HX1 := Qh hx1
 have HX2 := Qh hx2
 clear hx1 hx2
 go_enter Try.func34, Try.ntmps34
 have c0 := row_cell HF.out 0 (.int .i64 5) rfl
 have hb := var_any W0 w L p bs bad HR.out
 rw [HX1.out] at hb
 have hu1 := varM_in bs bad HR.out.bytes
 rw [HX1.out] at hu1
 have HU1 := Qh (u64_of hu1)
 clear hu1
 have HCL := Qh hb
 clear hb
 go_wp2_with fail
 refine Calls.mono HCL.out ?_
 rintro e w1 ⟨rfl, hR, hg⟩
 replace HR := Qh hR
 replace HF := Qh (grown_row hg (by intro e; injection e with e; exact hgp e) HF.out)
 replace HC := Qh (HC.out.byP hg)
 clear hR hg HCL c0
 have hb := var_any W0 w1 L p b1 d1 HR.out
 rw [HX2.out] at hb
 have hu2 := varM_in b1 d1 HR.out.bytes
 rw [HX2.out] at hu2
 have HU2 := Qh (u64_of hu2)
 clear hu2
 have HCL := Qh hb
 clear hb
 go_wp2_with fail
 refine Calls.mono HCL.out ?_
 rintro e w2 ⟨rfl, hR, hg⟩
 replace HR := Qh hR
 replace HF := Qh (grown_row hg (by intro e; injection e with e; exact hgp e) HF.out)
 replace HC := Qh (HC.out.byP hg)
 clear hR hg HCL
 have c_st := row_cell HF.out 1 _ rfl
 have f_st := row_free HF.out 1
 have c_co := row_cell HF.out 6 _ rfl
 have f_co := row_free HF.out 6
 have hat := (((At.base HF.out).set 1 (.int .u64 x1)).set 6 (.int .u64 x2)).conv (cs' := (({ zeroF 5 with st := x1, co := x2 } : Fr).cells (.slice none 0 0) (.slice none 0 0)).toArray) (by rfl)
 have HAT := Qh hat
 clear hat
 go_wp2_with fail
 go_ret
 have hz := zero_wf 5 (by omega)
 have hwf : ({ zeroF 5 with st := x1, co := x2 } : Fr).Wf := ⟨hz.kind, HU1.out, hz.of_, hz.li, HU2.out, hz.fi, hz.se, hz.de, hz.cidl, hz.cid⟩
 exact ⟨rfl, ({ zeroF 5 with st := x1, co := x2 } : Fr), (.slice none 0 0), (.slice none 0 0), fun F' h9 => (Option.some.inj h9).symm, HR.out.grownG HAT.out.rest hgp hgW, HAT.out.row, (FrAt.bare hwf rfl rfl), HC.out.byQ HAT.out.rest, FrLo.nil _⟩
theorem take4_6 (W0 w : World) (L p gf : Nat) (bs : List Int) (bad : Bool) (h : Rd W0 w L p 97 bs bad) (hF : w.heap[gf]? = some (.cells ((zeroF 6).cells (.slice none 0 0) (.slice none 0 0)).toArray 39 (0, 0))) (hgp : gf ≠ p) (hgW : W0.heap.size ≤ gf) :
  Calls Try.prog 34 #[.pointer (some ⟨p, 0, none⟩), .pointer (some ⟨gf, 0, none⟩)] w (TakeR W0 w L p gf (takeR 6 bs bad)) := by
 obtain ⟨⟨x1, b1, d1⟩, hx1⟩ : ∃ r, varM bs bad = r := ⟨_, rfl⟩
 obtain ⟨⟨x2, b2, d2⟩, hx2⟩ : ∃ r, textM b1 d1 = r := ⟨_, rfl⟩
 have hq : takeR 6 bs bad = (some ({ zeroF 6 with of_ := x1, data := x2 } : Fr), b2, d2) := by simp [takeR, bnd, ret, hx1, hx2]
 rw [hq]
 clear hq
 have HR := Qh h
 have HF := Qh hF
 have HC := Qh (Ch.refl w p (some gf))
 clear h hF
 have HX1 := Qh hx1
 have HX2 := Qh hx2
 clear hx1 hx2
 go_enter Try.func34, Try.ntmps34
 have c0 := row_cell HF.out 0 (.int .i64 6) rfl
 have hb := var_any W0 w L p bs bad HR.out
 rw [HX1.out] at hb
 have hu1 := varM_in bs bad HR.out.bytes
 rw [HX1.out] at hu1
 have HU1 := Qh (u64_of hu1)
 clear hu1
 have HCL := Qh hb
 clear hb
 go_wp2_with fail
 refine Calls.mono HCL.out ?_
 rintro e w1 ⟨rfl, hR, hg⟩
 replace HR := Qh hR
 replace HF := Qh (grown_row hg (by intro e; injection e with e; exact hgp e) HF.out)
 replace HC := Qh (HC.out.byP hg)
 clear hR hg HCL c0
 have hb := textc_any W0 w1 L p b1 d1 HR.out
 rw [HX2.out] at hb
 have HCL := Qh hb
 clear hb
 go_wp2_with fail
 refine Calls.mono HCL.out ?_
 rintro e w2 ⟨da, dn, dc, rfl, hdc, hI, hR, hg, hlo⟩
 have HI := Qh hI; have HLO : Hid (∀ x, da = some x → some x.block ≠ some gf) := Qh (fun x hx e => by injection e with e; have := hlo x hx; have := lt_of_block HF.out; omega)
 have HDC := Qh hdc
 have HLB : Hid (∀ x, da = some x → w.heap.size ≤ x.block) := Qh (fun x hx => Nat.le_trans HC.out.size (hlo x hx))
 clear hI hlo hdc
 replace HR := Qh hR
 replace HF := Qh (grown_row hg (by intro e; injection e with e; exact hgp e) HF.out)
 replace HC := Qh (HC.out.byP hg)
 clear hR hg HCL
 have c_of_ := row_cell HF.out 2 _ rfl
 have f_of_ := row_free HF.out 2
 have c_data := row_cell HF.out 3 _ rfl
 have f_data := row_free HF.out 3
 have hat := (((At.base HF.out).set 2 (.int .u64 x1)).set 3 (.slice da dn dc)).conv (cs' := (({ zeroF 6 with of_ := x1, data := x2 } : Fr).cells (.slice da dn dc) (.slice none 0 0)).toArray) (by rfl)
 have HAT := Qh hat
 clear hat
 go_wp2_with fail
 go_ret
 have hz := zero_wf 6 (by omega)
 have hwf : ({ zeroF 6 with of_ := x1, data := x2 } : Fr).Wf := ⟨hz.kind, hz.st, HU1.out, hz.li, hz.co, hz.fi, hz.se, hz.de, hz.cidl, hz.cid⟩
 exact ⟨rfl, ({ zeroF 6 with of_ := x1, data := x2 } : Fr), (.slice da dn dc), (.slice none 0 0), fun F' h9 => (Option.some.inj h9).symm, HR.out.grownG HAT.out.rest hgp hgW, HAT.out.row, (FrAt.text hwf HDC.out (HI.out.grown HAT.out.rest HLO.out) rfl), HC.out.byQ HAT.out.rest, FrLo.text HLB.out⟩
theorem take4_16 (W0 w : World) (L p gf : Nat) (bs : List Int) (bad : Bool) (h : Rd W0 w L p 97 bs bad) (hF : w.heap[gf]? = some (.cells ((zeroF 16).cells (.slice none 0 0) (.slice none 0 0)).toArray 39 (0, 0))) (hgp : gf ≠ p) (hgW : W0.heap.size ≤ gf) :
  Calls Try.prog 34 #[.pointer (some ⟨p, 0, none⟩), .pointer (some ⟨gf, 0, none⟩)] w (TakeR W0 w L p gf (takeR 16 bs bad)) := by
 obtain ⟨⟨x1, b1, d1⟩, hx1⟩ : ∃ r, varM bs bad = r := ⟨_, rfl⟩
 have hq : takeR 16 bs bad = (some ({ zeroF 16 with li := x1 } : Fr), b1, d1) := by simp [takeR, bnd, ret, hx1]
 rw [hq]
 clear hq
 have HR := Qh h
 have HF := Qh hF
 have HC := Qh (Ch.refl w p (some gf))
 clear h hF
 have HX1 := Qh hx1
 clear hx1
 go_enter Try.func34, Try.ntmps34
 have c0 := row_cell HF.out 0 (.int .i64 16) rfl
 have hb := var_any W0 w L p bs bad HR.out
 rw [HX1.out] at hb
 have hu1 := varM_in bs bad HR.out.bytes
 rw [HX1.out] at hu1
 have HU1 := Qh (u64_of hu1)
 clear hu1
 have HCL := Qh hb
 clear hb
 go_wp2_with fail
 refine Calls.mono HCL.out ?_
 rintro e w1 ⟨rfl, hR, hg⟩
 replace HR := Qh hR
 replace HF := Qh (grown_row hg (by intro e; injection e with e; exact hgp e) HF.out)
 replace HC := Qh (HC.out.byP hg)
 clear hR hg HCL c0
 have c_li := row_cell HF.out 5 _ rfl
 have f_li := row_free HF.out 5
 have hat := ((At.base HF.out).set 5 (.int .u64 x1)).conv (cs' := (({ zeroF 16 with li := x1 } : Fr).cells (.slice none 0 0) (.slice none 0 0)).toArray) (by rfl)
 have HAT := Qh hat
 clear hat
 go_wp2_with fail
 go_ret
 have hz := zero_wf 16 (by omega)
 have hwf : ({ zeroF 16 with li := x1 } : Fr).Wf := ⟨hz.kind, hz.st, hz.of_, HU1.out, hz.co, hz.fi, hz.se, hz.de, hz.cidl, hz.cid⟩
 exact ⟨rfl, ({ zeroF 16 with li := x1 } : Fr), (.slice none 0 0), (.slice none 0 0), fun F' h9 => (Option.some.inj h9).symm, HR.out.grownG HAT.out.rest hgp hgW, HAT.out.row, (FrAt.bare hwf rfl rfl), HC.out.byQ HAT.out.rest, FrLo.nil _⟩
theorem take4_18 (W0 w : World) (L p gf : Nat) (bs : List Int) (bad : Bool) (h : Rd W0 w L p 97 bs bad) (hF : w.heap[gf]? = some (.cells ((zeroF 18).cells (.slice none 0 0) (.slice none 0 0)).toArray 39 (0, 0))) (hgp : gf ≠ p) (hgW : W0.heap.size ≤ gf) :
  Calls Try.prog 34 #[.pointer (some ⟨p, 0, none⟩), .pointer (some ⟨gf, 0, none⟩)] w (TakeR W0 w L p gf (takeR 18 bs bad)) := by
 obtain ⟨⟨x1, b1, d1⟩, hx1⟩ : ∃ r, varM bs bad = r := ⟨_, rfl⟩
 have hq : takeR 18 bs bad = (some ({ zeroF 18 with li := x1 } : Fr), b1, d1) := by simp [takeR, bnd, ret, hx1]
 rw [hq]
 clear hq
 have HR := Qh h
 have HF := Qh hF
 have HC := Qh (Ch.refl w p (some gf))
 clear h hF
 have HX1 := Qh hx1
 clear hx1
 go_enter Try.func34, Try.ntmps34
 have c0 := row_cell HF.out 0 (.int .i64 18) rfl
 have hb := var_any W0 w L p bs bad HR.out
 rw [HX1.out] at hb
 have hu1 := varM_in bs bad HR.out.bytes
 rw [HX1.out] at hu1
 have HU1 := Qh (u64_of hu1)
 clear hu1
 have HCL := Qh hb
 clear hb
 go_wp2_with fail
 refine Calls.mono HCL.out ?_
 rintro e w1 ⟨rfl, hR, hg⟩
 replace HR := Qh hR
 replace HF := Qh (grown_row hg (by intro e; injection e with e; exact hgp e) HF.out)
 replace HC := Qh (HC.out.byP hg)
 clear hR hg HCL c0
 have c_li := row_cell HF.out 5 _ rfl
 have f_li := row_free HF.out 5
 have hat := ((At.base HF.out).set 5 (.int .u64 x1)).conv (cs' := (({ zeroF 18 with li := x1 } : Fr).cells (.slice none 0 0) (.slice none 0 0)).toArray) (by rfl)
 have HAT := Qh hat
 clear hat
 go_wp2_with fail
 go_ret
 have hz := zero_wf 18 (by omega)
 have hwf : ({ zeroF 18 with li := x1 } : Fr).Wf := ⟨hz.kind, hz.st, hz.of_, HU1.out, hz.co, hz.fi, hz.se, hz.de, hz.cidl, hz.cid⟩
 exact ⟨rfl, ({ zeroF 18 with li := x1 } : Fr), (.slice none 0 0), (.slice none 0 0), fun F' h9 => (Option.some.inj h9).symm, HR.out.grownG HAT.out.rest hgp hgW, HAT.out.row, (FrAt.bare hwf rfl rfl), HC.out.byQ HAT.out.rest, FrLo.nil _⟩
theorem take4_20 (W0 w : World) (L p gf : Nat) (bs : List Int) (bad : Bool) (h : Rd W0 w L p 97 bs bad) (hF : w.heap[gf]? = some (.cells ((zeroF 20).cells (.slice none 0 0) (.slice none 0 0)).toArray 39 (0, 0))) (hgp : gf ≠ p) (hgW : W0.heap.size ≤ gf) :
  Calls Try.prog 34 #[.pointer (some ⟨p, 0, none⟩), .pointer (some ⟨gf, 0, none⟩)] w (TakeR W0 w L p gf (takeR 20 bs bad)) := by
 obtain ⟨⟨x1, b1, d1⟩, hx1⟩ : ∃ r, varM bs bad = r := ⟨_, rfl⟩
 have hq : takeR 20 bs bad = (some ({ zeroF 20 with li := x1 } : Fr), b1, d1) := by simp [takeR, bnd, ret, hx1]
 rw [hq]
 clear hq
 have HR := Qh h
 have HF := Qh hF
 have HC := Qh (Ch.refl w p (some gf))
 clear h hF
 have HX1 := Qh hx1
 clear hx1
 go_enter Try.func34, Try.ntmps34
 have c0 := row_cell HF.out 0 (.int .i64 20) rfl
 have hb := var_any W0 w L p bs bad HR.out
 rw [HX1.out] at hb
 have hu1 := varM_in bs bad HR.out.bytes
 rw [HX1.out] at hu1
 have HU1 := Qh (u64_of hu1)
 clear hu1
 have HCL := Qh hb
 clear hb
 go_wp2_with fail
 refine Calls.mono HCL.out ?_
 rintro e w1 ⟨rfl, hR, hg⟩
 replace HR := Qh hR
 replace HF := Qh (grown_row hg (by intro e; injection e with e; exact hgp e) HF.out)
 replace HC := Qh (HC.out.byP hg)
 clear hR hg HCL c0
 have c_li := row_cell HF.out 5 _ rfl
 have f_li := row_free HF.out 5
 have hat := ((At.base HF.out).set 5 (.int .u64 x1)).conv (cs' := (({ zeroF 20 with li := x1 } : Fr).cells (.slice none 0 0) (.slice none 0 0)).toArray) (by rfl)
 have HAT := Qh hat
 clear hat
 go_wp2_with fail
 go_ret
 have hz := zero_wf 20 (by omega)
 have hwf : ({ zeroF 20 with li := x1 } : Fr).Wf := ⟨hz.kind, hz.st, hz.of_, HU1.out, hz.co, hz.fi, hz.se, hz.de, hz.cidl, hz.cid⟩
 exact ⟨rfl, ({ zeroF 20 with li := x1 } : Fr), (.slice none 0 0), (.slice none 0 0), fun F' h9 => (Option.some.inj h9).symm, HR.out.grownG HAT.out.rest hgp hgW, HAT.out.row, (FrAt.bare hwf rfl rfl), HC.out.byQ HAT.out.rest, FrLo.nil _⟩
theorem take4_17 (W0 w : World) (L p gf : Nat) (bs : List Int) (bad : Bool) (h : Rd W0 w L p 97 bs bad) (hF : w.heap[gf]? = some (.cells ((zeroF 17).cells (.slice none 0 0) (.slice none 0 0)).toArray 39 (0, 0))) (hgp : gf ≠ p) (hgW : W0.heap.size ≤ gf) :
  Calls Try.prog 34 #[.pointer (some ⟨p, 0, none⟩), .pointer (some ⟨gf, 0, none⟩)] w (TakeR W0 w L p gf (takeR 17 bs bad)) := by
 obtain ⟨⟨x1, b1, d1⟩, hx1⟩ : ∃ r, varM bs bad = r := ⟨_, rfl⟩
 obtain ⟨⟨x2, b2, d2⟩, hx2⟩ : ∃ r, varM b1 d1 = r := ⟨_, rfl⟩
 have hq : takeR 17 bs bad = (some ({ zeroF 17 with st := x1, li := x2 } : Fr), b2, d2) := by simp [takeR, bnd, ret, hx1, hx2]
 rw [hq]
 clear hq
 have HR := Qh h
 have HF := Qh hF
 have HC := Qh (Ch.refl w p (some gf))
 clear h hF
 have HX1 := Qh hx1
 have HX2 := Qh hx2
 clear hx1 hx2
 go_enter Try.func34, Try.ntmps34
 have c0 := row_cell HF.out 0 (.int .i64 17) rfl
 have hb := var_any W0 w L p bs bad HR.out
 rw [HX1.out] at hb
 have hu1 := varM_in bs bad HR.out.bytes
 rw [HX1.out] at hu1
 have HU1 := Qh (u64_of hu1)
 clear hu1
 have HCL := Qh hb
 clear hb
 go_wp2_with fail
 refine Calls.mono HCL.out ?_
 rintro e w1 ⟨rfl, hR, hg⟩
 replace HR := Qh hR
 replace HF := Qh (grown_row hg (by intro e; injection e with e; exact hgp e) HF.out)
 replace HC := Qh (HC.out.byP hg)
 clear hR hg HCL c0
 have hb := var_any W0 w1 L p b1 d1 HR.out
 rw [HX2.out] at hb
 have hu2 := varM_in b1 d1 HR.out.bytes
 rw [HX2.out] at hu2
 have HU2 := Qh (u64_of hu2)
 clear hu2
 have HCL := Qh hb
 clear hb
 go_wp2_with fail
 refine Calls.mono HCL.out ?_
 rintro e w2 ⟨rfl, hR, hg⟩
 replace HR := Qh hR
 replace HF := Qh (grown_row hg (by intro e; injection e with e; exact hgp e) HF.out)
 replace HC := Qh (HC.out.byP hg)
 clear hR hg HCL
 have c_st := row_cell HF.out 1 _ rfl
 have f_st := row_free HF.out 1
 have c_li := row_cell HF.out 5 _ rfl
 have f_li := row_free HF.out 5
 have hat := (((At.base HF.out).set 1 (.int .u64 x1)).set 5 (.int .u64 x2)).conv (cs' := (({ zeroF 17 with st := x1, li := x2 } : Fr).cells (.slice none 0 0) (.slice none 0 0)).toArray) (by rfl)
 have HAT := Qh hat
 clear hat
 go_wp2_with fail
 go_ret
 have hz := zero_wf 17 (by omega)
 have hwf : ({ zeroF 17 with st := x1, li := x2 } : Fr).Wf := ⟨hz.kind, HU1.out, hz.of_, HU2.out, hz.co, hz.fi, hz.se, hz.de, hz.cidl, hz.cid⟩
 exact ⟨rfl, ({ zeroF 17 with st := x1, li := x2 } : Fr), (.slice none 0 0), (.slice none 0 0), fun F' h9 => (Option.some.inj h9).symm, HR.out.grownG HAT.out.rest hgp hgW, HAT.out.row, (FrAt.bare hwf rfl rfl), HC.out.byQ HAT.out.rest, FrLo.nil _⟩
theorem take4_24 (W0 w : World) (L p gf : Nat) (bs : List Int) (bad : Bool) (h : Rd W0 w L p 97 bs bad) (hF : w.heap[gf]? = some (.cells ((zeroF 24).cells (.slice none 0 0) (.slice none 0 0)).toArray 39 (0, 0))) (hgp : gf ≠ p) (hgW : W0.heap.size ≤ gf) :
  Calls Try.prog 34 #[.pointer (some ⟨p, 0, none⟩), .pointer (some ⟨gf, 0, none⟩)] w (TakeR W0 w L p gf (takeR 24 bs bad)) := by
 obtain ⟨⟨x1, b1, d1⟩, hx1⟩ : ∃ r, varM bs bad = r := ⟨_, rfl⟩
 obtain ⟨⟨x2, b2, d2⟩, hx2⟩ : ∃ r, varM b1 d1 = r := ⟨_, rfl⟩
 obtain ⟨⟨x3, b3, d3⟩, hx3⟩ : ∃ r, byteM b2 d2 = r := ⟨_, rfl⟩
 obtain ⟨⟨x4, b4, d4⟩, hx4⟩ : ∃ r, nameR b3 d3 = r := ⟨_, rfl⟩
 have hn8 := name_len b3 d3
 have hnc : (rdM b3 d3 8).2 = (nameR b3 d3).2 := rfl
 rw [hx4] at hn8 hnc
 simp only at hn8
 have hq : takeR 24 bs bad = ((if x3 = 8 then some ({ zeroF 24 with se := x1, li := x2, cid := x4 } : Fr) else none), b4, d4) := by simp [takeR, bnd, ret, hx1, hx2, hx3, hx4]
 obtain ⟨q, hqq⟩ : ∃ q, takeR 24 bs bad = q := ⟨_, rfl⟩
 rw [hqq] at hq ⊢
 have HQ := Qh hq
 clear hq hqq
 have HR := Qh h
 have HF := Qh hF
 have HC := Qh (Ch.refl w p (some gf))
 clear h hF
 have HX1 := Qh hx1
 have HX2 := Qh hx2
 have HX3 := Qh hx3
 have HX4 := Qh hx4
 have HN8 := Qh hn8; have HNC := Qh hnc
 clear hn8 hnc
 clear hx1 hx2 hx3 hx4
 go_enter Try.func34, Try.ntmps34
 have c0 := row_cell HF.out 0 (.int .i64 24) rfl
 have hb := var_any W0 w L p bs bad HR.out
 rw [HX1.out] at hb
 have hu1 := varM_in bs bad HR.out.bytes
 rw [HX1.out] at hu1
 have HU1 := Qh (u64_of hu1)
 clear hu1
 have HCL := Qh hb
 clear hb
 go_wp2_with fail
 refine Calls.mono HCL.out ?_
 rintro e w1 ⟨rfl, hR, hg⟩
 replace HR := Qh hR
 replace HF := Qh (grown_row hg (by intro e; injection e with e; exact hgp e) HF.out)
 replace HC := Qh (HC.out.byP hg)
 clear hR hg HCL c0
 have hb := var_any W0 w1 L p b1 d1 HR.out
 rw [HX2.out] at hb
 have hu2 := varM_in b1 d1 HR.out.bytes
 rw [HX2.out] at hu2
 have HU2 := Qh (u64_of hu2)
 clear hu2
 have HCL := Qh hb
 clear hb
 go_wp2_with fail
 refine Calls.mono HCL.out ?_
 rintro e w2 ⟨rfl, hR, hg⟩
 replace HR := Qh hR
 replace HF := Qh (grown_row hg (by intro e; injection e with e; exact hgp e) HF.out)
 replace HC := Qh (HC.out.byP hg)
 clear hR hg HCL
 have c_se := row_cell HF.out 8 _ rfl
 have f_se := row_free HF.out 8
 have c_li := row_cell HF.out 5 _ rfl
 have f_li := row_free HF.out 5
 have hat := (((At.base HF.out).set 8 (.int .u64 x1)).set 5 (.int .u64 x2)).conv (cs' := (({ zeroF 24 with se := x1, li := x2 } : Fr).cells (.slice none 0 0) (.slice none 0 0)).toArray) (by rfl)
 have HAT := Qh hat
 clear hat
 go_wp2_with fail
 clear c_se f_se c_li f_li
 replace HR := Qh (HR.out.grownG HAT.out.rest hgp hgW)
 replace HC := Qh (HC.out.byQ HAT.out.rest)
 replace HF := Qh HAT.out.row
 clear HAT
 generalize ((w2.setCell ⟨gf, 8, none⟩ (.int .u64 x1)).setCell ⟨gf, 5, none⟩ (.int .u64 x2)) = v0 at HR HC HF ⊢
 have hb := byte_any W0 v0 L p b2 d2 HR.out
 rw [HX3.out] at hb
 have HCL := Qh hb
 clear hb
 refine Calls.mono HCL.out ?_
 rintro e w3 ⟨rfl, hR, hg⟩
 replace HR := Qh hR
 replace HF := Qh (grown_row hg (by intro e; injection e with e; exact hgp e) HF.out)
 replace HC := Qh (HC.out.byP hg)
 clear hR hg HCL
 go_upto_region 19 with fail
 have HNW := Qh (name_wf d3 HR.out.bytes)
 rw [HX4.out] at HNW
 refine take4_name19 _ HR HF hgp hgW rfl (fun c a d v w h => by cases d <;> exact h) ?_
 rintro _ _ _ _ _ _ _ w4 HR9 HF9 HC9
 rw [HNC.out] at HR9
 rw [splice_cid ({ zeroF 24 with se := x1, li := x2 } : Fr) (.slice none 0 0) (.slice none 0 0) rfl b3 d3, HX4.out] at HF9
 replace HC := Qh (HC.out.both HC9.out)
 clear HC9 HF HR
 go_wp2_with fail
 go_ret
 have hz := zero_wf 24 (by omega)
 have hwf : ({ zeroF 24 with se := x1, li := x2, cid := x4 } : Fr).Wf := ⟨hz.kind, hz.st, hz.of_, HU2.out, hz.co, hz.fi, HU1.out, hz.de, HN8.out, HNW.out⟩
 rw [HQ.out]
 refine ⟨by show Ending.returned (.bool (x3 == 8)) = _; rw [int_beq]; by_cases h8 : x3 = 8 <;> simp [h8], ({ zeroF 24 with se := x1, li := x2, cid := x4 } : Fr), (.slice none 0 0), (.slice none 0 0), fun F' h9 => ?_, HR9.out, HF9.out, (FrAt.bare hwf rfl rfl), HC.out, FrLo.nil _⟩
 by_cases h8 : x3 = 8
 ·
  rw [if_pos h8] at h9; exact (Option.some.inj h9).symm
 ·
  rw [if_neg h8] at h9; cases h9
theorem take4_25 (W0 w : World) (L p gf : Nat) (bs : List Int) (bad : Bool) (h : Rd W0 w L p 97 bs bad) (hF : w.heap[gf]? = some (.cells ((zeroF 25).cells (.slice none 0 0) (.slice none 0 0)).toArray 39 (0, 0))) (hgp : gf ≠ p) (hgW : W0.heap.size ≤ gf) :
  Calls Try.prog 34 #[.pointer (some ⟨p, 0, none⟩), .pointer (some ⟨gf, 0, none⟩)] w (TakeR W0 w L p gf (takeR 25 bs bad)) := by
 obtain ⟨⟨x1, b1, d1⟩, hx1⟩ : ∃ r, varM bs bad = r := ⟨_, rfl⟩
 have hq : takeR 25 bs bad = (some ({ zeroF 25 with se := x1 } : Fr), b1, d1) := by simp [takeR, bnd, ret, hx1]
 rw [hq]
 clear hq
 have HR := Qh h
 have HF := Qh hF
 have HC := Qh (Ch.refl w p (some gf))
 clear h hF
 have HX1 := Qh hx1
 clear hx1
 go_enter Try.func34, Try.ntmps34
 have c0 := row_cell HF.out 0 (.int .i64 25) rfl
 have hb := var_any W0 w L p bs bad HR.out
 rw [HX1.out] at hb
 have hu1 := varM_in bs bad HR.out.bytes
 rw [HX1.out] at hu1
 have HU1 := Qh (u64_of hu1)
 clear hu1
 have HCL := Qh hb
 clear hb
 go_wp2_with fail
 refine Calls.mono HCL.out ?_
 rintro e w1 ⟨rfl, hR, hg⟩
 replace HR := Qh hR
 replace HF := Qh (grown_row hg (by intro e; injection e with e; exact hgp e) HF.out)
 replace HC := Qh (HC.out.byP hg)
 clear hR hg HCL c0
 have c_se := row_cell HF.out 8 _ rfl
 have f_se := row_free HF.out 8
 have hat := ((At.base HF.out).set 8 (.int .u64 x1)).conv (cs' := (({ zeroF 25 with se := x1 } : Fr).cells (.slice none 0 0) (.slice none 0 0)).toArray) (by rfl)
 have HAT := Qh hat
 clear hat
 go_wp2_with fail
 go_ret
 have hz := zero_wf 25 (by omega)
 have hwf : ({ zeroF 25 with se := x1 } : Fr).Wf := ⟨hz.kind, hz.st, hz.of_, hz.li, hz.co, hz.fi, HU1.out, hz.de, hz.cidl, hz.cid⟩
 exact ⟨rfl, ({ zeroF 25 with se := x1 } : Fr), (.slice none 0 0), (.slice none 0 0), fun F' h9 => (Option.some.inj h9).symm, HR.out.grownG HAT.out.rest hgp hgW, HAT.out.row, (FrAt.bare hwf rfl rfl), HC.out.byQ HAT.out.rest, FrLo.nil _⟩
theorem take4_26 (W0 w : World) (L p gf : Nat) (bs : List Int) (bad : Bool) (h : Rd W0 w L p 97 bs bad) (hF : w.heap[gf]? = some (.cells ((zeroF 26).cells (.slice none 0 0) (.slice none 0 0)).toArray 39 (0, 0))) (hgp : gf ≠ p) (hgW : W0.heap.size ≤ gf) :
  Calls Try.prog 34 #[.pointer (some ⟨p, 0, none⟩), .pointer (some ⟨gf, 0, none⟩)] w (TakeR W0 w L p gf (takeR 26 bs bad)) := by
 obtain ⟨⟨x1, b1, d1⟩, hx1⟩ : ∃ r, nameR bs bad = r := ⟨_, rfl⟩
 have hn8 := name_len bs bad
 have hnc : (rdM bs bad 8).2 = (nameR bs bad).2 := rfl
 rw [hx1] at hn8 hnc
 simp only at hn8
 have hq : takeR 26 bs bad = (some ({ zeroF 26 with cid := x1 } : Fr), b1, d1) := by simp [takeR, bnd, ret, hx1]
 rw [hq]
 clear hq
 have HR := Qh h
 have HF := Qh hF
 have HC := Qh (Ch.refl w p (some gf))
 clear h hF
 have HX1 := Qh hx1
 have HN8 := Qh hn8; have HNC := Qh hnc
 clear hn8 hnc
 clear hx1
 go_enter Try.func34, Try.ntmps34
 have c0 := row_cell HF.out 0 (.int .i64 26) rfl
 go_upto_region 25 with fail
 clear c0
 have HNW := Qh (name_wf bad HR.out.bytes)
 rw [HX1.out] at HNW
 refine take4_name25 _ HR HF hgp hgW rfl (fun c a d v w h => by cases d <;> exact h) ?_
 rintro _ _ _ _ _ _ _ w1 HR9 HF9 HC9
 rw [HNC.out] at HR9
 rw [splice_cid (zeroF 26) (.slice none 0 0) (.slice none 0 0) rfl bs bad, HX1.out] at HF9
 replace HC := Qh (HC.out.both HC9.out)
 clear HC9 HF HR
 go_wp2_with fail
 go_ret
 have hz := zero_wf 26 (by omega)
 have hwf : ({ zeroF 26 with cid := x1 } : Fr).Wf := ⟨hz.kind, hz.st, hz.of_, hz.li, hz.co, hz.fi, hz.se, hz.de, HN8.out, HNW.out⟩
 exact ⟨rfl, ({ zeroF 26 with cid := x1 } : Fr), (.slice none 0 0), (.slice none 0 0), fun F' h9 => (Option.some.inj h9).symm, HR9.out, HF9.out, (FrAt.bare hwf rfl rfl), HC.out, FrLo.nil _⟩
theorem take4_27 (W0 w : World) (L p gf : Nat) (bs : List Int) (bad : Bool) (h : Rd W0 w L p 97 bs bad) (hF : w.heap[gf]? = some (.cells ((zeroF 27).cells (.slice none 0 0) (.slice none 0 0)).toArray 39 (0, 0))) (hgp : gf ≠ p) (hgW : W0.heap.size ≤ gf) :
  Calls Try.prog 34 #[.pointer (some ⟨p, 0, none⟩), .pointer (some ⟨gf, 0, none⟩)] w (TakeR W0 w L p gf (takeR 27 bs bad)) := by
 obtain ⟨⟨x1, b1, d1⟩, hx1⟩ : ∃ r, nameR bs bad = r := ⟨_, rfl⟩
 have hn8 := name_len bs bad
 have hnc : (rdM bs bad 8).2 = (nameR bs bad).2 := rfl
 rw [hx1] at hn8 hnc
 simp only at hn8
 have hq : takeR 27 bs bad = (some ({ zeroF 27 with cid := x1 } : Fr), b1, d1) := by simp [takeR, bnd, ret, hx1]
 rw [hq]
 clear hq
 have HR := Qh h
 have HF := Qh hF
 have HC := Qh (Ch.refl w p (some gf))
 clear h hF
 have HX1 := Qh hx1
 have HN8 := Qh hn8; have HNC := Qh hnc
 clear hn8 hnc
 clear hx1
 go_enter Try.func34, Try.ntmps34
 have c0 := row_cell HF.out 0 (.int .i64 27) rfl
 go_upto_region 25 with fail
 clear c0
 have HNW := Qh (name_wf bad HR.out.bytes)
 rw [HX1.out] at HNW
 refine take4_name25 _ HR HF hgp hgW rfl (fun c a d v w h => by cases d <;> exact h) ?_
 rintro _ _ _ _ _ _ _ w1 HR9 HF9 HC9
 rw [HNC.out] at HR9
 rw [splice_cid (zeroF 27) (.slice none 0 0) (.slice none 0 0) rfl bs bad, HX1.out] at HF9
 replace HC := Qh (HC.out.both HC9.out)
 clear HC9 HF HR
 go_wp2_with fail
 go_ret
 have hz := zero_wf 27 (by omega)
 have hwf : ({ zeroF 27 with cid := x1 } : Fr).Wf := ⟨hz.kind, hz.st, hz.of_, hz.li, hz.co, hz.fi, hz.se, hz.de, HN8.out, HNW.out⟩
 exact ⟨rfl, ({ zeroF 27 with cid := x1 } : Fr), (.slice none 0 0), (.slice none 0 0), fun F' h9 => (Option.some.inj h9).symm, HR9.out, HF9.out, (FrAt.bare hwf rfl rfl), HC.out, FrLo.nil _⟩
theorem take4_28 (W0 w : World) (L p gf : Nat) (bs : List Int) (bad : Bool) (h : Rd W0 w L p 97 bs bad) (hF : w.heap[gf]? = some (.cells ((zeroF 28).cells (.slice none 0 0) (.slice none 0 0)).toArray 39 (0, 0))) (hgp : gf ≠ p) (hgW : W0.heap.size ≤ gf) :
  Calls Try.prog 34 #[.pointer (some ⟨p, 0, none⟩), .pointer (some ⟨gf, 0, none⟩)] w (TakeR W0 w L p gf (takeR 28 bs bad)) := by
 obtain ⟨⟨x1, b1, d1⟩, hx1⟩ : ∃ r, varM bs bad = r := ⟨_, rfl⟩
 obtain ⟨⟨x2, b2, d2⟩, hx2⟩ : ∃ r, textM b1 d1 = r := ⟨_, rfl⟩
 have hq : takeR 28 bs bad = (some ({ zeroF 28 with co := x1, data := x2 } : Fr), b2, d2) := by simp [takeR, bnd, ret, hx1, hx2]
 rw [hq]
 clear hq
 have HR := Qh h
 have HF := Qh hF
 have HC := Qh (Ch.refl w p (some gf))
 clear h hF
 have HX1 := Qh hx1
 have HX2 := Qh hx2
 clear hx1 hx2
 go_enter Try.func34, Try.ntmps34
 have c0 := row_cell HF.out 0 (.int .i64 28) rfl
 have hb := var_any W0 w L p bs bad HR.out
 rw [HX1.out] at hb
 have hu1 := varM_in bs bad HR.out.bytes
 rw [HX1.out] at hu1
 have HU1 := Qh (u64_of hu1)
 clear hu1
 have HCL := Qh hb
 clear hb
 go_wp2_with fail
 refine Calls.mono HCL.out ?_
 rintro e w1 ⟨rfl, hR, hg⟩
 replace HR := Qh hR
 replace HF := Qh (grown_row hg (by intro e; injection e with e; exact hgp e) HF.out)
 replace HC := Qh (HC.out.byP hg)
 clear hR hg HCL c0
 have hb := textc_any W0 w1 L p b1 d1 HR.out
 rw [HX2.out] at hb
 have HCL := Qh hb
 clear hb
 go_wp2_with fail
 refine Calls.mono HCL.out ?_
 rintro e w2 ⟨da, dn, dc, rfl, hdc, hI, hR, hg, hlo⟩
 have HI := Qh hI; have HLO : Hid (∀ x, da = some x → some x.block ≠ some gf) := Qh (fun x hx e => by injection e with e; have := hlo x hx; have := lt_of_block HF.out; omega)
 have HDC := Qh hdc
 have HLB : Hid (∀ x, da = some x → w.heap.size ≤ x.block) := Qh (fun x hx => Nat.le_trans HC.out.size (hlo x hx))
 clear hI hlo hdc
 replace HR := Qh hR
 replace HF := Qh (grown_row hg (by intro e; injection e with e; exact hgp e) HF.out)
 replace HC := Qh (HC.out.byP hg)
 clear hR hg HCL
 have c_co := row_cell HF.out 6 _ rfl
 have f_co := row_free HF.out 6
 have c_data := row_cell HF.out 3 _ rfl
 have f_data := row_free HF.out 3
 have hat := (((At.base HF.out).set 6 (.int .u64 x1)).set 3 (.slice da dn dc)).conv (cs' := (({ zeroF 28 with co := x1, data := x2 } : Fr).cells (.slice da dn dc) (.slice none 0 0)).toArray) (by rfl)
 have HAT := Qh hat
 clear hat
 go_wp2_with fail
 go_ret
 have hz := zero_wf 28 (by omega)
 have hwf : ({ zeroF 28 with co := x1, data := x2 } : Fr).Wf := ⟨hz.kind, hz.st, hz.of_, hz.li, HU1.out, hz.fi, hz.se, hz.de, hz.cidl, hz.cid⟩
 exact ⟨rfl, ({ zeroF 28 with co := x1, data := x2 } : Fr), (.slice da dn dc), (.slice none 0 0), fun F' h9 => (Option.some.inj h9).symm, HR.out.grownG HAT.out.rest hgp hgW, HAT.out.row, (FrAt.text hwf HDC.out (HI.out.grown HAT.out.rest HLO.out) rfl), HC.out.byQ HAT.out.rest, FrLo.text HLB.out⟩
theorem take4_no (W0 w : World) (L p gf : Nat) (k : Int) (bs : List Int) (bad : Bool) (h : Rd W0 w L p 97 bs bad) (hF : w.heap[gf]? = some (.cells ((zeroF k).cells (.slice none 0 0) (.slice none 0 0)).toArray 39 (0, 0))) (h0 : 0 ≤ k ∧ k ≤ 30) (hk : ¬ (k = 2 ∨ k = 4 ∨ k = 5 ∨ k = 6 ∨ k = 16 ∨ k = 18 ∨ k = 20 ∨ k = 17 ∨ k = 24 ∨ k = 25 ∨ k = 26 ∨ k = 27 ∨ k = 28)) :
  Calls Try.prog 34 #[.pointer (some ⟨p, 0, none⟩), .pointer (some ⟨gf, 0, none⟩)] w (TakeR W0 w L p gf (takeR k bs bad)) := by
 simp only [not_or] at hk
 have hq : takeR k bs bad = (some (zeroF k), bs, bad) := by simp [takeR, ret, hk]
 rw [hq]
 obtain ⟨n2, n4, n5, n6, n16, n18, n20, n17, n24, n25, n26, n27, n28⟩ := hk
 have e2 : (k == 2) = false := by simpa using n2
 have e4 : (k == 4) = false := by simpa using n4
 have e5 : (k == 5) = false := by simpa using n5
 have e6 : (k == 6) = false := by simpa using n6
 have e16 : (k == 16) = false := by simpa using n16
 have e18 : (k == 18) = false := by simpa using n18
 have e20 : (k == 20) = false := by simpa using n20
 have e17 : (k == 17) = false := by simpa using n17
 have e24 : (k == 24) = false := by simpa using n24
 have e25 : (k == 25) = false := by simpa using n25
 have e26 : (k == 26) = false := by simpa using n26
 have e27 : (k == 27) = false := by simpa using n27
 have e28 : (k == 28) = false := by simpa using n28
 have HR := Qh h; have HF := Qh hF
 have c0 := row_cell hF 0 (.int .i64 k) rfl
 have HZ := Qh (FrAt.zero w k (by omega))
 clear h hF hq n2 n4 n5 n6 n16 n18 n20 n17 n24 n25 n26 n27 n28
 go_enter Try.func34, Try.ntmps34
 go_wp2_with fail
 go_ret
 exact ⟨rfl, zeroF k, (.slice none 0 0), (.slice none 0 0), fun F' h9 => (Option.some.inj h9).symm, HR.out, HF.out, HZ.out, Ch.refl _ _ _, FrLo.nil _⟩
end Go.Proofs.Ytmbjepcbokbemaa
namespace Go.Proofs.Ytmbjepcbokbemaa
open Go.RowKit
section
variable {P : Program} {ops : Array Oper} {Q : Exit → Act → World → Prop} {md : Region.Mode}
def barQ (Q : Exit → Act → World → Prop) (R : Act → World → Prop) : Exit → Act → World → Prop
 | .normal, a, w => R a w
 | e, a, w => Q e a w
theorem operWp_barQ {R : Act → World → Prop} {o : Oper} {a : Act} {w : World} {K : Act → World → Prop} (h : o.wp P a w K (barQ Q R)) : o.wp P a w K Q := by
 unfold Oper.wp at *
 generalize (execOp a.eval o).run P w = r at *
 cases r with
 | ok n w' =>
  cases n <;> simp only [Oper.upon] at h ⊢ <;>
   first
    | exact h
    | exact Calls.mono h (fun e w'' he => by cases e <;> exact he)
 | halt x w' => cases x <;> simp only [Oper.upon] at h ⊢ <;> exact h
theorem wpOp_barQ {R : Act → World → Prop} {i : Nat} {a : Act} {w : World} {K : Act → World → Prop} (h : wpOp P ops (barQ Q R) i K a w) : wpOp P ops Q i K a w := by
 unfold wpOp at *
 split
 ·
  simpa [*] using h
 ·
  rename_i o ho
  simp only [ho] at h
  split
  ·
   rename_i hw; simp only [hw, if_true] at h; exact h.imp operWp_barQ id
  ·
   rename_i hw; simp only [hw] at h; exact h
def wpAnyB (P : Program) (md : Region.Mode) (ops : Array Oper) (Q : Exit → Act → World → Prop) (L : Array Bool) (R : Act → World → Prop) : Nat → Array Bool → (World → Prop) → Act → World → Prop
 | 0, listed, _, a, w => listed = L ∧ R a w
 | fuel + 1, listed, S, a, w => Region.ready md ops listed ≠ [] ∧
  ∀ i ∈ Region.ready md ops listed, wpOp P ops Q i (fun a' w' => ∃ S' : World → Prop, (∀ x, S' x → S x) ∧ S' w' ∧ wpAnyB P md ops Q L R fuel (listed.setIfInBounds i true) S' a' w') a w
theorem wpAny_of_B {L : Array Bool} {R : Act → World → Prop} {r : Nat} (hR : ∀ a w, R a w → wpAny P md ops Q r L a w) :
  ∀ (fuel : Nat) (listed : Array Bool) (S : World → Prop) (a : Act) (w : World), wpAnyB P md ops Q L R fuel listed S a w → wpAny P md ops Q (fuel + r) listed a w
 | 0, _, _, _, _, h => by rw [h.1, Nat.zero_add]; exact hR _ _ h.2
 | fuel + 1, listed, S, a, w, h => by
  rw [show fuel + 1 + r = (fuel + r) + 1 by omega]
  exact ⟨fun h0 => absurd h0 h.1, fun i hi => wpOp_mono (fun a' w' ⟨S', _, _, h'⟩ => wpAny_of_B hR fuel _ S' a' w' h') (h.2 i hi)⟩
def barred (md : Region.Mode) (ops : Array Oper) (m : Nat) : Bool :=
 (List.range ops.size).all fun j => decide (j < m) || (List.range m).all fun i => ((ops[j]?).map fun o => o.after.any fun e => Region.binds md e && e.on == i).getD true
def firsts (m n : Nat) : Array Bool := (List.replicate m true ++ List.replicate (n - m) false).toArray
theorem barred_spec {m : Nat} (h : barred md ops m = true) {j : Nat} {o : Oper} (hj : ops[j]? = some o) (hm : m ≤ j) {i : Nat} (hi : i < m) : ∃ e ∈ o.after, Region.binds md e = true ∧ e.on = i := by
 have hlt : j < ops.size := (Array.getElem?_eq_some_iff.1 hj).1
 have h1 := List.all_eq_true.1 h j (List.mem_range.2 hlt)
 rw [Bool.or_eq_true] at h1
 rcases h1 with h1 | h1
 ·
  have := of_decide_eq_true h1; omega
 ·
  have h2 := List.all_eq_true.1 h1 i (List.mem_range.2 hi)
  rw [hj] at h2
  simp only [Option.map_some, Option.getD_some] at h2
  rw [Array.any_eq_true] at h2
  obtain ⟨x, hx, hb⟩ := h2
  rw [Bool.and_eq_true] at hb
  exact ⟨o.after[x], Array.getElem_mem hx, hb.1, by simpa using hb.2⟩
theorem wpAnyB_first {m : Nat} {R : Act → World → Prop} (hbar : barred md ops m = true) {i : Nat} {oi : Oper} {v : Value} (him : i < m) (hi : ops[i]? = some oi) (hsel : ∀ (j : Nat) (o : Oper) cs b, ops[j]? = some o → o.op ≠ .select cs b)
  (hQ : ∀ c a w, Q (.panic c) (a.put oi.dst v) w → Q (.panic c) a w) :
  ∀ (fuel : Nat) (listed : Array Bool) (S : World → Prop) (a : Act) (w : World),
   (∀ j oj, ops[j]? = some oj → j ≠ i → listed.getD j true = false → (∀ e ∈ oj.after, Region.binds md e = true → e.on ≠ i) → oi.apart ops oj = true) →
   i ∈ Region.ready md ops listed → YieldsIf P ops S oi v a → S w →
   wpAnyB P md ops Q (firsts m ops.size) R fuel (listed.setIfInBounds i true) S (a.put oi.dst v) w → wpAnyB P md ops Q (firsts m ops.size) R (fuel + 1) listed S a w := by
 intro fuel
 induction fuel with
 | zero =>
  intro listed S a w _ hr hy hS H
  refine ⟨fun h => (by rw [h] at hr; cases hr), fun j hj => ?_⟩
  by_cases hji : j = i
  ·
   subst hji; exact hy.wpOp hi hS ⟨S, fun _ h => h, hS, H⟩
  ·
   have h1 := (mem_ready.1 (ready_mono hj hji)).1
   rw [H.1] at h1
   obtain ⟨hjun, oj, hoj, hall⟩ := mem_ready.1 hj
   have hjm : m ≤ j := by
    rcases Nat.lt_or_ge j m with h2 | h2
    ·
     exfalso
     have hsz : j < ops.size := (Array.getElem?_eq_some_iff.1 hoj).1
     have : (firsts m ops.size).getD j true = true := by
      unfold firsts
      simp [Array.getD_eq_getD_getElem?, List.getElem?_append, h2]
     rw [this] at h1; cases h1
    ·
     exact h2
   obtain ⟨e, he, hb, heq⟩ := barred_spec hbar hoj hjm him
   have h3 := hall e he hb
   have h0 := (mem_ready.1 hr).1
   rw [heq] at h3
   rcases Nat.lt_or_ge i listed.size with h' | h'
   ·
    simp [h'] at h0 h3; rw [h0] at h3; cases h3
   ·
    simp [Array.getElem?_eq_none h'] at h3
 | succ fuel ih =>
  intro listed S a w hfree hr hy hS H
  refine ⟨fun h => (by rw [h] at hr; cases hr), fun j hj => ?_⟩
  by_cases hji : j = i
  ·
   subst hji; exact hy.wpOp hi hS ⟨S, fun _ h => h, hS, H⟩
  ·
   have h1 := H.2 j (ready_mono hj hji)
   obtain ⟨hjun, oj, hoj, hall⟩ := mem_ready.1 hj
   have hnot : ∀ e ∈ oj.after, Region.binds md e = true → e.on ≠ i := fun e he hb heq => by
    have h1 := hall e he hb
    have h0 := (mem_ready.1 hr).1
    rw [heq] at h1
    rcases Nat.lt_or_ge i listed.size with h' | h'
    ·
     simp [h'] at h0 h1; rw [h0] at h1; cases h1
    ·
     simp [Array.getElem?_eq_none h'] at h1
   have h2 := wpOp_putIf hoj (hfree j oj hoj hji hjun hnot) (fun cs b => hsel i oi cs b hi) (fun cs b => hsel j oj cs b hoj) hQ hy h1
   have hfree' : ∀ k ok, ops[k]? = some ok → k ≠ i → (listed.setIfInBounds j true).getD k true = false →
     (∀ e ∈ ok.after, Region.binds md e = true → e.on ≠ i) → oi.apart ops ok = true := fun k ok hk hki hun hno => by
    refine hfree k ok hk hki ?_ hno
    by_cases hjk : j = k
    ·
     subst hjk; exact hjun
    ·
     rw [getD_set_ne true hjk] at hun; exact hun
   refine wpOp_mono (fun a' w' h3 => ?_) h2
   obtain ⟨h4, S', hsub, hS', h5⟩ := h3
   refine ⟨S', hsub, hS', ih (listed.setIfInBounds j true) S' a' w' hfree' (ready_mono hr (Ne.symm hji)) (YieldsIf.less h4 hsub) hS' ?_⟩
   rw [Array.setIfInBounds_comm _ _ hji]
   exact h5
def Plan.okB (md : Region.Mode) (ops : Array Oper) (m : Nat) : Plan → Nat → Array Bool → Bool
 | .done, 0, l => l == firsts m ops.size
 | .done, _ + 1, _ => false
 | .t _ _, 0, _ => false
 | .t k p, n + 1, l => decide (k < m) && (Region.ready md ops l).contains k && Region.free md ops l k && ((ops[k]?).map isVal).getD false && p.okB md ops m n (l.setIfInBounds k true)
 | .u _ _, 0, _ => false
 | .u k p, n + 1, l => Region.ready md ops l == [k] && p.okB md ops m n (l.setIfInBounds k true)
 | .b _ _ _ _, 0, _ => false
 | .b k p j q, n + 1, l => Region.ready md ops l == [k, j] && p.okB md ops m n (l.setIfInBounds k true) && q.okB md ops m n (l.setIfInBounds j true)
theorem wpAnyB_of_plan {m : Nat} {R : Act → World → Prop} (hbar : barred md ops m = true) (hs : Region.noSelect ops = true) (hQ : ∀ c a d v w, Q (.panic c) (a.put d v) w → Q (.panic c) a w) :
  ∀ (p : Plan) (n : Nat) (l : Array Bool) (S : World → Prop) (a : Act) (w : World), p.okB md ops m n l = true → S w → p.wp P ops (barQ Q R) S a w → wpAnyB P md ops Q (firsts m ops.size) R n l S a w := by
 intro p
 induction p with
 | done =>
  intro n l S a w hok hS h
  cases n with
  | zero => exact ⟨by simpa [Plan.okB] using hok, h⟩
  | succ n => simp [Plan.okB] at hok
 | t k p ih =>
  intro n l S a w hok hS h
  cases n with
  | zero => simp [Plan.okB] at hok
  | succ n =>
   simp only [Plan.okB, Bool.and_eq_true, decide_eq_true_eq] at hok
   obtain ⟨⟨⟨⟨h0, h1⟩, h2⟩, h3⟩, h4⟩ := hok
   obtain ⟨o, ho, hq⟩ := h
   rw [ho] at h3
   obtain ⟨v, hy, hk⟩ := yieldsIf_of_quiet (by simpa using h3) hS hq
   exact wpAnyB_first hbar h0 ho (Region.noSelect_spec hs) (fun c a w => hQ c a _ _ w) n l S a w (Region.free_spec ho h2) (by simpa using h1) hy hS (ih n _ S _ w h4 hS hk)
 | u k p ih =>
  intro n l S a w hok hS h
  cases n with
  | zero => simp [Plan.okB] at hok
  | succ n =>
   simp only [Plan.okB, Bool.and_eq_true] at hok
   obtain ⟨h1, h4⟩ := hok
   have hr : Region.ready md ops l = [k] := by simpa using h1
   refine ⟨fun h0 => (by rw [hr] at h0; cases h0), fun i hi => ?_⟩
   rw [hr] at hi
   obtain rfl : i = k := by simpa using hi
   exact wpOp_mono (fun a' w' ⟨S', h5, h6, h7⟩ => ⟨S', h5, h6, ih n _ S' a' w' h4 h6 h7⟩) (wpOp_barQ h)
 | b k p j q ihp ihq =>
  intro n l S a w hok hS h
  cases n with
  | zero => simp [Plan.okB] at hok
  | succ n =>
   simp only [Plan.okB, Bool.and_eq_true] at hok
   obtain ⟨⟨h1, h4⟩, h4'⟩ := hok
   have hr : Region.ready md ops l = [k, j] := by simpa using h1
   refine ⟨fun h0 => (by rw [hr] at h0; cases h0), fun i hi => ?_⟩
   rw [hr] at hi
   rcases (by simpa using hi : i = k ∨ i = j) with rfl | rfl
   ·
    exact wpOp_mono (fun a' w' ⟨S', h5, h6, h7⟩ => ⟨S', h5, h6, ihp n _ S' a' w' h4 h6 h7⟩) (wpOp_barQ h.1)
   ·
    exact wpOp_mono (fun a' w' ⟨S', h5, h6, h7⟩ => ⟨S', h5, h6, ihq n _ S' a' w' h4' h6 h7⟩) (wpOp_barQ h.2)
def Second (P : Program) (l : List Oper) (m : Nat) (Q : Exit → Act → World → Prop) (p : Plan) (a : Act) (w : World) : Prop := ∃ S : World → Prop, S w ∧ p.wp P l.toArray Q S a w
theorem wp_plan2 {id : Nat} {l : List Oper} {a : Act} {w : World} (m : Nat) (p q : Plan) (S : World → Prop) (hm : P.follows .mixedOrders = true) (hs : Region.noSelect l.toArray = true)
  (hok : (barred .any l.toArray m && p.okB .any l.toArray m m (Array.replicate l.length false) && q.ok .any l.toArray (l.length - m) (firsts m l.length) && decide (m ≤ l.length)) = true) (hQ : ∀ c a d v w, Q (.panic c) (a.put d v) w → Q (.panic c) a w) (hS : S w.drew)
  (h : p.wp P l.toArray (barQ Q (Second P l m Q q)) S a w.drew) : (Code.region id l.toArray true).wp P Q a w := by
 simp only [Bool.and_eq_true, decide_eq_true_eq] at hok
 obtain ⟨⟨⟨h1, h2⟩, h3⟩, h4⟩ := hok
 have hb := wpAnyB_of_plan (P := P) (R := Second P l m Q q) h1 hs hQ p m (Array.replicate l.length false) S a w.drew (by simpa using h2) hS h
 have ha := wpAny_of_B (r := l.length - m) (fun a' w' ⟨S', hS', hp⟩ => wpAny_of_G _ _ S' _ _ (by
  have := wpAnyG_of_plan (P := P) (md := .any) hs hQ q (l.length - m) (firsts m l.length) S' a' w' h3 hS' hp
  simpa using this)) m _ S a w.drew hb
 rw [show m + (l.length - m) = l.length by omega] at ha
 exact wp_region_any hm (by simpa using ha)
end
end Go.Proofs.Ytmbjepcbokbemaa
namespace Go.Proofs.Ytmbjepcbokbemaa
open Go.RowKit
section
variable {P : Program} {ops : Array Oper} {Q : Exit → Act → World → Prop} {md : Region.Mode}
def barredE (md : Region.Mode) (ops : Array Oper) (E : List Nat) (m : Nat) : Bool :=
 (List.range ops.size).all fun j => decide (j < m) || (List.range m).all fun i => E.contains i || ((ops[j]?).map fun o => o.after.any fun e => Region.binds md e && e.on == i).getD true
theorem barredE_spec {E : List Nat} {m : Nat} (h : barredE md ops E m = true) {j : Nat} {o : Oper} (hj : ops[j]? = some o) (hm : m ≤ j) {i : Nat} (hi : i < m) (hE : E.contains i = false) : ∃ e ∈ o.after, Region.binds md e = true ∧ e.on = i := by
 have hlt : j < ops.size := (Array.getElem?_eq_some_iff.1 hj).1
 have h1 := List.all_eq_true.1 h j (List.mem_range.2 hlt)
 rw [Bool.or_eq_true] at h1
 rcases h1 with h1 | h1
 ·
  have := of_decide_eq_true h1; omega
 ·
  have h2 := List.all_eq_true.1 h1 i (List.mem_range.2 hi)
  rw [hE, Bool.false_or, hj] at h2
  simp only [Option.map_some, Option.getD_some] at h2
  rw [Array.any_eq_true] at h2
  obtain ⟨x, hx, hb⟩ := h2
  rw [Bool.and_eq_true] at hb
  exact ⟨o.after[x], Array.getElem_mem hx, hb.1, by simpa using hb.2⟩
theorem wpAnyE_first {E : List Nat} {m : Nat} {R : Act → World → Prop} (hbar : barredE md ops E m = true) {i : Nat} {oi : Oper} {v : Value} (him : i < m) (hiE : E.contains i = false) (hi : ops[i]? = some oi) (hsel : ∀ (j : Nat) (o : Oper) cs b, ops[j]? = some o → o.op ≠ .select cs b)
  (hQ : ∀ c a w, Q (.panic c) (a.put oi.dst v) w → Q (.panic c) a w) :
  ∀ (fuel : Nat) (listed : Array Bool) (S : World → Prop) (a : Act) (w : World),
   (∀ j oj, ops[j]? = some oj → j ≠ i → listed.getD j true = false → (∀ e ∈ oj.after, Region.binds md e = true → e.on ≠ i) → oi.apart ops oj = true) →
   i ∈ Region.ready md ops listed → YieldsIf P ops S oi v a → S w →
   wpAnyB P md ops Q (firsts m ops.size) R fuel (listed.setIfInBounds i true) S (a.put oi.dst v) w → wpAnyB P md ops Q (firsts m ops.size) R (fuel + 1) listed S a w := by
 intro fuel
 induction fuel with
 | zero =>
  intro listed S a w _ hr hy hS H
  refine ⟨fun h => (by rw [h] at hr; cases hr), fun j hj => ?_⟩
  by_cases hji : j = i
  ·
   subst hji; exact hy.wpOp hi hS ⟨S, fun _ h => h, hS, H⟩
  ·
   have h1 := (mem_ready.1 (ready_mono hj hji)).1
   rw [H.1] at h1
   obtain ⟨hjun, oj, hoj, hall⟩ := mem_ready.1 hj
   have hjm : m ≤ j := by
    rcases Nat.lt_or_ge j m with h2 | h2
    ·
     exfalso
     have hsz : j < ops.size := (Array.getElem?_eq_some_iff.1 hoj).1
     have : (firsts m ops.size).getD j true = true := by
      unfold firsts
      simp [Array.getD_eq_getD_getElem?, List.getElem?_append, h2]
     rw [this] at h1; cases h1
    ·
     exact h2
   obtain ⟨e, he, hb, heq⟩ := barredE_spec hbar hoj hjm him hiE
   have h3 := hall e he hb
   have h0 := (mem_ready.1 hr).1
   rw [heq] at h3
   rcases Nat.lt_or_ge i listed.size with h' | h'
   ·
    simp [h'] at h0 h3; rw [h0] at h3; cases h3
   ·
    simp [Array.getElem?_eq_none h'] at h3
 | succ fuel ih =>
  intro listed S a w hfree hr hy hS H
  refine ⟨fun h => (by rw [h] at hr; cases hr), fun j hj => ?_⟩
  by_cases hji : j = i
  ·
   subst hji; exact hy.wpOp hi hS ⟨S, fun _ h => h, hS, H⟩
  ·
   have h1 := H.2 j (ready_mono hj hji)
   obtain ⟨hjun, oj, hoj, hall⟩ := mem_ready.1 hj
   have hnot : ∀ e ∈ oj.after, Region.binds md e = true → e.on ≠ i := fun e he hb heq => by
    have h1 := hall e he hb
    have h0 := (mem_ready.1 hr).1
    rw [heq] at h1
    rcases Nat.lt_or_ge i listed.size with h' | h'
    ·
     simp [h'] at h0 h1; rw [h0] at h1; cases h1
    ·
     simp [Array.getElem?_eq_none h'] at h1
   have h2 := wpOp_putIf hoj (hfree j oj hoj hji hjun hnot) (fun cs b => hsel i oi cs b hi) (fun cs b => hsel j oj cs b hoj) hQ hy h1
   have hfree' : ∀ k ok, ops[k]? = some ok → k ≠ i → (listed.setIfInBounds j true).getD k true = false →
     (∀ e ∈ ok.after, Region.binds md e = true → e.on ≠ i) → oi.apart ops ok = true := fun k ok hk hki hun hno => by
    refine hfree k ok hk hki ?_ hno
    by_cases hjk : j = k
    ·
     subst hjk; exact hjun
    ·
     rw [getD_set_ne true hjk] at hun; exact hun
   refine wpOp_mono (fun a' w' h3 => ?_) h2
   obtain ⟨h4, S', hsub, hS', h5⟩ := h3
   refine ⟨S', hsub, hS', ih (listed.setIfInBounds j true) S' a' w' hfree' (ready_mono hr (Ne.symm hji)) (YieldsIf.less h4 hsub) hS' ?_⟩
   rw [Array.setIfInBounds_comm _ _ hji]
   exact h5
def Plan.okE (md : Region.Mode) (ops : Array Oper) (E : List Nat) (m : Nat) : Plan → Nat → Array Bool → Bool
 | .done, 0, l => l == firsts m ops.size
 | .done, _ + 1, _ => false
 | .t _ _, 0, _ => false
 | .t k p, n + 1, l => decide (k < m) && !E.contains k && (Region.ready md ops l).contains k && Region.free md ops l k && ((ops[k]?).map isVal).getD false && p.okE md ops E m n (l.setIfInBounds k true)
 | .u _ _, 0, _ => false
 | .u k p, n + 1, l => Region.ready md ops l == [k] && p.okE md ops E m n (l.setIfInBounds k true)
 | .b _ _ _ _, 0, _ => false
 | .b k p j q, n + 1, l => Region.ready md ops l == [k, j] && p.okE md ops E m n (l.setIfInBounds k true) && q.okE md ops E m n (l.setIfInBounds j true)
theorem wpAnyE_of_plan {E : List Nat} {m : Nat} {R : Act → World → Prop} (hbar : barredE md ops E m = true) (hs : Region.noSelect ops = true) (hQ : ∀ c a d v w, Q (.panic c) (a.put d v) w → Q (.panic c) a w) :
  ∀ (p : Plan) (n : Nat) (l : Array Bool) (S : World → Prop) (a : Act) (w : World), p.okE md ops E m n l = true → S w → p.wp P ops (barQ Q R) S a w → wpAnyB P md ops Q (firsts m ops.size) R n l S a w := by
 intro p
 induction p with
 | done =>
  intro n l S a w hok hS h
  cases n with
  | zero => exact ⟨by simpa [Plan.okE] using hok, h⟩
  | succ n => simp [Plan.okE] at hok
 | t k p ih =>
  intro n l S a w hok hS h
  cases n with
  | zero => simp [Plan.okE] at hok
  | succ n =>
   simp only [Plan.okE, Bool.and_eq_true, decide_eq_true_eq] at hok
   obtain ⟨⟨⟨⟨⟨h0, hE⟩, h1⟩, h2⟩, h3⟩, h4⟩ := hok
   obtain ⟨o, ho, hq⟩ := h
   rw [ho] at h3
   obtain ⟨v, hy, hk⟩ := yieldsIf_of_quiet (by simpa using h3) hS hq
   exact wpAnyE_first hbar h0 (by simpa using hE) ho (Region.noSelect_spec hs) (fun c a w => hQ c a _ _ w) n l S a w (Region.free_spec ho h2) (by simpa using h1) hy hS (ih n _ S _ w h4 hS hk)
 | u k p ih =>
  intro n l S a w hok hS h
  cases n with
  | zero => simp [Plan.okE] at hok
  | succ n =>
   simp only [Plan.okE, Bool.and_eq_true] at hok
   obtain ⟨h1, h4⟩ := hok
   have hr : Region.ready md ops l = [k] := by simpa using h1
   refine ⟨fun h0 => (by rw [hr] at h0; cases h0), fun i hi => ?_⟩
   rw [hr] at hi
   obtain rfl : i = k := by simpa using hi
   exact wpOp_mono (fun a' w' ⟨S', h5, h6, h7⟩ => ⟨S', h5, h6, ih n _ S' a' w' h4 h6 h7⟩) (wpOp_barQ h)
 | b k p j q ihp ihq =>
  intro n l S a w hok hS h
  cases n with
  | zero => simp [Plan.okE] at hok
  | succ n =>
   simp only [Plan.okE, Bool.and_eq_true] at hok
   obtain ⟨⟨h1, h4⟩, h4'⟩ := hok
   have hr : Region.ready md ops l = [k, j] := by simpa using h1
   refine ⟨fun h0 => (by rw [hr] at h0; cases h0), fun i hi => ?_⟩
   rw [hr] at hi
   rcases (by simpa using hi : i = k ∨ i = j) with rfl | rfl
   ·
    exact wpOp_mono (fun a' w' ⟨S', h5, h6, h7⟩ => ⟨S', h5, h6, ihp n _ S' a' w' h4 h6 h7⟩) (wpOp_barQ h.1)
   ·
    exact wpOp_mono (fun a' w' ⟨S', h5, h6, h7⟩ => ⟨S', h5, h6, ihq n _ S' a' w' h4' h6 h7⟩) (wpOp_barQ h.2)
theorem wpAnyG_true : ∀ (fuel : Nat) (listed : Array Bool) (a : Act) (w : World), wpAny P md ops Q fuel listed a w → wpAnyG P md ops Q fuel listed (fun _ => True) a w
 | 0, _, _, _, h => h
 | fuel + 1, _, _, _, h => ⟨h.1, fun i hi => wpOp_mono (fun a' w' h' => ⟨fun _ => True, fun _ h => h, trivial, wpAnyG_true fuel _ a' w' h'⟩) (h.2 i hi)⟩
def Plan.okP (md : Region.Mode) (ops : Array Oper) (n0 : Nat) (L0 : Array Bool) : Plan → Nat → Array Bool → Bool
 | .done, n, l => n == n0 && l == L0
 | .t k p, n + 1, l => (Region.ready md ops l).contains k && Region.free md ops l k && ((ops[k]?).map isVal).getD false && p.okP md ops n0 L0 n (l.setIfInBounds k true)
 | _, _, _ => false
theorem wpAnyG_of_pre {n0 : Nat} {L0 : Array Bool} {R : Act → World → Prop} (hs : Region.noSelect ops = true) (hQ : ∀ c a d v w, Q (.panic c) (a.put d v) w → Q (.panic c) a w) (hR : ∀ a w, R a w → wpAny P md ops Q n0 L0 a w) :
  ∀ (p : Plan) (n : Nat) (l : Array Bool) (a : Act) (w : World), p.okP md ops n0 L0 n l = true → p.wp P ops (barQ Q R) (fun _ => True) a w → wpAnyG P md ops Q n l (fun _ => True) a w := by
 intro p
 induction p with
 | done =>
  intro n l a w hok h
  simp only [Plan.okP, Bool.and_eq_true, beq_iff_eq] at hok
  obtain ⟨rfl, rfl⟩ := hok
  exact wpAnyG_true _ _ _ _ (hR _ _ h)
 | t k p ih =>
  intro n l a w hok h
  cases n with
  | zero => simp [Plan.okP] at hok
  | succ n =>
   simp only [Plan.okP, Bool.and_eq_true] at hok
   obtain ⟨⟨⟨h1, h2⟩, h3⟩, h4⟩ := hok
   obtain ⟨o, ho, hq⟩ := h
   rw [ho] at h3
   obtain ⟨v, hy, hk⟩ := yieldsIf_of_quiet (w := w) (by simpa using h3) trivial hq
   exact wpAnyG_first ho (Region.noSelect_spec hs) (fun c a w => hQ c a _ _ w) n l _ a w (Region.free_spec ho h2) (by simpa using h1) hy trivial (ih n _ _ w h4 hk)
 | u k p ih => intro n l a w hok h; cases n <;> simp [Plan.okP] at hok
 | b k p j q ihp ihq => intro n l a w hok h; cases n <;> simp [Plan.okP] at hok
def marked (E : List Nat) (n : Nat) : Array Bool := ((List.range n).map fun i => E.contains i).toArray
def Middle (P : Program) (l : List Oper) (m : Nat) (Q : Exit → Act → World → Prop) (p q : Plan) (a : Act) (w : World) : Prop := ∃ S : World → Prop, S w ∧ p.wp P l.toArray (barQ Q (Second P l m Q q)) S a w
theorem wp_plan3 {id : Nat} {l : List Oper} {a : Act} {w : World} (E : List Nat) (m : Nat) (pre p q : Plan) (hm : P.follows .mixedOrders = true) (hs : Region.noSelect l.toArray = true)
  (hok : (pre.okP .any l.toArray (m - E.length + (l.length - m)) (marked E l.length) l.length (Array.replicate l.length false) && barredE .any l.toArray E m && p.okE .any l.toArray E m (m - E.length) (marked E l.length) && q.ok .any l.toArray (l.length - m) (firsts m l.length)) = true)
  (hQ : ∀ c a d v w, Q (.panic c) (a.put d v) w → Q (.panic c) a w)
  (h : pre.wp P l.toArray (barQ Q (Middle P l m Q p q)) (fun _ => True) a w.drew) : (Code.region id l.toArray true).wp P Q a w := by
 simp only [Bool.and_eq_true] at hok
 obtain ⟨⟨⟨h0, h1⟩, h2⟩, h3⟩ := hok
 have hg := wpAnyG_of_pre (P := P) (ops := l.toArray) (md := .any) (Q := Q) (n0 := m - E.length + (l.length - m)) (L0 := marked E l.length) (R := Middle P l m Q p q) hs hQ (fun a' w' hmid => by
  obtain ⟨S, hS, hp⟩ := hmid
  have hb := wpAnyE_of_plan (P := P) (R := Second P l m Q q) h1 hs hQ p (m - E.length) (marked E l.length) S a' w' h2 hS hp
  refine wpAny_of_B (P := P) (R := Second P l m Q q) (L := firsts m l.length) (r := l.length - m) (fun a' w' hsec => ?_) _ _ S a' w' (by simpa using hb)
  obtain ⟨S', hS', hp⟩ := hsec
  exact wpAny_of_G _ _ S' _ _ (by
   have := wpAnyG_of_plan (P := P) (md := .any) hs hQ q (l.length - m) (firsts m l.length) S' a' w' h3 hS' hp
   simpa using this)) pre l.length (Array.replicate l.length false) a w.drew h0 h
 exact wp_region_any hm (by simpa using wpAny_of_G _ _ _ _ _ hg)
end
end Go.Proofs.Ytmbjepcbokbemaa
