/- texts of the proof, laid together: Frh, Frj, Frs, Inv, Lit. -/
import Derived.Test.YtmbjepcbokbemaaU16
import Derived.Test.YtmbjepcbokbemaaU10
import Derived.Test.YtmbjepcbokbemaaU15
import Derived.Test.YtmbjepcbokbemaaU12
import Derived.Test.YtmbjepcbokbemaaU2
import Derived.Test.YtmbjepcbokbemaaU1
set_option linter.unusedVariables false
set_option linter.unusedSimpArgs false
set_option maxRecDepth 100000
set_option maxHeartbeats 16000000
namespace Go.Proofs.Ytmbjepcbokbemaa
open Go.RowKit
def RAllR (w : World) (bs : List Int) (e : Ending) (w' : World) : Prop :=
 Below w.heap.size w w' ∧ ((allB bs = none ∧ e = .returned (.tuple #[.slice none 0 0, .bool false])) ∨
  ∃ X a c, allB bs = some (X.map FX.f) ∧ e = .returned (.tuple #[.slice a X.length c, .bool (decide (0 < X.length))]) ∧ (X.length ≤ c ∧ c ≤ 9223372036854775807) ∧ FrsAt w' a X.length X)
theorem rall4_any (w : World) (a : Option Addr) (n cp : Nat) (bs : List Int) (hI : IntsK .u8 w a n bs) (hn : n ≤ 100000) (hc : n ≤ cp ∧ cp ≤ 9223372036854775807) :
  Calls Try.prog 44 #[.slice a n cp] w (RAllR w bs) := by
 have HI := Qh hI
 have hln : bs.length = n := hI.1
 have HLN := Qh hln
 obtain ⟨hc1, hc2⟩ := hc
 clear hI hln
 go_enter Try.func44, Try.ntmps44
 go_wp2_with fail
 go_loopw [0, 4] (fun s0 s4 wr => AllI w n bs s0 s4 wr) (fun s0 s4 _ => match s0 with | .slice _ m _ => m | _ => 0)
 case atStart => exact ⟨a, n, cp, bs, [], rfl, ⟨hc1, hc2, Nat.le_refl _⟩, HI, Qh (Below.refl _ _), Qh (World.ownsRow_nil _ _ _ _), Qh (fun x hx => by cases hx), Qh (by simp), Qh (by simp)⟩
 case round =>
  obtain ⟨a', m, cp', rest, X, rfl, ⟨hm1, hm2, hm3⟩, HI1, HB, HO, HX, HALL, HMX⟩ := hrel
  generalize u4 = v at HO HX ⊢
  by_cases hm0 : 0 < m
  ·
   obtain ⟨b, off, rfl⟩ : ∃ b off, a' = some ⟨b, off, none⟩ := by
    rcases HI1.out.2.2 with h9 | ⟨b, off, h9, _⟩
    ·
     omega
    ·
     exact ⟨b, off, h9⟩
   have HIR := Qh (HI1.out.below HB.out)
   have HLR : Hid (rest.length = m) := Qh HI1.out.1
   have HDC := Qh (rdec4_any wr (some ⟨b, off, none⟩) m cp' rest HIR.out (by omega) ⟨hm1, hm2⟩)
   go_wp2_with fail
   refine Calls.mono HDC.out ?_
   rintro e w1 ⟨hb, hr⟩
   have HVL : Hid (∀ k, v.ownBlock = some k → k < wr.heap.size) := Qh (fun k hk => (HO.out.lt k hk).2)
   replace HB := Qh (bl_next HB.out HB.out.size hb)
   replace HO := Qh (own_below HO.out hb)
   replace HX : Hid (∀ x ∈ X, FrAt w1 x.f x.dv x.rv ∧ FrAp v.ownBlock x.dv x.rv) := Qh (fun x hx => ⟨(HX.out x hx).1.below hb, (HX.out x hx).2⟩)
   clear hb HDC HIR
   rcases hr with ⟨hd, rfl⟩ | ⟨f, r, dv, rv, hd, hrl, rfl, hfr, hlo⟩
   ·
    have HN : Hid (allB bs = none) := Qh (by rw [HALL.out, allB_none hd (by rw [HLR.out]; exact hm0)]; rfl)
    clear hd
    obtain ⟨RF, hRF⟩ : ∃ R, (zeroF 0).cells (.slice none 0 0) (.slice none 0 0) = R := ⟨_, rfl⟩
    have HRF : Hid (RF.length = 19) := Qh (by rw [← hRF]; rfl)
    have HRO : Hid (∀ v ∈ RF, v.oneCell' = true) := Qh (by rw [← hRF]; exact one19 rfl rfl)
    rw [hRF]
    clear hRF
    go_wp2_with (first | (refine wpList_store_row rfl 39 _ _ rfl _ rfl RF ([.int .i64 0, .int .u64 0, .int .u64 0, .slice none 0 0, .bool false, .int .u64 0, .int .u64 0, .int .u64 0, .int .u64 0, .int .u64 0, .slice none 0 0, .int .u8 0, .int .u8 0, .int .u8 0, .int .u8 0, .int .u8 0, .int .u8 0, .int .u8 0, .int .u8 0] : List Value) rfl 39 (heap_alloc_new _ _) (by rw [HRF.out]; rfl) (by rw [HRF.out]; rfl) HRO.out ?_; intro w2 hr hg; have HG := Qh hg; clear hr hg) | fail)
    (try simp only [Exit.inBlock, Exit.then])
    go_ret2
    exact ⟨bl_next HB.out HB.out.size (((Below.refl w1.heap.size w1).alloc (Nat.le_refl _) (.cells ([.int .i64 0, .int .u64 0, .int .u64 0, .slice none 0 0, .bool false, .int .u64 0, .int .u64 0, .int .u64 0, .int .u64 0, .int .u64 0, .slice none 0 0, .int .u8 0, .int .u8 0, .int .u8 0, .int .u8 0, .int .u8 0, .int .u8 0, .int .u8 0, .int .u8 0] : List Value).toArray 39)).grown HG.out ((Below.refl w1.heap.size w1).alloc (Nat.le_refl _) (.cells ([.int .i64 0, .int .u64 0, .int .u64 0, .slice none 0 0, .bool false, .int .u64 0, .int .u64 0, .int .u64 0, .int .u64 0, .int .u64 0, .slice none 0 0, .int .u8 0, .int .u8 0, .int .u8 0, .int .u8 0, .int .u8 0, .int .u8 0, .int .u8 0, .int .u8 0] : List Value).toArray 39)).size (by intro k hk; injection hk with hk; omega)), .inl ⟨HN.out, rfl⟩⟩
   ·
    have hrl2 := (dec_suf hd).2
    rw [HLR.out] at hrl2
    obtain ⟨k, hk⟩ : ∃ k : Nat, (rest.length : Int) - r.length = k ∧ k = m - r.length := ⟨m - r.length, by rw [HLR.out]; omega, rfl⟩
    rw [hk.1]
    have HKM : Hid (k ≤ m ∧ 1 ≤ k ∧ m - k = r.length) := Qh (by have := hk.2; omega)
    have hdr := dec_drop hd
    rw [HLR.out, ← hk.2] at hdr
    have HI2 : Hid (cp' = k → IntsK .u8 w (some ⟨b, off, none⟩) (m - k) r) := Qh (fun e => by have h9 := HI1.out.sufC k cp' HKM.out.1 hm1; rw [if_pos e] at h9; rw [← hdr]; exact h9)
    have HI3 : Hid (IntsK .u8 w (some ⟨b, off + k, none⟩) (m - k) r) := Qh (by rw [← hdr]; exact HI1.out.suf k HKM.out.1)
    have HI4 : Hid (IntsK .u8 w (if cp' = k then some ⟨b, off, none⟩ else some ⟨b, off + k, none⟩) (m - k) r) := Qh (by have h9 := HI1.out.sufC k cp' HKM.out.1 hm1; rw [← hdr]; exact h9)
    have HN : Hid (allB bs = (allB r).map ((X ++ [(⟨f, dv, rv⟩ : FX)]).map FX.f ++ ·)) := Qh (by rw [HALL.out, allB_some hd, Option.map_map]; congr 1; funext t; simp)
    have HAP : Hid (FrAp v.ownBlock dv rv) := Qh (hlo.ap HVL.out)
    have HFR := Qh hfr
    have HOK := Qh hfr.ok
    clear hd hrl hrl2 hk hdr HALL hlo hfr HVL
    have HRF : Hid ((f.cells dv rv).length = 19) := Qh (Fr.len HFR.out.wf)
    have HRO : Hid (∀ v ∈ f.cells dv rv, v.oneCell' = true) := Qh (Fr.one HFR.out)
    obtain ⟨RF, hRF⟩ : ∃ R, f.cells dv rv = R := ⟨_, rfl⟩
    rw [hRF] at HRF HRO
    have HRE := Qh hRF
    rw [hRF]
    clear hRF
    have hk0 : (((k : Nat) : Int) == 0) = false := by have := HKM.out.2.1; simp; omega
    go_upto_region 6 with (first | (refine wpList_store_row rfl 39 _ _ rfl _ rfl RF ([.int .i64 0, .int .u64 0, .int .u64 0, .slice none 0 0, .bool false, .int .u64 0, .int .u64 0, .int .u64 0, .int .u64 0, .int .u64 0, .slice none 0 0, .int .u8 0, .int .u8 0, .int .u8 0, .int .u8 0, .int .u8 0, .int .u8 0, .int .u8 0, .int .u8 0] : List Value) rfl 39 (heap_alloc_new _ _) (by rw [HRF.out]; rfl) (by rw [HRF.out]; rfl) HRO.out ?_; intro w2 hr hg) | fail)
    have hal := (Below.refl w1.heap.size w1).alloc (Nat.le_refl _) (.cells (([.int .i64 0, .int .u64 0, .int .u64 0, .slice none 0 0, .bool false, .int .u64 0, .int .u64 0, .int .u64 0, .int .u64 0, .int .u64 0, .slice none 0 0, .int .u8 0, .int .u8 0, .int .u8 0, .int .u8 0, .int .u8 0, .int .u8 0, .int .u8 0, .int .u8 0] : List Value)).toArray 39)
    have hb : Below w1.heap.size w1 w2 := hal.grown hg hal.size (by intro k hk; injection hk with hk; omega)
    replace HB := Qh (bl_next HB.out HB.out.size hb)
    replace HO := Qh (own_below HO.out hb)
    replace HFR := Qh (HFR.out.below hb)
    replace HX := Qh (fun x hx => (⟨(HX.out x hx).1.below hb, (HX.out x hx).2⟩ : FrAt _ x.f x.dv x.rv ∧ FrAp v.ownBlock x.dv x.rv))
    have HF := Qh (hr)
    clear hr hg hal hb
    obtain ⟨gf, hg⟩ : ∃ g, w1.heap.size = g := ⟨_, rfl⟩
    rw [hg] at HF ⊢
    clear hg
    have hal := (Below.refl w2.heap.size w2).alloc (Nat.le_refl _) (.cells (frK.flat [⟨f, dv, rv⟩]).toArray 39)
    have HOA : Hid ((w2.alloc (.cells (frK.flat [⟨f, dv, rv⟩]).toArray 39)).ownsRow w.heap.size 39 19 v X.length (frK.flat X)) := Qh (own_below HO.out hal)
    have HE9 := Qh (FrsAt.one HFR.out).row
    have HBA : Hid (w.heap.size ≤ (w2.alloc (.cells (frK.flat [⟨f, dv, rv⟩]).toArray 39)).heap.size) := Qh (Nat.le_trans HB.out.size hal.size)
    have hnx : X.length + 1 ≤ 1000000 := by have := HMX.out; omega
    obtain ⟨va, vc, rfl, hvc⟩ := sl_own HO.out
    have hkm := HKM.out.1
    go_wp2_with (first | (refine wpList_load_mid rfl 39 _ rfl gf 0 rfl RF _ (rngL HF.out) Try.underlying39 rfl (by rw [HRF.out]; rfl) ?_) | (refine wpList_build_rk frT rfl _ rfl ⟨f, dv, rv⟩ HOK.out (by show _ = Value.agg (f.cells dv rv).toArray; rw [HRE.out]; rfl) ?_) | (at_builtin; refine wpList_append_rk frT rfl _ _ rfl w.heap.size X.length _ X rfl HOA.out (some ⟨w2.heap.size, 0, none⟩) 1 1 [⟨f, dv, rv⟩] rfl HE9.out hnx HBA.out ?_; intro v' w3 ho hg hor; have HO3 := Qh ho; have HG3 := Qh hg; have HOR := Qh hor; clear ho hg hor) | fail)
    all_goals skip
    all_goals
     have HX3 : Hid (∀ x ∈ X ++ [(⟨f, dv, rv⟩ : FX)], FrAt w3 x.f x.dv x.rv ∧ FrAp v'.ownBlock x.dv x.rv) := Qh (fun x hx => by
      have hboth : FrAt (w2.alloc (.cells (frK.flat [⟨f, dv, rv⟩]).toArray 39)) x.f x.dv x.rv ∧ FrAp (Value.slice va X.length vc).ownBlock x.dv x.rv := by
       rcases List.mem_append.1 hx with h9 | h9
       ·
        exact ⟨(HX.out x h9).1.below hal, (HX.out x h9).2⟩
       ·
        rw [List.mem_singleton.1 h9]; exact ⟨HFR.out.below hal, HAP.out⟩
      refine ⟨hboth.1.grown HG3.out hboth.2, ?_⟩
      rcases HOR.out with h9 | h9
      ·
       rw [h9]; exact hboth.2
      ·
       rw [h9]; exact hboth.1.apart (Nat.le_refl _))
     have HB3 : Hid (Below w.heap.size w w3) := Qh ((bl_next HB.out HB.out.size hal).grown HG3.out HBA.out (own_base HOA.out))
     have HO4 : Hid (w3.ownsRow w.heap.size 39 19 v' (X ++ [(⟨f, dv, rv⟩ : FX)]).length (frK.flat (X ++ [⟨f, dv, rv⟩]))) := Qh (by rw [List.length_append]; exact HO3.out)
     clear hal HO HX HFR HF HOA HE9 HBA HG3 HOR HO3 HB
     go_roundw
     case rel => exact ⟨_, m - k, _, r, X ++ [⟨f, dv, rv⟩], rfl, ⟨by have := HKM.out; omega, by omega, by have := HKM.out; omega⟩, Qh (by first | exact HI4.out | exact HI3.out | exact HI2.out (by first | assumption | rfl | (symm; assumption))), HB3, HO4, HX3, HN, Qh (by have := HKM.out; have := HMX.out; rw [List.length_append, List.length_singleton]; omega)⟩
     case measure => have := HKM.out; simp; omega
  ·
   obtain rfl : m = 0 := by omega
   have hre : rest = [] := List.eq_nil_of_length_eq_zero HI1.out.1
   have HN : Hid (allB bs = some (X.map FX.f)) := Qh (by rw [HALL.out, hre, allB_nil]; simp)
   clear hre HALL
   obtain ⟨va, vc, rfl, hv1, hv2⟩ := sl_own HO.out
   have HAT := Qh (RK.At.of_own (K := frK) HO.out (fun x hx => (HX.out x hx).1.ok))
   go_wp2_with fail
   (try simp only [Exit.inBlock, Exit.then])
   go_ret2
   exact ⟨HB.out, .inr ⟨X, va, vc, HN.out, by first | rfl | (simp; done) | (congr 3; simp), ⟨hv1, hv2⟩, HAT.out, fun x hx => (HX.out x hx).1⟩⟩
end Go.Proofs.Ytmbjepcbokbemaa
namespace Go.Proofs.Ytmbjepcbokbemaa
open Go.RowKit
theorem same_refl (f : Fr) : sameF f f = true := by
 unfold sameF
 simp only [decide_true, Bool.true_and, Bool.and_self]
 repeat' split
 all_goals rfl
theorem dec_right {bs : List Int} {f : Fr} {r : List Int} (h : decF bs = some (f, r)) : rightB f = true := by
 unfold decF at h
 split at h
 ·
  cases h
 ·
  generalize frameR (varM bs false).1 (varM bs false).2.1 (varM bs false).2.2 = q at h
  obtain ⟨o, r2, b⟩ := q
  cases o with
  | none => cases h
  | some g =>
   unfold endF at h
   simp only at h
   split at h
   ·
    cases h
   ·
    rename_i hn
    injection h with h; injection h with h1 h2; subst h1
    cases hg : rightB g with
    | true => rfl
    | false => exact absurd (.inr hg) hn
theorem allF_right : ∀ (n : Nat) (bs : List Int) (L : List Fr), allF n bs = some L → ∀ f ∈ L, rightB f = true
 | n, [], L, h, f, hf => by cases n <;> (simp only [allF] at h; injection h with h; subst h; cases hf)
 | 0, b :: t, L, h, f, hf => by simp [allF] at h
 | n + 1, b :: t, L, h, f, hf => by
  cases hd : decF (b :: t) with
  | none => simp [allF, hd] at h
  | some q =>
   obtain ⟨g, r⟩ := q
   cases ha : allF n r with
   | none => simp [allF, hd, ha] at h
   | some M =>
    simp [allF, hd, ha] at h
    subst h
    rcases List.mem_cons.1 hf with rfl | hf
    ·
     exact dec_right hd
    ·
     exact allF_right n r M ha f hf
theorem allF_ne : ∀ (n : Nat) (bs : List Int), bs ≠ [] → allF n bs ≠ some []
 | n, [], h => absurd rfl h
 | 0, b :: t, _ => by simp [allF]
 | n + 1, b :: t, _ => by
  cases hd : decF (b :: t) with
  | none => simp [allF, hd]
  | some q => obtain ⟨g, r⟩ := q; cases ha : allF n r <;> simp [allF, hd, ha]
def DecB (w1 w2 : World) (f1 f2 : Value) (n1 n2 e1 : Int) : Prop := ∃ (f : Fr) (d1 r1 d2 r2 : Value), f1 = .agg (f.cells d1 r1).toArray ∧ f2 = .agg (f.cells d2 r2).toArray ∧ FrAt w1 f d1 r1 ∧ FrAt w2 f d2 r2 ∧ (f.kind = 2 → f.rg.length ≤ 1000000) ∧ n1 = n2 ∧ ((e1 = 12 ∧ n1 = 0) ∨ (e1 = 0 ∧ 0 < n1))
theorem dec_both {w w1 y w2 : World} {bs : List Int} {e1 e2 : Ending} (h1 : DecR w bs e1 w1) (h2 : RDecR y bs e2 w2) : ∃ f1 f2 n1 n2 v1, e1 = .returned (.tuple #[f1, .int .i64 n1, .int .i64 v1]) ∧ e2 = .returned (.tuple #[f2, .int .i64 n2]) ∧ DecB w1 w2 f1 f2 n1 n2 v1 := by
 rcases h1.2 with ⟨k1, rfl⟩ | ⟨f, r, dv, rv, k1, k2, rfl, k3, _⟩
 ·
  rcases h2.2 with ⟨m1, rfl⟩ | ⟨f, r, dv, rv, m1, _⟩
  ·
   exact ⟨_, _, _, _, _, rfl, rfl, zeroF 0, _, _, _, _, rfl, rfl, FrAt.zero _ 0 (by omega), FrAt.zero _ 0 (by omega), (fun h => absurd h (by decide)), rfl, .inl ⟨rfl, rfl⟩⟩
  ·
   rw [k1] at m1; cases m1
 ·
  rcases h2.2 with ⟨m1, rfl⟩ | ⟨g, r2, dv2, rv2, m1, m2, rfl, m3, _⟩
  ·
   rw [k1] at m1; cases m1
  ·
   rw [k1] at m1; injection m1 with m1; injection m1 with m1 m4; subst m1; subst m4
   have hl := (dec_suf k1).2
   exact ⟨_, _, _, _, _, rfl, rfl, f, _, _, _, _, rfl, rfl, k3, m3, right_rgq (dec_right k1), rfl, .inr ⟨rfl, by omega⟩⟩
def AllBo (w2 : World) (l1 l2 : Value) (e1 : Int) (ok : Bool) : Prop := (e1 = 12 ∧ l1 = .slice none 0 0 ∧ ok = false ∧ ∃ a n c, l2 = .slice a n c) ∨ (e1 = 0 ∧ ok = true ∧ ∃ X Y a b c d, l1 = .slice a X.length c ∧ l2 = .slice b X.length d ∧ FrsAt w2 a X.length X ∧ FrsAt w2 b X.length Y ∧ X.length ≤ 1000000 ∧ (∀ (i : Nat) (x z : FX), X[i]? = some x → Y[i]? = some z → sameF x.f z.f = true) ∧ ∀ x ∈ X, x.f.kind = 2 → x.f.rg.length ≤ 1000000)
theorem all_len : ∀ (n : Nat) (bs : List Int) (L : List Fr), allF n bs = some L → L.length ≤ n
 | n, [], L, h => by cases n <;> (simp only [allF] at h; injection h with h; subst h; simp)
 | 0, b :: t, L, h => by simp [allF] at h
 | n + 1, b :: t, L, h => by
  cases hd : decF (b :: t) with
  | none => simp [allF, hd] at h
  | some q =>
   obtain ⟨g, r⟩ := q
   cases ha : allF n r with
   | none => simp [allF, hd, ha] at h
   | some M =>
    simp [allF, hd, ha] at h
    subst h
    have := all_len n r M ha
    simp; omega
theorem all_both {w w1 w2 : World} {bs : List Int} {e1 e2 : Ending} (hn : bs.length ≤ 100000) (h1 : AllR w bs e1 w1) (h2 : RAllR w1 bs e2 w2) : ∃ l1 l2 v1 ok, e1 = .returned (.tuple #[l1, .int .i64 v1]) ∧ e2 = .returned (.tuple #[l2, .bool ok]) ∧ AllBo w2 l1 l2 v1 ok := by
 rcases h1.2 with ⟨k1, rfl⟩ | ⟨k0, X, a, c, k1, rfl, _, k4⟩
 ·
  rcases h2.2 with ⟨m1, rfl⟩ | ⟨Y, b, d, m1, rfl, _, _⟩
  ·
   exact ⟨_, _, _, _, rfl, rfl, .inl ⟨rfl, rfl, rfl, _, _, _, rfl⟩⟩
  ·
   have hY : Y.length = 0 := by
    rcases k1 with k1 | k1
    ·
     subst k1; rw [allB_nil] at m1; injection m1 with m1; have := congrArg List.length m1; simpa using this.symm
    ·
     rw [k1] at m1; cases m1
   exact ⟨_, _, _, _, rfl, rfl, .inl ⟨rfl, rfl, by simp [hY], _, _, _, rfl⟩⟩
 ·
  rcases h2.2 with ⟨m1, rfl⟩ | ⟨Y, b, d, m1, rfl, _, m4⟩
  ·
   rw [k1] at m1; cases m1
  ·
   have hXY : X.map FX.f = Y.map FX.f := by rw [k1] at m1; injection m1
   have hl : Y.length = X.length := by have := congrArg List.length hXY; simpa using this.symm
   have hX0 : 0 < X.length := by
    cases X with
    | nil => exact absurd k1 (allF_ne _ _ k0)
    | cons x X => simp
   have hXn : X.length ≤ 1000000 := by have := all_len _ _ _ k1; rw [List.length_map] at this; omega
   rw [hl] at m4
   refine ⟨_, _, _, _, rfl, rfl, .inr ⟨rfl, by simp [hl, hX0], X, Y, a, b, c, d, rfl, by rw [hl], k4.below h2.1, m4, hXn, fun i x z hx hz => ?_, fun x hx hk => right_rgq (allF_right _ _ _ k1 x.f (List.mem_map_of_mem hx)) hk⟩⟩
   have e1 : (X.map FX.f)[i]? = some x.f := by rw [List.getElem?_map, hx]; rfl
   rw [hXY, List.getElem?_map, hz] at e1
   injection e1 with e1
   rw [e1]; exact same_refl _
theorem decodes4_any (w : World) (a : Option Addr) (n cp : Nat) (bs : List Int) (hI : IntsK .u8 w a n bs) (hn : n ≤ 100000) (hc : n ≤ cp ∧ cp ≤ 9223372036854775807) :
  Calls Try.prog 20 #[.slice a n cp] w fun e w' => e = .returned (.bool true) ∧ Below w.heap.size w w' := by
 have HI := Qh hI
 have hln : bs.length = n := hI.1
 have hbl : bs.length ≤ 100000 := by omega
 have HBL := Qh hbl
 have HD1 := Qh (dec4_any w a n cp bs hI (by omega) hc)
 have HD2 := Qh (fun u hu => rdec4_any u a n cp bs hu (by omega) hc)
 have HA1 := Qh (fun u hu => all4_any u a n cp bs hu hn hc)
 have HA2 := Qh (fun u hu => rall4_any u a n cp bs hu hn hc)
 clear hI hln hbl hc
 go_enter Try.func20, Try.ntmps20
 go_wp2_with fail
 refine Calls.mono HD1.out ?_
 rintro e1 w1 hd1
 obtain ⟨f1, n1, v1, he, hfo⟩ : ∃ f1 n1 v1, e1 = .returned (.tuple #[f1, .int .i64 n1, .int .i64 v1]) ∧ ∃ (f : Fr) (d r : Value), f1 = .agg (f.cells d r).toArray ∧ FrAt w1 f d r := by
  rcases hd1.2 with ⟨_, rfl⟩ | ⟨f, r, dv, rv, _, _, rfl, k, _⟩
  ·
   exact ⟨_, _, _, rfl, zeroF 0, _, _, rfl, FrAt.zero _ 0 (by omega)⟩
  ·
   exact ⟨_, _, _, rfl, f, dv, rv, rfl, k⟩
 subst he
 obtain ⟨f, d1, r1, rfl, hfa⟩ := hfo
 have HFA := Qh hfa; have HDE := Qh hd1
 have HB := Qh hd1.1
 clear hfa hd1 HD1
 have HRF : Hid ((f.cells d1 r1).length = 19) := Qh (Fr.len HFA.out.wf)
 have HRO := Qh (Fr.one HFA.out)
 obtain ⟨RF, hRF⟩ : ∃ R, f.cells d1 r1 = R := ⟨_, rfl⟩
 have HRE := Qh hRF
 rw [hRF] at HRF HRO ⊢
 clear hRF
 go_upto_region 2 with (first | (refine wpList_store_row rfl 39 _ _ rfl _ rfl RF ([.int .i64 0, .int .u64 0, .int .u64 0, .slice none 0 0, .bool false, .int .u64 0, .int .u64 0, .int .u64 0, .int .u64 0, .int .u64 0, .slice none 0 0, .int .u8 0, .int .u8 0, .int .u8 0, .int .u8 0, .int .u8 0, .int .u8 0, .int .u8 0, .int .u8 0] : List Value) rfl 39 (heap_alloc_new _ _) (by rw [HRF.out]; rfl) (by rw [HRF.out]; rfl) HRO.out ?_; intro w2 hr hg) | fail)
 have hal := (Below.refl w1.heap.size w1).alloc (Nat.le_refl _) (.cells ([.int .i64 0, .int .u64 0, .int .u64 0, .slice none 0 0, .bool false, .int .u64 0, .int .u64 0, .int .u64 0, .int .u64 0, .int .u64 0, .slice none 0 0, .int .u8 0, .int .u8 0, .int .u8 0, .int .u8 0, .int .u8 0, .int .u8 0, .int .u8 0, .int .u8 0] : List Value).toArray 39)
 have hb : Below w1.heap.size w1 w2 := hal.grown hg hal.size (by intro k hk; injection hk with hk; omega)
 replace HB := Qh (bl_next HB.out HB.out.size hb)
 have HG1 := Qh (hr)
 have HB12 := Qh hb
 clear hr hg hal hb
 obtain ⟨g1, hg⟩ : ∃ g, w1.heap.size = g := ⟨_, rfl⟩
 rw [hg] at HG1 ⊢
 clear hg
 have HIC := Qh (HD2.out w2 (HI.out.below HB.out))
 go_wp2_with fail
 refine Calls.mono HIC.out ?_
 rintro e2 w3 hd2
 obtain ⟨f1', f2, n1', n2, v1', he1, he2, hbo⟩ := dec_both HDE.out hd2
 injection he1 with he1; injection he1 with he1
 have hpe := congrArg Array.toList he1
 simp only [List.cons.injEq, and_true] at hpe
 obtain ⟨hp1, hp2, hp3⟩ := hpe
 subst hp1
 injection hp2 with _ hp2; injection hp3 with _ hp3; subst hp2; subst hp3
 subst he2
 obtain ⟨f', e1, s1, d2, r2, hq1, rfl, hA1, hA2, hkr, rfl, hev⟩ := hbo
 have hb := hd2.1
 replace HB := Qh (bl_next HB.out HB.out.size hb)
 replace HG1 := Qh (bl_row hb (lt_of_block HG1.out) HG1.out)
 clear he1 HIC HDE
 have HB13 := Qh (bl_next HB12.out HB12.out.size hb)
 have HF1 := Qh (hA1.below HB13.out); have HF2 := Qh hA2
 clear hb hd2 hA1 hA2
 have HEV := Qh hev; have HKR := Qh hkr
 clear hev hkr
 have HRF2 : Hid ((f'.cells d2 r2).length = 19) := Qh (Fr.len HF2.out.wf)
 have HRO2 := Qh (Fr.one HF2.out)
 have hsm := fun u hu1 hu2 => rsame4_any u f' f' e1 s1 d2 r2 hu1 hu2 HKR.out
 simp only [same_refl] at hsm
 obtain ⟨RA, hRA⟩ : ∃ R, f'.cells e1 s1 = R := ⟨_, rfl⟩
 obtain ⟨RB, hRB⟩ : ∃ R, f'.cells d2 r2 = R := ⟨_, rfl⟩
 simp only [hRA, hRB] at hsm
 rw [hRB] at HRF2 HRO2 ⊢
 have HRAE : Hid (RA = RF) := Qh (by rw [hRA] at hq1; injection hq1 with hq1; exact (congrArg Array.toList hq1).symm.trans HRE.out)
 have hrae := HRAE.out
 subst hrae
 have HSM := Qh hsm
 clear hsm hq1 hRA hRB HRE HRAE HFA
 go_upto_region 3 with (first | (refine wpList_store_row rfl 39 _ _ rfl _ rfl RB ([.int .i64 0, .int .u64 0, .int .u64 0, .slice none 0 0, .bool false, .int .u64 0, .int .u64 0, .int .u64 0, .int .u64 0, .int .u64 0, .slice none 0 0, .int .u8 0, .int .u8 0, .int .u8 0, .int .u8 0, .int .u8 0, .int .u8 0, .int .u8 0, .int .u8 0] : List Value) rfl 39 (heap_alloc_new _ _) (by rw [HRF2.out]; rfl) (by rw [HRF2.out]; rfl) HRO2.out ?_; intro w4 hr hg) | fail)
 have hal := (Below.refl w3.heap.size w3).alloc (Nat.le_refl _) (.cells ([.int .i64 0, .int .u64 0, .int .u64 0, .slice none 0 0, .bool false, .int .u64 0, .int .u64 0, .int .u64 0, .int .u64 0, .int .u64 0, .slice none 0 0, .int .u8 0, .int .u8 0, .int .u8 0, .int .u8 0, .int .u8 0, .int .u8 0, .int .u8 0, .int .u8 0] : List Value).toArray 39)
 have hb : Below w3.heap.size w3 w4 := hal.grown hg hal.size (by intro k hk; injection hk with hk; omega)
 replace HB := Qh (bl_next HB.out HB.out.size hb)
 replace HG1 := Qh (bl_row hb (lt_of_block HG1.out) HG1.out)
 have HG2 := Qh (hr)
 replace HF1 := Qh (HF1.out.below hb)
 replace HF2 := Qh (HF2.out.below hb)
 clear hr hg hal hb
 obtain ⟨g2, hg⟩ : ∃ g, w3.heap.size = g := ⟨_, rfl⟩
 rw [hg] at HG2 ⊢
 clear hg
 have HCL := Qh (HSM.out w4 HF1.out HF2.out)
 have q1 : (n1 != n1) = false := by simp
 clear HSM HF1 HF2
 rcases HEV.out with ⟨rfl, rfl⟩ | ⟨rfl, h0⟩
 all_goals
  go_wp2_with (first | (refine wpList_load_g 39 _ rfl (by kernel_rfl) g1 0 rfl RA _ (rngL HG1.out) Try.underlying39 rfl (by rw [HRF.out]; rfl) ?_) | (refine wpList_load_g 39 _ rfl (by kernel_rfl) g2 0 rfl RB _ (rngL HG2.out) Try.underlying39 rfl (by rw [HRF2.out]; rfl) ?_) | fail)
  refine Calls.mono HCL.out ?_
  rintro e w5 ⟨rfl, hb⟩
  replace HB := Qh (bl_next HB.out HB.out.size hb)
  clear hb HCL HG1 HG2
  have HIC := Qh (HA1.out w5 (HI.out.below HB.out))
  go_wp2_with fail
  refine Calls.mono HIC.out ?_
  rintro e6 w6 ha1
  obtain ⟨l9, v9, he6⟩ : ∃ l9 v9, e6 = .returned (.tuple #[l9, .int .i64 v9]) := by rcases ha1.2 with ⟨_, h⟩ | ⟨_, X, a, c, _, h, _⟩ <;> exact ⟨_, _, h⟩
  subst he6
  have HAA := Qh ha1
  replace HB := Qh (bl_next HB.out HB.out.size ha1.1)
  clear ha1 HIC
  have HIC := Qh (HA2.out w6 (HI.out.below HB.out))
  go_wp2_with fail
  refine Calls.mono HIC.out ?_
  rintro e7 w7 ha2
  obtain ⟨l1, l2, v8, ok, he1, he2, hab⟩ := all_both HBL.out HAA.out ha2
  injection he1 with he1; injection he1 with he1
  have hpe := congrArg Array.toList he1
  simp only [List.cons.injEq, and_true] at hpe
  obtain ⟨hp1, hp2⟩ := hpe
  subst hp1
  injection hp2 with _ hp2; subst hp2
  subst he2
  replace HB := Qh (bl_next HB.out HB.out.size ha2.1)
  clear he1 HIC HAA ha2
  rcases hab with ⟨rfl, rfl, rfl, a2, m2, c2, rfl⟩ | ⟨rfl, rfl, X, Y, a1, a2, c1, c2, rfl, rfl, hX, hY, hxl, hxs, hxr⟩
  ·
   go_wp2_with fail
   go_ret
   exact ⟨rfl, HB.out⟩
  ·
   have HLI := Qh (rlists4_true w7 a1 a2 X.length c1 c2 X Y hX hY hxl hxs hxr)
   clear hX hY hxs hxr
   go_wp2_with fail
   refine Calls.mono HLI.out ?_
   rintro e w8 ⟨rfl, hb⟩
   have HBZ := Qh (bl_next HB.out HB.out.size hb)
   clear hb
   go_wp2_with fail
   go_ret
   exact ⟨rfl, HBZ.out⟩
end Go.Proofs.Ytmbjepcbokbemaa
namespace Go.Proofs.Ytmbjepcbokbemaa
open Go.RowKit
theorem same4_core (w : World) (N M : Fr) (RA RB : List Value) (HLA : Hid (RA.length = 19)) (HLB : Hid (RB.length = 19)) (hrl : N.rg.length ≤ 1000000) (hrm : M.rg.length ≤ 1000000) (HCA : Hid (∀ u, Below w.heap.size w u → Calls Try.prog 25 #[.agg RA.toArray] u fun e w' => ∃ dv' rv', e = .returned (.agg (N.cells dv' rv').toArray) ∧ FrAt w' N dv' rv' ∧ FrLo u.heap.size dv' rv' ∧ Below u.heap.size u w')) (HCB : Hid (∀ u, Below w.heap.size w u → Calls Try.prog 25 #[.agg RB.toArray] u fun e w' => ∃ dv' rv', e = .returned (.agg (M.cells dv' rv').toArray) ∧ FrAt w' M dv' rv' ∧ FrLo u.heap.size dv' rv' ∧ Below u.heap.size u w')) :
  Calls Try.prog 17 #[.agg RA.toArray, .agg RB.toArray] w fun e w' => e = .returned (.bool (eqN N M)) ∧ Below w.heap.size w w' := by
 have HB := Qh (Below.refl w.heap.size w)
 unfold eqN
 go_enter Try.func17, Try.ntmps17
 go_upto_region 1 with fail
 change Code.wp _ _ _ _ ((w.alloc (.cells RA.toArray 39)).alloc (.cells RB.toArray 39))
 obtain ⟨ga, hg0⟩ : ∃ g, w.heap.size = g := ⟨_, rfl⟩
 try rw [hg0]
 have hb := (Below.refl w.heap.size w).alloc (Nat.le_refl _) (.cells RA.toArray 39)
 have hrw := heap_alloc_new w (.cells RA.toArray 39)
 have hsz : (w.alloc (.cells RA.toArray 39)).heap.size = ga + 1 := by simp [hg0]
 rw [hg0] at hrw
 replace HB := Qh (bl_next HB.out HB.out.size hb)
 have HA := Qh hrw
 clear hb hrw
 generalize w.alloc (.cells RA.toArray 39) = w1 at HB HA hsz ⊢
 have hg1 := hsz
 clear hsz
 have HG0 := Qh hg0
 clear hg0
 have hb := (Below.refl w1.heap.size w1).alloc (Nat.le_refl _) (.cells RB.toArray 39)
 have hrw := heap_alloc_new w1 (.cells RB.toArray 39)
 have hsz : (w1.alloc (.cells RB.toArray 39)).heap.size = ga + 1 + 1 := by simp [hg1]
 rw [hg1] at hrw
 replace HB := Qh (bl_next HB.out HB.out.size hb)
 replace HA := Qh (bl_row hb (lt_of_block HA.out) HA.out)
 have HG := Qh hrw
 clear hb hrw
 generalize w1.alloc (.cells RB.toArray 39) = w2 at HB HA HG hsz ⊢
 have hg2 := hsz
 clear hsz
 clear hg1
 obtain ⟨gb, hgg⟩ : ∃ g, ga + 1 = g := ⟨_, rfl⟩
 rw [hgg] at HG hg2 ⊢
 have HLTgb : Hid (ga < gb) := Qh (by omega)
 clear hgg
 clear hg2
 have hne : ga ≠ gb := by have := HLTgb.out; omega
 refine sm_copy _ HA HG HLA HLB hne (Qh (fun u hu => HCA.out u (bl_next HB.out HB.out.size hu))) (Qh (fun u hu => HCB.out u (bl_next HB.out HB.out.size hu))) (fun c a d v w h => by cases d <;> exact h) ?_
 rintro _ _ _ _ w9 d1 r1 d2 r2 HA9 HG9 HF1 HF2 HBB
 have HB9 : Hid (Below w.heap.size w w9) := Qh (by have h9 := HBB.out w.heap.size (by have := HG0.out; omega) (by have := HG0.out; have := HLTgb.out; omega) HB.out.size; exact HB.out.trans h9)
 clear HBB HCA HCB HA HG HB hne
 go_upto_region 2 with fail
 refine sm_nums _ HA9 HG9 (fun c a d v w h => by cases d <;> exact h) ?_
 rintro _ _ _ _ _ _ _ _ _ _ _ _ _ _ _ _ _ _ _ _ _ _ _ _ _ _ _ _ _ _ _ _ _ _ _ _ _ _ _ _ _ _ _ _ _ _ _ _ _ _ _ _ _ _ wn HWN
 obtain rfl := HWN.out
 obtain ⟨b5, hb5⟩ : ∃ b, eqN1 N M = b := ⟨_, rfl⟩
 rw [hb5]
 have HB5 := Qh hb5
 clear hb5
 go_upto_region 3 with fail
 refine sm_rest _ HA9 HG9 HF1 HF2 hrl hrm (fun c a d v w h => by cases d <;> exact h) ?_
 rintro _ _ _ _ _ _ _ _ _ _ _ _ _ _ _ _ _ _ _ _ _ _ _ _ _ _ _ _ _ _ _ w10 HB10
 have HBZ := Qh (bl_next HB9.out HB9.out.size HB10.out)
 go_wp2_with fail
 go_ret
 exact ⟨by rw [HB5.out]; rfl, HBZ.out⟩
theorem nrm_rg_le {f : Fr} (h : f.kind = 2 → f.rg.length ≤ 1000000) : (nrmF f).rg.length ≤ 1000000 := by
 by_cases h2 : f.kind = 2
 ·
  unfold nrmF; rw [if_pos h2]; exact h h2
 ·
  unfold nrmF
  rw [if_neg h2]
  repeat' split
  all_goals simp [zeroF]
theorem nrm_kindT (f : Fr) : (nrmF f).kind = f.kind := by
 unfold nrmF
 by_cases h2 : f.kind = 2
 ·
  rw [if_pos h2]; exact h2.symm
 rw [if_neg h2]
 by_cases h4 : f.kind = 4
 ·
  rw [if_pos h4]; exact h4.symm
 rw [if_neg h4]
 by_cases h5 : f.kind = 5
 ·
  rw [if_pos h5]; exact h5.symm
 rw [if_neg h5]
 by_cases h6 : f.kind = 6
 ·
  rw [if_pos h6]; exact h6.symm
 rw [if_neg h6]
 by_cases h8 : f.kind = 8
 ·
  rw [if_pos h8]; exact h8.symm
 rw [if_neg h8]
 by_cases h16 : f.kind = 16 ∨ f.kind = 18 ∨ f.kind = 20
 ·
  rw [if_pos h16]; rfl
 rw [if_neg h16]
 by_cases h17 : f.kind = 17
 ·
  rw [if_pos h17]; exact h17.symm
 rw [if_neg h17]
 by_cases h24 : f.kind = 24
 ·
  rw [if_pos h24]; exact h24.symm
 rw [if_neg h24]
 by_cases h25 : f.kind = 25
 ·
  rw [if_pos h25]; exact h25.symm
 rw [if_neg h25]
 by_cases h26 : f.kind = 26 ∨ f.kind = 27
 ·
  rw [if_pos h26]; rfl
 rw [if_neg h26]
 by_cases h28 : f.kind = 28
 ·
  rw [if_pos h28]; exact h28.symm
 rw [if_neg h28]
 rfl
theorem bool_beq (x y : Bool) : (x == y) = decide (x = y) := by cases x <;> cases y <;> rfl
theorem cid_beq (x y : List Int) : (x == y) = decide (x = y) := by rw [Bool.eq_iff_iff]; simp
theorem and_ac (a b c : Bool) : (a && (b && c)) = (b && (a && c)) := by cases a <;> cases b <;> rfl
theorem eq_same (f g : Fr) : eqN (nrmF f) (nrmF g) = sameF f g := by
 by_cases hk : f.kind = g.kind
 ·
  have hd : ∀ x y : Int, (x == y) = decide (x = y) := int_beq
  by_cases h2 : f.kind = 2
  ·
   have hg2 : g.kind = 2 := by omega
   simp [nrmF, sameF, eqN, eqN1, eqN2, h2, hg2, zeroF, hd, bool_beq, cid_beq, Bool.and_assoc, and_ac]
  by_cases h4 : f.kind = 4
  ·
   have hg4 : g.kind = 4 := by omega
   simp [nrmF, sameF, eqN, eqN1, eqN2, h4, hg4, zeroF, hd, bool_beq, cid_beq, Bool.and_assoc, and_ac]
  by_cases h5 : f.kind = 5
  ·
   have hg5 : g.kind = 5 := by omega
   simp [nrmF, sameF, eqN, eqN1, eqN2, h5, hg5, zeroF, hd, bool_beq, cid_beq, Bool.and_assoc, and_ac]
  by_cases h6 : f.kind = 6
  ·
   have hg6 : g.kind = 6 := by omega
   simp [nrmF, sameF, eqN, eqN1, eqN2, h6, hg6, zeroF, hd, bool_beq, cid_beq, Bool.and_assoc, and_ac]
  by_cases h8 : f.kind = 8
  ·
   have hg8 : g.kind = 8 := by omega
   simp [nrmF, sameF, eqN, eqN1, eqN2, h8, hg8, zeroF, hd, bool_beq, cid_beq, Bool.and_assoc, and_ac]
   generalize decide (f.fin = g.fin) = a; generalize decide (f.st = g.st) = b; generalize decide (f.of_ = g.of_) = c; generalize decide (f.data = g.data) = d
   cases a <;> cases b <;> cases c <;> cases d <;> rfl
  by_cases h17 : f.kind = 17
  ·
   have hg17 : g.kind = 17 := by omega
   simp [nrmF, sameF, eqN, eqN1, eqN2, h17, hg17, zeroF, hd, bool_beq, cid_beq, Bool.and_assoc, and_ac]
  by_cases h24 : f.kind = 24
  ·
   have hg24 : g.kind = 24 := by omega
   simp [nrmF, sameF, eqN, eqN1, eqN2, h24, hg24, zeroF, hd, bool_beq, cid_beq, Bool.and_assoc, and_ac]
  by_cases h25 : f.kind = 25
  ·
   have hg25 : g.kind = 25 := by omega
   simp [nrmF, sameF, eqN, eqN1, eqN2, h25, hg25, zeroF, hd, bool_beq, cid_beq, Bool.and_assoc, and_ac]
  by_cases h28 : f.kind = 28
  ·
   have hg28 : g.kind = 28 := by omega
   simp [nrmF, sameF, eqN, eqN1, eqN2, h28, hg28, zeroF, hd, bool_beq, cid_beq, Bool.and_assoc, and_ac]
  by_cases h16 : f.kind = 16 ∨ f.kind = 18 ∨ f.kind = 20
  ·
   rcases h16 with h | h | h
   all_goals
    have hg := hk.symm.trans h
    simp [nrmF, sameF, eqN, eqN1, eqN2, h, hg, zeroF, hd, bool_beq, cid_beq]
  by_cases h26 : f.kind = 26 ∨ f.kind = 27
  ·
   rcases h26 with h | h
   all_goals
    have hg := hk.symm.trans h
    simp [nrmF, sameF, eqN, eqN1, eqN2, h, hg, zeroF, hd, bool_beq, cid_beq]
  have e : ∀ x : Fr, x.kind = f.kind → nrmF x = zeroF x.kind := fun x hx => by
   unfold nrmF
   rw [hx]
   simp [h2, h4, h5, h6, h8, h17, h24, h25, h28, not_or.1 h16, not_or.1 (not_or.1 h16).2, not_or.1 h26]
  rw [e f rfl, e g hk.symm]
  have hs : sameF f g = true := by
   unfold sameF
   simp [hk.symm, h2, h4, h5, h6, h8, h17, h24, h25, h28, not_or.1 h16, not_or.1 (not_or.1 h16).2, not_or.1 h26]
  rw [hs, hk]
  simp [eqN, eqN1, eqN2, zeroF]
 ·
  have h1 : sameF f g = false := by unfold sameF; simp [hk]
  rw [h1]
  unfold eqN eqN1
  rw [nrm_kindT, nrm_kindT]
  simp [hk]
theorem same4_any (w : World) (f g : Fr) (dv rv dw rw_ : Value) (hf : FrAt w f dv rv) (hg : FrAt w g dw rw_) (h1 : f.kind = 6 ∨ f.kind = 8 ∨ f.kind = 28 → f.data.length ≤ 1000000) (h2 : g.kind = 6 ∨ g.kind = 8 ∨ g.kind = 28 → g.data.length ≤ 1000000) (h3 : f.kind = 2 → f.rg.length ≤ 1000000) (h4 : g.kind = 2 → g.rg.length ≤ 1000000) :
  Calls Try.prog 17 #[.agg (f.cells dv rv).toArray, .agg (g.cells dw rw_).toArray] w fun e w' => e = .returned (.bool (sameF f g)) ∧ Below w.heap.size w w' := by
 rw [← eq_same]
 exact same4_core w (nrmF f) (nrmF g) _ _ (Qh (Fr.len hf.wf)) (Qh (Fr.len hg.wf)) (nrm_rg_le h3) (nrm_rg_le h4)
  (Qh (fun u hu => copy4_any u f dv rv (hf.below hu) h1 h3))
  (Qh (fun u hu => copy4_any u g dw rw_ (hg.below hu) h2 h4))
end Go.Proofs.Ytmbjepcbokbemaa
namespace Go.Proofs.Ytmbjepcbokbemaa
open Go.RowKit
section
variable {P : Program} {ops : Array Oper} {Q : Exit → Act → World → Prop} {md : Region.Mode}
def unl (l : List Bool) : Nat := l.countP (fun b => !b)
theorem unl_set : ∀ (l : List Bool) (i : Nat), l[i]? = some false → unl (l.set i true) + 1 = unl l
 | [], i, h => by simp at h
 | b :: l, 0, h => by simp at h; subst h; simp [unl]
 | b :: l, i + 1, h => by
  have ih := unl_set l i (by simpa using h)
  cases b <;> simp [unl] at ih ⊢ <;> omega
theorem wpAny_inv (I : Array Bool → Act → World → Prop)
  (hstep : ∀ (listed : Array Bool) (a : Act) (w : World) (i : Nat), I listed a w → i ∈ Region.ready md ops listed → wpOp P ops Q i (fun a' w' => I (listed.setIfInBounds i true) a' w') a w)
  (hend : ∀ (listed : Array Bool) (a : Act) (w : World), I listed a w → Region.ready md ops listed = [] → Q .normal a w) :
  ∀ (fuel : Nat) (listed : Array Bool) (a : Act) (w : World), listed.size = ops.size → unl listed.toList ≤ fuel → I listed a w → wpAny P md ops Q fuel listed a w := by
 have key : ∀ (listed : Array Bool) (i : Nat), listed.size = ops.size → i ∈ Region.ready md ops listed → listed.toList[i]? = some false := by
  intro listed i hs hi
  obtain ⟨h1, o, ho, _⟩ := mem_ready.1 hi
  have hlt : i < listed.size := by rw [hs]; exact (Array.getElem?_eq_some_iff.1 ho).1
  rw [Array.getD_eq_getD_getElem?, Array.getElem?_eq_getElem hlt] at h1
  simp at h1
  rw [Array.getElem?_toList, Array.getElem?_eq_getElem hlt, h1]
 intro fuel
 induction fuel with
 | zero =>
  intro listed a w hs hu hI
  have hr : Region.ready md ops listed = [] := by
   cases hr : Region.ready md ops listed with
   | nil => rfl
   | cons i l =>
    have h9 := unl_set _ _ (key listed i hs (by rw [hr]; exact List.mem_cons_self ..))
    omega
  exact ⟨hr, hend _ _ _ hI hr⟩
 | succ fuel ih =>
  intro listed a w hs hu hI
  refine ⟨fun hr => hend _ _ _ hI hr, fun i hi => wpOp_mono (fun a' w' h' => ih _ a' w' (by rw [Array.size_setIfInBounds]; exact hs) ?_ h') (hstep _ _ _ i hI hi)⟩
  have h9 := unl_set _ _ (key listed i hs hi)
  rw [Array.toList_setIfInBounds]
  omega
theorem ready_all {listed : Array Bool} (hd : ∀ (i : Nat) (o : Oper), ops[i]? = some o → ∀ e ∈ o.after, Region.binds md e = true → e.on < i) (hs : listed.size = ops.size) (hr : Region.ready md ops listed = []) : ∀ (i : Nat), i < ops.size → listed.getD i false = true := by
 intro i
 induction i using Nat.strongRecOn with
 | ind i ih =>
  intro hi
  cases hl : listed.getD i false with
  | true => rfl
  | false =>
   have hlt : i < listed.size := by omega
   have h1 : listed.getD i true = false := by
    rw [Array.getD_eq_getD_getElem?, Array.getElem?_eq_getElem hlt] at hl ⊢; simpa using hl
   have : i ∈ Region.ready md ops listed := mem_ready.2 ⟨h1, ops[i], Array.getElem?_eq_getElem hi, fun e he hb => ih _ (hd i _ (Array.getElem?_eq_getElem hi) e he hb) (by have := hd i _ (Array.getElem?_eq_getElem hi) e he hb; omega)⟩
   rw [hr] at this; cases this
theorem getD_set {l : Array Bool} {i j : Nat} (h : (l.setIfInBounds i true).getD j false = true) : j = i ∨ l.getD j false = true := by
 by_cases hij : j = i
 ·
  exact .inl hij
 ·
  right
  rw [Array.getD_eq_getD_getElem?, Array.getElem?_setIfInBounds_ne (Ne.symm hij), ← Array.getD_eq_getD_getElem?] at h
  exact h
end
end Go.Proofs.Ytmbjepcbokbemaa
namespace Go.Proofs.Ytmbjepcbokbemaa
open Go.RowKit
theorem IntsK.of_rowF {k : IntKind} {w : World} {b : Nat} {zs : List Int} {t : TypeId} {fr : Nat × Nat} (h : w.heap[b]? = some (.cells (zs.map (Value.int k)).toArray t fr)) (hw : ∀ n ∈ zs, (Lit.int k n).wf = true) :
  IntsK k w (some ⟨b, 0, none⟩) zs.length zs := by
 refine ⟨rfl, hw, .inr ⟨b, 0, rfl, lt_of_block h, fun i hi => ?_⟩⟩
 rw [cell_of_row _ _ _ _ _ _ h]
 simp [hi, List.getD_eq_getElem?_getD]
end Go.Proofs.Ytmbjepcbokbemaa
