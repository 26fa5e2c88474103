/- texts of the proof, laid together: Frh, Frj, Frk, Frs0, Frs, Frl. -/
import Derived.Test.YtmbjepcbokbemaaV16
import Derived.Test.YtmbjepcbokbemaaV13
import Derived.Test.YtmbjepcbokbemaaV15
import Derived.Test.YtmbjepcbokbemaaV14
import Derived.Test.YtmbjepcbokbemaaV1
set_option linter.unusedVariables false
set_option linter.unusedSimpArgs false
set_option maxRecDepth 100000
set_option maxHeartbeats 16000000
namespace Go.Proofs.Ytmbjepcbokbemaa
open Go.RowKit
def RAllR (w : World) (bs : List Int) (e : Ending) (w' : World) : Prop :=
 Below w.heap.size w w' ∧ ((allB bs = none ∧ e = .returned (.tuple #[.slice none 0 0, .bool false])) ∨
  ∃ X a c, allB bs = some (X.map FX.f) ∧ e = .returned (.tuple #[.slice a X.length c, .bool (decide (0 < X.length))]) ∧ (X.length ≤ c ∧ c ≤ 9223372036854775807) ∧ FrsAt w' a X.length X)
theorem rall4_any (w : World) (a : Option Addr) (n cp : Nat) (bs : List Int) (hI : IntsK .u8 w a n bs) (hn : n ≤ 100000) (hc : n ≤ cp ∧ cp ≤ 9223372036854775807) :
  Calls Try.prog 44 #[.slice a n cp] w (RAllR w bs) := by
 have HI := Qh hI
 have hln : bs.length = n := hI.1
 have HLN := Qh hln
 obtain ⟨hc1, hc2⟩ := hc
 clear hI hln
 go_enter Try.func44, Try.ntmps44
 go_wp2_with fail
 go_loopw [0, 4] (fun s0 s4 wr => AllI w n bs s0 s4 wr) (fun s0 s4 _ => match s0 with | .slice _ m _ => m | _ => 0)
 case atStart => exact ⟨a, n, cp, bs, [], rfl, ⟨hc1, hc2, Nat.le_refl _⟩, HI, Qh (Below.refl _ _), Qh (World.ownsRow_nil _ _ _ _), Qh (fun x hx => by cases hx), Qh (by simp), Qh (by simp)⟩
 case round =>
  obtain ⟨a', m, cp', rest, X, rfl, ⟨hm1, hm2, hm3⟩, HI1, HB, HO, HX, HALL, HMX⟩ := hrel
  generalize u4 = v at HO HX ⊢
  by_cases hm0 : 0 < m
  ·
   obtain ⟨b, off, rfl⟩ : ∃ b off, a' = some ⟨b, off, none⟩ := by
    rcases HI1.out.2.2 with h9 | ⟨b, off, h9, _⟩
    ·
     omega
    ·
     exact ⟨b, off, h9⟩
   have HIR := Qh (HI1.out.below HB.out)
   have HLR : Hid (rest.length = m) := Qh HI1.out.1
   have HDC := Qh (rdec4_any wr (some ⟨b, off, none⟩) m cp' rest HIR.out (by omega) ⟨hm1, hm2⟩)
   go_wp2_with fail
   refine Calls.mono HDC.out ?_
   rintro e w1 ⟨hb, hr⟩
   have HVL : Hid (∀ k, v.ownBlock = some k → k < wr.heap.size) := Qh (fun k hk => (HO.out.lt k hk).2)
   replace HB := Qh (bl_next HB.out HB.out.size hb)
   replace HO := Qh (own_below HO.out hb)
   replace HX : Hid (∀ x ∈ X, FrAt w1 x.f x.dv x.rv ∧ FrAp v.ownBlock x.dv x.rv) := Qh (fun x hx => ⟨(HX.out x hx).1.below hb, (HX.out x hx).2⟩)
   clear hb HDC HIR
   rcases hr with ⟨hd, rfl⟩ | ⟨f, r, dv, rv, hd, hrl, rfl, hfr, hlo⟩
   ·
    have HN : Hid (allB bs = none) := Qh (by rw [HALL.out, allB_none hd (by rw [HLR.out]; exact hm0)]; rfl)
    clear hd
    obtain ⟨RF, hRF⟩ : ∃ R, (zeroF 0).cells (.slice none 0 0) (.slice none 0 0) = R := ⟨_, rfl⟩
    have HRF : Hid (RF.length = 19) := Qh (by rw [← hRF]; rfl)
    have HRO : Hid (∀ v ∈ RF, v.oneCell' = true) := Qh (by rw [← hRF]; exact one19 rfl rfl)
    rw [hRF]
    clear hRF
    go_wp2_with (first | (refine wpList_store_row rfl 39 _ _ rfl _ rfl RF ([.int .i64 0, .int .u64 0, .int .u64 0, .slice none 0 0, .bool false, .int .u64 0, .int .u64 0, .int .u64 0, .int .u64 0, .int .u64 0, .slice none 0 0, .int .u8 0, .int .u8 0, .int .u8 0, .int .u8 0, .int .u8 0, .int .u8 0, .int .u8 0, .int .u8 0] : List Value) rfl 39 (heap_alloc_new _ _) (by rw [HRF.out]; rfl) (by rw [HRF.out]; rfl) HRO.out ?_; intro w2 hr hg; have HG := Qh hg; clear hr hg) | fail)
    (try simp only [Exit.inBlock, Exit.then])
    go_ret2
    exact ⟨bl_next HB.out HB.out.size (((Below.refl w1.heap.size w1).alloc (Nat.le_refl _) (.cells ([.int .i64 0, .int .u64 0, .int .u64 0, .slice none 0 0, .bool false, .int .u64 0, .int .u64 0, .int .u64 0, .int .u64 0, .int .u64 0, .slice none 0 0, .int .u8 0, .int .u8 0, .int .u8 0, .int .u8 0, .int .u8 0, .int .u8 0, .int .u8 0, .int .u8 0] : List Value).toArray 39)).grown HG.out ((Below.refl w1.heap.size w1).alloc (Nat.le_refl _) (.cells ([.int .i64 0, .int .u64 0, .int .u64 0, .slice none 0 0, .bool false, .int .u64 0, .int .u64 0, .int .u64 0, .int .u64 0, .int .u64 0, .slice none 0 0, .int .u8 0, .int .u8 0, .int .u8 0, .int .u8 0, .int .u8 0, .int .u8 0, .int .u8 0, .int .u8 0] : List Value).toArray 39)).size (by intro k hk; injection hk with hk; omega)), .inl ⟨HN.out, rfl⟩⟩
   ·
    have hrl2 := (dec_suf hd).2
    rw [HLR.out] at hrl2
    obtain ⟨k, hk⟩ : ∃ k : Nat, (rest.length : Int) - r.length = k ∧ k = m - r.length := ⟨m - r.length, by rw [HLR.out]; omega, rfl⟩
    rw [hk.1]
    have HKM : Hid (k ≤ m ∧ 1 ≤ k ∧ m - k = r.length) := Qh (by have := hk.2; omega)
    have hdr := dec_drop hd
    rw [HLR.out, ← hk.2] at hdr
    have HI2 : Hid (cp' = k → IntsK .u8 w (some ⟨b, off, none⟩) (m - k) r) := Qh (fun e => by have h9 := HI1.out.sufC k cp' HKM.out.1 hm1; rw [if_pos e] at h9; rw [← hdr]; exact h9)
    have HI3 : Hid (IntsK .u8 w (some ⟨b, off + k, none⟩) (m - k) r) := Qh (by rw [← hdr]; exact HI1.out.suf k HKM.out.1)
    have HI4 : Hid (IntsK .u8 w (if cp' = k then some ⟨b, off, none⟩ else some ⟨b, off + k, none⟩) (m - k) r) := Qh (by have h9 := HI1.out.sufC k cp' HKM.out.1 hm1; rw [← hdr]; exact h9)
    have HN : Hid (allB bs = (allB r).map ((X ++ [(⟨f, dv, rv⟩ : FX)]).map FX.f ++ ·)) := Qh (by rw [HALL.out, allB_some hd, Option.map_map]; congr 1; funext t; simp)
    have HAP : Hid (FrAp v.ownBlock dv rv) := Qh (hlo.ap HVL.out)
    have HFR := Qh hfr
    have HOK := Qh hfr.ok
    clear hd hrl hrl2 hk hdr HALL hlo hfr HVL
    have HRF : Hid ((f.cells dv rv).length = 19) := Qh (Fr.len HFR.out.wf)
    have HRO : Hid (∀ v ∈ f.cells dv rv, v.oneCell' = true) := Qh (Fr.one HFR.out)
    obtain ⟨RF, hRF⟩ : ∃ R, f.cells dv rv = R := ⟨_, rfl⟩
    rw [hRF] at HRF HRO
    have HRE := Qh hRF
    rw [hRF]
    clear hRF
    have hk0 : (((k : Nat) : Int) == 0) = false := by have := HKM.out.2.1; simp; omega
    go_upto_region 6 with (first | (refine wpList_store_row rfl 39 _ _ rfl _ rfl RF ([.int .i64 0, .int .u64 0, .int .u64 0, .slice none 0 0, .bool false, .int .u64 0, .int .u64 0, .int .u64 0, .int .u64 0, .int .u64 0, .slice none 0 0, .int .u8 0, .int .u8 0, .int .u8 0, .int .u8 0, .int .u8 0, .int .u8 0, .int .u8 0, .int .u8 0] : List Value) rfl 39 (heap_alloc_new _ _) (by rw [HRF.out]; rfl) (by rw [HRF.out]; rfl) HRO.out ?_; intro w2 hr hg) | fail)
    have hal := (Below.refl w1.heap.size w1).alloc (Nat.le_refl _) (.cells (([.int .i64 0, .int .u64 0, .int .u64 0, .slice none 0 0, .bool false, .int .u64 0, .int .u64 0, .int .u64 0, .int .u64 0, .int .u64 0, .slice none 0 0, .int .u8 0, .int .u8 0, .int .u8 0, .int .u8 0, .int .u8 0, .int .u8 0, .int .u8 0, .int .u8 0] : List Value)).toArray 39)
    have hb : Below w1.heap.size w1 w2 := hal.grown hg hal.size (by intro k hk; injection hk with hk; omega)
    replace HB := Qh (bl_next HB.out HB.out.size hb)
    replace HO := Qh (own_below HO.out hb)
    replace HFR := Qh (HFR.out.below hb)
    replace HX := Qh (fun x hx => (⟨(HX.out x hx).1.below hb, (HX.out x hx).2⟩ : FrAt _ x.f x.dv x.rv ∧ FrAp v.ownBlock x.dv x.rv))
    have HF := Qh (hr)
    clear hr hg hal hb
    obtain ⟨gf, hg⟩ : ∃ g, w1.heap.size = g := ⟨_, rfl⟩
    rw [hg] at HF ⊢
    clear hg
    have hal := (Below.refl w2.heap.size w2).alloc (Nat.le_refl _) (.cells (frK.flat [⟨f, dv, rv⟩]).toArray 39)
    have HOA : Hid ((w2.alloc (.cells (frK.flat [⟨f, dv, rv⟩]).toArray 39)).ownsRow w.heap.size 39 19 v X.length (frK.flat X)) := Qh (own_below HO.out hal)
    have HE9 := Qh (FrsAt.one HFR.out).row
    have HBA : Hid (w.heap.size ≤ (w2.alloc (.cells (frK.flat [⟨f, dv, rv⟩]).toArray 39)).heap.size) := Qh (Nat.le_trans HB.out.size hal.size)
    have hnx : X.length + 1 ≤ 1000000 := by have := HMX.out; omega
    obtain ⟨va, vc, rfl, hvc⟩ := sl_own HO.out
    have hkm := HKM.out.1
    go_wp2_with (first | (refine wpList_load_mid rfl 39 _ rfl gf 0 rfl RF _ (rngL HF.out) Try.underlying39 rfl (by rw [HRF.out]; rfl) ?_) | (refine wpList_build_rk frT rfl _ rfl ⟨f, dv, rv⟩ HOK.out (by show _ = Value.agg (f.cells dv rv).toArray; rw [HRE.out]; rfl) ?_) | (at_builtin; refine wpList_append_rk frT rfl _ _ rfl w.heap.size X.length _ X rfl HOA.out (some ⟨w2.heap.size, 0, none⟩) 1 1 [⟨f, dv, rv⟩] rfl HE9.out hnx HBA.out ?_; intro v' w3 ho hg hor; have HO3 := Qh ho; have HG3 := Qh hg; have HOR := Qh hor; clear ho hg hor) | fail)
    all_goals skip
    all_goals
     have HX3 : Hid (∀ x ∈ X ++ [(⟨f, dv, rv⟩ : FX)], FrAt w3 x.f x.dv x.rv ∧ FrAp v'.ownBlock x.dv x.rv) := Qh (fun x hx => by
      have hboth : FrAt (w2.alloc (.cells (frK.flat [⟨f, dv, rv⟩]).toArray 39)) x.f x.dv x.rv ∧ FrAp (Value.slice va X.length vc).ownBlock x.dv x.rv := by
       rcases List.mem_append.1 hx with h9 | h9
       ·
        exact ⟨(HX.out x h9).1.below hal, (HX.out x h9).2⟩
       ·
        rw [List.mem_singleton.1 h9]; exact ⟨HFR.out.below hal, HAP.out⟩
      refine ⟨hboth.1.grown HG3.out hboth.2, ?_⟩
      rcases HOR.out with h9 | h9
      ·
       rw [h9]; exact hboth.2
      ·
       rw [h9]; exact hboth.1.apart (Nat.le_refl _))
     have HB3 : Hid (Below w.heap.size w w3) := Qh ((bl_next HB.out HB.out.size hal).grown HG3.out HBA.out (own_base HOA.out))
     have HO4 : Hid (w3.ownsRow w.heap.size 39 19 v' (X ++ [(⟨f, dv, rv⟩ : FX)]).length (frK.flat (X ++ [⟨f, dv, rv⟩]))) := Qh (by rw [List.length_append]; exact HO3.out)
     clear hal HO HX HFR HF HOA HE9 HBA HG3 HOR HO3 HB
     go_roundw
     case rel => exact ⟨_, m - k, _, r, X ++ [⟨f, dv, rv⟩], rfl, ⟨by have := HKM.out; omega, by omega, by have := HKM.out; omega⟩, Qh (by first | exact HI4.out | exact HI3.out | exact HI2.out (by first | assumption | rfl | (symm; assumption))), HB3, HO4, HX3, HN, Qh (by have := HKM.out; have := HMX.out; rw [List.length_append, List.length_singleton]; omega)⟩
     case measure => have := HKM.out; simp; omega
  ·
   obtain rfl : m = 0 := by omega
   have hre : rest = [] := List.eq_nil_of_length_eq_zero HI1.out.1
   have HN : Hid (allB bs = some (X.map FX.f)) := Qh (by rw [HALL.out, hre, allB_nil]; simp)
   clear hre HALL
   obtain ⟨va, vc, rfl, hv1, hv2⟩ := sl_own HO.out
   have HAT := Qh (RK.At.of_own (K := frK) HO.out (fun x hx => (HX.out x hx).1.ok))
   go_wp2_with fail
   (try simp only [Exit.inBlock, Exit.then])
   go_ret2
   exact ⟨HB.out, .inr ⟨X, va, vc, HN.out, by first | rfl | (simp; done) | (congr 3; simp), ⟨hv1, hv2⟩, HAT.out, fun x hx => (HX.out x hx).1⟩⟩
end Go.Proofs.Ytmbjepcbokbemaa
namespace Go.Proofs.Ytmbjepcbokbemaa
open Go.RowKit
theorem same_refl (f : Fr) : sameF f f = true := by
 unfold sameF
 simp only [decide_true, Bool.true_and, Bool.and_self]
 repeat' split
 all_goals rfl
theorem dec_right {bs : List Int} {f : Fr} {r : List Int} (h : decF bs = some (f, r)) : rightB f = true := by
 unfold decF at h
 split at h
 ·
  cases h
 ·
  generalize frameR (varM bs false).1 (varM bs false).2.1 (varM bs false).2.2 = q at h
  obtain ⟨o, r2, b⟩ := q
  cases o with
  | none => cases h
  | some g =>
   unfold endF at h
   simp only at h
   split at h
   ·
    cases h
   ·
    rename_i hn
    injection h with h; injection h with h1 h2; subst h1
    cases hg : rightB g with
    | true => rfl
    | false => exact absurd (.inr hg) hn
theorem allF_right : ∀ (n : Nat) (bs : List Int) (L : List Fr), allF n bs = some L → ∀ f ∈ L, rightB f = true
 | n, [], L, h, f, hf => by cases n <;> (simp only [allF] at h; injection h with h; subst h; cases hf)
 | 0, b :: t, L, h, f, hf => by simp [allF] at h
 | n + 1, b :: t, L, h, f, hf => by
  cases hd : decF (b :: t) with
  | none => simp [allF, hd] at h
  | some q =>
   obtain ⟨g, r⟩ := q
   cases ha : allF n r with
   | none => simp [allF, hd, ha] at h
   | some M =>
    simp [allF, hd, ha] at h
    subst h
    rcases List.mem_cons.1 hf with rfl | hf
    ·
     exact dec_right hd
    ·
     exact allF_right n r M ha f hf
theorem allF_ne : ∀ (n : Nat) (bs : List Int), bs ≠ [] → allF n bs ≠ some []
 | n, [], h => absurd rfl h
 | 0, b :: t, _ => by simp [allF]
 | n + 1, b :: t, _ => by
  cases hd : decF (b :: t) with
  | none => simp [allF, hd]
  | some q => obtain ⟨g, r⟩ := q; cases ha : allF n r <;> simp [allF, hd, ha]
def DecB (w1 w2 : World) (f1 f2 : Value) (n1 n2 e1 : Int) : Prop := ∃ (f : Fr) (d1 r1 d2 r2 : Value), f1 = .agg (f.cells d1 r1).toArray ∧ f2 = .agg (f.cells d2 r2).toArray ∧ FrAt w1 f d1 r1 ∧ FrAt w2 f d2 r2 ∧ (f.kind = 2 → f.rg.length ≤ 1000000) ∧ n1 = n2 ∧ ((e1 = 12 ∧ n1 = 0) ∨ (e1 = 0 ∧ 0 < n1))
theorem dec_both {w w1 y w2 : World} {bs : List Int} {e1 e2 : Ending} (h1 : DecR w bs e1 w1) (h2 : RDecR y bs e2 w2) : ∃ f1 f2 n1 n2 v1, e1 = .returned (.tuple #[f1, .int .i64 n1, .int .i64 v1]) ∧ e2 = .returned (.tuple #[f2, .int .i64 n2]) ∧ DecB w1 w2 f1 f2 n1 n2 v1 := by
 rcases h1.2 with ⟨k1, rfl⟩ | ⟨f, r, dv, rv, k1, k2, rfl, k3, _⟩
 ·
  rcases h2.2 with ⟨m1, rfl⟩ | ⟨f, r, dv, rv, m1, _⟩
  ·
   exact ⟨_, _, _, _, _, rfl, rfl, zeroF 0, _, _, _, _, rfl, rfl, FrAt.zero _ 0 (by omega), FrAt.zero _ 0 (by omega), (fun h => absurd h (by decide)), rfl, .inl ⟨rfl, rfl⟩⟩
  ·
   rw [k1] at m1; cases m1
 ·
  rcases h2.2 with ⟨m1, rfl⟩ | ⟨g, r2, dv2, rv2, m1, m2, rfl, m3, _⟩
  ·
   rw [k1] at m1; cases m1
  ·
   rw [k1] at m1; injection m1 with m1; injection m1 with m1 m4; subst m1; subst m4
   have hl := (dec_suf k1).2
   exact ⟨_, _, _, _, _, rfl, rfl, f, _, _, _, _, rfl, rfl, k3, m3, right_rgq (dec_right k1), rfl, .inr ⟨rfl, by omega⟩⟩
def AllBo (w2 : World) (l1 l2 : Value) (e1 : Int) (ok : Bool) : Prop := (e1 = 12 ∧ l1 = .slice none 0 0 ∧ ok = false ∧ ∃ a n c, l2 = .slice a n c) ∨ (e1 = 0 ∧ ok = true ∧ ∃ X Y a b c d, l1 = .slice a X.length c ∧ l2 = .slice b X.length d ∧ FrsAt w2 a X.length X ∧ FrsAt w2 b X.length Y ∧ X.length ≤ 1000000 ∧ (∀ (i : Nat) (x z : FX), X[i]? = some x → Y[i]? = some z → sameF x.f z.f = true) ∧ ∀ x ∈ X, x.f.kind = 2 → x.f.rg.length ≤ 1000000)
theorem all_len : ∀ (n : Nat) (bs : List Int) (L : List Fr), allF n bs = some L → L.length ≤ n
 | n, [], L, h => by cases n <;> (simp only [allF] at h; injection h with h; subst h; simp)
 | 0, b :: t, L, h => by simp [allF] at h
 | n + 1, b :: t, L, h => by
  cases hd : decF (b :: t) with
  | none => simp [allF, hd] at h
  | some q =>
   obtain ⟨g, r⟩ := q
   cases ha : allF n r with
   | none => simp [allF, hd, ha] at h
   | some M =>
    simp [allF, hd, ha] at h
    subst h
    have := all_len n r M ha
    simp; omega
theorem all_both {w w1 w2 : World} {bs : List Int} {e1 e2 : Ending} (hn : bs.length ≤ 100000) (h1 : AllR w bs e1 w1) (h2 : RAllR w1 bs e2 w2) : ∃ l1 l2 v1 ok, e1 = .returned (.tuple #[l1, .int .i64 v1]) ∧ e2 = .returned (.tuple #[l2, .bool ok]) ∧ AllBo w2 l1 l2 v1 ok := by
 rcases h1.2 with ⟨k1, rfl⟩ | ⟨k0, X, a, c, k1, rfl, _, k4⟩
 ·
  rcases h2.2 with ⟨m1, rfl⟩ | ⟨Y, b, d, m1, rfl, _, _⟩
  ·
   exact ⟨_, _, _, _, rfl, rfl, .inl ⟨rfl, rfl, rfl, _, _, _, rfl⟩⟩
  ·
   have hY : Y.length = 0 := by
    rcases k1 with k1 | k1
    ·
     subst k1; rw [allB_nil] at m1; injection m1 with m1; have := congrArg List.length m1; simpa using this.symm
    ·
     rw [k1] at m1; cases m1
   exact ⟨_, _, _, _, rfl, rfl, .inl ⟨rfl, rfl, by simp [hY], _, _, _, rfl⟩⟩
 ·
  rcases h2.2 with ⟨m1, rfl⟩ | ⟨Y, b, d, m1, rfl, _, m4⟩
  ·
   rw [k1] at m1; cases m1
  ·
   have hXY : X.map FX.f = Y.map FX.f := by rw [k1] at m1; injection m1
   have hl : Y.length = X.length := by have := congrArg List.length hXY; simpa using this.symm
   have hX0 : 0 < X.length := by
    cases X with
    | nil => exact absurd k1 (allF_ne _ _ k0)
    | cons x X => simp
   have hXn : X.length ≤ 1000000 := by have := all_len _ _ _ k1; rw [List.length_map] at this; omega
   rw [hl] at m4
   refine ⟨_, _, _, _, rfl, rfl, .inr ⟨rfl, by simp [hl, hX0], X, Y, a, b, c, d, rfl, by rw [hl], k4.below h2.1, m4, hXn, fun i x z hx hz => ?_, fun x hx hk => right_rgq (allF_right _ _ _ k1 x.f (List.mem_map_of_mem hx)) hk⟩⟩
   have e1 : (X.map FX.f)[i]? = some x.f := by rw [List.getElem?_map, hx]; rfl
   rw [hXY, List.getElem?_map, hz] at e1
   injection e1 with e1
   rw [e1]; exact same_refl _
theorem decodes4_any (w : World) (a : Option Addr) (n cp : Nat) (bs : List Int) (hI : IntsK .u8 w a n bs) (hn : n ≤ 100000) (hc : n ≤ cp ∧ cp ≤ 9223372036854775807) :
  Calls Try.prog 20 #[.slice a n cp] w fun e w' => e = .returned (.bool true) ∧ Below w.heap.size w w' := by
 have HI := Qh hI
 have hln : bs.length = n := hI.1
 have hbl : bs.length ≤ 100000 := by omega
 have HBL := Qh hbl
 have HD1 := Qh (dec4_any w a n cp bs hI (by omega) hc)
 have HD2 := Qh (fun u hu => rdec4_any u a n cp bs hu (by omega) hc)
 have HA1 := Qh (fun u hu => all4_any u a n cp bs hu hn hc)
 have HA2 := Qh (fun u hu => rall4_any u a n cp bs hu hn hc)
 clear hI hln hbl hc
 go_enter Try.func20, Try.ntmps20
 go_wp2_with fail
 refine Calls.mono HD1.out ?_
 rintro e1 w1 hd1
 obtain ⟨f1, n1, v1, he, hfo⟩ : ∃ f1 n1 v1, e1 = .returned (.tuple #[f1, .int .i64 n1, .int .i64 v1]) ∧ ∃ (f : Fr) (d r : Value), f1 = .agg (f.cells d r).toArray ∧ FrAt w1 f d r := by
  rcases hd1.2 with ⟨_, rfl⟩ | ⟨f, r, dv, rv, _, _, rfl, k, _⟩
  ·
   exact ⟨_, _, _, rfl, zeroF 0, _, _, rfl, FrAt.zero _ 0 (by omega)⟩
  ·
   exact ⟨_, _, _, rfl, f, dv, rv, rfl, k⟩
 subst he
 obtain ⟨f, d1, r1, rfl, hfa⟩ := hfo
 have HFA := Qh hfa; have HDE := Qh hd1
 have HB := Qh hd1.1
 clear hfa hd1 HD1
 have HRF : Hid ((f.cells d1 r1).length = 19) := Qh (Fr.len HFA.out.wf)
 have HRO := Qh (Fr.one HFA.out)
 obtain ⟨RF, hRF⟩ : ∃ R, f.cells d1 r1 = R := ⟨_, rfl⟩
 have HRE := Qh hRF
 rw [hRF] at HRF HRO ⊢
 clear hRF
 go_upto_region 2 with (first | (refine wpList_store_row rfl 39 _ _ rfl _ rfl RF ([.int .i64 0, .int .u64 0, .int .u64 0, .slice none 0 0, .bool false, .int .u64 0, .int .u64 0, .int .u64 0, .int .u64 0, .int .u64 0, .slice none 0 0, .int .u8 0, .int .u8 0, .int .u8 0, .int .u8 0, .int .u8 0, .int .u8 0, .int .u8 0, .int .u8 0] : List Value) rfl 39 (heap_alloc_new _ _) (by rw [HRF.out]; rfl) (by rw [HRF.out]; rfl) HRO.out ?_; intro w2 hr hg) | fail)
 have hal := (Below.refl w1.heap.size w1).alloc (Nat.le_refl _) (.cells ([.int .i64 0, .int .u64 0, .int .u64 0, .slice none 0 0, .bool false, .int .u64 0, .int .u64 0, .int .u64 0, .int .u64 0, .int .u64 0, .slice none 0 0, .int .u8 0, .int .u8 0, .int .u8 0, .int .u8 0, .int .u8 0, .int .u8 0, .int .u8 0, .int .u8 0] : List Value).toArray 39)
 have hb : Below w1.heap.size w1 w2 := hal.grown hg hal.size (by intro k hk; injection hk with hk; omega)
 replace HB := Qh (bl_next HB.out HB.out.size hb)
 have HG1 := Qh (hr)
 have HB12 := Qh hb
 clear hr hg hal hb
 obtain ⟨g1, hg⟩ : ∃ g, w1.heap.size = g := ⟨_, rfl⟩
 rw [hg] at HG1 ⊢
 clear hg
 have HIC := Qh (HD2.out w2 (HI.out.below HB.out))
 go_wp2_with fail
 refine Calls.mono HIC.out ?_
 rintro e2 w3 hd2
 obtain ⟨f1', f2, n1', n2, v1', he1, he2, hbo⟩ := dec_both HDE.out hd2
 injection he1 with he1; injection he1 with he1
 have hpe := congrArg Array.toList he1
 simp only [List.cons.injEq, and_true] at hpe
 obtain ⟨hp1, hp2, hp3⟩ := hpe
 subst hp1
 injection hp2 with _ hp2; injection hp3 with _ hp3; subst hp2; subst hp3
 subst he2
 obtain ⟨f', e1, s1, d2, r2, hq1, rfl, hA1, hA2, hkr, rfl, hev⟩ := hbo
 have hb := hd2.1
 replace HB := Qh (bl_next HB.out HB.out.size hb)
 replace HG1 := Qh (bl_row hb (lt_of_block HG1.out) HG1.out)
 clear he1 HIC HDE
 have HB13 := Qh (bl_next HB12.out HB12.out.size hb)
 have HF1 := Qh (hA1.below HB13.out); have HF2 := Qh hA2
 clear hb hd2 hA1 hA2
 have HEV := Qh hev; have HKR := Qh hkr
 clear hev hkr
 have HRF2 : Hid ((f'.cells d2 r2).length = 19) := Qh (Fr.len HF2.out.wf)
 have HRO2 := Qh (Fr.one HF2.out)
 have hsm := fun u hu1 hu2 => rsame4_any u f' f' e1 s1 d2 r2 hu1 hu2 HKR.out
 simp only [same_refl] at hsm
 obtain ⟨RA, hRA⟩ : ∃ R, f'.cells e1 s1 = R := ⟨_, rfl⟩
 obtain ⟨RB, hRB⟩ : ∃ R, f'.cells d2 r2 = R := ⟨_, rfl⟩
 simp only [hRA, hRB] at hsm
 rw [hRB] at HRF2 HRO2 ⊢
 have HRAE : Hid (RA = RF) := Qh (by rw [hRA] at hq1; injection hq1 with hq1; exact (congrArg Array.toList hq1).symm.trans HRE.out)
 have hrae := HRAE.out
 subst hrae
 have HSM := Qh hsm
 clear hsm hq1 hRA hRB HRE HRAE HFA
 go_upto_region 3 with (first | (refine wpList_store_row rfl 39 _ _ rfl _ rfl RB ([.int .i64 0, .int .u64 0, .int .u64 0, .slice none 0 0, .bool false, .int .u64 0, .int .u64 0, .int .u64 0, .int .u64 0, .int .u64 0, .slice none 0 0, .int .u8 0, .int .u8 0, .int .u8 0, .int .u8 0, .int .u8 0, .int .u8 0, .int .u8 0, .int .u8 0] : List Value) rfl 39 (heap_alloc_new _ _) (by rw [HRF2.out]; rfl) (by rw [HRF2.out]; rfl) HRO2.out ?_; intro w4 hr hg) | fail)
 have hal := (Below.refl w3.heap.size w3).alloc (Nat.le_refl _) (.cells ([.int .i64 0, .int .u64 0, .int .u64 0, .slice none 0 0, .bool false, .int .u64 0, .int .u64 0, .int .u64 0, .int .u64 0, .int .u64 0, .slice none 0 0, .int .u8 0, .int .u8 0, .int .u8 0, .int .u8 0, .int .u8 0, .int .u8 0, .int .u8 0, .int .u8 0] : List Value).toArray 39)
 have hb : Below w3.heap.size w3 w4 := hal.grown hg hal.size (by intro k hk; injection hk with hk; omega)
 replace HB := Qh (bl_next HB.out HB.out.size hb)
 replace HG1 := Qh (bl_row hb (lt_of_block HG1.out) HG1.out)
 have HG2 := Qh (hr)
 replace HF1 := Qh (HF1.out.below hb)
 replace HF2 := Qh (HF2.out.below hb)
 clear hr hg hal hb
 obtain ⟨g2, hg⟩ : ∃ g, w3.heap.size = g := ⟨_, rfl⟩
 rw [hg] at HG2 ⊢
 clear hg
 have HCL := Qh (HSM.out w4 HF1.out HF2.out)
 have q1 : (n1 != n1) = false := by simp
 clear HSM HF1 HF2
 rcases HEV.out with ⟨rfl, rfl⟩ | ⟨rfl, h0⟩
 all_goals
  go_wp2_with (first | (refine wpList_load_g 39 _ rfl (by kernel_rfl) g1 0 rfl RA _ (rngL HG1.out) Try.underlying39 rfl (by rw [HRF.out]; rfl) ?_) | (refine wpList_load_g 39 _ rfl (by kernel_rfl) g2 0 rfl RB _ (rngL HG2.out) Try.underlying39 rfl (by rw [HRF2.out]; rfl) ?_) | fail)
  refine Calls.mono HCL.out ?_
  rintro e w5 ⟨rfl, hb⟩
  replace HB := Qh (bl_next HB.out HB.out.size hb)
  clear hb HCL HG1 HG2
  have HIC := Qh (HA1.out w5 (HI.out.below HB.out))
  go_wp2_with fail
  refine Calls.mono HIC.out ?_
  rintro e6 w6 ha1
  obtain ⟨l9, v9, he6⟩ : ∃ l9 v9, e6 = .returned (.tuple #[l9, .int .i64 v9]) := by rcases ha1.2 with ⟨_, h⟩ | ⟨_, X, a, c, _, h, _⟩ <;> exact ⟨_, _, h⟩
  subst he6
  have HAA := Qh ha1
  replace HB := Qh (bl_next HB.out HB.out.size ha1.1)
  clear ha1 HIC
  have HIC := Qh (HA2.out w6 (HI.out.below HB.out))
  go_wp2_with fail
  refine Calls.mono HIC.out ?_
  rintro e7 w7 ha2
  obtain ⟨l1, l2, v8, ok, he1, he2, hab⟩ := all_both HBL.out HAA.out ha2
  injection he1 with he1; injection he1 with he1
  have hpe := congrArg Array.toList he1
  simp only [List.cons.injEq, and_true] at hpe
  obtain ⟨hp1, hp2⟩ := hpe
  subst hp1
  injection hp2 with _ hp2; subst hp2
  subst he2
  replace HB := Qh (bl_next HB.out HB.out.size ha2.1)
  clear he1 HIC HAA ha2
  rcases hab with ⟨rfl, rfl, rfl, a2, m2, c2, rfl⟩ | ⟨rfl, rfl, X, Y, a1, a2, c1, c2, rfl, rfl, hX, hY, hxl, hxs, hxr⟩
  ·
   go_wp2_with fail
   go_ret
   exact ⟨rfl, HB.out⟩
  ·
   have HLI := Qh (rlists4_true w7 a1 a2 X.length c1 c2 X Y hX hY hxl hxs hxr)
   clear hX hY hxs hxr
   go_wp2_with fail
   refine Calls.mono HLI.out ?_
   rintro e w8 ⟨rfl, hb⟩
   have HBZ := Qh (bl_next HB.out HB.out.size hb)
   clear hb
   go_wp2_with fail
   go_ret
   exact ⟨rfl, HBZ.out⟩
end Go.Proofs.Ytmbjepcbokbemaa
namespace Go.Proofs.Ytmbjepcbokbemaa
open Go.RowKit Go.WideShapes Go.ChangeShapes
theorem rows_list {α : Type} (P : Nat → α → Prop) : ∀ n, (∀ j, j < n → ∃ x, P j x) → ∃ l : List α, l.length = n ∧ ∀ j x, l[j]? = some x → P j x
 | 0, _ => ⟨[], rfl, by simp⟩
 | n + 1, h => by
  obtain ⟨l, hl, hp⟩ := rows_list P n (fun j hj => h j (by omega))
  obtain ⟨x, hx⟩ := h n (by omega)
  refine ⟨l ++ [x], by simp [hl], fun j y hy => ?_⟩
  by_cases hj : j < n
  ·
   rw [List.getElem?_append_left (by omega)] at hy; exact hp j y hy
  ·
   rw [List.getElem?_append_right (by omega), hl] at hy
   have hj2 : j - n = 0 := by
    by_cases h0 : j - n = 0
    ·
     exact h0
    ·
     rw [List.getElem?_eq_none (by simp; omega)] at hy; cases hy
   rw [hj2] at hy
   obtain rfl : j = n := by omega
   simp at hy; subst hy; exact hx
theorem RK.at_rows {α : Type} (K : RK α) {w : World} {b off : Nat} {l : List α} (ho : ∀ x ∈ l, K.ok x) (hb : b < w.heap.size) (h : ∀ t x, l[t]? = some x → w.rangeAt b (off + t * K.N) (K.enc x)) : K.At w (some ⟨b, off, none⟩) l.length l := by
 refine ⟨rfl, ho, .inr ⟨b, off, rfl, hb, fun j u hu => ?_⟩⟩
 have hlen : (K.flat l).length = l.length * K.N := K.flat_len l ho
 have hj : j < l.length * K.N := by rw [← hlen]; exact (List.getElem?_eq_some_iff.1 hu).1
 have hq : j / K.N < l.length := (Nat.div_lt_iff_lt_mul K.pos).2 hj
 have hx : l[j / K.N]? = some (l[j / K.N]'hq) := List.getElem?_eq_getElem hq
 have hlt : j % K.N < (K.enc (l[j / K.N]'hq)).length := by rw [K.len _ (ho _ (List.getElem_mem hq))]; exact Nat.mod_lt _ K.pos
 have h1 := K.flat_at l ho (j / K.N) (j % K.N) _ _ hx (List.getElem?_eq_getElem hlt)
 have e : j / K.N * K.N + j % K.N = j := Nat.div_add_mod' j K.N
 rw [e, hu] at h1
 have h2 := h (j / K.N) _ hx (j % K.N) _ (List.getElem?_eq_getElem hlt)
 rw [← h1, Nat.add_assoc, e] at h2
 exact h2
theorem range_cells {H : Type} {enc : TypeId × Value → H} {w : World} {base : Nat} {spare : Nat → Bool} {held : Bool} {fuel : Nat} {cs : List Value} {y : DataW H × List MemPlace}
  (hy : DataW.trod enc Try.prog w base spare held fuel 71 cs = some y) : ∃ x : Int × Int, rgK.ok x ∧ ∀ (i : Nat) (v : Value), (rgK.enc x)[i]? = some v → cs[i]? = some v := by
 obtain ⟨_, m3, hgs⟩ := trod_fields Try.underlying71 hy
 obtain ⟨z0, f0⟩ := hgs 0 _ rfl
 obtain ⟨z1, f1⟩ := hgs 1 _ rfl
 obtain ⟨xa, hxa, _, wxa⟩ := DataW.trod_int Try.underlying34 f0
 obtain ⟨xb, hxb, _, wxb⟩ := DataW.trod_int Try.underlying34 f1
 have g0 := one_of_take4q (i := 0) hxa
 have g1 := one_of_take4q (i := 1) hxb
 refine ⟨(xa, xb), ⟨bdU64 wxa, bdU64 wxb⟩, fun i v hv => ?_⟩
 have hi : i < 2 := lt_of_get hv
 rw [← hv]
 rcases (by omega : i = 0 ∨ i = 1) with rfl | rfl
 ·
  exact g0
 ·
  exact g1
theorem ranges_open {H : Type} {enc : TypeId × Value → H} {w : World} {base : Nat} {spare : Nat → Bool} {held : Bool} {fuel : Nat} {cs : List Value} {x : DataW H × List MemPlace}
  (hx : DataW.trod enc Try.prog w base spare held fuel 35 cs = some x) : ∃ a len cap l, cs = [.slice a len cap] ∧ len ≤ cap ∧ cap ≤ 9223372036854775807 ∧ rgK.At w a len l := by
 have hsl : ∃ a l c, cs = [.slice a l c] ∧ c ≤ 9223372036854775807 := by
  rcases DataW.trod_slice Try.underlying35 hx with ⟨hcs, _⟩ | ⟨ad, l, c, elems, rest, n, _, hcs, _, hb, hl, hm, _⟩
  ·
   exact ⟨none, 0, 0, hcs, by omega⟩
  ·
   exact ⟨some ad, l, c, hcs, by unfold maxLen at hm; omega⟩
 obtain ⟨a, l, c, rfl, hc⟩ := hsl
 obtain ⟨h1, _, h3⟩ := open_rows (N := 2) (e := 71) (d := x.1) (p := x.2) Try.underlying35 (by kernel_rfl) (by omega) ⟨fuel, hx⟩
 rcases h3 with h3 | ⟨b, off, rfl, hb, hr⟩
 ·
  subst h3
  exact ⟨a, 0, c, [], rfl, h1, hc, RK.At.nil _ _⟩
 ·
  obtain ⟨L, hl, hp⟩ := rows_list (fun j (x : Int × Int) => rgK.ok x ∧ w.rangeAt b (off + j * 2) (rgK.enc x)) l (fun j hj => by
   obtain ⟨cs, m, y, _, hcc, hy⟩ := hr j hj
   obtain ⟨x, hx, hxc⟩ := range_cells hy
   refine ⟨x, hx, fun i v hv => ?_⟩
   have hi : i < 2 := lt_of_get hv
   show w.cell? ⟨b, off + j * 2 + i, none⟩ = some v
   rw [hcc i hi]; exact hxc i v hv)
  have hat := RK.at_rows rgK (w := w) (b := b) (off := off) (l := L) (fun x hx => by obtain ⟨j, hj⟩ := List.getElem?_of_mem hx; exact (hp j x hj).1) hb (fun t x hx => (hp t x hx).2)
  rw [hl] at hat
  exact ⟨_, l, c, L, rfl, h1, hc, hat⟩
theorem fr_cells {H : Type} {enc : TypeId × Value → H} {w : World} {base : Nat} {spare : Nat → Bool} {held : Bool} {fuel : Nat} {cs : List Value} {y : DataW H × List MemPlace}
  (hy : DataW.trod enc Try.prog w base spare held fuel 39 cs = some y) : ∃ x : FX, FrAt w x.f x.dv x.rv ∧ ∀ (i : Nat) (v : Value), (frK.enc x)[i]? = some v → cs[i]? = some v := by
 obtain ⟨_, m3, hgs⟩ := trod_fields Try.underlying39 hy
 obtain ⟨z0, f0⟩ := hgs 0 _ rfl
 obtain ⟨z1, f1⟩ := hgs 1 _ rfl
 obtain ⟨z2, f2⟩ := hgs 2 _ rfl
 obtain ⟨z3, f3⟩ := hgs 3 _ rfl
 obtain ⟨z4, f4⟩ := hgs 4 _ rfl
 obtain ⟨z5, f5⟩ := hgs 5 _ rfl
 obtain ⟨z6, f6⟩ := hgs 6 _ rfl
 obtain ⟨z7, f7⟩ := hgs 7 _ rfl
 obtain ⟨z8, f8⟩ := hgs 8 _ rfl
 obtain ⟨z9, f9⟩ := hgs 9 _ rfl
 obtain ⟨z10, f10⟩ := hgs 10 _ rfl
 obtain ⟨z11, f11⟩ := hgs 11 _ rfl
 obtain ⟨x0, h0, _, w0⟩ := DataW.trod_int Try.underlying3 f0
 obtain ⟨x1, h1, _, w1⟩ := DataW.trod_int Try.underlying34 f1
 obtain ⟨x2, h2, _, w2⟩ := DataW.trod_int Try.underlying34 f2
 obtain ⟨x5, h5, _, w5⟩ := DataW.trod_int Try.underlying34 f5
 obtain ⟨x6, h6, _, w6⟩ := DataW.trod_int Try.underlying34 f6
 obtain ⟨x7, h7, _, w7⟩ := DataW.trod_int Try.underlying34 f7
 obtain ⟨x8, h8, _, w8⟩ := DataW.trod_int Try.underlying34 f8
 obtain ⟨x9, h9, _, w9⟩ := DataW.trod_int Try.underlying34 f9
 obtain ⟨da, dn, dc, data, h3, hdl, hdm, hdi⟩ := bytes_open4 f3
 obtain ⟨x4, h4, _⟩ := DataW.trod_bool Try.underlying4 f4
 obtain ⟨ra, rn, rc, rg, h10, hrl, hrm, hri⟩ := ranges_open f10
 obtain ⟨cid, hcl, hcw, h11⟩ := trod_ints_arr (n := 8) (e := 5) (k := .u8) Try.underlying37 Try.underlying5 (by kernel_rfl) (by kernel_rfl) f11
 have g0 := one_of_take4q (i := 0) h0
 have g1 := one_of_take4q (i := 1) h1
 have g2 := one_of_take4q (i := 2) h2
 have g3 := one_of_take4q (i := 3) h3
 have g4 := one_of_take4q (i := 4) h4
 have g5 := one_of_take4q (i := 5) h5
 have g6 := one_of_take4q (i := 6) h6
 have g7 := one_of_take4q (i := 7) h7
 have g8 := one_of_take4q (i := 8) h8
 have g9 := one_of_take4q (i := 9) h9
 have g10 := one_of_take4q (i := 10) h10
 have g11 : ∀ j v, (cid.map (Value.int .u8))[j]? = some v → cs[11 + j]? = some v := fun j v hv => by
  rw [← h11] at hv
  have hj : j < 8 := by have := lt_of_get hv; rw [h11, List.length_map, hcl] at this; exact this
  have h9 : ((cs.drop 11).take 8)[j]? = some v := hv
  rw [List.getElem?_take_of_lt hj, List.getElem?_drop] at h9
  exact h9
 refine ⟨⟨⟨x0, x1, x2, data, x4, x5, x6, x7, x8, x9, rg, cid⟩, .slice da dn dc, .slice ra rn rc⟩, ⟨⟨bdI64 w0, bdU64 w1, bdU64 w2, bdU64 w5, bdU64 w6, bdU64 w7, bdU64 w8, bdU64 w9, hcl, hcw⟩, ⟨da, dn, dc, rfl, hdl, hdm, hdi⟩, ⟨ra, rn, rc, rfl, hrl, hrm, hri⟩⟩, fun i v hv => ?_⟩
 by_cases hi : i < 11
 ·
  rw [← hv]
  rcases (by omega : i = 0 ∨ i = 1 ∨ i = 2 ∨ i = 3 ∨ i = 4 ∨ i = 5 ∨ i = 6 ∨ i = 7 ∨ i = 8 ∨ i = 9 ∨ i = 10) with rfl | rfl | rfl | rfl | rfl | rfl | rfl | rfl | rfl | rfl | rfl
  ·
   exact g0
  ·
   exact g1
  ·
   exact g2
  ·
   exact g3
  ·
   exact g4
  ·
   exact g5
  ·
   exact g6
  ·
   exact g7
  ·
   exact g8
  ·
   exact g9
  ·
   exact g10
 ·
  have hv2 : (cid.map (Value.int .u8))[i - 11]? = some v := by
   have h9 : ((Fr.cells ⟨x0, x1, x2, data, x4, x5, x6, x7, x8, x9, rg, cid⟩ (.slice da dn dc) (.slice ra rn rc)))[i]? = some v := hv
   unfold Fr.cells at h9
   rw [List.getElem?_append_right (by simp; omega)] at h9
   simpa using h9
  have := g11 (i - 11) v hv2
  rw [show 11 + (i - 11) = i by omega] at this
  exact this
def Fxs (w : World) (a : Option Addr) (len : Nat) : Prop := ∃ l, FrsAt w a len l
theorem fxs_open {H : Type} {enc : TypeId × Value → H} {w : World} {base : Nat} {spare : Nat → Bool} {held : Bool} {a : Option Addr} {len cap : Nat} {d : DataW H} {p : List MemPlace}
  (h : DataW.Trod enc Try.prog w base spare held 23 (.slice a len cap) d p) :
  len ≤ cap ∧ (∃ elems rest : List (DataW H), (d = .nil ∧ len = 0 ∧ cap = 0) ∨ (d = .slice elems rest ∧ elems.length = len)) ∧ Fxs w a len ∧ cap ≤ 9223372036854775807 := by
 have hc : cap ≤ 9223372036854775807 := by
  obtain ⟨fuel, hf⟩ := h
  rcases DataW.trod_slice Try.underlying23 hf with ⟨hcs, _⟩ | ⟨ad, l, c, elems, rest, n, _, hcs, _, hb, hl, hm, _⟩
  ·
   simp [Value.cells] at hcs; omega
  ·
   simp [Value.cells] at hcs; unfold maxLen at hm; omega
 obtain ⟨h1, h2, h3⟩ := open_rows (N := 19) (e := 39) Try.underlying23 (by kernel_rfl) (by omega) h
 refine ⟨h1, h2, ?_, hc⟩
 rcases h3 with h3 | ⟨b, off, rfl, hb, hr⟩
 ·
  subst h3; exact ⟨[], RK.At.nil _ _, fun x hx => by cases hx⟩
 ·
  obtain ⟨L, hl, hp⟩ := rows_list (fun j (x : FX) => FrAt w x.f x.dv x.rv ∧ w.rangeAt b (off + j * 19) (frK.enc x)) len (fun j hj => by
   obtain ⟨cs, m, y, hcl, hcc, hy⟩ := hr j hj
   obtain ⟨x, hx, hxc⟩ := fr_cells hy
   refine ⟨x, hx, fun i v hv => ?_⟩
   have hi : i < 19 := by have := lt_of_get hv; rw [frK.len x hx.ok] at this; exact this
   show w.cell? ⟨b, off + j * 19 + i, none⟩ = some v
   rw [hcc i hi]; exact hxc i v hv)
  have hm : ∀ x ∈ L, FrAt w x.f x.dv x.rv := fun x hx => by obtain ⟨j, hj⟩ := List.getElem?_of_mem hx; exact (hp j x hj).1
  have hat := RK.at_rows frK (w := w) (b := b) (off := off) (l := L) (fun x hx => (hm x hx).ok) hb (fun t x hx => (hp t x hx).2)
  rw [hl] at hat
  exact ⟨L, hat, hm⟩
theorem FrsAt.pre {w : World} {a : Option Addr} {n : Nat} {l : List FX} (h : FrsAt w a n l) (k : Nat) (hk : k ≤ n) : FrsAt w a k (l.take k) := ⟨h.row.pre k hk, fun x hx => h.fr x (List.mem_of_mem_take hx)⟩
end Go.Proofs.Ytmbjepcbokbemaa
namespace Go.Proofs.Ytmbjepcbokbemaa
open Go.RowKit
theorem rge_round {x2 x3 x4 x6 x7 x8 x9 x10 x11 x12 x13 x14 x15 x16 x17 x18 x19 x20 x21 x22 x23 x24 x25 : Value} {ab ao bb bo n c1 c2 i : Nat} {a b c d : Int} (w : World) {Q : Exit → Act → World → Prop}
  (HX : Hid (w.rangeAt ab (ao + i * 2) [.int .u64 a, .int .u64 b])) (HY : Hid (w.rangeAt bb (bo + i * 2) [.int .u64 c, .int .u64 d])) (hi : i < n) (hn : n ≤ 1000000)
  (hQp : ∀ c a d v w, Q (.panic c) (a.put d v) w → Q (.panic c) a w)
  (hQ : ∀ (y16 y17 y18 y19 y20 y21 y22 y23 : Value) (w' : World), Hid (Below w.heap.size w w') → Q .normal ⟨List.toArray (.slice (some ⟨ab, ao, none⟩) n c1 :: .slice (some ⟨bb, bo, none⟩) n c2 :: x2 :: x3 :: x4 :: .int .i64 i :: x6 :: x7 :: x8 :: x9 :: x10 :: x11 :: x12 :: x13 :: x14 :: x15 :: y16 :: y17 :: y18 :: y19 :: y20 :: y21 :: y22 :: y23 :: .bool (!((a == c) && (b == d))) :: x25 :: []), []⟩ w') :
  Code.wp Try.prog (((Try.f39.body.bind (subRegion 6)).getD .skip)) Q ⟨List.toArray (.slice (some ⟨ab, ao, none⟩) n c1 :: .slice (some ⟨bb, bo, none⟩) n c2 :: x2 :: x3 :: x4 :: .int .i64 i :: x6 :: x7 :: x8 :: x9 :: x10 :: x11 :: x12 :: x13 :: x14 :: x15 :: x16 :: x17 :: x18 :: x19 :: x20 :: x21 :: x22 :: x23 :: x24 :: x25 :: []), []⟩ w := by
 have HK := Qh hQ; have HKP := Qh hQp
 clear hQ hQp
 conv => arg 2; whnf
 obtain ⟨r1, q1⟩ : ∃ b, (a == c) = b := ⟨_, rfl⟩
 obtain ⟨r2, q2⟩ : ∃ z, (b == d) = z := ⟨_, rfl⟩
 rw [q1, q2] at HK
 cases r1 <;> cases r2
 all_goals
  refine wp_plan (.t 0 (.t 1 (.t 2 (.t 3 (.t 4 (.t 5 (.t 6 (.t 7 (.t 8 .done))))))))) (fun y => y.rangeAt ab (ao + i * 2) [.int .u64 a, .int .u64 b] ∧ y.rangeAt bb (bo + i * 2) [.int .u64 c, .int .u64 d]) (by kernel_rfl) (by kernel_rfl) (by kernel_rfl) (fun c a d v w h => by first | (cases d <;> exact h) | exact HKP.out c a d v w h) ⟨HX.out, HY.out⟩ ?_
  haveI hne : Nonempty (In (fun y => y.rangeAt ab (ao + i * 2) [.int .u64 a, .int .u64 b] ∧ y.rangeAt bb (bo + i * 2) [.int .u64 c, .int .u64 d])) := ⟨⟨w, HX.out, HY.out⟩⟩
  repeat (first | rw [q1] | rw [q2] | (refine plan_t_load (by rfl) (by kernel_rfl) 71 _ rfl ab (ao + i * 2) rfl [.int .u64 a, .int .u64 b] _ (fun y hy => hy.1) Try.underlying71 rfl (by rfl) ?_; simp only [Act.put, List.setIfInBounds_toArray, List.set_cons_succ, List.set_cons_zero]) | (refine plan_t_load (by rfl) (by kernel_rfl) 71 _ rfl bb (bo + i * 2) rfl [.int .u64 c, .int .u64 d] _ (fun y hy => hy.2) Try.underlying71 rfl (by rfl) ?_; simp only [Act.put, List.setIfInBounds_toArray, List.set_cons_succ, List.set_cons_zero]) | (refine plan_t (by rfl) ?_; (first | go_big_quiet_skip | (go_big_quiet_want; go_big_quiet_op; go_big_quiet_on)); refine wpQuiet_nil ?_))
  clear hne
  show Q _ _ _
  exact HK.out _ _ _ _ _ _ _ _ w.drew (Qh (Below.refl w.heap.size w).drew)
theorem rgequal_any (w : World) (a b : Option Addr) (n m c1 c2 : Nat) (rs zs : List (Int × Int)) (hX : rgK.At w a n rs) (hZ : rgK.At w b m zs) (hn : n ≤ 1000000) (hm : m ≤ 1000000) :
  Calls Try.prog 39 #[.slice a n c1, .slice b m c2] w fun e w' => e = .returned (.bool (decide (rs = zs))) ∧ Below w.heap.size w w' := by
 have HX := Qh hX; have HZ := Qh hZ
 have hln := hX.1; have hlm := hZ.1
 have HLN := Qh hln; have HLM := Qh hlm
 clear hX hZ hln hlm
 by_cases hnm : n = m
 ·
  subst hnm
  have q1 : ((n : Int) != (n : Int)) = false := by simp
  go_enter Try.func39, Try.ntmps39
  go_wp2_with fail
  go_loopw [13] (fun s13 wr => ∃ i : Nat, s13 = .int .i64 i ∧ i ≤ n ∧ Hid (Below w.heap.size w wr) ∧ Hid (rs.take i = zs.take i)) (fun s _ => n - (intOf s).toNat)
  case atStart => exact ⟨0, rfl, by omega, Qh (Below.refl _ _), Qh rfl⟩
  case round =>
   obtain ⟨i, rfl, hi, HB, HT⟩ := hrel
   by_cases hlt : i < n
   ·
    obtain ⟨ab, ao, x, rfl, _, hx, hok, hrx⟩ := (HX.out.below HB.out).at hlt
    obtain ⟨bb, bo, z, rfl, _, hz, hok2, hrz⟩ := (HZ.out.below HB.out).at hlt
    obtain ⟨xa, xb⟩ := x
    obtain ⟨za, zb⟩ := z
    have HXR : Hid (wr.rangeAt ab (ao + i * 2) [.int .u64 xa, .int .u64 xb]) := Qh hrx; have HZR : Hid (wr.rangeAt bb (bo + i * 2) [.int .u64 za, .int .u64 zb]) := Qh hrz
    have HTX := Qh (take_snd4 hx); have HTZ := Qh (take_snd4 hz); have HIX := Qh hx; have HIZ := Qh hz
    clear hx hz hok hok2 hrx hrz
    go_upto_region 6 with fail
    refine rge_round _ HXR HZR hlt hn (fun c a d v w h => by cases d <;> exact h) ?_
    rintro _ _ _ _ _ _ _ _ w9 HB9
    replace HB := Qh (bl_next HB.out HB.out.size HB9.out)
    clear HB9 HXR HZR
    obtain ⟨bb9, hbb⟩ : ∃ b, ((xa == za) && (xb == zb)) = b := ⟨_, rfl⟩
    rw [hbb]
    have HBB := Qh hbb
    clear hbb
    cases bb9
    ·
     have HN : Hid (decide (rs = zs) = false) := Qh (by
      rw [decide_eq_false_iff_not]; intro e; subst e; have h9 := HIX.out; rw [HIZ.out] at h9; injection h9 with h9; injection h9 with h1 h2; subst h1; subst h2; have := HBB.out; simp at this)
     go_wp2_with fail
     (try simp only [Exit.inBlock, Exit.then])
     go_ret
     exact ⟨by rw [HN.out]; rfl, HB.out⟩
    ·
     have HT2 : Hid (rs.take (i + 1) = zs.take (i + 1)) := Qh (by have h9 := HBB.out; simp only [Bool.and_eq_true, beq_iff_eq] at h9; rw [HTX.out, HTZ.out, HT.out, h9.1, h9.2])
     clear HT HBB HTX HTZ HIX HIZ
     go_wp2_with fail
     go_roundw
     case rel => exact ⟨i + 1, by go_num, by omega, HB, HT2⟩
     case measure => simp [intOf]; omega
   ·
    obtain rfl : i = n := by omega
    have HN : Hid (decide (rs = zs) = true) := Qh (by rw [decide_eq_true_iff]; have h9 := HT.out; rw [List.take_of_length_le (by rw [← HLN.out]; exact Nat.le_refl _), List.take_of_length_le (by rw [← HLM.out]; exact Nat.le_refl _)] at h9; exact h9)
    go_wp2_with fail
    (try simp only [Exit.inBlock, Exit.then])
    go_wp2_with fail
    go_ret
    exact ⟨by rw [HN.out]; rfl, HB.out⟩
 ·
  have HN : Hid (decide (rs = zs) = false) := Qh (by rw [decide_eq_false_iff_not]; intro e; subst e; exact hnm (HLN.out.trans HLM.out.symm))
  have q1 : ((n : Int) != (m : Int)) = true := by simp; omega
  go_enter Try.func39, Try.ntmps39
  go_wp2_with fail
  (try simp only [Exit.inBlock, Exit.then])
  go_ret
  exact ⟨by rw [HN.out]; rfl, Below.refl _ _⟩
theorem sm_copy {x0 x1 x4 x5 x6 x7 x8 x9 x10 x11 x12 x13 x14 x15 x16 x17 x18 x19 x20 x21 x22 x23 x24 x25 x26 x27 x28 x29 x30 x31 x32 x33 x34 x35 x36 x37 x38 x39 x40 x41 x42 x43 x44 x45 x46 x47 x48 x49 x50 x51 x52 x53 x54 x55 x56 x57 x58 x59 x60 x61 x62 x63 x64 x65 x66 x67 x68 x69 x70 x71 x72 x73 x74 x75 x76 x77 x78 x79 x80 x81 x82 x83 x84 x85 x86 x87 x88 x89 x90 x91 x92 x93 x94 : Value} {ga gb : Nat} {RA RB : List Value} {f g : Fr} (w : World) {Q : Exit → Act → World → Prop}
  (HA : Hid (w.heap[ga]? = some (.cells RA.toArray 39 (0, 0)))) (HG : Hid (w.heap[gb]? = some (.cells RB.toArray 39 (0, 0)))) (HLA : Hid (RA.length = 19)) (HLB : Hid (RB.length = 19)) (hne : ga ≠ gb) (HCA : Hid (∀ u, Below w.heap.size w u → Calls Try.prog 25 #[.agg RA.toArray] u fun e w' => ∃ dv' rv', e = .returned (.agg (f.cells dv' rv').toArray) ∧ FrAt w' f dv' rv' ∧ FrLo u.heap.size dv' rv' ∧ Below u.heap.size u w')) (HCB : Hid (∀ u, Below w.heap.size w u → Calls Try.prog 25 #[.agg RB.toArray] u fun e w' => ∃ dv' rv', e = .returned (.agg (g.cells dv' rv').toArray) ∧ FrAt w' g dv' rv' ∧ FrLo u.heap.size dv' rv' ∧ Below u.heap.size u w'))
  (hQp : ∀ c a d v w, Q (.panic c) (a.put d v) w → Q (.panic c) a w)
  (hQ : ∀ (y6 y7 y8 y9 : Value) (w' : World) (d1 r1 d2 r2 : Value), Hid (w'.heap[ga]? = some (.cells (f.cells d1 r1).toArray 39 (0, 0))) → Hid (w'.heap[gb]? = some (.cells (g.cells d2 r2).toArray 39 (0, 0))) → Hid (FrAt w' f d1 r1) → Hid (FrAt w' g d2 r2) → Hid (∀ B, B ≤ ga → B ≤ gb → B ≤ w.heap.size → Below B w w') → Q .normal ⟨List.toArray (x0 :: x1 :: .pointer (some ⟨ga, 0, none⟩) :: .pointer (some ⟨gb, 0, none⟩) :: x4 :: x5 :: y6 :: y7 :: y8 :: y9 :: x10 :: x11 :: x12 :: x13 :: x14 :: x15 :: x16 :: x17 :: x18 :: x19 :: x20 :: x21 :: x22 :: x23 :: x24 :: x25 :: x26 :: x27 :: x28 :: x29 :: x30 :: x31 :: x32 :: x33 :: x34 :: x35 :: x36 :: x37 :: x38 :: x39 :: x40 :: x41 :: x42 :: x43 :: x44 :: x45 :: x46 :: x47 :: x48 :: x49 :: x50 :: x51 :: x52 :: x53 :: x54 :: x55 :: x56 :: x57 :: x58 :: x59 :: x60 :: x61 :: x62 :: x63 :: x64 :: x65 :: x66 :: x67 :: x68 :: x69 :: x70 :: x71 :: x72 :: x73 :: x74 :: x75 :: x76 :: x77 :: x78 :: x79 :: x80 :: x81 :: x82 :: x83 :: x84 :: x85 :: x86 :: x87 :: x88 :: x89 :: x90 :: x91 :: x92 :: x93 :: x94 :: []), []⟩ w') :
  Code.wp Try.prog (((Try.f17.body.bind (subRegion 1)).getD .skip)) Q ⟨List.toArray (x0 :: x1 :: .pointer (some ⟨ga, 0, none⟩) :: .pointer (some ⟨gb, 0, none⟩) :: x4 :: x5 :: x6 :: x7 :: x8 :: x9 :: x10 :: x11 :: x12 :: x13 :: x14 :: x15 :: x16 :: x17 :: x18 :: x19 :: x20 :: x21 :: x22 :: x23 :: x24 :: x25 :: x26 :: x27 :: x28 :: x29 :: x30 :: x31 :: x32 :: x33 :: x34 :: x35 :: x36 :: x37 :: x38 :: x39 :: x40 :: x41 :: x42 :: x43 :: x44 :: x45 :: x46 :: x47 :: x48 :: x49 :: x50 :: x51 :: x52 :: x53 :: x54 :: x55 :: x56 :: x57 :: x58 :: x59 :: x60 :: x61 :: x62 :: x63 :: x64 :: x65 :: x66 :: x67 :: x68 :: x69 :: x70 :: x71 :: x72 :: x73 :: x74 :: x75 :: x76 :: x77 :: x78 :: x79 :: x80 :: x81 :: x82 :: x83 :: x84 :: x85 :: x86 :: x87 :: x88 :: x89 :: x90 :: x91 :: x92 :: x93 :: x94 :: []), []⟩ w := by
 have HK := Qh hQ; have HKP := Qh hQp
 clear hQ hQp
 conv => arg 2; whnf
 have HNE := Qh hne
 clear hne
 refine wp_plan2 5 (.t 2 (.u 0 (.u 1 (.u 3 (.u 4 .done))))) (.u 5 .done) (fun y => y.heap[gb]? = some (.cells RB.toArray 39 (0, 0))) (by kernel_rfl) (by kernel_rfl) (by kernel_rfl) (fun c a d v w h => by first | (cases d <;> exact h) | exact HKP.out c a d v w h) HG.out ?_
 have HD : Hid (Below w.heap.size w w.drew) := Qh (Below.refl _ _).drew
 have HA1 := Qh (bl_row HD.out (lt_of_block HA.out) HA.out); have HG1 := Qh (bl_row HD.out (lt_of_block HG.out) HG.out)
 generalize w.drew = w1 at HD HA1 HG1 ⊢
 haveI hne : Nonempty (In fun y => y.heap[gb]? = some (.cells RB.toArray 39 (0, 0))) := ⟨⟨w1, HG1.out⟩⟩
 refine plan_t_load (by rfl) (by kernel_rfl) 39 _ rfl gb 0 rfl RB _ (fun y hy => rngL hy) Try.underlying39 rfl (by rw [HLB.out]; rfl) ?_
 simp only [Act.put, List.setIfInBounds_toArray, List.set_cons_succ, List.set_cons_zero]
 refine plan_us (by rfl) (by kernel_rfl) ?_
 intro K hK
 refine wp_load_mid 39 _ rfl ga 0 rfl RA _ (rngL HA1.out) Try.underlying39 rfl (by rw [HLA.out]; rfl) ?_
 refine hK _ _ ⟨HG1.out, ?_⟩
 clear hK K
 simp only [Act.put, List.setIfInBounds_toArray, List.set_cons_succ, List.set_cons_zero]
 refine plan_us (by rfl) (by kernel_rfl) ?_
 intro K hK
 have HCL := Qh (HCA.out w1 HD.out)
 go_wp2_with fail
 refine Calls.mono HCL.out ?_
 rintro e w2 ⟨d1, r1, rfl, hf1, hl1, hb⟩
 have HL1 : Hid (FrLo w.heap.size d1 r1) := Qh (hl1.less HD.out.size)
 replace HD := Qh (bl_next HD.out HD.out.size hb)
 replace HA1 := Qh (bl_row hb (lt_of_block HA1.out) HA1.out)
 replace HG1 := Qh (bl_row hb (lt_of_block HG1.out) HG1.out)
 have HF1 := Qh hf1
 have HR1 : Hid ((f.cells d1 r1).length = 19) := Qh (Fr.len hf1.wf)
 have HO1 : Hid (∀ v ∈ f.cells d1 r1, v.oneCell' = true) := Qh (Fr.one hf1)
 clear hb hf1 hl1 HCL
 obtain ⟨RF, hRF⟩ : ∃ R, f.cells d1 r1 = R := ⟨_, rfl⟩
 have HRF := Qh hRF
 rw [hRF] at HR1 HO1 ⊢
 clear hRF
 go_wp2_with fail
 refine ⟨HG1.out, ?_⟩
 refine plan_us (by rfl) (by kernel_rfl) ?_
 intro K hK
 have HCL := Qh (HCB.out w2 HD.out)
 go_wp2_with fail
 refine Calls.mono HCL.out ?_
 rintro e w3 ⟨d2, r2, rfl, hf2, hl2, hb⟩
 have HL2 : Hid (FrLo w.heap.size d2 r2) := Qh (hl2.less HD.out.size)
 replace HD := Qh (bl_next HD.out HD.out.size hb)
 replace HA1 := Qh (bl_row hb (lt_of_block HA1.out) HA1.out)
 replace HG1 := Qh (bl_row hb (lt_of_block HG1.out) HG1.out)
 replace HF1 := Qh (HF1.out.below hb)
 have HF2 := Qh hf2
 have HR2 : Hid ((g.cells d2 r2).length = 19) := Qh (Fr.len hf2.wf)
 have HO2 : Hid (∀ v ∈ g.cells d2 r2, v.oneCell' = true) := Qh (Fr.one hf2)
 clear hb hf2 hl2 HCL
 obtain ⟨RG2, hRG⟩ : ∃ R, g.cells d2 r2 = R := ⟨_, rfl⟩
 have HRG := Qh hRG
 rw [hRG] at HR2 HO2 ⊢
 clear hRG
 go_wp2_with fail
 refine ⟨HG1.out, ?_⟩
 refine plan_us (by rfl) (by kernel_rfl) ?_
 intro K hK
 refine wp_store_mid 39 _ _ rfl ga 0 RF.toArray rfl rfl (there_row HA1.out (by rw [List.size_toArray, HR1.out, HLA.out]; exact Nat.le_refl _)) (by rw [List.size_toArray, HR1.out]; rfl) (all_oneCell_toArray HO1.out) ?_
 obtain ⟨hz8, hg8⟩ := setCells_row (g := ga) (t := 39) RF [] RA w3 (by simpa using HA1.out) (by rw [HR1.out, HLA.out])
 simp only [List.length_nil, List.nil_append] at hz8 hg8
 change K _ (w3.setCells ga 0 RF)
 have HZ8 := Qh hz8; have HG8 := Qh hg8
 clear hz8 hg8
 generalize w3.setCells ga 0 RF = w4 at HZ8 HG8 ⊢
 have HG4 := Qh (grown_row HG8.out (by intro e; injection e with e; exact HNE.out e.symm) HG1.out)
 refine hK _ _ ⟨HG4.out, ?_⟩
 clear hK K
 simp only [Act.put, List.setIfInBounds_toArray, List.set_cons_succ, List.set_cons_zero]
 refine ⟨fun _ => True, trivial, ?_⟩
 refine plan_us (by rfl) (by kernel_rfl) ?_
 intro K hK
 refine wp_store_mid 39 _ _ rfl gb 0 RG2.toArray rfl rfl (there_row HG4.out (by rw [List.size_toArray, HR2.out, HLB.out]; exact Nat.le_refl _)) (by rw [List.size_toArray, HR2.out]; rfl) (all_oneCell_toArray HO2.out) ?_
 obtain ⟨hz9, hg9⟩ := setCells_row (g := gb) (t := 39) RG2 [] RB w4 (by simpa using HG4.out) (by rw [HR2.out, HLB.out])
 simp only [List.length_nil, List.nil_append] at hz9 hg9
 change K _ (w4.setCells gb 0 RG2)
 have HZ9 := Qh hz9; have HG9 := Qh hg9
 clear hz9 hg9
 generalize w4.setCells gb 0 RG2 = w5 at HZ9 HG9 ⊢
 have HZ85 := Qh (grown_row HG9.out (by intro e; injection e with e; exact HNE.out e) HZ8.out)
 have HGA : Hid (ga < w.heap.size) := Qh (lt_of_block HA.out); have HGB : Hid (gb < w.heap.size) := Qh (lt_of_block HG.out)
 have HF1e := Qh ((HF1.out.cellBut HL1.out HG8.out HGA.out).cellBut HL1.out HG9.out HGB.out); have HF2e := Qh ((HF2.out.cellBut HL2.out HG8.out HGA.out).cellBut HL2.out HG9.out HGB.out)
 have HBB : Hid (∀ B, B ≤ ga → B ≤ gb → B ≤ w.heap.size → Below B w w5) := Qh (fun B h1 h2 h3 => ((HD.out.mono h3).grown HG8.out (Nat.le_trans h3 HD.out.size) (by intro k hk; injection hk with hk; omega)).grown HG9.out (Nat.le_trans (Nat.le_trans h3 HD.out.size) HG8.out.size) (by intro k hk; injection hk with hk; omega))
 refine hK _ _ ⟨trivial, ?_⟩
 clear hK K
 simp only [Act.put, List.setIfInBounds_toArray, List.set_cons_succ, List.set_cons_zero]
 clear hne
 show Q _ _ _
 exact HK.out _ _ _ _ w5 d1 r1 d2 r2 (Qh (by rw [HRF.out]; exact HZ85.out)) (Qh (by rw [HRG.out]; exact HZ9.out)) HF1e HF2e HBB
def eqN1 (N M : Fr) : Bool := (N.kind == M.kind) && ((N.st == M.st) && ((N.of_ == M.of_) && ((N.li == M.li) && ((N.co == M.co) && ((N.fi == M.fi) && ((N.se == M.se) && (N.de == M.de)))))))
def eqN2 (N M : Fr) : Bool := (N.fin == M.fin) && ((N.cid == M.cid) && (decide (N.data = M.data) && decide (N.rg = M.rg)))
def eqN (N M : Fr) : Bool := eqN1 N M && eqN2 N M
theorem str_eqQ (l m : List Int) (hl : ∀ x ∈ l, (Lit.int .u8 x).wf = true) (hm : ∀ x ∈ m, (Lit.int .u8 x).wf = true) : ((strOfNums l).toList == (strOfNums m).toList) = decide (l = m) := by
 by_cases h : l = m
 ·
  subst h; simp
 ·
  rw [str_neQ l m hl hm h]; simp [h]
theorem sm_nums {x0 x1 x4 x5 x6 x7 x8 x9 x10 x11 x12 x13 x14 x15 x16 x17 x18 x19 x20 x21 x22 x23 x24 x25 x26 x27 x28 x29 x30 x31 x32 x33 x34 x35 x36 x37 x38 x39 x40 x41 x42 x43 x44 x45 x46 x47 x48 x49 x50 x51 x52 x53 x54 x55 x56 x57 x58 x59 x60 x61 x62 x63 x64 x65 x66 x67 x68 x69 x70 x71 x72 x73 x74 x75 x76 x77 x78 x79 x80 x81 x82 x83 x84 x85 x86 x87 x88 x89 x90 x91 x92 x93 x94 : Value} {ga gb : Nat} {N M : Fr} {d1 r1 d2 r2 : Value} (w : World) {Q : Exit → Act → World → Prop}
  (HA9 : Hid (w.heap[ga]? = some (.cells (N.cells d1 r1).toArray 39 (0, 0)))) (HG9 : Hid (w.heap[gb]? = some (.cells (M.cells d2 r2).toArray 39 (0, 0))))
  (hQp : ∀ c a d v w, Q (.panic c) (a.put d v) w → Q (.panic c) a w)
  (hQ : ∀ (y10 y11 y12 y13 y14 y15 y16 y17 y18 y19 y20 y21 y22 y23 y24 y25 y26 y27 y28 y29 y30 y31 y32 y33 y34 y35 y36 y37 y38 y39 y40 y41 y42 y43 y44 y45 y46 y47 y48 y49 y50 y51 y52 y53 y54 y55 y56 y57 y58 y59 y60 y61 y62 y63 : Value) (w' : World), Hid (w' = w) → Q .normal ⟨List.toArray (x0 :: x1 :: .pointer (some ⟨ga, 0, none⟩) :: .pointer (some ⟨gb, 0, none⟩) :: x4 :: .bool (eqN1 N M) :: x6 :: x7 :: x8 :: x9 :: y10 :: y11 :: y12 :: y13 :: y14 :: y15 :: y16 :: y17 :: y18 :: y19 :: y20 :: y21 :: y22 :: y23 :: y24 :: y25 :: y26 :: y27 :: y28 :: y29 :: y30 :: y31 :: y32 :: y33 :: y34 :: y35 :: y36 :: y37 :: y38 :: y39 :: y40 :: y41 :: y42 :: y43 :: y44 :: y45 :: y46 :: y47 :: y48 :: y49 :: y50 :: y51 :: y52 :: y53 :: y54 :: y55 :: y56 :: y57 :: y58 :: y59 :: y60 :: y61 :: y62 :: y63 :: x64 :: x65 :: x66 :: x67 :: x68 :: x69 :: x70 :: x71 :: x72 :: x73 :: x74 :: x75 :: x76 :: x77 :: x78 :: x79 :: x80 :: x81 :: x82 :: x83 :: x84 :: x85 :: x86 :: x87 :: x88 :: x89 :: x90 :: x91 :: x92 :: x93 :: x94 :: []), []⟩ w') :
  Code.wp Try.prog (((Try.f17.body.bind (subRegion 2)).getD .skip)) Q ⟨List.toArray (x0 :: x1 :: .pointer (some ⟨ga, 0, none⟩) :: .pointer (some ⟨gb, 0, none⟩) :: x4 :: x5 :: x6 :: x7 :: x8 :: x9 :: x10 :: x11 :: x12 :: x13 :: x14 :: x15 :: x16 :: x17 :: x18 :: x19 :: x20 :: x21 :: x22 :: x23 :: x24 :: x25 :: x26 :: x27 :: x28 :: x29 :: x30 :: x31 :: x32 :: x33 :: x34 :: x35 :: x36 :: x37 :: x38 :: x39 :: x40 :: x41 :: x42 :: x43 :: x44 :: x45 :: x46 :: x47 :: x48 :: x49 :: x50 :: x51 :: x52 :: x53 :: x54 :: x55 :: x56 :: x57 :: x58 :: x59 :: x60 :: x61 :: x62 :: x63 :: x64 :: x65 :: x66 :: x67 :: x68 :: x69 :: x70 :: x71 :: x72 :: x73 :: x74 :: x75 :: x76 :: x77 :: x78 :: x79 :: x80 :: x81 :: x82 :: x83 :: x84 :: x85 :: x86 :: x87 :: x88 :: x89 :: x90 :: x91 :: x92 :: x93 :: x94 :: []), []⟩ w := by
 have HK := Qh hQ; have HKP := Qh hQp
 clear hQ hQp
 conv => arg 2; whnf
 have ca_kind := cell_row HA9.out 0 (.int .i64 N.kind) rfl
 have ca_st := cell_row HA9.out 1 (.int .u64 N.st) rfl
 have ca_of_ := cell_row HA9.out 2 (.int .u64 N.of_) rfl
 have ca_li := cell_row HA9.out 5 (.int .u64 N.li) rfl
 have ca_co := cell_row HA9.out 6 (.int .u64 N.co) rfl
 have ca_fi := cell_row HA9.out 7 (.int .u64 N.fi) rfl
 have ca_se := cell_row HA9.out 8 (.int .u64 N.se) rfl
 have ca_de := cell_row HA9.out 9 (.int .u64 N.de) rfl
 have cb_kind := cell_row HG9.out 0 (.int .i64 M.kind) rfl
 have cb_st := cell_row HG9.out 1 (.int .u64 M.st) rfl
 have cb_of_ := cell_row HG9.out 2 (.int .u64 M.of_) rfl
 have cb_li := cell_row HG9.out 5 (.int .u64 M.li) rfl
 have cb_co := cell_row HG9.out 6 (.int .u64 M.co) rfl
 have cb_fi := cell_row HG9.out 7 (.int .u64 M.fi) rfl
 have cb_se := cell_row HG9.out 8 (.int .u64 M.se) rfl
 have cb_de := cell_row HG9.out 9 (.int .u64 M.de) rfl
 unfold eqN1 at HK
 clear HA9 HG9
 obtain ⟨kind1, h1⟩ : ∃ y, N.kind = y := ⟨_, rfl⟩
 obtain ⟨kind2, h2⟩ : ∃ y, M.kind = y := ⟨_, rfl⟩
 rw [h1, h2] at HK
 rw [h1] at ca_kind
 rw [h2] at cb_kind
 clear h1 h2
 obtain ⟨b_kind, q_kind⟩ : ∃ b, (kind1 == kind2) = b := ⟨_, rfl⟩
 rw [q_kind] at HK
 obtain ⟨st1, h1⟩ : ∃ y, N.st = y := ⟨_, rfl⟩
 obtain ⟨st2, h2⟩ : ∃ y, M.st = y := ⟨_, rfl⟩
 rw [h1, h2] at HK
 rw [h1] at ca_st
 rw [h2] at cb_st
 clear h1 h2
 obtain ⟨b_st, q_st⟩ : ∃ b, (st1 == st2) = b := ⟨_, rfl⟩
 rw [q_st] at HK
 obtain ⟨of1, h1⟩ : ∃ y, N.of_ = y := ⟨_, rfl⟩
 obtain ⟨of2, h2⟩ : ∃ y, M.of_ = y := ⟨_, rfl⟩
 rw [h1, h2] at HK
 rw [h1] at ca_of_
 rw [h2] at cb_of_
 clear h1 h2
 obtain ⟨b_of, q_of⟩ : ∃ b, (of1 == of2) = b := ⟨_, rfl⟩
 rw [q_of] at HK
 obtain ⟨li1, h1⟩ : ∃ y, N.li = y := ⟨_, rfl⟩
 obtain ⟨li2, h2⟩ : ∃ y, M.li = y := ⟨_, rfl⟩
 rw [h1, h2] at HK
 rw [h1] at ca_li
 rw [h2] at cb_li
 clear h1 h2
 obtain ⟨b_li, q_li⟩ : ∃ b, (li1 == li2) = b := ⟨_, rfl⟩
 rw [q_li] at HK
 obtain ⟨co1, h1⟩ : ∃ y, N.co = y := ⟨_, rfl⟩
 obtain ⟨co2, h2⟩ : ∃ y, M.co = y := ⟨_, rfl⟩
 rw [h1, h2] at HK
 rw [h1] at ca_co
 rw [h2] at cb_co
 clear h1 h2
 obtain ⟨b_co, q_co⟩ : ∃ b, (co1 == co2) = b := ⟨_, rfl⟩
 rw [q_co] at HK
 obtain ⟨fi1, h1⟩ : ∃ y, N.fi = y := ⟨_, rfl⟩
 obtain ⟨fi2, h2⟩ : ∃ y, M.fi = y := ⟨_, rfl⟩
 rw [h1, h2] at HK
 rw [h1] at ca_fi
 rw [h2] at cb_fi
 clear h1 h2
 obtain ⟨b_fi, q_fi⟩ : ∃ b, (fi1 == fi2) = b := ⟨_, rfl⟩
 rw [q_fi] at HK
 obtain ⟨se1, h1⟩ : ∃ y, N.se = y := ⟨_, rfl⟩
 obtain ⟨se2, h2⟩ : ∃ y, M.se = y := ⟨_, rfl⟩
 rw [h1, h2] at HK
 rw [h1] at ca_se
 rw [h2] at cb_se
 clear h1 h2
 obtain ⟨b_se, q_se⟩ : ∃ b, (se1 == se2) = b := ⟨_, rfl⟩
 rw [q_se] at HK
 obtain ⟨de1, h1⟩ : ∃ y, N.de = y := ⟨_, rfl⟩
 obtain ⟨de2, h2⟩ : ∃ y, M.de = y := ⟨_, rfl⟩
 rw [h1, h2] at HK
 rw [h1] at ca_de
 rw [h2] at cb_de
 clear h1 h2
 obtain ⟨b_de, q_de⟩ : ∃ b, (de1 == de2) = b := ⟨_, rfl⟩
 rw [q_de] at HK
 cases b_kind
 ·
  clear ca_st cb_st q_st ca_of_ cb_of_ q_of ca_li cb_li q_li ca_co cb_co q_co ca_fi cb_fi q_fi ca_se cb_se q_se ca_de cb_de q_de
  simp only [Bool.false_and, Bool.true_and] at HK
  go_wp2_with fail
  exact HK.out _ _ _ _ _ _ _ _ _ _ _ _ _ _ _ _ _ _ _ _ _ _ _ _ _ _ _ _ _ _ _ _ _ _ _ _ _ _ _ _ _ _ _ _ _ _ _ _ _ _ _ _ _ _ w (Qh rfl)
 cases b_st
 ·
  clear ca_of_ cb_of_ q_of ca_li cb_li q_li ca_co cb_co q_co ca_fi cb_fi q_fi ca_se cb_se q_se ca_de cb_de q_de
  simp only [Bool.false_and, Bool.true_and] at HK
  go_wp2_with fail
  exact HK.out _ _ _ _ _ _ _ _ _ _ _ _ _ _ _ _ _ _ _ _ _ _ _ _ _ _ _ _ _ _ _ _ _ _ _ _ _ _ _ _ _ _ _ _ _ _ _ _ _ _ _ _ _ _ w (Qh rfl)
 cases b_of
 ·
  clear ca_li cb_li q_li ca_co cb_co q_co ca_fi cb_fi q_fi ca_se cb_se q_se ca_de cb_de q_de
  simp only [Bool.false_and, Bool.true_and] at HK
  go_wp2_with fail
  exact HK.out _ _ _ _ _ _ _ _ _ _ _ _ _ _ _ _ _ _ _ _ _ _ _ _ _ _ _ _ _ _ _ _ _ _ _ _ _ _ _ _ _ _ _ _ _ _ _ _ _ _ _ _ _ _ w (Qh rfl)
 cases b_li
 ·
  clear ca_co cb_co q_co ca_fi cb_fi q_fi ca_se cb_se q_se ca_de cb_de q_de
  simp only [Bool.false_and, Bool.true_and] at HK
  go_wp2_with fail
  exact HK.out _ _ _ _ _ _ _ _ _ _ _ _ _ _ _ _ _ _ _ _ _ _ _ _ _ _ _ _ _ _ _ _ _ _ _ _ _ _ _ _ _ _ _ _ _ _ _ _ _ _ _ _ _ _ w (Qh rfl)
 cases b_co
 ·
  clear ca_fi cb_fi q_fi ca_se cb_se q_se ca_de cb_de q_de
  simp only [Bool.false_and, Bool.true_and] at HK
  go_wp2_with fail
  exact HK.out _ _ _ _ _ _ _ _ _ _ _ _ _ _ _ _ _ _ _ _ _ _ _ _ _ _ _ _ _ _ _ _ _ _ _ _ _ _ _ _ _ _ _ _ _ _ _ _ _ _ _ _ _ _ w (Qh rfl)
 cases b_fi
 ·
  clear ca_se cb_se q_se ca_de cb_de q_de
  simp only [Bool.false_and, Bool.true_and] at HK
  go_wp2_with fail
  exact HK.out _ _ _ _ _ _ _ _ _ _ _ _ _ _ _ _ _ _ _ _ _ _ _ _ _ _ _ _ _ _ _ _ _ _ _ _ _ _ _ _ _ _ _ _ _ _ _ _ _ _ _ _ _ _ w (Qh rfl)
 cases b_se
 ·
  clear ca_de cb_de q_de
  simp only [Bool.false_and, Bool.true_and] at HK
  go_wp2_with fail
  exact HK.out _ _ _ _ _ _ _ _ _ _ _ _ _ _ _ _ _ _ _ _ _ _ _ _ _ _ _ _ _ _ _ _ _ _ _ _ _ _ _ _ _ _ _ _ _ _ _ _ _ _ _ _ _ _ w (Qh rfl)
 cases b_de
 ·
  simp only [Bool.false_and, Bool.true_and] at HK
  go_wp2_with fail
  exact HK.out _ _ _ _ _ _ _ _ _ _ _ _ _ _ _ _ _ _ _ _ _ _ _ _ _ _ _ _ _ _ _ _ _ _ _ _ _ _ _ _ _ _ _ _ _ _ _ _ _ _ _ _ _ _ w (Qh rfl)
 simp only [Bool.true_and] at HK
 go_wp2_with fail
 exact HK.out _ _ _ _ _ _ _ _ _ _ _ _ _ _ _ _ _ _ _ _ _ _ _ _ _ _ _ _ _ _ _ _ _ _ _ _ _ _ _ _ _ _ _ _ _ _ _ _ _ _ _ _ _ _ w (Qh rfl)
theorem sm_rest {x0 x1 x4 x6 x7 x8 x9 x10 x11 x12 x13 x14 x15 x16 x17 x18 x19 x20 x21 x22 x23 x24 x25 x26 x27 x28 x29 x30 x31 x32 x33 x34 x35 x36 x37 x38 x39 x40 x41 x42 x43 x44 x45 x46 x47 x48 x49 x50 x51 x52 x53 x54 x55 x56 x57 x58 x59 x60 x61 x62 x63 x64 x65 x66 x67 x68 x69 x70 x71 x72 x73 x74 x75 x76 x77 x78 x79 x80 x81 x82 x83 x84 x85 x86 x87 x88 x89 x90 x91 x92 x93 x94 : Value} {ga gb : Nat} {N M : Fr} {d1 r1 d2 r2 : Value} {b5 : Bool} (w : World) {Q : Exit → Act → World → Prop}
  (HA9 : Hid (w.heap[ga]? = some (.cells (N.cells d1 r1).toArray 39 (0, 0)))) (HG9 : Hid (w.heap[gb]? = some (.cells (M.cells d2 r2).toArray 39 (0, 0)))) (HF1 : Hid (FrAt w N d1 r1)) (HF2 : Hid (FrAt w M d2 r2)) (hrl : N.rg.length ≤ 1000000) (hrm : M.rg.length ≤ 1000000)
  (hQp : ∀ c a d v w, Q (.panic c) (a.put d v) w → Q (.panic c) a w)
  (hQ : ∀ (y64 y65 y66 y67 y68 y69 y70 y71 y72 y73 y74 y75 y76 y77 y78 y79 y80 y81 y82 y83 y84 y85 y86 y87 y88 y89 y90 y91 y92 y93 y94 : Value) (w' : World), Hid (Below w.heap.size w w') → Q .normal ⟨List.toArray (x0 :: x1 :: .pointer (some ⟨ga, 0, none⟩) :: .pointer (some ⟨gb, 0, none⟩) :: .bool (b5 && eqN2 N M) :: .bool b5 :: x6 :: x7 :: x8 :: x9 :: x10 :: x11 :: x12 :: x13 :: x14 :: x15 :: x16 :: x17 :: x18 :: x19 :: x20 :: x21 :: x22 :: x23 :: x24 :: x25 :: x26 :: x27 :: x28 :: x29 :: x30 :: x31 :: x32 :: x33 :: x34 :: x35 :: x36 :: x37 :: x38 :: x39 :: x40 :: x41 :: x42 :: x43 :: x44 :: x45 :: x46 :: x47 :: x48 :: x49 :: x50 :: x51 :: x52 :: x53 :: x54 :: x55 :: x56 :: x57 :: x58 :: x59 :: x60 :: x61 :: x62 :: x63 :: y64 :: y65 :: y66 :: y67 :: y68 :: y69 :: y70 :: y71 :: y72 :: y73 :: y74 :: y75 :: y76 :: y77 :: y78 :: y79 :: y80 :: y81 :: y82 :: y83 :: y84 :: y85 :: y86 :: y87 :: y88 :: y89 :: y90 :: y91 :: y92 :: y93 :: y94 :: []), []⟩ w') :
  Code.wp Try.prog (((Try.f17.body.bind (subRegion 3)).getD .skip)) Q ⟨List.toArray (x0 :: x1 :: .pointer (some ⟨ga, 0, none⟩) :: .pointer (some ⟨gb, 0, none⟩) :: x4 :: .bool b5 :: x6 :: x7 :: x8 :: x9 :: x10 :: x11 :: x12 :: x13 :: x14 :: x15 :: x16 :: x17 :: x18 :: x19 :: x20 :: x21 :: x22 :: x23 :: x24 :: x25 :: x26 :: x27 :: x28 :: x29 :: x30 :: x31 :: x32 :: x33 :: x34 :: x35 :: x36 :: x37 :: x38 :: x39 :: x40 :: x41 :: x42 :: x43 :: x44 :: x45 :: x46 :: x47 :: x48 :: x49 :: x50 :: x51 :: x52 :: x53 :: x54 :: x55 :: x56 :: x57 :: x58 :: x59 :: x60 :: x61 :: x62 :: x63 :: x64 :: x65 :: x66 :: x67 :: x68 :: x69 :: x70 :: x71 :: x72 :: x73 :: x74 :: x75 :: x76 :: x77 :: x78 :: x79 :: x80 :: x81 :: x82 :: x83 :: x84 :: x85 :: x86 :: x87 :: x88 :: x89 :: x90 :: x91 :: x92 :: x93 :: x94 :: []), []⟩ w := by
 have HK := Qh hQ; have HKP := Qh hQp
 clear hQ hQp
 conv => arg 2; whnf
 obtain ⟨da, dn, dc, rfl, _, _, hd⟩ := HF1.out.d
 obtain ⟨ea, en, ec, rfl, _, _, he⟩ := HF2.out.d
 obtain ⟨ra, rn, rc, rfl, _, _, hr⟩ := HF1.out.r
 obtain ⟨sa, sn, sc, rfl, _, _, hs⟩ := HF2.out.r
 have hrn : rn ≤ 1000000 := by rw [hr.1]; exact hrl
 have hsn : sn ≤ 1000000 := by rw [hs.1]; exact hrm
 have HEQ := Qh (rgequal_any w ra sa rn sn rc sc N.rg M.rg hr hs hrn hsn)
 have HDA := Qh hd; have HDB := Qh he
 have hse := str_eqQ N.data M.data hd.2.1 he.2.1
 clear hd he hr hs hrl hrm hrn hsn
 have ca_fin := cell_row HA9.out 4 (.bool N.fin) rfl
 have ca_d := cell_row HA9.out 3 (.slice da dn dc) rfl
 have ca_r := cell_row HA9.out 10 (.slice ra rn rc) rfl
 have cb_fin := cell_row HG9.out 4 (.bool M.fin) rfl
 have cb_d := cell_row HG9.out 3 (.slice ea en ec) rfl
 have cb_r := cell_row HG9.out 10 (.slice sa sn sc) rfl
 have HRA := Qh (rng_row HA9.out 11 _ (cells_cid N (.slice da dn dc) (.slice ra rn rc))); have HRB := Qh (rng_row HG9.out 11 _ (cells_cid M (.slice ea en ec) (.slice sa sn sc)))
 have hc1 : (convert 25 9 (.slice da dn dc)).run Try.prog w = .ok (.string (strOfNums N.data)) w := conv_ints _ 5 _ _ Try.underlying25 Try.underlying5 Try.underlying9 HDA.out
 have hc2 : (convert 25 9 (.slice ea en ec)).run Try.prog w = .ok (.string (strOfNums M.data)) w := conv_ints _ 5 _ _ Try.underlying25 Try.underlying5 Try.underlying9 HDB.out
 have HCO : Hid (cidOk N.cid) := Qh ⟨HF1.out.wf.cidl, HF1.out.wf.cid⟩; have HCP : Hid (cidOk M.cid) := Qh ⟨HF2.out.wf.cidl, HF2.out.wf.cid⟩
 have h18 : (N.cid.map (Value.int .u8)).length = 8 := by simp [HCO.out.1]
 have h28 : (M.cid.map (Value.int .u8)).length = 8 := by simp [HCP.out.1]
 clear HA9 HG9 HF1 HF2 HDA HDB
 unfold eqN2 at HK
 rw [← hse] at HK
 clear hse
 obtain ⟨s1, h1⟩ : ∃ y, strOfNums N.data = y := ⟨_, rfl⟩
 obtain ⟨s2, h2⟩ : ∃ y, strOfNums M.data = y := ⟨_, rfl⟩
 rw [h1] at hc1 HK; rw [h2] at hc2 HK
 clear h1 h2
 obtain ⟨fin1, h1⟩ : ∃ y, N.fin = y := ⟨_, rfl⟩
 obtain ⟨fin2, h2⟩ : ∃ y, M.fin = y := ⟨_, rfl⟩
 rw [h1, h2] at HK
 rw [h1] at ca_fin
 rw [h2] at cb_fin
 clear h1 h2
 obtain ⟨b_fin, q_fin⟩ : ∃ b, (fin1 == fin2) = b := ⟨_, rfl⟩
 rw [q_fin] at HK
 obtain ⟨cid1, h1⟩ : ∃ y, N.cid = y := ⟨_, rfl⟩
 obtain ⟨cid2, h2⟩ : ∃ y, M.cid = y := ⟨_, rfl⟩
 rw [h1, h2] at HK
 rw [h1] at HRA HCO h18
 rw [h2] at HRB HCP h28
 clear h1 h2
 obtain ⟨b_cid, q_cid⟩ : ∃ b, (cid1 == cid2) = b := ⟨_, rfl⟩
 rw [q_cid] at HK
 obtain ⟨b_str, q_str⟩ : ∃ b, (s1.toList == s2.toList) = b := ⟨_, rfl⟩
 rw [q_str] at HK
 obtain ⟨b_rg, q_rg⟩ : ∃ b, decide (N.rg = M.rg) = b := ⟨_, rfl⟩
 rw [q_rg] at HK HEQ
 clear q_rg
 obtain ⟨CX, hCX⟩ : ∃ C, cid1.map (Value.int .u8) = C := ⟨_, rfl⟩
 have HCX := Qh hCX
 rw [hCX] at HRA h18
 have H18 := Qh h18
 obtain ⟨CY, hCY⟩ : ∃ C, cid2.map (Value.int .u8) = C := ⟨_, rfl⟩
 have HCY := Qh hCY
 rw [hCY] at HRB h28
 have H28 := Qh h28
 have HCQ := Qh q_cid
 clear hCX hCY h18 h28 q_cid
 cases b5
 ·
  clear ca_fin cb_fin ca_d cb_d ca_r cb_r hc1 hc2 q_fin q_str
  simp only [Bool.false_and, Bool.true_and] at HK
  go_wp2_with fail
  exact HK.out _ _ _ _ _ _ _ _ _ _ _ _ _ _ _ _ _ _ _ _ _ _ _ _ _ _ _ _ _ _ _ w (Qh (Below.refl _ _))
 cases b_fin
 ·
  clear ca_d cb_d ca_r cb_r hc1 hc2 q_str
  simp only [Bool.false_and, Bool.true_and] at HK
  go_wp2_with fail
  exact HK.out _ _ _ _ _ _ _ _ _ _ _ _ _ _ _ _ _ _ _ _ _ _ _ _ _ _ _ _ _ _ _ w (Qh (Below.refl _ _))
 cases b_cid
 ·
  clear ca_d cb_d ca_r cb_r hc1 hc2 q_str
  simp only [Bool.false_and, Bool.true_and] at HK
  go_wp2_with (first | (refine wpList_load_g 37 _ rfl (by kernel_rfl) ga 11 rfl CX _ HRA.out Try.underlying37 rfl (by rw [H18.out]; rfl) ?_) | (refine wpList_load_g 37 _ rfl (by kernel_rfl) gb 11 rfl CY _ HRB.out Try.underlying37 rfl (by rw [H28.out]; rfl) ?_) | (refine wpList_eql_cid_g (by kernel_rfl) _ _ _ rfl cid1 cid2 (by rw [HCX.out]; rfl) (by rw [HCY.out]; rfl) HCO.out HCP.out ?_; rw [HCQ.out]) | fail)
  exact HK.out _ _ _ _ _ _ _ _ _ _ _ _ _ _ _ _ _ _ _ _ _ _ _ _ _ _ _ _ _ _ _ w (Qh (Below.refl _ _))
 cases b_str
 ·
  clear ca_r cb_r
  simp only [Bool.false_and, Bool.true_and] at HK
  go_wp2_with (first | (refine wpList_load_g 37 _ rfl (by kernel_rfl) ga 11 rfl CX _ HRA.out Try.underlying37 rfl (by rw [H18.out]; rfl) ?_) | (refine wpList_load_g 37 _ rfl (by kernel_rfl) gb 11 rfl CY _ HRB.out Try.underlying37 rfl (by rw [H28.out]; rfl) ?_) | (refine wpList_eql_cid_g (by kernel_rfl) _ _ _ rfl cid1 cid2 (by rw [HCX.out]; rfl) (by rw [HCY.out]; rfl) HCO.out HCP.out ?_; rw [HCQ.out]) | fail)
  exact HK.out _ _ _ _ _ _ _ _ _ _ _ _ _ _ _ _ _ _ _ _ _ _ _ _ _ _ _ _ _ _ _ w (Qh (Below.refl _ _))
 simp only [Bool.true_and] at HK
 go_wp2_with (first | (refine wpList_load_g 37 _ rfl (by kernel_rfl) ga 11 rfl CX _ HRA.out Try.underlying37 rfl (by rw [H18.out]; rfl) ?_) | (refine wpList_load_g 37 _ rfl (by kernel_rfl) gb 11 rfl CY _ HRB.out Try.underlying37 rfl (by rw [H28.out]; rfl) ?_) | (refine wpList_eql_cid_g (by kernel_rfl) _ _ _ rfl cid1 cid2 (by rw [HCX.out]; rfl) (by rw [HCY.out]; rfl) HCO.out HCP.out ?_; rw [HCQ.out]) | fail)
 refine Calls.mono HEQ.out ?_
 rintro e w10 ⟨rfl, hb⟩
 have HBZ := Qh hb
 clear hb
 go_wp2_with fail
 exact HK.out _ _ _ _ _ _ _ _ _ _ _ _ _ _ _ _ _ _ _ _ _ _ _ _ _ _ _ _ _ _ _ w10 HBZ
end Go.Proofs.Ytmbjepcbokbemaa
