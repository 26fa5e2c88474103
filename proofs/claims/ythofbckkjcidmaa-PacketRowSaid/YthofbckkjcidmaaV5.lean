/- texts of the proof, laid together: Pkt10, Pkt11, Pkt12, Pkt13, Pkt14. -/
import Derived.Test.YthofbckkjcidmaaV4
namespace Go.Proofs.Ythofbckkjcidmaa
open Go.RowKit
set_option linter.unusedVariables false
set_option linter.unusedSimpArgs false

set_option maxRecDepth 100000 in
set_option maxHeartbeats 4000000 in
theorem rprot_num {x0 x1 x2 x3 x4 x5 x6 x7 x8 x9 x10 x12 x15 x16 x17 x18 x19 x20 x21 x22 x23 x24 x25 x26 x27 x28 x29 x30 x31 x32 x33 x34 x35 x36 x37 x38 x39 x40 x41 x42 x43 x44 x45 x46 x47 x48 x49 x50 x51 x52 x53 x54 x55 x56 x57 x58 x59 x60 x61 x62 x63 x64 x65 x66 x67 x68 x69 x70 x71 x72 x73 x74 x75 x76 x77 x78 x79 x80 x81 x82 x83 x84 x85 x86 x87 x88 x89 : Value} {B n0 c0 wn : Nat} {D : List Nat} {low wd : Int} {a0 : Option Addr} {E : List Int} (wc : World) {Q : Exit → Act → World → Prop}
    (hwd : 1 ≤ wd ∧ wd ≤ 4) (hwn : wd = (wn : Int)) (hlow : 0 ≤ low ∧ low < 4294967296) (hn0 : n0 ≤ 1000000) (HO : Hid (ORow wc B D a0 (n0) c0 (E))) (hB : B ≤ wc.heap.size)
    (hQp : ∀ c a d v w, Q (.panic c) (a.put d v) w → Q (.panic c) a w)
    (hQ : ∀ (y14 y58 y59 y60 y61 y62 y63 y64 y65 y66 y67 y68 y69 y70 : Value) (a1 : Option Addr) (c1 : Nat) (w' : World), ORow w' B D a1 (n0 + wn) c1 (E ++ numM low wn) → Kept B D wc w' → Q .normal ⟨List.toArray (x0 :: x1 :: x2 :: x3 :: x4 :: x5 :: x6 :: x7 :: x8 :: x9 :: x10 :: .slice a1 (n0 + wn) c1 :: x12 :: .int .u32 low :: y14 :: x15 :: x16 :: x17 :: x18 :: x19 :: x20 :: x21 :: x22 :: x23 :: x24 :: x25 :: x26 :: x27 :: x28 :: x29 :: x30 :: x31 :: x32 :: x33 :: x34 :: x35 :: x36 :: x37 :: x38 :: x39 :: x40 :: x41 :: x42 :: x43 :: x44 :: x45 :: x46 :: x47 :: x48 :: x49 :: x50 :: x51 :: x52 :: x53 :: x54 :: x55 :: x56 :: x57 :: y58 :: y59 :: y60 :: y61 :: y62 :: y63 :: y64 :: y65 :: y66 :: y67 :: y68 :: y69 :: y70 :: x71 :: x72 :: x73 :: x74 :: x75 :: x76 :: x77 :: x78 :: x79 :: x80 :: x81 :: x82 :: x83 :: x84 :: x85 :: x86 :: x87 :: x88 :: x89 :: []), []⟩ w') :
    Code.wp Try.prog (((Try.f18.body.bind (subBlock 0)).getD .skip)) Q ⟨List.toArray (x0 :: x1 :: x2 :: x3 :: x4 :: x5 :: x6 :: x7 :: x8 :: x9 :: x10 :: .slice a0 n0 c0 :: x12 :: .int .u32 low :: .int .i64 (wd - 1) :: x15 :: x16 :: x17 :: x18 :: x19 :: x20 :: x21 :: x22 :: x23 :: x24 :: x25 :: x26 :: x27 :: x28 :: x29 :: x30 :: x31 :: x32 :: x33 :: x34 :: x35 :: x36 :: x37 :: x38 :: x39 :: x40 :: x41 :: x42 :: x43 :: x44 :: x45 :: x46 :: x47 :: x48 :: x49 :: x50 :: x51 :: x52 :: x53 :: x54 :: x55 :: x56 :: x57 :: x58 :: x59 :: x60 :: x61 :: x62 :: x63 :: x64 :: x65 :: x66 :: x67 :: x68 :: x69 :: x70 :: x71 :: x72 :: x73 :: x74 :: x75 :: x76 :: x77 :: x78 :: x79 :: x80 :: x81 :: x82 :: x83 :: x84 :: x85 :: x86 :: x87 :: x88 :: x89 :: []), []⟩ wc := by
  have HK := Lib.hid hQ; have HKP := Lib.hid hQp
  clear hQ hQp
  conv => arg 2; whnf
  have HS := Lib.hid (Kept.refl B D wc)
  have HO0 : Hid (ORow wc B D a0 (n0 + 0) c0 (E ++ (numM low wn).take 0)) := Lib.hid (by rw [List.take_zero, List.append_nil]; exact HO.out)
  have HWN := Lib.hid hwn
  clear hwn
  have hwn1 : wd ≤ (wn : Int) := by rw [HWN.out]; omega
  have hwn2 : (wn : Int) ≤ wd := by rw [HWN.out]; omega
  go_wp2_with fail
  go_loopw [11, 14] (fun s10 s14 wx => ∃ (t : Nat) (a1 : Option Addr) (c1 : Nat), s10 = .slice a1 (n0 + t) c1 ∧ s14 = .int .i64 (wd - 1 - t) ∧ t ≤ wn ∧ Hid (Kept B D wc wx) ∧ Hid (ORow wx B D a1 (n0 + t) c1 (E ++ (numM low wn).take t))) (fun _ s _ => (intOf s + 1).toNat)
  case atStart => exact ⟨0, a0, c0, rfl, by simp, by omega, HS, HO0⟩
  case round =>
    clear HS HO0
    obtain ⟨t, a1, c1, rfl, rfl, ht, HS, HO1⟩ := hrel
    by_cases hlt : t < wn
    · obtain ⟨i, hi⟩ : ∃ i : Nat, wn = t + 1 + i := ⟨wn - t - 1, by omega⟩
      have hi1 : wd - 1 - (t : Int) = (i : Int) := by omega
      rw [hi1]
      have HI1 := Lib.hid hi1
      have HIW := Lib.hid hi
      clear hi1 hi
      have hi4 : i < 4 := by have := HIW.out; omega
      have HBY : Hid ((Lit.int .u8 (low / 2 ^ (8 * i) % 256)).wf = true) := Lib.hid (wf_u8_of (by omega) (by omega))
      have hbs : B ≤ wr.heap.size := Nat.le_trans hB HS.out.low.size
      have HT := Lib.hid (numM_take (low := low) HIW.out)
      have HAL := Lib.hid ((Below.refl wr.heap.size wr).alloc (Nat.le_refl _) (.cells #[.int .u8 (low / 2 ^ (8 * i) % 256)] 5))
      have HO1A := Lib.hid (HO1.out.below HAL.out)
      go_wp2_with (at_builtin; refine wpList_append_bytes_at rfl _ _ rfl B (n0 + t) _ _ rfl HO1A.out.own _ _ _ [low / 2 ^ (8 * i) % 256] rfl (ints_made _ _ HBY.out) (by omega) (by simp; omega) ?_; intro v w1 hown hgrow hor; obtain ⟨a2, c2, rfl, ho2, hk2⟩ := HO1A.out.append (by simp; omega) hown hgrow hor; have HO2 := Lib.hid ho2; have HK2 := Lib.hid hk2; clear hown hgrow hor ho2 hk2)
      have HS2 : Hid (Kept B D wc w1) := Lib.hid ((HS.out.trans (Kept.of_below HAL.out hbs HO1.out.lt)).trans HK2.out)
      have HO3 : Hid (ORow w1 B D a2 (n0 + (t + 1)) c2 (E ++ (numM low wn).take (t + 1))) := Lib.hid (by rw [HT.out, ← List.append_assoc]; exact HO2.out)
      clear HO2 HK2 hbs
      go_roundw
      case rel => exact ⟨t + 1, a2, c2, rfl, congrArg (Value.int .i64) (by have := HI1.out; omega), by omega, HS2, HO3⟩
      case measure => have := HI1.out; simp only [intOf]; omega
    · obtain rfl : t = wn := by omega
      have hm : wd - 1 - (t : Int) < 0 := by have := HWN.out; omega
      have HTL : Hid ((numM low t).take t = numM low t) := Lib.hid (List.take_of_length_le (by rw [numM_len]; exact Nat.le_refl _))
      rw [HTL.out] at HO1
      go_wp2_with fail
      exact HK.out _ _ _ _ _ _ _ _ _ _ _ _ _ _ _ _ _ HO1.out HS.out
set_option maxRecDepth 100000 in
set_option maxHeartbeats 4000000 in
theorem rprot_seal {x0 x1 x5 x6 x7 x8 x9 x10 x12 x13 x14 x15 x16 x17 x18 x19 x20 x21 x22 x23 x24 x25 x26 x27 x28 x29 x30 x31 x32 x33 x34 x35 x36 x37 x38 x39 x40 x41 x42 x43 x44 x45 x46 x47 x48 x49 x50 x51 x52 x53 x54 x55 x56 x57 x58 x59 x60 x61 x62 x63 x64 x65 x66 x67 x68 x69 x70 x71 x72 x73 x74 x75 x76 x77 x78 x79 x80 x81 x82 x83 x84 x85 x86 x87 x88 x89 : Value} {B n0 c0 pl pc gk : Nat} {D : List Nat} {ks km n : Int} {pa a0 : Option Addr} {xs pls : List Int} (wc : World) {Q : Exit → Act → World → Prop}
    (hn : (Lit.int .u64 n).wf = true) (hn0 : n0 ≤ 1000000) (hpl : pl ≤ 1000000) (hB : B ≤ wc.heap.size) (hxw : ∀ x ∈ xs, (Lit.int .u8 x).wf = true) (HI : Hid (IntsK .u8 wc pa pl pls)) (HO : Hid (ORow wc B D a0 (n0) c0 (xs))) (HGK : Hid (wc.heap[gk]? = some (.cells ([.int .u64 ks, .int .u64 km] : List Value).toArray 49 (0, 0))))
    (hQp : ∀ c a d v w, Q (.panic c) (a.put d v) w → Q (.panic c) a w)
    (hQ : ∀ (y71 y72 y73 y74 y75 y76 y77 y78 y79 y80 : Value) (a1 : Option Addr) (c1 : Nat) (w' : World), Below wc.heap.size wc w' → w'.ownsRow wc.heap.size 5 1 (.slice a1 (n0 + (pl + 8)) c1) (n0 + (pl + 8)) ((xs ++ sealM ks n xs pls).map (Value.int .u8)) → Q .normal ⟨List.toArray (x0 :: x1 :: .int .u64 n :: .slice pa pl pc :: .pointer (some ⟨gk, 0, none⟩) :: x5 :: x6 :: x7 :: x8 :: x9 :: x10 :: .slice a0 n0 c0 :: x12 :: x13 :: x14 :: .slice a1 (n0 + (pl + 8)) c1 :: x16 :: x17 :: x18 :: x19 :: x20 :: x21 :: x22 :: x23 :: x24 :: x25 :: x26 :: x27 :: x28 :: x29 :: x30 :: x31 :: x32 :: x33 :: x34 :: x35 :: x36 :: x37 :: x38 :: x39 :: x40 :: x41 :: x42 :: x43 :: x44 :: x45 :: x46 :: x47 :: x48 :: x49 :: x50 :: x51 :: x52 :: x53 :: x54 :: x55 :: x56 :: x57 :: x58 :: x59 :: x60 :: x61 :: x62 :: x63 :: x64 :: x65 :: x66 :: x67 :: x68 :: x69 :: x70 :: y71 :: y72 :: y73 :: y74 :: y75 :: y76 :: y77 :: y78 :: y79 :: y80 :: x81 :: x82 :: x83 :: x84 :: x85 :: x86 :: x87 :: x88 :: x89 :: []), []⟩ w') :
    Code.wp Try.prog (((Try.f18.body.bind (subRegion 13)).getD .skip)) Q ⟨List.toArray (x0 :: x1 :: .int .u64 n :: .slice pa pl pc :: .pointer (some ⟨gk, 0, none⟩) :: x5 :: x6 :: x7 :: x8 :: x9 :: x10 :: .slice a0 n0 c0 :: x12 :: x13 :: x14 :: x15 :: x16 :: x17 :: x18 :: x19 :: x20 :: x21 :: x22 :: x23 :: x24 :: x25 :: x26 :: x27 :: x28 :: x29 :: x30 :: x31 :: x32 :: x33 :: x34 :: x35 :: x36 :: x37 :: x38 :: x39 :: x40 :: x41 :: x42 :: x43 :: x44 :: x45 :: x46 :: x47 :: x48 :: x49 :: x50 :: x51 :: x52 :: x53 :: x54 :: x55 :: x56 :: x57 :: x58 :: x59 :: x60 :: x61 :: x62 :: x63 :: x64 :: x65 :: x66 :: x67 :: x68 :: x69 :: x70 :: x71 :: x72 :: x73 :: x74 :: x75 :: x76 :: x77 :: x78 :: x79 :: x80 :: x81 :: x82 :: x83 :: x84 :: x85 :: x86 :: x87 :: x88 :: x89 :: []), []⟩ wc := by
  have HK := Lib.hid hQ; have HKP := Lib.hid hQp
  clear hQ hQp
  conv => arg 2; whnf
  have f0 : ∀ t : In (fun y => Below wc.heap.size wc y), t.w.cell? ⟨gk, 0, none⟩ = some (.int .u64 ks) := fun t => cell_row (bl_row t.h (lt_of_block HGK.out) HGK.out) 0 _ rfl
  have HXW := Lib.hid hxw; have HHN := Lib.hid hn
  clear hxw hn
  refine wp_plan (.t 1 (.t 3 (.t 4 (.t 5 (.t 6 (.t 7 (.u 0 (.u 2 (.u 8 (.u 9 (.t 10 .done))))))))))) (fun y => Below wc.heap.size wc y) (by kernel_rfl) (by kernel_rfl) (by kernel_rfl) (fun c a d v w h => by first | (cases d <;> exact h) | exact HKP.out c a d v w h) (Below.refl _ _).drew ?_
  haveI hne2 : Nonempty (In (fun y => Below wc.heap.size wc y)) := ⟨⟨wc, Below.refl _ _⟩⟩
  have hS : Hid (Below wc.heap.size wc wc.drew) := Lib.hid (Below.refl _ _).drew
  generalize wc.drew = W0 at hS ⊢
  repeat (refine plan_t (by rfl) ?_; (first | go_big_quiet_skip | (go_big_quiet_want; go_big_quiet_op; go_big_quiet_on)); refine wpQuiet_nil ?_)
  clear f0
  refine plan_us (by rfl) (by kernel_rfl) ?_
  intro K hK
  go_wp2_with fail
  have hO : (W0.alloc (.cells #[] 5)).ownsRow wc.heap.size 5 1 (.slice (some ⟨W0.heap.size, 0, none⟩) 0 0) 0 (([] : List Int).map (Value.int .u8)) := World.ownsRow_made _ _ _ hS.out.size (by unfold maxLen; omega) rfl
  have hS2 := Lib.hid (hS.out.alloc hS.out.size (.cells #[] 5))
  refine ⟨hS2.out, ?_⟩
  have HOL := Lib.hid hO
  clear hO hS
  have hS := hS2
  clear hS2
  generalize W0.alloc (.cells #[] 5) = w1 at hS HOL ⊢
  generalize W0.heap.size = gl at HOL ⊢
  refine plan_us (by rfl) (by kernel_rfl) ?_
  intro K hK
  refine wp_append_bytes_at _ _ rfl wc.heap.size 0 _ [] rfl HOL.out a0 n0 c0 _ rfl ((HO.out.below hS.out).ints HXW.out) (by omega) hS.out.size ?_
  intro v w2 hown hgrow hor
  rw [Nat.zero_add, List.nil_append] at hown
  have hS2 := Lib.hid (hS.out.grown hgrow hS.out.size (own_base HOL.out))
  refine hK _ _ ⟨hS2.out, ?_⟩
  obtain ⟨a2, c2, rfl, _⟩ := own_slice hown
  have HO2 := Lib.hid hown
  clear hown hgrow hor hK K hS HOL
  have hS := hS2
  clear hS2
  simp only [Act.put, List.setIfInBounds_toArray, List.set_cons_succ, List.set_cons_zero]
  refine plan_us (by rfl) (by kernel_rfl) ?_
  intro K hK
  go_wp2_with fail
  refine Calls.mono (rseal_any _ ks n a0 n0 c0 xs pa pl pc pls HHN.out (by omega) (by omega) ((HO.out.below hS.out).ints HXW.out) (HI.out.below hS.out)) ?_
  rintro e w3 ⟨v, rfl, hb, hv⟩
  obtain ⟨sa, sc, rfl, _, hsi, _⟩ := ints_of_own hv (sealM_wf ks n xs pls HI.out.2.1)
  have HSI := Lib.hid hsi
  replace HO2 := Lib.hid (own_below HO2.out hb)
  replace hS := Lib.hid (bl_next hS.out hS.out.size hb)
  clear hb hv hsi
  go_wp2_with fail
  refine ⟨hS.out, ?_⟩
  refine plan_us (by rfl) (by kernel_rfl) ?_
  intro K hK
  refine wp_append_bytes_at _ _ rfl wc.heap.size n0 _ xs rfl HO2.out sa (pl + 8) sc _ rfl HSI.out (by omega) hS.out.size ?_
  intro v w4 hown hgrow hor
  have hS2 := Lib.hid (hS.out.grown hgrow hS.out.size (own_base HO2.out))
  refine hK _ _ ⟨hS2.out, ?_⟩
  obtain ⟨a3, c3, rfl, _⟩ := own_slice hown
  have HO3 := Lib.hid hown
  clear hown hgrow hor hK K hS HO2
  have hS := hS2
  clear hS2
  simp only [Act.put, List.setIfInBounds_toArray, List.set_cons_succ, List.set_cons_zero]
  repeat (refine plan_t (by rfl) ?_; (first | go_big_quiet_skip | (go_big_quiet_want; go_big_quiet_op; go_big_quiet_on)); refine wpQuiet_nil ?_)
  clear hne2
  exact HK.out _ _ _ _ _ _ _ _ _ _ _ _ _ hS.out HO3.out

theorem first_long (h : Hd) (hr : hrightP h) : firstM h / 128 % 2 = 1 ↔ h.s ≠ 2 := by
  have hw1 := hr.1; have hw4 := hr.2.1
  unfold firstM
  rcases hr.2.2 with ⟨h1, h2, h3⟩ | ⟨h1, h2, h3⟩ | ⟨h1, h2, h3⟩
  · rw [if_neg (by omega)]; omega
  · rw [if_neg (by omega)]; omega
  · rw [if_pos h1]; split <;> omega
def RProtR (w : World) (ks km : Int) (h : Hd) (n : Int) (pls : List Int) (e : Ending) (w' : World) : Prop :=
  Below w.heap.size w w' ∧ ((protM ks km h n pls = none ∧ e = .returned (.tuple #[.slice none 0 0, .bool false])) ∨
    ∃ b g cap', protM ks km h n pls = some b ∧ e = .returned (.tuple #[.slice (some ⟨g, 0, none⟩) b.length cap', .bool true]) ∧ (∀ x ∈ b, (Lit.int .u8 x).wf = true) ∧ w'.ownsRow w.heap.size 5 1 (.slice (some ⟨g, 0, none⟩) b.length cap') b.length (b.map (Value.int .u8)))
set_option maxRecDepth 100000 in
set_option maxHeartbeats 8000000 in
theorem rprotect_any (w : World) (ks km n : Int) (h : Hd) (a : Option Addr) (tc : Nat) (pa : Option Addr) (pl pc : Nat) (pls : List Int) (hk : h.ok) (hkl : h.k.length ≤ 1000000) (hIk : IntsK .u8 w a h.k.length h.k)
    (hw : -100 ≤ h.w ∧ h.w ≤ 100) (hn : 0 ≤ n ∧ n < 18446744073709551616) (hpl : pl ≤ 1000000) (hIp : IntsK .u8 w pa pl pls) :
    Calls Try.prog 18 #[.agg #[.int .u64 ks, .int .u64 km], h.val a tc, .int .u64 n, .slice pa pl pc] w (RProtR w ks km h n pls) := by
  have hpln := hIp.1
  obtain ⟨QQ, hQQ⟩ : ∃ Q, RProtR w ks km h n pls = Q := ⟨_, rfl⟩
  have HI := Lib.hid hIp; have HIK := Lib.hid hIk; have HNW : Hid ((Lit.int .u64 n).wf = true) := Lib.hid (by simp [Lit.wf, IntKind.min, IntKind.max, IntKind.signed, IntKind.bits]; omega)
  have HRI := Lib.hid (fun W => hrright_any W h a tc hk (by omega))
  have HENC := Lib.hid (fun hr hnn W hI => rencode_any W h a tc (h.w + pl + 8) hk hr hnn hI)
  have HRL := Lib.hid (row_len20 h a tc hk)
  have HR18 := Lib.hid (row_17 h a tc hk.lt hk.lf).2; have HR0 := Lib.hid (row_0 h a tc)
  have HEW := Lib.hid (fun hr hn => encH_wf h hk hr (h.w + pl + 8) hn)
  have HEL : Hid (hrightP h → (encH h (h.w + pl + 8)).length ≤ 1000) := Lib.hid fun hr => by
    rw [encH_len]
    refine encH_le h hk ?_
    rcases hr.2.2 with ⟨_, h1, _⟩ | ⟨_, h1, _⟩ | ⟨_, h1, _⟩ <;> omega
  have HFB : Hid (hrightP h → ∃ T, encH h (h.w + pl + 8) = firstM h :: T ∧ (firstM h / 128 % 2 = 1 ↔ h.s ≠ 2)) := Lib.hid fun hr => by
    obtain ⟨T, hT⟩ := encH_cons h (h.w + pl + 8)
    exact ⟨T, hT, first_long h hr⟩
  have HQN : Hid (∀ w', Below w.heap.size w w' → ¬ (hrightM h = true ∧ n ≤ 4611686018427387903 ∧ 4 ≤ h.w + pl ∧ ((encH h (h.w + pl + 8)).length : Int) + h.w + pl + 8 ≤ 512) → QQ (.returned (.tuple #[.slice none 0 0, .bool false])) w') := Lib.hid fun w' hb hc => by
    rw [← hQQ]; exact ⟨hb, .inl ⟨protM_none (by rw [hpln]; exact hc), rfl⟩⟩
  have HQY : Hid (∀ w' g c' b, Below w.heap.size w w' → (hrightM h = true ∧ n ≤ 4611686018427387903 ∧ 4 ≤ h.w + pl ∧ ((encH h (h.w + pl + 8)).length : Int) + h.w + pl + 8 ≤ 512) → b = maskedM km ((encH h (h.w + pl + 8) ++ numM (cutM n (wM h.w)) h.w.toNat) ++ sealM ks n (encH h (h.w + pl + 8) ++ numM (cutM n (wM h.w)) h.w.toNat) pls) (encH h (h.w + pl + 8)).length h.w.toNat → (∀ x ∈ b, (Lit.int .u8 x).wf = true) → w'.ownsRow w.heap.size 5 1 (.slice (some ⟨g, 0, none⟩) b.length c') b.length (b.map (Value.int .u8)) → QQ (.returned (.tuple #[.slice (some ⟨g, 0, none⟩) b.length c', .bool true])) w') := Lib.hid fun w' g c' b hb hc he hwf ho => by
    rw [← hQQ]
    refine ⟨hb, .inr ⟨b, g, c', ?_, rfl, hwf, ho⟩⟩
    unfold protM
    rw [hpln, if_pos hc, he]
  rw [hQQ]
  have HRP := Lib.hid (hrightM_eq h)
  have HEV : Hid (h.val a tc = .agg (h.row a tc).toArray) := Lib.hid rfl
  rw [HEV.out] at HENC HRI ⊢
  obtain ⟨RW, hRW⟩ : ∃ RW, h.row a tc = RW := ⟨_, rfl⟩
  rw [hRW] at HENC HRI HRL HR18 HR0 ⊢
  obtain ⟨wd, hwd⟩ : ∃ wd, h.w = wd := ⟨_, rfl⟩
  rw [hwd] at HENC HR18 HEW HEL HFB HQN HQY hw
  have HWD := Lib.hid hwd
  obtain ⟨sp, hsp⟩ : ∃ sp, h.s = sp := ⟨_, rfl⟩
  rw [hsp] at HR0 HFB
  clear hIp hIk hk hkl hQQ hRW HEV hwd hpln hsp
  obtain ⟨rt, hrt⟩ : ∃ r, hrightM h = r := ⟨_, rfl⟩
  rw [hrt] at HRI HRP HQN HQY HENC
  go_enter Try.func18, Try.ntmps18
  go_upto_region 1 with fail
  change Code.wp _ _ _ _ ((w.alloc (.cells ([.int .u64 ks, .int .u64 km] : List Value).toArray 49)).alloc (.cells RW.toArray 32))
  have HB := Lib.hid (Below.refl w.heap.size w)
  obtain ⟨gk, hg0⟩ : ∃ g, w.heap.size = g := ⟨_, rfl⟩
  try rw [hg0]
  have hb := (Below.refl w.heap.size w).alloc (Nat.le_refl _) (.cells ([.int .u64 ks, .int .u64 km] : List Value).toArray 49)
  have hrw := heap_alloc_new w (.cells ([.int .u64 ks, .int .u64 km] : List Value).toArray 49)
  have hsz : (w.alloc (.cells ([.int .u64 ks, .int .u64 km] : List Value).toArray 49)).heap.size = gk + 1 := by simp [hg0]
  rw [hg0] at hrw
  replace HB := Lib.hid (bl_next HB.out HB.out.size hb)
  have HGK := Lib.hid hrw
  clear hb hrw
  generalize w.alloc (.cells ([.int .u64 ks, .int .u64 km] : List Value).toArray 49) = w1 at HB HGK hsz ⊢
  have hg1 := hsz
  clear hsz
  have HG0 := Lib.hid hg0
  clear hg0
  have hb := (Below.refl w1.heap.size w1).alloc (Nat.le_refl _) (.cells RW.toArray 32)
  have hrw := heap_alloc_new w1 (.cells RW.toArray 32)
  have hsz : (w1.alloc (.cells RW.toArray 32)).heap.size = gk + 1 + 1 := by simp [hg1]
  rw [hg1] at hrw
  replace HB := Lib.hid (bl_next HB.out HB.out.size hb)
  replace HGK := Lib.hid (bl_row hb (lt_of_block HGK.out) HGK.out)
  have HGH := Lib.hid hrw
  clear hb hrw
  generalize w1.alloc (.cells RW.toArray 32) = w2 at HB HGK HGH hsz ⊢
  have hg2 := hsz
  clear hsz
  clear hg1
  obtain ⟨gh, hgg⟩ : ∃ g, gk + 1 = g := ⟨_, rfl⟩
  rw [hgg] at HGH hg2 ⊢
  have HLTgh : Hid (gk < gh) := Lib.hid (by omega)
  clear hgg
  clear hg2
  have ch := cell_row HGH.out 18 _ HR18.out
  go_wp2_with (first | (refine wpList_load_mid rfl 32 _ rfl gh 0 rfl RW _ (rngL HGH.out) Try.underlying32 rfl (by rw [HRL.out]; rfl) ?_) | fail)
  refine Calls.mono (HRI.out _) ?_
  rintro e w3 ⟨rfl, hb⟩
  replace HB := Lib.hid (bl_next HB.out HB.out.size hb)
  replace HGK := Lib.hid (bl_row hb (lt_of_block HGK.out) HGK.out)
  replace HGH := Lib.hid (bl_row hb (lt_of_block HGH.out) HGH.out)
  clear hb HRI
  clear ch
  have ch := cell_row HGH.out 18 _ HR18.out
  cases rt with
  | false => go_wp2_with fail
             (try go_ret2)
             exact HQN.out _ HB.out (fun hc => by cases hc.1)
  | true =>
    have hrp := HRP.out.1 rfl
    have hw4 : 1 ≤ wd ∧ wd ≤ 4 := by rw [← HWD.out]; exact ⟨hrp.1, hrp.2.1⟩
    have hlb := HEL.out hrp
    obtain ⟨T0, hT0, hlong⟩ := HFB.out hrp
    by_cases c1 : n ≤ 4611686018427387903
    rotate_left
    · go_wp2_with fail
      (try go_ret2)
      exact HQN.out _ HB.out (fun hc => by have := hc.2.1; omega)
    by_cases c2 : 4 ≤ wd + (pl : Int)
    rotate_left
    · go_wp2_with fail
      (try go_ret2)
      exact HQN.out _ HB.out (fun hc => by have := hc.2.2.1; omega)
    by_cases c4 : (pl : Int) ≤ 512
    rotate_left
    · go_wp2_with fail
      (try go_ret2)
      exact HQN.out _ HB.out (fun hc => by have := hc.2.2.2; omega)
    have HEW2 := Lib.hid (HEW.out hrp (by omega))
    have HE2 := Lib.hid (HENC.out rfl (by omega))
    have HT0 := Lib.hid hT0
    have HLONG := Lib.hid hlong
    clear HEW HENC HEL HFB hT0 hlong hrp HRP hrt
    generalize encH h (wd + pl + 8) = E at hlb HEW2 HE2 HQN HQY HT0
    have HSW := Lib.hid HB.out.size
    go_wp2_with (first | (refine wpList_load_mid rfl 32 _ rfl gh 0 rfl RW _ (rngL HGH.out) Try.underlying32 rfl (by rw [HRL.out]; rfl) ?_) | fail)
    refine Calls.mono (HE2.out _ (HIK.out.below HB.out)) ?_
    rintro e w4 ⟨v, rfl, hb, hown⟩
    obtain ⟨a', cap', rfl, hlc⟩ := own_slice hown
    have HBW := Lib.hid hb.size
    have HGS : Hid (gk < w3.heap.size ∧ gh < w3.heap.size) := Lib.hid ⟨lt_of_block HGK.out, lt_of_block HGH.out⟩
    replace HB := Lib.hid (bl_next HB.out HB.out.size hb)
    replace HGK := Lib.hid (bl_row hb (lt_of_block HGK.out) HGK.out)
    replace HGH := Lib.hid (bl_row hb (lt_of_block HGH.out) HGH.out)
    clear hb HE2 HIK
    have HO : Hid (ORow w4 w.heap.size [gk, gh] a' E.length cap' E) := Lib.hid ⟨own_mono hown HSW.out, fun x hx hm => by
        have h1 := own_base hown x.block (by rw [hx]; rfl)
        have h2 := HGS.out
        simp only [List.mem_cons, List.not_mem_nil, or_false] at hm
        omega, fun x hx => by
        have h2 := HGS.out; have h3 := HBW.out
        simp only [List.mem_cons, List.not_mem_nil, or_false] at hx; omega⟩
    clear hown ch
    have ch := cell_row HGH.out 18 _ HR18.out
    generalize hL : E.length = L at HQN HQY hlb hlc HO ⊢
    by_cases c3 : (L : Int) + wd + pl + 8 ≤ 512
    rotate_left
    · go_wp2_with fail
      (try go_ret2)
      exact HQN.out _ HB.out (fun hc => by have := hc.2.2.2; omega)
    replace HQY := Lib.hid (fun w' g c' b hb => HQY.out w' g c' b hb ⟨by trivial, c1, c2, c3⟩)
    clear HQN
    go_wp2_with fail
    refine Calls.mono (rcut_any _ n wd hn) ?_
    rintro e wq ⟨rfl, hq⟩
    obtain rfl := hq.symm
    clear hq
    have hcb := cutM_bd n (wM wd)
    have hpw : powW (wM wd) ≤ 4294967296 := by unfold powW; split <;> (try split) <;> (try split) <;> omega
    obtain ⟨wn, hwn⟩ : ∃ wn : Nat, wd = (wn : Int) := ⟨wd.toNat, by omega⟩
    have HWT : Hid (wd.toNat = wn) := Lib.hid (by omega)
    rw [HWT.out] at HQY
    have HWN := Lib.hid hwn
    clear hwn
    generalize cutM n (wM wd) = low at hcb HQY ⊢
    generalize powW (wM wd) = pw at hcb hpw
    go_upto_block 0 with fail
    refine rprot_num _ hw4 HWN.out ⟨hcb.1, by omega⟩ (by omega) HO HB.out.size (fun c a d v w h => by first | (cases d <;> exact h) | exact HKP.out c a d v w h) ?_
    rintro _ _ _ _ _ _ _ _ _ _ _ _ _ _ a1 c1' w5 ho1 hk1
    replace HB := Lib.hid (HB.out.trans hk1.low); replace HGK := Lib.hid (hk1.row (by simp) HGK.out); replace HGH := Lib.hid (hk1.row (by simp) HGH.out); have HO1 := Lib.hid ho1
    have HXW : Hid (∀ x ∈ E ++ numM low wn, (Lit.int .u8 x).wf = true) := Lib.hid (by intro x hx; rw [List.mem_append] at hx; exact hx.elim (HEW2.out x) (numM_wf low wn x))
    clear hk1 ho1 HO ch
    have HCW := Lib.hid HB.out.size
    go_upto_region 13 with fail
    refine rprot_seal _ HNW.out (by have := HWN.out; omega) hpl HB.out.size HXW.out (Lib.hid (HI.out.below HB.out)) HO1 HGK (fun c a d v w h => by first | (cases d <;> exact h) | exact HKP.out c a d v w h) ?_
    rintro _ _ _ _ _ _ _ _ _ _ a2 c2' w6 hb6 ho2
    replace HB := Lib.hid (bl_next HB.out HB.out.size hb6)
    replace HGK := Lib.hid (bl_row hb6 (lt_of_block HGK.out) HGK.out)
    replace HGH := Lib.hid (bl_row hb6 (lt_of_block HGH.out) HGH.out)
    have HO := Lib.hid ho2
    have HXW2 : Hid (∀ x ∈ (E ++ numM low wn) ++ sealM ks n (E ++ numM low wn) pls, (Lit.int .u8 x).wf = true) := Lib.hid (by intro x hx; rw [List.mem_append] at hx; exact hx.elim (HXW.out x) (sealM_wf ks n _ pls HI.out.2.1 x))
    have hg0 : ((E ++ numM low wn) ++ sealM ks n (E ++ numM low wn) pls).getD 0 0 = firstM h := by rw [HT0.out]; rfl
    generalize (E ++ numM low wn) ++ sealM ks n (E ++ numM low wn) pls = X at HQY HO HXW2 hg0
    clear ho2 hb6 HO1 HXW HEW2
    obtain ⟨xa, xc, ex, hxc, hxi, _⟩ := ints_of_own HO.out HXW2.out
    injection ex with e1 e2 e3
    subst e1; subst e3
    have hcm := own_capm HO.out _ _ _ rfl
    have hwn4 : 1 ≤ wn ∧ wn ≤ 4 := by have := HWN.out; omega
    have HMK := Lib.hid (fun lg hlg => rmask9_any w6 ks km a2 (L + wn + (pl + 8)) c2' X L wn lg (by have := HWN.out; omega) hxc hcm (by omega) hwn4.2 hlg hxi)
    have HKL : Hid (([.int .u64 ks, .int .u64 km] : List Value).length = 2) := Lib.hid rfl
    have HLG : Hid ((sp != 2) = decide (X.getD 0 0 / 128 % 2 = 1)) := Lib.hid (by rw [hg0, Bool.eq_iff_iff, decide_eq_true_iff, HLONG.out]; simp)
    have HRMM : Hid (rmM km X L wn = maskedM km X L wn) := Lib.hid (by unfold rmM maskedM; rw [if_neg (by omega)])
    have ch := cell_row HGH.out 18 _ HR18.out
    have ch0 := cell_row HGH.out 0 _ HR0.out
    clear hg0 hxi hxc hcm e2
    go_wp2_with (first | (refine wpList_load_mid rfl 49 _ rfl gk 0 rfl [.int .u64 ks, .int .u64 km] _ (rngL HGK.out) Try.underlying49 rfl (by rw [HKL.out]; rfl) ?_) | fail)
    rw [HWN.out]
    refine Calls.mono (HMK.out _ HLG.out) ?_
    rintro e w7 ⟨g, c, rfl, hb, ho⟩
    have HB7 := Lib.hid (bl_next HB.out HB.out.size hb)
    rw [HRMM.out] at ho
    have HO7 := Lib.hid (own_mono ho HB.out.size)
    clear hb ho ch ch0 HMK
    go_wp2_with fail
    (try go_ret2)
    have hl7 := HO7.out.1
    rw [List.length_map, Nat.mul_one] at hl7
    rw [← hl7]
    refine HQY.out w7 g c _ HB7.out rfl ?_ (by rw [hl7]; exact HO7.out)
    unfold maskedM
    exact xorAt_wf (set_wf HXW2.out 0 _ (by unfold x0M; exact wf_bits _ _ _ _))
end Go.Proofs.Ythofbckkjcidmaa
namespace Go.Proofs.Ythofbckkjcidmaa
open Go.RowKit
set_option linter.unusedVariables false
set_option linter.unusedSimpArgs false

set_option maxRecDepth 100000 in
set_option maxHeartbeats 4000000 in
theorem rrev_phase {x0 x1 x2 x3 x4 x5 x6 x7 x8 x10 x11 x12 x14 x15 x16 x17 x18 x19 x20 x21 x22 x23 x24 x25 x26 x27 x28 x29 x30 x31 x32 x33 x34 x35 x36 x37 x38 x39 x40 x41 x42 x43 x44 x45 x46 x47 x48 x49 x50 x51 x52 x53 x54 x55 x56 x57 x58 x59 x60 x61 x62 x63 x64 x65 x66 x67 x68 x69 x70 x71 x72 x73 x74 x75 : Value} {gh gb n0 c0 : Nat} {f0 sp : Int} {RW : List Value} {pv : Bool} (wc : World) {Q : Exit → Act → World → Prop}
    (hn : 1 ≤ n0) (hf : 0 ≤ f0 ∧ f0 ≤ 255) (hrl : RW.length = 20) (hsp : sp = 2 ↔ f0 / 128 % 2 = 0) (c0' : wc.cell? ⟨gb, 0, none⟩ = some (.int .u8 f0)) (HGH : Hid (wc.heap[gh]? = some (.cells RW.toArray 32 (0, 0)))) (h0 : RW[0]? = some (.int .i64 sp)) (h19 : RW[19]? = some (.bool pv))
    (hQp : ∀ c a d v w, Q (.panic c) (a.put d v) w → Q (.panic c) a w)
    (hQ : ∀ (y42 y43 y44 y45 y46 y47 y48 y49 y50 y51 y52 : Value) (w' : World), w'.heap[gh]? = some (.cells (RW.set 19 (.bool (decide (f0 / 128 % 2 = 0 ∧ f0 / 4 % 2 = 1)))).toArray 32 (0, 0)) → wc.grownBy w' (some gh) → Q .normal ⟨List.toArray (x0 :: x1 :: x2 :: x3 :: x4 :: x5 :: x6 :: x7 :: x8 :: .pointer (some ⟨gh, 0, none⟩) :: x10 :: x11 :: x12 :: .slice (some ⟨gb, 0, none⟩) n0 c0 :: x14 :: x15 :: x16 :: x17 :: x18 :: x19 :: x20 :: x21 :: x22 :: x23 :: x24 :: x25 :: x26 :: x27 :: x28 :: x29 :: x30 :: x31 :: x32 :: x33 :: x34 :: x35 :: x36 :: x37 :: x38 :: x39 :: x40 :: x41 :: y42 :: y43 :: y44 :: y45 :: y46 :: y47 :: y48 :: y49 :: y50 :: y51 :: y52 :: x53 :: x54 :: x55 :: x56 :: x57 :: x58 :: x59 :: x60 :: x61 :: x62 :: x63 :: x64 :: x65 :: x66 :: x67 :: x68 :: x69 :: x70 :: x71 :: x72 :: x73 :: x74 :: x75 :: []), []⟩ w') :
    Code.wp Try.prog (((Try.f44.body.bind (subRegion 6)).getD .skip)) Q ⟨List.toArray (x0 :: x1 :: x2 :: x3 :: x4 :: x5 :: x6 :: x7 :: x8 :: .pointer (some ⟨gh, 0, none⟩) :: x10 :: x11 :: x12 :: .slice (some ⟨gb, 0, none⟩) n0 c0 :: x14 :: x15 :: x16 :: x17 :: x18 :: x19 :: x20 :: x21 :: x22 :: x23 :: x24 :: x25 :: x26 :: x27 :: x28 :: x29 :: x30 :: x31 :: x32 :: x33 :: x34 :: x35 :: x36 :: x37 :: x38 :: x39 :: x40 :: x41 :: x42 :: x43 :: x44 :: x45 :: x46 :: x47 :: x48 :: x49 :: x50 :: x51 :: x52 :: x53 :: x54 :: x55 :: x56 :: x57 :: x58 :: x59 :: x60 :: x61 :: x62 :: x63 :: x64 :: x65 :: x66 :: x67 :: x68 :: x69 :: x70 :: x71 :: x72 :: x73 :: x74 :: x75 :: []), []⟩ wc := by
  have HK := Lib.hid hQ; have HKP := Lib.hid hQp
  clear hQ hQp
  conv => arg 2; whnf
  have ha4 := (and_hid f0 hf).2.2.2.2.2
  have c19 := cell_row HGH.out 19 _ h19
  have cs := cell_row HGH.out 0 _ h0
  have z19 := row_free HGH.out 19
  have HST := Lib.hid (fun b => heap_setCell_same wc gh 19 _ _ (.bool b) HGH.out)
  have HGR := Lib.hid (fun b => grown_setCell wc gh 19 (.bool b))
  simp only [List.setIfInBounds_toArray] at HST
  clear hrl h19 h0
  by_cases hs2 : sp = 2
  · have h1 := hsp.1 hs2
    clear hsp
    subst hs2
    rcases (by omega : f0 / 4 % 2 = 1 ∨ f0 / 4 % 2 = 0) with h2 | h2
    · have hb : decide (f0 / 128 % 2 = 0 ∧ f0 / 4 % 2 = 1) = true := by simp [h1, h2]
      rw [h2] at ha4
      rw [hb] at HK
      clear hb h1 h2
      go_wp2_with fail
      exact HK.out _ _ _ _ _ _ _ _ _ _ _ _ (HST.out _) (HGR.out _)
    · have hb : decide (f0 / 128 % 2 = 0 ∧ f0 / 4 % 2 = 1) = false := by simp [h1, h2]
      rw [h2] at ha4
      rw [hb] at HK
      clear hb h1 h2
      go_wp2_with fail
      exact HK.out _ _ _ _ _ _ _ _ _ _ _ _ (HST.out _) (HGR.out _)
  · have h1 : ¬ f0 / 128 % 2 = 0 := fun e => hs2 (hsp.2 e)
    have hb : decide (f0 / 128 % 2 = 0 ∧ f0 / 4 % 2 = 1) = false := by simp [h1]
    rw [hb] at HK
    clear hb h1 hsp ha4
    go_wp2_with fail
    exact HK.out _ _ _ _ _ _ _ _ _ _ _ _ (HST.out _) (HGR.out _)
set_option maxRecDepth 100000 in
set_option maxHeartbeats 4000000 in
theorem rrev_loop {x0 x1 x2 x3 x4 x5 x6 x7 x8 x11 x12 x16 x17 x18 x19 x20 x21 x22 x23 x24 x25 x26 x27 x28 x29 x30 x31 x32 x33 x34 x35 x36 x37 x38 x39 x40 x41 x42 x43 x44 x45 x46 x47 x48 x49 x50 x51 x52 x53 x54 x55 x56 x57 x58 x59 x60 x61 x62 x63 x64 x65 x66 x67 x68 x69 x70 x71 x72 x73 x74 x75 : Value} {B n0 c0 gb gh at' wn : Nat} {xs : List Int} (wc : World) {Q : Exit → Act → World → Prop}
    (hn : at' + wn ≤ n0) (hn0 : n0 ≤ 2000000000000) (hw4 : wn ≤ 4) (hxw : ∀ x ∈ xs, (Lit.int .u8 x).wf = true) (HO : Hid (wc.ownsRow B 5 1 (.slice (some ⟨gb, 0, none⟩) n0 c0) n0 ((xs).map (Value.int .u8)))) (ch : wc.cell? ⟨gh, 18, none⟩ = some (.int .i64 wn))
    (hQp : ∀ c a d v w, Q (.panic c) (a.put d v) w → Q (.panic c) a w)
    (hQ : ∀ (y15 y53 y54 y55 y56 y57 y58 y59 y60 y61 y62 y63 y64 y65 y66 y67 y68 : Value) , Q .normal ⟨List.toArray (x0 :: x1 :: x2 :: x3 :: x4 :: x5 :: x6 :: x7 :: x8 :: .pointer (some ⟨gh, 0, none⟩) :: .int .i64 at' :: x11 :: x12 :: .slice (some ⟨gb, 0, none⟩) n0 c0 :: .int .u32 (lowB xs at' wn) :: y15 :: x16 :: x17 :: x18 :: x19 :: x20 :: x21 :: x22 :: x23 :: x24 :: x25 :: x26 :: x27 :: x28 :: x29 :: x30 :: x31 :: x32 :: x33 :: x34 :: x35 :: x36 :: x37 :: x38 :: x39 :: x40 :: x41 :: x42 :: x43 :: x44 :: x45 :: x46 :: x47 :: x48 :: x49 :: x50 :: x51 :: x52 :: y53 :: y54 :: y55 :: y56 :: y57 :: y58 :: y59 :: y60 :: y61 :: y62 :: y63 :: y64 :: y65 :: y66 :: y67 :: y68 :: x69 :: x70 :: x71 :: x72 :: x73 :: x74 :: x75 :: []), []⟩ wc) :
    Code.wp Try.prog (((Try.f44.body.bind (subBlock 0)).getD .skip)) Q ⟨List.toArray (x0 :: x1 :: x2 :: x3 :: x4 :: x5 :: x6 :: x7 :: x8 :: .pointer (some ⟨gh, 0, none⟩) :: .int .i64 at' :: x11 :: x12 :: .slice (some ⟨gb, 0, none⟩) n0 c0 :: .int .u32 0 :: .int .i64 0 :: x16 :: x17 :: x18 :: x19 :: x20 :: x21 :: x22 :: x23 :: x24 :: x25 :: x26 :: x27 :: x28 :: x29 :: x30 :: x31 :: x32 :: x33 :: x34 :: x35 :: x36 :: x37 :: x38 :: x39 :: x40 :: x41 :: x42 :: x43 :: x44 :: x45 :: x46 :: x47 :: x48 :: x49 :: x50 :: x51 :: x52 :: x53 :: x54 :: x55 :: x56 :: x57 :: x58 :: x59 :: x60 :: x61 :: x62 :: x63 :: x64 :: x65 :: x66 :: x67 :: x68 :: x69 :: x70 :: x71 :: x72 :: x73 :: x74 :: x75 :: []), []⟩ wc := by
  have HK := Lib.hid hQ; have HKP := Lib.hid hQp
  clear hQ hQp
  conv => arg 2; whnf
  have HXW := Lib.hid hxw
  clear hxw
  have HXL : Hid (xs.length = n0) := Lib.hid (by have := HO.out.1; rw [List.length_map] at this; omega)
  have HLB : Hid (∀ j, 0 ≤ lowB xs at' j ∧ lowB xs at' j < 256 ^ j) := Lib.hid (fun j => lowM_bd HXW.out at' j)
  go_wp2_with fail
  go_loop [14, 15] (fun s14 s => ∃ j : Nat, s14 = .int .u32 (lowB xs at' j) ∧ s = .int .i64 j ∧ j ≤ wn) (fun _ s => wn - (intOf s).toNat)
  case atStart => exact ⟨0, rfl, rfl, by omega⟩
  case round =>
    obtain ⟨j, rfl, rfl, hj⟩ := hrel
    by_cases hlt : j < wn
    · skip
      obtain ⟨gb', hgb, _, _, _, hcs, _⟩ := own_set HO.out (Below.refl _ _) (i := at' + j) (by omega) (.int .u8 0) rfl
      injection hgb with hgb; injection hgb with hgb; subst hgb
      obtain ⟨u, hu0⟩ : ∃ x, xs[at' + j]? = some x := ⟨_, List.getElem?_eq_getElem (by rw [HXL.out]; omega)⟩
      have hu := bdU8 (HXW.out u (List.mem_of_getElem? hu0))
      have cu : wc.cell? ⟨gb, at' + j, none⟩ = some (.int .u8 u) := hcs _ _ (by rw [List.getElem?_map, hu0]; rfl)
      have HLS : Hid (lowB xs at' (j + 1) = lowB xs at' j * 256 + u) := Lib.hid (by show lowB xs at' j * 256 + xs.getD (at' + j) 0 = _; rw [List.getD_eq_getElem?_getD, hu0]; rfl)
      have hlb := HLB.out j
      have hp : (256 : Int) ^ j ≤ 16777216 := by (rcases (by omega : j = 0 ∨ j = 1 ∨ j = 2 ∨ j = 3) with rfl | rfl | rfl | rfl <;> decide)
      generalize lowB xs at' j = l at hlb HLS ⊢
      have hl2 : 0 ≤ l ∧ l < 16777216 := ⟨hlb.1, by omega⟩
      clear hlb hp hcs hu0
      have HOR := or_u32 hl2.1 hl2.2 hu.1 (by omega)
      go_wp2_with fail
      exact ⟨⟨j + 1, by rw [HLS.out], by go_num, by omega⟩, by simp [intOf]; omega⟩
    · obtain rfl : j = wn := by omega
      go_wp2_with fail
      exact HK.out _ _ _ _ _ _ _ _ _ _ _ _ _ _ _ _ _
theorem rev_plain (km : Int) (b : List Int) (h : Hd) (at' en wn : Nat) (x0 : Int) (hp : parM b = some (h, at', en)) (he : at' + 12 ≤ en) (hx : x0M (mskM km b at') b = x0) (hw : (x0 % 4 + 1).toNat = wn) :
    revM km b = some ⟨{ h with w := x0 % 4 + 1, p := decide (x0 / 128 % 2 = 0 ∧ x0 / 4 % 2 = 1) }, lowB (rmM km (b.take en) at' 0) at' wn, rmM km (b.take en) at' 0, at' + wn, en⟩ ∧ rmM km (b.take en) at' 0 = xorAt (mskM km b at') at' wn ((b.take en).set 0 x0) := by
  have e1 : mskM km (b.take en) at' = mskM km b at' := by
    unfold mskM
    rw [List.drop_take, List.take_take, Nat.min_eq_left (by omega)]
  have e2 : rmM km (b.take en) at' 0 = xorAt (mskM km b at') at' wn ((b.take en).set 0 x0) := by
    unfold rmM
    rw [if_pos rfl, e1, x0M_take _ _ _ (by omega), hx, hw]
  rw [e2]
  refine ⟨?_, rfl⟩
  unfold revM
  rw [hp]
  simp only
  rw [hx, hw]
theorem x0_first (km : Int) (b : List Int) (at' : Nat) (hb : ∀ x ∈ b, (Lit.int .u8 x).wf = true) : x0M (mskM km b at') b / 128 % 2 = b.getD 0 0 / 128 % 2 := by
  have h := (x0_same (bdU8 (getD_wfB hb 0)) (bdU8 (getD_wfB (mskM_wf km b at') 0))).1
  unfold x0M
  omega
def RRevR (w : World) (km : Int) (b : List Int) (e : Ending) (w' : World) : Prop :=
  Below w.heap.size w w' ∧ ((revM km b = none ∧ e = .returned (.tuple #[.agg rowZ.toArray, .int .u32 0, .slice none 0 0, .int .i64 0, .bool false])) ∨
    ∃ r a' tc g oc, revM km b = some r ∧ e = .returned (.tuple #[r.h.val a' tc, .int .u32 r.low, .slice (some ⟨g, 0, none⟩) r.en oc, .int .i64 r.at', .bool true]) ∧ IntsK .u8 w' a' r.h.k.length r.h.k ∧ r.h.k.length ≤ tc ∧ r.en ≤ oc ∧ oc ≤ 9223372036854775807 ∧ IntsK .u8 w' (some ⟨g, 0, none⟩) r.en r.x ∧ r.en ≤ b.length ∧ r.at' + 8 ≤ r.en ∧ 1 ≤ r.at' ∧ 1 ≤ r.h.w ∧ r.h.w ≤ 4 ∧ r.h.t.length = 8 ∧ r.h.f.length = 8 ∧ (∀ x, a' = some x → w.heap.size ≤ x.block) ∧ (r.h.s = 2 ↔ r.x.getD 0 0 / 128 % 2 = 0) ∧ 0 ≤ r.low ∧ r.low < 4294967296)
set_option maxRecDepth 100000 in
set_option maxHeartbeats 8000000 in
theorem rreveal_any (w : World) (ks km : Int) (a : Option Addr) (len cap : Nat) (b : List Int) (hlc : len ≤ cap) (hcap : cap ≤ 9223372036854775807) (hlen : len ≤ 1000000) (hI : IntsK .u8 w a len b) :
    Calls Try.prog 44 #[.agg #[.int .u64 ks, .int .u64 km], .slice a len cap] w (RRevR w km b) := by
  have hbl := hI.1
  obtain ⟨QQ, hQQ⟩ : ∃ Q, RRevR w km b = Q := ⟨_, rfl⟩
  have HQN : Hid (∀ w', Below w.heap.size w w' → parM b = none → QQ (.returned (.tuple #[.agg rowZ.toArray, .int .u32 0, .slice none 0 0, .int .i64 0, .bool false])) w') := Lib.hid fun w' hb hp => by
    rw [← hQQ]; exact ⟨hb, .inl ⟨by unfold revM; rw [hp], rfl⟩⟩
  have HI := Lib.hid hI
  have HQQ := Lib.hid hQQ
  have HZL : Hid (rowZ.length = 20) := Lib.hid rfl
  have HZO : Hid (∀ v ∈ rowZ, v.oneCell' = true) := Lib.hid rowZ_one
  rw [hQQ]
  have HBL := Lib.hid hbl
  clear hI hQQ hbl
  go_enter Try.func44, Try.ntmps44
  go_upto_region 1 with fail
  change Code.wp _ _ _ _ ((w.alloc (.cells ([.int .u64 ks, .int .u64 km] : List Value).toArray 49)).alloc (.cells rowZ.toArray 32))
  have HB := Lib.hid (Below.refl w.heap.size w)
  obtain ⟨gk, hg0⟩ : ∃ g, w.heap.size = g := ⟨_, rfl⟩
  try rw [hg0]
  have hb := (Below.refl w.heap.size w).alloc (Nat.le_refl _) (.cells ([.int .u64 ks, .int .u64 km] : List Value).toArray 49)
  have hrw := heap_alloc_new w (.cells ([.int .u64 ks, .int .u64 km] : List Value).toArray 49)
  have hsz : (w.alloc (.cells ([.int .u64 ks, .int .u64 km] : List Value).toArray 49)).heap.size = gk + 1 := by simp [hg0]
  rw [hg0] at hrw
  replace HB := Lib.hid (bl_next HB.out HB.out.size hb)
  have HGK := Lib.hid hrw
  clear hb hrw
  generalize w.alloc (.cells ([.int .u64 ks, .int .u64 km] : List Value).toArray 49) = w1 at HB HGK hsz ⊢
  have hg1 := hsz
  clear hsz
  have HG0 := Lib.hid hg0
  clear hg0
  have hb := (Below.refl w1.heap.size w1).alloc (Nat.le_refl _) (.cells rowZ.toArray 32)
  have hrw := heap_alloc_new w1 (.cells rowZ.toArray 32)
  have hsz : (w1.alloc (.cells rowZ.toArray 32)).heap.size = gk + 1 + 1 := by simp [hg1]
  rw [hg1] at hrw
  replace HB := Lib.hid (bl_next HB.out HB.out.size hb)
  replace HGK := Lib.hid (bl_row hb (lt_of_block HGK.out) HGK.out)
  have HGR := Lib.hid hrw
  clear hb hrw
  generalize w1.alloc (.cells rowZ.toArray 32) = w2 at HB HGK HGR hsz ⊢
  have hg2 := hsz
  clear hsz
  clear hg1
  obtain ⟨gr, hgg⟩ : ∃ g, gk + 1 = g := ⟨_, rfl⟩
  rw [hgg] at HGR hg2 ⊢
  have HLTgr : Hid (gk < gr) := Lib.hid (by omega)
  clear hgg
  clear hg2
  go_wp2_with fail
  refine Calls.mono (rparse_any _ a len cap b hlc hcap (by omega) (HI.out.below HB.out)) ?_
  rintro e w3 ⟨hb, hcase⟩
  have HB23 := Lib.hid hb.size
  have HSW := Lib.hid HB.out.size
  have HGS : Hid (gk < w2.heap.size ∧ gr < w2.heap.size) := Lib.hid ⟨lt_of_block HGK.out, lt_of_block HGR.out⟩
  replace HB := Lib.hid (bl_next HB.out HB.out.size hb)
  replace HGK := Lib.hid (bl_row hb (lt_of_block HGK.out) HGK.out)
  replace HGR := Lib.hid (bl_row hb (lt_of_block HGR.out) HGR.out)
  clear hb
  obtain ⟨RZ, hRZ⟩ : ∃ R, rowZ = R := ⟨_, rfl⟩
  rw [hRZ] at hcase HGR HZL HZO HQN
  have HRZ := Lib.hid hRZ
  clear hRZ
  have HB3 := Lib.hid (Below.refl w3.heap.size w3)
  rcases hcase with ⟨hpn, rfl⟩ | ⟨h, at', en, ha, tc, hps, rfl, hki, hkc, hkb⟩
  · skip
    go_upto_region 2 with (first | (refine wpList_store_row rfl 32 _ _ rfl _ rfl RZ (.int .i64 0 :: .int .u8 0 :: .int .u8 0 :: .int .u8 0 :: .int .u8 0 :: .int .u8 0 :: .int .u8 0 :: .int .u8 0 :: .int .u8 0 :: .int .u8 0 :: .int .u8 0 :: .int .u8 0 :: .int .u8 0 :: .int .u8 0 :: .int .u8 0 :: .int .u8 0 :: .int .u8 0 :: .slice none 0 0 :: .int .i64 0 :: .bool false :: []) rfl 32 (heap_alloc_new _ _) (by rw [HZL.out]; rfl) (by rw [HZL.out]; rfl) HZO.out ?_; intro w4 hr hg) | fail)
    have hal := (Below.refl w3.heap.size w3).alloc (Nat.le_refl _) (.cells ((.int .i64 0 :: .int .u8 0 :: .int .u8 0 :: .int .u8 0 :: .int .u8 0 :: .int .u8 0 :: .int .u8 0 :: .int .u8 0 :: .int .u8 0 :: .int .u8 0 :: .int .u8 0 :: .int .u8 0 :: .int .u8 0 :: .int .u8 0 :: .int .u8 0 :: .int .u8 0 :: .int .u8 0 :: .slice none 0 0 :: .int .i64 0 :: .bool false :: [])).toArray 32)
    have hb : Below w3.heap.size w3 w4 := hal.grown hg hal.size (by intro k hk; injection hk with hk; omega)
    replace HB := Lib.hid (bl_next HB.out HB.out.size hb)
    replace HGK := Lib.hid (bl_row hb (lt_of_block HGK.out) HGK.out)
    replace HGR := Lib.hid (bl_row hb (lt_of_block HGR.out) HGR.out)
    replace HB3 := Lib.hid (bl_next HB3.out HB3.out.size hb)
    have HGH := Lib.hid (hr)
    clear hr hg hal hb
    obtain ⟨gh, hg⟩ : ∃ g, w3.heap.size = g := ⟨_, rfl⟩
    rw [hg] at HGH ⊢
    clear hg
    go_wp2_with (first | (refine wpList_store_row rfl 32 _ _ rfl gr rfl (.int .i64 0 :: .int .u8 0 :: .int .u8 0 :: .int .u8 0 :: .int .u8 0 :: .int .u8 0 :: .int .u8 0 :: .int .u8 0 :: .int .u8 0 :: .int .u8 0 :: .int .u8 0 :: .int .u8 0 :: .int .u8 0 :: .int .u8 0 :: .int .u8 0 :: .int .u8 0 :: .int .u8 0 :: .slice none 0 0 :: .int .i64 0 :: .bool false :: []) RZ rfl 32 HGR.out (by rw [HZL.out]; rfl) rfl (by decide) ?_; intro w5 hr hg) | fail)
    replace HB := Lib.hid (HB.out.grown hg HB.out.size (by intro k hk; injection hk with hk; subst hk; have := HG0.out; have := HLTgr.out; omega))
    clear hg
    rw [← HRZ.out] at HQN
    refine bodyPost_ret (results_cell5 (r := 4) (t := 5) (u := 6) (v := 7) (x := 8) rfl _ _ gr rfl (.int .i64 0 :: .int .u8 0 :: .int .u8 0 :: .int .u8 0 :: .int .u8 0 :: .int .u8 0 :: .int .u8 0 :: .int .u8 0 :: .int .u8 0 :: .int .u8 0 :: .int .u8 0 :: .int .u8 0 :: .int .u8 0 :: .int .u8 0 :: .int .u8 0 :: .int .u8 0 :: .int .u8 0 :: .slice none 0 0 :: .int .i64 0 :: .bool false :: []) _ _ hr Try.underlying32 rfl rfl) rfl ?_
    exact HQN.out _ HB.out hpn
  · skip
    have hbd := parM_bd hps
    have hle := parM_lens hps
    have HPS := Lib.hid hps
    have HKI := Lib.hid hki
    rw [HBL.out] at hbd
    have HRL := Lib.hid (row_len h ha tc hle.1 hle.2)
    have HVAL : Hid (h.val ha tc = .agg (h.row ha tc).toArray) := Lib.hid rfl
    have HRO : Hid (∀ v ∈ h.row ha tc, v.oneCell' = true) := Lib.hid (row_one h ha tc)
    have HS18 := Lib.hid (fun x => row_set18 h ha tc x hle.1 hle.2)
    have HS19 := Lib.hid (fun (h' : Hd) x (h1 : h'.t.length = 8) (h2 : h'.f.length = 8) => row_set19 h' ha tc x h1 h2)
    have HLE := Lib.hid hle
    rw [HVAL.out]
    obtain ⟨RW, hRW⟩ : ∃ RW, h.row ha tc = RW := ⟨_, rfl⟩
    rw [hRW] at HRL HRO HS18 ⊢
    have HRW := Lib.hid hRW
    clear hps hki hRW hle HVAL HQN HRZ
    go_upto_region 2 with (first | (refine wpList_store_row rfl 32 _ _ rfl _ rfl RW (.int .i64 0 :: .int .u8 0 :: .int .u8 0 :: .int .u8 0 :: .int .u8 0 :: .int .u8 0 :: .int .u8 0 :: .int .u8 0 :: .int .u8 0 :: .int .u8 0 :: .int .u8 0 :: .int .u8 0 :: .int .u8 0 :: .int .u8 0 :: .int .u8 0 :: .int .u8 0 :: .int .u8 0 :: .slice none 0 0 :: .int .i64 0 :: .bool false :: []) rfl 32 (heap_alloc_new _ _) (by rw [HRL.out]; rfl) (by rw [HRL.out]; rfl) HRO.out ?_; intro w9 hr hg) | fail)
    have hal := (Below.refl w3.heap.size w3).alloc (Nat.le_refl _) (.cells ((.int .i64 0 :: .int .u8 0 :: .int .u8 0 :: .int .u8 0 :: .int .u8 0 :: .int .u8 0 :: .int .u8 0 :: .int .u8 0 :: .int .u8 0 :: .int .u8 0 :: .int .u8 0 :: .int .u8 0 :: .int .u8 0 :: .int .u8 0 :: .int .u8 0 :: .int .u8 0 :: .int .u8 0 :: .slice none 0 0 :: .int .i64 0 :: .bool false :: [])).toArray 32)
    have hb : Below w3.heap.size w3 w9 := hal.grown hg hal.size (by intro k hk; injection hk with hk; omega)
    replace HB := Lib.hid (bl_next HB.out HB.out.size hb)
    replace HGK := Lib.hid (bl_row hb (lt_of_block HGK.out) HGK.out)
    replace HGR := Lib.hid (bl_row hb (lt_of_block HGR.out) HGR.out)
    replace HB3 := Lib.hid (bl_next HB3.out HB3.out.size hb)
    have HGH := Lib.hid (hr)
    clear hr hg hal hb
    obtain ⟨gh, hg⟩ : ∃ g, w3.heap.size = g := ⟨_, rfl⟩
    have HGHE := Lib.hid hg
    rw [hg] at HGH ⊢
    clear hg
    have HGR3 : Hid (gr < w3.heap.size) := Lib.hid (Nat.lt_of_lt_of_le HGS.out.2 HB23.out)
    have HPW := Lib.hid hbd.2.2.2.2.2
    replace hbd : 1 ≤ at' ∧ at' + 12 ≤ en ∧ en ≤ len := ⟨hbd.1, hbd.2.1, hbd.2.2.1⟩
    have HBTL : Hid ((b.take en).length = en) := Lib.hid (by rw [List.length_take, HBL.out]; omega)
    have HTG : Hid ((b.take en).getD 0 0 = b.getD 0 0) := Lib.hid (by rw [List.getD_eq_getElem?_getD, List.getElem?_take_of_lt (by omega), List.getD_eq_getElem?_getD])
    have HLG : Hid ((h.s != 2) = decide ((b.take en).getD 0 0 / 128 % 2 = 1)) := Lib.hid (by rw [HTG.out, Bool.eq_iff_iff, decide_eq_true_iff, bne_iff_ne]; have := HPW.out; omega)
    have HMK := Lib.hid (fun W (hb : Below w9.heap.size w9 W) => rmask9_any W ks km a en cap (b.take en) at' 0 (h.s != 2) (by omega) (by omega) hcap (by omega) (by omega) HLG.out ((HI.out.below (bl_next HB.out HB.out.size hb)).pre en (by omega)))
    have hhs : RW[0]? = some (.int .i64 h.s) := by rw [← HRW.out]; exact row_0 h ha tc
    have HR0 := Lib.hid hhs
    generalize hsp : h.s = sp at HMK HPW HR0 hhs
    have HSP := Lib.hid hsp
    clear hsp
    have HKL : Hid (([.int .u64 ks, .int .u64 km] : List Value).length = 2) := Lib.hid rfl
    go_upto_region 4 with fail
    have f0 : ∀ t : In (fun y => Below w9.heap.size w9 y), t.w.cell? ⟨gh, 0, none⟩ = some (.int .i64 sp) := fun t => cell_row (bl_row t.h (lt_of_block HGH.out) HGH.out) 0 _ hhs
    have HKR : Hid (∀ y, Below w9.heap.size w9 y → y.rangeAt gk 0 ([.int .u64 ks, .int .u64 km] : List Value)) := Lib.hid fun y hy => rngL (bl_row hy (lt_of_block HGK.out) HGK.out)
    have E1 : (en : Int) ≤ (cap : Int) := by omega
    have E2 : cap ≠ 0 := by omega
    clear hhs
    refine wp_plan (.t 0 (.t 1 (.t 2 (.t 3 (.t 4 (.t 5 (.t 6 (.t 7 (.u 8 (.t 9 .done)))))))))) (fun y => Below w9.heap.size w9 y) (by kernel_rfl) (by kernel_rfl) (by kernel_rfl) (fun c a d v w h => by first | (cases d <;> exact h) | exact HKP.out c a d v w h) (Below.refl _ _).drew ?_
    haveI hne2 : Nonempty (In (fun y => Below w9.heap.size w9 y)) := ⟨⟨w9, Below.refl _ _⟩⟩
    have hS : Hid (Below w9.heap.size w9 w9.drew) := Lib.hid (Below.refl _ _).drew
    generalize w9.drew = W0 at hS ⊢
    repeat (first | (refine plan_t_load (by rfl) (by kernel_rfl) 49 _ rfl gk 0 rfl [.int .u64 ks, .int .u64 km] _ (fun y hy => HKR.out y hy) Try.underlying49 rfl (by rfl) ?_; simp only [Act.put, List.setIfInBounds_toArray, List.set_cons_succ, List.set_cons_zero]) | (refine plan_t (by rfl) ?_; (first | go_big_quiet_skip | (go_big_quiet_want; go_big_quiet_op; go_big_quiet_on)); refine wpQuiet_nil ?_))
    refine plan_us (by rfl) (by kernel_rfl) ?_
    intro K hK
    go_wp2_with fail
    refine Calls.mono (HMK.out _ hS.out) ?_
    rintro e w10 ⟨gb, vc, rfl, hb, ho⟩
    have HO := Lib.hid (own_mono ho (Nat.le_trans HB.out.size hS.out.size))
    have HNE : Hid (gh ≠ gb ∧ gr ≠ gb ∧ w.heap.size ≤ gb ∧ w3.heap.size ≤ gb) := Lib.hid (by have h1 := own_base ho gb rfl; have h2 := hS.out.size; have h3 := lt_of_block HGH.out; have h4 := lt_of_block HGR.out; have h5 := HB.out.size; have h6 := HB3.out.size; omega)
    replace hS := Lib.hid (bl_next hS.out hS.out.size hb)
    clear hb ho
    go_wp2_with fail
    refine ⟨hS.out, ?_⟩
    repeat (refine plan_t (by rfl) ?_; (first | go_big_quiet_skip | (go_big_quiet_want; go_big_quiet_op; go_big_quiet_on)); refine wpQuiet_nil ?_)
    clear hne2 f0 E1 E2 HKR
    show Exit.then _ _ _ _ _
    clear HGK
    replace HB := Lib.hid (bl_next HB.out HB.out.size hS.out)
    replace HGR := Lib.hid (bl_row hS.out (lt_of_block HGR.out) HGR.out)
    replace HB3 := Lib.hid (bl_next HB3.out HB3.out.size hS.out)
    replace HGH := Lib.hid (bl_row hS.out (lt_of_block HGH.out) HGH.out)
    clear hS HMK
    have HCG : Hid (w3.heap.size ≤ gh ∧ w.heap.size ≤ gh ∧ gr ≠ gh) := Lib.hid (by have h1 := HGHE.out; have h2 := HGR3.out; have h3 := HSW.out; have h4 := HB23.out; omega)
    have HBW := Lib.hid HI.out.2.1
    obtain ⟨f0, hf⟩ : ∃ f, x0M (mskM km b at') b = f := ⟨_, rfl⟩
    have HF0 := Lib.hid hf
    have hf0 : 0 ≤ f0 ∧ f0 ≤ 255 := by rw [← hf]; unfold x0M; exact bdU8 (wf_bits _ _ _ _)
    have HFB : Hid (sp = 2 ↔ f0 / 128 % 2 = 0) := Lib.hid (by rw [HPW.out, ← hf, x0_first km b at' HBW.out])
    clear hf
    obtain ⟨wn, hwn⟩ : ∃ wn : Nat, f0 % 4 + 1 = (wn : Int) := ⟨(f0 % 4 + 1).toNat, by omega⟩
    have hwn4 : 1 ≤ wn ∧ wn ≤ 4 := by omega
    have HPLN := Lib.hid (rev_plain km b h at' en wn f0 HPS.out hbd.2.1 HF0.out (by omega))
    have HWN0 := Lib.hid hwn
    clear hwn
    have HXW : Hid (∀ x ∈ rmM km (b.take en) at' 0, (Lit.int .u8 x).wf = true) := Lib.hid (by rw [HPLN.out.2]; exact xorAt_wf (set_wf (fun x hx => HBW.out x (List.mem_of_mem_take hx)) 0 _ (by rw [← HF0.out]; unfold x0M; exact wf_bits _ _ _ _)))
    have HXG : Hid ((rmM km (b.take en) at' 0)[0]? = some f0) := Lib.hid (by rw [HPLN.out.2, xorAt_get, List.getElem?_set_self (by rw [HBTL.out]; omega)]; simp only [Option.map_some]; rw [if_neg (by omega)])
    have HXL : Hid ((rmM km (b.take en) at' 0).length = en) := Lib.hid (by rw [HPLN.out.2, xorAt_len, List.length_set, HBTL.out])
    replace HPLN := Lib.hid HPLN.out.1
    generalize rmM km (b.take en) at' 0 = X at HO HPLN HXW HXG HXL
    have HC0 : Hid (∀ W : World, W.ownsRow w.heap.size 5 1 (.slice (some ⟨gb, 0, none⟩) en vc) en (X.map (Value.int .u8)) → W.cell? ⟨gb, 0, none⟩ = some (.int .u8 f0)) := Lib.hid fun W hW => by
      obtain ⟨_, hg2, _, _, _, hcs2, _⟩ := own_set hW (Below.refl _ _) (i := 0) (by omega) (.int .u8 0) rfl
      injection hg2 with hg2; injection hg2 with hg2; subst hg2
      exact hcs2 0 _ (by rw [List.getElem?_map, HXG.out]; rfl)
    have c0 := HC0.out _ HO.out
    have ha3 := (and_hid f0 hf0).2.2.2.2.1
    have c18 := cell_row HGH.out 18 _ (by rw [← HRW.out]; exact (row_17 h ha tc HLE.out.1 HLE.out.2).2)
    have z18 := row_free HGH.out 18
    go_upto_region 6 with fail
    clear c0 ha3 c18 z18
    have hg2 := grown_setCell w10 gh 18 (.int .i64 (f0 % 4 + 1))
    have hr2 := heap_setCell_same w10 gh 18 _ _ (.int .i64 (f0 % 4 + 1)) HGH.out
    rw [List.setIfInBounds_toArray] at hr2
    replace HGR := Lib.hid (grown_row hg2 (by intro e; injection e with e; exact HCG.out.2.2 e) HGR.out)
    replace HB := Lib.hid (HB.out.grown hg2 HB.out.size (by intro k hk; injection hk with hk; subst hk; exact HCG.out.2.1))
    replace HB3 := Lib.hid (HB3.out.grown hg2 HB3.out.size (by intro k hk; injection hk with hk; subst hk; exact HCG.out.1))
    replace HO := Lib.hid (own_grown HO.out hg2 (by intro e; injection e with e; exact HNE.out.1 e.symm))
    have HGH2 := Lib.hid hr2
    clear hg2 hr2 HGH
    generalize w10.setCell ⟨gh, 18, none⟩ (.int .i64 (f0 % 4 + 1)) = wb at HGR HB HB3 HO HGH2 ⊢
    refine rrev_phase _ (by omega) hf0 (by rw [List.length_set, HRL.out]) HFB.out (HC0.out _ HO.out) HGH2 (by rw [List.getElem?_set_ne (by omega)]; exact HR0.out) (pv := h.p) (by rw [List.getElem?_set_ne (by omega), ← HRW.out]; exact row_19 h ha tc HLE.out.1 HLE.out.2) (fun c a d v w h => by first | (cases d <;> exact h) | exact HKP.out c a d v w h) ?_
    rintro _ _ _ _ _ _ _ _ _ _ _ wc hr3 hg3
    replace HGR := Lib.hid (grown_row hg3 (by intro e; injection e with e; exact HCG.out.2.2 e) HGR.out)
    replace HB := Lib.hid (HB.out.grown hg3 HB.out.size (by intro k hk; injection hk with hk; subst hk; exact HCG.out.2.1))
    replace HB3 := Lib.hid (HB3.out.grown hg3 HB3.out.size (by intro k hk; injection hk with hk; subst hk; exact HCG.out.1))
    replace HO := Lib.hid (own_grown HO.out hg3 (by intro e; injection e with e; exact HNE.out.1 e.symm))
    have HEH : Hid (((RW.set 18 (.int .i64 (f0 % 4 + 1))).set 19 (.bool (decide (f0 / 128 % 2 = 0 ∧ f0 / 4 % 2 = 1)))) = ({ h with w := f0 % 4 + 1, p := decide (f0 / 128 % 2 = 0 ∧ f0 / 4 % 2 = 1) } : Hd).row ha tc) := Lib.hid (by rw [HS18.out]; exact HS19.out _ _ HLE.out.1 HLE.out.2)
    rw [HEH.out] at hr3
    rw [HWN0.out] at hr3 HPLN
    generalize decide (f0 / 128 % 2 = 0 ∧ f0 / 4 % 2 = 1) = pb at hr3 HPLN
    obtain ⟨h2, hh2⟩ : ∃ h2 : Hd, h2 = { h with w := (wn : Int), p := pb } := ⟨_, rfl⟩
    have HH2 : Hid (h2.w = wn ∧ h2.t.length = 8 ∧ h2.f.length = 8 ∧ h2.k = h.k ∧ h2.s = h.s) := Lib.hid (by rw [hh2]; exact ⟨rfl, HLE.out.1, HLE.out.2, rfl, rfl⟩)
    rw [← hh2] at hr3 HPLN
    have HR2L := Lib.hid (row_len h2 ha tc HH2.out.2.1 HH2.out.2.2.1)
    have HR2O := Lib.hid (row_one h2 ha tc)
    have HR2W := Lib.hid (row_17 h2 ha tc HH2.out.2.1 HH2.out.2.2.1).2
    rw [HH2.out.1] at HR2W
    have HV2 : Hid (h2.val ha tc = .agg (h2.row ha tc).toArray) := Lib.hid rfl
    obtain ⟨RX, hRX⟩ : ∃ R, h2.row ha tc = R := ⟨_, rfl⟩
    rw [hRX] at hr3 HR2L HR2O HR2W HV2
    have HGH := Lib.hid hr3
    clear hr3 hg3 hh2 hRX HEH HGH2
    go_upto_block 0 with fail
    refine rrev_loop _ (by omega) (by omega) hwn4.2 HXW.out HO (cell_row HGH.out 18 _ HR2W.out) (fun c a d v w h => by first | (cases d <;> exact h) | exact HKP.out c a d v w h) ?_
    rintro _ _ _ _ _ _ _ _ _ _ _ _ _ _ _ _ _ 
    have HLW := Lib.hid (lowM_bd HXW.out at' wn)
    generalize lowB X at' wn = low at HLW HPLN ⊢
    have HKW := Lib.hid (HKI.out.below HB3.out)
    have hvl : en ≤ vc := by obtain ⟨vb, vd, ve, hh⟩ := own_slice HO.out; have hv := congrArg (fun v => match v with | Value.slice _ _ c => c | _ => 0) ve; simp only at hv; omega
    have hvc := own_capm HO.out _ _ _ rfl
    have E1 : IntKind.i64.wrap ((at' : Int) + (wn : Int)) = (at' : Int) + (wn : Int) := IntWalk.i64_in _ (by omega)
    go_upto_region 12 with fail
    have f18 : ∀ t : In (fun y => wc.grownBy y (some gr)), t.w.cell? ⟨gh, 18, none⟩ = some (.int .i64 wn) := fun t => t.h.cell (cell_row HGH.out 18 _ HR2W.out) (by intro e; injection e with e; exact HCG.out.2.2 e.symm)
    have HRG : Hid (∀ y, wc.grownBy y (some gr) → y.rangeAt gh 0 RX) := Lib.hid fun y hy => rngL (grown_row hy (by intro e; injection e with e; exact HCG.out.2.2 e.symm) HGH.out)
    refine wp_plan (.t 0 (.t 1 (.t 2 (.t 3 (.t 4 (.t 5 (.t 6 (.u 7 (.t 8 (.t 9 (.t 10 (.t 11 .done)))))))))))) (fun y => wc.grownBy y (some gr)) (by kernel_rfl) (by kernel_rfl) (by kernel_rfl) (fun c a d v w h => by first | (cases d <;> exact h) | exact HKP.out c a d v w h) (grown_drew _ _) ?_
    haveI hne2 : Nonempty (In (fun y => wc.grownBy y (some gr))) := ⟨⟨wc, grown_refl _ _⟩⟩
    have hS : Hid (wc.grownBy wc.drew (some gr)) := Lib.hid (grown_drew _ _)
    have HGR2 : Hid (wc.drew.heap[gr]? = some (.cells RZ.toArray 32 (0, 0))) := HGR
    generalize wc.drew = W0 at hS HGR2 ⊢
    repeat (first | (refine plan_t_load (by rfl) (by kernel_rfl) 32 _ rfl gh 0 rfl RX _ (fun y hy => HRG.out y hy) Try.underlying32 rfl (by rw [HR2L.out]; rfl) ?_; simp only [Act.put, List.setIfInBounds_toArray, List.set_cons_succ, List.set_cons_zero]) | (refine plan_t (by rfl) ?_; (first | go_big_quiet_skip | (go_big_quiet_want; go_big_quiet_op; go_big_quiet_on)); refine wpQuiet_nil ?_))
    refine plan_us (by rfl) (by kernel_rfl) ?_
    intro K hK
    refine wp_store_row 32 _ _ rfl gr rfl RX RZ rfl 32 HGR2.out (HZL.out.trans HR2L.out.symm) (by rw [HR2L.out]; rfl) HR2O.out ?_
    intro w11 hr5 hg5
    have hg6 := grown_trans hS.out hg5
    refine hK _ _ ⟨hg6, ?_⟩
    clear hg5 hK K hS
    simp only [Act.put, List.setIfInBounds_toArray, List.set_cons_succ, List.set_cons_zero]
    repeat (refine plan_t (by rfl) ?_; (first | go_big_quiet_skip | (go_big_quiet_want; go_big_quiet_op; go_big_quiet_on)); refine wpQuiet_nil ?_)
    clear hne2 f18 E1
    show Exit.then _ _ _ _ _
    have HB6 : Below w.heap.size w w11 := HB.out.grown hg6 HB.out.size (by intro k hk; injection hk with hk; subst hk; have := HG0.out; have := HLTgr.out; omega)
    have HO6 := own_grown HO.out hg6 (by intro e; injection e with e; exact HNE.out.2.1 e.symm)
    have HK6 : IntsK .u8 w11 ha h.k.length h.k := HKW.out.grown hg6 (fun x hx e => by injection e with e; have h1 := hkb x hx; have h2 := HGS.out.2; omega)
    obtain ⟨oa, oc, eo, _, hoi, _⟩ := ints_of_own HO6 HXW.out
    injection eo with eo1 eo2 eo3
    subst eo1
    have HOI := Lib.hid hoi
    have HK7 := Lib.hid HK6
    have HB7 := Lib.hid HB6
    have HR5 := Lib.hid hr5
    clear eo3 eo2 hoi HO6 HK6 HB6 hg6 hr5
    go_wp2_with fail
    refine bodyPost_ret (results_cell5 (r := 4) (t := 5) (u := 6) (v := 7) (x := 8) rfl _ _ gr rfl RX _ _ HR5.out Try.underlying32 rfl (by rw [HR2L.out]; rfl)) rfl ?_
    have hp4 : (256 : Int) ^ wn ≤ 4294967296 := by (rcases (by omega : wn = 1 ∨ wn = 2 ∨ wn = 3 ∨ wn = 4) with rfl | rfl | rfl | rfl <;> decide)
    have hlw := HLW.out
    rw [← HQQ.out]
    refine ⟨HB7.out, .inr ⟨_, ha, tc, gb, vc, HPLN.out, by rw [HV2.out]; rfl, by rw [HH2.out.2.2.2.1]; exact HK7.out, by rw [HH2.out.2.2.2.1]; exact hkc, hvl, hvc, HOI.out, by show en ≤ b.length; rw [HBL.out]; omega, by show at' + wn + 8 ≤ en; omega, by show 1 ≤ at' + wn; omega, by show 1 ≤ h2.w; rw [HH2.out.1]; omega, by show h2.w ≤ 4; rw [HH2.out.1]; omega, HH2.out.2.1, HH2.out.2.2.1, fun x hx => Nat.le_trans HSW.out (hkb x hx), ?_, hlw.1, by show low < 4294967296; omega⟩⟩
    show h2.s = 2 ↔ X.getD 0 0 / 128 % 2 = 0
    rw [HH2.out.2.2.2.2, HSP.out, List.getD_eq_getElem?_getD, HXG.out]
    exact HFB.out
end Go.Proofs.Ythofbckkjcidmaa
namespace Go.Proofs.Ythofbckkjcidmaa
open Go.RowKit
set_option linter.unusedVariables false
set_option linter.unusedSimpArgs false

set_option maxRecDepth 100000 in
set_option maxHeartbeats 8000000 in
theorem runprot_any (w : World) (ks km : Int) (a : Option Addr) (len cap : Nat) (b : List Int) (largest : Int) (has : Bool) (hlc : len ≤ cap) (hcap : cap ≤ 9223372036854775807) (hlen : len ≤ 1000000) (hl : 0 ≤ largest ∧ largest < 18446744073709551616) (hI : IntsK .u8 w a len b) :
    Calls Try.prog 42 #[.agg #[.int .u64 ks, .int .u64 km], .slice a len cap, .int .u64 largest, .bool has] w (UnpR w ks km b largest has) := by
  have HOP := Lib.hid (fun W hI => rreveal_any W ks km a len cap b hlc hcap hlen hI)
  have HI := Lib.hid hI
  have HBL := Lib.hid hI.1
  obtain ⟨QQ, hQQ⟩ : ∃ Q, UnpR w ks km b largest has = Q := ⟨_, rfl⟩
  have HQZ : Hid (∀ w' err, Below w.heap.size w w' → unpM ks km b largest has = (zH, 0, [], err) → QQ (.returned (.tuple #[.agg rowZ.toArray, .int .u64 0, .slice none 0 0, .int .i64 err])) w') := Lib.hid fun w' err hb hu => by
    rw [← hQQ]; exact ⟨hb, zH, 0, [], err, none, 0, none, 0, hu, rfl, IntsK.nil _ _ _, Nat.le_refl _, IntsK.nil _ _ _, Nat.le_refl _, rfl, rfl⟩
  have HQQ := Lib.hid hQQ
  rw [hQQ]
  have HZL : Hid (rowZ.length = 20) := Lib.hid rfl
  have HZO : Hid (∀ v ∈ rowZ, v.oneCell' = true) := Lib.hid rowZ_one
  clear hQQ hI
  go_enter Try.func42, Try.ntmps42
  go_upto_region 1 with fail
  change Code.wp _ _ _ _ ((w.alloc (.cells ([.int .u64 ks, .int .u64 km] : List Value).toArray 49)).alloc (.cells rowZ.toArray 32))
  have HB := Lib.hid (Below.refl w.heap.size w)
  obtain ⟨gk, hg0⟩ : ∃ g, w.heap.size = g := ⟨_, rfl⟩
  try rw [hg0]
  have hb := (Below.refl w.heap.size w).alloc (Nat.le_refl _) (.cells ([.int .u64 ks, .int .u64 km] : List Value).toArray 49)
  have hrw := heap_alloc_new w (.cells ([.int .u64 ks, .int .u64 km] : List Value).toArray 49)
  have hsz : (w.alloc (.cells ([.int .u64 ks, .int .u64 km] : List Value).toArray 49)).heap.size = gk + 1 := by simp [hg0]
  rw [hg0] at hrw
  replace HB := Lib.hid (bl_next HB.out HB.out.size hb)
  have HGK := Lib.hid hrw
  clear hb hrw
  generalize w.alloc (.cells ([.int .u64 ks, .int .u64 km] : List Value).toArray 49) = w1 at HB HGK hsz ⊢
  have hg1 := hsz
  clear hsz
  have HG0 := Lib.hid hg0
  clear hg0
  have hb := (Below.refl w1.heap.size w1).alloc (Nat.le_refl _) (.cells rowZ.toArray 32)
  have hrw := heap_alloc_new w1 (.cells rowZ.toArray 32)
  have hsz : (w1.alloc (.cells rowZ.toArray 32)).heap.size = gk + 1 + 1 := by simp [hg1]
  rw [hg1] at hrw
  replace HB := Lib.hid (bl_next HB.out HB.out.size hb)
  replace HGK := Lib.hid (bl_row hb (lt_of_block HGK.out) HGK.out)
  have HGR := Lib.hid hrw
  clear hb hrw
  generalize w1.alloc (.cells rowZ.toArray 32) = w2 at HB HGK HGR hsz ⊢
  have hg2 := hsz
  clear hsz
  clear hg1
  obtain ⟨gr, hgg⟩ : ∃ g, gk + 1 = g := ⟨_, rfl⟩
  rw [hgg] at HGR hg2 ⊢
  have HLTgr : Hid (gk < gr) := Lib.hid (by omega)
  clear hgg
  clear hg2
  have HKL : Hid (([.int .u64 ks, .int .u64 km] : List Value).length = 2) := Lib.hid rfl
  go_wp2_with (first | (refine wpList_load_mid rfl 49 _ rfl gk 0 rfl [.int .u64 ks, .int .u64 km] _ (rngL HGK.out) Try.underlying49 rfl (by rw [HKL.out]; rfl) ?_) | fail)
  refine Calls.mono (HOP.out _ (HI.out.below HB.out)) ?_
  rintro e w3 ⟨hb, hcase⟩
  have HSW := Lib.hid HB.out.size
  have HGS : Hid (gr < w2.heap.size ∧ gk < w2.heap.size) := Lib.hid ⟨lt_of_block HGR.out, lt_of_block HGK.out⟩
  replace HB := Lib.hid (bl_next HB.out HB.out.size hb)
  replace HGK := Lib.hid (bl_row hb (lt_of_block HGK.out) HGK.out)
  replace HGR := Lib.hid (bl_row hb (lt_of_block HGR.out) HGR.out)
  clear hb
  obtain ⟨RZ, hRZ⟩ : ∃ R, rowZ = R := ⟨_, rfl⟩
  rw [hRZ] at hcase HGR HZL HZO
  have HRZ := Lib.hid hRZ
  clear hRZ HOP
  rcases hcase with ⟨hpn, rfl⟩ | ⟨r, ha, tc, go, oc, hps, rfl, hki, hkc, hoc, hocm, hoi, hen, hat, h1at, hw1, hw4, ht8, hf8, hkb, hsx, hlow⟩
  · have HUP : Hid (unpM ks km b largest has = (zH, 0, [], 12)) := Lib.hid (by unfold unpM; rw [hpn])
    clear hpn HGK
    go_upto_region 2 with (first | (refine wpList_store_row rfl 32 _ _ rfl _ rfl RZ (.int .i64 0 :: .int .u8 0 :: .int .u8 0 :: .int .u8 0 :: .int .u8 0 :: .int .u8 0 :: .int .u8 0 :: .int .u8 0 :: .int .u8 0 :: .int .u8 0 :: .int .u8 0 :: .int .u8 0 :: .int .u8 0 :: .int .u8 0 :: .int .u8 0 :: .int .u8 0 :: .int .u8 0 :: .slice none 0 0 :: .int .i64 0 :: .bool false :: []) rfl 32 (heap_alloc_new _ _) (by rw [HZL.out]; rfl) (by rw [HZL.out]; rfl) HZO.out ?_; intro w4 hr hg) | fail)
    have hal := (Below.refl w3.heap.size w3).alloc (Nat.le_refl _) (.cells ((.int .i64 0 :: .int .u8 0 :: .int .u8 0 :: .int .u8 0 :: .int .u8 0 :: .int .u8 0 :: .int .u8 0 :: .int .u8 0 :: .int .u8 0 :: .int .u8 0 :: .int .u8 0 :: .int .u8 0 :: .int .u8 0 :: .int .u8 0 :: .int .u8 0 :: .int .u8 0 :: .int .u8 0 :: .slice none 0 0 :: .int .i64 0 :: .bool false :: [])).toArray 32)
    have hb : Below w3.heap.size w3 w4 := hal.grown hg hal.size (by intro k hk; injection hk with hk; omega)
    replace HB := Lib.hid (bl_next HB.out HB.out.size hb)
    replace HGR := Lib.hid (bl_row hb (lt_of_block HGR.out) HGR.out)
    have HGH := Lib.hid (hr)
    clear hr hg hal hb
    obtain ⟨gh, hg⟩ : ∃ g, w3.heap.size = g := ⟨_, rfl⟩
    rw [hg] at HGH ⊢
    clear hg
    go_wp2_with (first | (refine wpList_store_row rfl 32 _ _ rfl gr rfl (.int .i64 0 :: .int .u8 0 :: .int .u8 0 :: .int .u8 0 :: .int .u8 0 :: .int .u8 0 :: .int .u8 0 :: .int .u8 0 :: .int .u8 0 :: .int .u8 0 :: .int .u8 0 :: .int .u8 0 :: .int .u8 0 :: .int .u8 0 :: .int .u8 0 :: .int .u8 0 :: .int .u8 0 :: .slice none 0 0 :: .int .i64 0 :: .bool false :: []) RZ rfl 32 HGR.out (by rw [HZL.out]; rfl) rfl (by decide) ?_; intro w5 hr hg) | fail)
    have HB7 := Lib.hid (HB.out.grown hg HB.out.size (by intro k hk; injection hk with hk; subst hk; have := HG0.out; have := HLTgr.out; omega))
    clear hg
    refine bodyPost_ret (results_cell4 (r := 8) (t := 9) (u := 10) (v := 11) rfl _ _ gr rfl (.int .i64 0 :: .int .u8 0 :: .int .u8 0 :: .int .u8 0 :: .int .u8 0 :: .int .u8 0 :: .int .u8 0 :: .int .u8 0 :: .int .u8 0 :: .int .u8 0 :: .int .u8 0 :: .int .u8 0 :: .int .u8 0 :: .int .u8 0 :: .int .u8 0 :: .int .u8 0 :: .int .u8 0 :: .slice none 0 0 :: .int .i64 0 :: .bool false :: []) _ _ hr Try.underlying32 rfl rfl) rfl ?_
    exact HQZ.out _ 12 HB7.out HUP.out
  · have HPS := Lib.hid hps; have HKI := Lib.hid hki; have HOI := Lib.hid hoi
    have HKB := Lib.hid hkb
    rw [HBL.out] at hen
    clear hps hki hoi hkb
    have HRL := Lib.hid (row_len r.h ha tc ht8 hf8)
    have HVAL : Hid (r.h.val ha tc = .agg (r.h.row ha tc).toArray) := Lib.hid rfl
    have HRO : Hid (∀ v ∈ r.h.row ha tc, v.oneCell' = true) := Lib.hid (row_one r.h ha tc)
    have HH := Lib.hid (And.intro hkc (And.intro ht8 hf8))
    have HR18 := Lib.hid (row_17 r.h ha tc ht8 hf8).2
    have HR0 := Lib.hid (row_0 r.h ha tc)
    rw [HVAL.out]
    obtain ⟨RW, hRW⟩ : ∃ RW, r.h.row ha tc = RW := ⟨_, rfl⟩
    rw [hRW] at HRL HRO HVAL HR18 HR0 ⊢
    clear hRW ht8 hf8 hkc
    obtain ⟨wd, hwd⟩ : ∃ wd, r.h.w = wd := ⟨_, rfl⟩
    rw [hwd] at hw1 hw4 HR18
    have HWD := Lib.hid hwd
    obtain ⟨sp, hsp⟩ : ∃ sp, r.h.s = sp := ⟨_, rfl⟩
    rw [hsp] at HR0 hsx
    obtain ⟨low, hlo⟩ : ∃ l, r.low = l := ⟨_, rfl⟩
    rw [hlo] at hlow ⊢
    have HLO := Lib.hid hlo
    obtain ⟨at', hate⟩ : ∃ t, r.at' = t := ⟨_, rfl⟩
    have HAT := Lib.hid hate
    obtain ⟨en, hene⟩ : ∃ t, r.en = t := ⟨_, rfl⟩
    have HEN := Lib.hid hene
    rw [hate] at hat h1at ⊢
    rw [hene] at hoc hen hat HOI ⊢
    have HU : Hid (unpM ks km b largest has = if (openM ks (wholeM (nxM largest has) low (powW (wM wd))) (r.x.take at') (r.x.drop at')).2 = false then (zH, 0, [], 25) else if bits .and .u8 (r.x.getD 0 0) (keptM (r.x.getD 0 0)) ≠ 0 then (zH, 0, [], 14) else (r.h, wholeM (nxM largest has) low (powW (wM wd)), (openM ks (wholeM (nxM largest has) low (powW (wM wd))) (r.x.take at') (r.x.drop at')).1, 0)) := Lib.hid (by unfold unpM; rw [HPS.out]; simp only; rw [hlo, hwd, hate])
    clear hwd hlo hate hene hsp
    have HWH := Lib.hid (fun W => rwhole_any W largest low wd has hl hlow)
    have HWN : Hid ((Lit.int .u64 (wholeM (nxM largest has) low (powW (wM wd)))).wf = true) := Lib.hid (whole_wf largest has low wd hl hlow)
    generalize wholeM (nxM largest has) low (powW (wM wd)) = n at HU HWH HWN
    obtain ⟨X, hX⟩ : ∃ X, r.x = X := ⟨_, rfl⟩
    rw [hX] at HU HOI hsx
    clear hX
    obtain ⟨x0, hx0⟩ : ∃ x0, X.getD 0 0 = x0 := ⟨_, rfl⟩
    rw [hx0] at HU hsx
    have HX0 := Lib.hid hx0
    have HSX := Lib.hid hsx
    clear hx0 hsx
    go_upto_region 2 with (first | (refine wpList_store_row rfl 32 _ _ rfl _ rfl RW (.int .i64 0 :: .int .u8 0 :: .int .u8 0 :: .int .u8 0 :: .int .u8 0 :: .int .u8 0 :: .int .u8 0 :: .int .u8 0 :: .int .u8 0 :: .int .u8 0 :: .int .u8 0 :: .int .u8 0 :: .int .u8 0 :: .int .u8 0 :: .int .u8 0 :: .int .u8 0 :: .int .u8 0 :: .slice none 0 0 :: .int .i64 0 :: .bool false :: []) rfl 32 (heap_alloc_new _ _) (by rw [HRL.out]; rfl) (by rw [HRL.out]; rfl) HRO.out ?_; intro w9 hr hg) | fail)
    have hal := (Below.refl w3.heap.size w3).alloc (Nat.le_refl _) (.cells ((.int .i64 0 :: .int .u8 0 :: .int .u8 0 :: .int .u8 0 :: .int .u8 0 :: .int .u8 0 :: .int .u8 0 :: .int .u8 0 :: .int .u8 0 :: .int .u8 0 :: .int .u8 0 :: .int .u8 0 :: .int .u8 0 :: .int .u8 0 :: .int .u8 0 :: .int .u8 0 :: .int .u8 0 :: .slice none 0 0 :: .int .i64 0 :: .bool false :: [])).toArray 32)
    have hb : Below w3.heap.size w3 w9 := hal.grown hg hal.size (by intro k hk; injection hk with hk; omega)
    replace HB := Lib.hid (bl_next HB.out HB.out.size hb)
    replace HGK := Lib.hid (bl_row hb (lt_of_block HGK.out) HGK.out)
    replace HGR := Lib.hid (bl_row hb (lt_of_block HGR.out) HGR.out)
    replace HKI := Lib.hid (HKI.out.below hb)
    replace HOI := Lib.hid (HOI.out.below hb)
    have HGH := Lib.hid (hr)
    clear hr hg hal hb
    obtain ⟨gh, hg⟩ : ∃ g, w3.heap.size = g := ⟨_, rfl⟩
    rw [hg] at HGH ⊢
    clear hg
    have c18 := cell_row HGH.out 18 _ HR18.out
    go_wp2_with fail
    refine Calls.mono (HWH.out _) ?_
    rintro e w10 ⟨rfl, hb⟩
    replace HB := Lib.hid (bl_next HB.out HB.out.size hb)
    replace HGK := Lib.hid (bl_row hb (lt_of_block HGK.out) HGK.out)
    replace HGR := Lib.hid (bl_row hb (lt_of_block HGR.out) HGR.out)
    replace HKI := Lib.hid (HKI.out.below hb)
    replace HOI := Lib.hid (HOI.out.below hb)
    replace HGH := Lib.hid (bl_row hb (lt_of_block HGH.out) HGH.out)
    clear hb c18 HWH
    have f0 : ∀ t : In (fun y => Below w10.heap.size w10 y), t.w.cell? ⟨gk, 0, none⟩ = some (.int .u64 ks) := fun t => cell_row (bl_row t.h (lt_of_block HGK.out) HGK.out) 0 _ rfl
    have HIS := Lib.hid (fun (W : World) (hb : Below w10.heap.size w10 W) => (HOI.out.below hb).suf at' (by omega))
    have E1 : (at' : Int) ≤ (en : Int) := by omega
    have E2 : (at' : Int) ≤ (oc : Int) := by omega
    have E3 : oc ≠ at' := by omega
    have E4 : oc ≠ 0 := by omega
    go_upto_region 5 with fail
    refine wp_plan (.t 0 (.t 1 (.t 2 (.t 3 (.t 4 (.t 5 (.t 6 (.t 7 (.t 8 (.u 9 (.t 10 (.t 11 (.t 12 (.t 13 (.t 14 .done))))))))))))))) (fun y => Below w10.heap.size w10 y) (by kernel_rfl) (by kernel_rfl) (by kernel_rfl) (fun c a d v w h => by first | (cases d <;> exact h) | exact HKP.out c a d v w h) (Below.refl _ _).drew ?_
    haveI hne2 : Nonempty (In (fun y => Below w10.heap.size w10 y)) := ⟨⟨w10, Below.refl _ _⟩⟩
    have hS : Hid (Below w10.heap.size w10 w10.drew) := Lib.hid (Below.refl _ _).drew
    generalize w10.drew = W0 at hS ⊢
    repeat (refine plan_t (by rfl) ?_; (first | go_big_quiet_skip | (go_big_quiet_want; go_big_quiet_op; go_big_quiet_on)); refine wpQuiet_nil ?_)
    have HBW : Hid (∀ x ∈ X.drop at', (Lit.int .u8 x).wf = true) := Lib.hid fun x hx => HOI.out.2.1 x (List.mem_of_mem_drop hx)
    have HPW := Lib.hid (openM_wf ks n (X.take at') (X.drop at') HBW.out)
    have HOPN := Lib.hid (fun W (hb : Below w10.heap.size w10 W) => ropen_any W ks n (some ⟨go, 0, none⟩) at' oc (X.take at') (some ⟨go, at', none⟩) (en - at') (oc - at') (X.drop at') HWN.out (by omega) (by omega) (by omega) (by omega) ((HOI.out.below hb).pre at' (by omega)) (by have := HIS.out W hb; rw [Nat.zero_add] at this; exact this))
    have HGW : Hid (gr < w10.heap.size) := Lib.hid (lt_of_block HGR.out)
    generalize openM ks n (X.take at') (X.drop at') = q at HU HOPN HPW
    obtain ⟨pl, ok⟩ := q
    simp only at HU HOPN HPW
    refine plan_us (by rfl) (by kernel_rfl) ?_
    intro K hK
    go_wp2_with fail
    refine Calls.mono (HOPN.out _ hS.out) ?_
    rintro e w11 ⟨v, rfl, hb, hv⟩
    obtain ⟨pa, pc, rfl, hpc, hpi, hpb⟩ := ints_of_own hv HPW.out
    have HPI := Lib.hid hpi; have HPC := Lib.hid hpc; have HPB : Hid (∀ x, pa = some x → w10.heap.size ≤ x.block) := Lib.hid fun x hx => Nat.le_trans hS.out.size (hpb x hx)
    replace hS := Lib.hid (bl_next hS.out hS.out.size hb)
    clear hb hv hpi hpc hpb
    go_wp2_with fail
    refine ⟨hS.out, ?_⟩
    repeat (refine plan_t (by rfl) ?_; (first | go_big_quiet_skip | (go_big_quiet_want; go_big_quiet_op; go_big_quiet_on)); refine wpQuiet_nil ?_)
    clear hne2 f0 E1 E2 E3 E4
    show Exit.then _ _ _ _ _
    replace HB := Lib.hid (bl_next HB.out HB.out.size hS.out)
    replace HGK := Lib.hid (bl_row hS.out (lt_of_block HGK.out) HGK.out)
    replace HGR := Lib.hid (bl_row hS.out (lt_of_block HGR.out) HGR.out)
    replace HKI := Lib.hid (HKI.out.below hS.out)
    replace HOI := Lib.hid (HOI.out.below hS.out)
    replace HGH := Lib.hid (bl_row hS.out (lt_of_block HGH.out) HGH.out)
    clear hS HOPN HIS
    cases ok with
    | false =>
      have HUP : Hid (unpM ks km b largest has = (zH, 0, [], 25)) := Lib.hid (by rw [HU.out]; rfl)
      go_wp2_with (first | (refine wpList_store_row rfl 32 _ _ rfl gr rfl (.int .i64 0 :: .int .u8 0 :: .int .u8 0 :: .int .u8 0 :: .int .u8 0 :: .int .u8 0 :: .int .u8 0 :: .int .u8 0 :: .int .u8 0 :: .int .u8 0 :: .int .u8 0 :: .int .u8 0 :: .int .u8 0 :: .int .u8 0 :: .int .u8 0 :: .int .u8 0 :: .int .u8 0 :: .slice none 0 0 :: .int .i64 0 :: .bool false :: []) RZ rfl 32 HGR.out (by rw [HZL.out]; rfl) rfl (by decide) ?_; intro w12 hr hg) | fail)
      have HB7 := Lib.hid (HB.out.grown hg HB.out.size (by intro k hk; injection hk with hk; subst hk; have := HG0.out; have := HLTgr.out; omega))
      clear hg
      refine bodyPost_ret (results_cell4 (r := 8) (t := 9) (u := 10) (v := 11) rfl _ _ gr rfl (.int .i64 0 :: .int .u8 0 :: .int .u8 0 :: .int .u8 0 :: .int .u8 0 :: .int .u8 0 :: .int .u8 0 :: .int .u8 0 :: .int .u8 0 :: .int .u8 0 :: .int .u8 0 :: .int .u8 0 :: .int .u8 0 :: .int .u8 0 :: .int .u8 0 :: .int .u8 0 :: .int .u8 0 :: .slice none 0 0 :: .int .i64 0 :: .bool false :: []) _ _ hr Try.underlying32 rfl rfl) rfl ?_
      exact HQZ.out _ 25 HB7.out HUP.out
    | true =>
      have c0 := ints_cell0 HOI.out (by omega)
      rw [HX0.out] at c0
      have cs := cell_row HGH.out 0 _ HR0.out
      have hx0b : 0 ≤ x0 ∧ x0 ≤ 255 := by rw [← HX0.out]; exact bdU8 (getD_wfB HOI.out.2.1 0)
      obtain ⟨h12, h24⟩ := And.intro (and_hid x0 hx0b).2.2.1 (and_hid x0 hx0b).2.2.2.1
      obtain ⟨kv, hkv⟩ : ∃ kv, bits .and .u8 x0 (keptM x0) = kv := ⟨_, rfl⟩
      have HKV := Lib.hid hkv
      rw [hkv] at HU
      clear h12 h24
      by_cases hs2 : sp = 2
      · skip
        have HK24 : Hid (bits .and .u8 x0 24 = kv) := Lib.hid (by rw [← hkv]; unfold keptM; rw [if_neg (by have := HSX.out.1 hs2; omega)])
        subst hs2
        have hk := HK24.out
        clear hkv HKV
        by_cases hkz : kv = 0
        · have HUP : Hid (unpM ks km b largest has = (r.h, n, pl, 0)) := Lib.hid (by rw [HU.out, if_neg (by decide), if_neg (by simp [hkz])])
          subst hkz
          go_wp2_with (first | (refine wpList_load_mid rfl 32 _ rfl gh 0 rfl RW _ (rngL HGH.out) Try.underlying32 rfl (by rw [HRL.out]; rfl) ?_) | (refine wpList_store_row rfl 32 _ _ rfl gr rfl RW RZ rfl 32 HGR.out (HZL.out.trans HRL.out.symm) (by rw [HRL.out]; rfl) HRO.out ?_; intro w13 hr hg) | fail)
          have HB7 := Lib.hid (HB.out.grown hg HB.out.size (by intro k hk; injection hk with hk; subst hk; have := HG0.out; have := HLTgr.out; omega))
          have hgx := Lib.hid hg
          clear hg
          refine bodyPost_ret (results_cell4 (r := 8) (t := 9) (u := 10) (v := 11) rfl _ _ gr rfl RW _ _ hr Try.underlying32 rfl (by rw [HRL.out]; rfl)) rfl ?_
          rw [← HQQ.out]
          refine ⟨HB7.out, r.h, n, pl, 0, ha, tc, pa, pc, HUP.out, by rw [HVAL.out]; rfl, ?_, HH.out.1, ?_, HPC.out, HH.out.2.1, HH.out.2.2⟩
          · exact HKI.out.grown hgx.out (fun x hx e => by injection e with e; have h1 := HKB.out x hx; have h2 := HGS.out.1; omega)
          · exact HPI.out.grown hgx.out (fun x hx e => by injection e with e; have h1 := HPB.out x hx; have h2 := HGW.out; omega)
        · have HUP : Hid (unpM ks km b largest has = (zH, 0, [], 14)) := Lib.hid (by rw [HU.out, if_neg (by decide), if_pos hkz])
          have hkb0 : (kv == 0) = false := by simpa using hkz
          go_wp2_with (first | (refine wpList_store_row rfl 32 _ _ rfl gr rfl (.int .i64 0 :: .int .u8 0 :: .int .u8 0 :: .int .u8 0 :: .int .u8 0 :: .int .u8 0 :: .int .u8 0 :: .int .u8 0 :: .int .u8 0 :: .int .u8 0 :: .int .u8 0 :: .int .u8 0 :: .int .u8 0 :: .int .u8 0 :: .int .u8 0 :: .int .u8 0 :: .int .u8 0 :: .slice none 0 0 :: .int .i64 0 :: .bool false :: []) RZ rfl 32 HGR.out (by rw [HZL.out]; rfl) rfl (by decide) ?_; intro w14 hr hg) | fail)
          have HB7 := Lib.hid (HB.out.grown hg HB.out.size (by intro k hk; injection hk with hk; subst hk; have := HG0.out; have := HLTgr.out; omega))
          clear hg
          refine bodyPost_ret (results_cell4 (r := 8) (t := 9) (u := 10) (v := 11) rfl _ _ gr rfl (.int .i64 0 :: .int .u8 0 :: .int .u8 0 :: .int .u8 0 :: .int .u8 0 :: .int .u8 0 :: .int .u8 0 :: .int .u8 0 :: .int .u8 0 :: .int .u8 0 :: .int .u8 0 :: .int .u8 0 :: .int .u8 0 :: .int .u8 0 :: .int .u8 0 :: .int .u8 0 :: .int .u8 0 :: .slice none 0 0 :: .int .i64 0 :: .bool false :: []) _ _ hr Try.underlying32 rfl rfl) rfl ?_
          exact HQZ.out _ 14 HB7.out HUP.out
      · skip
        have HK12 : Hid (bits .and .u8 x0 12 = kv) := Lib.hid (by rw [← hkv]; unfold keptM; rw [if_pos (by have h : ¬ x0 / 128 % 2 = 0 := fun e => hs2 (HSX.out.2 e); omega)])
        have hk := HK12.out
        clear hkv HKV
        by_cases hkz : kv = 0
        · have HUP : Hid (unpM ks km b largest has = (r.h, n, pl, 0)) := Lib.hid (by rw [HU.out, if_neg (by decide), if_neg (by simp [hkz])])
          subst hkz
          go_wp2_with (first | (refine wpList_load_mid rfl 32 _ rfl gh 0 rfl RW _ (rngL HGH.out) Try.underlying32 rfl (by rw [HRL.out]; rfl) ?_) | (refine wpList_store_row rfl 32 _ _ rfl gr rfl RW RZ rfl 32 HGR.out (HZL.out.trans HRL.out.symm) (by rw [HRL.out]; rfl) HRO.out ?_; intro w15 hr hg) | fail)
          have HB7 := Lib.hid (HB.out.grown hg HB.out.size (by intro k hk; injection hk with hk; subst hk; have := HG0.out; have := HLTgr.out; omega))
          have hgx := Lib.hid hg
          clear hg
          refine bodyPost_ret (results_cell4 (r := 8) (t := 9) (u := 10) (v := 11) rfl _ _ gr rfl RW _ _ hr Try.underlying32 rfl (by rw [HRL.out]; rfl)) rfl ?_
          rw [← HQQ.out]
          refine ⟨HB7.out, r.h, n, pl, 0, ha, tc, pa, pc, HUP.out, by rw [HVAL.out]; rfl, ?_, HH.out.1, ?_, HPC.out, HH.out.2.1, HH.out.2.2⟩
          · exact HKI.out.grown hgx.out (fun x hx e => by injection e with e; have h1 := HKB.out x hx; have h2 := HGS.out.1; omega)
          · exact HPI.out.grown hgx.out (fun x hx e => by injection e with e; have h1 := HPB.out x hx; have h2 := HGW.out; omega)
        · have HUP : Hid (unpM ks km b largest has = (zH, 0, [], 14)) := Lib.hid (by rw [HU.out, if_neg (by decide), if_pos hkz])
          have hkb0 : (kv == 0) = false := by simpa using hkz
          go_wp2_with (first | (refine wpList_store_row rfl 32 _ _ rfl gr rfl (.int .i64 0 :: .int .u8 0 :: .int .u8 0 :: .int .u8 0 :: .int .u8 0 :: .int .u8 0 :: .int .u8 0 :: .int .u8 0 :: .int .u8 0 :: .int .u8 0 :: .int .u8 0 :: .int .u8 0 :: .int .u8 0 :: .int .u8 0 :: .int .u8 0 :: .int .u8 0 :: .int .u8 0 :: .slice none 0 0 :: .int .i64 0 :: .bool false :: []) RZ rfl 32 HGR.out (by rw [HZL.out]; rfl) rfl (by decide) ?_; intro w16 hr hg) | fail)
          have HB7 := Lib.hid (HB.out.grown hg HB.out.size (by intro k hk; injection hk with hk; subst hk; have := HG0.out; have := HLTgr.out; omega))
          clear hg
          refine bodyPost_ret (results_cell4 (r := 8) (t := 9) (u := 10) (v := 11) rfl _ _ gr rfl (.int .i64 0 :: .int .u8 0 :: .int .u8 0 :: .int .u8 0 :: .int .u8 0 :: .int .u8 0 :: .int .u8 0 :: .int .u8 0 :: .int .u8 0 :: .int .u8 0 :: .int .u8 0 :: .int .u8 0 :: .int .u8 0 :: .int .u8 0 :: .int .u8 0 :: .int .u8 0 :: .int .u8 0 :: .slice none 0 0 :: .int .i64 0 :: .bool false :: []) _ _ hr Try.underlying32 rfl rfl) rfl ?_
          exact HQZ.out _ 14 HB7.out HUP.out
end Go.Proofs.Ythofbckkjcidmaa
namespace Go.Proofs.Ythofbckkjcidmaa
open Go.RowKit
set_option linter.unusedVariables false
set_option linter.unusedSimpArgs false

theorem revM_wf {km : Int} {b : List Int} {r : Rv} (hw : ∀ x ∈ b, (Lit.int .u8 x).wf = true) (h : revM km b = some r) : (∀ x ∈ r.h.t, (Lit.int .u8 x).wf = true) ∧ (∀ x ∈ r.h.f, (Lit.int .u8 x).wf = true) := by
  unfold revM at h
  cases hp : parM b with
  | none => rw [hp] at h; cases h
  | some q =>
    obtain ⟨hd, at', en⟩ := q
    rw [hp] at h
    simp only [Option.some.injEq] at h
    have hq := parM_wf hw hp
    rw [← h]; exact hq
theorem unpM_wf {ks km largest : Int} {has : Bool} {b : List Int} {hd : Hd} {n err : Int} {pl : List Int} (hw : ∀ x ∈ b, (Lit.int .u8 x).wf = true) (h : unpM ks km b largest has = (hd, n, pl, err)) : (∀ x ∈ hd.t, (Lit.int .u8 x).wf = true) ∧ (∀ x ∈ hd.f, (Lit.int .u8 x).wf = true) := by
  have hz : (∀ x ∈ zH.t, (Lit.int .u8 x).wf = true) ∧ (∀ x ∈ zH.f, (Lit.int .u8 x).wf = true) := by decide
  unfold unpM at h
  cases hr : revM km b with
  | none => rw [hr] at h; simp only [Prod.mk.injEq] at h; rw [← h.1]; exact hz
  | some r =>
    rw [hr] at h
    simp only at h
    split at h
    · simp only [Prod.mk.injEq] at h; rw [← h.1]; exact hz
    · split at h
      · simp only [Prod.mk.injEq] at h; rw [← h.1]; exact hz
      · simp only [Prod.mk.injEq] at h; rw [← h.1]; exact revM_wf hw hr
set_option maxRecDepth 100000 in
theorem rkeysof_any (w : World) (secret : Int) : Makes Try.prog 16 #[.int .u64 secret] w (.agg #[.int .u64 (keyedM secret [115, 101, 97, 108]), .int .u64 (keyedM secret [109, 97, 115, 107])]) := by
  have HD1 := Lib.hid (fun w => rderive_any w secret ⟨#[115, 101, 97, 108]⟩ (by decide))
  have HD2 := Lib.hid (fun w => rderive_any w secret ⟨#[109, 97, 115, 107]⟩ (by decide))
  go_enter Try.func16, Try.ntmps16
  go_wp2_with fail
  refine Calls.mono (HD1.out _) ?_
  rintro e w2 ⟨rfl, hb⟩
  have HB := Lib.hid hb
  have hs := hb.size
  simp at hs
  have hrow := bl_row hb (by simp) (heap_alloc_new w _)
  have HROW := Lib.hid hrow
  have H2 := Lib.hid (((Below.refl w.heap.size w).alloc (Nat.le_refl _) (.cells #[.int .u64 0, .int .u64 0] 49)).trans (hb.mono (by simp)))
  clear hb hrow
  go_wp2_with fail
  refine Calls.mono (HD2.out _) ?_
  rintro e w3 ⟨rfl, hb3⟩
  have H3 := Lib.hid (bl_next H2.out (by omega) hb3)
  have hrow3 := bl_row hb3 (by omega) HROW.out
  have f0 := row_free hrow3 0
  have f1 := row_free hrow3 1
  have c0 : w3.cell? ⟨w.heap.size, 0, none⟩ = some (.int .u64 0) := row_cell hrow3 0 _ rfl
  have c1 : w3.cell? ⟨w.heap.size, 1, none⟩ = some (.int .u64 0) := row_cell hrow3 1 _ rfl
  have HROW3 := Lib.hid hrow3
  clear hb3 hrow3
  go_wp2_with fail
  have hA := ((At.base HROW3.out).set 0 (.int .u64 (keyedM secret (natsOf ⟨#[115, 101, 97, 108]⟩)))).set 1 (.int .u64 (keyedM secret (natsOf ⟨#[109, 97, 115, 107]⟩)))
  have hbl : Below w.heap.size w _ := (H3.out.setCell (p := ⟨w.heap.size, 0, none⟩) (Nat.le_refl _) (.int .u64 (keyedM secret (natsOf ⟨#[115, 101, 97, 108]⟩)))).setCell (p := ⟨w.heap.size, 1, none⟩) (Nat.le_refl _) (.int .u64 (keyedM secret (natsOf ⟨#[109, 97, 115, 107]⟩)))
  have hrow := hA.row
  generalize ((w3.setCell ⟨w.heap.size, 0, none⟩ (.int .u64 (keyedM secret (natsOf ⟨#[115, 101, 97, 108]⟩)))).setCell ⟨w.heap.size, 1, none⟩ (.int .u64 (keyedM secret (natsOf ⟨#[109, 97, 115, 107]⟩)))) = W at hrow hbl ⊢
  have d0 : W.cell? ⟨w.heap.size, 0, none⟩ = some (.int .u64 (keyedM secret (natsOf ⟨#[115, 101, 97, 108]⟩))) := row_cell hrow 0 _ rfl
  have d1 : W.cell? ⟨w.heap.size, 1, none⟩ = some (.int .u64 (keyedM secret (natsOf ⟨#[109, 97, 115, 107]⟩))) := row_cell hrow 1 _ rfl
  exact bodyPost_ret (v := .agg #[.int .u64 (keyedM secret (natsOf ⟨#[115, 101, 97, 108]⟩)), .int .u64 (keyedM secret (natsOf ⟨#[109, 97, 115, 107]⟩))]) (by simp [results, Try.results16, go_sem, d0, d1]) rfl ⟨rfl, hbl⟩
set_option maxRecDepth 100000 in
set_option maxHeartbeats 8000000 in
theorem protects_any (w : World) (ks km n : Int) (h : Hd) (a : Option Addr) (tc : Nat) (pa : Option Addr) (pl pc : Nat) (pls : List Int) (hk : h.ok) (hkl : h.k.length ≤ 1000000) (hIk : IntsK .u8 w a h.k.length h.k)
    (hw : -100 ≤ h.w ∧ h.w ≤ 100) (hn : 0 ≤ n ∧ n < 18446744073709551616) (hpl : pl ≤ 1000000) (hIp : IntsK .u8 w pa pl pls) :
    Makes Try.prog 17 #[.agg #[.int .u64 ks, .int .u64 km], h.val a tc, .int .u64 n, .slice pa pl pc] w (.bool true) := by
  have HI := Lib.hid hIp; have HIK := Lib.hid hIk
  have HP := Lib.hid (fun W hI hJ => protect_any W ks km n h a tc pa pl pc pls hk hkl hI hw hn hpl hJ)
  have HR := Lib.hid (fun W hI hJ => rprotect_any W ks km n h a tc pa pl pc pls hk hkl hI hw hn hpl hJ)
  have HRL := Lib.hid (row_len20 h a tc hk)
  have HEV : Hid (h.val a tc = .agg (h.row a tc).toArray) := Lib.hid rfl
  rw [HEV.out] at HP HR ⊢
  obtain ⟨RW, hRW⟩ : ∃ RW, h.row a tc = RW := ⟨_, rfl⟩
  rw [hRW] at HP HR HRL ⊢
  clear hIp hIk hk hkl hRW HEV hw
  go_enter Try.func17, Try.ntmps17
  go_upto_region 1 with fail
  change Code.wp _ _ _ _ ((w.alloc (.cells ([.int .u64 ks, .int .u64 km] : List Value).toArray 49)).alloc (.cells RW.toArray 32))
  have HB := Lib.hid (Below.refl w.heap.size w)
  obtain ⟨gk, hg0⟩ : ∃ g, w.heap.size = g := ⟨_, rfl⟩
  try rw [hg0]
  have hb := (Below.refl w.heap.size w).alloc (Nat.le_refl _) (.cells ([.int .u64 ks, .int .u64 km] : List Value).toArray 49)
  have hrw := heap_alloc_new w (.cells ([.int .u64 ks, .int .u64 km] : List Value).toArray 49)
  have hsz : (w.alloc (.cells ([.int .u64 ks, .int .u64 km] : List Value).toArray 49)).heap.size = gk + 1 := by simp [hg0]
  rw [hg0] at hrw
  replace HB := Lib.hid (bl_next HB.out HB.out.size hb)
  have HGK := Lib.hid hrw
  clear hb hrw
  generalize w.alloc (.cells ([.int .u64 ks, .int .u64 km] : List Value).toArray 49) = w1 at HB HGK hsz ⊢
  have hg1 := hsz
  clear hsz
  have HG0 := Lib.hid hg0
  clear hg0
  have hb := (Below.refl w1.heap.size w1).alloc (Nat.le_refl _) (.cells RW.toArray 32)
  have hrw := heap_alloc_new w1 (.cells RW.toArray 32)
  have hsz : (w1.alloc (.cells RW.toArray 32)).heap.size = gk + 1 + 1 := by simp [hg1]
  rw [hg1] at hrw
  replace HB := Lib.hid (bl_next HB.out HB.out.size hb)
  replace HGK := Lib.hid (bl_row hb (lt_of_block HGK.out) HGK.out)
  have HGH := Lib.hid hrw
  clear hb hrw
  generalize w1.alloc (.cells RW.toArray 32) = w2 at HB HGK HGH hsz ⊢
  have hg2 := hsz
  clear hsz
  clear hg1
  obtain ⟨gh, hgg⟩ : ∃ g, gk + 1 = g := ⟨_, rfl⟩
  rw [hgg] at HGH hg2 ⊢
  have HLTgh : Hid (gk < gh) := Lib.hid (by omega)
  clear hgg
  clear hg2
  have HKL : Hid (([.int .u64 ks, .int .u64 km] : List Value).length = 2) := Lib.hid rfl
  have c0 := cell_row HGK.out 0 _ rfl
  have c1 := cell_row HGK.out 1 _ rfl
  go_wp2_with (first | (refine wpList_load_mid rfl 32 _ rfl gh 0 rfl RW _ (rngL HGH.out) Try.underlying32 rfl (by rw [HRL.out]; rfl) ?_) | fail)
  refine Calls.mono (HP.out _ (HIK.out.below HB.out) (HI.out.below HB.out)) ?_
  rintro e w3 ⟨hb, hcase⟩
  replace HB := Lib.hid (bl_next HB.out HB.out.size hb)
  replace HGK := Lib.hid (bl_row hb (lt_of_block HGK.out) HGK.out)
  replace HGH := Lib.hid (bl_row hb (lt_of_block HGH.out) HGH.out)
  clear hb c0 c1 HP
  rcases hcase with ⟨hpn, rfl⟩ | ⟨b, a1, c1, hpy, rfl, hlc, hcm, hib⟩
  · skip
    have HPN := Lib.hid hpn; clear hpn
    go_wp2_with (first | (refine wpList_load_mid rfl 49 _ rfl gk 0 rfl [.int .u64 ks, .int .u64 km] _ (rngL HGK.out) Try.underlying49 rfl (by rw [HKL.out]; rfl) ?_) | (refine wpList_load_mid rfl 32 _ rfl gh 0 rfl RW _ (rngL HGH.out) Try.underlying32 rfl (by rw [HRL.out]; rfl) ?_) | fail)
    refine Calls.mono (HR.out _ (HIK.out.below HB.out) (HI.out.below HB.out)) ?_
    rintro e w4 ⟨hb, hcase⟩
    replace HB := Lib.hid (bl_next HB.out HB.out.size hb)
    replace HGK := Lib.hid (bl_row hb (lt_of_block HGK.out) HGK.out)
    replace HGH := Lib.hid (bl_row hb (lt_of_block HGH.out) HGH.out)
    clear hb HR
    rcases hcase with ⟨_, rfl⟩ | ⟨b, _, _, hpy, _⟩
    rotate_left
    · rw [HPN.out] at hpy; cases hpy
    have q1 : (convert 23 9 (.slice none 0 0)).run Try.prog w4 = .ok (.string (strOfNums [])) w4 := conv_ints _ 5 _ _ Try.underlying23 Try.underlying5 Try.underlying9 (IntsK.nil _ _ _)
    go_wp2_with fail
    go_ret
    exact ⟨rfl, HB.out⟩
  · skip
    have HPY := Lib.hid hpy; have HIB := Lib.hid hib; clear hpy hib
    go_wp2_with (first | (refine wpList_load_mid rfl 49 _ rfl gk 0 rfl [.int .u64 ks, .int .u64 km] _ (rngL HGK.out) Try.underlying49 rfl (by rw [HKL.out]; rfl) ?_) | (refine wpList_load_mid rfl 32 _ rfl gh 0 rfl RW _ (rngL HGH.out) Try.underlying32 rfl (by rw [HRL.out]; rfl) ?_) | fail)
    refine Calls.mono (HR.out _ (HIK.out.below HB.out) (HI.out.below HB.out)) ?_
    rintro e w14 ⟨hb, hcase⟩
    replace HB := Lib.hid (bl_next HB.out HB.out.size hb)
    replace HGK := Lib.hid (bl_row hb (lt_of_block HGK.out) HGK.out)
    replace HGH := Lib.hid (bl_row hb (lt_of_block HGH.out) HGH.out)
    replace HIB := Lib.hid (HIB.out.below hb)
    clear hb HR
    rcases hcase with ⟨hpn, _⟩ | ⟨b2, g2, c2, hpy, rfl, hwf2, ho2⟩
    · rw [HPY.out] at hpn; cases hpn
    obtain rfl : b = b2 := by have := HPY.out.symm.trans hpy; injection this
    obtain ⟨xa, xc, ex, _, hxi, _⟩ := ints_of_own ho2 hwf2
    injection ex with e1 e2 e3
    subst e1; subst e3
    have HXI := Lib.hid hxi
    clear hpy hwf2 ho2 hxi e2
    have q1 : (convert 23 9 (.slice a1 b.length c1)).run Try.prog w14 = .ok (.string (strOfNums b)) w14 := conv_ints _ 5 _ _ Try.underlying23 Try.underlying5 Try.underlying9 HIB.out
    have q2 : (convert 23 9 (.slice (some ⟨g2, 0, none⟩) b.length c2)).run Try.prog w14 = .ok (.string (strOfNums b)) w14 := conv_ints _ 5 _ _ Try.underlying23 Try.underlying5 Try.underlying9 HXI.out
    generalize strOfNums b = sb at q1 q2
    go_wp2_with fail
    go_ret
    exact ⟨rfl, HB.out⟩
end Go.Proofs.Ythofbckkjcidmaa
namespace Go.Proofs.Ythofbckkjcidmaa
open Go.RowKit
set_option linter.unusedVariables false
set_option linter.unusedSimpArgs false

set_option maxRecDepth 100000 in
set_option maxHeartbeats 4000000 in
theorem opens_r8 {x0 x1 x2 x3 x4 x5 x6 x7 x9 x23 x24 x28 x29 x32 x33 x34 x35 x36 x37 x38 x39 x40 x41 x42 x43 x44 x45 x46 x47 x48 x49 x50 x51 x52 x53 x54 x55 x56 x57 x58 x59 x60 x61 x62 x63 x64 x65 x66 x67 x68 x69 x70 x71 x72 x73 x74 x75 x76 x77 x78 x79 x80 x81 x82 x83 x84 x85 x86 x87 x88 x89 x90 x91 x92 x93 x94 x95 x96 x97 x98 x99 x100 x101 x102 x103 x104 x105 x106 x107 x108 x109 x110 x111 x112 x113 x114 x115 x116 x117 x118 x119 x120 x121 x122 x123 x124 x125 x126 x127 x128 x129 x130 x131 x132 x133 x134 x135 x136 x137 : Value} {g1 g2 g3 g4 pc1 pc2 : Nat} {pa1 pa2 : Option Addr} {n1 er m3 e3 xc : Int} {ok yc : Bool} {pl : List Int} {RW1 RW2 RW3 RW4 : List Value} (w : World) {Q : Exit → Act → World → Prop}
    (hok : (e3 = 0 ∧ ok = true) ∨ (e3 = 12 ∧ ok = false))  (HG1 : Hid (w.heap[g1]? = some (.cells RW1.toArray 32 (0, 0)))) (HRL1 : Hid (RW1.length = 20)) (HG2 : Hid (w.heap[g2]? = some (.cells RW2.toArray 32 (0, 0)))) (HRL2 : Hid (RW2.length = 20)) (HG3 : Hid (w.heap[g3]? = some (.cells RW3.toArray 32 (0, 0)))) (HRL3 : Hid (RW3.length = 20)) (HG4 : Hid (w.heap[g4]? = some (.cells RW4.toArray 32 (0, 0)))) (HRL4 : Hid (RW4.length = 20)) (HIP1 : Hid (IntsK .u8 w pa1 pl.length pl)) (HIP2 : Hid (IntsK .u8 w pa2 pl.length pl)) (HS1 : Hid (∀ W', Below w.heap.size w W' → Makes Try.prog 13 #[.agg RW1.toArray, .agg RW2.toArray] W' (.bool true))) (HS2 : Hid (∀ W', Below w.heap.size w W' → Makes Try.prog 13 #[.agg RW3.toArray, .agg RW4.toArray] W' (.bool true)))
    (hQp : ∀ c a d v w, Q (.panic c) (a.put d v) w → Q (.panic c) a w)
    (hQ : ∀ (y85 y86 y87 y88 y89 y90 y91 y92 y93 y94 y95 y96 y97 y98 y99 y100 y101 y102 y103 y104 y105 y106 y107 y108 y109 y110 y111 y112 y113 y114 y115 y116 y117 y118 y119 y120 y121 y122 y123 y124 y125 y126 y127 y128 y129 y130 y131 y132 y133 y134 y135 y136 y137 : Value) (w' : World), Below w.heap.size w w' → Q .normal ⟨List.toArray (x0 :: x1 :: x2 :: x3 :: x4 :: x5 :: x6 :: x7 :: .bool true :: x9 :: .pointer (some ⟨g1, 0, none⟩) :: .int .u64 n1 :: .slice pa1 pl.length pc1 :: .int .i64 er :: .pointer (some ⟨g2, 0, none⟩) :: .int .u64 n1 :: .slice pa2 pl.length pc2 :: .int .i64 er :: .pointer (some ⟨g3, 0, none⟩) :: .int .u32 m3 :: .int .i64 e3 :: .pointer (some ⟨g4, 0, none⟩) :: .int .u32 m3 :: x23 :: x24 :: .bool ok :: .int .i64 xc :: .bool yc :: x28 :: x29 :: .int .i64 xc :: .bool yc :: x32 :: x33 :: x34 :: x35 :: x36 :: x37 :: x38 :: x39 :: x40 :: x41 :: x42 :: x43 :: x44 :: x45 :: x46 :: x47 :: x48 :: x49 :: x50 :: x51 :: x52 :: x53 :: x54 :: x55 :: x56 :: x57 :: x58 :: x59 :: x60 :: x61 :: x62 :: x63 :: x64 :: x65 :: x66 :: x67 :: x68 :: x69 :: x70 :: x71 :: x72 :: x73 :: x74 :: x75 :: x76 :: x77 :: x78 :: x79 :: x80 :: x81 :: x82 :: x83 :: x84 :: y85 :: y86 :: y87 :: y88 :: y89 :: y90 :: y91 :: y92 :: y93 :: y94 :: y95 :: y96 :: y97 :: y98 :: y99 :: y100 :: y101 :: y102 :: y103 :: y104 :: y105 :: y106 :: y107 :: y108 :: y109 :: y110 :: y111 :: y112 :: y113 :: y114 :: y115 :: y116 :: y117 :: y118 :: y119 :: y120 :: y121 :: y122 :: y123 :: y124 :: y125 :: y126 :: y127 :: y128 :: y129 :: y130 :: y131 :: y132 :: y133 :: y134 :: y135 :: y136 :: y137 :: []), []⟩ w') :
    Code.wp Try.prog (((Try.f19.body.bind (subRegion 8)).getD .skip)) Q ⟨List.toArray (x0 :: x1 :: x2 :: x3 :: x4 :: x5 :: x6 :: x7 :: .bool false :: x9 :: .pointer (some ⟨g1, 0, none⟩) :: .int .u64 n1 :: .slice pa1 pl.length pc1 :: .int .i64 er :: .pointer (some ⟨g2, 0, none⟩) :: .int .u64 n1 :: .slice pa2 pl.length pc2 :: .int .i64 er :: .pointer (some ⟨g3, 0, none⟩) :: .int .u32 m3 :: .int .i64 e3 :: .pointer (some ⟨g4, 0, none⟩) :: .int .u32 m3 :: x23 :: x24 :: .bool ok :: .int .i64 xc :: .bool yc :: x28 :: x29 :: .int .i64 xc :: .bool yc :: x32 :: x33 :: x34 :: x35 :: x36 :: x37 :: x38 :: x39 :: x40 :: x41 :: x42 :: x43 :: x44 :: x45 :: x46 :: x47 :: x48 :: x49 :: x50 :: x51 :: x52 :: x53 :: x54 :: x55 :: x56 :: x57 :: x58 :: x59 :: x60 :: x61 :: x62 :: x63 :: x64 :: x65 :: x66 :: x67 :: x68 :: x69 :: x70 :: x71 :: x72 :: x73 :: x74 :: x75 :: x76 :: x77 :: x78 :: x79 :: x80 :: x81 :: x82 :: x83 :: x84 :: x85 :: x86 :: x87 :: x88 :: x89 :: x90 :: x91 :: x92 :: x93 :: x94 :: x95 :: x96 :: x97 :: x98 :: x99 :: x100 :: x101 :: x102 :: x103 :: x104 :: x105 :: x106 :: x107 :: x108 :: x109 :: x110 :: x111 :: x112 :: x113 :: x114 :: x115 :: x116 :: x117 :: x118 :: x119 :: x120 :: x121 :: x122 :: x123 :: x124 :: x125 :: x126 :: x127 :: x128 :: x129 :: x130 :: x131 :: x132 :: x133 :: x134 :: x135 :: x136 :: x137 :: []), []⟩ w := by
  have HK := Lib.hid hQ; have HKP := Lib.hid hQp
  clear hQ hQp
  conv => arg 2; whnf
  have HB : Hid (Below w.heap.size w w) := Lib.hid (Below.refl _ _)
  have q1 : (convert 23 9 (.slice pa1 pl.length pc1)).run Try.prog w = .ok (.string (strOfNums pl)) w := conv_ints _ 5 _ _ Try.underlying23 Try.underlying5 Try.underlying9 HIP1.out
  go_wp2_with (first | (refine wpList_load_g 32 _ rfl (by kernel_rfl) g1 0 rfl RW1 _ (rngL HG1.out) Try.underlying32 rfl (by rw [HRL1.out]; rfl) ?_) | (refine wpList_load_g 32 _ rfl (by kernel_rfl) g2 0 rfl RW2 _ (rngL HG2.out) Try.underlying32 rfl (by rw [HRL2.out]; rfl) ?_) | fail)
  refine Calls.mono (HS1.out _ (Below.refl _ _)) ?_
  rintro e w1 ⟨rfl, hb⟩
  replace HB := Lib.hid (bl_next HB.out HB.out.size hb)
  replace HIP1 := Lib.hid (HIP1.out.below hb)
  replace HIP2 := Lib.hid (HIP2.out.below hb)
  replace HG1 := Lib.hid (bl_row hb (lt_of_block HG1.out) HG1.out)
  replace HG2 := Lib.hid (bl_row hb (lt_of_block HG2.out) HG2.out)
  replace HG3 := Lib.hid (bl_row hb (lt_of_block HG3.out) HG3.out)
  replace HG4 := Lib.hid (bl_row hb (lt_of_block HG4.out) HG4.out)
  clear hb HS1 q1
  have q1 : (convert 23 9 (.slice pa1 pl.length pc1)).run Try.prog w1 = .ok (.string (strOfNums pl)) w1 := conv_ints _ 5 _ _ Try.underlying23 Try.underlying5 Try.underlying9 HIP1.out
  have q2 : (convert 23 9 (.slice pa2 pl.length pc2)).run Try.prog w1 = .ok (.string (strOfNums pl)) w1 := conv_ints _ 5 _ _ Try.underlying23 Try.underlying5 Try.underlying9 HIP2.out
  generalize strOfNums pl = sb at q1 q2
  rcases hok with ⟨rfl, rfl⟩ | ⟨rfl, rfl⟩
  · skip
    go_wp2_with (first | (refine wpList_load_g 32 _ rfl (by kernel_rfl) g3 0 rfl RW3 _ (rngL HG3.out) Try.underlying32 rfl (by rw [HRL3.out]; rfl) ?_) | (refine wpList_load_g 32 _ rfl (by kernel_rfl) g4 0 rfl RW4 _ (rngL HG4.out) Try.underlying32 rfl (by rw [HRL4.out]; rfl) ?_) | fail)
    refine Calls.mono (HS2.out _ HB.out) ?_
    rintro e w2 ⟨rfl, hb⟩
    replace HB := Lib.hid (bl_next HB.out HB.out.size hb)
    replace HIP1 := Lib.hid (HIP1.out.below hb)
    replace HIP2 := Lib.hid (HIP2.out.below hb)
    replace HG1 := Lib.hid (bl_row hb (lt_of_block HG1.out) HG1.out)
    replace HG2 := Lib.hid (bl_row hb (lt_of_block HG2.out) HG2.out)
    replace HG3 := Lib.hid (bl_row hb (lt_of_block HG3.out) HG3.out)
    replace HG4 := Lib.hid (bl_row hb (lt_of_block HG4.out) HG4.out)
    clear hb q1 q2 HS2
    go_wp2_with fail
    exact HK.out _ _ _ _ _ _ _ _ _ _ _ _ _ _ _ _ _ _ _ _ _ _ _ _ _ _ _ _ _ _ _ _ _ _ _ _ _ _ _ _ _ _ _ _ _ _ _ _ _ _ _ _ _ _ HB.out
  · skip
    go_wp2_with (first | (refine wpList_load_g 32 _ rfl (by kernel_rfl) g3 0 rfl RW3 _ (rngL HG3.out) Try.underlying32 rfl (by rw [HRL3.out]; rfl) ?_) | (refine wpList_load_g 32 _ rfl (by kernel_rfl) g4 0 rfl RW4 _ (rngL HG4.out) Try.underlying32 rfl (by rw [HRL4.out]; rfl) ?_) | fail)
    refine Calls.mono (HS2.out _ HB.out) ?_
    rintro e w12 ⟨rfl, hb⟩
    replace HB := Lib.hid (bl_next HB.out HB.out.size hb)
    replace HIP1 := Lib.hid (HIP1.out.below hb)
    replace HIP2 := Lib.hid (HIP2.out.below hb)
    replace HG1 := Lib.hid (bl_row hb (lt_of_block HG1.out) HG1.out)
    replace HG2 := Lib.hid (bl_row hb (lt_of_block HG2.out) HG2.out)
    replace HG3 := Lib.hid (bl_row hb (lt_of_block HG3.out) HG3.out)
    replace HG4 := Lib.hid (bl_row hb (lt_of_block HG4.out) HG4.out)
    clear hb q1 q2 HS2
    go_wp2_with fail
    exact HK.out _ _ _ _ _ _ _ _ _ _ _ _ _ _ _ _ _ _ _ _ _ _ _ _ _ _ _ _ _ _ _ _ _ _ _ _ _ _ _ _ _ _ _ _ _ _ _ _ _ _ _ _ _ _ HB.out
end Go.Proofs.Ythofbckkjcidmaa
