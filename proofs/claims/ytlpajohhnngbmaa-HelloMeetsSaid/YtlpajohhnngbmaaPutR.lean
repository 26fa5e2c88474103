/- contract of bits' reference: Put. -/
import Derived.Test.YtlpajohhnngbmaaPut
namespace Go.Proofs.Ytlpajohhnngbmaa
open Go.RowKit
set_option linter.unusedVariables false

theorem or_u8 (x y : Int) (i : Nat) (hy : y % 2 ^ i = 0) (h0 : 0 ≤ x) (h1 : x < 2 ^ i) (h2 : 0 ≤ y) (h3 : x < 256) (h4 : y < 256) : bits .or .u8 x y = x + y := by
  rw [u8_or _ _ h0 h3 h2 h4, Nat.or_comm]
  have e : ((2 ^ i : Nat) : Int) = (2 : Int) ^ i := by simp
  rw [nat_join i y.toNat x.toNat (by
    have h6 : ((y.toNat : Int)) % ((2 ^ i : Nat) : Int) = 0 := by rw [Int.toNat_of_nonneg h2, e]; exact hy
    exact_mod_cast h6) (by
    have h7 : ((x.toNat : Int)) < ((2 ^ i : Nat) : Int) := by rw [Int.toNat_of_nonneg h0, e]; exact h1
    exact_mod_cast h7)]
  omega

theorem putM_at {n : Int} {s j : Nat} (es : sizeM n = s) (hs : s = 1 ∨ s = 2 ∨ s = 4 ∨ s = 8) (hj : 1 ≤ j) (h : j < s) : (putM n)[j]? = some (n / 2 ^ (8 * (s - 1 - j)) % 256) := by
  rcases hs with rfl | rfl | rfl | rfl
  · omega
  · obtain rfl : j = 1 := by omega
    simp [putM, es]
  · have hc : j = 1 ∨ j = 2 ∨ j = 3 := by omega
    rcases hc with rfl | rfl | rfl <;> simp [putM, es]
  · have hc : j = 1 ∨ j = 2 ∨ j = 3 ∨ j = 4 ∨ j = 5 ∨ j = 6 ∨ j = 7 := by omega
    rcases hc with rfl | rfl | rfl | rfl | rfl | rfl | rfl <;> simp [putM, es]
theorem take_snoc {α : Type} {l : List α} {j : Nat} {x : α} (h : l[j]? = some x) : l.take j ++ [x] = l.take (j + 1) := by
  rw [List.take_add_one, h]; rfl

set_option maxRecDepth 100000 in
set_option maxHeartbeats 1000000 in
theorem rput_any (w : World) (a : Option Addr) (len cap : Nat) (bs : List Int) (n : Int) (hn : 0 ≤ n ∧ n ≤ 4611686018427387903) (hlen : len + 8 ≤ 140737488355328) (hI : IntsK .u8 w a len bs) :
    Calls Try.prog 46 #[.slice a len cap, .int .u64 n] w fun e w' => ∃ v, e = .returned v ∧ Below w.heap.size w w' ∧
      w'.ownsRow w.heap.size 5 1 v (len + sizeM n) ((bs ++ putM n).map (Value.int .u8)) := by
  have HI := Lib.hid hI; clear hI
  have hsz := sizeM_cases n
  obtain ⟨s, es⟩ : ∃ s, sizeM n = s := ⟨_, rfl⟩
  have hputl := putM_len n
  rw [es] at hputl hsz
  have ES := Lib.hid es; clear es
  have hn1 := hn.1
  have hs : s = 1 ∨ s = 2 ∨ s = 4 ∨ s = 8 := by omega
  go_enter Try.func46, Try.ntmps46
  go_wp2_with fail
  refine Calls.mono (rsize_any _ n) ?_
  rintro e w' ⟨rfl, rfl⟩
  rw [ES.out]
  go_wp2_with (first | (at_builtin; refine wpList_append_bytes rfl _ _ rfl w'.heap.size 0 (.slice (some ⟨w'.heap.size, 0, none⟩) 0 0) [] rfl (World.ownsRow_made _ _ _ (Nat.le_refl _) (by unfold maxLen; omega) (by rfl)) _ _ _ _ rfl (HI.out.below ((Below.refl _ _).alloc (Nat.le_refl _) _)) (by omega) (by simp) ?_; intro v1 w1 hown1 hgrow1; have HO := Lib.hid hown1; have HL := Lib.hid (((Below.refl w'.heap.size w').alloc (Nat.le_refl _) _).grown hgrow1 (by simp) (by intro k hk; simp [Value.ownBlock] at hk; omega)); clear hown1 hgrow1) | fail)
  have HO0 : Hid (w1.ownsRow w'.heap.size 5 1 v1 (len + 0) ((bs ++ (putM n).take 0).map (Value.int .u8))) := Lib.hid (by simpa using HO.out)
  have hl : bs.length = len := HI.out.1
  clear HO
  go_loopw [6, 7] (fun s6 s7 wr => ∃ (j : Nat), s7 = .int .i64 j ∧ j ≤ s ∧ Hid (Below w'.heap.size w' wr) ∧ Hid (wr.ownsRow w'.heap.size 5 1 s6 (len + j) ((bs ++ (putM n).take j).map (Value.int .u8)))) (fun _ s7 _ => s - (intOf s7).toNat)
  case atStart => exact ⟨0, rfl, by omega, HL, HO0⟩
  case round =>
    clear HO0 HL
    obtain ⟨j, rfl, hj, HL, HO⟩ := hrel
    have hm := HL.out.size
    by_cases hlt : j < s
    · by_cases hj0 : j = 0
      · subst hj0
        rcases hs with rfl | rfl | rfl | rfl
        · have HX : Hid (bits .or .u8 (n) 0 = n) := Lib.hid (by rw [or_u8 _ _ 6 (by decide) (by omega) (by rw [show (2 : Int) ^ 6 = 64 from by decide]; omega) (by omega) (by omega) (by omega)]; try omega)
          have HP : Hid ((putM n)[0]? = some (n)) := Lib.hid (by simp [putM, ES.out])
          have HWF := Lib.hid (putM_wf n hn.1 _ (List.mem_of_getElem? HP.out))
          go_upto_region 9 with fail
          rw [HX.out]
          have HO2 := Lib.hid (own_below HO.out ((Below.refl _ _).alloc (Nat.le_refl _) (.cells #[.int .u8 0, .int .u8 0, .int .u8 64, .int .u8 0, .int .u8 128, .int .u8 0, .int .u8 0, .int .u8 0, .int .u8 192] 5)))
          have HL2 := Lib.hid (HL.out.alloc HL.out.size (.cells #[.int .u8 0, .int .u8 0, .int .u8 64, .int .u8 0, .int .u8 128, .int .u8 0, .int .u8 0, .int .u8 0, .int .u8 192] 5))
          clear HO HL hm
          generalize wr.alloc (.cells #[.int .u8 0, .int .u8 0, .int .u8 64, .int .u8 0, .int .u8 128, .int .u8 0, .int .u8 0, .int .u8 0, .int .u8 192] 5) = W1 at HO2 HL2 ⊢
          have hm := HL2.out.size
          go_wp2_with (first | (at_builtin; refine wpList_append_bytes rfl _ _ rfl w'.heap.size _ _ _ rfl (own_below HO2.out ((Below.refl _ _).alloc (Nat.le_refl _) _)) _ _ _ _ rfl (ints_made _ _ HWF.out) (by omega) (by simp; omega) ?_; intro v3 w3 hown3 hgrow3; have HO3 := Lib.hid hown3; have HL3 := Lib.hid ((HL2.out.alloc HL2.out.size _).grown hgrow3 (by simp; omega) (own_base HO2.out)); clear hown3 hgrow3) | fail)
          have HO4 : Hid (w3.ownsRow w'.heap.size 5 1 v3 (len + (0 + 1)) ((bs ++ (putM n).take (0 + 1)).map (Value.int .u8))) := Lib.hid (by
            have h := HO3.out
            rw [List.append_assoc, take_snoc HP.out] at h
            exact h)
          clear HO3 HO2 HL2 hm
          go_roundw
          case rel => exact ⟨1, rfl, by omega, Lib.hid (by have h := HO4.out; simpa using h)⟩
          case measure => simp [intOf]
        · have HX : Hid (bits .or .u8 (n / 256) 64 = n / 256 + 64) := Lib.hid (by rw [or_u8 _ _ 6 (by decide) (by omega) (by rw [show (2 : Int) ^ 6 = 64 from by decide]; omega) (by omega) (by omega) (by omega)]; try omega)
          have HP : Hid ((putM n)[0]? = some (n / 256 + 64)) := Lib.hid (by simp [putM, ES.out])
          have HWF := Lib.hid (putM_wf n hn.1 _ (List.mem_of_getElem? HP.out))
          go_upto_region 9 with fail
          rw [HX.out]
          have HO2 := Lib.hid (own_below HO.out ((Below.refl _ _).alloc (Nat.le_refl _) (.cells #[.int .u8 0, .int .u8 0, .int .u8 64, .int .u8 0, .int .u8 128, .int .u8 0, .int .u8 0, .int .u8 0, .int .u8 192] 5)))
          have HL2 := Lib.hid (HL.out.alloc HL.out.size (.cells #[.int .u8 0, .int .u8 0, .int .u8 64, .int .u8 0, .int .u8 128, .int .u8 0, .int .u8 0, .int .u8 0, .int .u8 192] 5))
          clear HO HL hm
          generalize wr.alloc (.cells #[.int .u8 0, .int .u8 0, .int .u8 64, .int .u8 0, .int .u8 128, .int .u8 0, .int .u8 0, .int .u8 0, .int .u8 192] 5) = W1 at HO2 HL2 ⊢
          have hm := HL2.out.size
          go_wp2_with (first | (at_builtin; refine wpList_append_bytes rfl _ _ rfl w'.heap.size _ _ _ rfl (own_below HO2.out ((Below.refl _ _).alloc (Nat.le_refl _) _)) _ _ _ _ rfl (ints_made _ _ HWF.out) (by omega) (by simp; omega) ?_; intro v3 w3 hown3 hgrow3; have HO3 := Lib.hid hown3; have HL3 := Lib.hid ((HL2.out.alloc HL2.out.size _).grown hgrow3 (by simp; omega) (own_base HO2.out)); clear hown3 hgrow3) | fail)
          have HO4 : Hid (w3.ownsRow w'.heap.size 5 1 v3 (len + (0 + 1)) ((bs ++ (putM n).take (0 + 1)).map (Value.int .u8))) := Lib.hid (by
            have h := HO3.out
            rw [List.append_assoc, take_snoc HP.out] at h
            exact h)
          clear HO3 HO2 HL2 hm
          go_roundw
          case rel => exact ⟨1, rfl, by omega, Lib.hid (by have h := HO4.out; simpa using h)⟩
          case measure => simp [intOf]
        · have HX : Hid (bits .or .u8 (n / 16777216) 128 = n / 16777216 + 128) := Lib.hid (by rw [or_u8 _ _ 6 (by decide) (by omega) (by rw [show (2 : Int) ^ 6 = 64 from by decide]; omega) (by omega) (by omega) (by omega)]; try omega)
          have HP : Hid ((putM n)[0]? = some (n / 16777216 + 128)) := Lib.hid (by simp [putM, ES.out])
          have HWF := Lib.hid (putM_wf n hn.1 _ (List.mem_of_getElem? HP.out))
          go_upto_region 9 with fail
          rw [HX.out]
          have HO2 := Lib.hid (own_below HO.out ((Below.refl _ _).alloc (Nat.le_refl _) (.cells #[.int .u8 0, .int .u8 0, .int .u8 64, .int .u8 0, .int .u8 128, .int .u8 0, .int .u8 0, .int .u8 0, .int .u8 192] 5)))
          have HL2 := Lib.hid (HL.out.alloc HL.out.size (.cells #[.int .u8 0, .int .u8 0, .int .u8 64, .int .u8 0, .int .u8 128, .int .u8 0, .int .u8 0, .int .u8 0, .int .u8 192] 5))
          clear HO HL hm
          generalize wr.alloc (.cells #[.int .u8 0, .int .u8 0, .int .u8 64, .int .u8 0, .int .u8 128, .int .u8 0, .int .u8 0, .int .u8 0, .int .u8 192] 5) = W1 at HO2 HL2 ⊢
          have hm := HL2.out.size
          go_wp2_with (first | (at_builtin; refine wpList_append_bytes rfl _ _ rfl w'.heap.size _ _ _ rfl (own_below HO2.out ((Below.refl _ _).alloc (Nat.le_refl _) _)) _ _ _ _ rfl (ints_made _ _ HWF.out) (by omega) (by simp; omega) ?_; intro v3 w3 hown3 hgrow3; have HO3 := Lib.hid hown3; have HL3 := Lib.hid ((HL2.out.alloc HL2.out.size _).grown hgrow3 (by simp; omega) (own_base HO2.out)); clear hown3 hgrow3) | fail)
          have HO4 : Hid (w3.ownsRow w'.heap.size 5 1 v3 (len + (0 + 1)) ((bs ++ (putM n).take (0 + 1)).map (Value.int .u8))) := Lib.hid (by
            have h := HO3.out
            rw [List.append_assoc, take_snoc HP.out] at h
            exact h)
          clear HO3 HO2 HL2 hm
          go_roundw
          case rel => exact ⟨1, rfl, by omega, Lib.hid (by have h := HO4.out; simpa using h)⟩
          case measure => simp [intOf]
        · have HX : Hid (bits .or .u8 (n / 72057594037927936) 192 = n / 72057594037927936 + 192) := Lib.hid (by rw [or_u8 _ _ 6 (by decide) (by omega) (by rw [show (2 : Int) ^ 6 = 64 from by decide]; omega) (by omega) (by omega) (by omega)]; try omega)
          have HP : Hid ((putM n)[0]? = some (n / 72057594037927936 + 192)) := Lib.hid (by simp [putM, ES.out])
          have HWF := Lib.hid (putM_wf n hn.1 _ (List.mem_of_getElem? HP.out))
          go_upto_region 9 with fail
          rw [HX.out]
          have HO2 := Lib.hid (own_below HO.out ((Below.refl _ _).alloc (Nat.le_refl _) (.cells #[.int .u8 0, .int .u8 0, .int .u8 64, .int .u8 0, .int .u8 128, .int .u8 0, .int .u8 0, .int .u8 0, .int .u8 192] 5)))
          have HL2 := Lib.hid (HL.out.alloc HL.out.size (.cells #[.int .u8 0, .int .u8 0, .int .u8 64, .int .u8 0, .int .u8 128, .int .u8 0, .int .u8 0, .int .u8 0, .int .u8 192] 5))
          clear HO HL hm
          generalize wr.alloc (.cells #[.int .u8 0, .int .u8 0, .int .u8 64, .int .u8 0, .int .u8 128, .int .u8 0, .int .u8 0, .int .u8 0, .int .u8 192] 5) = W1 at HO2 HL2 ⊢
          have hm := HL2.out.size
          go_wp2_with (first | (at_builtin; refine wpList_append_bytes rfl _ _ rfl w'.heap.size _ _ _ rfl (own_below HO2.out ((Below.refl _ _).alloc (Nat.le_refl _) _)) _ _ _ _ rfl (ints_made _ _ HWF.out) (by omega) (by simp; omega) ?_; intro v3 w3 hown3 hgrow3; have HO3 := Lib.hid hown3; have HL3 := Lib.hid ((HL2.out.alloc HL2.out.size _).grown hgrow3 (by simp; omega) (own_base HO2.out)); clear hown3 hgrow3) | fail)
          have HO4 : Hid (w3.ownsRow w'.heap.size 5 1 v3 (len + (0 + 1)) ((bs ++ (putM n).take (0 + 1)).map (Value.int .u8))) := Lib.hid (by
            have h := HO3.out
            rw [List.append_assoc, take_snoc HP.out] at h
            exact h)
          clear HO3 HO2 HL2 hm
          go_roundw
          case rel => exact ⟨1, rfl, by omega, Lib.hid (by have h := HO4.out; simpa using h)⟩
          case measure => simp [intOf]
      · have hx := putM_at ES.out hs (by omega) hlt
        have HX := Lib.hid hx; clear hx
        go_wp2_with (first | (at_builtin; refine wpList_append_bytes rfl _ _ rfl w'.heap.size _ _ _ rfl (own_below HO.out ((Below.refl _ _).alloc (Nat.le_refl _) _)) _ _ _ _ rfl (ints_made _ _ (wf_u8_mod _)) (by omega) (by simp; omega) ?_; intro v3 w3 hown3 hgrow3; have HO3 := Lib.hid hown3; have HL3 := Lib.hid ((HL.out.alloc HL.out.size _).grown hgrow3 (by simp; omega) (own_base HO.out)); clear hown3 hgrow3) | fail)
        have HO4 : Hid (w3.ownsRow w'.heap.size 5 1 v3 (len + (j + 1)) ((bs ++ (putM n).take (j + 1)).map (Value.int .u8))) := Lib.hid (by
          have h := HO3.out
          rw [List.append_assoc, take_snoc HX.out] at h
          exact h)
        clear HO3 HO HL hm
        go_roundw
        case rel => exact ⟨j + 1, by go_num, by omega, HL3, HO4⟩
        case measure => simp [intOf]; omega
    · obtain rfl : j = s := by omega
      go_wp2_with fail
      go_ret
      refine ⟨_, rfl, HL.out, ?_⟩
      have h := HO.out
      rw [List.take_of_length_le (by omega)] at h
      rw [ES.out]; exact h
end Go.Proofs.Ytlpajohhnngbmaa
