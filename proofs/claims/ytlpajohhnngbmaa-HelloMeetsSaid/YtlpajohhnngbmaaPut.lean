/- contracts of bits.PutVar and of its reference. -/
import Derived.Test.YtlpajohhnngbmaaBits
import Derived.Test.YtlpajohhnngbmaaGrow
namespace Go.Proofs.Ytlpajohhnngbmaa
open Go.RowKit
set_option linter.unusedVariables false

def rawM (n : Int) (s : Nat) : Nat → List Int
  | 0 => []
  | j + 1 => rawM n s j ++ [n / 2 ^ (8 * (s - 1 - j)) % 256]
theorem rawM_len (n : Int) (s : Nat) : ∀ j, (rawM n s j).length = j
  | 0 => rfl
  | j + 1 => by simp [rawM, rawM_len n s j]
/-- the bytes of a number -/
def putM (n : Int) : List Int :=
  match sizeM n with
  | 1 => [n]
  | 2 => [n / 256 + 64, n % 256]
  | 4 => [n / 16777216 + 128, n / 65536 % 256, n / 256 % 256, n % 256]
  | 8 => [n / 72057594037927936 + 192, n / 281474976710656 % 256, n / 1099511627776 % 256, n / 4294967296 % 256, n / 16777216 % 256, n / 65536 % 256, n / 256 % 256, n % 256]
  | _ => []
theorem sizeM_cases (n : Int) : (n < 64 ∧ sizeM n = 1) ∨ (64 ≤ n ∧ n < 16384 ∧ sizeM n = 2) ∨ (16384 ≤ n ∧ n < 1073741824 ∧ sizeM n = 4) ∨ (1073741824 ≤ n ∧ n ≤ 4611686018427387903 ∧ sizeM n = 8) ∨ (4611686018427387903 < n ∧ sizeM n = 0) := by
  unfold sizeM; (repeat' split) <;> omega
theorem putM_len (n : Int) : (putM n).length = sizeM n := by
  rcases sizeM_cases n with ⟨_, h⟩ | ⟨_, _, h⟩ | ⟨_, _, h⟩ | ⟨_, _, h⟩ | ⟨_, h⟩ <;> simp [putM, h]
theorem putM_wf (n : Int) (h : 0 ≤ n) : ∀ x ∈ putM n, (Lit.int .u8 x).wf = true := by
  intro x hx
  have hb : 0 ≤ x ∧ x < 256 := by
    rcases sizeM_cases n with ⟨h1, e⟩ | ⟨h0, h1, e⟩ | ⟨h0, h1, e⟩ | ⟨h0, h1, e⟩ | ⟨_, e⟩ <;> simp only [putM, e, List.mem_cons, List.not_mem_nil, or_false] at hx <;> omega
  exact wf_u8_of hb.1 hb.2
theorem wf_u8_mod (x : Int) : (Lit.int .u8 (x % 256)).wf = true := wf_u8_of (Int.emod_nonneg _ (by decide)) (Int.emod_lt_of_pos _ (by decide))

set_option maxRecDepth 100000 in
set_option maxHeartbeats 1000000 in
theorem put_any (w : World) (a : Option Addr) (len cap : Nat) (bs : List Int) (n : Int) (hn : 0 ≤ n ∧ n < 18446744073709551616) (hlen : len + 8 ≤ 140737488355328) (hI : IntsK .u8 w a len bs) :
    Calls Try.prog 65 #[.slice a len cap, .int .u64 n] w fun e w' => ∃ v, e = .returned (.tuple #[v, .bool (decide (sizeM n ≠ 0))]) ∧ Below w.heap.size w w' ∧
      w'.ownsRow w.heap.size 5 1 v (len + sizeM n) ((bs ++ putM n).map (Value.int .u8)) := by
  have HI := Lib.hid hI; clear hI
  go_enter Try.func65, Try.ntmps65
  go_wp2_with (first | (at_builtin; refine wpList_append_bytes rfl _ _ rfl w.heap.size 0 (.slice none 0 0) [] rfl (World.ownsRow_nil _ _ _ _) _ _ _ _ rfl HI.out (by omega) (Nat.le_refl _) ?_; intro v1 w1 hown1 hgrow1; have HO := Lib.hid hown1; have HL := Lib.hid ((Below.refl w.heap.size w).grown hgrow1 (Nat.le_refl _) (by intro k hk; simp [Value.ownBlock] at hk)); clear hown1 hgrow1) | fail)
  refine Calls.mono (size_any _ n) ?_
  rintro e w' ⟨rfl, rfl⟩
  have hsz := sizeM_cases n
  obtain ⟨s, es⟩ : ∃ s, sizeM n = s := ⟨_, rfl⟩
  have hputl := putM_len n
  rw [es] at hputl hsz ⊢
  have ES := Lib.hid es
  by_cases hs0 : s = 0
  · subst hs0
    have E0 : Hid (putM n = []) := Lib.hid (List.eq_nil_of_length_eq_zero hputl)
    go_wp2_with fail
    go_ret2
    exact ⟨v1, by rw [ES.out]; rfl, HL.out, by rw [ES.out, E0.out]; simpa using HO.out⟩
  · have hs8 : s ≤ 8 := by omega
    have HO0 : Hid (w'.ownsRow w.heap.size 5 1 v1 (len + 0) ((bs ++ rawM n s 0).map (Value.int .u8))) := Lib.hid (by simpa [rawM] using HO.out)
    have hl : bs.length = len := HI.out.1
    clear HO es
    obtain ⟨b1, cp1, rfl, _⟩ := own_slice HO0.out
    go_upto_region 6 with fail
    go_wp2_with fail
    generalize ((s : Int) == 0) = q16
    go_loopw [6, 9] (fun s6 s9 wr => ∃ (j : Nat) (k : Int), s9 = .int .i64 k ∧ k + j + 1 = s ∧ j ≤ s ∧ Hid (Below w.heap.size w wr) ∧ Hid (wr.ownsRow w.heap.size 5 1 s6 (len + j) ((bs ++ rawM n s j).map (Value.int .u8)))) (fun _ s9 _ => ((intOf s9) + 1).toNat)
    case atStart => exact ⟨0, _, rfl, by omega, by omega, HL, HO0⟩
    case round =>
      clear HO0 HL
      obtain ⟨j, k, rfl, hk, hj, HL, HO⟩ := hrel
      obtain ⟨b2, cp2, rfl, _⟩ := own_slice HO.out
      by_cases hk0 : 0 ≤ k
      · have hx : n / 2 ^ (8 * k).toNat % 256 = n / 2 ^ (8 * (s - 1 - j)) % 256 := by rw [show (8 * k).toNat = 8 * (s - 1 - j) by omega]
        have HX := Lib.hid hx; clear hx
        have hm := HL.out.size
        go_wp2_with (first | (at_builtin; refine wpList_append_bytes rfl _ _ rfl w.heap.size _ _ _ rfl (own_below HO.out ((Below.refl _ _).alloc (Nat.le_refl _) _)) _ _ _ _ rfl (ints_made _ _ (wf_u8_mod _)) (by omega) (by simp; omega) ?_; intro v3 w3 hown3 hgrow3; have HO3 := Lib.hid hown3; have HL3 := Lib.hid ((HL.out.alloc HL.out.size _).grown hgrow3 (by simp; omega) (own_base HO.out)); clear hown3 hgrow3) | fail)
        have HO4 : Hid (w3.ownsRow w.heap.size 5 1 v3 (len + (j + 1)) ((bs ++ rawM n s (j + 1)).map (Value.int .u8))) := Lib.hid (by
          have h := HO3.out
          rw [HX.out, List.append_assoc] at h
          exact h)
        clear HO3 HO HL hm
        go_roundw
        case rel => exact ⟨j + 1, k - 1, rfl, by omega, by omega, HL3, HO4⟩
        case measure => simp [intOf]; omega
      · obtain rfl : k = -1 := by omega
        obtain rfl : j = s := by omega
        go_upto_region 10 with fail
        have HT : Hid ((bs ++ rawM n j j)[len]? = some (n / 2 ^ (8 * (j - 1)) % 256)) := Lib.hid (by
          rw [List.getElem?_append_right (by omega), hl, Nat.sub_self]
          rcases hsz with ⟨_, rfl⟩ | ⟨_, _, rfl⟩ | ⟨_, _, rfl⟩ | ⟨_, _, rfl⟩ | ⟨_, rfl⟩ <;> simp [rawM] at hs0 ⊢)
        obtain ⟨g, rfl, hg, hgl, hfz, hcells, _⟩ := own_set HO.out (Below.refl _ _) (i := len) (by omega) (.int .u8 0) rfl
        have hc : wr.cell? ⟨g, len, none⟩ = some (.int .u8 (n / 2 ^ (8 * (j - 1)) % 256)) := hcells _ _ (by rw [List.getElem?_map, HT.out]; rfl)
        clear hcells
        have hset : ∀ (zs : List Int) (y : Int), ((bs ++ zs).map (Value.int .u8)).set len (.int .u8 y) = (bs ++ zs.set 0 y).map (Value.int .u8) := fun zs y => by
          rw [List.map_append, List.map_append, List.set_append_right _ _ (by simp; omega)]
          simp [hl]
        have HS := Lib.hid hset; clear hset
        rcases hsz with ⟨h1, rfl⟩ | ⟨h0, h1, rfl⟩ | ⟨h0, h1, rfl⟩ | ⟨h0, h1, rfl⟩ | ⟨_, rfl⟩
        · go_wp2_with fail
          refine wp_loop_rounds 5 ?_
          repeat any_goals (rw [rounds_succ]; go_wp2_with fail)
          go_ret2
          refine ⟨_, by rw [ES.out]; rfl, HL.out, ?_⟩
          have h := HO.out
          rw [show rawM n 1 1 = putM n by simp [putM, ES.out, rawM]; omega] at h
          rw [ES.out]; exact h
        · simp only [Nat.reduceMul, Nat.reduceSub] at hc
          go_wp2_with fail
          refine wp_loop_rounds 5 ?_
          repeat any_goals (rw [rounds_succ]; go_wp2_with fail)
          go_ret2
          refine ⟨_, by rw [ES.out]; rfl, HL.out.setCell (p := ⟨g, len, none⟩) hg _, ?_⟩
          have h := own_put HO.out (i := len) (by omega) (.int .u8 (n / 256 % 256 + 64)) rfl
          rw [HS.out, show (rawM n 2 2).set 0 (n / 256 % 256 + 64) = putM n by simp [putM, ES.out, rawM]; omega] at h
          rw [ES.out]; exact h
        · simp only [Nat.reduceMul, Nat.reduceSub] at hc
          go_wp2_with fail
          refine wp_loop_rounds 5 ?_
          repeat any_goals (rw [rounds_succ]; go_wp2_with fail)
          go_ret2
          refine ⟨_, by rw [ES.out]; rfl, (HL.out.setCell (p := ⟨g, len, none⟩) hg _).setCell (p := ⟨g, len, none⟩) hg _, ?_⟩
          have h := own_put (own_put HO.out (i := len) (by omega) (.int .u8 (n / 16777216 % 256 + 64)) rfl) (i := len) (by omega) (.int .u8 (n / 16777216 % 256 + 64 + 64)) rfl
          rw [HS.out, HS.out, show ((rawM n 4 4).set 0 (n / 16777216 % 256 + 64)).set 0 (n / 16777216 % 256 + 64 + 64) = putM n by simp [putM, ES.out, rawM]; omega] at h
          rw [ES.out]; exact h
        · simp only [Nat.reduceMul, Nat.reduceSub] at hc
          go_wp2_with fail
          refine wp_loop_rounds 5 ?_
          repeat any_goals (rw [rounds_succ]; go_wp2_with fail)
          go_ret2
          refine ⟨_, by rw [ES.out]; rfl, ((HL.out.setCell (p := ⟨g, len, none⟩) hg _).setCell (p := ⟨g, len, none⟩) hg _).setCell (p := ⟨g, len, none⟩) hg _, ?_⟩
          have h := own_put (own_put (own_put HO.out (i := len) (by omega) (.int .u8 (n / 72057594037927936 % 256 + 64)) rfl) (i := len) (by omega) (.int .u8 (n / 72057594037927936 % 256 + 64 + 64)) rfl) (i := len) (by omega) (.int .u8 (n / 72057594037927936 % 256 + 64 + 64 + 64)) rfl
          rw [HS.out, HS.out, HS.out, show (((rawM n 8 8).set 0 (n / 72057594037927936 % 256 + 64)).set 0 (n / 72057594037927936 % 256 + 64 + 64)).set 0 (n / 72057594037927936 % 256 + 64 + 64 + 64) = putM n by simp [putM, ES.out, rawM]; omega] at h
          rw [ES.out]; exact h
        · exact absurd rfl hs0
end Go.Proofs.Ytlpajohhnngbmaa
