/- wheel: Next. -/
import Derived.Test.YtjkedccbieoenaaWhl10
namespace Go.Proofs.Ytjkedccbieoenaa
open Go.RowKit
set_option linter.unusedVariables false
set_option linter.unusedSimpArgs false

def LeastOf (l : List Int) (a : Int) (s : Bool) : Prop := (l = [] ∧ a = 0 ∧ s = false) ∨ (s = true ∧ a ∈ l ∧ ∀ t ∈ l, a ≤ t)
theorem LeastOf.snoc1 {l : List Int} {a t : Int} {s : Bool} (h : LeastOf l a s) (hc : s = false ∨ t < a) : LeastOf (l ++ [t]) t true := by
  refine .inr ⟨rfl, by simp, fun x hx => ?_⟩
  rcases List.mem_append.1 hx with hx | hx
  · rcases h with ⟨rfl, _, _⟩ | ⟨h1, h2, h3⟩
    · cases hx
    · rcases hc with hc | hc
      · rw [h1] at hc; cases hc
      · have := h3 x hx; omega
  · rw [List.mem_singleton.1 hx]; exact Int.le_refl _
theorem LeastOf.snoc2 {l : List Int} {a t : Int} {s : Bool} (h : LeastOf l a s) (hs : s = true) (hc : ¬ t < a) : LeastOf (l ++ [t]) a true := by
  rcases h with ⟨_, _, h⟩ | ⟨h1, h2, h3⟩
  · rw [hs] at h; cases h
  · refine .inr ⟨rfl, List.mem_append_left _ h2, fun x hx => ?_⟩
    rcases List.mem_append.1 hx with hx | hx
    · exact h3 x hx
    · rw [List.mem_singleton.1 hx]; omega
theorem LeastOf.perm {l m : List Int} {a : Int} {s : Bool} (h : LeastOf l a s) (hp : l.Perm m) : LeastOf m a s := by
  rcases h with ⟨rfl, h1, h2⟩ | ⟨h1, h2, h3⟩
  · exact .inl ⟨List.nil_perm.1 hp, h1, h2⟩
  · exact .inr ⟨h1, hp.mem_iff.1 h2, fun t ht => h3 t (hp.mem_iff.2 ht)⟩
theorem LeastOf.unique {l : List Int} {a a2 : Int} {s s2 : Bool} (h : LeastOf l a s) (k : LeastOf l a2 s2) : a = a2 ∧ s = s2 := by
  rcases h with ⟨h0, h1, h2⟩ | ⟨h1, h2, h3⟩
  · subst h0
    rcases k with ⟨_, k1, k2⟩ | ⟨_, k2, _⟩
    · exact ⟨h1.trans k1.symm, h2.trans k2.symm⟩
    · cases k2
  · rcases k with ⟨k0, _, _⟩ | ⟨k1, k2, k3⟩
    · subst k0; cases h2
    · have := h3 _ k2; have := k3 _ h2; exact ⟨by omega, h1.trans k1.symm⟩
theorem take_snd {L : List Tm} {k : Nat} {x : Tm} (h : L[k]? = some x) : (L.take (k + 1)).map Prod.snd = (L.take k).map Prod.snd ++ [x.2] := by
  have hk := (List.getElem?_eq_some_iff.1 h).1
  rw [List.take_succ_eq_append_getElem hk, List.map_append, (List.getElem?_eq_some_iff.1 h).2]; rfl
set_option maxRecDepth 100000 in
set_option maxHeartbeats 4000000 in
theorem next_any (w : World) (p : Nat) (M : List Nat) (now : Int) (T : List Tm) (vs : List Value) (b n : Nat) (h : WhAt w p M now T vs b n) (hT : T.length ≤ 1000) :
    Calls Try.prog 16 #[.pointer (some ⟨p, 0, none⟩)] w fun e w' => ∃ a s, e = .returned (.tuple #[.int .i64 a, .bool s]) ∧ Below w.heap.size w w' ∧ LeastOf (T.map Prod.snd) a s := by
  have HAL := Lib.hid (all_any w p M now T vs b n h hT)
  have HOK : Hid (∀ x ∈ T, tmwf x) := Lib.hid (fun x hx => (h.rs.ok x hx).1)
  clear h
  go_enter Try.func16, Try.ntmps16
  go_wp2_with fail
  refine Calls.mono HAL.out ?_
  rintro e w1 ⟨v, L, rfl, hb, ho, hp⟩
  obtain ⟨a0, cap, rfl, _⟩ := own_slice ho
  have HB := Lib.hid hb; have HT := Lib.hid (Tms.of_own ho (fun x hx => HOK.out x (hp.mem_iff.1 hx))); have HP := Lib.hid hp; have HW1 := Lib.hid hb.size
  have hN1 : L.length ≤ 1000 := by rw [hp.length_eq]; exact hT
  obtain ⟨N, hN⟩ : ∃ N, L.length = N := ⟨_, rfl⟩
  rw [hN] at HT hN1 ⊢
  have HN := Lib.hid hN
  clear hb ho hp HAL hN
  have HL0 : Hid (LeastOf ((L.take 0).map Prod.snd) 0 false) := Lib.hid (.inl ⟨rfl, rfl, rfl⟩)
  have HB1 := Lib.hid (Below.refl w1.heap.size w1)
  go_wp2_with fail
  go_loopw [4, 5, 11] (fun u s i wr => ∃ (k : Nat) (a : Int) (q : Bool), u = .int .i64 a ∧ s = .bool q ∧ i = .int .i64 k ∧ k ≤ N ∧ Hid (Below w1.heap.size w1 wr) ∧ Hid (LeastOf ((L.take k).map Prod.snd) a q)) (fun _ _ i _ => N - (intOf i).toNat)
  case atStart => exact ⟨0, 0, false, rfl, rfl, rfl, by omega, HB1, HL0⟩
  case round =>
    clear HB1 HL0
    obtain ⟨k, a, q, rfl, rfl, rfl, hk, HB1, HL⟩ := hrel
    by_cases hlt : k < N
    · obtain ⟨x, hx⟩ : ∃ x, L[k]? = some x := ⟨_, List.getElem?_eq_getElem (by have := HN.out; omega)⟩
      obtain ⟨bb, off, rfl, hbb, hxw, hr⟩ := (HT.out.below HB1.out).rng hx
      have HR := Lib.hid hr
      have HSN := Lib.hid (take_snd hx)
      have HXL : Hid ((tmV x).length = 2) := Lib.hid rfl
      have HXO := Lib.hid (tmV_one x)
      have HX1 : Hid ((tmV x)[1]? = some (.int .i64 x.2)) := Lib.hid rfl
      generalize x.2 = t at HSN HX1
      generalize tmV x = X at HR HXL HXO HX1
      clear hr hbb hxw hx
      go_upto_region 5 with (first | (refine wpList_load_mid rfl 53 _ rfl bb (off + k * 2) rfl X _ HR.out Try.underlying53 rfl (by rw [HXL.out]; rfl) ?_) | (refine wpList_store_row rfl 53 _ _ rfl _ rfl X (.int .i64 0 :: .int .i64 0 :: []) rfl 53 (heap_alloc_new _ _) (by rw [HXL.out]; rfl) (by rw [HXL.out]; rfl) HXO.out ?_; intro w11 hr hg) | fail)
      have hal := (Below.refl wr.heap.size wr).alloc (Nat.le_refl _) (.cells ((.int .i64 0 :: .int .i64 0 :: [])).toArray 53)
      have hb : Below wr.heap.size wr w11 := hal.grown hg hal.size (by intro k hk; injection hk with hk; omega)
      replace HB1 := Lib.hid (bl_next HB1.out HB1.out.size hb)
      have HGT := Lib.hid (hr)
      clear hr hg hal hb
      obtain ⟨gt, hg⟩ : ∃ g, wr.heap.size = g := ⟨_, rfl⟩
      rw [hg] at HGT ⊢
      clear hg
      have x1 := cell_row HGT.out 1 _ HX1.out
      cases q with
      | false =>
        have HC : Hid (false = false ∨ t < a) := Lib.hid (.inl rfl)
        go_wp2_with fail
        go_roundw
        case rel => exact ⟨k + 1, t, true, rfl, rfl, by go_num, by omega, HB1, Lib.hid (by rw [HSN.out]; exact HL.out.snoc1 HC.out)⟩
        case measure => simp [intOf]; omega
      | true =>
        by_cases hc : t < a
        · skip
          have HC : Hid (true = false ∨ t < a) := Lib.hid (.inr hc)
          go_wp2_with fail
          go_roundw
          case rel => exact ⟨k + 1, t, true, rfl, rfl, by go_num, by omega, HB1, Lib.hid (by rw [HSN.out]; exact HL.out.snoc1 HC.out)⟩
          case measure => simp [intOf]; omega
        · have HC := Lib.hid hc
          go_wp2_with fail
          go_roundw
          case rel => exact ⟨k + 1, a, true, rfl, rfl, by go_num, by omega, HB1, Lib.hid (by rw [HSN.out]; exact HL.out.snoc2 rfl HC.out)⟩
          case measure => simp [intOf]; omega
    · obtain rfl : k = N := by omega
      have hl := HL.out
      rw [← HN.out, List.take_length] at hl
      have HLL := Lib.hid (hl.perm (HP.out.map Prod.snd))
      have HBB := Lib.hid (bl_next HB.out HB.out.size HB1.out)
      clear hl
      go_wp2_with fail
      go_ret2
      exact ⟨_, _, rfl, HBB.out, HLL.out⟩
end Go.Proofs.Ytjkedccbieoenaa
