/- hello: pieces are as the whole: the plain law. -/
import Derived.Test.YtlpajohhnngbmaaHlo10
namespace Go.Proofs.Ytlpajohhnngbmaa
open Go.RowKit
set_option linter.unusedVariables false
set_option linter.unusedSimpArgs false

/-- what a side shows, and what it makes more of. -/
structure Alike (s t : Sd) : Prop where
  asks : s.asks = t.asks
  psk : s.psk = t.psk
  o0 : s.o0 = t.o0
  o1 : s.o1 = t.o1
  sh : s.sh = t.sh
  knows : s.knows = t.knows
  done : s.done = t.done
  th : s.th = t.th
theorem Alike.refl (s : Sd) : Alike s s := ⟨rfl, rfl, rfl, rfl, rfl, rfl, rfl, rfl⟩
theorem greet_alike {s t : Sd} (h : Alike s t) (b : List Int) : (greetM s b).2 = (greetM t b).2 ∧ Alike (greetM s b).1 (greetM t b).1 := by
  obtain ⟨h1, h2, h3, h4, h5, h6, h7, h8⟩ := h
  unfold greetM
  by_cases c1 : b.length < 11
  · rw [if_pos c1, if_pos c1]; exact ⟨rfl, h1, h2, h3, h4, h5, h6, h7, h8⟩
  · rw [if_neg c1, if_neg c1]
    by_cases c2 : (decF (b.drop 11)).2 = false
    · rw [if_pos c2, if_pos c2]; exact ⟨rfl, h1, h2, h3, h4, h5, h6, h7, h8⟩
    · rw [if_neg c2, if_neg c2]
      by_cases c3 : s.asks = true
      · rw [if_pos c3, if_pos (h1 ▸ c3)]
        exact ⟨rfl, h1, h2, h3, h4, by simp only; rw [h2, h3], rfl, h7, rfl⟩
      · rw [if_neg c3, if_neg (h1 ▸ c3)]
        exact ⟨rfl, h1, h2, by simp only; rw [h4], by simp only; rw [h2, h4], by simp only; rw [h2, h4], rfl, h7, rfl⟩
theorem sizeH_take (kn : Bool) (m : List Int) (k : Nat) (h3 : 3 ≤ k) (hk : k ≤ m.length) :
    (sizeHM false kn (m.take k)).2.2 = (sizeHM false kn m).2.2 ∧ (sizeHM false kn (m.take k)).1 = (sizeHM false kn m).1 ∧ ((sizeHM false kn (m.take k)).2.2 = 0 → (sizeHM false kn (m.take k)).2.1 = decide ((sizeHM false kn m).1 ≤ k)) ∧
    ((sizeHM false kn m).2.2 = 0 → (sizeHM false kn m).2.1 = decide ((sizeHM false kn m).1 ≤ m.length)) := by
  have hg : ∀ i, i < 3 → (m.take k).getD i 0 = m.getD i 0 := by
    intro i hi
    rw [List.getD_eq_getElem?_getD, List.getD_eq_getElem?_getD, List.getElem?_take, if_pos (by omega)]
  have hl : (m.take k).length = k := by rw [List.length_take]; omega
  have hneg : ∀ n : Nat, ¬ m.getD 0 0 ≠ 1 → ¬ (0 < n ∧ (m.getD 0 0 ≠ (if false = true then 20 else 1) ∨ (false = true ∧ kn = false))) := fun n c1 h => h.2.elim (fun h => c1 (by simpa using h)) (fun h => by cases h.1)
  by_cases c1 : m.getD 0 0 ≠ 1
  · have e1 : sizeHM false kn (m.take k) = (0, false, 10) := by unfold sizeHM; rw [hg 0 (by omega), hl, if_pos ⟨by omega, .inl (by simpa using c1)⟩]
    have e2 : sizeHM false kn m = (0, false, 10) := by unfold sizeHM; rw [if_pos ⟨by omega, .inl (by simpa using c1)⟩]
    rw [e1, e2]
    exact ⟨rfl, rfl, fun h => absurd h (by decide), fun h => absurd h (by decide)⟩
  · have n3 : ¬ k < 3 := by omega
    have m3 : ¬ m.length < 3 := by omega
    have e1 : sizeHM false kn (m.take k) = if m.getD 1 0 * 256 + m.getD 2 0 > 200 then (0, false, 10) else (3 + (m.getD 1 0 * 256 + m.getD 2 0).toNat, decide (3 + (m.getD 1 0 * 256 + m.getD 2 0).toNat ≤ k), 0) := by
      unfold sizeHM; rw [hg 0 (by omega), hg 1 (by omega), hg 2 (by omega), hl, if_neg (hneg k c1), if_neg n3]
    have e2 : sizeHM false kn m = if m.getD 1 0 * 256 + m.getD 2 0 > 200 then (0, false, 10) else (3 + (m.getD 1 0 * 256 + m.getD 2 0).toNat, decide (3 + (m.getD 1 0 * 256 + m.getD 2 0).toNat ≤ m.length), 0) := by
      unfold sizeHM; rw [if_neg (hneg _ c1), if_neg m3]
    rw [e1, e2]
    by_cases c2 : m.getD 1 0 * 256 + m.getD 2 0 > 200
    · rw [if_pos c2, if_pos c2]; exact ⟨rfl, rfl, fun h => absurd h (by decide), fun h => absurd h (by decide)⟩
    · rw [if_neg c2, if_neg c2]; exact ⟨rfl, rfl, fun _ => rfl, fun _ => rfl⟩
theorem sizeH_short (kn : Bool) (m : List Int) (k : Nat) (h0 : 0 < k) (h3 : k < 3) (hk : k ≤ m.length) (hm : 3 ≤ m.length) :
    (sizeHM false kn (m.take k)).2.1 = false ∧ ((sizeHM false kn (m.take k)).2.2 = 0 ∨ (sizeHM false kn (m.take k)).2.2 = 10 ∧ (sizeHM false kn m).2.2 = 10) := by
  have hg : (m.take k).getD 0 0 = m.getD 0 0 := by
    rw [List.getD_eq_getElem?_getD, List.getD_eq_getElem?_getD, List.getElem?_take, if_pos (by omega)]
  have hl : (m.take k).length = k := by rw [List.length_take]; omega
  unfold sizeHM
  rw [hg, hl]
  by_cases c1 : m.getD 0 0 ≠ 1
  · rw [if_pos ⟨by omega, .inl (by simpa using c1)⟩, if_pos ⟨by omega, .inl (by simpa using c1)⟩]
    exact ⟨rfl, .inr ⟨rfl, rfl⟩⟩
  · have hneg : ¬ (0 < k ∧ (m.getD 0 0 ≠ (if false = true then 20 else 1) ∨ (false = true ∧ kn = false))) := fun h => h.2.elim (fun h => c1 (by simpa using h)) (fun h => by cases h.1)
    rw [if_neg hneg, if_pos h3]
    exact ⟨rfl, .inl rfl⟩
theorem feed0 (s : Sd) (b : List Int) (h0 : s.h0 = false) : feedM s 0 b = if (sizeHM false s.knows (s.i0 ++ b)).2.2 ≠ 0 ∨ (sizeHM false s.knows (s.i0 ++ b)).2.1 = false then ({ s with i0 := s.i0 ++ b }, (sizeHM false s.knows (s.i0 ++ b)).2.2)
    else wholeMsgM (heardM { s with i0 := s.i0 ++ b } false) false (sizeHM false s.knows (s.i0 ++ b)).1 (s.i0 ++ b) := by
  unfold feedM
  rw [if_neg (by omega), if_neg (by rw [if_neg (by decide), h0]; decide)]
  rfl
theorem whole0 (s : Sd) (n : Nat) (l : List Int) : wholeMsgM s false n l = if (greetM s (l.take n)).2 = 0 ∧ n < l.length then ((greetM s (l.take n)).1, 10) else greetM s (l.take n) := rfl
theorem greet_keep (s : Sd) (b : List Int) : (greetM s b).1.h0 = s.h0 ∧ (greetM s b).1.code = s.code ∧ (greetM s b).1.i0 = s.i0 := by
  unfold greetM; (repeat' split) <;> exact ⟨rfl, rfl, rfl⟩
/-- bytes that are fed in two pieces are as bytes that are fed at once. -/
theorem pieces_law (s : Sd) (m : List Int) (k : Nat) (hi : s.i0 = []) (hh : s.h0 = false) (hc : s.code = 0) (hm : 3 ≤ m.length) (hk : k ≤ m.length) :
    Alike (FeedM s 0 m).1 (FeedM (FeedM s 0 (m.take k)).1 0 (m.drop k)).1 ∧ (FeedM (FeedM s 0 (m.take k)).1 0 (m.drop k)).2 = (FeedM s 0 m).2 ∧ ((FeedM s 0 (m.take k)).2 = 0 ∨ (FeedM s 0 (m.take k)).2 = (FeedM s 0 m).2) := by
  have hw : FeedM s 0 m = ({ (feedM s 0 m).1 with code := (feedM s 0 m).2 }, (feedM s 0 m).2) := by unfold FeedM; rw [if_pos ⟨hc, by omega⟩]
  have hl : (m.take k).length = k := by rw [List.length_take]; omega
  have hd : (m.drop k).length = m.length - k := List.length_drop
  by_cases hk0 : k = 0
  · subst hk0
    have e1 : FeedM s 0 (m.take 0) = (s, s.code) := by unfold FeedM; rw [if_neg (by intro h; omega)]
    rw [e1, List.drop_zero]
    exact ⟨Alike.refl _, rfl, .inl hc⟩
  have hf1 : FeedM s 0 (m.take k) = ({ (feedM s 0 (m.take k)).1 with code := (feedM s 0 (m.take k)).2 }, (feedM s 0 (m.take k)).2) := by unfold FeedM; rw [if_pos ⟨hc, by omega⟩]
  have hfw := feed0 s m hh
  have hfk := feed0 s (m.take k) hh
  rw [hi, List.nil_append] at hfw hfk
  -- a code that stays
  have stay : ∀ (t : Sd) (b : List Int), t.code ≠ 0 → FeedM t 0 b = (t, t.code) := fun t b h => by unfold FeedM; rw [if_neg (fun h2 => h h2.1)]
  -- the rest of what is not whole yet
  have rest : ∀ t : Sd, t = { s with i0 := m.take k, code := 0 } → k < m.length → FeedM t 0 (m.drop k) = FeedM s 0 m := by
    intro t ht hlt
    have e2 : feedM t 0 (m.drop k) = feedM s 0 m := by
      rw [feed0 t _ (by rw [ht]; exact hh), hfw]
      have e3 : t.i0 ++ m.drop k = m := by rw [ht]; exact List.take_append_drop k m
      have e4 : t.knows = s.knows := by rw [ht]
      have e5 : ({ t with i0 := m } : Sd) = { s with i0 := m } := by
        subst ht
        obtain ⟨q1, q2, q3, q4, q5, q6, q7, q8, q9, q10, q11, q12, q13⟩ := s
        simp only at hc
        subst hc
        rfl
      rw [e3, e5, e4]
    have e6 : FeedM t 0 (m.drop k) = ({ (feedM t 0 (m.drop k)).1 with code := (feedM t 0 (m.drop k)).2 }, (feedM t 0 (m.drop k)).2) := by
      unfold FeedM; rw [if_pos ⟨by rw [ht], by omega⟩]
    rw [e6, e2, hw]
  by_cases h3 : k < 3
  · obtain ⟨g1, g2⟩ := sizeH_short s.knows m k (by omega) h3 hk hm
    rw [if_pos (.inr g1)] at hfk
    rcases g2 with g2 | ⟨g2, g3⟩
    · rw [g2] at hfk
      rw [hf1, hfk]
      rw [rest _ rfl (by omega)]
      exact ⟨Alike.refl _, rfl, .inl rfl⟩
    · rw [g2] at hfk
      rw [if_pos (.inl (by rw [g3]; decide)), g3] at hfw
      rw [hf1, hfk, hw, hfw]
      rw [stay _ _ (by simp only; decide)]
      exact ⟨⟨rfl, rfl, rfl, rfl, rfl, rfl, rfl, rfl⟩, rfl, .inr rfl⟩
  · obtain ⟨g1, g2, g3, g4⟩ := sizeH_take s.knows m k (by omega) hk
    by_cases hc0 : (sizeHM false s.knows m).2.2 = 0
    · rw [hc0] at g1
      rw [g1, g2, g3 g1] at hfk
      rw [hc0, g4 hc0] at hfw
      obtain ⟨n, hn⟩ : ∃ n, (sizeHM false s.knows m).1 = n := ⟨_, rfl⟩
      rw [hn] at hfk hfw
      by_cases hnk : n ≤ k
      · rw [if_neg (by rw [decide_eq_true hnk]; simp), whole0] at hfk
        rw [if_neg (by rw [decide_eq_true (by omega : n ≤ m.length)]; simp), whole0] at hfw
        have et : (m.take k).take n = m.take n := by rw [List.take_take, Nat.min_eq_left hnk]
        rw [et, hl] at hfk
        obtain ⟨a1, a2⟩ := greet_alike (s := heardM { s with i0 := m } false) (t := heardM { s with i0 := m.take k } false) ⟨rfl, rfl, rfl, rfl, rfl, rfl, rfl, rfl⟩ (m.take n)
        obtain ⟨q1, q2, _⟩ := greet_keep (heardM { s with i0 := m.take k } false) (m.take n)
        obtain ⟨⟨t1, c1⟩, e1⟩ : ∃ r, greetM (heardM { s with i0 := m } false) (m.take n) = r := ⟨_, rfl⟩
        obtain ⟨⟨t2, c2⟩, e2⟩ : ∃ r, greetM (heardM { s with i0 := m.take k } false) (m.take n) = r := ⟨_, rfl⟩
        rw [e1] at hfw a1 a2
        rw [e2] at hfk a1 a2 q1 q2
        simp only at hfw hfk a1 a2 q1 q2
        subst a1
        have al : ∀ c d : Int, Alike { t1 with code := c } { t2 with code := d } := fun c d => ⟨a2.asks, a2.psk, a2.o0, a2.o1, a2.sh, a2.knows, a2.done, a2.th⟩
        rw [hf1, hfk, hw, hfw]
        by_cases hz : c1 = 0
        · subst hz
          by_cases hlt : n < k
          · have hml : n < m.length := by omega
            rw [if_pos ⟨rfl, hml⟩, if_pos ⟨rfl, hlt⟩]
            rw [stay _ _ (by simp only; decide)]
            exact ⟨al _ _, rfl, .inr rfl⟩
          · obtain rfl : n = k := by omega
            by_cases hkl : n < m.length
            · rw [if_pos ⟨rfl, hkl⟩, if_neg (fun h => hlt h.2)]
              have e5 : FeedM { t2 with code := 0 } 0 (m.drop n) = ({ t2 with code := 10 }, 10) := by
                have e6 : feedM { t2 with code := 0 } 0 (m.drop n) = ({ t2 with code := 0 }, 10) := by
                  unfold feedM; rw [if_neg (by omega), if_pos (by rw [if_neg (by decide)]; exact q1)]
                unfold FeedM; rw [if_pos ⟨rfl, by omega⟩, e6]
              rw [e5]
              exact ⟨al _ _, rfl, .inl rfl⟩
            · rw [if_neg (fun h => hkl h.2), if_neg (fun h => hlt h.2)]
              have e5 : FeedM { t2 with code := 0 } 0 (m.drop n) = ({ t2 with code := 0 }, 0) := by
                unfold FeedM; rw [if_neg (by intro h; omega)]
              rw [e5]
              exact ⟨al _ _, rfl, .inl rfl⟩
        · rw [if_neg (fun h => hz h.1), if_neg (fun h => hz h.1)]
          rw [stay _ _ (by simpa using hz)]
          exact ⟨al _ _, rfl, .inr rfl⟩
      · rw [if_pos (.inr (by rw [decide_eq_false hnk]))] at hfk
        rw [hf1, hfk]
        by_cases hkl : k < m.length
        · rw [rest _ rfl hkl]
          exact ⟨Alike.refl _, rfl, .inl rfl⟩
        · rw [if_pos (.inr (by rw [decide_eq_false (by omega)]))] at hfw
          have e5 : ∀ t : Sd, t.code = 0 → FeedM t 0 (m.drop k) = (t, t.code) := fun t ht => by unfold FeedM; rw [if_neg (by intro h; omega)]
          rw [e5 _ rfl, hw, hfw]
          exact ⟨⟨rfl, rfl, rfl, rfl, rfl, rfl, rfl, rfl⟩, rfl, .inl rfl⟩
    · rw [if_pos (.inl (by rw [g1]; exact hc0)), g1] at hfk
      rw [if_pos (.inl hc0)] at hfw
      rw [hf1, hfk, hw, hfw]
      rw [stay _ _ (by simpa using hc0)]
      exact ⟨⟨rfl, rfl, rfl, rfl, rfl, rfl, rfl, rfl⟩, rfl, .inr rfl⟩
end Go.Proofs.Ytlpajohhnngbmaa
