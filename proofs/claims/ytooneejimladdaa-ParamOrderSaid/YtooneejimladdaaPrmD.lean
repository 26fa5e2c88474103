/- params: the plain law: what was written is read; beginnings are not; the order is no matter. -/
import Derived.Test.YtooneejimladdaaPrmC
namespace Go.Proofs.Ytooneejimladdaa
open Go.RowKit
set_option linter.unusedVariables false

theorem decM_nil (k : Nat) (p : Pm) (came : List Int) : decM k [] p came = some (p, came) := by unfold decM; rfl
theorem decM_fuel : ∀ (n : Nat) (bs : List Int), bs.length ≤ n → ∀ (k k' : Nat) (p : Pm) (came : List Int), bs.length ≤ k → bs.length ≤ k' → decM k bs p came = decM k' bs p came
  | n, [], _, k, k', p, came, _, _ => by rw [decM_nil, decM_nil]
  | 0, b :: bs, h, _, _, _, _, _, _ => by simp at h
  | n + 1, b :: bs, h, 0, _, _, _, h1, _ => by simp at h1
  | n + 1, b :: bs, h, _, 0, _, _, _, h2 => by simp at h2
  | n + 1, b :: bs, h, k + 1, k' + 1, p, came, h1, h2 => by
    have e1 := varM_lt b bs
    have e2 := textM_len (varM (b :: bs) false).2.1 (varM (b :: bs) false).2.2
    simp at h h1 h2
    unfold decM
    simp only
    split
    · rfl
    · split
      · exact decM_fuel n _ (by omega) _ _ _ _ (by omega) (by omega)
      · rfl
theorem decM_cons (k : Nat) (b : Int) (bs : List Int) (p : Pm) (came : List Int) : decM (k + 1) (b :: bs) p came =
    if (textM (varM (b :: bs) false).2.1 (varM (b :: bs) false).2.2).2.2 = true ∨ (knownId (varM (b :: bs) false).1 = true ∧ (varM (b :: bs) false).1 ∈ came) then none
    else if (takeM p (varM (b :: bs) false).1 (textM (varM (b :: bs) false).2.1 (varM (b :: bs) false).2.2).1).2 = true then
      decM k (textM (varM (b :: bs) false).2.1 (varM (b :: bs) false).2.2).2.1 (takeM p (varM (b :: bs) false).1 (textM (varM (b :: bs) false).2.1 (varM (b :: bs) false).2.2).1).1 (came ++ [(varM (b :: bs) false).1]) else none := rfl
def dec (bs : List Int) (p : Pm) (came : List Int) : Option (Pm × List Int) := decM bs.length bs p came
theorem decF_dec (bs : List Int) : decF bs = decC (dec bs zeroPm []) := rfl
theorem dec_nil (p : Pm) (came : List Int) : dec [] p came = some (p, came) := decM_nil _ _ _
theorem dec_cons (b : Int) (bs : List Int) (p : Pm) (came : List Int) : dec (b :: bs) p came =
    if (textM (varM (b :: bs) false).2.1 (varM (b :: bs) false).2.2).2.2 = true ∨ (knownId (varM (b :: bs) false).1 = true ∧ (varM (b :: bs) false).1 ∈ came) then none
    else if (takeM p (varM (b :: bs) false).1 (textM (varM (b :: bs) false).2.1 (varM (b :: bs) false).2.2).1).2 = true then
      dec (textM (varM (b :: bs) false).2.1 (varM (b :: bs) false).2.2).2.1 (takeM p (varM (b :: bs) false).1 (textM (varM (b :: bs) false).2.1 (varM (b :: bs) false).2.2).1).1 (came ++ [(varM (b :: bs) false).1]) else none := by
  have e1 := varM_lt b bs
  have e2 := textM_len (varM (b :: bs) false).2.1 (varM (b :: bs) false).2.2
  show decM (bs.length + 1) (b :: bs) p came = _
  rw [decM_cons]
  split
  · rfl
  · split
    · exact decM_fuel bs.length _ (by omega) _ _ _ _ (by omega) (Nat.le_refl _)
    · rfl
def item (id : Int) (x : List Int) : List Int := putM id ++ (putM x.length ++ x)
theorem dec_item (id : Int) (x R : List Int) (p : Pm) (came : List Int) (hid : 0 ≤ id ∧ id ≤ 4611686018427387903) (hx : x.length ≤ 1000000) :
    dec (item id x ++ R) p came = if knownId id = true ∧ id ∈ came then none else if (takeM p id x).2 = true then dec R (takeM p id x).1 (came ++ [id]) else none := by
  obtain ⟨b, t, hb, _⟩ := put_head hid
  have hv : varM (item id x ++ R) false = (id, (putM x.length ++ x) ++ R, false) := by
    unfold item; rw [List.append_assoc]; exact rd_var hid _
  have ht := rd_text x R (by omega)
  have hc : item id x ++ R = b :: (t ++ (putM x.length ++ x) ++ R) := by unfold item; rw [hb]; simp
  rw [hc] at hv ⊢
  rw [dec_cons, hv]
  simp only [ht]
  simp
theorem num_self (n : Int) (h : 0 ≤ n ∧ n ≤ 4611686018427387903) : varM (putM n) false = (n, [], false) := by
  have := rd_var h []
  rwa [List.append_nil] at this
theorem numOk_put (n : Int) (h : 0 ≤ n ∧ n ≤ 4611686018427387903) : numOk (putM n) = true := by
  unfold numOk; rw [num_self n h]; rfl
def setP (p : Pm) (id n : Int) : Pm :=
  if id = 1 then { p with i := n } else if id = 4 then { p with d := n } else if id = 5 then { p with s := n } else if id = 8 then { p with m := n } else p
def getP (p : Pm) (id : Int) : Int := if id = 1 then p.i else if id = 4 then p.d else if id = 5 then p.s else p.m
def addC (came : List Int) (id n : Int) : List Int := if n = 0 then came else came ++ [id]
theorem take_num (p : Pm) (id n : Int) (hid : id = 1 ∨ id = 4 ∨ id = 5 ∨ id = 8) (h : 0 ≤ n ∧ n ≤ 4611686018427387903) : takeM p id (putM n) = (setP p id n, true) := by
  rcases hid with rfl | rfl | rfl | rfl <;> simp [takeM, setP, numOk_put n h, num_self n h]
theorem dec_one (id n : Int) (R : List Int) (p : Pm) (came : List Int) (hid : id = 1 ∨ id = 4 ∨ id = 5 ∨ id = 8) (h : 0 ≤ n ∧ n ≤ 4611686018427387903) (hc : id ∉ came) (hp : getP p id = 0) :
    dec (oneM id n ++ R) p came = dec R (setP p id n) (addC came id n) := by
  by_cases h0 : n = 0
  · subst h0
    have : setP p id 0 = p := by
      obtain ⟨i, d, s, m, f⟩ := p
      rcases hid with rfl | rfl | rfl | rfl <;> simp [getP] at hp <;> simp [setP, hp]
    simp [oneM, addC, this]
  · have hi : oneM id n = item id (putM n) := by unfold oneM item; rw [if_neg h0]
    have hl := putM_le n
    rw [hi, dec_item id (putM n) R p came (by rcases hid with rfl | rfl | rfl | rfl <;> omega) (by omega), take_num p id n hid h, if_neg (fun h => hc h.2), if_pos rfl]
    unfold addC; rw [if_neg h0]
theorem dec_name (f R : List Int) (p : Pm) (came : List Int) (hf : f.length = 8) (hp : p.f.length = 8) (hc : (0 : Int) ∉ came) :
    dec (item 0 f ++ R) p came = dec R { p with f := f } (came ++ [0]) := by
  have ht : takeM p 0 f = ({ p with f := f }, true) := by
    unfold takeM
    rw [if_pos rfl, List.take_of_length_le (by omega)]
    have : splice p.f 0 f = f := by unfold splice; rw [List.take_zero, List.nil_append, List.drop_of_length_le (by omega), List.append_nil]
    rw [this, hf]; rfl
  rw [dec_item 0 f R p came (by omega) (by omega), ht, if_neg (fun h => hc h.2), if_pos rfl]
theorem dec_name2 (f R : List Int) (p : Pm) (came : List Int) (hf : f.length = 8) (hc : (0 : Int) ∈ came) : dec (item 0 f ++ R) p came = none := by
  rw [dec_item 0 f R p came (by omega) (by omega), if_pos ⟨by decide, hc⟩]
theorem dec_odd (x R : List Int) (p : Pm) (came : List Int) (hx : x.length ≤ 1000000) : dec (item 63 x ++ R) p came = dec R p (came ++ [63]) := by
  have ht : takeM p 63 x = (p, true) := by simp [takeM]
  rw [dec_item 63 x R p came (by omega) hx, ht, if_neg (fun h => by have := h.1; revert this; decide), if_pos rfl]
theorem addC_mem (came : List Int) (id n y : Int) : y ∈ addC came id n → y ∈ came ∨ y = id := by
  unfold addC; split
  · exact .inl
  · intro h; simpa using h
theorem addC_old (came : List Int) (id n y : Int) (h : y ∈ came) : y ∈ addC came id n := by
  unfold addC; split
  · exact h
  · simp [h]
theorem encP_items (p : Pm) : encP p = oneM 1 p.i ++ (oneM 4 p.d ++ (oneM 5 p.s ++ (oneM 8 p.m ++ item 0 p.f))) := by
  simp [encP, onesM, prs, item]

/-- beginnings -/
theorem getS_cut (n : Int) (h : 0 ≤ n ∧ n ≤ 4611686018427387903) (k : Nat) (hk : k < (putM n).length) : getS ((putM n).take k) = 0 := by
  obtain ⟨b, t, hb, hs, hl, _⟩ := put_head h
  rw [hb] at hk ⊢
  simp at hk
  cases k with
  | zero => rfl
  | succ k =>
    rw [List.take_succ_cons]
    show (if (b :: t.take k).length < szM b then 0 else szM b) = 0
    rw [if_pos (by simp; omega)]
theorem varM_cut (n : Int) (h : 0 ≤ n ∧ n ≤ 4611686018427387903) (k : Nat) (hk : k < (putM n).length) : varM ((putM n).take k) false = (0, [], true) := by
  unfold varM; rw [if_pos (.inr (getS_cut n h k hk))]
theorem textM_bad : textM [] true = ([], [], true) := by decide
theorem text_cut (x : List Int) (hx : x.length ≤ 1000000) (k : Nat) (hk : k < (putM x.length ++ x).length) : (textM ((putM x.length ++ x).take k) false).2.2 = true := by
  by_cases h : k < (putM x.length).length
  · rw [List.take_append_of_le_length (by omega)]
    unfold textM
    rw [varM_cut x.length (by omega) k h]
    decide
  · rw [List.take_append, List.take_of_length_le (l := putM _) (by omega)]
    unfold textM
    rw [rd_var (by omega)]
    rw [List.length_append] at hk
    rw [if_pos (by simp; omega)]
theorem item_cut (id : Int) (x : List Int) (hid : 0 ≤ id ∧ id ≤ 4611686018427387903) (hx : x.length ≤ 1000000) (k : Nat) (h0 : 0 < k) (hk : k < (item id x).length) (p : Pm) (came : List Int) : dec ((item id x).take k) p came = none := by
  have hbad : (textM (varM ((item id x).take k) false).2.1 (varM ((item id x).take k) false).2.2).2.2 = true := by
    unfold item at hk ⊢
    by_cases h : k < (putM id).length
    · rw [List.take_append_of_le_length (by omega), varM_cut id hid k h, textM_bad]
    · rw [List.take_append, List.take_of_length_le (l := putM id) (by omega), rd_var hid]
      rw [List.length_append] at hk
      exact text_cut x hx _ (by omega)
  match he : (item id x).take k with
  | [] =>
    have := congrArg List.length he
    rw [List.length_take, List.length_nil] at this
    omega
  | b :: bs => rw [he] at hbad; rw [dec_cons, if_pos (.inl hbad)]
theorem one_cut (id n : Int) (hid : id = 1 ∨ id = 4 ∨ id = 5 ∨ id = 8) (h : 0 ≤ n ∧ n ≤ 4611686018427387903) (k : Nat) (h0 : 0 < k) (hk : k < (oneM id n).length) (p : Pm) (came : List Int) : dec ((oneM id n).take k) p came = none := by
  have hn : n ≠ 0 := fun e => by subst e; simp [oneM] at hk
  have hi : oneM id n = item id (putM n) := by unfold oneM item; rw [if_neg hn]
  have hl := putM_le n
  rw [hi] at hk ⊢
  exact item_cut id (putM n) (by rcases hid with rfl | rfl | rfl | rfl <;> omega) (by omega) k h0 hk p came

/-- of a row of rows: a beginning of it is read up to where it is cut. -/
def noName (r : Option (Pm × List Int)) : Prop := r = none ∨ ∃ p came, r = some (p, came) ∧ (0 : Int) ∉ came
theorem noName_decC {r : Option (Pm × List Int)} (h : noName r) : decC r = (zeroPm, false) := by
  rcases h with rfl | ⟨p, came, rfl, hc⟩
  · rfl
  · unfold decC; simp only; rw [if_neg (fun h => hc h.1)]
theorem cut_one (id n : Int) (R : List Int) (hid : id = 1 ∨ id = 4 ∨ id = 5 ∨ id = 8) (h : 0 ≤ n ∧ n ≤ 4611686018427387903) (p : Pm) (came : List Int) (hc : id ∉ came) (hz : (0 : Int) ∉ came) (hp : getP p id = 0)
    (hR : ∀ k, k < R.length → noName (dec (R.take k) (setP p id n) (addC came id n))) (k : Nat) (hk : k < (oneM id n ++ R).length) : noName (dec ((oneM id n ++ R).take k) p came) := by
  by_cases hkl : k < (oneM id n).length
  · rw [List.take_append_of_le_length (by omega)]
    by_cases h0 : k = 0
    · subst h0; rw [List.take_zero, dec_nil]; exact .inr ⟨_, _, rfl, hz⟩
    · rw [one_cut id n hid h k (by omega) hkl]; exact .inl rfl
  · rw [List.take_append, List.take_of_length_le (l := oneM id n) (by omega), dec_one id n _ p came hid h hc hp]
    rw [List.length_append] at hk
    exact hR _ (by omega)
theorem cut_name (f : List Int) (hf : f.length = 8) (p : Pm) (came : List Int) (hz : (0 : Int) ∉ came) (k : Nat) (hk : k < (item 0 f).length) : noName (dec ((item 0 f).take k) p came) := by
  by_cases h0 : k = 0
  · subst h0; rw [List.take_zero, dec_nil]; exact .inr ⟨_, _, rfl, hz⟩
  · rw [item_cut 0 f (by omega) (by omega) k (by omega) hk]; exact .inl rfl
theorem addC_not (came : List Int) (id n y : Int) (h : y ∉ came) (h2 : y ≠ id) : y ∉ addC came id n := fun h3 => by
  rcases addC_mem _ _ _ _ h3 with h4 | h4
  · exact h h4
  · exact h2 h4
structure Pm.small (p : Pm) : Prop where
  i : 0 ≤ p.i ∧ p.i ≤ 4611686018427387903
  d : 0 ≤ p.d ∧ p.d ≤ 4611686018427387903
  s : 0 ≤ p.s ∧ p.s ≤ 4611686018427387903
  m : 0 ≤ p.m ∧ p.m ≤ 4611686018427387903
  f : p.f.length = 8
theorem Pm.ok.small {p : Pm} (h : p.ok) (hr : rightM p = true) : p.small := by
  have hr := (rightM_eq p).1 hr
  have b1 := bdU64 h.wi; have b2 := bdU64 h.wd; have b3 := bdU64 h.ws; have b4 := bdU64 h.wm
  exact ⟨by omega, by omega, by omega, by omega, h.len⟩
theorem dec_enc (p : Pm) (h : p.ok) (hr : rightM p = true) : decF (encP p) = (p, true) := by
  have hs := h.small hr
  obtain ⟨i, d, s, m, f⟩ := p
  obtain ⟨h1, h2, h3, h4, h5⟩ := hs
  simp only at h1 h2 h3 h4 h5
  rw [decF_dec, encP_items]
  simp only
  rw [dec_one 1 i _ _ _ (.inl rfl) h1 (by simp) rfl]
  rw [dec_one 4 d _ _ _ (.inr (.inl rfl)) h2 (addC_not _ _ _ _ (by simp) (by decide)) rfl]
  rw [dec_one 5 s _ _ _ (.inr (.inr (.inl rfl))) h3 (addC_not _ _ _ _ (addC_not _ _ _ _ (by simp) (by decide)) (by decide)) rfl]
  rw [dec_one 8 m _ _ _ (.inr (.inr (.inr rfl))) h4 (addC_not _ _ _ _ (addC_not _ _ _ _ (addC_not _ _ _ _ (by simp) (by decide)) (by decide)) (by decide)) rfl]
  rw [← List.append_nil (item 0 f), dec_name f [] _ _ h5 rfl (addC_not _ _ _ _ (addC_not _ _ _ _ (addC_not _ _ _ _ (addC_not _ _ _ _ (by simp) (by decide)) (by decide)) (by decide)) (by decide)), dec_nil]
  unfold decC
  simp only
  rw [if_pos ⟨by simp, hr⟩]
  rfl
theorem dec_cut (p : Pm) (h : p.ok) (hr : rightM p = true) (k : Nat) (hk : k < (encP p).length) : decF ((encP p).take k) = (zeroPm, false) := by
  have hs := h.small hr
  obtain ⟨i, d, s, m, f⟩ := p
  obtain ⟨h1, h2, h3, h4, h5⟩ := hs
  simp only at h1 h2 h3 h4 h5
  rw [decF_dec]
  apply noName_decC
  rw [encP_items] at hk ⊢
  simp only at hk ⊢
  refine cut_one 1 i _ (.inl rfl) h1 _ _ (by simp) (by simp) rfl (fun k hk => ?_) k hk
  refine cut_one 4 d _ (.inr (.inl rfl)) h2 _ _ (addC_not _ _ _ _ (by simp) (by decide)) (addC_not _ _ _ _ (by simp) (by decide)) rfl (fun k hk => ?_) k hk
  refine cut_one 5 s _ (.inr (.inr (.inl rfl))) h3 _ _ (addC_not _ _ _ _ (addC_not _ _ _ _ (by simp) (by decide)) (by decide)) (addC_not _ _ _ _ (addC_not _ _ _ _ (by simp) (by decide)) (by decide)) rfl (fun k hk => ?_) k hk
  refine cut_one 8 m _ (.inr (.inr (.inr rfl))) h4 _ _ (addC_not _ _ _ _ (addC_not _ _ _ _ (addC_not _ _ _ _ (by simp) (by decide)) (by decide)) (by decide)) (addC_not _ _ _ _ (addC_not _ _ _ _ (addC_not _ _ _ _ (by simp) (by decide)) (by decide)) (by decide)) rfl (fun k hk => ?_) k hk
  exact cut_name f h5 _ _ (addC_not _ _ _ _ (addC_not _ _ _ _ (addC_not _ _ _ _ (addC_not _ _ _ _ (by simp) (by decide)) (by decide)) (by decide)) (by decide)) k hk
end Go.Proofs.Ytooneejimladdaa
