/- texts of the proof, laid together: HloD, Hlo15, Hlo16, Hlo17. -/
import Derived.Test.YtlpajohhnngbmaaHlo12
namespace Go.Proofs.Ytlpajohhnngbmaa
open Go.RowKit
set_option linter.unusedVariables false

theorem decM_nil (k : Nat) (p : Pm) (came : List Int) : decM k [] p came = some (p, came) := by unfold decM; rfl
theorem decM_fuel : ∀ (n : Nat) (bs : List Int), bs.length ≤ n → ∀ (k k' : Nat) (p : Pm) (came : List Int), bs.length ≤ k → bs.length ≤ k' → decM k bs p came = decM k' bs p came
  | n, [], _, k, k', p, came, _, _ => by rw [decM_nil, decM_nil]
  | 0, b :: bs, h, _, _, _, _, _, _ => by simp at h
  | n + 1, b :: bs, h, 0, _, _, _, h1, _ => by simp at h1
  | n + 1, b :: bs, h, _, 0, _, _, _, h2 => by simp at h2
  | n + 1, b :: bs, h, k + 1, k' + 1, p, came, h1, h2 => by
    have e1 := varM_lt b bs
    have e2 := textM_len (varM (b :: bs) false).2.1 (varM (b :: bs) false).2.2
    simp at h h1 h2
    unfold decM
    simp only
    split
    · rfl
    · split
      · exact decM_fuel n _ (by omega) _ _ _ _ (by omega) (by omega)
      · rfl
theorem decM_cons (k : Nat) (b : Int) (bs : List Int) (p : Pm) (came : List Int) : decM (k + 1) (b :: bs) p came =
    if (textM (varM (b :: bs) false).2.1 (varM (b :: bs) false).2.2).2.2 = true ∨ (knownId (varM (b :: bs) false).1 = true ∧ (varM (b :: bs) false).1 ∈ came) then none
    else if (takeM p (varM (b :: bs) false).1 (textM (varM (b :: bs) false).2.1 (varM (b :: bs) false).2.2).1).2 = true then
      decM k (textM (varM (b :: bs) false).2.1 (varM (b :: bs) false).2.2).2.1 (takeM p (varM (b :: bs) false).1 (textM (varM (b :: bs) false).2.1 (varM (b :: bs) false).2.2).1).1 (came ++ [(varM (b :: bs) false).1]) else none := rfl
def dec (bs : List Int) (p : Pm) (came : List Int) : Option (Pm × List Int) := decM bs.length bs p came
theorem decF_dec (bs : List Int) : decF bs = decC (dec bs zeroPm []) := rfl
theorem dec_nil (p : Pm) (came : List Int) : dec [] p came = some (p, came) := decM_nil _ _ _
theorem dec_cons (b : Int) (bs : List Int) (p : Pm) (came : List Int) : dec (b :: bs) p came =
    if (textM (varM (b :: bs) false).2.1 (varM (b :: bs) false).2.2).2.2 = true ∨ (knownId (varM (b :: bs) false).1 = true ∧ (varM (b :: bs) false).1 ∈ came) then none
    else if (takeM p (varM (b :: bs) false).1 (textM (varM (b :: bs) false).2.1 (varM (b :: bs) false).2.2).1).2 = true then
      dec (textM (varM (b :: bs) false).2.1 (varM (b :: bs) false).2.2).2.1 (takeM p (varM (b :: bs) false).1 (textM (varM (b :: bs) false).2.1 (varM (b :: bs) false).2.2).1).1 (came ++ [(varM (b :: bs) false).1]) else none := by
  have e1 := varM_lt b bs
  have e2 := textM_len (varM (b :: bs) false).2.1 (varM (b :: bs) false).2.2
  show decM (bs.length + 1) (b :: bs) p came = _
  rw [decM_cons]
  split
  · rfl
  · split
    · exact decM_fuel bs.length _ (by omega) _ _ _ _ (by omega) (Nat.le_refl _)
    · rfl
def item (id : Int) (x : List Int) : List Int := putM id ++ (putM x.length ++ x)
theorem dec_item (id : Int) (x R : List Int) (p : Pm) (came : List Int) (hid : 0 ≤ id ∧ id ≤ 4611686018427387903) (hx : x.length ≤ 1000000) :
    dec (item id x ++ R) p came = if knownId id = true ∧ id ∈ came then none else if (takeM p id x).2 = true then dec R (takeM p id x).1 (came ++ [id]) else none := by
  obtain ⟨b, t, hb, _⟩ := put_head hid
  have hv : varM (item id x ++ R) false = (id, (putM x.length ++ x) ++ R, false) := by
    unfold item; rw [List.append_assoc]; exact rd_var hid _
  have ht := rd_text x R (by omega)
  have hc : item id x ++ R = b :: (t ++ (putM x.length ++ x) ++ R) := by unfold item; rw [hb]; simp
  rw [hc] at hv ⊢
  rw [dec_cons, hv]
  simp only [ht]
  simp
theorem num_self (n : Int) (h : 0 ≤ n ∧ n ≤ 4611686018427387903) : varM (putM n) false = (n, [], false) := by
  have := rd_var h []
  rwa [List.append_nil] at this
theorem numOk_put (n : Int) (h : 0 ≤ n ∧ n ≤ 4611686018427387903) : numOk (putM n) = true := by
  unfold numOk; rw [num_self n h]; rfl
def setP (p : Pm) (id n : Int) : Pm :=
  if id = 1 then { p with i := n } else if id = 4 then { p with d := n } else if id = 5 then { p with s := n } else if id = 8 then { p with m := n } else p
def getP (p : Pm) (id : Int) : Int := if id = 1 then p.i else if id = 4 then p.d else if id = 5 then p.s else p.m
def addC (came : List Int) (id n : Int) : List Int := if n = 0 then came else came ++ [id]
theorem take_num (p : Pm) (id n : Int) (hid : id = 1 ∨ id = 4 ∨ id = 5 ∨ id = 8) (h : 0 ≤ n ∧ n ≤ 4611686018427387903) : takeM p id (putM n) = (setP p id n, true) := by
  rcases hid with rfl | rfl | rfl | rfl <;> simp [takeM, setP, numOk_put n h, num_self n h]
theorem dec_one (id n : Int) (R : List Int) (p : Pm) (came : List Int) (hid : id = 1 ∨ id = 4 ∨ id = 5 ∨ id = 8) (h : 0 ≤ n ∧ n ≤ 4611686018427387903) (hc : id ∉ came) (hp : getP p id = 0) :
    dec (oneM id n ++ R) p came = dec R (setP p id n) (addC came id n) := by
  by_cases h0 : n = 0
  · subst h0
    have : setP p id 0 = p := by
      obtain ⟨i, d, s, m, f⟩ := p
      rcases hid with rfl | rfl | rfl | rfl <;> simp [getP] at hp <;> simp [setP, hp]
    simp [oneM, addC, this]
  · have hi : oneM id n = item id (putM n) := by unfold oneM item; rw [if_neg h0]
    have hl := putM_le n
    rw [hi, dec_item id (putM n) R p came (by rcases hid with rfl | rfl | rfl | rfl <;> omega) (by omega), take_num p id n hid h, if_neg (fun h => hc h.2), if_pos rfl]
    unfold addC; rw [if_neg h0]
theorem dec_name (f R : List Int) (p : Pm) (came : List Int) (hf : f.length = 8) (hp : p.f.length = 8) (hc : (0 : Int) ∉ came) :
    dec (item 0 f ++ R) p came = dec R { p with f := f } (came ++ [0]) := by
  have ht : takeM p 0 f = ({ p with f := f }, true) := by
    unfold takeM
    rw [if_pos rfl, List.take_of_length_le (by omega)]
    have : splice p.f 0 f = f := by unfold splice; rw [List.take_zero, List.nil_append, List.drop_of_length_le (by omega), List.append_nil]
    rw [this, hf]; rfl
  rw [dec_item 0 f R p came (by omega) (by omega), ht, if_neg (fun h => hc h.2), if_pos rfl]
theorem dec_name2 (f R : List Int) (p : Pm) (came : List Int) (hf : f.length = 8) (hc : (0 : Int) ∈ came) : dec (item 0 f ++ R) p came = none := by
  rw [dec_item 0 f R p came (by omega) (by omega), if_pos ⟨by decide, hc⟩]
theorem dec_odd (x R : List Int) (p : Pm) (came : List Int) (hx : x.length ≤ 1000000) : dec (item 63 x ++ R) p came = dec R p (came ++ [63]) := by
  have ht : takeM p 63 x = (p, true) := by simp [takeM]
  rw [dec_item 63 x R p came (by omega) hx, ht, if_neg (fun h => by have := h.1; revert this; decide), if_pos rfl]
theorem addC_mem (came : List Int) (id n y : Int) : y ∈ addC came id n → y ∈ came ∨ y = id := by
  unfold addC; split
  · exact .inl
  · intro h; simpa using h
theorem addC_old (came : List Int) (id n y : Int) (h : y ∈ came) : y ∈ addC came id n := by
  unfold addC; split
  · exact h
  · simp [h]
theorem encP_items (p : Pm) : encP p = oneM 1 p.i ++ (oneM 4 p.d ++ (oneM 5 p.s ++ (oneM 8 p.m ++ item 0 p.f))) := by
  simp [encP, onesM, prs, item]

/-- beginnings -/
theorem addC_not (came : List Int) (id n y : Int) (h : y ∉ came) (h2 : y ≠ id) : y ∉ addC came id n := fun h3 => by
  rcases addC_mem _ _ _ _ h3 with h4 | h4
  · exact h h4
  · exact h2 h4
structure Pm.small (p : Pm) : Prop where
  i : 0 ≤ p.i ∧ p.i ≤ 4611686018427387903
  d : 0 ≤ p.d ∧ p.d ≤ 4611686018427387903
  s : 0 ≤ p.s ∧ p.s ≤ 4611686018427387903
  m : 0 ≤ p.m ∧ p.m ≤ 4611686018427387903
  f : p.f.length = 8
theorem Pm.ok.small {p : Pm} (h : p.ok) (hr : rightM p = true) : p.small := by
  have hr := (rightM_eq p).1 hr
  have b1 := bdU64 h.wi; have b2 := bdU64 h.wd; have b3 := bdU64 h.ws; have b4 := bdU64 h.wm
  exact ⟨by omega, by omega, by omega, by omega, h.len⟩
theorem dec_enc (p : Pm) (h : p.ok) (hr : rightM p = true) : decF (encP p) = (p, true) := by
  have hs := h.small hr
  obtain ⟨i, d, s, m, f⟩ := p
  obtain ⟨h1, h2, h3, h4, h5⟩ := hs
  simp only at h1 h2 h3 h4 h5
  rw [decF_dec, encP_items]
  simp only
  rw [dec_one 1 i _ _ _ (.inl rfl) h1 (by simp) rfl]
  rw [dec_one 4 d _ _ _ (.inr (.inl rfl)) h2 (addC_not _ _ _ _ (by simp) (by decide)) rfl]
  rw [dec_one 5 s _ _ _ (.inr (.inr (.inl rfl))) h3 (addC_not _ _ _ _ (addC_not _ _ _ _ (by simp) (by decide)) (by decide)) rfl]
  rw [dec_one 8 m _ _ _ (.inr (.inr (.inr rfl))) h4 (addC_not _ _ _ _ (addC_not _ _ _ _ (addC_not _ _ _ _ (by simp) (by decide)) (by decide)) (by decide)) rfl]
  rw [← List.append_nil (item 0 f), dec_name f [] _ _ h5 rfl (addC_not _ _ _ _ (addC_not _ _ _ _ (addC_not _ _ _ _ (addC_not _ _ _ _ (by simp) (by decide)) (by decide)) (by decide)) (by decide)), dec_nil]
  unfold decC
  simp only
  rw [if_pos ⟨by simp, hr⟩]
  rfl
end Go.Proofs.Ytlpajohhnngbmaa
namespace Go.Proofs.Ytlpajohhnngbmaa
open Go.RowKit
set_option linter.unusedVariables false
set_option linter.unusedSimpArgs false

def kindM (sp : Bool) : Int := if sp then 20 else 1
theorem getD_take (m : List Int) (k i : Nat) (hi : i < k) : (m.take k).getD i 0 = m.getD i 0 := by
  rw [List.getD_eq_getElem?_getD, List.getD_eq_getElem?_getD, List.getElem?_take, if_pos hi]
/-- a beginning of a message: whole only when it is all of it. -/
theorem sizeH_msg (sp kn : Bool) (body : List Int) (j : Nat) (hb : body.length ≤ 200) (hk : sp = true → kn = true) (hj : j ≤ 3 + body.length) :
    (sizeHM sp kn ((msgM (kindM sp) body).take j)).2.2 = 0 ∧ (sizeHM sp kn ((msgM (kindM sp) body).take j)).2.1 = decide (j = 3 + body.length) ∧ (j = 3 + body.length → (sizeHM sp kn ((msgM (kindM sp) body).take j)).1 = j) := by
  have hl : ((msgM (kindM sp) body).take j).length = j := by rw [List.length_take, msgM_len]; omega
  have hneg : ¬ (0 < j ∧ (((msgM (kindM sp) body).take j).getD 0 0 ≠ (if sp then 20 else 1) ∨ (sp = true ∧ kn = false))) := by
    rintro ⟨h0, h | ⟨h1, h2⟩⟩
    · rw [getD_take _ _ _ h0] at h; exact h rfl
    · rw [hk h1] at h2; cases h2
  unfold sizeHM
  rw [hl, if_neg hneg]
  by_cases h3 : j < 3
  · rw [if_pos h3]
    exact ⟨rfl, (decide_eq_false (by omega)).symm, fun h => by omega⟩
  · rw [if_neg h3, getD_take _ _ _ (by omega : 1 < j), getD_take _ _ _ (by omega : 2 < j)]
    have e1 : (msgM (kindM sp) body).getD 1 0 = (body.length : Int) / 256 := rfl
    have e2 : (msgM (kindM sp) body).getD 2 0 = (body.length : Int) % 256 := rfl
    rw [e1, e2]
    have e3 : (body.length : Int) / 256 * 256 + (body.length : Int) % 256 = (body.length : Int) := by omega
    rw [e3, if_neg (by omega)]
    simp only [Int.toNat_natCast]
    refine ⟨trivial, ?_, fun h => h.symm⟩
    by_cases h4 : j = 3 + body.length
    · rw [decide_eq_true h4, decide_eq_true (by omega)]
    · rw [decide_eq_false h4, decide_eq_false (by omega)]
def spI (sp : Bool) : Int := if sp then 1 else 0
def heardAll (s : Sd) (sp : Bool) (M : List Int) : Sd × Int := if sp then endedM (heardM (putIn s sp M) sp) M else greetM (heardM (putIn s sp M) sp) M
theorem ended_ok (s : Sd) (b : List Int) (h : b.drop 3 = finM s.sh (!s.asks)) : endedM s b = ({ s with done := true, o1 := if s.asks = true then msgM 20 (finM s.sh true) else s.o1 }, 0) := if_pos h
theorem whole_all (s : Sd) (sp : Bool) (l : List Int) : wholeMsgM s sp l.length l = if sp then endedM s l else greetM s l := by
  unfold wholeMsgM
  simp only [List.take_length, Nat.lt_irrefl, and_false, if_false]
theorem feed_step (s : Sd) (sp : Bool) (body : List Int) (j k : Nat) (hb : body.length ≤ 200) (hk : sp = true → s.knows = true) (hc : s.code = 0) (hh : (if sp then s.h1 else s.h0) = false)
    (hi : inM s sp = (msgM (kindM sp) body).take j) (hjk : j + k ≤ 3 + body.length) (h0 : 0 < k) :
    FeedM s (spI sp) (((msgM (kindM sp) body).drop j).take k) =
      if j + k = 3 + body.length then ({ (heardAll s sp (msgM (kindM sp) body)).1 with code := (heardAll s sp (msgM (kindM sp) body)).2 }, (heardAll s sp (msgM (kindM sp) body)).2) else (putIn s sp ((msgM (kindM sp) body).take (j + k)), 0) := by
  have hl : (((msgM (kindM sp) body).drop j).take k).length = k := by rw [List.length_take, List.length_drop, msgM_len]; omega
  have hap : inM s sp ++ ((msgM (kindM sp) body).drop j).take k = (msgM (kindM sp) body).take (j + k) := by rw [hi, List.take_add]
  have hsz := sizeH_msg sp s.knows body (j + k) hb hk hjk
  have hd : decide (spI sp = 1) = sp := by cases sp <;> rfl
  have hf : feedM s (spI sp) (((msgM (kindM sp) body).drop j).take k) =
      if j + k = 3 + body.length then heardAll s sp (msgM (kindM sp) body) else (putIn s sp ((msgM (kindM sp) body).take (j + k)), 0) := by
    unfold feedM
    rw [if_neg (by cases sp <;> decide), if_neg (by cases sp <;> simp [spI] at hh ⊢ <;> exact hh)]
    simp only [hd, hap, hsz.1]
    by_cases he : j + k = 3 + body.length
    · rw [if_neg (by rw [hsz.2.1, decide_eq_true he]; simp), if_pos he, hsz.2.2 he]
      have ht : (msgM (kindM sp) body).take (j + k) = msgM (kindM sp) body := List.take_of_length_le (by rw [msgM_len]; omega)
      rw [ht]
      rw [he, ← msgM_len (kindM sp) body, whole_all]
      rfl
    · rw [if_pos (.inr (by rw [hsz.2.1, decide_eq_false he])), if_neg he]
  unfold FeedM
  rw [hl, if_pos ⟨hc, h0⟩, hf]
  by_cases he : j + k = 3 + body.length
  · rw [if_pos he, if_pos he]
  · rw [if_neg he, if_neg he]
    have : (putIn s sp ((msgM (kindM sp) body).take (j + k))).code = 0 := by cases sp <;> exact hc
    cases sp <;> simp only [putIn] <;> rw [← hc] <;> rfl
theorem feed_none (s : Sd) (sp : Int) (hc : s.code = 0) : FeedM s sp [] = (s, 0) := by
  unfold FeedM; rw [if_neg (by simp), hc]
/-- the two sides, when y has had p0 and p1 bytes, and x q0 and q1. -/
structure Ph (psk : Int) (A B FA FB : List Int) (S : Int) (P Q : Pm) (X Y : Sd) (p0 p1 q0 q1 : Nat) : Prop where
  xa : X.asks = true
  xp : X.psk = psk
  xo : X.o0 = A
  xc : X.code = 0
  xi0 : X.i0 = B.take q0
  xi1 : X.i1 = FB.take q1
  xh0 : X.h0 = decide (q0 = B.length)
  xh1 : X.h1 = decide (q1 = 11)
  xk : X.knows = decide (q0 = B.length)
  xd : X.done = decide (q1 = 11)
  xo1 : X.o1 = if q1 = 11 then FA else []
  xs : q0 = B.length → X.sh = S ∧ X.th = Q
  ya : Y.asks = false
  yp : Y.psk = psk
  yc : Y.code = 0
  yi0 : Y.i0 = A.take p0
  yi1 : Y.i1 = FA.take p1
  yh0 : Y.h0 = decide (p0 = A.length)
  yh1 : Y.h1 = decide (p1 = 11)
  yk : Y.knows = decide (p0 = A.length)
  yd : Y.done = decide (p1 = 11)
  yo : p0 ≠ A.length → Y.o1 = B
  ys : p0 = A.length → Y.o0 = B ∧ Y.o1 = FB ∧ Y.sh = S ∧ Y.th = P
  lp0 : p0 ≤ A.length
  lq0 : q0 ≤ B.length
  lp1 : p1 ≤ 11
  lq1 : q1 ≤ 11
  c1 : 0 < q0 → p0 = A.length
  c2 : 0 < q1 → q0 = B.length
  c3 : 0 < p1 → q1 = 11
/-- what the two say. -/
structure Say (psk : Int) (ba bb A B FA FB : List Int) (S : Int) (P Q : Pm) : Prop where
  a : A = msgM 1 ba
  b : B = msgM 1 bb
  la : 8 ≤ ba.length ∧ ba.length ≤ 128
  lb : 8 ≤ bb.length ∧ bb.length ≤ 128
  s : S = keyedM psk (A ++ B)
  fa : FA = msgM 20 (finM S true)
  fb : FB = msgM 20 (finM S false)
  da : decF (A.drop 11) = (P, true)
  db : decF (B.drop 11) = (Q, true)
section
variable {psk : Int} {ba bb A B FA FB : List Int} {S : Int} {P Q : Pm} {X Y : Sd} {p0 p1 q0 q1 k : Nat}
theorem Say.lenA (h : Say psk ba bb A B FA FB S P Q) : A.length = 3 + ba.length := by rw [h.a, msgM_len]
theorem Say.lenB (h : Say psk ba bb A B FA FB S P Q) : B.length = 3 + bb.length := by rw [h.b, msgM_len]
theorem Say.lenFA (h : Say psk ba bb A B FA FB S P Q) : FA.length = 11 := by rw [h.fa, msgM_len, finM_len]
theorem Say.lenFB (h : Say psk ba bb A B FA FB S P Q) : FB.length = 11 := by rw [h.fb, msgM_len, finM_len]
theorem Ph.outX0 (h : Ph psk A B FA FB S P Q X Y p0 p1 q0 q1) : outM X false = A := by
  unfold outM; rw [if_neg (by rw [h.xa]; simp), h.xo]; rfl
theorem Ph.outX1 (h : Ph psk A B FA FB S P Q X Y p0 p1 q0 q1) : outM X true = if q1 = 11 then FA else [] := by
  unfold outM; rw [if_neg (by rw [h.xa]; simp), h.xo1]; rfl
theorem Ph.outY0 (h : Ph psk A B FA FB S P Q X Y p0 p1 q0 q1) : outM Y false = if p0 = A.length then B else [] := by
  unfold outM
  rw [h.ya, h.yk]
  by_cases hp : p0 = A.length
  · rw [if_neg (by simp [hp]), if_pos hp, (h.ys hp).1]; rfl
  · rw [if_pos (by simp [hp]), if_neg hp]
theorem Ph.outY1 (h : Ph psk A B FA FB S P Q X Y p0 p1 q0 q1) : outM Y true = if p0 = A.length then FB else [] := by
  unfold outM
  rw [h.ya, h.yk]
  by_cases hp : p0 = A.length
  · rw [if_neg (by simp [hp]), if_pos hp, (h.ys hp).2.1]; rfl
  · rw [if_pos (by simp [hp]), if_neg hp]
theorem Ph.stepY0 (h : Ph psk A B FA FB S P Q X Y p0 p1 q0 q1) (hs : Say psk ba bb A B FA FB S P Q) (hk : p0 + k ≤ A.length) :
    ∃ Y', FeedM Y 0 ((A.drop p0).take k) = (Y', 0) ∧ Ph psk A B FA FB S P Q X Y' (p0 + k) p1 q0 q1 := by
  have hla := hs.lenA
  by_cases h0 : k = 0
  · subst h0
    refine ⟨Y, ?_, h⟩
    rw [List.take_zero]; exact feed_none _ _ h.yc
  · have hp : p0 ≠ A.length := by omega
    have hz : q0 = 0 := by have := h.c1; omega
    have hz1 : q1 = 0 := by have := h.c2; have := hs.lenB; omega
    have hz2 : p1 = 0 := by have := h.c3; omega
    have hst := feed_step Y false ba p0 k (by have := hs.la; omega) (by intro h; cases h) h.yc (by simp only [h.yh0]; simpa using hp) (by show Y.i0 = _; rw [h.yi0, hs.a]; rfl) (by omega) (by omega)
    rw [show msgM (kindM false) ba = A from hs.a.symm] at hst
    rw [show spI false = 0 from rfl] at hst
    rw [hst]
    by_cases he : p0 + k = 3 + ba.length
    · rw [if_pos he]
      have hG : heardAll Y false A = ({ heardM (putIn Y false A) false with th := P, knows := true, o0 := Y.o1, sh := keyedM Y.psk (A ++ Y.o1), o1 := msgM 20 (finM (keyedM Y.psk (A ++ Y.o1)) false) }, 0) := by
        unfold heardAll greetM
        rw [if_neg (by decide), if_neg (by have := hs.la; omega), hs.da, if_neg (by simp), if_neg (by show ¬ Y.asks = true; rw [h.ya]; decide)]
        rfl
      rw [hG, h.yo hp, h.yp, ← hs.s, ← hs.fb]
      refine ⟨_, rfl, ?_⟩
      have hpe : p0 + k = A.length := by omega
      exact ⟨h.xa, h.xp, h.xo, h.xc, h.xi0, h.xi1, h.xh0, h.xh1, h.xk, h.xd, h.xo1, h.xs, h.ya, h.yp, rfl, by show A = _; rw [List.take_of_length_le (by omega)], h.yi1, by show true = _; rw [decide_eq_true hpe], h.yh1, by show true = _; rw [decide_eq_true hpe], h.yd,
        fun hn => absurd hpe hn, fun _ => ⟨rfl, rfl, rfl, rfl⟩, by omega, h.lq0, h.lp1, h.lq1, fun _ => hpe, h.c2, h.c3⟩
    · rw [if_neg he]
      have hpe : p0 + k ≠ A.length := by omega
      refine ⟨_, rfl, ?_⟩
      exact ⟨h.xa, h.xp, h.xo, h.xc, h.xi0, h.xi1, h.xh0, h.xh1, h.xk, h.xd, h.xo1, h.xs, h.ya, h.yp, h.yc, rfl, h.yi1, by show Y.h0 = _; rw [h.yh0, decide_eq_false hp, decide_eq_false hpe], h.yh1, by show Y.knows = _; rw [h.yk, decide_eq_false hp, decide_eq_false hpe], h.yd,
        fun _ => h.yo hp, fun hn => absurd hn hpe, by omega, h.lq0, h.lp1, h.lq1, fun h => by omega, h.c2, h.c3⟩
theorem Ph.stepX0 (h : Ph psk A B FA FB S P Q X Y p0 p1 q0 q1) (hs : Say psk ba bb A B FA FB S P Q) (hp : p0 = A.length) (hk : q0 + k ≤ B.length) :
    ∃ X', FeedM X 0 ((B.drop q0).take k) = (X', 0) ∧ Ph psk A B FA FB S P Q X' Y p0 p1 (q0 + k) q1 := by
  have hlb := hs.lenB
  by_cases h0 : k = 0
  · subst h0
    refine ⟨X, ?_, h⟩
    rw [List.take_zero]; exact feed_none _ _ h.xc
  · have hq : q0 ≠ B.length := by omega
    have hz1 : q1 = 0 := by have := h.c2; omega
    have hst := feed_step X false bb q0 k (by have := hs.lb; omega) (by intro h; cases h) h.xc (by simp only [h.xh0]; simpa using hq) (by show X.i0 = _; rw [h.xi0, hs.b]; rfl) (by omega) (by omega)
    rw [show msgM (kindM false) bb = B from hs.b.symm] at hst
    rw [show spI false = 0 from rfl] at hst
    rw [hst]
    by_cases he : q0 + k = 3 + bb.length
    · rw [if_pos he]
      have hG : heardAll X false B = ({ heardM (putIn X false B) false with th := Q, knows := true, sh := keyedM X.psk (X.o0 ++ B) }, 0) := by
        unfold heardAll greetM
        rw [if_neg (by decide), if_neg (by have := hs.lb; omega), hs.db, if_neg (by simp), if_pos (by show X.asks = true; rw [h.xa])]
        rfl
      rw [hG, h.xp, h.xo, ← hs.s]
      refine ⟨_, rfl, ?_⟩
      have hqe : q0 + k = B.length := by omega
      exact ⟨h.xa, h.xp, h.xo, rfl, by show B = _; rw [List.take_of_length_le (by omega)], h.xi1, by show true = _; rw [decide_eq_true hqe], h.xh1, by show true = _; rw [decide_eq_true hqe], h.xd, h.xo1, fun _ => ⟨rfl, rfl⟩,
        h.ya, h.yp, h.yc, h.yi0, h.yi1, h.yh0, h.yh1, h.yk, h.yd, h.yo, h.ys, h.lp0, by omega, h.lp1, h.lq1, fun _ => hp, fun _ => hqe, h.c3⟩
    · rw [if_neg he]
      have hqe : q0 + k ≠ B.length := by omega
      refine ⟨_, rfl, ?_⟩
      exact ⟨h.xa, h.xp, h.xo, h.xc, rfl, h.xi1, by show X.h0 = _; rw [h.xh0, decide_eq_false hq, decide_eq_false hqe], h.xh1, by show X.knows = _; rw [h.xk, decide_eq_false hq, decide_eq_false hqe], h.xd, h.xo1, fun hn => absurd hn hqe,
        h.ya, h.yp, h.yc, h.yi0, h.yi1, h.yh0, h.yh1, h.yk, h.yd, h.yo, h.ys, h.lp0, by omega, h.lp1, h.lq1, fun _ => hp, fun h => by omega, h.c3⟩
theorem Ph.stepX1 (h : Ph psk A B FA FB S P Q X Y p0 p1 q0 q1) (hs : Say psk ba bb A B FA FB S P Q) (hq : q0 = B.length) (hk : q1 + k ≤ 11) :
    ∃ X', FeedM X 1 ((FB.drop q1).take k) = (X', 0) ∧ Ph psk A B FA FB S P Q X' Y p0 p1 q0 (q1 + k) := by
  have hlb := hs.lenFB
  by_cases h0 : k = 0
  · subst h0
    refine ⟨X, ?_, h⟩
    rw [List.take_zero]; exact feed_none _ _ h.xc
  · have hn : q1 ≠ 11 := by omega
    have hz : p1 = 0 := by have := h.c3; omega
    have hst := feed_step X true (finM S false) q1 k (by rw [finM_len]; omega) (fun _ => by rw [h.xk, decide_eq_true hq]) h.xc (by simp only [h.xh1]; simpa using hn) (by show X.i1 = _; rw [h.xi1, hs.fb]; rfl) (by rw [finM_len]; omega) (by omega)
    rw [show msgM (kindM true) (finM S false) = FB from hs.fb.symm, finM_len] at hst
    rw [show spI true = 1 from rfl] at hst
    rw [hst]
    by_cases he : q1 + k = 3 + 8
    · rw [if_pos he]
      have hG : heardAll X true FB = ({ heardM (putIn X true FB) true with done := true, o1 := FA }, 0) := by
        have hsh : (heardM (putIn X true FB) true).sh = S := (h.xs hq).1
        have has : (heardM (putIn X true FB) true).asks = true := h.xa
        have e : (if (heardM (putIn X true FB) true).asks = true then msgM 20 (finM (heardM (putIn X true FB) true).sh true) else (heardM (putIn X true FB) true).o1) = FA := by rw [has, hsh, if_pos rfl, hs.fa]
        unfold heardAll
        rw [if_pos rfl, ended_ok _ _ (by rw [hsh, has, hs.fb]; rfl), e]
      rw [hG]
      refine ⟨_, rfl, ?_⟩
      have hqe : q1 + k = 11 := by omega
      exact ⟨h.xa, h.xp, h.xo, rfl, h.xi0, by show FB = _; rw [List.take_of_length_le (by omega)], h.xh0, by show true = _; rw [decide_eq_true hqe], h.xk, by show true = _; rw [decide_eq_true hqe], by show FA = _; rw [if_pos hqe], h.xs,
        h.ya, h.yp, h.yc, h.yi0, h.yi1, h.yh0, h.yh1, h.yk, h.yd, h.yo, h.ys, h.lp0, h.lq0, h.lp1, by omega, h.c1, fun _ => hq, fun _ => hqe⟩
    · rw [if_neg he]
      have hqe : q1 + k ≠ 11 := by omega
      refine ⟨_, rfl, ?_⟩
      exact ⟨h.xa, h.xp, h.xo, h.xc, h.xi0, rfl, h.xh0, by show X.h1 = _; rw [h.xh1, decide_eq_false hn, decide_eq_false hqe], h.xk, by show X.done = _; rw [h.xd, decide_eq_false hn, decide_eq_false hqe], by show X.o1 = _; rw [h.xo1, if_neg hn, if_neg hqe], h.xs,
        h.ya, h.yp, h.yc, h.yi0, h.yi1, h.yh0, h.yh1, h.yk, h.yd, h.yo, h.ys, h.lp0, h.lq0, h.lp1, by omega, h.c1, fun _ => hq, fun h => by omega⟩
theorem Ph.stepY1 (h : Ph psk A B FA FB S P Q X Y p0 p1 q0 q1) (hs : Say psk ba bb A B FA FB S P Q) (hq : q1 = 11) (hk : p1 + k ≤ 11) :
    ∃ Y', FeedM Y 1 ((FA.drop p1).take k) = (Y', 0) ∧ Ph psk A B FA FB S P Q X Y' p0 (p1 + k) q0 q1 := by
  have hla := hs.lenFA
  have hq0 : q0 = B.length := h.c2 (by omega)
  have hp0 : p0 = A.length := h.c1 (by have := hs.lenB; omega)
  by_cases h0 : k = 0
  · subst h0
    refine ⟨Y, ?_, h⟩
    rw [List.take_zero]; exact feed_none _ _ h.yc
  · have hn : p1 ≠ 11 := by omega
    have hst := feed_step Y true (finM S true) p1 k (by rw [finM_len]; omega) (fun _ => by rw [h.yk, decide_eq_true hp0]) h.yc (by simp only [h.yh1]; simpa using hn) (by show Y.i1 = _; rw [h.yi1, hs.fa]; rfl) (by rw [finM_len]; omega) (by omega)
    rw [show msgM (kindM true) (finM S true) = FA from hs.fa.symm, finM_len] at hst
    rw [show spI true = 1 from rfl] at hst
    rw [hst]
    by_cases he : p1 + k = 3 + 8
    · rw [if_pos he]
      have hG : heardAll Y true FA = ({ heardM (putIn Y true FA) true with done := true }, 0) := by
        have hsh : (heardM (putIn Y true FA) true).sh = S := (h.ys hp0).2.2.1
        have has : (heardM (putIn Y true FA) true).asks = false := h.ya
        have e : (if (heardM (putIn Y true FA) true).asks = true then msgM 20 (finM (heardM (putIn Y true FA) true).sh true) else (heardM (putIn Y true FA) true).o1) = (heardM (putIn Y true FA) true).o1 := by rw [has, if_neg (by decide)]
        unfold heardAll
        rw [if_pos rfl, ended_ok _ _ (by rw [hsh, has, hs.fa]; rfl), e]
      rw [hG]
      refine ⟨_, rfl, ?_⟩
      have hpe : p1 + k = 11 := by omega
      exact ⟨h.xa, h.xp, h.xo, h.xc, h.xi0, h.xi1, h.xh0, h.xh1, h.xk, h.xd, h.xo1, h.xs, h.ya, h.yp, rfl, h.yi0, by show FA = _; rw [List.take_of_length_le (by omega)], h.yh0, by show true = _; rw [decide_eq_true hpe], h.yk, by show true = _; rw [decide_eq_true hpe],
        h.yo, h.ys, h.lp0, h.lq0, by omega, h.lq1, h.c1, h.c2, fun _ => hq⟩
    · rw [if_neg he]
      have hpe : p1 + k ≠ 11 := by omega
      refine ⟨_, rfl, ?_⟩
      exact ⟨h.xa, h.xp, h.xo, h.xc, h.xi0, h.xi1, h.xh0, h.xh1, h.xk, h.xd, h.xo1, h.xs, h.ya, h.yp, h.yc, h.yi0, rfl, h.yh0, by show Y.h1 = _; rw [h.yh1, decide_eq_false hn, decide_eq_false hpe], h.yk, by show Y.done = _; rw [h.yd, decide_eq_false hn, decide_eq_false hpe],
        h.yo, h.ys, h.lp0, h.lq0, by omega, h.lq1, h.c1, h.c2, fun _ => hq⟩
theorem Ph.start (ha : X.asks = true) (hp : X.psk = psk) (h1 : X.o0 = A ∧ X.code = 0 ∧ X.i0 = [] ∧ X.i1 = [] ∧ X.h0 = false ∧ X.h1 = false ∧ X.knows = false ∧ X.done = false ∧ X.o1 = []) (hb : Y.asks = false) (hyp : Y.psk = psk)
    (h2 : Y.o1 = B ∧ Y.code = 0 ∧ Y.i0 = [] ∧ Y.i1 = [] ∧ Y.h0 = false ∧ Y.h1 = false ∧ Y.knows = false ∧ Y.done = false) (hs : Say psk ba bb A B FA FB S P Q) : Ph psk A B FA FB S P Q X Y 0 0 0 0 := by
  have la := hs.lenA; have lb := hs.lenB
  have e1 : decide (0 = A.length) = false := decide_eq_false (by omega)
  have e2 : decide (0 = B.length) = false := decide_eq_false (by omega)
  obtain ⟨x1, x2, x3, x4, x5, x6, x7, x8, x9⟩ := h1
  obtain ⟨y1, y2, y3, y4, y5, y6, y7, y8⟩ := h2
  exact ⟨ha, hp, x1, x2, x3, x4, by rw [e2, x5], x6, by rw [e2, x7], x8, x9, fun h => by omega, hb, hyp, y2, y3, y4, by rw [e1, y5], y6, by rw [e1, y7], y8, fun _ => y1, fun h => by omega, by omega, by omega, by omega, by omega,
    fun h => by omega, fun h => by omega, fun h => by omega⟩
/-- how many rounds are needed yet, of nine bytes each. -/
def needM (n : Nat) : Nat := (n + 8) / 9
def leftM (a b p0 p1 q0 q1 : Nat) : Nat := needM (a - p0) + needM (b - q0) + needM (11 - q1) + needM (11 - p1)
end
end Go.Proofs.Ytlpajohhnngbmaa
namespace Go.Proofs.Ytlpajohhnngbmaa
open Go.RowKit
set_option linter.unusedVariables false
set_option linter.unusedSimpArgs false

set_option maxRecDepth 100000 in
set_option maxHeartbeats 4000000 in
theorem Secret2_any (w : World) (p : Nat) (M J : List Nat) (s : Sd) (a0 a1 b0 b1 : Option Addr) (k0 k1 d0 d1 : Nat) (h : SdAt w p M J s a0 a1 b0 b1 k0 k1 d0 d1) (hk : s.knows = true) (hd : s.done = true) :
    Makes Try.prog 13 #[.pointer (some ⟨p, 0, none⟩), .int .i64 2] w (.tuple #[.int .u64 (keyedM s.sh [100, 97, 116, 97]), .bool true]) := by
  have c8 := cell_row h.row 8 (.int .u64 s.sh) rfl
  have c9 := cell_row h.row 9 (.bool s.knows) rfl
  have c10 := cell_row h.row 10 (.bool s.done) rfl
  rw [hk] at c9
  rw [hd] at c10
  have HDE := Lib.hid (fun W => derive_any W s.sh ⟨#[100, 97, 116, 97]⟩ (by decide))
  have HDN : Hid (keyedM s.sh (natsOf ⟨#[100, 97, 116, 97]⟩) = keyedM s.sh [100, 97, 116, 97]) := Lib.hid rfl
  rw [HDN.out] at HDE
  generalize keyedM s.sh [100, 97, 116, 97] = kx at HDE ⊢
  generalize s.sh = sh at c8 HDE ⊢
  clear h HDN hk hd
  go_enter Try.func13, Try.ntmps13
  go_wp2_with fail
  refine Calls.mono (HDE.out _) ?_
  rintro e w1 ⟨rfl, hb⟩
  go_wp2_with fail
  go_ret2
  exact ⟨rfl, hb⟩

def posC (p0 p1 : Nat) : Obj := .cells ([.int .i64 p0, .int .i64 p1] : List Value).toArray 59 (0, 0)
structure Two (bse : Nat) (w : World) (px py gw gc : Nat) (X Y : Sd) (p0 p1 q0 q1 : Nat) : Prop where
  sd : ∃ Mx Kx My Ky x0 x1 x2 x3 y0 y1 y2 y3 c0 c1 c2 c3 d0 d1 d2 d3, SdAt w px Mx Kx X x0 x1 x2 x3 c0 c1 c2 c3 ∧ SdAt w py My Ky Y y0 y1 y2 y3 d0 d1 d2 d3 ∧ (∀ u ∈ Mx, bse ≤ u) ∧ (∀ u ∈ My, bse ≤ u) ∧
    (∀ u, (u ∈ Mx ∨ u ∈ Kx) → u ∉ My ∧ u ∉ Ky ∧ u ≠ gw ∧ u ≠ gc) ∧ (∀ u, (u ∈ My ∨ u ∈ Ky) → u ≠ gw ∧ u ≠ gc)
  rw : w.heap[gw]? = some (posC p0 p1)
  rc : w.heap[gc]? = some (posC q0 q1)
  ne : gw ≠ gc
  bw : bse ≤ gw
  bc : bse ≤ gc
  bs : bse ≤ w.heap.size
section
variable {bse : Nat} {w y : World} {px py gw gc : Nat} {X Y : Sd} {p0 p1 q0 q1 : Nat}
theorem Two.swap (h : Two bse w px py gw gc X Y p0 p1 q0 q1) : Two bse w py px gc gw Y X q0 q1 p0 p1 := by
  obtain ⟨⟨Mx, Kx, My, Ky, x0, x1, x2, x3, y0, y1, y2, y3, c0, c1, c2, c3, d0, d1, d2, d3, hx, hy, h1, h2, h3, h4⟩, r1, r2, ne, b1, b2, b3⟩ := h
  exact ⟨⟨My, Ky, Mx, Kx, y0, y1, y2, y3, x0, x1, x2, x3, d0, d1, d2, d3, c0, c1, c2, c3, hy, hx, h2, h1, fun u hu => ⟨fun hm => by have := h3 u (.inl hm); rcases hu with h | h; exact this.1 h; exact this.2.1 h, fun hm => by have := h3 u (.inr hm); rcases hu with h | h; exact this.1 h; exact this.2.1 h, (h4 u hu).2, (h4 u hu).1⟩, fun u hu => ⟨(h3 u hu).2.2.2, (h3 u hu).2.2.1⟩⟩, r2, r1, ne.symm, b2, b1, b3⟩
theorem Two.below (h : Two bse w px py gw gc X Y p0 p1 q0 q1) (hb : Below w.heap.size w y) : Two bse y px py gw gc X Y p0 p1 q0 q1 := by
  obtain ⟨⟨Mx, Kx, My, Ky, x0, x1, x2, x3, y0, y1, y2, y3, c0, c1, c2, c3, d0, d1, d2, d3, hx, hy, h1, h2, h3, h4⟩, r1, r2, ne, b1, b2, b3⟩ := h
  exact ⟨⟨Mx, Kx, My, Ky, x0, x1, x2, x3, y0, y1, y2, y3, c0, c1, c2, c3, d0, d1, d2, d3, hx.below hb, hy.below hb, h1, h2, h3, h4⟩, (hb.block gw (lt_of_block r1)).trans r1, (hb.block gc (lt_of_block r2)).trans r2, ne, b1, b2, Nat.le_trans b3 hb.size⟩
theorem Two.setW (h : Two bse w px py gw gc X Y p0 p1 q0 q1) (k : Nat) (v : Value) (z0 z1 : Nat) (hz : ([.int .i64 p0, .int .i64 p1] : List Value).set k v = [.int .i64 z0, .int .i64 z1]) :
    Two bse (w.setCell ⟨gw, k, none⟩ v) px py gw gc X Y z0 z1 q0 q1 ∧ Below bse w (w.setCell ⟨gw, k, none⟩ v) := by
  obtain ⟨⟨Mx, Kx, My, Ky, x0, x1, x2, x3, y0, y1, y2, y3, c0, c1, c2, c3, d0, d1, d2, d3, hx, hy, h1, h2, h3, h4⟩, r1, r2, ne, b1, b2, b3⟩ := h
  have ho : Off [gw] w (w.setCell ⟨gw, k, none⟩ v) := (Off.refl [gw] w).setCell v
  refine ⟨⟨⟨Mx, Kx, My, Ky, x0, x1, x2, x3, y0, y1, y2, y3, c0, c1, c2, c3, d0, d1, d2, d3,
    hx.off ho (fun u hu hm => by rw [List.mem_singleton.1 hu] at hm; exact (h3 _ (.inl hm)).2.2.1 rfl) (fun u hu hm => by rw [List.mem_singleton.1 hu] at hm; exact (h3 _ (.inr hm)).2.2.1 rfl),
    hy.off ho (fun u hu hm => by rw [List.mem_singleton.1 hu] at hm; exact (h4 _ (.inl hm)).1 rfl) (fun u hu hm => by rw [List.mem_singleton.1 hu] at hm; exact (h4 _ (.inr hm)).1 rfl), h1, h2, h3, h4⟩, ?_, ?_, ne, b1, b2, Nat.le_trans b3 ho.size⟩,
    ho.below b3 (fun u hu => by rw [List.mem_singleton.1 hu]; exact b1)⟩
  · have := row_set r1 k v
    rw [hz] at this
    exact this
  · rw [ho.block gc (lt_of_block r2) (by simpa using ne.symm)]; exact r2
theorem Two.feedY (h : Two bse w px py gw gc X Y p0 p1 q0 q1) (sp : Int) (a : Option Addr) (len cap : Nat) (bs : List Int) (hsum : Y.i0.length + Y.i1.length + len ≤ 100000) (hI : IntsK .u8 w a len bs) :
    Calls Try.prog 12 #[.pointer (some ⟨py, 0, none⟩), .int .i64 sp, .slice a len cap] w fun e w' => e = .returned (.int .i64 (FeedM Y sp bs).2) ∧ Two bse w' px py gw gc X (FeedM Y sp bs).1 p0 p1 q0 q1 ∧ Below bse w w' := by
  obtain ⟨⟨Mx, Kx, My, Ky, x0, x1, x2, x3, y0, y1, y2, y3, c0, c1, c2, c3, d0, d1, d2, d3, hx, hy, h1, h2, h3, h4⟩, r1, r2, ne, b1, b2, b3⟩ := h
  refine Calls.mono (Feed_any w py My Ky Y y0 y1 y2 y3 d0 d1 d2 d3 hy sp a len cap bs hsum hI) ?_
  rintro e w' ⟨rfl, M2, K2, z0, z1, z2, z3, e0, e1, e2, e3, hs, ho, hm, hk⟩
  have g1 := lt_of_block r1
  have g2 := lt_of_block r2
  refine ⟨rfl, ⟨⟨Mx, Kx, M2, K2, x0, x1, x2, x3, z0, z1, z2, z3, c0, c1, c2, c3, e0, e1, e2, e3,
    hx.off ho (fun u hu hm => (h3 u (.inl hm)).1 hu) (fun u hu hm => (h3 u (.inr hm)).1 hu), hs, h1, fun u hu => by rcases hm u hu with h | h; exact h2 u h; omega,
    fun u hu => ⟨fun hu2 => by rcases hm u hu2 with h | h; exact (h3 u hu).1 h; have := hx.lt u hu; omega, fun hu2 => by rcases hk u hu2 with h | h; exact (h3 u hu).2.1 h; have := hx.lt u hu; omega, (h3 u hu).2.2⟩,
    fun u hu => by
      rcases hu with hu | hu
      · rcases hm u hu with h | h; exact h4 u (.inl h); omega
      · rcases hk u hu with h | h; exact h4 u (.inr h); omega⟩,
    (ho.block gw g1 (fun hu => (h4 gw (.inl hu)).1 rfl)).trans r1, (ho.block gc g2 (fun hu => (h4 gc (.inl hu)).2 rfl)).trans r2, ne, b1, b2, Nat.le_trans b3 ho.size⟩, ho.below b3 h2⟩
theorem Two.outX (h : Two bse w px py gw gc X Y p0 p1 q0 q1) (sp : Bool) : Calls Try.prog 10 #[.pointer (some ⟨px, 0, none⟩), .int .i64 (sp.toNat : Nat)] w (OutR w (outM X sp)) := by
  obtain ⟨⟨Mx, Kx, My, Ky, x0, x1, x2, x3, y0, y1, y2, y3, c0, c1, c2, c3, d0, d1, d2, d3, hx, hy, h1, h2, h3, h4⟩, r1, r2, ne, b1, b2, b3⟩ := h
  exact Out_any w px Mx Kx X x0 x1 x2 x3 c0 c1 c2 c3 hx sp
theorem Two.theirsX (h : Two bse w px py gw gc X Y p0 p1 q0 q1) : Makes Try.prog 14 #[.pointer (some ⟨px, 0, none⟩)] w (.tuple #[.agg X.th.row.toArray, .bool X.knows]) := by
  obtain ⟨⟨Mx, Kx, My, Ky, x0, x1, x2, x3, y0, y1, y2, y3, c0, c1, c2, c3, d0, d1, d2, d3, hx, hy, h1, h2, h3, h4⟩, r1, r2, ne, b1, b2, b3⟩ := h
  exact Theirs_any w px Mx Kx X x0 x1 x2 x3 c0 c1 c2 c3 hx
theorem Two.okX (h : Two bse w px py gw gc X Y p0 p1 q0 q1) : X.th.ok := by
  obtain ⟨⟨Mx, Kx, My, Ky, x0, x1, x2, x3, y0, y1, y2, y3, c0, c1, c2, c3, d0, d1, d2, d3, hx, hy, h1, h2, h3, h4⟩, r1, r2, ne, b1, b2, b3⟩ := h
  exact hx.ok
theorem Two.secX (h : Two bse w px py gw gc X Y p0 p1 q0 q1) : Makes Try.prog 13 #[.pointer (some ⟨px, 0, none⟩), .int .i64 1] w (.tuple #[.int .u64 (secM X false).1, .bool (secM X false).2]) := by
  obtain ⟨⟨Mx, Kx, My, Ky, x0, x1, x2, x3, y0, y1, y2, y3, c0, c1, c2, c3, d0, d1, d2, d3, hx, hy, h1, h2, h3, h4⟩, r1, r2, ne, b1, b2, b3⟩ := h
  exact Secret_any w px Mx Kx X x0 x1 x2 x3 c0 c1 c2 c3 hx
theorem Two.sec2X (h : Two bse w px py gw gc X Y p0 p1 q0 q1) (hk : X.knows = true) (hd : X.done = true) : Makes Try.prog 13 #[.pointer (some ⟨px, 0, none⟩), .int .i64 2] w (.tuple #[.int .u64 (keyedM X.sh [100, 97, 116, 97]), .bool true]) := by
  obtain ⟨⟨Mx, Kx, My, Ky, x0, x1, x2, x3, y0, y1, y2, y3, c0, c1, c2, c3, d0, d1, d2, d3, hx, hy, h1, h2, h3, h4⟩, r1, r2, ne, b1, b2, b3⟩ := h
  exact Secret2_any w px Mx Kx X x0 x1 x2 x3 c0 c1 c2 c3 hx hk hd
theorem Two.doneX (h : Two bse w px py gw gc X Y p0 p1 q0 q1) : Makes Try.prog 19 #[.pointer (some ⟨px, 0, none⟩)] w (.bool X.done) := by
  obtain ⟨⟨Mx, Kx, My, Ky, x0, x1, x2, x3, y0, y1, y2, y3, c0, c1, c2, c3, d0, d1, d2, d3, hx, hy, h1, h2, h3, h4⟩, r1, r2, ne, b1, b2, b3⟩ := h
  exact Done_any w px Mx Kx X x0 x1 x2 x3 c0 c1 c2 c3 hx
end
end Go.Proofs.Ytlpajohhnngbmaa
namespace Go.Proofs.Ytlpajohhnngbmaa
open Go.RowKit
set_option linter.unusedVariables false
set_option linter.unusedSimpArgs false

theorem slot2 {w : World} {g : Nat} {z0 z1 : Nat} (h : w.heap[g]? = some (posC z0 z1)) : w.cell? ⟨g, 0, none⟩ = some (.int .i64 z0) ∧ w.cell? ⟨g, 1, none⟩ = some (.int .i64 z1) := by
  unfold posC at h
  exact ⟨cell_row h 0 _ rfl, cell_row h 1 _ rfl⟩
set_option maxRecDepth 100000 in
set_option maxHeartbeats 16000000 in
theorem meets_r21 {x0 x1 x2 x3 x4 x5 x6 x7 x8 x9 x10 x11 x12 x13 x14 x15 x16 x17 x20 x21 x22 x24 x25 x26 x27 x30 x31 x32 x33 x34 x35 x36 x37 x38 x39 x40 x41 x42 x43 x44 x45 x46 x47 x48 x49 x50 x51 x52 x53 x54 x55 x56 x57 x58 x59 x60 x61 x62 x63 x64 x65 x66 x67 x68 x69 x70 x71 x72 x73 x74 x75 x76 x77 x78 x79 x80 x81 x82 x83 x84 x85 x86 x87 x88 x89 x90 x91 x92 x93 x94 x95 x96 x97 x98 x99 x100 x101 x102 x103 x104 x105 x106 x107 x108 x109 x110 x111 x112 x113 x114 x115 x116 x117 x118 x119 x120 x121 x122 x123 x124 x125 x126 x127 x128 x129 x130 x131 x132 x133 x134 x135 x136 x137 x138 x139 x140 x141 x142 x143 x144 x145 x146 x147 x148 x149 x150 x151 x152 x153 x154 x155 x156 x157 x158 x159 x160 x161 x162 x163 x164 x165 x166 x167 x168 x169 x170 x171 x172 x173 x174 x175 x176 x177 x178 x179 x180 x181 x182 x183 x184 x185 x186 x187 x188 x189 x190 x191 x192 x193 x194 x195 x196 x197 x198 x199 x200 x201 x202 x203 x204 x205 x206 x207 x208 x209 x210 x211 x212 x213 x214 x215 x216 x217 x218 x219 x220 x221 x222 x223 x224 x225 x226 x227 x228 x229 x230 x231 x232 x233 x234 x235 x236 x237 x238 x239 x240 x241 x242 x243 x244 x245 x246 : Value} {bse px py gw gc len cap k j p0 p1 q0 q1 : Nat} {sp kk : Int} {X Y S2 : Sd} {va : Option Addr} {bs : List Int} (w : World) {Q : Exit → Act → World → Prop}
    (HT : Hid (Two bse w px py gw gc X Y p0 p1 q0 q1)) (HI : Hid (IntsK .u8 w va len bs)) (hva : (va = none ∧ cap = 0) ∨ ∃ g, va = some ⟨g, 0, none⟩) (hlc : len ≤ cap) (hlen : len ≤ 1000) (hj : j + k ≤ len) (hsp : (sp = 0 ∧ p0 = j) ∨ (sp = 1 ∧ p1 = j)) (hkk : kk = (k : Int)) (hsum : Y.i0.length + Y.i1.length + k ≤ 100000) (HF : Hid (FeedM Y sp ((bs.drop j).take k) = (S2, 0)))
    (hQp : ∀ c a d v w, Q (.panic c) (a.put d v) w → Q (.panic c) a w)
    (hQ : ∀ (y114 y115 y116 y117 y118 y119 y120 y121 y122 y123 y124 y125 y126 y127 y128 y129 y130 : Value) (w' : World), Two bse w' px py gw gc X S2 p0 p1 q0 q1 → Below bse w w' → Q .normal ⟨List.toArray (x0 :: x1 :: x2 :: x3 :: x4 :: x5 :: x6 :: x7 :: x8 :: x9 :: x10 :: x11 :: x12 :: x13 :: x14 :: x15 :: x16 :: x17 :: .pointer (some ⟨py, 0, none⟩) :: .pointer (some ⟨gw, 0, none⟩) :: x20 :: x21 :: x22 :: .int .i64 sp :: x24 :: x25 :: x26 :: x27 :: .slice va len cap :: .int .i64 kk :: x30 :: x31 :: x32 :: x33 :: x34 :: x35 :: x36 :: x37 :: x38 :: x39 :: x40 :: x41 :: x42 :: x43 :: x44 :: x45 :: x46 :: x47 :: x48 :: x49 :: x50 :: x51 :: x52 :: x53 :: x54 :: x55 :: x56 :: x57 :: x58 :: x59 :: x60 :: x61 :: x62 :: x63 :: x64 :: x65 :: x66 :: x67 :: x68 :: x69 :: x70 :: x71 :: x72 :: x73 :: x74 :: x75 :: x76 :: x77 :: x78 :: x79 :: x80 :: x81 :: x82 :: x83 :: x84 :: x85 :: x86 :: x87 :: x88 :: x89 :: x90 :: x91 :: x92 :: x93 :: x94 :: x95 :: x96 :: x97 :: x98 :: x99 :: x100 :: x101 :: x102 :: x103 :: x104 :: x105 :: x106 :: x107 :: x108 :: x109 :: x110 :: x111 :: x112 :: x113 :: y114 :: y115 :: y116 :: y117 :: y118 :: y119 :: y120 :: y121 :: y122 :: y123 :: y124 :: y125 :: y126 :: y127 :: y128 :: y129 :: y130 :: .bool false :: x132 :: x133 :: x134 :: x135 :: x136 :: x137 :: x138 :: x139 :: x140 :: x141 :: x142 :: x143 :: x144 :: x145 :: x146 :: x147 :: x148 :: x149 :: x150 :: x151 :: x152 :: x153 :: x154 :: x155 :: x156 :: x157 :: x158 :: x159 :: x160 :: x161 :: x162 :: x163 :: x164 :: x165 :: x166 :: x167 :: x168 :: x169 :: x170 :: x171 :: x172 :: x173 :: x174 :: x175 :: x176 :: x177 :: x178 :: x179 :: x180 :: x181 :: x182 :: x183 :: x184 :: x185 :: x186 :: x187 :: x188 :: x189 :: x190 :: x191 :: x192 :: x193 :: x194 :: x195 :: x196 :: x197 :: x198 :: x199 :: x200 :: x201 :: x202 :: x203 :: x204 :: x205 :: x206 :: x207 :: x208 :: x209 :: x210 :: x211 :: x212 :: x213 :: x214 :: x215 :: x216 :: x217 :: x218 :: x219 :: x220 :: x221 :: x222 :: x223 :: x224 :: x225 :: x226 :: x227 :: x228 :: x229 :: x230 :: x231 :: x232 :: x233 :: x234 :: x235 :: x236 :: x237 :: x238 :: x239 :: x240 :: x241 :: x242 :: x243 :: x244 :: x245 :: x246 :: []), []⟩ w') :
    Code.wp Try.prog (((Try.f5.body.bind (subRegion 21)).getD .skip)) Q ⟨List.toArray (x0 :: x1 :: x2 :: x3 :: x4 :: x5 :: x6 :: x7 :: x8 :: x9 :: x10 :: x11 :: x12 :: x13 :: x14 :: x15 :: x16 :: x17 :: .pointer (some ⟨py, 0, none⟩) :: .pointer (some ⟨gw, 0, none⟩) :: x20 :: x21 :: x22 :: .int .i64 sp :: x24 :: x25 :: x26 :: x27 :: .slice va len cap :: .int .i64 kk :: x30 :: x31 :: x32 :: x33 :: x34 :: x35 :: x36 :: x37 :: x38 :: x39 :: x40 :: x41 :: x42 :: x43 :: x44 :: x45 :: x46 :: x47 :: x48 :: x49 :: x50 :: x51 :: x52 :: x53 :: x54 :: x55 :: x56 :: x57 :: x58 :: x59 :: x60 :: x61 :: x62 :: x63 :: x64 :: x65 :: x66 :: x67 :: x68 :: x69 :: x70 :: x71 :: x72 :: x73 :: x74 :: x75 :: x76 :: x77 :: x78 :: x79 :: x80 :: x81 :: x82 :: x83 :: x84 :: x85 :: x86 :: x87 :: x88 :: x89 :: x90 :: x91 :: x92 :: x93 :: x94 :: x95 :: x96 :: x97 :: x98 :: x99 :: x100 :: x101 :: x102 :: x103 :: x104 :: x105 :: x106 :: x107 :: x108 :: x109 :: x110 :: x111 :: x112 :: x113 :: x114 :: x115 :: x116 :: x117 :: x118 :: x119 :: x120 :: x121 :: x122 :: x123 :: x124 :: x125 :: x126 :: x127 :: x128 :: x129 :: x130 :: x131 :: x132 :: x133 :: x134 :: x135 :: x136 :: x137 :: x138 :: x139 :: x140 :: x141 :: x142 :: x143 :: x144 :: x145 :: x146 :: x147 :: x148 :: x149 :: x150 :: x151 :: x152 :: x153 :: x154 :: x155 :: x156 :: x157 :: x158 :: x159 :: x160 :: x161 :: x162 :: x163 :: x164 :: x165 :: x166 :: x167 :: x168 :: x169 :: x170 :: x171 :: x172 :: x173 :: x174 :: x175 :: x176 :: x177 :: x178 :: x179 :: x180 :: x181 :: x182 :: x183 :: x184 :: x185 :: x186 :: x187 :: x188 :: x189 :: x190 :: x191 :: x192 :: x193 :: x194 :: x195 :: x196 :: x197 :: x198 :: x199 :: x200 :: x201 :: x202 :: x203 :: x204 :: x205 :: x206 :: x207 :: x208 :: x209 :: x210 :: x211 :: x212 :: x213 :: x214 :: x215 :: x216 :: x217 :: x218 :: x219 :: x220 :: x221 :: x222 :: x223 :: x224 :: x225 :: x226 :: x227 :: x228 :: x229 :: x230 :: x231 :: x232 :: x233 :: x234 :: x235 :: x236 :: x237 :: x238 :: x239 :: x240 :: x241 :: x242 :: x243 :: x244 :: x245 :: x246 :: []), []⟩ w := by
  have HK := Lib.hid hQ; have HKP := Lib.hid hQp
  clear hQ hQp
  conv => arg 2; whnf
  rcases hsp with ⟨rfl, rfl⟩ | ⟨rfl, rfl⟩
  · skip
    rcases hva with ⟨rfl, rfl⟩ | ⟨g, rfl⟩
    · skip
      have hl0 : len = 0 := by omega
      subst hl0
      have hj0 : p0 = 0 := by omega
      have hk0 : k = 0 := by omega
      subst hk0
      have hkz : kk = 0 := hkk
      subst hkz
      clear hkk
      have hz1 : ((p0 : Nat) : Int) = 0 := by omega
      clear hj0 hj hlc hlen
      have f0 : ∀ t : In (fun y => y.heap[gw]? = some (posC p0 p1)), t.w.cell? ⟨gw, 0, none⟩ = some (.int .i64 p0) := fun t => (slot2 t.h).1
      refine wp_plan (.t 0 (.t 1 (.t 2 (.t 3 (.t 4 (.t 5 (.t 6 (.t 7 (.t 8 (.t 9 (.t 10 (.t 11 (.t 12 (.t 13 (.t 14 (.u 15 (.t 16 (.t 17 .done)))))))))))))))))) (fun y => y.heap[gw]? = some (posC p0 p1)) (by kernel_rfl) (by kernel_rfl) (by kernel_rfl) (fun c a d v w h => by first | (cases d <;> exact h) | exact HKP.out c a d v w h) HT.out.rw ?_
      have hS : w.drew.heap[gw]? = some (posC p0 p1) := HT.out.rw
      have HT1 := Lib.hid (HT.out.below (Below.refl _ _).drew); have HI1 := Lib.hid (HI.out.below (Below.refl _ _).drew)
      have hB : Below bse w w.drew := (Below.refl _ _).drew
      generalize w.drew = W0 at hS HT1 HI1 hB ⊢
      haveI hne2 : Nonempty (In (fun y => y.heap[gw]? = some (posC p0 p1))) := ⟨⟨W0, hS⟩⟩
      repeat (first | (refine plan_t (by rfl) ?_; (first | go_big_quiet_skip | (go_big_quiet_want; go_big_quiet_op; go_big_quiet_on)); refine wpQuiet_nil ?_))
      clear f0
      refine plan_us (by rfl) (by kernel_rfl) ?_
      intro K hK
      go_wp2_with fail
      have hf := HF.out
      rw [List.take_zero] at hf
      refine Calls.mono (HT1.out.feedY 0 _ 0 _ [] (by omega) (IntsK.nil _ _ _)) ?_
      rintro e W1 ⟨he, h2, hb⟩
      rw [hf] at he h2
      subst he
      have hS1 : W1.heap[gw]? = some (posC p0 p1) := h2.rw
      go_wp2_with fail
      refine ⟨hS1, ?_⟩
      repeat (first | (refine plan_t (by rfl) ?_; (first | go_big_quiet_skip | (go_big_quiet_want; go_big_quiet_op; go_big_quiet_on)); refine wpQuiet_nil ?_))
      exact HK.out _ _ _ _ _ _ _ _ _ _ _ _ _ _ _ _ _ _ h2 (hB.trans hb)
    · by_cases hz : p0 = cap
      · skip
        subst hz
        have hk0 : k = 0 := by omega
        subst hk0
        have hkz : kk = 0 := hkk
        subst hkz
        clear hkk
        have f0 : ∀ t : In (fun y => y.heap[gw]? = some (posC p0 p1)), t.w.cell? ⟨gw, 0, none⟩ = some (.int .i64 p0) := fun t => (slot2 t.h).1
        refine wp_plan (.t 0 (.t 1 (.t 2 (.t 3 (.t 4 (.t 5 (.t 6 (.t 7 (.t 8 (.t 9 (.t 10 (.t 11 (.t 12 (.t 13 (.t 14 (.u 15 (.t 16 (.t 17 .done)))))))))))))))))) (fun y => y.heap[gw]? = some (posC p0 p1)) (by kernel_rfl) (by kernel_rfl) (by kernel_rfl) (fun c a d v w h => by first | (cases d <;> exact h) | exact HKP.out c a d v w h) HT.out.rw ?_
        have hS : w.drew.heap[gw]? = some (posC p0 p1) := HT.out.rw
        have HT1 := Lib.hid (HT.out.below (Below.refl _ _).drew); have HI1 := Lib.hid (HI.out.below (Below.refl _ _).drew)
        have hB : Below bse w w.drew := (Below.refl _ _).drew
        generalize w.drew = W0 at hS HT1 HI1 hB ⊢
        haveI hne2 : Nonempty (In (fun y => y.heap[gw]? = some (posC p0 p1))) := ⟨⟨W0, hS⟩⟩
        repeat (first | (refine plan_t (by rfl) ?_; (first | go_big_quiet_skip | (go_big_quiet_want; go_big_quiet_op; go_big_quiet_on)); refine wpQuiet_nil ?_))
        clear f0
        refine plan_us (by rfl) (by kernel_rfl) ?_
        intro K hK
        go_wp2_with fail
        have hf := HF.out
        rw [List.take_zero] at hf
        refine Calls.mono (HT1.out.feedY 0 _ 0 _ [] (by omega) (IntsK.nil _ _ _)) ?_
        rintro e W1 ⟨he, h2, hb⟩
        rw [hf] at he h2
        subst he
        have hS1 : W1.heap[gw]? = some (posC p0 p1) := h2.rw
        go_wp2_with fail
        refine ⟨hS1, ?_⟩
        repeat (first | (refine plan_t (by rfl) ?_; (first | go_big_quiet_skip | (go_big_quiet_want; go_big_quiet_op; go_big_quiet_on)); refine wpQuiet_nil ?_))
        exact HK.out _ _ _ _ _ _ _ _ _ _ _ _ _ _ _ _ _ _ h2 (hB.trans hb)
      · skip
        subst hkk
        have hk1 : ¬ ((k : Int) < 0) := by omega
        have E4 : (p0 : Int) + (k : Int) ≤ (cap : Int) := by omega
        have E5 : (p0 : Int) + (k : Int) ≤ 1000 := by omega
        have hz2 : ¬ (cap - p0 = 0) := by omega
        have E1 : (p0 : Int) ≤ (p0 : Int) + (k : Int) := by omega
        have f0 : ∀ t : In (fun y => y.heap[gw]? = some (posC p0 p1)), t.w.cell? ⟨gw, 0, none⟩ = some (.int .i64 p0) := fun t => (slot2 t.h).1
        refine wp_plan (.t 0 (.t 1 (.t 2 (.t 3 (.t 4 (.t 5 (.t 6 (.t 7 (.t 8 (.t 9 (.t 10 (.t 11 (.t 12 (.t 13 (.t 14 (.u 15 (.t 16 (.t 17 .done)))))))))))))))))) (fun y => y.heap[gw]? = some (posC p0 p1)) (by kernel_rfl) (by kernel_rfl) (by kernel_rfl) (fun c a d v w h => by first | (cases d <;> exact h) | exact HKP.out c a d v w h) HT.out.rw ?_
        have hS : w.drew.heap[gw]? = some (posC p0 p1) := HT.out.rw
        have HT1 := Lib.hid (HT.out.below (Below.refl _ _).drew); have HI1 := Lib.hid (HI.out.below (Below.refl _ _).drew)
        have hB : Below bse w w.drew := (Below.refl _ _).drew
        generalize w.drew = W0 at hS HT1 HI1 hB ⊢
        haveI hne2 : Nonempty (In (fun y => y.heap[gw]? = some (posC p0 p1))) := ⟨⟨W0, hS⟩⟩
        repeat (first | (refine plan_t (by rfl) ?_; (first | go_big_quiet_skip | (go_big_quiet_want; go_big_quiet_op; go_big_quiet_on)); refine wpQuiet_nil ?_))
        clear f0
        refine plan_us (by rfl) (by kernel_rfl) ?_
        intro K hK
        go_wp2_with fail
        have hf := HF.out
        have hii := (HI1.out.suf p0 (by omega)).pre k (by omega)
        rw [Nat.zero_add] at hii
        refine Calls.mono (HT1.out.feedY 0 _ k _ _ (by omega) hii) ?_
        rintro e W1 ⟨he, h2, hb⟩
        rw [hf] at he h2
        subst he
        have hS1 : W1.heap[gw]? = some (posC p0 p1) := h2.rw
        go_wp2_with fail
        refine ⟨hS1, ?_⟩
        repeat (first | (refine plan_t (by rfl) ?_; (first | go_big_quiet_skip | (go_big_quiet_want; go_big_quiet_op; go_big_quiet_on)); refine wpQuiet_nil ?_))
        exact HK.out _ _ _ _ _ _ _ _ _ _ _ _ _ _ _ _ _ _ h2 (hB.trans hb)
  · skip
    rcases hva with ⟨rfl, rfl⟩ | ⟨g, rfl⟩
    · skip
      have hl0 : len = 0 := by omega
      subst hl0
      have hj0 : p1 = 0 := by omega
      have hk0 : k = 0 := by omega
      subst hk0
      have hkz : kk = 0 := hkk
      subst hkz
      clear hkk
      have hz1 : ((p1 : Nat) : Int) = 0 := by omega
      clear hj0 hj hlc hlen
      have f0 : ∀ t : In (fun y => y.heap[gw]? = some (posC p0 p1)), t.w.cell? ⟨gw, 1, none⟩ = some (.int .i64 p1) := fun t => (slot2 t.h).2
      refine wp_plan (.t 0 (.t 1 (.t 2 (.t 3 (.t 4 (.t 5 (.t 6 (.t 7 (.t 8 (.t 9 (.t 10 (.t 11 (.t 12 (.t 13 (.t 14 (.u 15 (.t 16 (.t 17 .done)))))))))))))))))) (fun y => y.heap[gw]? = some (posC p0 p1)) (by kernel_rfl) (by kernel_rfl) (by kernel_rfl) (fun c a d v w h => by first | (cases d <;> exact h) | exact HKP.out c a d v w h) HT.out.rw ?_
      have hS : w.drew.heap[gw]? = some (posC p0 p1) := HT.out.rw
      have HT1 := Lib.hid (HT.out.below (Below.refl _ _).drew); have HI1 := Lib.hid (HI.out.below (Below.refl _ _).drew)
      have hB : Below bse w w.drew := (Below.refl _ _).drew
      generalize w.drew = W0 at hS HT1 HI1 hB ⊢
      haveI hne2 : Nonempty (In (fun y => y.heap[gw]? = some (posC p0 p1))) := ⟨⟨W0, hS⟩⟩
      repeat (first | (refine plan_t (by rfl) ?_; (first | go_big_quiet_skip | (go_big_quiet_want; go_big_quiet_op; go_big_quiet_on)); refine wpQuiet_nil ?_))
      clear f0
      refine plan_us (by rfl) (by kernel_rfl) ?_
      intro K hK
      go_wp2_with fail
      have hf := HF.out
      rw [List.take_zero] at hf
      refine Calls.mono (HT1.out.feedY 1 _ 0 _ [] (by omega) (IntsK.nil _ _ _)) ?_
      rintro e W1 ⟨he, h2, hb⟩
      rw [hf] at he h2
      subst he
      have hS1 : W1.heap[gw]? = some (posC p0 p1) := h2.rw
      go_wp2_with fail
      refine ⟨hS1, ?_⟩
      repeat (first | (refine plan_t (by rfl) ?_; (first | go_big_quiet_skip | (go_big_quiet_want; go_big_quiet_op; go_big_quiet_on)); refine wpQuiet_nil ?_))
      exact HK.out _ _ _ _ _ _ _ _ _ _ _ _ _ _ _ _ _ _ h2 (hB.trans hb)
    · by_cases hz : p1 = cap
      · skip
        subst hz
        have hk0 : k = 0 := by omega
        subst hk0
        have hkz : kk = 0 := hkk
        subst hkz
        clear hkk
        have f0 : ∀ t : In (fun y => y.heap[gw]? = some (posC p0 p1)), t.w.cell? ⟨gw, 1, none⟩ = some (.int .i64 p1) := fun t => (slot2 t.h).2
        refine wp_plan (.t 0 (.t 1 (.t 2 (.t 3 (.t 4 (.t 5 (.t 6 (.t 7 (.t 8 (.t 9 (.t 10 (.t 11 (.t 12 (.t 13 (.t 14 (.u 15 (.t 16 (.t 17 .done)))))))))))))))))) (fun y => y.heap[gw]? = some (posC p0 p1)) (by kernel_rfl) (by kernel_rfl) (by kernel_rfl) (fun c a d v w h => by first | (cases d <;> exact h) | exact HKP.out c a d v w h) HT.out.rw ?_
        have hS : w.drew.heap[gw]? = some (posC p0 p1) := HT.out.rw
        have HT1 := Lib.hid (HT.out.below (Below.refl _ _).drew); have HI1 := Lib.hid (HI.out.below (Below.refl _ _).drew)
        have hB : Below bse w w.drew := (Below.refl _ _).drew
        generalize w.drew = W0 at hS HT1 HI1 hB ⊢
        haveI hne2 : Nonempty (In (fun y => y.heap[gw]? = some (posC p0 p1))) := ⟨⟨W0, hS⟩⟩
        repeat (first | (refine plan_t (by rfl) ?_; (first | go_big_quiet_skip | (go_big_quiet_want; go_big_quiet_op; go_big_quiet_on)); refine wpQuiet_nil ?_))
        clear f0
        refine plan_us (by rfl) (by kernel_rfl) ?_
        intro K hK
        go_wp2_with fail
        have hf := HF.out
        rw [List.take_zero] at hf
        refine Calls.mono (HT1.out.feedY 1 _ 0 _ [] (by omega) (IntsK.nil _ _ _)) ?_
        rintro e W1 ⟨he, h2, hb⟩
        rw [hf] at he h2
        subst he
        have hS1 : W1.heap[gw]? = some (posC p0 p1) := h2.rw
        go_wp2_with fail
        refine ⟨hS1, ?_⟩
        repeat (first | (refine plan_t (by rfl) ?_; (first | go_big_quiet_skip | (go_big_quiet_want; go_big_quiet_op; go_big_quiet_on)); refine wpQuiet_nil ?_))
        exact HK.out _ _ _ _ _ _ _ _ _ _ _ _ _ _ _ _ _ _ h2 (hB.trans hb)
      · skip
        subst hkk
        have hk1 : ¬ ((k : Int) < 0) := by omega
        have E4 : (p1 : Int) + (k : Int) ≤ (cap : Int) := by omega
        have E5 : (p1 : Int) + (k : Int) ≤ 1000 := by omega
        have hz2 : ¬ (cap - p1 = 0) := by omega
        have E1 : (p1 : Int) ≤ (p1 : Int) + (k : Int) := by omega
        have f0 : ∀ t : In (fun y => y.heap[gw]? = some (posC p0 p1)), t.w.cell? ⟨gw, 1, none⟩ = some (.int .i64 p1) := fun t => (slot2 t.h).2
        refine wp_plan (.t 0 (.t 1 (.t 2 (.t 3 (.t 4 (.t 5 (.t 6 (.t 7 (.t 8 (.t 9 (.t 10 (.t 11 (.t 12 (.t 13 (.t 14 (.u 15 (.t 16 (.t 17 .done)))))))))))))))))) (fun y => y.heap[gw]? = some (posC p0 p1)) (by kernel_rfl) (by kernel_rfl) (by kernel_rfl) (fun c a d v w h => by first | (cases d <;> exact h) | exact HKP.out c a d v w h) HT.out.rw ?_
        have hS : w.drew.heap[gw]? = some (posC p0 p1) := HT.out.rw
        have HT1 := Lib.hid (HT.out.below (Below.refl _ _).drew); have HI1 := Lib.hid (HI.out.below (Below.refl _ _).drew)
        have hB : Below bse w w.drew := (Below.refl _ _).drew
        generalize w.drew = W0 at hS HT1 HI1 hB ⊢
        haveI hne2 : Nonempty (In (fun y => y.heap[gw]? = some (posC p0 p1))) := ⟨⟨W0, hS⟩⟩
        repeat (first | (refine plan_t (by rfl) ?_; (first | go_big_quiet_skip | (go_big_quiet_want; go_big_quiet_op; go_big_quiet_on)); refine wpQuiet_nil ?_))
        clear f0
        refine plan_us (by rfl) (by kernel_rfl) ?_
        intro K hK
        go_wp2_with fail
        have hf := HF.out
        have hii := (HI1.out.suf p1 (by omega)).pre k (by omega)
        rw [Nat.zero_add] at hii
        refine Calls.mono (HT1.out.feedY 1 _ k _ _ (by omega) hii) ?_
        rintro e W1 ⟨he, h2, hb⟩
        rw [hf] at he h2
        subst he
        have hS1 : W1.heap[gw]? = some (posC p0 p1) := h2.rw
        go_wp2_with fail
        refine ⟨hS1, ?_⟩
        repeat (first | (refine plan_t (by rfl) ?_; (first | go_big_quiet_skip | (go_big_quiet_want; go_big_quiet_op; go_big_quiet_on)); refine wpQuiet_nil ?_))
        exact HK.out _ _ _ _ _ _ _ _ _ _ _ _ _ _ _ _ _ _ h2 (hB.trans hb)
set_option maxRecDepth 100000 in
set_option maxHeartbeats 16000000 in
theorem meets_r28 {x0 x1 x2 x3 x4 x5 x6 x7 x8 x9 x10 x11 x12 x13 x14 x15 x16 x18 x19 x21 x22 x24 x25 x26 x27 x30 x31 x32 x33 x34 x35 x36 x37 x38 x39 x40 x41 x42 x43 x44 x45 x46 x47 x48 x49 x50 x51 x52 x53 x54 x55 x56 x57 x58 x59 x60 x61 x62 x63 x64 x65 x66 x67 x68 x69 x70 x71 x72 x73 x74 x75 x76 x77 x78 x79 x80 x81 x82 x83 x84 x85 x86 x87 x88 x89 x90 x91 x92 x93 x94 x95 x96 x97 x98 x99 x100 x101 x102 x103 x104 x105 x106 x107 x108 x109 x110 x111 x112 x113 x114 x115 x116 x117 x118 x119 x120 x121 x122 x123 x124 x125 x126 x127 x128 x129 x130 x131 x132 x133 x134 x135 x136 x137 x138 x139 x140 x141 x142 x143 x144 x145 x146 x147 x148 x149 x150 x151 x152 x153 x154 x155 x156 x157 x158 x159 x160 x161 x162 x163 x164 x165 x166 x167 x168 x169 x170 x171 x172 x173 x174 x175 x176 x177 x178 x179 x180 x181 x182 x183 x184 x185 x186 x187 x188 x189 x190 x191 x192 x193 x194 x195 x196 x197 x198 x199 x200 x201 x202 x203 x204 x205 x206 x207 x208 x209 x210 x211 x212 x213 x214 x215 x216 x217 x218 x219 x220 x221 x222 x223 x224 x225 x226 x227 x228 x229 x230 x231 x232 x233 x234 x235 x236 x237 x238 x239 x240 x241 x242 x243 x244 x245 x246 : Value} {bse px py gw gc len cap k j p0 p1 q0 q1 : Nat} {sp kk : Int} {X Y S2 : Sd} {va : Option Addr} {bs : List Int} (w : World) {Q : Exit → Act → World → Prop}
    (HT : Hid (Two bse w px py gw gc X Y p0 p1 q0 q1)) (HI : Hid (IntsK .u8 w va len bs)) (hva : (va = none ∧ cap = 0) ∨ ∃ g, va = some ⟨g, 0, none⟩) (hlc : len ≤ cap) (hlen : len ≤ 1000) (hj : j + k ≤ len) (hsp : (sp = 0 ∧ q0 = j) ∨ (sp = 1 ∧ q1 = j)) (hkk : kk = (k : Int)) (hsum : X.i0.length + X.i1.length + k ≤ 100000) (HF : Hid (FeedM X sp ((bs.drop j).take k) = (S2, 0)))
    (hQp : ∀ c a d v w, Q (.panic c) (a.put d v) w → Q (.panic c) a w)
    (hQ : ∀ (y156 y157 y158 y159 y160 y161 y162 y163 y164 y165 y166 y167 y168 y169 y170 y171 y172 : Value) (w' : World), Two bse w' px py gw gc S2 Y p0 p1 q0 q1 → Below bse w w' → Q .normal ⟨List.toArray (x0 :: x1 :: x2 :: x3 :: x4 :: x5 :: x6 :: x7 :: x8 :: x9 :: x10 :: x11 :: x12 :: x13 :: x14 :: x15 :: x16 :: .pointer (some ⟨px, 0, none⟩) :: x18 :: x19 :: .pointer (some ⟨gc, 0, none⟩) :: x21 :: x22 :: .int .i64 sp :: x24 :: x25 :: x26 :: x27 :: .slice va len cap :: .int .i64 kk :: x30 :: x31 :: x32 :: x33 :: x34 :: x35 :: x36 :: x37 :: x38 :: x39 :: x40 :: x41 :: x42 :: x43 :: x44 :: x45 :: x46 :: x47 :: x48 :: x49 :: x50 :: x51 :: x52 :: x53 :: x54 :: x55 :: x56 :: x57 :: x58 :: x59 :: x60 :: x61 :: x62 :: x63 :: x64 :: x65 :: x66 :: x67 :: x68 :: x69 :: x70 :: x71 :: x72 :: x73 :: x74 :: x75 :: x76 :: x77 :: x78 :: x79 :: x80 :: x81 :: x82 :: x83 :: x84 :: x85 :: x86 :: x87 :: x88 :: x89 :: x90 :: x91 :: x92 :: x93 :: x94 :: x95 :: x96 :: x97 :: x98 :: x99 :: x100 :: x101 :: x102 :: x103 :: x104 :: x105 :: x106 :: x107 :: x108 :: x109 :: x110 :: x111 :: x112 :: x113 :: x114 :: x115 :: x116 :: x117 :: x118 :: x119 :: x120 :: x121 :: x122 :: x123 :: x124 :: x125 :: x126 :: x127 :: x128 :: x129 :: x130 :: x131 :: x132 :: x133 :: x134 :: x135 :: x136 :: x137 :: x138 :: x139 :: x140 :: x141 :: x142 :: x143 :: x144 :: x145 :: x146 :: x147 :: x148 :: x149 :: x150 :: x151 :: x152 :: x153 :: x154 :: x155 :: y156 :: y157 :: y158 :: y159 :: y160 :: y161 :: y162 :: y163 :: y164 :: y165 :: y166 :: y167 :: y168 :: y169 :: y170 :: y171 :: y172 :: .bool false :: x174 :: x175 :: x176 :: x177 :: x178 :: x179 :: x180 :: x181 :: x182 :: x183 :: x184 :: x185 :: x186 :: x187 :: x188 :: x189 :: x190 :: x191 :: x192 :: x193 :: x194 :: x195 :: x196 :: x197 :: x198 :: x199 :: x200 :: x201 :: x202 :: x203 :: x204 :: x205 :: x206 :: x207 :: x208 :: x209 :: x210 :: x211 :: x212 :: x213 :: x214 :: x215 :: x216 :: x217 :: x218 :: x219 :: x220 :: x221 :: x222 :: x223 :: x224 :: x225 :: x226 :: x227 :: x228 :: x229 :: x230 :: x231 :: x232 :: x233 :: x234 :: x235 :: x236 :: x237 :: x238 :: x239 :: x240 :: x241 :: x242 :: x243 :: x244 :: x245 :: x246 :: []), []⟩ w') :
    Code.wp Try.prog (((Try.f5.body.bind (subRegion 28)).getD .skip)) Q ⟨List.toArray (x0 :: x1 :: x2 :: x3 :: x4 :: x5 :: x6 :: x7 :: x8 :: x9 :: x10 :: x11 :: x12 :: x13 :: x14 :: x15 :: x16 :: .pointer (some ⟨px, 0, none⟩) :: x18 :: x19 :: .pointer (some ⟨gc, 0, none⟩) :: x21 :: x22 :: .int .i64 sp :: x24 :: x25 :: x26 :: x27 :: .slice va len cap :: .int .i64 kk :: x30 :: x31 :: x32 :: x33 :: x34 :: x35 :: x36 :: x37 :: x38 :: x39 :: x40 :: x41 :: x42 :: x43 :: x44 :: x45 :: x46 :: x47 :: x48 :: x49 :: x50 :: x51 :: x52 :: x53 :: x54 :: x55 :: x56 :: x57 :: x58 :: x59 :: x60 :: x61 :: x62 :: x63 :: x64 :: x65 :: x66 :: x67 :: x68 :: x69 :: x70 :: x71 :: x72 :: x73 :: x74 :: x75 :: x76 :: x77 :: x78 :: x79 :: x80 :: x81 :: x82 :: x83 :: x84 :: x85 :: x86 :: x87 :: x88 :: x89 :: x90 :: x91 :: x92 :: x93 :: x94 :: x95 :: x96 :: x97 :: x98 :: x99 :: x100 :: x101 :: x102 :: x103 :: x104 :: x105 :: x106 :: x107 :: x108 :: x109 :: x110 :: x111 :: x112 :: x113 :: x114 :: x115 :: x116 :: x117 :: x118 :: x119 :: x120 :: x121 :: x122 :: x123 :: x124 :: x125 :: x126 :: x127 :: x128 :: x129 :: x130 :: x131 :: x132 :: x133 :: x134 :: x135 :: x136 :: x137 :: x138 :: x139 :: x140 :: x141 :: x142 :: x143 :: x144 :: x145 :: x146 :: x147 :: x148 :: x149 :: x150 :: x151 :: x152 :: x153 :: x154 :: x155 :: x156 :: x157 :: x158 :: x159 :: x160 :: x161 :: x162 :: x163 :: x164 :: x165 :: x166 :: x167 :: x168 :: x169 :: x170 :: x171 :: x172 :: x173 :: x174 :: x175 :: x176 :: x177 :: x178 :: x179 :: x180 :: x181 :: x182 :: x183 :: x184 :: x185 :: x186 :: x187 :: x188 :: x189 :: x190 :: x191 :: x192 :: x193 :: x194 :: x195 :: x196 :: x197 :: x198 :: x199 :: x200 :: x201 :: x202 :: x203 :: x204 :: x205 :: x206 :: x207 :: x208 :: x209 :: x210 :: x211 :: x212 :: x213 :: x214 :: x215 :: x216 :: x217 :: x218 :: x219 :: x220 :: x221 :: x222 :: x223 :: x224 :: x225 :: x226 :: x227 :: x228 :: x229 :: x230 :: x231 :: x232 :: x233 :: x234 :: x235 :: x236 :: x237 :: x238 :: x239 :: x240 :: x241 :: x242 :: x243 :: x244 :: x245 :: x246 :: []), []⟩ w := by
  have HK := Lib.hid hQ; have HKP := Lib.hid hQp
  clear hQ hQp
  conv => arg 2; whnf
  rcases hsp with ⟨rfl, rfl⟩ | ⟨rfl, rfl⟩
  · skip
    rcases hva with ⟨rfl, rfl⟩ | ⟨g, rfl⟩
    · skip
      have hl0 : len = 0 := by omega
      subst hl0
      have hj0 : q0 = 0 := by omega
      have hk0 : k = 0 := by omega
      subst hk0
      have hkz : kk = 0 := hkk
      subst hkz
      clear hkk
      have hz1 : ((q0 : Nat) : Int) = 0 := by omega
      clear hj0 hj hlc hlen
      have f0 : ∀ t : In (fun y => y.heap[gc]? = some (posC q0 q1)), t.w.cell? ⟨gc, 0, none⟩ = some (.int .i64 q0) := fun t => (slot2 t.h).1
      refine wp_plan (.t 0 (.t 1 (.t 2 (.t 3 (.t 4 (.t 5 (.t 6 (.t 7 (.t 8 (.t 9 (.t 10 (.t 11 (.t 12 (.t 13 (.t 14 (.u 15 (.t 16 (.t 17 .done)))))))))))))))))) (fun y => y.heap[gc]? = some (posC q0 q1)) (by kernel_rfl) (by kernel_rfl) (by kernel_rfl) (fun c a d v w h => by first | (cases d <;> exact h) | exact HKP.out c a d v w h) HT.out.rc ?_
      have hS : w.drew.heap[gc]? = some (posC q0 q1) := HT.out.rc
      have HT1 := Lib.hid (HT.out.below (Below.refl _ _).drew); have HI1 := Lib.hid (HI.out.below (Below.refl _ _).drew)
      have hB : Below bse w w.drew := (Below.refl _ _).drew
      generalize w.drew = W0 at hS HT1 HI1 hB ⊢
      haveI hne2 : Nonempty (In (fun y => y.heap[gc]? = some (posC q0 q1))) := ⟨⟨W0, hS⟩⟩
      repeat (first | (refine plan_t (by rfl) ?_; (first | go_big_quiet_skip | (go_big_quiet_want; go_big_quiet_op; go_big_quiet_on)); refine wpQuiet_nil ?_))
      clear f0
      refine plan_us (by rfl) (by kernel_rfl) ?_
      intro K hK
      go_wp2_with fail
      have hf := HF.out
      rw [List.take_zero] at hf
      refine Calls.mono (HT1.out.swap.feedY 0 _ 0 _ [] (by omega) (IntsK.nil _ _ _)) ?_
      rintro e W1 ⟨he, h2, hb⟩
      rw [hf] at he h2
      subst he
      have hS1 : W1.heap[gc]? = some (posC q0 q1) := h2.rw
      go_wp2_with fail
      refine ⟨hS1, ?_⟩
      repeat (first | (refine plan_t (by rfl) ?_; (first | go_big_quiet_skip | (go_big_quiet_want; go_big_quiet_op; go_big_quiet_on)); refine wpQuiet_nil ?_))
      exact HK.out _ _ _ _ _ _ _ _ _ _ _ _ _ _ _ _ _ _ h2.swap (hB.trans hb)
    · by_cases hz : q0 = cap
      · skip
        subst hz
        have hk0 : k = 0 := by omega
        subst hk0
        have hkz : kk = 0 := hkk
        subst hkz
        clear hkk
        have f0 : ∀ t : In (fun y => y.heap[gc]? = some (posC q0 q1)), t.w.cell? ⟨gc, 0, none⟩ = some (.int .i64 q0) := fun t => (slot2 t.h).1
        refine wp_plan (.t 0 (.t 1 (.t 2 (.t 3 (.t 4 (.t 5 (.t 6 (.t 7 (.t 8 (.t 9 (.t 10 (.t 11 (.t 12 (.t 13 (.t 14 (.u 15 (.t 16 (.t 17 .done)))))))))))))))))) (fun y => y.heap[gc]? = some (posC q0 q1)) (by kernel_rfl) (by kernel_rfl) (by kernel_rfl) (fun c a d v w h => by first | (cases d <;> exact h) | exact HKP.out c a d v w h) HT.out.rc ?_
        have hS : w.drew.heap[gc]? = some (posC q0 q1) := HT.out.rc
        have HT1 := Lib.hid (HT.out.below (Below.refl _ _).drew); have HI1 := Lib.hid (HI.out.below (Below.refl _ _).drew)
        have hB : Below bse w w.drew := (Below.refl _ _).drew
        generalize w.drew = W0 at hS HT1 HI1 hB ⊢
        haveI hne2 : Nonempty (In (fun y => y.heap[gc]? = some (posC q0 q1))) := ⟨⟨W0, hS⟩⟩
        repeat (first | (refine plan_t (by rfl) ?_; (first | go_big_quiet_skip | (go_big_quiet_want; go_big_quiet_op; go_big_quiet_on)); refine wpQuiet_nil ?_))
        clear f0
        refine plan_us (by rfl) (by kernel_rfl) ?_
        intro K hK
        go_wp2_with fail
        have hf := HF.out
        rw [List.take_zero] at hf
        refine Calls.mono (HT1.out.swap.feedY 0 _ 0 _ [] (by omega) (IntsK.nil _ _ _)) ?_
        rintro e W1 ⟨he, h2, hb⟩
        rw [hf] at he h2
        subst he
        have hS1 : W1.heap[gc]? = some (posC q0 q1) := h2.rw
        go_wp2_with fail
        refine ⟨hS1, ?_⟩
        repeat (first | (refine plan_t (by rfl) ?_; (first | go_big_quiet_skip | (go_big_quiet_want; go_big_quiet_op; go_big_quiet_on)); refine wpQuiet_nil ?_))
        exact HK.out _ _ _ _ _ _ _ _ _ _ _ _ _ _ _ _ _ _ h2.swap (hB.trans hb)
      · skip
        subst hkk
        have hk1 : ¬ ((k : Int) < 0) := by omega
        have E4 : (q0 : Int) + (k : Int) ≤ (cap : Int) := by omega
        have E5 : (q0 : Int) + (k : Int) ≤ 1000 := by omega
        have hz2 : ¬ (cap - q0 = 0) := by omega
        have E1 : (q0 : Int) ≤ (q0 : Int) + (k : Int) := by omega
        have f0 : ∀ t : In (fun y => y.heap[gc]? = some (posC q0 q1)), t.w.cell? ⟨gc, 0, none⟩ = some (.int .i64 q0) := fun t => (slot2 t.h).1
        refine wp_plan (.t 0 (.t 1 (.t 2 (.t 3 (.t 4 (.t 5 (.t 6 (.t 7 (.t 8 (.t 9 (.t 10 (.t 11 (.t 12 (.t 13 (.t 14 (.u 15 (.t 16 (.t 17 .done)))))))))))))))))) (fun y => y.heap[gc]? = some (posC q0 q1)) (by kernel_rfl) (by kernel_rfl) (by kernel_rfl) (fun c a d v w h => by first | (cases d <;> exact h) | exact HKP.out c a d v w h) HT.out.rc ?_
        have hS : w.drew.heap[gc]? = some (posC q0 q1) := HT.out.rc
        have HT1 := Lib.hid (HT.out.below (Below.refl _ _).drew); have HI1 := Lib.hid (HI.out.below (Below.refl _ _).drew)
        have hB : Below bse w w.drew := (Below.refl _ _).drew
        generalize w.drew = W0 at hS HT1 HI1 hB ⊢
        haveI hne2 : Nonempty (In (fun y => y.heap[gc]? = some (posC q0 q1))) := ⟨⟨W0, hS⟩⟩
        repeat (first | (refine plan_t (by rfl) ?_; (first | go_big_quiet_skip | (go_big_quiet_want; go_big_quiet_op; go_big_quiet_on)); refine wpQuiet_nil ?_))
        clear f0
        refine plan_us (by rfl) (by kernel_rfl) ?_
        intro K hK
        go_wp2_with fail
        have hf := HF.out
        have hii := (HI1.out.suf q0 (by omega)).pre k (by omega)
        rw [Nat.zero_add] at hii
        refine Calls.mono (HT1.out.swap.feedY 0 _ k _ _ (by omega) hii) ?_
        rintro e W1 ⟨he, h2, hb⟩
        rw [hf] at he h2
        subst he
        have hS1 : W1.heap[gc]? = some (posC q0 q1) := h2.rw
        go_wp2_with fail
        refine ⟨hS1, ?_⟩
        repeat (first | (refine plan_t (by rfl) ?_; (first | go_big_quiet_skip | (go_big_quiet_want; go_big_quiet_op; go_big_quiet_on)); refine wpQuiet_nil ?_))
        exact HK.out _ _ _ _ _ _ _ _ _ _ _ _ _ _ _ _ _ _ h2.swap (hB.trans hb)
  · skip
    rcases hva with ⟨rfl, rfl⟩ | ⟨g, rfl⟩
    · skip
      have hl0 : len = 0 := by omega
      subst hl0
      have hj0 : q1 = 0 := by omega
      have hk0 : k = 0 := by omega
      subst hk0
      have hkz : kk = 0 := hkk
      subst hkz
      clear hkk
      have hz1 : ((q1 : Nat) : Int) = 0 := by omega
      clear hj0 hj hlc hlen
      have f0 : ∀ t : In (fun y => y.heap[gc]? = some (posC q0 q1)), t.w.cell? ⟨gc, 1, none⟩ = some (.int .i64 q1) := fun t => (slot2 t.h).2
      refine wp_plan (.t 0 (.t 1 (.t 2 (.t 3 (.t 4 (.t 5 (.t 6 (.t 7 (.t 8 (.t 9 (.t 10 (.t 11 (.t 12 (.t 13 (.t 14 (.u 15 (.t 16 (.t 17 .done)))))))))))))))))) (fun y => y.heap[gc]? = some (posC q0 q1)) (by kernel_rfl) (by kernel_rfl) (by kernel_rfl) (fun c a d v w h => by first | (cases d <;> exact h) | exact HKP.out c a d v w h) HT.out.rc ?_
      have hS : w.drew.heap[gc]? = some (posC q0 q1) := HT.out.rc
      have HT1 := Lib.hid (HT.out.below (Below.refl _ _).drew); have HI1 := Lib.hid (HI.out.below (Below.refl _ _).drew)
      have hB : Below bse w w.drew := (Below.refl _ _).drew
      generalize w.drew = W0 at hS HT1 HI1 hB ⊢
      haveI hne2 : Nonempty (In (fun y => y.heap[gc]? = some (posC q0 q1))) := ⟨⟨W0, hS⟩⟩
      repeat (first | (refine plan_t (by rfl) ?_; (first | go_big_quiet_skip | (go_big_quiet_want; go_big_quiet_op; go_big_quiet_on)); refine wpQuiet_nil ?_))
      clear f0
      refine plan_us (by rfl) (by kernel_rfl) ?_
      intro K hK
      go_wp2_with fail
      have hf := HF.out
      rw [List.take_zero] at hf
      refine Calls.mono (HT1.out.swap.feedY 1 _ 0 _ [] (by omega) (IntsK.nil _ _ _)) ?_
      rintro e W1 ⟨he, h2, hb⟩
      rw [hf] at he h2
      subst he
      have hS1 : W1.heap[gc]? = some (posC q0 q1) := h2.rw
      go_wp2_with fail
      refine ⟨hS1, ?_⟩
      repeat (first | (refine plan_t (by rfl) ?_; (first | go_big_quiet_skip | (go_big_quiet_want; go_big_quiet_op; go_big_quiet_on)); refine wpQuiet_nil ?_))
      exact HK.out _ _ _ _ _ _ _ _ _ _ _ _ _ _ _ _ _ _ h2.swap (hB.trans hb)
    · by_cases hz : q1 = cap
      · skip
        subst hz
        have hk0 : k = 0 := by omega
        subst hk0
        have hkz : kk = 0 := hkk
        subst hkz
        clear hkk
        have f0 : ∀ t : In (fun y => y.heap[gc]? = some (posC q0 q1)), t.w.cell? ⟨gc, 1, none⟩ = some (.int .i64 q1) := fun t => (slot2 t.h).2
        refine wp_plan (.t 0 (.t 1 (.t 2 (.t 3 (.t 4 (.t 5 (.t 6 (.t 7 (.t 8 (.t 9 (.t 10 (.t 11 (.t 12 (.t 13 (.t 14 (.u 15 (.t 16 (.t 17 .done)))))))))))))))))) (fun y => y.heap[gc]? = some (posC q0 q1)) (by kernel_rfl) (by kernel_rfl) (by kernel_rfl) (fun c a d v w h => by first | (cases d <;> exact h) | exact HKP.out c a d v w h) HT.out.rc ?_
        have hS : w.drew.heap[gc]? = some (posC q0 q1) := HT.out.rc
        have HT1 := Lib.hid (HT.out.below (Below.refl _ _).drew); have HI1 := Lib.hid (HI.out.below (Below.refl _ _).drew)
        have hB : Below bse w w.drew := (Below.refl _ _).drew
        generalize w.drew = W0 at hS HT1 HI1 hB ⊢
        haveI hne2 : Nonempty (In (fun y => y.heap[gc]? = some (posC q0 q1))) := ⟨⟨W0, hS⟩⟩
        repeat (first | (refine plan_t (by rfl) ?_; (first | go_big_quiet_skip | (go_big_quiet_want; go_big_quiet_op; go_big_quiet_on)); refine wpQuiet_nil ?_))
        clear f0
        refine plan_us (by rfl) (by kernel_rfl) ?_
        intro K hK
        go_wp2_with fail
        have hf := HF.out
        rw [List.take_zero] at hf
        refine Calls.mono (HT1.out.swap.feedY 1 _ 0 _ [] (by omega) (IntsK.nil _ _ _)) ?_
        rintro e W1 ⟨he, h2, hb⟩
        rw [hf] at he h2
        subst he
        have hS1 : W1.heap[gc]? = some (posC q0 q1) := h2.rw
        go_wp2_with fail
        refine ⟨hS1, ?_⟩
        repeat (first | (refine plan_t (by rfl) ?_; (first | go_big_quiet_skip | (go_big_quiet_want; go_big_quiet_op; go_big_quiet_on)); refine wpQuiet_nil ?_))
        exact HK.out _ _ _ _ _ _ _ _ _ _ _ _ _ _ _ _ _ _ h2.swap (hB.trans hb)
      · skip
        subst hkk
        have hk1 : ¬ ((k : Int) < 0) := by omega
        have E4 : (q1 : Int) + (k : Int) ≤ (cap : Int) := by omega
        have E5 : (q1 : Int) + (k : Int) ≤ 1000 := by omega
        have hz2 : ¬ (cap - q1 = 0) := by omega
        have E1 : (q1 : Int) ≤ (q1 : Int) + (k : Int) := by omega
        have f0 : ∀ t : In (fun y => y.heap[gc]? = some (posC q0 q1)), t.w.cell? ⟨gc, 1, none⟩ = some (.int .i64 q1) := fun t => (slot2 t.h).2
        refine wp_plan (.t 0 (.t 1 (.t 2 (.t 3 (.t 4 (.t 5 (.t 6 (.t 7 (.t 8 (.t 9 (.t 10 (.t 11 (.t 12 (.t 13 (.t 14 (.u 15 (.t 16 (.t 17 .done)))))))))))))))))) (fun y => y.heap[gc]? = some (posC q0 q1)) (by kernel_rfl) (by kernel_rfl) (by kernel_rfl) (fun c a d v w h => by first | (cases d <;> exact h) | exact HKP.out c a d v w h) HT.out.rc ?_
        have hS : w.drew.heap[gc]? = some (posC q0 q1) := HT.out.rc
        have HT1 := Lib.hid (HT.out.below (Below.refl _ _).drew); have HI1 := Lib.hid (HI.out.below (Below.refl _ _).drew)
        have hB : Below bse w w.drew := (Below.refl _ _).drew
        generalize w.drew = W0 at hS HT1 HI1 hB ⊢
        haveI hne2 : Nonempty (In (fun y => y.heap[gc]? = some (posC q0 q1))) := ⟨⟨W0, hS⟩⟩
        repeat (first | (refine plan_t (by rfl) ?_; (first | go_big_quiet_skip | (go_big_quiet_want; go_big_quiet_op; go_big_quiet_on)); refine wpQuiet_nil ?_))
        clear f0
        refine plan_us (by rfl) (by kernel_rfl) ?_
        intro K hK
        go_wp2_with fail
        have hf := HF.out
        have hii := (HI1.out.suf q1 (by omega)).pre k (by omega)
        rw [Nat.zero_add] at hii
        refine Calls.mono (HT1.out.swap.feedY 1 _ k _ _ (by omega) hii) ?_
        rintro e W1 ⟨he, h2, hb⟩
        rw [hf] at he h2
        subst he
        have hS1 : W1.heap[gc]? = some (posC q0 q1) := h2.rw
        go_wp2_with fail
        refine ⟨hS1, ?_⟩
        repeat (first | (refine plan_t (by rfl) ?_; (first | go_big_quiet_skip | (go_big_quiet_want; go_big_quiet_op; go_big_quiet_on)); refine wpQuiet_nil ?_))
        exact HK.out _ _ _ _ _ _ _ _ _ _ _ _ _ _ _ _ _ _ h2.swap (hB.trans hb)
end Go.Proofs.Ytlpajohhnngbmaa
