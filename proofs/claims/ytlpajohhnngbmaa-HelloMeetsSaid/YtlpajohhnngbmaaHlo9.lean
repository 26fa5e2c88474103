/- hello: Feed, Out, Secret, Theirs, Done. -/
import Derived.Test.YtlpajohhnngbmaaHlo8
namespace Go.Proofs.Ytlpajohhnngbmaa
open Go.RowKit
set_option linter.unusedVariables false
set_option linter.unusedSimpArgs false

theorem feed_any (w : World) (p : Nat) (M J : List Nat) (s : Sd) (a0 a1 b0 b1 : Option Addr) (k0 k1 d0 d1 : Nat) (h : SdAt w p M J s a0 a1 b0 b1 k0 k1 d0 d1) (sp : Int) (a : Option Addr) (len cap : Nat) (bs : List Int) (hsum : s.i0.length + s.i1.length + len ≤ 100000) (hI : IntsK .u8 w a len bs) :
    Calls Try.prog 27 #[.pointer (some ⟨p, 0, none⟩), .int .i64 sp, .slice a len cap] w (FedR w p M J (feedM s sp bs).1 (feedM s sp bs).2) := by
  by_cases ho : sp < 0 ∨ 2 ≤ sp
  · have e : feedM s sp bs = (s, 10) := by unfold feedM; rw [if_pos ho]
    rw [e]
    exact feed_out w p M J s a0 a1 b0 b1 k0 k1 d0 d1 h sp ho a len cap bs hsum hI
  · rcases (by omega : sp = 0 ∨ sp = 1) with rfl | rfl
    · exact feed_0 w p M J s a0 a1 b0 b1 k0 k1 d0 d1 h a len cap bs hsum hI
    · exact feed_1 w p M J s a0 a1 b0 b1 k0 k1 d0 d1 h a len cap bs hsum hI
set_option maxRecDepth 100000 in
set_option maxHeartbeats 8000000 in
theorem Feed_any (w : World) (p : Nat) (M J : List Nat) (s : Sd) (a0 a1 b0 b1 : Option Addr) (k0 k1 d0 d1 : Nat) (h : SdAt w p M J s a0 a1 b0 b1 k0 k1 d0 d1) (sp : Int) (a : Option Addr) (len cap : Nat) (bs : List Int) (hsum : s.i0.length + s.i1.length + len ≤ 100000) (hI : IntsK .u8 w a len bs) :
    Calls Try.prog 12 #[.pointer (some ⟨p, 0, none⟩), .int .i64 sp, .slice a len cap] w (FedR w p M J (FeedM s sp bs).1 (FeedM s sp bs).2) := by
  have H := Lib.hid h
  have hbl := hI.1
  have HF := Lib.hid (feed_any w p M J s a0 a1 b0 b1 k0 k1 d0 d1 h sp a len cap bs hsum hI)
  have c23 := cell_row h.row 23 _ (sdRow_code s _ _ _ _ h.ok.len)
  clear h hI
  obtain ⟨cd, hcd⟩ : ∃ c, s.code = c := ⟨_, rfl⟩
  rw [hcd] at c23
  by_cases hc0 : cd = 0
  · subst hc0
    by_cases hl : 0 < len
    · have HE : Hid (FeedM s sp bs = ({ (feedM s sp bs).1 with code := (feedM s sp bs).2 }, (feedM s sp bs).2)) := Lib.hid (by unfold FeedM; rw [if_pos ⟨hcd, by omega⟩])
      obtain ⟨⟨s3, c3⟩, hf⟩ : ∃ r, feedM s sp bs = r := ⟨_, rfl⟩
      rw [hf] at HF HE
      have el : decide ((0 : Int) < (len : Int)) = true := decide_eq_true (by omega)
      go_enter Try.func12, Try.ntmps12
      go_wp2_with fail
      refine Calls.mono HF.out ?_
      rintro e w1 ⟨rfl, M2, K2, x0, x1, y0, y1, e0, e1, f0, f1, hs, ho, hm, hk⟩
      clear c23 HF
      have HS := Lib.hid hs
      have c23 := cell_row hs.row 23 _ (sdRow_code s3 _ _ _ _ hs.ok.len)
      have z23 := row_free hs.row 23
      have hrs := row_set hs.row 23 (.int .i64 c3)
      rw [sdRow_setcode _ _ _ _ _ hs.ok.len] at hrs
      have hoP := (Off.refl [p] w1).setCell (k := 23) (.int .i64 c3)
      clear hs
      go_upto_region 3 with fail
      clear c23 z23
      generalize w1.setCell ⟨p, 23, none⟩ (.int .i64 c3) = w2 at hrs hoP ⊢
      have hp0 : ∀ b, b ∈ K2 → b ∉ [p] := fun b hb hm => HS.out.dis _ hb (by rw [List.mem_singleton.1 hm]; exact HS.out.pm)
      have HS2 := Lib.hid (HS.out.next (s2 := { s3 with code := c3 }) (K2 := K2) hoP hrs rfl rfl HS.out.ok HS.out.wsh (HS.out.t0.off hoP (fun _ x hx => hp0 _ (HS.out.k0 x hx))) (HS.out.t1.off hoP (fun _ x hx => hp0 _ (HS.out.k1 x hx))) HS.out.n0 HS.out.n1 HS.out.k0 HS.out.k1 (fun x hx => ⟨.inl hx, Nat.lt_of_lt_of_le (HS.out.lt x (.inr hx)) hoP.size⟩))
      have c23 := cell_row HS2.out.row 23 _ (sdRow_code _ _ _ _ _ HS2.out.ok.len)
      simp only at c23
      go_wp2_with fail
      go_ret
      rw [HE.out]
      exact ⟨rfl, M2, K2, _, _, _, _, _, _, _, _, HS2.out, ho.trans hoP (fun x hx => by rw [List.mem_singleton.1 hx]; exact hm p HS.out.pm), hm, hk⟩
    · have e : FeedM s sp bs = (s, s.code) := by unfold FeedM; rw [if_neg (by intro h; omega)]
      have hl0 : len = 0 := by omega
      subst hl0
      rw [e, hcd]
      clear e HF
      go_enter Try.func12, Try.ntmps12
      go_wp2_with fail
      go_ret
      exact ⟨rfl, M, J, _, _, _, _, _, _, _, _, H.out, Off.refl _ _, fun x hx => .inl hx, fun x hx => .inl hx⟩
  · have e : FeedM s sp bs = (s, s.code) := by unfold FeedM; rw [if_neg (by intro h; exact hc0 (hcd ▸ h.1))]
    have ec : (cd == 0) = false := by simpa using hc0
    rw [e, hcd]
    clear e HF
    go_enter Try.func12, Try.ntmps12
    go_wp2_with fail
    go_ret
    exact ⟨rfl, M, J, _, _, _, _, _, _, _, _, H.out, Off.refl _ _, fun x hx => .inl hx, fun x hx => .inl hx⟩

def OutR (w : World) (l : List Int) (e : Ending) (w' : World) : Prop := ∃ v, e = .returned v ∧ Below w.heap.size w w' ∧ w'.ownsRow w.heap.size 5 1 v l.length (l.map (Value.int .u8)) ∧ (∀ x ∈ l, (Lit.int .u8 x).wf = true) ∧ l.length ≤ 1000
/-- what is to be sent in a space: 0 or 1. -/
def outM (s : Sd) (sp : Bool) : List Int := if s.asks = false ∧ s.knows = false then [] else if sp then s.o1 else s.o0
set_option maxRecDepth 100000 in
set_option maxHeartbeats 4000000 in
theorem Out_any (w : World) (p : Nat) (M J : List Nat) (s : Sd) (a0 a1 b0 b1 : Option Addr) (k0 k1 d0 d1 : Nat) (h : SdAt w p M J s a0 a1 b0 b1 k0 k1 d0 d1) (sp : Bool) :
    Calls Try.prog 10 #[.pointer (some ⟨p, 0, none⟩), .int .i64 (sp.toNat : Nat)] w (OutR w (outM s sp)) := by
  have H := Lib.hid h
  have hn0 := h.n0; have hn1 := h.n1
  have c0 := cell_row h.row 0 (.bool s.asks) rfl
  have c9 := cell_row h.row 9 (.bool s.knows) rfl
  have c2 := cell_row h.row 2 (.slice a0 s.o0.length k0) rfl
  have c3 := cell_row h.row 3 (.slice a1 s.o1.length k1) rfl
  have HC0 := Lib.hid (clone_any8 w a0 s.o0.length k0 s.o0 (by omega) h.t0)
  have HC1 := Lib.hid (clone_any8 w a1 s.o1.length k1 s.o1 (by omega) h.t1)
  have HO : Hid (outM s sp = if s.asks = false ∧ s.knows = false then [] else if sp then s.o1 else s.o0) := Lib.hid rfl
  clear h
  obtain ⟨ak, hak⟩ : ∃ x, s.asks = x := ⟨_, rfl⟩
  obtain ⟨kn, hkn⟩ : ∃ x, s.knows = x := ⟨_, rfl⟩
  rw [hak] at c0
  rw [hkn] at c9
  rw [hak, hkn] at HO
  cases ak <;> cases kn <;> cases sp
  · have e := HO.out
    rw [if_pos ⟨rfl, rfl⟩] at e
    clear HC0 HC1
    go_enter Try.func10, Try.ntmps10
    go_wp2_with fail
    go_ret
    try rw [e]
    exact ⟨_, rfl, Below.refl _ _, World.ownsRow_nil _ _ _ _, (fun x hx => by cases hx), Nat.zero_le _⟩
  · have e := HO.out
    rw [if_pos ⟨rfl, rfl⟩] at e
    clear HC0 HC1
    go_enter Try.func10, Try.ntmps10
    go_wp2_with fail
    go_ret
    try rw [e]
    exact ⟨_, rfl, Below.refl _ _, World.ownsRow_nil _ _ _ _, (fun x hx => by cases hx), Nat.zero_le _⟩
  · have e := HO.out
    rw [if_neg (by intro h; cases h.2), if_neg (by decide)] at e
    go_enter Try.func10, Try.ntmps10
    go_wp2_with fail
    refine Calls.mono HC0.out ?_
    rintro e' w1 ⟨v, rfl, hb, ho⟩
    go_wp2_with fail
    go_ret
    try rw [e]
    exact ⟨v, rfl, hb, ho, H.out.t0.2.1, by omega⟩
  · have e := HO.out
    rw [if_neg (by intro h; cases h.2), if_pos rfl] at e
    go_enter Try.func10, Try.ntmps10
    go_wp2_with fail
    refine Calls.mono HC1.out ?_
    rintro e' w1 ⟨v, rfl, hb, ho⟩
    go_wp2_with fail
    go_ret
    try rw [e]
    exact ⟨v, rfl, hb, ho, H.out.t1.2.1, by omega⟩
  · have e := HO.out
    rw [if_neg (by intro h; cases h.1), if_neg (by decide)] at e
    go_enter Try.func10, Try.ntmps10
    go_wp2_with fail
    refine Calls.mono HC0.out ?_
    rintro e' w1 ⟨v, rfl, hb, ho⟩
    go_wp2_with fail
    go_ret
    try rw [e]
    exact ⟨v, rfl, hb, ho, H.out.t0.2.1, by omega⟩
  · have e := HO.out
    rw [if_neg (by intro h; cases h.1), if_pos rfl] at e
    go_enter Try.func10, Try.ntmps10
    go_wp2_with fail
    refine Calls.mono HC1.out ?_
    rintro e' w1 ⟨v, rfl, hb, ho⟩
    go_wp2_with fail
    go_ret
    try rw [e]
    exact ⟨v, rfl, hb, ho, H.out.t1.2.1, by omega⟩
  · have e := HO.out
    rw [if_neg (by intro h; cases h.1), if_neg (by decide)] at e
    go_enter Try.func10, Try.ntmps10
    go_wp2_with fail
    refine Calls.mono HC0.out ?_
    rintro e' w1 ⟨v, rfl, hb, ho⟩
    go_wp2_with fail
    go_ret
    try rw [e]
    exact ⟨v, rfl, hb, ho, H.out.t0.2.1, by omega⟩
  · have e := HO.out
    rw [if_neg (by intro h; cases h.1), if_pos rfl] at e
    go_enter Try.func10, Try.ntmps10
    go_wp2_with fail
    refine Calls.mono HC1.out ?_
    rintro e' w1 ⟨v, rfl, hb, ho⟩
    go_wp2_with fail
    go_ret
    try rw [e]
    exact ⟨v, rfl, hb, ho, H.out.t1.2.1, by omega⟩
/-- the secret of a space: 1 or 2. -/
def secM (s : Sd) (two : Bool) : Int × Bool := if two then (if s.knows = true ∧ (s.done = true ∨ s.asks = false) then (keyedM s.sh [100, 97, 116, 97], true) else (0, false)) else (if s.knows = true then (s.sh, true) else (0, false))
set_option maxRecDepth 100000 in
set_option maxHeartbeats 4000000 in
theorem Secret_any (w : World) (p : Nat) (M J : List Nat) (s : Sd) (a0 a1 b0 b1 : Option Addr) (k0 k1 d0 d1 : Nat) (h : SdAt w p M J s a0 a1 b0 b1 k0 k1 d0 d1) :
    Makes Try.prog 13 #[.pointer (some ⟨p, 0, none⟩), .int .i64 1] w (.tuple #[.int .u64 (secM s false).1, .bool (secM s false).2]) := by
  have c8 := cell_row h.row 8 (.int .u64 s.sh) rfl
  have c9 := cell_row h.row 9 (.bool s.knows) rfl
  clear h
  have HO : Hid (secM s false = if s.knows = true then (s.sh, true) else (0, false)) := Lib.hid rfl
  obtain ⟨kn, hkn⟩ : ∃ x, s.knows = x := ⟨_, rfl⟩
  rw [hkn] at c9 HO
  cases kn
  · have e := HO.out
    rw [if_neg (by decide)] at e
    rw [e]
    clear e HO
    go_enter Try.func13, Try.ntmps13
    go_wp2_with fail
    go_ret2
    exact ⟨rfl, Below.refl _ _⟩
  · have e := HO.out
    rw [if_pos rfl] at e
    rw [e]
    clear e HO
    go_enter Try.func13, Try.ntmps13
    go_wp2_with fail
    go_ret2
    exact ⟨rfl, Below.refl _ _⟩
set_option maxRecDepth 100000 in
theorem Done_any (w : World) (p : Nat) (M J : List Nat) (s : Sd) (a0 a1 b0 b1 : Option Addr) (k0 k1 d0 d1 : Nat) (h : SdAt w p M J s a0 a1 b0 b1 k0 k1 d0 d1) :
    Makes Try.prog 19 #[.pointer (some ⟨p, 0, none⟩)] w (.bool s.done) := by
  have c10 := cell_row h.row 10 (.bool s.done) rfl
  clear h
  go_enter Try.func19, Try.ntmps19
  go_wp2_with fail
  go_ret
  exact ⟨rfl, Below.refl _ _⟩
end Go.Proofs.Ytlpajohhnngbmaa
