/- chapter 6's walks: ParamOrder. -/
import Derived.Test.YtooneejimladdaaPrmG
namespace Go.Proofs.Ytooneejimladdaa
open Go.RowKit
set_option linter.unusedVariables false

theorem enc_of (q : Pm) (hq : q.ok) (hr : rightM q = true) (X : List Int) (he : encP q = X ++ item 0 [0, 0, 0, 0, 0, 0, 0, 0]) (w : World) :
    Calls Try.prog 15 #[q.val] w fun e w' => ∃ a cap, e = .returned (.tuple #[.slice a (X.length + 10) cap, .int .i64 0]) ∧ X.length + 10 ≤ cap ∧ cap ≤ 9223372036854775807 ∧ IntsK .u8 w' a X.length X ∧ (∀ x, a = some x → w.heap.size ≤ x.block) ∧ Below w.heap.size w w' := by
  refine Calls.mono (pencode_ok w q hq hr) ?_
  rintro e w' ⟨a, cap, h1, h2, h3, h4, h5, h6⟩
  have hl : (encP q).length = X.length + 10 := by rw [he, List.length_append]; rfl
  rw [hl] at h1 h2 h4
  have h7 := h4.pre X.length (by omega)
  rw [he, List.take_left' rfl] at h7
  exact ⟨a, cap, h1, h2, h3, h7, h5, h6⟩

theorem own_of_row {w : World} {base g e n : Nat} {xs : List Value} (h : w.heap[g]? = some (.cells xs.toArray e (0, 0))) (hb : base ≤ g) (hl : xs.length = n) (hm : n ≤ maxLen) : w.ownsRow base e 1 (.slice (some ⟨g, 0, none⟩) n n) n xs :=
  ⟨by rw [hl, Nat.mul_one], .inr ⟨g, n, xs.toArray, rfl, hb, h, Nat.le_refl _, hm, by simp [hl], by rw [Nat.mul_one, ← hl]; simp⟩⟩
theorem putM_small (q : Nat) (h : q ≤ 20) : putM (q : Int) = [(q : Int)] := by
  have h2 : ∀ k : Fin 21, putM ((k.val : Nat) : Int) = [((k.val : Nat) : Int)] := by decide
  exact h2 ⟨q, by omega⟩

section
variable {P : Program} {Q : Exit → Act → World → Prop}
theorem plan_b {l : List Oper} {k j : Nat} {p q : Plan} {S : World → Prop} {a : Act} {w : World}
    (h1 : wpOp P l.toArray Q k (fun a' w' => ∃ S' : World → Prop, (∀ x, S' x → S x) ∧ S' w' ∧ p.wp P l.toArray Q S' a' w') a w)
    (h2 : wpOp P l.toArray Q j (fun a' w' => ∃ S' : World → Prop, (∀ x, S' x → S x) ∧ S' w' ∧ q.wp P l.toArray Q S' a' w') a w) : (Plan.b k p j q).wp P l.toArray Q S a w := ⟨h1, h2⟩
theorem plan_half {l : List Oper} {k : Nat} {p : Plan} {S : World → Prop} {a : Act} {w : World} {o : Oper} (ho : l[k]? = some o) (hw : Region.wanted o (yielded l.toArray a.tmps) = true)
    (h : ∀ K' : Act → World → Prop, (∀ a' w', S w' ∧ p.wp P l.toArray Q S a' w' → K' a' w') → Oper.wp P o a w K' Q) : wpOp P l.toArray Q k (fun a' w' => ∃ S' : World → Prop, (∀ x, S' x → S x) ∧ S' w' ∧ p.wp P l.toArray Q S' a' w') a w :=
  wpOp_step (by simpa using ho) fun K' hK => by rw [if_pos hw]; exact h K' fun a' w' ⟨h2, h3⟩ => hK a' w' ⟨S, fun _ h => h, h2, h3⟩
end
theorem wp_append_bytes_at {o : Oper} {a : Act} {w : World} {K : Act → World → Prop} {Q : Exit → Act → World → Prop} (s x : Operand)
    (ho : o.op = .call { callee := .builtin .append, args := #[s, x], argTypes := #[29, 29] })
    (base n : Nat) (v : Value) (xs : List Int) (hs : a.eval s = v) (hown : w.ownsRow base 5 1 v n (xs.map (Value.int .u8))) (xa : Option Addr) (m c : Nat) (bs : List Int) (hx : a.eval x = .slice xa m c) (hI : IntsK .u8 w xa m bs)
    (hb : n + m ≤ 140737488355328) (hbase : base ≤ w.heap.size)
    (h : ∀ v' w', w'.ownsRow base 5 1 v' (n + m) ((xs ++ bs).map (Value.int .u8)) → w.grownBy w' v.ownBlock → (v'.ownBlock = v.ownBlock ∨ v'.ownBlock = some w.heap.size) → K (a.put o.dst v') w') : Oper.wp Try.prog o a w K Q := by
  obtain ⟨v', w', hr, h2, h3, h4⟩ := append_bytes_at w o.type base n v xs hown xa m c bs hI hb hbase
  unfold Oper.wp execOp
  simp only [ho, resolve, invoke, builtin, Sem.run_bind, Sem.run_pure, Result.andThen_ok, List.map_toArray, List.map_cons, List.map_nil, hs, hx, hr]
  exact h v' w' h2 h3 h4

set_option maxRecDepth 100000 in
set_option maxHeartbeats 16000000 in
theorem order6_core (w : World) (a b c d' n turn : Int) (i d s m y0 y1 y2 y3 y4 y5 y6 y7 : Int) (xa : Option Addr) (xl xc : Nat) (xs : List Int)
    (HKP : Hid (∀ w, Makes Try.prog 12 #[.int .u64 a, .int .u64 b, .int .u64 c, .int .u64 d', .int .i64 n] w (.agg #[.int .u64 i, .int .u64 d, .int .u64 s, .int .u64 m, .int .u8 y0, .int .u8 y1, .int .u8 y2, .int .u8 y3, .int .u8 y4, .int .u8 y5, .int .u8 y6, .int .u8 y7])))
    (hok : (⟨i, d, s, m, [y0, y1, y2, y3, y4, y5, y6, y7]⟩ : Pm).ok) (hri : rightM ⟨i, d, s, m, [y0, y1, y2, y3, y4, y5, y6, y7]⟩ = true) (hturn : -9223372036854775808 ≤ turn ∧ turn ≤ 9223372036854775807)
    (hxc : xl ≤ xc) (hxm : xc ≤ 9223372036854775807) (hX : IntsK .u8 w xa xl xs) :
    Makes Try.prog 6 #[.int .u64 a, .int .u64 b, .int .u64 c, .int .u64 d', .int .i64 n, .int .i64 turn, .slice xa xl xc] w (.bool true) := by
  have hrr := (rightM_eq ⟨i, d, s, m, [y0, y1, y2, y3, y4, y5, y6, y7]⟩).1 hri
  simp only at hrr
  have HOR := Lib.hid (fun odd h k hk => dec_order ⟨i, d, s, m, [y0, y1, y2, y3, y4, y5, y6, y7]⟩ odd hok hri h k hk)
  have hz : ∀ x ∈ ([0, 0, 0, 0, 0, 0, 0, 0] : List Int), (Lit.int .u8 x).wf = true := by decide
  have hw0 : (Lit.int .u64 0).wf = true := by decide
  have HE0 : Hid (∀ w, Calls Try.prog 15 #[.agg #[.int .u64 i, .int .u64 0, .int .u64 0, .int .u64 0, .int .u8 0, .int .u8 0, .int .u8 0, .int .u8 0, .int .u8 0, .int .u8 0, .int .u8 0, .int .u8 0]] w fun e w' => ∃ a cap, e = .returned (.tuple #[.slice a ((oneM 1 i).length + 10) cap, .int .i64 0]) ∧ (oneM 1 i).length + 10 ≤ cap ∧ cap ≤ 9223372036854775807 ∧ IntsK .u8 w' a (oneM 1 i).length (oneM 1 i) ∧ (∀ x, a = some x → w.heap.size ≤ x.block) ∧ Below w.heap.size w w') :=
    Lib.hid (enc_of ⟨i, 0, 0, 0, [0, 0, 0, 0, 0, 0, 0, 0]⟩ ⟨hok.wi, hw0, hw0, hw0, rfl, hz⟩ ((rightM_eq ⟨i, 0, 0, 0, [0, 0, 0, 0, 0, 0, 0, 0]⟩).2 ⟨by simp only; omega, by simp only; omega, by simp only; omega, by simp only; omega⟩) (oneM 1 i) (by rw [encP_items]; simp [oneM]))
  have HL0 := oneM_len 1 i
  have HE1 : Hid (∀ w, Calls Try.prog 15 #[.agg #[.int .u64 0, .int .u64 d, .int .u64 0, .int .u64 0, .int .u8 0, .int .u8 0, .int .u8 0, .int .u8 0, .int .u8 0, .int .u8 0, .int .u8 0, .int .u8 0]] w fun e w' => ∃ a cap, e = .returned (.tuple #[.slice a ((oneM 4 d).length + 10) cap, .int .i64 0]) ∧ (oneM 4 d).length + 10 ≤ cap ∧ cap ≤ 9223372036854775807 ∧ IntsK .u8 w' a (oneM 4 d).length (oneM 4 d) ∧ (∀ x, a = some x → w.heap.size ≤ x.block) ∧ Below w.heap.size w w') :=
    Lib.hid (enc_of ⟨0, d, 0, 0, [0, 0, 0, 0, 0, 0, 0, 0]⟩ ⟨hw0, hok.wd, hw0, hw0, rfl, hz⟩ ((rightM_eq ⟨0, d, 0, 0, [0, 0, 0, 0, 0, 0, 0, 0]⟩).2 ⟨by simp only; omega, by simp only; omega, by simp only; omega, by simp only; omega⟩) (oneM 4 d) (by rw [encP_items]; simp [oneM]))
  have HL1 := oneM_len 4 d
  have HE2 : Hid (∀ w, Calls Try.prog 15 #[.agg #[.int .u64 0, .int .u64 0, .int .u64 s, .int .u64 0, .int .u8 0, .int .u8 0, .int .u8 0, .int .u8 0, .int .u8 0, .int .u8 0, .int .u8 0, .int .u8 0]] w fun e w' => ∃ a cap, e = .returned (.tuple #[.slice a ((oneM 5 s).length + 10) cap, .int .i64 0]) ∧ (oneM 5 s).length + 10 ≤ cap ∧ cap ≤ 9223372036854775807 ∧ IntsK .u8 w' a (oneM 5 s).length (oneM 5 s) ∧ (∀ x, a = some x → w.heap.size ≤ x.block) ∧ Below w.heap.size w w') :=
    Lib.hid (enc_of ⟨0, 0, s, 0, [0, 0, 0, 0, 0, 0, 0, 0]⟩ ⟨hw0, hw0, hok.ws, hw0, rfl, hz⟩ ((rightM_eq ⟨0, 0, s, 0, [0, 0, 0, 0, 0, 0, 0, 0]⟩).2 ⟨by simp only; omega, by simp only; omega, by simp only; omega, by simp only; omega⟩) (oneM 5 s) (by rw [encP_items]; simp [oneM]))
  have HL2 := oneM_len 5 s
  have HE3 : Hid (∀ w, Calls Try.prog 15 #[.agg #[.int .u64 0, .int .u64 0, .int .u64 0, .int .u64 m, .int .u8 0, .int .u8 0, .int .u8 0, .int .u8 0, .int .u8 0, .int .u8 0, .int .u8 0, .int .u8 0]] w fun e w' => ∃ a cap, e = .returned (.tuple #[.slice a ((oneM 8 m).length + 10) cap, .int .i64 0]) ∧ (oneM 8 m).length + 10 ≤ cap ∧ cap ≤ 9223372036854775807 ∧ IntsK .u8 w' a (oneM 8 m).length (oneM 8 m) ∧ (∀ x, a = some x → w.heap.size ≤ x.block) ∧ Below w.heap.size w w') :=
    Lib.hid (enc_of ⟨0, 0, 0, m, [0, 0, 0, 0, 0, 0, 0, 0]⟩ ⟨hw0, hw0, hw0, hok.wm, rfl, hz⟩ ((rightM_eq ⟨0, 0, 0, m, [0, 0, 0, 0, 0, 0, 0, 0]⟩).2 ⟨by simp only; omega, by simp only; omega, by simp only; omega, by simp only; omega⟩) (oneM 8 m) (by rw [encP_items]; simp [oneM]))
  have HL3 := oneM_len 8 m
  have hq : ∀ w, (Op.equalIn 9999 24 (.agg #[.int .u8 y0, .int .u8 y1, .int .u8 y2, .int .u8 y3, .int .u8 y4, .int .u8 y5, .int .u8 y6, .int .u8 y7]) (.agg #[.int .u8 y0, .int .u8 y1, .int .u8 y2, .int .u8 y3, .int .u8 y4, .int .u8 y5, .int .u8 y6, .int .u8 y7])).run Try.prog w = .ok true w := fun w => eqin_same w 9997 24 8 Try.underlying24 [y0, y1, y2, y3, y4, y5, y6, y7] rfl hok.wf
  have HQ := Lib.hid hq
  have HYW := Lib.hid hok.wf
  have HTURN := Lib.hid hturn
  obtain ⟨R0, hR0⟩ : ∃ R, oneM 1 i = R := ⟨_, rfl⟩
  obtain ⟨l0, hl0⟩ : ∃ l, R0.length = l := ⟨_, rfl⟩
  rw [hR0, hl0] at HE0 HL0
  have HR0 := Lib.hid hR0; have HRL0 := Lib.hid hl0
  clear hR0 hl0
  obtain ⟨R1, hR1⟩ : ∃ R, oneM 4 d = R := ⟨_, rfl⟩
  obtain ⟨l1, hl1⟩ : ∃ l, R1.length = l := ⟨_, rfl⟩
  rw [hR1, hl1] at HE1 HL1
  have HR1 := Lib.hid hR1; have HRL1 := Lib.hid hl1
  clear hR1 hl1
  obtain ⟨R2, hR2⟩ : ∃ R, oneM 5 s = R := ⟨_, rfl⟩
  obtain ⟨l2, hl2⟩ : ∃ l, R2.length = l := ⟨_, rfl⟩
  rw [hR2, hl2] at HE2 HL2
  have HR2 := Lib.hid hR2; have HRL2 := Lib.hid hl2
  clear hR2 hl2
  obtain ⟨R3, hR3⟩ : ∃ R, oneM 8 m = R := ⟨_, rfl⟩
  obtain ⟨l3, hl3⟩ : ∃ l, R3.length = l := ⟨_, rfl⟩
  rw [hR3, hl3] at HE3 HL3
  have HR3 := Lib.hid hR3; have HRL3 := Lib.hid hl3
  clear hR3 hl3
  have HXC := Lib.hid (fun w => cut_any w xa xl xc 20 hxc hxm)
  have HX := Lib.hid (hX.pre (min xl 20) (by omega))
  clear hrr hok hri hz hw0 hq hX
  go_enter Try.func6, Try.ntmps6
  go_wp2_with fail
  refine Calls.mono (HKP.out _) ?_
  rintro e w1 ⟨rfl, hb1⟩
  have hrA := heap_alloc_new w1 (.cells #[.int .u64 i, .int .u64 d, .int .u64 s, .int .u64 m, .int .u8 y0, .int .u8 y1, .int .u8 y2, .int .u8 y3, .int .u8 y4, .int .u8 y5, .int .u8 y6, .int .u8 y7] 26)
  have hbA := (Below.refl w1.heap.size w1).alloc (Nat.le_refl _) (.cells #[.int .u64 i, .int .u64 d, .int .u64 s, .int .u64 m, .int .u8 y0, .int .u8 y1, .int .u8 y2, .int .u8 y3, .int .u8 y4, .int .u8 y5, .int .u8 y6, .int .u8 y7] 26)
  have HRP := Lib.hid hrA; have HB := Lib.hid (bl_next hb1 hb1.size hbA)
  clear hb1 hrA hbA
  go_upto_region 2 with fail
  generalize w1.alloc (.cells #[.int .u64 i, .int .u64 d, .int .u64 s, .int .u64 m, .int .u8 y0, .int .u8 y1, .int .u8 y2, .int .u8 y3, .int .u8 y4, .int .u8 y5, .int .u8 y6, .int .u8 y7] 26) = W1 at HRP HB ⊢
  generalize w1.heap.size = gp at HRP ⊢
  go_upto_region 3 with fail
  have hb2 := (Below.refl W1.heap.size W1).alloc (Nat.le_refl _) (.cells #[] 29)
  have HRP2 := Lib.hid (bl_row hb2 (lt_of_block HRP.out) HRP.out); have HB2 := Lib.hid (bl_next HB.out HB.out.size hb2)
  have ho2 := World.ownsRow_made (base := W1.heap.size) (e := 29) (size := 1) W1 #[] 0 (Nat.le_refl _) (by unfold maxLen; omega) (by rfl)
  have hgs2 : W1.heap.size < (W1.alloc (.cells #[] 29)).heap.size := by simp
  have hwg := HB.out.size
  have hgpl := lt_of_block HRP.out
  generalize W1.alloc (.cells #[] 29) = W2 at HRP2 HB2 ho2 hgs2 ⊢
  obtain ⟨gs, hgs⟩ : ∃ gs, W1.heap.size = gs := ⟨_, rfl⟩
  rw [hgs] at ho2 hgs2 hwg hgpl ⊢
  have HO2 := Lib.hid ho2
  clear ho2 hgs hb2
  obtain ⟨c0, c1, c2, c3, c4, c5, c6, c7, c8, c9, c10, c11⟩ := row12 HRP2.out
  go_wp2_with fail
  clear c0 c1 c2 c3 c4 c5 c6 c7 c8 c9 c10 c11
  have hbQ := (Below.refl W2.heap.size W2).alloc (Nat.le_refl _) (.cells #[.int .u64 i, .int .u64 0, .int .u64 0, .int .u64 0, .int .u8 0, .int .u8 0, .int .u8 0, .int .u8 0, .int .u8 0, .int .u8 0, .int .u8 0, .int .u8 0, .int .u64 0, .int .u64 d, .int .u64 0, .int .u64 0, .int .u8 0, .int .u8 0, .int .u8 0, .int .u8 0, .int .u8 0, .int .u8 0, .int .u8 0, .int .u8 0, .int .u64 0, .int .u64 0, .int .u64 s, .int .u64 0, .int .u8 0, .int .u8 0, .int .u8 0, .int .u8 0, .int .u8 0, .int .u8 0, .int .u8 0, .int .u8 0, .int .u64 0, .int .u64 0, .int .u64 0, .int .u64 m, .int .u8 0, .int .u8 0, .int .u8 0, .int .u8 0, .int .u8 0, .int .u8 0, .int .u8 0, .int .u8 0] 26)
  have HQR := Lib.hid (heap_alloc_new W2 (.cells #[.int .u64 i, .int .u64 0, .int .u64 0, .int .u64 0, .int .u8 0, .int .u8 0, .int .u8 0, .int .u8 0, .int .u8 0, .int .u8 0, .int .u8 0, .int .u8 0, .int .u64 0, .int .u64 d, .int .u64 0, .int .u64 0, .int .u8 0, .int .u8 0, .int .u8 0, .int .u8 0, .int .u8 0, .int .u8 0, .int .u8 0, .int .u8 0, .int .u64 0, .int .u64 0, .int .u64 s, .int .u64 0, .int .u8 0, .int .u8 0, .int .u8 0, .int .u8 0, .int .u8 0, .int .u8 0, .int .u8 0, .int .u8 0, .int .u64 0, .int .u64 0, .int .u64 0, .int .u64 m, .int .u8 0, .int .u8 0, .int .u8 0, .int .u8 0, .int .u8 0, .int .u8 0, .int .u8 0, .int .u8 0] 26))
  have HRP3 := Lib.hid (bl_row hbQ (lt_of_block HRP2.out) HRP2.out); have HB3 := Lib.hid (bl_next HB2.out HB2.out.size hbQ); have HO3 := Lib.hid (own_below HO2.out hbQ)
  clear hbQ HRP2 HB2 HO2 HRP HB
  generalize W2.alloc (.cells #[.int .u64 i, .int .u64 0, .int .u64 0, .int .u64 0, .int .u8 0, .int .u8 0, .int .u8 0, .int .u8 0, .int .u8 0, .int .u8 0, .int .u8 0, .int .u8 0, .int .u64 0, .int .u64 d, .int .u64 0, .int .u64 0, .int .u8 0, .int .u8 0, .int .u8 0, .int .u8 0, .int .u8 0, .int .u8 0, .int .u8 0, .int .u8 0, .int .u64 0, .int .u64 0, .int .u64 s, .int .u64 0, .int .u8 0, .int .u8 0, .int .u8 0, .int .u8 0, .int .u8 0, .int .u8 0, .int .u8 0, .int .u8 0, .int .u64 0, .int .u64 0, .int .u64 0, .int .u64 m, .int .u8 0, .int .u8 0, .int .u8 0, .int .u8 0, .int .u8 0, .int .u8 0, .int .u8 0, .int .u8 0] 26) = W3 at HQR HRP3 HB3 HO3 ⊢
  obtain ⟨gq, hgq⟩ : ∃ gq, W2.heap.size = gq := ⟨_, rfl⟩
  rw [hgq] at HQR hgs2 ⊢
  have HR3 : Hid (Rows gs gq W3 (.slice (some ⟨gs, 0, none⟩) 0 0) []) := Lib.hid ⟨HO3.out, by simp, fun k hk => ⟨by simp [Value.ownBlock] at hk; omega, by simp⟩⟩
  clear hgq HO3
  obtain ⟨v3, hv3⟩ : ∃ v, Value.slice (some ⟨gs, 0, none⟩) 0 0 = v := ⟨_, rfl⟩
  rw [hv3] at HR3
  have HV3 := Lib.hid hv3
  clear hv3
  refine wp_loop_rounds 5 ?_
  rw [rounds_succ]
  have q0 : W3.cell? ⟨gq, 0, none⟩ = some (.int .u64 i) := row_cell HQR.out 0 _ rfl
  have q1 : W3.cell? ⟨gq, 1, none⟩ = some (.int .u64 0) := row_cell HQR.out 1 _ rfl
  have q2 : W3.cell? ⟨gq, 2, none⟩ = some (.int .u64 0) := row_cell HQR.out 2 _ rfl
  have q3 : W3.cell? ⟨gq, 3, none⟩ = some (.int .u64 0) := row_cell HQR.out 3 _ rfl
  have q4 : W3.cell? ⟨gq, 4, none⟩ = some (.int .u8 0) := row_cell HQR.out 4 _ rfl
  have q5 : W3.cell? ⟨gq, 5, none⟩ = some (.int .u8 0) := row_cell HQR.out 5 _ rfl
  have q6 : W3.cell? ⟨gq, 6, none⟩ = some (.int .u8 0) := row_cell HQR.out 6 _ rfl
  have q7 : W3.cell? ⟨gq, 7, none⟩ = some (.int .u8 0) := row_cell HQR.out 7 _ rfl
  have q8 : W3.cell? ⟨gq, 8, none⟩ = some (.int .u8 0) := row_cell HQR.out 8 _ rfl
  have q9 : W3.cell? ⟨gq, 9, none⟩ = some (.int .u8 0) := row_cell HQR.out 9 _ rfl
  have q10 : W3.cell? ⟨gq, 10, none⟩ = some (.int .u8 0) := row_cell HQR.out 10 _ rfl
  have q11 : W3.cell? ⟨gq, 11, none⟩ = some (.int .u8 0) := row_cell HQR.out 11 _ rfl
  go_wp2_with fail
  clear q0 q1 q2 q3 q4 q5 q6 q7 q8 q9 q10 q11
  have hbx := (Below.refl W3.heap.size W3).alloc (Nat.le_refl _) (.cells #[.int .u64 i, .int .u64 0, .int .u64 0, .int .u64 0, .int .u8 0, .int .u8 0, .int .u8 0, .int .u8 0, .int .u8 0, .int .u8 0, .int .u8 0, .int .u8 0] 26)
  have hRw : Rows gs gq W3 (Value.slice (some ⟨gs, 0, none⟩) 0 0) [] := by rw [HV3.out]; exact HR3.out
  refine Calls.mono (HE0.out _) ?_
  rintro e Wa0 ⟨a0, cp0, rfl, hcp0, hcm0, hi0, hlo0, hb⟩
  have hbb := hbx.trans (hb.mono hbx.size)
  have hlow : ∀ k, (Value.slice (some ⟨gs, 0, none⟩) 0 0).ownBlock = some k → ∀ r ∈ [((a0, l0, cp0, R0) : Rw)], 0 < r.2.1 → ∀ x, r.1 = some x → x.block ≠ k := fun k hk r hr _ x hx => by
    simp only [List.mem_singleton] at hr; subst hr
    have h1 := (hRw.own.lt k hk).2
    have h2 := hlo0 x hx
    have h3 := hbx.size
    omega
  have HLOW := Lib.hid hlow
  have HQRa := Lib.hid (bl_row hbb (lt_of_block HQR.out) HQR.out)
  have HRPa := Lib.hid (bl_row hbb (lt_of_block HRP3.out) HRP3.out)
  have HBa := Lib.hid (bl_next HB3.out HB3.out.size hbb)
  have HRa := Lib.hid (hRw.below hbb)
  have HIa := Lib.hid hi0
  clear hbx hb hbb hi0 hlo0 hRw hlow HRP3 HB3 HR3 HQR
  have hbs := (Below.refl Wa0.heap.size Wa0).alloc (Nat.le_refl _) (.cells #[.slice a0 l0 cp0] 29)
  have HNa := Lib.hid (heap_alloc_new Wa0 (.cells #[.slice a0 l0 cp0] 29))
  have HRb := Lib.hid (HRa.out.below hbs)
  have HBb := Lib.hid (bl_next HBa.out HBa.out.size hbs)
  have HRPb := Lib.hid (bl_row hbs (lt_of_block HRPa.out) HRPa.out)
  have HQRb := Lib.hid (bl_row hbs (lt_of_block HQRa.out) HQRa.out)
  have HIb := Lib.hid (HIa.out.below hbs)
  have hgqb := lt_of_block HQRb.out
  have hszb : gs ≤ (Wa0.alloc (.cells #[.slice a0 l0 cp0] 29)).heap.size := by omega
  clear hbs HQRa HRPa HBa HRa HIa
  go_wp2_with (first | (at_builtin; refine wpList_append_sl rfl _ _ rfl gs 0 (Value.slice (some ⟨gs, 0, none⟩) 0 0) _ rfl HRb.out.own _ 1 [.slice a0 l0 cp0] rfl HNa.out rfl (by intro v hv; simp at hv; subst hv; rfl) (by omega) hszb ?_; intro vr0 Wb0 hown hgrow hvv) | fail)
  have HR0r := Lib.hid (HRb.out.add (ns := [(a0, l0, cp0, R0)]) (by intro r hr; simp only [List.mem_singleton] at hr; subst hr; exact HIb.out) HLOW.out hown hgrow hvv hgqb)
  have HB0r := Lib.hid (HBb.out.grown hgrow HBb.out.size (fun k hk => by have := own_base HRb.out.own k hk; omega))
  have HRP0r := Lib.hid (grown_row hgrow (b := gp) (by intro e; have := own_base HRb.out.own gp e.symm; omega) HRPb.out)
  have HQR := Lib.hid (grown_row hgrow (b := gq) (by intro e; exact (HRb.out.apart gq e.symm).1 rfl) HQRb.out)
  clear hown hgrow hvv HNa HRb HBb HRPb HQRb HIb hgqb hszb HLOW
  rw [rounds_succ]
  have q0 : Wb0.cell? ⟨gq, 12, none⟩ = some (.int .u64 0) := row_cell HQR.out 12 _ rfl
  have q1 : Wb0.cell? ⟨gq, 13, none⟩ = some (.int .u64 d) := row_cell HQR.out 13 _ rfl
  have q2 : Wb0.cell? ⟨gq, 14, none⟩ = some (.int .u64 0) := row_cell HQR.out 14 _ rfl
  have q3 : Wb0.cell? ⟨gq, 15, none⟩ = some (.int .u64 0) := row_cell HQR.out 15 _ rfl
  have q4 : Wb0.cell? ⟨gq, 16, none⟩ = some (.int .u8 0) := row_cell HQR.out 16 _ rfl
  have q5 : Wb0.cell? ⟨gq, 17, none⟩ = some (.int .u8 0) := row_cell HQR.out 17 _ rfl
  have q6 : Wb0.cell? ⟨gq, 18, none⟩ = some (.int .u8 0) := row_cell HQR.out 18 _ rfl
  have q7 : Wb0.cell? ⟨gq, 19, none⟩ = some (.int .u8 0) := row_cell HQR.out 19 _ rfl
  have q8 : Wb0.cell? ⟨gq, 20, none⟩ = some (.int .u8 0) := row_cell HQR.out 20 _ rfl
  have q9 : Wb0.cell? ⟨gq, 21, none⟩ = some (.int .u8 0) := row_cell HQR.out 21 _ rfl
  have q10 : Wb0.cell? ⟨gq, 22, none⟩ = some (.int .u8 0) := row_cell HQR.out 22 _ rfl
  have q11 : Wb0.cell? ⟨gq, 23, none⟩ = some (.int .u8 0) := row_cell HQR.out 23 _ rfl
  go_wp2_with fail
  clear q0 q1 q2 q3 q4 q5 q6 q7 q8 q9 q10 q11
  have hbx := (Below.refl Wb0.heap.size Wb0).alloc (Nat.le_refl _) (.cells #[.int .u64 0, .int .u64 d, .int .u64 0, .int .u64 0, .int .u8 0, .int .u8 0, .int .u8 0, .int .u8 0, .int .u8 0, .int .u8 0, .int .u8 0, .int .u8 0] 26)
  have hRw : Rows gs gq Wb0 vr0 ([] ++ [(a0, l0, cp0, R0)]) := HR0r.out
  refine Calls.mono (HE1.out _) ?_
  rintro e Wa1 ⟨a1, cp1, rfl, hcp1, hcm1, hi1, hlo1, hb⟩
  have hbb := hbx.trans (hb.mono hbx.size)
  have hlow : ∀ k, vr0.ownBlock = some k → ∀ r ∈ [((a1, l1, cp1, R1) : Rw)], 0 < r.2.1 → ∀ x, r.1 = some x → x.block ≠ k := fun k hk r hr _ x hx => by
    simp only [List.mem_singleton] at hr; subst hr
    have h1 := (hRw.own.lt k hk).2
    have h2 := hlo1 x hx
    have h3 := hbx.size
    omega
  have HLOW := Lib.hid hlow
  have HQRa := Lib.hid (bl_row hbb (lt_of_block HQR.out) HQR.out)
  have HRPa := Lib.hid (bl_row hbb (lt_of_block HRP0r.out) HRP0r.out)
  have HBa := Lib.hid (bl_next HB0r.out HB0r.out.size hbb)
  have HRa := Lib.hid (hRw.below hbb)
  have HIa := Lib.hid hi1
  clear hbx hb hbb hi1 hlo1 hRw hlow HRP0r HB0r HR0r HQR
  have hbs := (Below.refl Wa1.heap.size Wa1).alloc (Nat.le_refl _) (.cells #[.slice a1 l1 cp1] 29)
  have HNa := Lib.hid (heap_alloc_new Wa1 (.cells #[.slice a1 l1 cp1] 29))
  have HRb := Lib.hid (HRa.out.below hbs)
  have HBb := Lib.hid (bl_next HBa.out HBa.out.size hbs)
  have HRPb := Lib.hid (bl_row hbs (lt_of_block HRPa.out) HRPa.out)
  have HQRb := Lib.hid (bl_row hbs (lt_of_block HQRa.out) HQRa.out)
  have HIb := Lib.hid (HIa.out.below hbs)
  have hgqb := lt_of_block HQRb.out
  have hszb : gs ≤ (Wa1.alloc (.cells #[.slice a1 l1 cp1] 29)).heap.size := by omega
  clear hbs HQRa HRPa HBa HRa HIa
  go_wp2_with (first | (at_builtin; refine wpList_append_sl rfl _ _ rfl gs 1 vr0 _ rfl HRb.out.own _ 1 [.slice a1 l1 cp1] rfl HNa.out rfl (by intro v hv; simp at hv; subst hv; rfl) (by omega) hszb ?_; intro vr1 Wb1 hown hgrow hvv) | fail)
  have HR1r := Lib.hid (HRb.out.add (ns := [(a1, l1, cp1, R1)]) (by intro r hr; simp only [List.mem_singleton] at hr; subst hr; exact HIb.out) HLOW.out hown hgrow hvv hgqb)
  have HB1r := Lib.hid (HBb.out.grown hgrow HBb.out.size (fun k hk => by have := own_base HRb.out.own k hk; omega))
  have HRP1r := Lib.hid (grown_row hgrow (b := gp) (by intro e; have := own_base HRb.out.own gp e.symm; omega) HRPb.out)
  have HQR := Lib.hid (grown_row hgrow (b := gq) (by intro e; exact (HRb.out.apart gq e.symm).1 rfl) HQRb.out)
  clear hown hgrow hvv HNa HRb HBb HRPb HQRb HIb hgqb hszb HLOW
  rw [rounds_succ]
  have q0 : Wb1.cell? ⟨gq, 24, none⟩ = some (.int .u64 0) := row_cell HQR.out 24 _ rfl
  have q1 : Wb1.cell? ⟨gq, 25, none⟩ = some (.int .u64 0) := row_cell HQR.out 25 _ rfl
  have q2 : Wb1.cell? ⟨gq, 26, none⟩ = some (.int .u64 s) := row_cell HQR.out 26 _ rfl
  have q3 : Wb1.cell? ⟨gq, 27, none⟩ = some (.int .u64 0) := row_cell HQR.out 27 _ rfl
  have q4 : Wb1.cell? ⟨gq, 28, none⟩ = some (.int .u8 0) := row_cell HQR.out 28 _ rfl
  have q5 : Wb1.cell? ⟨gq, 29, none⟩ = some (.int .u8 0) := row_cell HQR.out 29 _ rfl
  have q6 : Wb1.cell? ⟨gq, 30, none⟩ = some (.int .u8 0) := row_cell HQR.out 30 _ rfl
  have q7 : Wb1.cell? ⟨gq, 31, none⟩ = some (.int .u8 0) := row_cell HQR.out 31 _ rfl
  have q8 : Wb1.cell? ⟨gq, 32, none⟩ = some (.int .u8 0) := row_cell HQR.out 32 _ rfl
  have q9 : Wb1.cell? ⟨gq, 33, none⟩ = some (.int .u8 0) := row_cell HQR.out 33 _ rfl
  have q10 : Wb1.cell? ⟨gq, 34, none⟩ = some (.int .u8 0) := row_cell HQR.out 34 _ rfl
  have q11 : Wb1.cell? ⟨gq, 35, none⟩ = some (.int .u8 0) := row_cell HQR.out 35 _ rfl
  go_wp2_with fail
  clear q0 q1 q2 q3 q4 q5 q6 q7 q8 q9 q10 q11
  have hbx := (Below.refl Wb1.heap.size Wb1).alloc (Nat.le_refl _) (.cells #[.int .u64 0, .int .u64 0, .int .u64 s, .int .u64 0, .int .u8 0, .int .u8 0, .int .u8 0, .int .u8 0, .int .u8 0, .int .u8 0, .int .u8 0, .int .u8 0] 26)
  have hRw : Rows gs gq Wb1 vr1 (([] ++ [(a0, l0, cp0, R0)]) ++ [(a1, l1, cp1, R1)]) := HR1r.out
  refine Calls.mono (HE2.out _) ?_
  rintro e Wa2 ⟨a2, cp2, rfl, hcp2, hcm2, hi2, hlo2, hb⟩
  have hbb := hbx.trans (hb.mono hbx.size)
  have hlow : ∀ k, vr1.ownBlock = some k → ∀ r ∈ [((a2, l2, cp2, R2) : Rw)], 0 < r.2.1 → ∀ x, r.1 = some x → x.block ≠ k := fun k hk r hr _ x hx => by
    simp only [List.mem_singleton] at hr; subst hr
    have h1 := (hRw.own.lt k hk).2
    have h2 := hlo2 x hx
    have h3 := hbx.size
    omega
  have HLOW := Lib.hid hlow
  have HQRa := Lib.hid (bl_row hbb (lt_of_block HQR.out) HQR.out)
  have HRPa := Lib.hid (bl_row hbb (lt_of_block HRP1r.out) HRP1r.out)
  have HBa := Lib.hid (bl_next HB1r.out HB1r.out.size hbb)
  have HRa := Lib.hid (hRw.below hbb)
  have HIa := Lib.hid hi2
  clear hbx hb hbb hi2 hlo2 hRw hlow HRP1r HB1r HR1r HQR
  have hbs := (Below.refl Wa2.heap.size Wa2).alloc (Nat.le_refl _) (.cells #[.slice a2 l2 cp2] 29)
  have HNa := Lib.hid (heap_alloc_new Wa2 (.cells #[.slice a2 l2 cp2] 29))
  have HRb := Lib.hid (HRa.out.below hbs)
  have HBb := Lib.hid (bl_next HBa.out HBa.out.size hbs)
  have HRPb := Lib.hid (bl_row hbs (lt_of_block HRPa.out) HRPa.out)
  have HQRb := Lib.hid (bl_row hbs (lt_of_block HQRa.out) HQRa.out)
  have HIb := Lib.hid (HIa.out.below hbs)
  have hgqb := lt_of_block HQRb.out
  have hszb : gs ≤ (Wa2.alloc (.cells #[.slice a2 l2 cp2] 29)).heap.size := by omega
  clear hbs HQRa HRPa HBa HRa HIa
  go_wp2_with (first | (at_builtin; refine wpList_append_sl rfl _ _ rfl gs 2 vr1 _ rfl HRb.out.own _ 1 [.slice a2 l2 cp2] rfl HNa.out rfl (by intro v hv; simp at hv; subst hv; rfl) (by omega) hszb ?_; intro vr2 Wb2 hown hgrow hvv) | fail)
  have HR2r := Lib.hid (HRb.out.add (ns := [(a2, l2, cp2, R2)]) (by intro r hr; simp only [List.mem_singleton] at hr; subst hr; exact HIb.out) HLOW.out hown hgrow hvv hgqb)
  have HB2r := Lib.hid (HBb.out.grown hgrow HBb.out.size (fun k hk => by have := own_base HRb.out.own k hk; omega))
  have HRP2r := Lib.hid (grown_row hgrow (b := gp) (by intro e; have := own_base HRb.out.own gp e.symm; omega) HRPb.out)
  have HQR := Lib.hid (grown_row hgrow (b := gq) (by intro e; exact (HRb.out.apart gq e.symm).1 rfl) HQRb.out)
  clear hown hgrow hvv HNa HRb HBb HRPb HQRb HIb hgqb hszb HLOW
  rw [rounds_succ]
  have q0 : Wb2.cell? ⟨gq, 36, none⟩ = some (.int .u64 0) := row_cell HQR.out 36 _ rfl
  have q1 : Wb2.cell? ⟨gq, 37, none⟩ = some (.int .u64 0) := row_cell HQR.out 37 _ rfl
  have q2 : Wb2.cell? ⟨gq, 38, none⟩ = some (.int .u64 0) := row_cell HQR.out 38 _ rfl
  have q3 : Wb2.cell? ⟨gq, 39, none⟩ = some (.int .u64 m) := row_cell HQR.out 39 _ rfl
  have q4 : Wb2.cell? ⟨gq, 40, none⟩ = some (.int .u8 0) := row_cell HQR.out 40 _ rfl
  have q5 : Wb2.cell? ⟨gq, 41, none⟩ = some (.int .u8 0) := row_cell HQR.out 41 _ rfl
  have q6 : Wb2.cell? ⟨gq, 42, none⟩ = some (.int .u8 0) := row_cell HQR.out 42 _ rfl
  have q7 : Wb2.cell? ⟨gq, 43, none⟩ = some (.int .u8 0) := row_cell HQR.out 43 _ rfl
  have q8 : Wb2.cell? ⟨gq, 44, none⟩ = some (.int .u8 0) := row_cell HQR.out 44 _ rfl
  have q9 : Wb2.cell? ⟨gq, 45, none⟩ = some (.int .u8 0) := row_cell HQR.out 45 _ rfl
  have q10 : Wb2.cell? ⟨gq, 46, none⟩ = some (.int .u8 0) := row_cell HQR.out 46 _ rfl
  have q11 : Wb2.cell? ⟨gq, 47, none⟩ = some (.int .u8 0) := row_cell HQR.out 47 _ rfl
  go_wp2_with fail
  clear q0 q1 q2 q3 q4 q5 q6 q7 q8 q9 q10 q11
  have hbx := (Below.refl Wb2.heap.size Wb2).alloc (Nat.le_refl _) (.cells #[.int .u64 0, .int .u64 0, .int .u64 0, .int .u64 m, .int .u8 0, .int .u8 0, .int .u8 0, .int .u8 0, .int .u8 0, .int .u8 0, .int .u8 0, .int .u8 0] 26)
  have hRw : Rows gs gq Wb2 vr2 ((([] ++ [(a0, l0, cp0, R0)]) ++ [(a1, l1, cp1, R1)]) ++ [(a2, l2, cp2, R2)]) := HR2r.out
  refine Calls.mono (HE3.out _) ?_
  rintro e Wa3 ⟨a3, cp3, rfl, hcp3, hcm3, hi3, hlo3, hb⟩
  have hbb := hbx.trans (hb.mono hbx.size)
  have hlow : ∀ k, vr2.ownBlock = some k → ∀ r ∈ [((a3, l3, cp3, R3) : Rw)], 0 < r.2.1 → ∀ x, r.1 = some x → x.block ≠ k := fun k hk r hr _ x hx => by
    simp only [List.mem_singleton] at hr; subst hr
    have h1 := (hRw.own.lt k hk).2
    have h2 := hlo3 x hx
    have h3 := hbx.size
    omega
  have HLOW := Lib.hid hlow
  have HQRa := Lib.hid (bl_row hbb (lt_of_block HQR.out) HQR.out)
  have HRPa := Lib.hid (bl_row hbb (lt_of_block HRP2r.out) HRP2r.out)
  have HBa := Lib.hid (bl_next HB2r.out HB2r.out.size hbb)
  have HRa := Lib.hid (hRw.below hbb)
  have HIa := Lib.hid hi3
  clear hbx hb hbb hi3 hlo3 hRw hlow HRP2r HB2r HR2r HQR
  have hbs := (Below.refl Wa3.heap.size Wa3).alloc (Nat.le_refl _) (.cells #[.slice a3 l3 cp3] 29)
  have HNa := Lib.hid (heap_alloc_new Wa3 (.cells #[.slice a3 l3 cp3] 29))
  have HRb := Lib.hid (HRa.out.below hbs)
  have HBb := Lib.hid (bl_next HBa.out HBa.out.size hbs)
  have HRPb := Lib.hid (bl_row hbs (lt_of_block HRPa.out) HRPa.out)
  have HQRb := Lib.hid (bl_row hbs (lt_of_block HQRa.out) HQRa.out)
  have HIb := Lib.hid (HIa.out.below hbs)
  have hgqb := lt_of_block HQRb.out
  have hszb : gs ≤ (Wa3.alloc (.cells #[.slice a3 l3 cp3] 29)).heap.size := by omega
  clear hbs HQRa HRPa HBa HRa HIa
  go_wp2_with (first | (at_builtin; refine wpList_append_sl rfl _ _ rfl gs 3 vr2 _ rfl HRb.out.own _ 1 [.slice a3 l3 cp3] rfl HNa.out rfl (by intro v hv; simp at hv; subst hv; rfl) (by omega) hszb ?_; intro vr3 Wb3 hown hgrow hvv) | fail)
  have HR3r := Lib.hid (HRb.out.add (ns := [(a3, l3, cp3, R3)]) (by intro r hr; simp only [List.mem_singleton] at hr; subst hr; exact HIb.out) HLOW.out hown hgrow hvv hgqb)
  have HB3r := Lib.hid (HBb.out.grown hgrow HBb.out.size (fun k hk => by have := own_base HRb.out.own k hk; omega))
  have HRP3r := Lib.hid (grown_row hgrow (b := gp) (by intro e; have := own_base HRb.out.own gp e.symm; omega) HRPb.out)
  have HQR := Lib.hid (grown_row hgrow (b := gq) (by intro e; exact (HRb.out.apart gq e.symm).1 rfl) HQRb.out)
  clear hown hgrow hvv HNa HRb HBb HRPb HQRb HIb hgqb hszb HLOW
  rw [rounds_succ]
  have hgql := lt_of_block HQR.out
  have hL30 := HL0; have hL31 := HL1; have hL32 := HL2; have hL33 := HL3
  clear HQR
  go_upto_region 11 with fail
  obtain ⟨q, hqq⟩ : ∃ q, min xl 20 = q := ⟨_, rfl⟩
  have hq20 : q ≤ 20 := by omega
  have hqx : q ≤ xl := by omega
  rw [hqq] at HXC HX
  clear hqq
  have hX8 := HX.out.1
  obtain ⟨odd, hodd⟩ : ∃ odd, xs.take q = odd := ⟨_, rfl⟩
  rw [hodd] at HX hX8
  clear hodd
  have HPQ := Lib.hid (putM_small q hq20)
  -- the name's row
  have hbA := (Below.refl Wb3.heap.size Wb3).alloc (Nat.le_refl _) (.cells #[.int .u8 0, .int .u8 8] 5)
  have hrA := heap_alloc_new Wb3 (.cells #[.int .u8 0, .int .u8 8] 5)
  have HRP4 := Lib.hid (bl_row hbA (lt_of_block HRP3r.out) HRP3r.out)
  have HI4 := Lib.hid (ints_tail (v0 := .int .u64 i) (v1 := .int .u64 d) (v2 := .int .u64 s) (v3 := .int .u64 m) (ys := [y0, y1, y2, y3, y4, y5, y6, y7]) HRP4.out HYW.out)
  have HO4 := Lib.hid (own_of_row (n := 2) (xs := ([0, 8] : List Int).map (Value.int .u8)) hrA (Nat.le_refl _) rfl (by unfold maxLen; omega))
  have HB4 := Lib.hid hbA
  have hsz4 := hbA.size
  clear hbA hrA HRP4
  go_wp2_with (first | (at_builtin; refine wpList_append_bytes rfl _ _ rfl Wb3.heap.size 2 _ [0, 8] rfl HO4.out _ 8 8 _ rfl HI4.out (by omega) hsz4 ?_; intro v5 W5 hown hgrow; have HO5 := Lib.hid hown; have HB5 := Lib.hid (HB4.out.grown hgrow hsz4 (own_base HO4.out)); clear hown hgrow) | fail)
  obtain ⟨b5, cp5, rfl, hcp5⟩ := own_slice HO5.out
  obtain ⟨_, _, e5, _, hi5, hlo5⟩ := ints_of_own HO5.out (by intro x hx; rcases List.mem_append.1 hx with h | h; exact (by decide : ∀ x ∈ ([0, 8] : List Int), (Lit.int .u8 x).wf = true) x h; exact HYW.out x h)
  injection e5 with e51 e52 e53
  subst e51
  have HIN := Lib.hid hi5
  have HLN := Lib.hid hlo5
  have HR5 := Lib.hid (HR3r.out.below HB5.out); have HBW5 := Lib.hid (bl_next HB3r.out HB3r.out.size HB5.out); have HRP5 := Lib.hid (bl_row HB5.out (lt_of_block HRP3r.out) HRP3r.out)
  clear hi5 hlo5 e52 e53 HO4 HB4 HI4
  refine Calls.mono (HXC.out _) ?_
  rintro e W5' ⟨rfl, rfl⟩
  -- the odd one's row
  have hbC := (Below.refl W5.heap.size W5).alloc (Nat.le_refl _) (.cells #[.int .u8 63, .int .u8 q] 5)
  have hrC := heap_alloc_new W5 (.cells #[.int .u8 63, .int .u8 q] 5)
  have HO6 := Lib.hid (own_of_row (n := 2) (xs := ([63, (q : Int)] : List Int).map (Value.int .u8)) hrC (Nat.le_refl _) rfl (by unfold maxLen; omega))
  have HB6 := Lib.hid hbC
  have hsz6 := hbC.size
  have HX6 := Lib.hid (HX.out.below (bl_next HBW5.out HBW5.out.size hbC))
  clear hbC hrC
  go_wp2_with fail
  refine Calls.mono (HXC.out _) ?_
  rintro e W6' ⟨rfl, rfl⟩
  have hWb5 := HB5.out.size
  go_upto_region 12 with (first
    | (at_builtin
       refine wpList_append_bytes rfl _ _ rfl W5.heap.size 2 _ [63, (q : Int)] rfl HO6.out _ q xc odd rfl HX6.out (by omega) hsz6 ?_
       intro v7 W7 hown hgrow
       have HO7 := Lib.hid hown
       have HB7 := Lib.hid (HB6.out.grown hgrow hsz6 (own_base HO6.out))
       clear hown hgrow
       obtain ⟨b7, cp7, rfl, hcp7⟩ := own_slice HO7.out
       obtain ⟨_, _, e7, _, hi7, hlo7⟩ := ints_of_own HO7.out (by
         intro x hx
         rcases List.mem_append.1 hx with h | h
         · simp only [List.mem_cons, List.not_mem_nil, or_false] at h
           rcases h with rfl | rfl
           · decide
           · exact wf_u8_of (by omega) (by omega)
         · exact HX6.out.2.1 x h)
       injection e7 with e71 e72 e73
       subst e71
       clear e72 e73
       have hbs := (Below.refl W7.heap.size W7).alloc (Nat.le_refl _) (.cells #[.slice b5 10 cp5, .slice b7 (2 + q) cp7] 29)
       have HNc := Lib.hid (heap_alloc_new W7 (.cells #[.slice b5 10 cp5, .slice b7 (2 + q) cp7] 29))
       have hb57 := bl_next HB7.out HB7.out.size hbs
       have HRc := Lib.hid (HR5.out.below hb57)
       have HBc := Lib.hid (bl_next HBW5.out HBW5.out.size hb57)
       have HRPc := Lib.hid (bl_row hb57 (lt_of_block HRP5.out) HRP5.out)
       have HIc5 := Lib.hid (HIN.out.below hb57)
       have HIc7 := Lib.hid (hi7.below hbs)
       have hszc : gs ≤ (W7.alloc (.cells #[.slice b5 10 cp5, .slice b7 (2 + q) cp7] 29)).heap.size := by have := hb57.size; omega
       have hgqc : gq < (W7.alloc (.cells #[.slice b5 10 cp5, .slice b7 (2 + q) cp7] 29)).heap.size := by have := hb57.size; omega
       have HLc : Hid (∀ k, vr3.ownBlock = some k → ∀ r ∈ [((b5, 10, cp5, [0, 8] ++ [y0, y1, y2, y3, y4, y5, y6, y7]) : Rw), (b7, 2 + q, cp7, [63, (q : Int)] ++ odd)], 0 < r.2.1 → ∀ x, r.1 = some x → x.block ≠ k) := Lib.hid (by
         intro k hk r hr h0 x hx
         have h1 := (HR3r.out.own.lt k hk).2
         simp only [List.mem_cons, List.not_mem_nil, or_false] at hr
         rcases hr with rfl | rfl
         · have h2 := HLN.out x hx; omega
         · have h2 := hlo7 x hx; omega)
       clear hbs hb57 hi7 hlo7)
    | (at_builtin; refine wpList_append_sl rfl _ _ rfl gs 4 vr3 _ rfl HRc.out.own _ 2 [.slice b5 10 cp5, .slice b7 (2 + q) cp7] rfl HNc.out rfl (by intro v hv; simp at hv; rcases hv with rfl | rfl <;> rfl) (by omega) hszc ?_; intro vr4 W8 hown hgrow hvv)
    | fail)
  have HR8 := Lib.hid (HRc.out.add (ns := [(b5, 10, cp5, [0, 8] ++ [y0, y1, y2, y3, y4, y5, y6, y7]), (b7, 2 + q, cp7, [63, (q : Int)] ++ odd)]) (by intro r hr; simp only [List.mem_cons, List.not_mem_nil, or_false] at hr; rcases hr with rfl | rfl; exact HIc5.out; exact HIc7.out) HLc.out hown hgrow hvv hgqc)
  have HB8 := Lib.hid (HBc.out.grown hgrow HBc.out.size (fun k hk => by have := own_base HRc.out.own k hk; omega))
  have HRP8 := Lib.hid (grown_row hgrow (b := gp) (by intro e; have := own_base HRc.out.own gp e.symm; omega) HRPc.out)
  clear hown hgrow hvv HRc HBc HRPc HIc5 HIc7 HLc HNc HO7 HB7 HO6 HB6 HX6 hszc hgqc HR5 HBW5 HRP5 HIN HLN HR3r HB3r HRP3r HO5 HB5
  have HROW : Hid (∀ t, t < 6 → ∃ r : Rw, ([((a0, l0, cp0, R0) : Rw), (a1, l1, cp1, R1), (a2, l2, cp2, R2), (a3, l3, cp3, R3), (b5, 10, cp5, [0, 8] ++ [y0, y1, y2, y3, y4, y5, y6, y7]), (b7, 2 + q, cp7, [63, (q : Int)] ++ odd)])[t]? = some r ∧ r.2.1 ≤ 30 ∧ r.2.2.2 = rowsM ⟨i, d, s, m, [y0, y1, y2, y3, y4, y5, y6, y7]⟩ odd t) := Lib.hid (by
    intro t ht
    have hq8 : putM 8 = [8] := by decide
    have hq0 : putM 0 = [0] := by decide
    have hq63 : putM 63 = [63] := by decide
    have hol : odd.length = q := hX8
    rcases (by omega : t = 0 ∨ t = 1 ∨ t = 2 ∨ t = 3 ∨ t = 4 ∨ t = 5) with rfl | rfl | rfl | rfl | rfl | rfl
    · exact ⟨_, rfl, by simp only; omega, HR0.out.symm⟩
    · exact ⟨_, rfl, by simp only; omega, HR1.out.symm⟩
    · exact ⟨_, rfl, by simp only; omega, HR2.out.symm⟩
    · exact ⟨_, rfl, by simp only; omega, HR3.out.symm⟩
    · refine ⟨_, rfl, by simp only; omega, ?_⟩
      show [0, 8] ++ [y0, y1, y2, y3, y4, y5, y6, y7] = putM 0 ++ (putM 8 ++ [y0, y1, y2, y3, y4, y5, y6, y7])
      rw [hq0, hq8]; rfl
    · refine ⟨_, rfl, by simp only; omega, ?_⟩
      show [63, (q : Int)] ++ odd = putM 63 ++ (putM odd.length ++ odd)
      rw [hq63, hol, HPQ.out]; rfl)
  obtain ⟨b8, cp8, rfl, hcp8⟩ := own_slice (n := 6) HR8.out.own
  obtain ⟨g8, rfl, hg8, hg8l, _, _⟩ := own_cell HR8.out.own (i := 0) (v := .slice a0 l0 cp0) rfl
  have HC8 : Hid (∀ t r, t < 6 → ([((a0, l0, cp0, R0) : Rw), (a1, l1, cp1, R1), (a2, l2, cp2, R2), (a3, l3, cp3, R3), (b5, 10, cp5, [0, 8] ++ [y0, y1, y2, y3, y4, y5, y6, y7]), (b7, 2 + q, cp7, [63, (q : Int)] ++ odd)])[t]? = some r → W8.cell? ⟨g8, t, none⟩ = some (Rw.val r) ∧ IntsK .u8 W8 r.1 r.2.1 r.2.2.2) := Lib.hid (by
    intro t r ht hr
    obtain ⟨g9, e9, _, _, _, hc⟩ := own_cell HR8.out.own (i := t) (v := Rw.val r) (by
      show (List.map Rw.val _)[t]? = _
      rw [List.getElem?_map]
      have : ([] ++ [((a0, l0, cp0, R0) : Rw)] ++ [(a1, l1, cp1, R1)] ++ [(a2, l2, cp2, R2)] ++ [(a3, l3, cp3, R3)] ++ [(b5, 10, cp5, [0, 8] ++ [y0, y1, y2, y3, y4, y5, y6, y7]), (b7, 2 + q, cp7, [63, (q : Int)] ++ odd)])[t]? = some r := hr
      rw [this]; rfl)
    injection e9 with e9
    injection e9 with e9
    subst e9
    exact ⟨hc, HR8.out.ints r (List.mem_of_getElem? hr)⟩)
  clear HR8
  have HTU := Lib.hid (fun w => within_any w turn 0 5 (by omega) (by omega) (by omega) hturn)
  have hki := within_in turn 0 5 (by omega)
  obtain ⟨k, hk⟩ : ∃ k : Nat, within turn 0 5 = k := ⟨(within turn 0 5).toNat, by omega⟩
  rw [hk] at HTU hki
  clear hk
  have HORK := Lib.hid (HOR.out odd (by rw [hX8]; omega) k (by omega))
  clear HOR HTURN
  go_wp2_with fail
  refine Calls.mono (HTU.out _) ?_
  rintro e W9 ⟨rfl, rfl⟩
  have HD1 : Hid (∀ w a n c, n ≤ 1000 → IntsK .u8 w a n (allM ⟨i, d, s, m, [y0, y1, y2, y3, y4, y5, y6, y7]⟩ odd k 6) → Makes Try.prog 16 #[.slice a n c] w (.tuple #[.agg #[.int .u64 i, .int .u64 d, .int .u64 s, .int .u64 m, .int .u8 y0, .int .u8 y1, .int .u8 y2, .int .u8 y3, .int .u8 y4, .int .u8 y5, .int .u8 y6, .int .u8 y7], .int .i64 0])) := Lib.hid (fun w a n c h1 h2 => by
    have h := pdecode_any w a n c _ (by omega) h2
    rw [HORK.out.1] at h
    exact h)
  have HD2 : Hid (∀ w a n c, n ≤ 1000 → IntsK .u8 w a n (allM ⟨i, d, s, m, [y0, y1, y2, y3, y4, y5, y6, y7]⟩ odd k 6 ++ ([0, 8] ++ [y0, y1, y2, y3, y4, y5, y6, y7])) → Makes Try.prog 16 #[.slice a n c] w (.tuple #[.agg #[.int .u64 0, .int .u64 0, .int .u64 0, .int .u64 0, .int .u8 0, .int .u8 0, .int .u8 0, .int .u8 0, .int .u8 0, .int .u8 0, .int .u8 0, .int .u8 0], .int .i64 12])) := Lib.hid (fun w a n c h1 h2 => by
    have hq8 : putM 8 = [8] := by decide
    have hq0 : putM 0 = [0] := by decide
    have e : item 0 [y0, y1, y2, y3, y4, y5, y6, y7] = [0, 8] ++ [y0, y1, y2, y3, y4, y5, y6, y7] := by show putM 0 ++ (putM 8 ++ [y0, y1, y2, y3, y4, y5, y6, y7]) = _; rw [hq0, hq8]; rfl
    have h := pdecode_any w a n c _ (by omega) h2
    have h3 := HORK.out.2
    rw [e] at h3
    rw [h3] at h
    exact h)
  clear HORK HTU HPQ HX HR0 HR1 HR2 HR3 HRL0 HRL1 HRL2 HRL3
  go_wp2_with fail
  go_loopw [22, 23] (fun s22 s23 wr => ∃ (j nn : Nat), s23 = .int .i64 j ∧ j ≤ 6 ∧ nn ≤ 30 * j ∧ Hid (Below W8.heap.size W8 wr) ∧ Hid (wr.ownsRow W8.heap.size 5 1 s22 nn ((allM ⟨i, d, s, m, [y0, y1, y2, y3, y4, y5, y6, y7]⟩ odd k j).map (Value.int .u8))) ∧ Hid (∀ y ∈ allM ⟨i, d, s, m, [y0, y1, y2, y3, y4, y5, y6, y7]⟩ odd k j, (Lit.int .u8 y).wf = true)) (fun _ s23 _ => 6 - (intOf s23).toNat)
  case atStart => exact ⟨0, 0, rfl, by omega, by omega, Lib.hid (Below.refl _ _), Lib.hid (World.ownsRow_nil _ _ _ _), Lib.hid (by simp [allM])⟩
  case round =>
    obtain ⟨j, nn, rfl, hj, hn, HBr, HOr, HWr⟩ := hrel
    by_cases hlt : j < 6
    · obtain ⟨tt, htt⟩ : ∃ tt, (j + k) % 6 = tt := ⟨_, rfl⟩
      have htl : tt < 6 := by omega
      obtain ⟨⟨ra, rl, rc, rb⟩, hr1, hr2, hr3⟩ := HROW.out tt htl
      obtain ⟨hc, hri⟩ := HC8.out tt _ htl hr1
      simp only [Rw.val] at hr2 hr3 hc hri
      have hcr := bl_cell HBr.out hg8l hc
      have HIr := Lib.hid (hri.below HBr.out)
      have HALL : Hid (allM ⟨i, d, s, m, [y0, y1, y2, y3, y4, y5, y6, y7]⟩ odd k (j + 1) = allM ⟨i, d, s, m, [y0, y1, y2, y3, y4, y5, y6, y7]⟩ odd k j ++ rb) := Lib.hid (by rw [allM_succ, htt, hr3])
      have htm : ((j : Int) + (k : Int)).tmod 6 = (tt : Int) := by rw [← htt, Int.tmod_eq_emod_of_nonneg (by omega)]; omega
      have htm2 : ((j : Int) + (k : Int)) % 6 = (tt : Int) := by omega
      clear hr1 hr3 hc hri htt
      go_wp2_with (first | (at_builtin; refine wpList_append_bytes rfl _ _ rfl W8.heap.size nn _ _ rfl HOr.out ra rl rc rb rfl HIr.out (by omega) HBr.out.size ?_; intro v22 w22 hown hgrow) | fail)
      have HWn : Hid (∀ y ∈ allM ⟨i, d, s, m, [y0, y1, y2, y3, y4, y5, y6, y7]⟩ odd k (j + 1), (Lit.int .u8 y).wf = true) := Lib.hid (by
        rw [HALL.out]
        intro y hy
        rcases List.mem_append.1 hy with h | h
        · exact HWr.out y h
        · exact HIr.out.2.1 y h)
      have HBn := Lib.hid (HBr.out.grown hgrow HBr.out.size (own_base HOr.out))
      go_roundw
      case rel => exact ⟨j + 1, nn + rl, by go_num, by omega, by omega, HBn, Lib.hid (by rw [HALL.out]; exact hown), HWn⟩
      case measure => simp [intOf]; omega
    · obtain rfl : j = 6 := by omega
      obtain ⟨b22, cp22, rfl, hcp22, hi22, _⟩ := ints_of_own HOr.out HWr.out
      have hcr4 := (HC8.out 4 _ (by omega) rfl)
      have HI22 := Lib.hid hi22
      have HB9 := Lib.hid (bl_next HB8.out HB8.out.size HBr.out)
      have HRP9 := Lib.hid (bl_row HBr.out (lt_of_block HRP8.out) HRP8.out)
      have HC4 := Lib.hid (bl_cell HBr.out hg8l hcr4.1)
      have HI4 := Lib.hid (hcr4.2.below HBr.out)
      have hg8r := Nat.lt_of_lt_of_le hg8l HBr.out.size
      clear hi22 hcr4 HC8 HROW HB8 HRP8 HBr HOr
      go_wp2_with fail
      refine Calls.mono (HD1.out _ _ _ _ (by omega) HI22.out) ?_
      rintro e w10 ⟨rfl, hb10⟩
      have hbx := (Below.refl w10.heap.size w10).alloc (Nat.le_refl _) (.cells #[.int .u64 i, .int .u64 d, .int .u64 s, .int .u64 m, .int .u8 y0, .int .u8 y1, .int .u8 y2, .int .u8 y3, .int .u8 y4, .int .u8 y5, .int .u8 y6, .int .u8 y7] 26)
      have HX10 := Lib.hid (heap_alloc_new w10 (.cells #[.int .u64 i, .int .u64 d, .int .u64 s, .int .u64 m, .int .u8 y0, .int .u8 y1, .int .u8 y2, .int .u8 y3, .int .u8 y4, .int .u8 y5, .int .u8 y6, .int .u8 y7] 26))
      have hby := bl_next hb10 hb10.size hbx
      have HB10 := Lib.hid (bl_next HB9.out HB9.out.size hby)
      have HRP10 := Lib.hid (bl_row hby (lt_of_block HRP9.out) HRP9.out)
      have HC10 := Lib.hid (bl_cell hby hg8r HC4.out)
      have HI10 := Lib.hid (HI4.out.below hby)
      have HIA := Lib.hid (HI22.out.below hby)
      have hg8s := Nat.lt_of_lt_of_le hg8r hby.size
      clear hb10 hbx hby HB9 HRP9 HC4 HI4 HI22 HD1
      go_upto_region 19 with fail
      generalize w10.alloc (.cells #[.int .u64 i, .int .u64 d, .int .u64 s, .int .u64 m, .int .u8 y0, .int .u8 y1, .int .u8 y2, .int .u8 y3, .int .u8 y4, .int .u8 y5, .int .u8 y6, .int .u8 y7] 26) = Wd at HX10 HB10 HRP10 HC10 HI10 HIA hg8s ⊢
      generalize w10.heap.size = gd at HX10 ⊢
      obtain ⟨c0, c1, c2, c3, c4, c5, c6, c7, c8, c9, c10, c11⟩ := row12 HRP10.out
      obtain ⟨d0, d1, d2, d3, d4, d5, d6, d7, d8, d9, d10, d11⟩ := row12 HX10.out
      have hq := HQ.out
      go_upto_region 21 with fail
      clear hq c0 c1 c2 c3 c4 c5 c6 c7 c8 c9 c10 c11 d0 d1 d2 d3 d4 d5 d6 d7 d8 d9 d10 d11
      have hs4 : ∀ t : In (fun y => Below Wd.heap.size Wd y), t.w.cell? ⟨g8, 4, none⟩ = some (Rw.val (b5, 10, cp5, [0, 8] ++ [y0, y1, y2, y3, y4, y5, y6, y7])) := fun t => bl_cell t.h hg8s HC10.out
      simp only [Rw.val] at hs4
      clear HKP HE0 HE1 HE2 HE3 HXC HC10 HRP10 HX10 HQ HYW
      refine wp_plan (.t 1 (.t 3 (.t 4 (.t 5 (.b 0 (.b 2 (.b 6 (.b 7 (.t 8 (.t 9 (.t 10 (.u 11 (.u 12 (.t 13 .done)))))) 11 (.u 7 (.t 8 (.t 9 (.t 10 (.u 12 (.t 13 .done))))))) 11 (.u 6 (.u 7 (.t 8 (.t 9 (.t 10 (.u 12 (.t 13 .done)))))))) 11 (.u 2 (.u 6 (.u 7 (.t 8 (.t 9 (.t 10 (.u 12 (.t 13 .done))))))))) 11 (.u 0 (.u 2 (.u 6 (.u 7 (.t 8 (.t 9 (.t 10 (.u 12 (.t 13 .done)))))))))))))) (fun y => Below Wd.heap.size Wd y) (by kernel_rfl) (by kernel_rfl) (by kernel_rfl) (fun c a d v w h => by cases d <;> exact h) (Below.refl _ _).drew ?_
      have hS : Below Wd.heap.size Wd Wd.drew := (Below.refl _ _).drew
      generalize Wd.drew = Wa at hS ⊢
      haveI hne : Nonempty (In fun y => Below Wd.heap.size Wd y) := ⟨⟨Wd, Below.refl _ _⟩⟩
      repeat (refine plan_t (by rfl) ?_; (first | go_big_quiet_skip | (go_big_quiet_want; go_big_quiet_op; go_big_quiet_on)); refine wpQuiet_nil ?_)
      clear hs4
      refine plan_b ?_ ?_
      · skip
        refine plan_half (by rfl) (by kernel_rfl) ?_
        intro K hK
        go_wp2_with fail
        have ho := World.ownsRow_made (base := Wd.heap.size) (e := 5) (size := 1) Wa #[] 0 hS.size (by unfold maxLen; omega) (by rfl)
        refine ⟨hS.alloc hS.size _, ?_⟩
        have hal := (Below.refl Wa.heap.size Wa).alloc (Nat.le_refl _) (.cells #[] 5)
        replace hS := bl_next hS hS.size hal
        generalize Wa.alloc (.cells #[] 5) = Wr0 at ho hS hal ⊢
        generalize Wa.heap.size = gn at ho hal ⊢
        have HO := Lib.hid ho
        clear ho hal
        refine plan_b ?_ ?_
        · skip
          refine plan_half (by rfl) (by kernel_rfl) ?_
          intro K hK
          refine wp_append_bytes_at _ _ rfl Wd.heap.size (0) _ ([] : List Int) rfl HO.out b22 nn cp22 _ rfl (HIA.out.below hS) (by omega) hS.size ?_
          intro v2 Wr1 hown hgrow hor
          have hS2 := hS.grown hgrow hS.size (own_base HO.out)
          refine hK _ _ ⟨hS2, ?_⟩
          replace hS := hS2
          have HO := Lib.hid hown
          clear hS2 hown hgrow hor
          refine plan_b ?_ ?_
          · skip
            refine plan_half (by rfl) (by kernel_rfl) ?_
            intro K hK
            refine wp_append_bytes_at _ _ rfl Wd.heap.size (0 + nn) _ (([] : List Int) ++ (allM ⟨i, d, s, m, [y0, y1, y2, y3, y4, y5, y6, y7]⟩ odd k 6)) rfl HO.out b5 10 cp5 _ rfl (HI10.out.below hS) (by omega) hS.size ?_
            intro v6 Wr2 hown hgrow hor
            have hS2 := hS.grown hgrow hS.size (own_base HO.out)
            refine hK _ _ ⟨hS2, ?_⟩
            replace hS := hS2
            have HO := Lib.hid hown
            clear hS2 hown hgrow hor
            refine plan_b ?_ ?_
            · skip
              refine plan_half (by rfl) (by kernel_rfl) ?_
              intro K hK
              obtain ⟨b6, cp6, rfl, hcp6, hi6, _⟩ := ints_of_own HO.out (by
                intro y hy
                rcases List.mem_append.1 hy with h | h
                · exact HWr.out y h
                · exact HI10.out.2.1 y h)
              simp only [Nat.zero_add, List.nil_append] at hi6
              have HI6 := Lib.hid hi6
              clear hi6
              go_wp2_with fail
              refine Calls.mono (HD2.out _ _ _ _ (by omega) HI6.out) ?_
              rintro e Wr3 ⟨rfl, hb⟩
              replace hS := bl_next hS hS.size hb
              clear hb
              go_wp2_with fail
              refine ⟨hS, ?_⟩
              clear HO HI6
              repeat (refine plan_t (by rfl) ?_; (first | go_big_quiet_skip | (go_big_quiet_want; go_big_quiet_op; go_big_quiet_on)); refine wpQuiet_nil ?_)
              refine plan_us (by rfl) (by kernel_rfl) ?_
              intro K hK
              go_wp2_with fail
              have hal := (Below.refl Wr3.heap.size Wr3).alloc (Nat.le_refl _) (.cells #[.int .u64 0, .int .u64 0, .int .u64 0, .int .u64 0, .int .u8 0, .int .u8 0, .int .u8 0, .int .u8 0, .int .u8 0, .int .u8 0, .int .u8 0, .int .u8 0] 26)
              have hga := heap_alloc_new Wr3 (.cells #[.int .u64 0, .int .u64 0, .int .u64 0, .int .u64 0, .int .u8 0, .int .u8 0, .int .u8 0, .int .u8 0, .int .u8 0, .int .u8 0, .int .u8 0, .int .u8 0] 26)
              have hgd : Wd.heap.size ≤ Wr3.heap.size := hS.size
              refine ⟨bl_next hS hS.size hal, ?_⟩
              replace hS := bl_next hS hS.size hal
              generalize Wr3.alloc (.cells #[.int .u64 0, .int .u64 0, .int .u64 0, .int .u64 0, .int .u8 0, .int .u8 0, .int .u8 0, .int .u8 0, .int .u8 0, .int .u8 0, .int .u8 0, .int .u8 0] 26) = Wr4 at hS hga hal ⊢
              generalize Wr3.heap.size = ga at hga hal hgd ⊢
              have HGA := Lib.hid hga
              clear hga hal
              refine plan_us (by rfl) (by kernel_rfl) ?_
              intro K hK
              obtain ⟨z0, z1, z2, z3, z4, z5, z6, z7, z8, z9, z10, z11⟩ := free12 HGA.out
              obtain ⟨e0, e1, e2, e3, e4, e5, e6, e7, e8, e9, e10, e11⟩ := row12 HGA.out
              go_wp2_with fail
              have hA := set12 HGA.out (.int .u64 0) (.int .u64 0) (.int .u64 0) (.int .u64 0) (.int .u8 0) (.int .u8 0) (.int .u8 0) (.int .u8 0) (.int .u8 0) (.int .u8 0) (.int .u8 0) (.int .u8 0)
              have hS2 := hS.grown hA.rest hS.size (by intro k hk; injection hk with hk; omega)
              refine ⟨hS2, ?_⟩
              replace hS := hS2
              clear hS2 hA z0 z1 z2 z3 z4 z5 z6 z7 z8 z9 z10 z11 e0 e1 e2 e3 e4 e5 e6 e7 e8 e9 e10 e11
              repeat (refine plan_t (by rfl) ?_; (first | go_big_quiet_skip | (go_big_quiet_want; go_big_quiet_op; go_big_quiet_on)); refine wpQuiet_nil ?_)
              have HZ := Lib.hid (bl_next HB10.out HB10.out.size hS)
              clear hS hne
              show Exit.then _ _ _ _ _
              go_wp2_with fail
              refine Calls.mono (known6_any _) ?_
              rintro e wz ⟨rfl, hbz⟩
              have HZZ := Lib.hid (bl_next HZ.out HZ.out.size hbz)
              clear hbz
              go_wp2_with fail
              go_ret
              exact ⟨rfl, HZZ.out⟩
            · skip
              refine plan_half (by rfl) (by kernel_rfl) ?_
              intro K hK
              go_wp2_with fail
              have hal := (Below.refl Wr2.heap.size Wr2).alloc (Nat.le_refl _) (.cells #[.int .u64 0, .int .u64 0, .int .u64 0, .int .u64 0, .int .u8 0, .int .u8 0, .int .u8 0, .int .u8 0, .int .u8 0, .int .u8 0, .int .u8 0, .int .u8 0] 26)
              have hga := heap_alloc_new Wr2 (.cells #[.int .u64 0, .int .u64 0, .int .u64 0, .int .u64 0, .int .u8 0, .int .u8 0, .int .u8 0, .int .u8 0, .int .u8 0, .int .u8 0, .int .u8 0, .int .u8 0] 26)
              have hgd : Wd.heap.size ≤ Wr2.heap.size := hS.size
              refine ⟨bl_next hS hS.size hal, ?_⟩
              replace hS := bl_next hS hS.size hal
              have hlt : ∀ k, v6.ownBlock = some k → k < Wr2.heap.size := fun k hk => (HO.out.lt k hk).2
              have HO := Lib.hid (own_below HO.out hal)
              generalize Wr2.alloc (.cells #[.int .u64 0, .int .u64 0, .int .u64 0, .int .u64 0, .int .u8 0, .int .u8 0, .int .u8 0, .int .u8 0, .int .u8 0, .int .u8 0, .int .u8 0, .int .u8 0] 26) = Wr3 at hS hga hal HO ⊢
              generalize Wr2.heap.size = ga at hga hal hgd hlt ⊢
              have HGA := Lib.hid hga
              have HNE : Hid (v6.ownBlock ≠ some ga) := Lib.hid (fun e => by have := hlt _ e; omega)
              clear hlt
              clear hga hal
              refine plan_us (by rfl) (by kernel_rfl) ?_
              intro K hK
              obtain ⟨b6, cp6, rfl, hcp6, hi6, _⟩ := ints_of_own HO.out (by
                intro y hy
                rcases List.mem_append.1 hy with h | h
                · exact HWr.out y h
                · exact HI10.out.2.1 y h)
              simp only [Nat.zero_add, List.nil_append] at hi6
              have HI6 := Lib.hid hi6
              clear hi6
              go_wp2_with fail
              refine Calls.mono (HD2.out _ _ _ _ (by omega) HI6.out) ?_
              rintro e Wr4 ⟨rfl, hb⟩
              have HGA := Lib.hid (bl_row hb (lt_of_block HGA.out) HGA.out)
              replace hS := bl_next hS hS.size hb
              clear hb
              go_wp2_with fail
              refine ⟨hS, ?_⟩
              clear HO HI6
              repeat (refine plan_t (by rfl) ?_; (first | go_big_quiet_skip | (go_big_quiet_want; go_big_quiet_op; go_big_quiet_on)); refine wpQuiet_nil ?_)
              refine plan_us (by rfl) (by kernel_rfl) ?_
              intro K hK
              obtain ⟨z0, z1, z2, z3, z4, z5, z6, z7, z8, z9, z10, z11⟩ := free12 HGA.out
              obtain ⟨e0, e1, e2, e3, e4, e5, e6, e7, e8, e9, e10, e11⟩ := row12 HGA.out
              go_wp2_with fail
              have hA := set12 HGA.out (.int .u64 0) (.int .u64 0) (.int .u64 0) (.int .u64 0) (.int .u8 0) (.int .u8 0) (.int .u8 0) (.int .u8 0) (.int .u8 0) (.int .u8 0) (.int .u8 0) (.int .u8 0)
              have hS2 := hS.grown hA.rest hS.size (by intro k hk; injection hk with hk; omega)
              refine ⟨hS2, ?_⟩
              replace hS := hS2
              clear hS2 hA z0 z1 z2 z3 z4 z5 z6 z7 z8 z9 z10 z11 e0 e1 e2 e3 e4 e5 e6 e7 e8 e9 e10 e11
              repeat (refine plan_t (by rfl) ?_; (first | go_big_quiet_skip | (go_big_quiet_want; go_big_quiet_op; go_big_quiet_on)); refine wpQuiet_nil ?_)
              have HZ := Lib.hid (bl_next HB10.out HB10.out.size hS)
              clear hS hne
              show Exit.then _ _ _ _ _
              go_wp2_with fail
              refine Calls.mono (known6_any _) ?_
              rintro e wz ⟨rfl, hbz⟩
              have HZZ := Lib.hid (bl_next HZ.out HZ.out.size hbz)
              clear hbz
              go_wp2_with fail
              go_ret
              exact ⟨rfl, HZZ.out⟩
          · skip
            refine plan_half (by rfl) (by kernel_rfl) ?_
            intro K hK
            go_wp2_with fail
            have hal := (Below.refl Wr1.heap.size Wr1).alloc (Nat.le_refl _) (.cells #[.int .u64 0, .int .u64 0, .int .u64 0, .int .u64 0, .int .u8 0, .int .u8 0, .int .u8 0, .int .u8 0, .int .u8 0, .int .u8 0, .int .u8 0, .int .u8 0] 26)
            have hga := heap_alloc_new Wr1 (.cells #[.int .u64 0, .int .u64 0, .int .u64 0, .int .u64 0, .int .u8 0, .int .u8 0, .int .u8 0, .int .u8 0, .int .u8 0, .int .u8 0, .int .u8 0, .int .u8 0] 26)
            have hgd : Wd.heap.size ≤ Wr1.heap.size := hS.size
            refine ⟨bl_next hS hS.size hal, ?_⟩
            replace hS := bl_next hS hS.size hal
            have hlt : ∀ k, v2.ownBlock = some k → k < Wr1.heap.size := fun k hk => (HO.out.lt k hk).2
            have HO := Lib.hid (own_below HO.out hal)
            generalize Wr1.alloc (.cells #[.int .u64 0, .int .u64 0, .int .u64 0, .int .u64 0, .int .u8 0, .int .u8 0, .int .u8 0, .int .u8 0, .int .u8 0, .int .u8 0, .int .u8 0, .int .u8 0] 26) = Wr2 at hS hga hal HO ⊢
            generalize Wr1.heap.size = ga at hga hal hgd hlt ⊢
            have HGA := Lib.hid hga
            have HNE : Hid (v2.ownBlock ≠ some ga) := Lib.hid (fun e => by have := hlt _ e; omega)
            clear hlt
            clear hga hal
            refine plan_us (by rfl) (by kernel_rfl) ?_
            intro K hK
            refine wp_append_bytes_at _ _ rfl Wd.heap.size (0 + nn) _ (([] : List Int) ++ (allM ⟨i, d, s, m, [y0, y1, y2, y3, y4, y5, y6, y7]⟩ odd k 6)) rfl HO.out b5 10 cp5 _ rfl (HI10.out.below hS) (by omega) hS.size ?_
            intro v6 Wr3 hown hgrow hor
            have hS2 := hS.grown hgrow hS.size (own_base HO.out)
            refine hK _ _ ⟨hS2, ?_⟩
            have hgal := lt_of_block HGA.out
            have HNE2 : Hid (v6.ownBlock ≠ some ga) := Lib.hid (by rcases hor with e | e; rw [e]; exact HNE.out; rw [e]; intro e; injection e with e; omega)
            have HGA := Lib.hid (grown_row hgrow (b := ga) (fun e => HNE.out e.symm) HGA.out)
            replace HNE := HNE2
            clear HNE2 hgal
            replace hS := hS2
            have HO := Lib.hid hown
            clear hS2 hown hgrow hor
            refine plan_us (by rfl) (by kernel_rfl) ?_
            intro K hK
            obtain ⟨b6, cp6, rfl, hcp6, hi6, _⟩ := ints_of_own HO.out (by
              intro y hy
              rcases List.mem_append.1 hy with h | h
              · exact HWr.out y h
              · exact HI10.out.2.1 y h)
            simp only [Nat.zero_add, List.nil_append] at hi6
            have HI6 := Lib.hid hi6
            clear hi6
            go_wp2_with fail
            refine Calls.mono (HD2.out _ _ _ _ (by omega) HI6.out) ?_
            rintro e Wr4 ⟨rfl, hb⟩
            have HGA := Lib.hid (bl_row hb (lt_of_block HGA.out) HGA.out)
            replace hS := bl_next hS hS.size hb
            clear hb
            go_wp2_with fail
            refine ⟨hS, ?_⟩
            clear HO HI6
            repeat (refine plan_t (by rfl) ?_; (first | go_big_quiet_skip | (go_big_quiet_want; go_big_quiet_op; go_big_quiet_on)); refine wpQuiet_nil ?_)
            refine plan_us (by rfl) (by kernel_rfl) ?_
            intro K hK
            obtain ⟨z0, z1, z2, z3, z4, z5, z6, z7, z8, z9, z10, z11⟩ := free12 HGA.out
            obtain ⟨e0, e1, e2, e3, e4, e5, e6, e7, e8, e9, e10, e11⟩ := row12 HGA.out
            go_wp2_with fail
            have hA := set12 HGA.out (.int .u64 0) (.int .u64 0) (.int .u64 0) (.int .u64 0) (.int .u8 0) (.int .u8 0) (.int .u8 0) (.int .u8 0) (.int .u8 0) (.int .u8 0) (.int .u8 0) (.int .u8 0)
            have hS2 := hS.grown hA.rest hS.size (by intro k hk; injection hk with hk; omega)
            refine ⟨hS2, ?_⟩
            replace hS := hS2
            clear hS2 hA z0 z1 z2 z3 z4 z5 z6 z7 z8 z9 z10 z11 e0 e1 e2 e3 e4 e5 e6 e7 e8 e9 e10 e11
            repeat (refine plan_t (by rfl) ?_; (first | go_big_quiet_skip | (go_big_quiet_want; go_big_quiet_op; go_big_quiet_on)); refine wpQuiet_nil ?_)
            have HZ := Lib.hid (bl_next HB10.out HB10.out.size hS)
            clear hS hne
            show Exit.then _ _ _ _ _
            go_wp2_with fail
            refine Calls.mono (known6_any _) ?_
            rintro e wz ⟨rfl, hbz⟩
            have HZZ := Lib.hid (bl_next HZ.out HZ.out.size hbz)
            clear hbz
            go_wp2_with fail
            go_ret
            exact ⟨rfl, HZZ.out⟩
        · skip
          refine plan_half (by rfl) (by kernel_rfl) ?_
          intro K hK
          go_wp2_with fail
          have hal := (Below.refl Wr0.heap.size Wr0).alloc (Nat.le_refl _) (.cells #[.int .u64 0, .int .u64 0, .int .u64 0, .int .u64 0, .int .u8 0, .int .u8 0, .int .u8 0, .int .u8 0, .int .u8 0, .int .u8 0, .int .u8 0, .int .u8 0] 26)
          have hga := heap_alloc_new Wr0 (.cells #[.int .u64 0, .int .u64 0, .int .u64 0, .int .u64 0, .int .u8 0, .int .u8 0, .int .u8 0, .int .u8 0, .int .u8 0, .int .u8 0, .int .u8 0, .int .u8 0] 26)
          have hgd : Wd.heap.size ≤ Wr0.heap.size := hS.size
          refine ⟨bl_next hS hS.size hal, ?_⟩
          replace hS := bl_next hS hS.size hal
          have hlt : ∀ k, (Value.slice (some ⟨gn, 0, none⟩) 0 0).ownBlock = some k → k < Wr0.heap.size := fun k hk => (HO.out.lt k hk).2
          have HO := Lib.hid (own_below HO.out hal)
          generalize Wr0.alloc (.cells #[.int .u64 0, .int .u64 0, .int .u64 0, .int .u64 0, .int .u8 0, .int .u8 0, .int .u8 0, .int .u8 0, .int .u8 0, .int .u8 0, .int .u8 0, .int .u8 0] 26) = Wr1 at hS hga hal HO ⊢
          generalize Wr0.heap.size = ga at hga hal hgd hlt ⊢
          have HGA := Lib.hid hga
          have HNE : Hid ((Value.slice (some ⟨gn, 0, none⟩) 0 0).ownBlock ≠ some ga) := Lib.hid (fun e => by have := hlt _ e; omega)
          clear hlt
          clear hga hal
          refine plan_us (by rfl) (by kernel_rfl) ?_
          intro K hK
          refine wp_append_bytes_at _ _ rfl Wd.heap.size (0) _ ([] : List Int) rfl HO.out b22 nn cp22 _ rfl (HIA.out.below hS) (by omega) hS.size ?_
          intro v2 Wr2 hown hgrow hor
          have hS2 := hS.grown hgrow hS.size (own_base HO.out)
          refine hK _ _ ⟨hS2, ?_⟩
          have hgal := lt_of_block HGA.out
          have HNE2 : Hid (v2.ownBlock ≠ some ga) := Lib.hid (by rcases hor with e | e; rw [e]; exact HNE.out; rw [e]; intro e; injection e with e; omega)
          have HGA := Lib.hid (grown_row hgrow (b := ga) (fun e => HNE.out e.symm) HGA.out)
          replace HNE := HNE2
          clear HNE2 hgal
          replace hS := hS2
          have HO := Lib.hid hown
          clear hS2 hown hgrow hor
          refine plan_us (by rfl) (by kernel_rfl) ?_
          intro K hK
          refine wp_append_bytes_at _ _ rfl Wd.heap.size (0 + nn) _ (([] : List Int) ++ (allM ⟨i, d, s, m, [y0, y1, y2, y3, y4, y5, y6, y7]⟩ odd k 6)) rfl HO.out b5 10 cp5 _ rfl (HI10.out.below hS) (by omega) hS.size ?_
          intro v6 Wr3 hown hgrow hor
          have hS2 := hS.grown hgrow hS.size (own_base HO.out)
          refine hK _ _ ⟨hS2, ?_⟩
          have hgal := lt_of_block HGA.out
          have HNE2 : Hid (v6.ownBlock ≠ some ga) := Lib.hid (by rcases hor with e | e; rw [e]; exact HNE.out; rw [e]; intro e; injection e with e; omega)
          have HGA := Lib.hid (grown_row hgrow (b := ga) (fun e => HNE.out e.symm) HGA.out)
          replace HNE := HNE2
          clear HNE2 hgal
          replace hS := hS2
          have HO := Lib.hid hown
          clear hS2 hown hgrow hor
          refine plan_us (by rfl) (by kernel_rfl) ?_
          intro K hK
          obtain ⟨b6, cp6, rfl, hcp6, hi6, _⟩ := ints_of_own HO.out (by
            intro y hy
            rcases List.mem_append.1 hy with h | h
            · exact HWr.out y h
            · exact HI10.out.2.1 y h)
          simp only [Nat.zero_add, List.nil_append] at hi6
          have HI6 := Lib.hid hi6
          clear hi6
          go_wp2_with fail
          refine Calls.mono (HD2.out _ _ _ _ (by omega) HI6.out) ?_
          rintro e Wr4 ⟨rfl, hb⟩
          have HGA := Lib.hid (bl_row hb (lt_of_block HGA.out) HGA.out)
          replace hS := bl_next hS hS.size hb
          clear hb
          go_wp2_with fail
          refine ⟨hS, ?_⟩
          clear HO HI6
          repeat (refine plan_t (by rfl) ?_; (first | go_big_quiet_skip | (go_big_quiet_want; go_big_quiet_op; go_big_quiet_on)); refine wpQuiet_nil ?_)
          refine plan_us (by rfl) (by kernel_rfl) ?_
          intro K hK
          obtain ⟨z0, z1, z2, z3, z4, z5, z6, z7, z8, z9, z10, z11⟩ := free12 HGA.out
          obtain ⟨e0, e1, e2, e3, e4, e5, e6, e7, e8, e9, e10, e11⟩ := row12 HGA.out
          go_wp2_with fail
          have hA := set12 HGA.out (.int .u64 0) (.int .u64 0) (.int .u64 0) (.int .u64 0) (.int .u8 0) (.int .u8 0) (.int .u8 0) (.int .u8 0) (.int .u8 0) (.int .u8 0) (.int .u8 0) (.int .u8 0)
          have hS2 := hS.grown hA.rest hS.size (by intro k hk; injection hk with hk; omega)
          refine ⟨hS2, ?_⟩
          replace hS := hS2
          clear hS2 hA z0 z1 z2 z3 z4 z5 z6 z7 z8 z9 z10 z11 e0 e1 e2 e3 e4 e5 e6 e7 e8 e9 e10 e11
          repeat (refine plan_t (by rfl) ?_; (first | go_big_quiet_skip | (go_big_quiet_want; go_big_quiet_op; go_big_quiet_on)); refine wpQuiet_nil ?_)
          have HZ := Lib.hid (bl_next HB10.out HB10.out.size hS)
          clear hS hne
          show Exit.then _ _ _ _ _
          go_wp2_with fail
          refine Calls.mono (known6_any _) ?_
          rintro e wz ⟨rfl, hbz⟩
          have HZZ := Lib.hid (bl_next HZ.out HZ.out.size hbz)
          clear hbz
          go_wp2_with fail
          go_ret
          exact ⟨rfl, HZZ.out⟩
      · skip
        refine plan_half (by rfl) (by kernel_rfl) ?_
        intro K hK
        go_wp2_with fail
        have hal := (Below.refl Wa.heap.size Wa).alloc (Nat.le_refl _) (.cells #[.int .u64 0, .int .u64 0, .int .u64 0, .int .u64 0, .int .u8 0, .int .u8 0, .int .u8 0, .int .u8 0, .int .u8 0, .int .u8 0, .int .u8 0, .int .u8 0] 26)
        have hga := heap_alloc_new Wa (.cells #[.int .u64 0, .int .u64 0, .int .u64 0, .int .u64 0, .int .u8 0, .int .u8 0, .int .u8 0, .int .u8 0, .int .u8 0, .int .u8 0, .int .u8 0, .int .u8 0] 26)
        have hgd : Wd.heap.size ≤ Wa.heap.size := hS.size
        refine ⟨bl_next hS hS.size hal, ?_⟩
        replace hS := bl_next hS hS.size hal
        generalize Wa.alloc (.cells #[.int .u64 0, .int .u64 0, .int .u64 0, .int .u64 0, .int .u8 0, .int .u8 0, .int .u8 0, .int .u8 0, .int .u8 0, .int .u8 0, .int .u8 0, .int .u8 0] 26) = Wr0 at hS hga hal ⊢
        generalize Wa.heap.size = ga at hga hal hgd ⊢
        have HGA := Lib.hid hga
        clear hga hal
        refine plan_us (by rfl) (by kernel_rfl) ?_
        intro K hK
        go_wp2_with fail
        have ho := World.ownsRow_made (base := Wd.heap.size) (e := 5) (size := 1) Wr0 #[] 0 hS.size (by unfold maxLen; omega) (by rfl)
        refine ⟨hS.alloc hS.size _, ?_⟩
        have hal := (Below.refl Wr0.heap.size Wr0).alloc (Nat.le_refl _) (.cells #[] 5)
        replace hS := bl_next hS hS.size hal
        have hgal := lt_of_block HGA.out
        have HGA := Lib.hid (bl_row hal (lt_of_block HGA.out) HGA.out)
        have hne0 : some Wr0.heap.size ≠ some ga := by intro e; injection e with e; omega
        generalize Wr0.alloc (.cells #[] 5) = Wr1 at ho hS hal HGA ⊢
        generalize Wr0.heap.size = gn at ho hal hne0 ⊢
        have HO := Lib.hid ho
        clear ho hal
        have HNE : Hid ((Value.slice (some ⟨gn, 0, none⟩) 0 0).ownBlock ≠ some ga) := Lib.hid hne0
        refine plan_us (by rfl) (by kernel_rfl) ?_
        intro K hK
        refine wp_append_bytes_at _ _ rfl Wd.heap.size (0) _ ([] : List Int) rfl HO.out b22 nn cp22 _ rfl (HIA.out.below hS) (by omega) hS.size ?_
        intro v2 Wr2 hown hgrow hor
        have hS2 := hS.grown hgrow hS.size (own_base HO.out)
        refine hK _ _ ⟨hS2, ?_⟩
        have hgal := lt_of_block HGA.out
        have HNE2 : Hid (v2.ownBlock ≠ some ga) := Lib.hid (by rcases hor with e | e; rw [e]; exact HNE.out; rw [e]; intro e; injection e with e; omega)
        have HGA := Lib.hid (grown_row hgrow (b := ga) (fun e => HNE.out e.symm) HGA.out)
        replace HNE := HNE2
        clear HNE2 hgal
        replace hS := hS2
        have HO := Lib.hid hown
        clear hS2 hown hgrow hor
        refine plan_us (by rfl) (by kernel_rfl) ?_
        intro K hK
        refine wp_append_bytes_at _ _ rfl Wd.heap.size (0 + nn) _ (([] : List Int) ++ (allM ⟨i, d, s, m, [y0, y1, y2, y3, y4, y5, y6, y7]⟩ odd k 6)) rfl HO.out b5 10 cp5 _ rfl (HI10.out.below hS) (by omega) hS.size ?_
        intro v6 Wr3 hown hgrow hor
        have hS2 := hS.grown hgrow hS.size (own_base HO.out)
        refine hK _ _ ⟨hS2, ?_⟩
        have hgal := lt_of_block HGA.out
        have HNE2 : Hid (v6.ownBlock ≠ some ga) := Lib.hid (by rcases hor with e | e; rw [e]; exact HNE.out; rw [e]; intro e; injection e with e; omega)
        have HGA := Lib.hid (grown_row hgrow (b := ga) (fun e => HNE.out e.symm) HGA.out)
        replace HNE := HNE2
        clear HNE2 hgal
        replace hS := hS2
        have HO := Lib.hid hown
        clear hS2 hown hgrow hor
        refine plan_us (by rfl) (by kernel_rfl) ?_
        intro K hK
        obtain ⟨b6, cp6, rfl, hcp6, hi6, _⟩ := ints_of_own HO.out (by
          intro y hy
          rcases List.mem_append.1 hy with h | h
          · exact HWr.out y h
          · exact HI10.out.2.1 y h)
        simp only [Nat.zero_add, List.nil_append] at hi6
        have HI6 := Lib.hid hi6
        clear hi6
        go_wp2_with fail
        refine Calls.mono (HD2.out _ _ _ _ (by omega) HI6.out) ?_
        rintro e Wr4 ⟨rfl, hb⟩
        have HGA := Lib.hid (bl_row hb (lt_of_block HGA.out) HGA.out)
        replace hS := bl_next hS hS.size hb
        clear hb
        go_wp2_with fail
        refine ⟨hS, ?_⟩
        clear HO HI6
        repeat (refine plan_t (by rfl) ?_; (first | go_big_quiet_skip | (go_big_quiet_want; go_big_quiet_op; go_big_quiet_on)); refine wpQuiet_nil ?_)
        refine plan_us (by rfl) (by kernel_rfl) ?_
        intro K hK
        obtain ⟨z0, z1, z2, z3, z4, z5, z6, z7, z8, z9, z10, z11⟩ := free12 HGA.out
        obtain ⟨e0, e1, e2, e3, e4, e5, e6, e7, e8, e9, e10, e11⟩ := row12 HGA.out
        go_wp2_with fail
        have hA := set12 HGA.out (.int .u64 0) (.int .u64 0) (.int .u64 0) (.int .u64 0) (.int .u8 0) (.int .u8 0) (.int .u8 0) (.int .u8 0) (.int .u8 0) (.int .u8 0) (.int .u8 0) (.int .u8 0)
        have hS2 := hS.grown hA.rest hS.size (by intro k hk; injection hk with hk; omega)
        refine ⟨hS2, ?_⟩
        replace hS := hS2
        clear hS2 hA z0 z1 z2 z3 z4 z5 z6 z7 z8 z9 z10 z11 e0 e1 e2 e3 e4 e5 e6 e7 e8 e9 e10 e11
        repeat (refine plan_t (by rfl) ?_; (first | go_big_quiet_skip | (go_big_quiet_want; go_big_quiet_op; go_big_quiet_on)); refine wpQuiet_nil ?_)
        have HZ := Lib.hid (bl_next HB10.out HB10.out.size hS)
        clear hS hne
        show Exit.then _ _ _ _ _
        go_wp2_with fail
        refine Calls.mono (known6_any _) ?_
        rintro e wz ⟨rfl, hbz⟩
        have HZZ := Lib.hid (bl_next HZ.out HZ.out.size hbz)
        clear hbz
        go_wp2_with fail
        go_ret
        exact ⟨rfl, HZZ.out⟩
end Go.Proofs.Ytooneejimladdaa
