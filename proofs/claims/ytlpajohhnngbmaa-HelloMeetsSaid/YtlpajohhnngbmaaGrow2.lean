/- rows of bytes that the call owns: append, told where the row lies. -/
import Derived.Test.YtlpajohhnngbmaaGrow
import Derived.Maps.AppendAt
namespace Go.Proofs.Ytlpajohhnngbmaa
open Go.RowKit
set_option linter.unusedVariables false

theorem append_bytes_at (w : World) (ty : TypeId) (base n : Nat) (v : Value) (xs : List Int) (hown : w.ownsRow base 5 1 v n (xs.map (Value.int .u8))) (xa : Option Addr) (m c : Nat) (bs : List Int) (hI : IntsK .u8 w xa m bs)
    (hb : n + m ≤ 140737488355328) (hbase : base ≤ w.heap.size) :
    ∃ v' w', (Builtin.append_ #[31, 31] ty #[v, .slice xa m c]).run Try.prog w = .ok v' w' ∧ w'.ownsRow base 5 1 v' (n + m) ((xs ++ bs).map (Value.int .u8)) ∧ w.grownBy w' v.ownBlock ∧ (v'.ownBlock = v.ownBlock ∨ v'.ownBlock = some w.heap.size) := by
  obtain ⟨i0, hi, hz0, hz1, hz2⟩ := info_parts infoU8
  have hlen := hI.1
  cases xa with
  | none =>
    have hm : m = 0 := by
      rcases hI.2.2 with h | ⟨b, off, h, _⟩
      · exact h
      · cases h
    subst hm
    obtain rfl : bs = [] := List.eq_nil_of_length_eq_zero hlen
    have hsrc : Src Try.prog i0.size 31 (.slice none 0 c) 0 [] w := Src.ofNil w Try.underlying31 c
    obtain ⟨b, l, cp, rfl, hle⟩ : ∃ b l cp, v = .slice b l cp ∧ l ≤ cp := by
      rcases hown.2 with ⟨rfl, rfl⟩ | ⟨g, cap, cur, rfl, hg, hrow, hn, hc, hsz, htk⟩
      · exact ⟨_, _, _, rfl, Nat.le_refl _⟩
      · exact ⟨_, _, _, rfl, hn⟩
    exact ⟨_, w, run_append_nothing w 31 31 ty 5 i0 Try.underlying31 hi b l cp hle _ hsrc, by simpa using hown, grown_refl _ _, .inl rfl⟩
  | some ad =>
    have hnews : ∀ j u, (bs.map (Value.int .u8))[j]? = some u → w.cell? (ad.add j) = some u := by
      by_cases h0 : 0 < m
      · obtain ⟨ad', e, _, h⟩ := hI.src h0
        injection e with e; subst e; exact h
      · intro j u hu
        have := lt_of_get hu
        simp at this; omega
    obtain ⟨v', w', hr, h2, h3, h4, h5⟩ := run_append_own_at (P := Try.prog) w base 31 ty 5 i0 (.int .u8 0) 1 1 Try.underlying31 hi hz0 hz1 hz2 rfl (by decide) v n _ hown ad m c (bs.map (Value.int .u8)) (by simp [hlen]) hnews ints_one (by unfold maxLen; omega) (by omega) hbase
    exact ⟨v', w', hr, by rw [List.map_append]; exact h2, h3, h5⟩

theorem wpList_append_bytes_at {ops : Array Oper} {rest : List Oper} {o : Oper} {a : Act} {w : World} {Q : Exit → Act → World → Prop} (hgd : o.guard = none) (s x : Operand)
    (ho : o.op = .call { callee := .builtin .append, args := #[s, x], argTypes := #[31, 31] })
    (base n : Nat) (v : Value) (xs : List Int) (hs : a.eval s = v) (hown : w.ownsRow base 5 1 v n (xs.map (Value.int .u8))) (xa : Option Addr) (m c : Nat) (bs : List Int) (hx : a.eval x = .slice xa m c) (hI : IntsK .u8 w xa m bs)
    (hb : n + m ≤ 140737488355328) (hbase : base ≤ w.heap.size)
    (h : ∀ v' w', w'.ownsRow base 5 1 v' (n + m) ((xs ++ bs).map (Value.int .u8)) → w.grownBy w' v.ownBlock → (v'.ownBlock = v.ownBlock ∨ v'.ownBlock = some w.heap.size) → wpList Try.prog ops Q rest (a.put o.dst v') w') : wpList Try.prog ops Q (o :: rest) a w := by
  refine wpList_plain hgd fun K hK => ?_
  obtain ⟨v', w', hr, h2, h3, h4⟩ := append_bytes_at w o.type base n v xs hown xa m c bs hI hb hbase
  unfold Oper.wp execOp
  simp only [ho, resolve, invoke, builtin, Sem.run_bind, Sem.run_pure, Result.andThen_ok, List.map_toArray, List.map_cons, List.map_nil, hs, hx, hr]
  exact hK _ _ (h v' w' h2 h3 h4)
end Go.Proofs.Ytlpajohhnngbmaa
