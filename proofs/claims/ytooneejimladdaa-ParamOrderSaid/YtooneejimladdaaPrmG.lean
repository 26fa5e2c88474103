/- rows of slices that the call owns: append. The append's law at a step of a drawn region. -/
import Derived.Test.YtooneejimladdaaPrmF
import Derived.Test.YtooneejimladdaaPrmE
namespace Go.Proofs.Ytooneejimladdaa
open Go.RowKit
set_option linter.unusedVariables false

theorem infoSl : (Try.prog.info? 29).map (fun i => (i.zero, i.size, i.bytes)) = some (some (.slice none 0 0), 1, 24) := by kernel_rfl
theorem wpList_append_sl {ops : Array Oper} {rest : List Oper} {o : Oper} {a : Act} {w : World} {Q : Exit → Act → World → Prop} (hgd : o.guard = none) (s x : Operand)
    (ho : o.op = .call { callee := .builtin .append, args := #[s, x], argTypes := #[32, 32] })
    (base n : Nat) (v : Value) (xs : List Value) (hs : a.eval s = v) (hown : w.ownsRow base 29 1 v n xs) (g m : Nat) (news : List Value) (hx : a.eval x = .slice (some ⟨g, 0, none⟩) m m) (hg : w.heap[g]? = some (.cells news.toArray 29 (0, 0))) (hm : news.length = m) (h1 : ∀ v ∈ news, v.oneCell' = true)
    (hb : n + m ≤ 1000000) (hbase : base ≤ w.heap.size)
    (h : ∀ v' w', w'.ownsRow base 29 1 v' (n + m) (xs ++ news) → w.grownBy w' v.ownBlock → (v'.ownBlock = v.ownBlock ∨ v'.ownBlock = some w.heap.size) → wpList Try.prog ops Q rest (a.put o.dst v') w') : wpList Try.prog ops Q (o :: rest) a w := by
  refine wpList_plain hgd fun K hK => ?_
  obtain ⟨i0, hi, hz0, hz1, hz2⟩ := info_parts infoSl
  have hnews : ∀ j y, news[j]? = some y → w.cell? ((⟨g, 0, none⟩ : Addr).add j) = some y := by
    intro j y hy
    rw [add_none, Nat.zero_add]
    exact row_cell hg j y (by rw [List.getElem?_toArray]; exact hy)
  obtain ⟨v', w', hr, h2, h3, h4, h5⟩ := run_append_own_at (P := Try.prog) w base 32 o.type 29 i0 (.slice none 0 0) 1 24 Try.underlying32 hi hz0 hz1 hz2 rfl (by decide) v n _ hown ⟨g, 0, none⟩ m m news (by omega) hnews h1 (by unfold maxLen; omega) (by omega) hbase
  unfold Oper.wp execOp
  simp only [ho, resolve, invoke, builtin, Sem.run_bind, Sem.run_pure, Result.andThen_ok, List.map_toArray, List.map_cons, List.map_nil, hs, hx, hr]
  exact hK _ _ (h v' w' h2 h3 h5)
theorem wp_append_bytes {o : Oper} {a : Act} {w : World} {K : Act → World → Prop} {Q : Exit → Act → World → Prop} (s x : Operand)
    (ho : o.op = .call { callee := .builtin .append, args := #[s, x], argTypes := #[29, 29] })
    (base n : Nat) (v : Value) (xs : List Int) (hs : a.eval s = v) (hown : w.ownsRow base 5 1 v n (xs.map (Value.int .u8))) (xa : Option Addr) (m c : Nat) (bs : List Int) (hx : a.eval x = .slice xa m c) (hI : IntsK .u8 w xa m bs)
    (hb : n + m ≤ 140737488355328) (hbase : base ≤ w.heap.size)
    (h : ∀ v' w', w'.ownsRow base 5 1 v' (n + m) ((xs ++ bs).map (Value.int .u8)) → w.grownBy w' v.ownBlock → K (a.put o.dst v') w') : Oper.wp Try.prog o a w K Q := by
  obtain ⟨v', w', hr, h2, h3⟩ := append_bytes w o.type base n v xs hown xa m c bs hI hb hbase
  unfold Oper.wp execOp
  simp only [ho, resolve, invoke, builtin, Sem.run_bind, Sem.run_pure, Result.andThen_ok, List.map_toArray, List.map_cons, List.map_nil, hs, hx, hr]
  exact h v' w' h2 h3

/-- cells of an owned row -/
theorem own_cell {w : World} {base e n : Nat} {b : Option Addr} {cp : Nat} {xs : List Value} (h : w.ownsRow base e 1 (.slice b n cp) n xs) {i : Nat} {v : Value} (hi : xs[i]? = some v) :
    ∃ g, b = some ⟨g, 0, none⟩ ∧ base ≤ g ∧ g < w.heap.size ∧ n ≤ cp ∧ w.cell? ⟨g, i, none⟩ = some v := by
  rcases h.2 with ⟨h1, h2⟩ | ⟨g, cap, cur, e1, hg, hrow, hn, hc, hsz, htk⟩
  · have h5 := lt_of_get hi
    rw [h.1] at h5
    injection h1 with _ h4 _
    omega
  · injection e1 with e1 e2 e3
    subst e1; subst e3
    refine ⟨g, rfl, hg, lt_of_block hrow, hn, ?_⟩
    rw [cell_of_row _ _ _ _ _ _ hrow]
    have hj : i < n * 1 := by have := lt_of_get hi; rw [h.1] at this; exact this
    rw [← htk, List.getElem?_take_of_lt hj] at hi
    simpa using hi

/-- rows of bytes: where each lies, and its bytes -/
abbrev Rw := Option Addr × Nat × Nat × List Int
def Rw.val (r : Rw) : Value := .slice r.1 r.2.1 r.2.2.1
theorem IntsK.lt {k : IntKind} {w : World} {a : Option Addr} {len : Nat} {zs : List Int} (h : IntsK k w a len zs) (h0 : 0 < len) : ∀ x, a = some x → x.block < w.heap.size := by
  intro x hx
  rcases h.2.2 with h1 | ⟨b, off, rfl, hb, _⟩
  · omega
  · injection hx with hx; subst hx; exact hb
theorem IntsK.grownL {k : IntKind} {w w' : World} {a : Option Addr} {len : Nat} {zs : List Int} {r : Option Nat} (h : IntsK k w a len zs) (hb : w.grownBy w' r) (hr : 0 < len → ∀ x, a = some x → some x.block ≠ r) : IntsK k w' a len zs := by
  by_cases h0 : 0 < len
  · exact h.grown hb (hr h0)
  · obtain rfl : len = 0 := by omega
    exact ⟨h.1, h.2.1, .inl rfl⟩
structure Rows (base gq : Nat) (W : World) (v : Value) (rs : List Rw) : Prop where
  own : W.ownsRow base 29 1 v rs.length (rs.map Rw.val)
  ints : ∀ r ∈ rs, IntsK .u8 W r.1 r.2.1 r.2.2.2
  apart : ∀ k, v.ownBlock = some k → k ≠ gq ∧ ∀ r ∈ rs, 0 < r.2.1 → ∀ x, r.1 = some x → x.block ≠ k
theorem Rows.below {base gq : Nat} {W W' : World} {v : Value} {rs : List Rw} (h : Rows base gq W v rs) (hb : Below W.heap.size W W') : Rows base gq W' v rs :=
  ⟨own_below h.own hb, fun r hr => (h.ints r hr).below hb, h.apart⟩
theorem Rows.add {base gq : Nat} {W W' : World} {v v' : Value} {rs ns : List Rw} (h : Rows base gq W v rs) (hn : ∀ r ∈ ns, IntsK .u8 W r.1 r.2.1 r.2.2.2) (hf : ∀ k, v.ownBlock = some k → ∀ r ∈ ns, 0 < r.2.1 → ∀ x, r.1 = some x → x.block ≠ k)
    (ho : W'.ownsRow base 29 1 v' (rs.length + ns.length) (rs.map Rw.val ++ ns.map Rw.val)) (hg : W.grownBy W' v.ownBlock) (hv : v'.ownBlock = v.ownBlock ∨ v'.ownBlock = some W.heap.size) (hq : gq < W.heap.size) :
    Rows base gq W' v' (rs ++ ns) := by
  have hi : ∀ r ∈ rs ++ ns, IntsK .u8 W r.1 r.2.1 r.2.2.2 := fun r hr => by
    rcases List.mem_append.1 hr with h1 | h1
    · exact h.ints r h1
    · exact hn r h1
  have ha : ∀ k, v.ownBlock = some k → ∀ r ∈ rs ++ ns, 0 < r.2.1 → ∀ x, r.1 = some x → x.block ≠ k := fun k hk r hr => by
    rcases List.mem_append.1 hr with h1 | h1
    · exact (h.apart k hk).2 r h1
    · exact hf k hk r h1
  refine ⟨by rw [List.length_append, List.map_append]; exact ho, fun r hr => (hi r hr).grownL hg (fun h0 x hx e => ha _ e.symm r hr h0 x hx rfl), fun k hk => ?_⟩
  rcases hv with e | e
  · rw [hk] at e
    exact ⟨(h.apart k e.symm).1, ha k e.symm⟩
  · rw [hk] at e
    injection e with e
    subst e
    exact ⟨by omega, fun r hr h0 x hx => by have := (hi r hr).lt h0 x hx; omega⟩
end Go.Proofs.Ytooneejimladdaa
