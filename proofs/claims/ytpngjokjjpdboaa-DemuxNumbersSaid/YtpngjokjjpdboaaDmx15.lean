/- demux: play. -/
import Derived.Test.YtpngjokjjpdboaaDmx14
import Derived.Deep.DeepCutAuto
import Derived.Deep.CutBlock
namespace Go.Proofs.Ytpngjokjjpdboaa
open Go.RowKit
set_option linter.unusedVariables false

/-- what the loop that looks for a name holds. -/
def AtIs (ps : List (List Int × Int)) (c : List Int) (k : Nat) (a : Int) : Prop :=
  (∃ q : Nat, q < k ∧ a = q ∧ ∃ m, ps[q]? = some (c, m)) ∨ (a = -1 ∧ ∀ (q : Nat) (m : Int), q < k → ps[q]? ≠ some (c, m))
theorem AtIs.zero (ps : List (List Int × Int)) (c : List Int) : AtIs ps c 0 (-1) := .inr ⟨rfl, fun q m h => by omega⟩
theorem AtIs.hit {ps : List (List Int × Int)} {c : List Int} {k : Nat} {n : Int} (h : ps[k]? = some (c, n)) : AtIs ps c (k + 1) (k : Int) := .inl ⟨k, by omega, rfl, n, h⟩
theorem AtIs.miss {ps : List (List Int × Int)} {c ck : List Int} {k : Nat} {n a : Int} (hA : AtIs ps c k a) (h : ps[k]? = some (ck, n)) (hc : ck ≠ c) : AtIs ps c (k + 1) a := by
  rcases hA with ⟨q, h1, h2⟩ | ⟨h1, h2⟩
  · exact .inl ⟨q, by omega, h2⟩
  · refine .inr ⟨h1, fun q m hq => ?_⟩
    rcases Nat.lt_or_ge q k with hl | hl
    · exact h2 q m hl
    · obtain rfl : q = k := by omega
      rw [h]; intro e; injection e with e; injection e with e; exact hc e
theorem AtIs.no {ps : List (List Int × Int)} {c : List Int} (hA : AtIs ps c ps.length (-1)) (m : Int) : (c, m) ∉ ps := by
  rcases hA with ⟨q, h1, h2, _⟩ | ⟨_, h2⟩
  · omega
  · intro hm
    obtain ⟨q, hq⟩ := List.getElem?_of_mem hm
    exact h2 q m (lt_of_get hq) hq
theorem AtIs.yes {ps : List (List Int × Int)} {c : List Int} {q : Nat} {k : Nat} (hA : AtIs ps c k (q : Int)) : ∃ m, ps[q]? = some (c, m) := by
  rcases hA with ⟨q', h1, h2, m, hm⟩ | ⟨h, _⟩
  · obtain rfl : q = q' := by omega
    exact ⟨m, hm⟩
  · omega
theorem nodup_fst {ps : List (List Int × Int)} (hnd : (ps.map (·.1)).Nodup) {i j : Nat} {c : List Int} {m n : Int} (hi : ps[i]? = some (c, m)) (hj : ps[j]? = some (c, n)) : i = j := by
  have e1 : (ps.map (·.1))[i]? = some c := by rw [List.getElem?_map, hi]; rfl
  have e2 : (ps.map (·.1))[j]? = some c := by rw [List.getElem?_map, hj]; rfl
  exact (List.getElem?_inj (lt_of_get e1) hnd).1 (e1.trans e2.symm)
/-- the list without its place q. -/
def cutAt (ps : List (List Int × Int)) (q : Nat) : List (List Int × Int) := ps.take q ++ ps.drop (q + 1)
theorem cutAt_nd {ps : List (List Int × Int)} (hnd : (ps.map (·.1)).Nodup) (q : Nat) : ((cutAt ps q).map (·.1)).Nodup := by
  unfold cutAt
  rw [← List.eraseIdx_eq_take_drop_succ]
  exact hnd.sublist ((List.eraseIdx_sublist ps q).map _)
theorem cutAt_mem {ps : List (List Int × Int)} (hnd : (ps.map (·.1)).Nodup) {q : Nat} {c : List Int} {m : Int} (hq : ps[q]? = some (c, m)) (c' : List Int) (n' : Int) : (c', n') ∈ cutAt ps q ↔ (c', n') ∈ ps ∧ c' ≠ c := by
  unfold cutAt
  rw [← List.eraseIdx_eq_take_drop_succ, List.mem_eraseIdx_iff_getElem?]
  constructor
  · rintro ⟨i, hi, he⟩
    refine ⟨List.mem_of_getElem? he, fun e => hi ?_⟩
    subst e
    exact nodup_fst hnd he hq
  · rintro ⟨hm, hc⟩
    obtain ⟨i, hi⟩ := List.getElem?_of_mem hm
    refine ⟨i, fun e => hc ?_, hi⟩
    subst e
    rw [hq] at hi; injection hi with hi; injection hi with hi _; exact hi.symm
theorem cutAt_len {ps : List (List Int × Int)} {q : Nat} (hq : q < ps.length) : (cutAt ps q).length = q + (ps.length - (q + 1)) := by
  unfold cutAt; rw [List.length_append, List.length_take, List.length_drop]; omega
theorem PsOk.cut {ps : List (List Int × Int)} (h : PsOk ps) (q : Nat) : PsOk (cutAt ps q) := (h.take q).app (h.drop (q + 1))
/-- Put where the name stands. -/
theorem putTo_set {ps : List (List Int × Int)} (hnd : (ps.map (·.1)).Nodup) {q : Nat} {c : List Int} {m : Int} (hq : ps[q]? = some (c, m)) (n : Int) : PutTo ps c n (ps.set q (c, n)) := by
  have hl := lt_of_get hq
  have e : (ps.set q (c, n)).map (·.1) = ps.map (·.1) := by
    rw [List.map_set]
    refine List.ext_getElem? fun i => ?_
    rw [List.getElem?_set]
    split
    · rename_i e; subst e
      rw [if_pos (by simpa using hl), List.getElem?_map, hq]; rfl
    · rfl
  refine ⟨by rw [e]; exact hnd, fun c' n' => ?_⟩
  constructor
  · intro h
    obtain ⟨i, hi⟩ := List.getElem?_of_mem h
    rw [List.getElem?_set] at hi
    split at hi
    · injection hi with hi; injection hi with h1 h2
      rw [if_pos h1.symm]; exact h2.symm
    · rename_i hne
      rw [if_neg (fun e => hne (by subst e; exact nodup_fst hnd hq hi))]
      exact List.mem_of_getElem? hi
  · intro h
    by_cases hc : c' = c
    · rw [if_pos hc] at h
      subst hc; subst h
      exact List.mem_of_getElem? (i := q) (by rw [List.getElem?_set_self hl])
    · rw [if_neg hc] at h
      obtain ⟨i, hi⟩ := List.getElem?_of_mem h
      refine List.mem_of_getElem? (i := i) ?_
      rw [List.getElem?_set_ne (fun e => ?_)]
      · exact hi
      · subst e; rw [hq] at hi; injection hi with hi; injection hi with hi _; exact hc hi.symm
theorem putTo_app {ps : List (List Int × Int)} (hnd : (ps.map (·.1)).Nodup) {c : List Int} (hno : ∀ m, (c, m) ∉ ps) (n : Int) : PutTo ps c n (ps ++ [(c, n)]) := by
  refine ⟨?_, fun c' n' => ?_⟩
  · rw [List.map_append, List.nodup_append]
    refine ⟨hnd, by simp, ?_⟩
    rintro a ha b hb
    simp at hb
    subst hb
    rintro rfl
    obtain ⟨x, hx, he⟩ := List.mem_map.1 ha
    exact hno x.2 (by rw [← he]; exact hx)
  · rw [List.mem_append, List.mem_singleton]
    by_cases hc : c' = c
    · rw [if_pos hc]
      subst hc
      exact ⟨fun h => h.elim (fun h => absurd h (hno n')) (fun h => by injection h), fun h => .inr (by rw [h])⟩
    · rw [if_neg hc]
      exact ⟨fun h => h.elim id (fun h => by injection h with h; exact absurd h hc), .inl⟩
theorem filter_nd {ps : List (List Int × Int)} (hnd : (ps.map (·.1)).Nodup) (f : List Int × Int → Bool) : ((ps.filter f).map (·.1)).Nodup := hnd.sublist ((List.filter_sublist ).map _)
theorem PsOk.filter {ps : List (List Int × Int)} (h : PsOk ps) (f : List Int × Int → Bool) : PsOk (ps.filter f) := fun x hx => h x (List.mem_filter.1 hx).1
theorem take_succ_filter {ps : List (List Int × Int)} {k : Nat} {q : List Int × Int} (h : ps[k]? = some q) (f : List Int × Int → Bool) : (ps.take (k + 1)).filter f = (ps.take k).filter f ++ (if f q = true then [q] else []) := by
  rw [List.take_add_one, h, Option.toList, List.filter_append]
  congr 1
  by_cases hf : f q = true
  · rw [if_pos hf, List.filter_cons_of_pos hf]; rfl
  · rw [if_neg hf, List.filter_cons_of_neg hf]; rfl

/-- two rows that grow apart. -/
structure PR2 (w : World) (B : Nat) (D : List Nat) (ac : Option Addr) (kc : Nat) (an : Option Addr) (kn : Nat) (ps qs : List (List Int × Int)) : Prop where
  oc : w.ownsRow B 30 8 (.slice ac ps.length kc) ps.length (cC ps)
  on : w.ownsRow B 3 1 (.slice an qs.length kn) qs.length (nC qs)
  ok : PsOk ps
  d1 : ∀ x, ac = some x → x.block ∉ D
  d2 : ∀ x, an = some x → x.block ∉ D
  d3 : ∀ x y, ac = some x → an = some y → x.block ≠ y.block
  dl : ∀ x ∈ D, x < w.heap.size
section
variable {w w' : World} {B : Nat} {D : List Nat} {ac : Option Addr} {kc : Nat} {an : Option Addr} {kn : Nat} {ps qs : List (List Int × Int)}
theorem PRows.pr2 (h : PRows w B D ac kc an kn ps) (hD : ∀ x ∈ D, x < w.heap.size) : PR2 w B D ac kc an kn ps ps := ⟨h.oc, h.on, h.ok, h.d1, h.d2, h.d3, hD⟩
theorem PR2.rows (h : PR2 w B D ac kc an kn ps ps) : PRows w B D ac kc an kn ps := ⟨h.oc, h.on, h.ok, h.d1, h.d2, h.d3⟩
theorem PR2.lt1 (h : PR2 w B D ac kc an kn ps qs) : ∀ x, ac = some x → B ≤ x.block ∧ x.block < w.heap.size := by
  intro x hx
  obtain ⟨_, _, _, h1 | ⟨b, h1, h2, h3, _⟩⟩ := own_addr h.oc
  · rw [h1.1] at hx; cases hx
  · rw [h1] at hx; injection hx with hx; subst hx; exact ⟨h2, h3⟩
theorem PR2.lt2 (h : PR2 w B D ac kc an kn ps qs) : ∀ x, an = some x → B ≤ x.block ∧ x.block < w.heap.size := by
  intro x hx
  obtain ⟨_, _, _, h1 | ⟨b, h1, h2, h3, _⟩⟩ := own_addr h.on
  · rw [h1.1] at hx; cases hx
  · rw [h1] at hx; injection hx with hx; subst hx; exact ⟨h2, h3⟩
theorem PR2.below (h : PR2 w B D ac kc an kn ps qs) (hb : Below w.heap.size w w') : PR2 w' B D ac kc an kn ps qs :=
  ⟨own_below h.oc hb, own_below h.on hb, h.ok, h.d1, h.d2, h.d3, fun x hx => Nat.lt_of_lt_of_le (h.dl x hx) hb.size⟩
theorem PR2.alloc (h : PR2 w B D ac kc an kn ps qs) (o : Obj) : PR2 (w.alloc o) B (w.heap.size :: D) ac kc an kn ps qs := by
  have h2 := h.below ((Below.refl _ _).alloc (Nat.le_refl _) o)
  refine ⟨h2.oc, h2.on, h2.ok, fun x hx hm => ?_, fun x hx hm => ?_, h2.d3, fun x hx => ?_⟩
  · rcases List.mem_cons.1 hm with e | e
    · have := (h.lt1 x hx).2; omega
    · exact h.d1 x hx e
  · rcases List.mem_cons.1 hm with e | e
    · have := (h.lt2 x hx).2; omega
    · exact h.d2 x hx e
  · rcases List.mem_cons.1 hx with e | e
    · rw [e]; simp
    · exact h2.dl x e
theorem PR2.empty (w : World) (B : Nat) (D : List Nat) (hD : ∀ x ∈ D, x < w.heap.size) : PR2 w B D none 0 none 0 [] [] :=
  ⟨World.ownsRow_nil w B _ _, World.ownsRow_nil w B _ _, fun x hx => (by simp at hx), fun x hx => (by cases hx), fun x hx => (by cases hx), fun x y hx => (by cases hx), hD⟩
theorem PR2.less (h : PR2 w B D ac kc an kn ps qs) {D' : List Nat} (hd : ∀ x ∈ D', x ∈ D) : PR2 w B D' ac kc an kn ps qs :=
  ⟨h.oc, h.on, h.ok, fun x hx hm => h.d1 x hx (hd _ hm), fun x hx hm => h.d2 x hx (hd _ hm), h.d3, fun x hx => h.dl x (hd _ hx)⟩
theorem PR2.mkC (h : PR2 w B D none 0 an kn [] qs) (hB : B ≤ w.heap.size) : PR2 (w.alloc (.cells #[] 30)) B D (some ⟨w.heap.size, 0, none⟩) 0 an kn [] qs := by
  have h2 := h.below ((Below.refl _ _).alloc (Nat.le_refl _) (.cells #[] 30))
  refine ⟨World.ownsRow_made _ _ _ hB (by unfold maxLen; omega) rfl, h2.on, h2.ok, fun x hx hm => ?_, h2.d2, fun x y hx hy e => ?_, h2.dl⟩
  · injection hx with hx; subst hx
    have := h.dl _ hm; simp at this
  · injection hx with hx; subst hx
    have := (h.lt2 y hy).2; simp at e; omega
theorem PR2.mkN (h : PR2 w B D ac kc none 0 ps []) (hB : B ≤ w.heap.size) : PR2 (w.alloc (.cells #[] 3)) B D ac kc (some ⟨w.heap.size, 0, none⟩) 0 ps [] := by
  have h2 := h.below ((Below.refl _ _).alloc (Nat.le_refl _) (.cells #[] 3))
  refine ⟨h2.oc, World.ownsRow_made _ _ _ hB (by unfold maxLen; omega) rfl, h2.ok, h2.d1, fun x hx hm => ?_, fun x y hx hy e => ?_, h2.dl⟩
  · injection hx with hx; subst hx
    have := h.dl _ hm; simp at this
  · injection hy with hy; subst hy
    have := (h.lt1 x hx).2; simp at e; omega
theorem own_sl {w : World} {base e n : Nat} {v : Value} {xs : List Value} {size : Nat} (h : w.ownsRow base e size v n xs) : ∃ b cp, v = .slice b n cp ∧ n ≤ cp := by
  rcases h.2 with ⟨rfl, rfl⟩ | ⟨g, cap, cur, rfl, hg, hrow, hn, hc, hsz, htk⟩
  · exact ⟨_, _, rfl, Nat.le_refl _⟩
  · exact ⟨_, _, rfl, hn⟩
theorem own_none_block {a : Option Addr} {n c : Nat} : ∀ x, (Value.slice a n c).ownBlock = some x → ∃ y, a = some y ∧ y.block = x := by
  intro x hx
  cases a with
  | none => cases hx
  | some y => exact ⟨y, rfl, by injection hx⟩
theorem PR2.appC (h : PR2 w B D ac kc an kn ps qs) {add : List (List Int × Int)} (hok : PsOk add) {m : Nat} (hm : add.length = m) {v' : Value} (hown : w'.ownsRow B 30 8 v' (ps.length + m) (cC (ps ++ add)))
    (hg : w.grownBy w' (Value.slice ac ps.length kc).ownBlock) (hor : v'.ownBlock = (Value.slice ac ps.length kc).ownBlock ∨ v'.ownBlock = some w.heap.size) :
    ∃ ac' kc', v' = .slice ac' (ps ++ add).length kc' ∧ PR2 w' B D ac' kc' an kn (ps ++ add) qs := by
  have hl : (ps ++ add).length = ps.length + m := by rw [List.length_append, hm]
  obtain ⟨b, cp, rfl, _⟩ := own_sl hown
  refine ⟨b, cp, by rw [hl], ⟨by rw [hl]; exact hown, ?_, h.ok.app hok, ?_, h.d2, ?_, fun x hx => Nat.lt_of_lt_of_le (h.dl x hx) hg.size⟩⟩
  · refine own_keep h.on fun x hx hlt => hg.block _ hlt fun e => ?_
    obtain ⟨y, hy, he⟩ := own_none_block _ e.symm
    exact h.d3 y x hy hx he
  · intro x hx hm'
    subst hx
    rcases hor with e | e
    · obtain ⟨y, hy, he⟩ := own_none_block _ e.symm
      exact h.d1 y hy (by rw [he]; exact hm')
    · injection e with e
      have := h.dl _ hm'; omega
  · intro x y hx hy e2
    subst hx
    rcases hor with e | e
    · obtain ⟨z, hz, he⟩ := own_none_block _ e.symm
      exact h.d3 z y hz hy (by rw [he]; exact e2)
    · injection e with e
      have := (h.lt2 y hy).2; omega
theorem PR2.appN (h : PR2 w B D ac kc an kn ps qs) {add : List (List Int × Int)} {m : Nat} (hm : add.length = m) {v' : Value} (hown : w'.ownsRow B 3 1 v' (qs.length + m) (nC (qs ++ add)))
    (hg : w.grownBy w' (Value.slice an qs.length kn).ownBlock) (hor : v'.ownBlock = (Value.slice an qs.length kn).ownBlock ∨ v'.ownBlock = some w.heap.size) :
    ∃ an' kn', v' = .slice an' (qs ++ add).length kn' ∧ PR2 w' B D ac kc an' kn' ps (qs ++ add) := by
  have hl : (qs ++ add).length = qs.length + m := by rw [List.length_append, hm]
  obtain ⟨b, cp, rfl, _⟩ := own_sl hown
  refine ⟨b, cp, by rw [hl], ⟨?_, by rw [hl]; exact hown, h.ok, h.d1, ?_, ?_, fun x hx => Nat.lt_of_lt_of_le (h.dl x hx) hg.size⟩⟩
  · refine own_keep h.oc fun x hx hlt => hg.block _ hlt fun e => ?_
    obtain ⟨y, hy, he⟩ := own_none_block _ e.symm
    exact h.d3 x y hx hy he.symm
  · intro x hx hm'
    subst hx
    rcases hor with e | e
    · obtain ⟨y, hy, he⟩ := own_none_block _ e.symm
      exact h.d2 y hy (by rw [he]; exact hm')
    · injection e with e
      have := h.dl _ hm'; omega
  · intro x y hx hy e2
    subst hy
    rcases hor with e | e
    · obtain ⟨z, hz, he⟩ := own_none_block _ e.symm
      exact h.d3 x z hx hz (by rw [he]; exact e2)
    · injection e with e
      have := (h.lt1 x hx).2; omega
theorem PR2.offC (h : PR2 w B D ac kc an kn ps qs) {x : Nat} (hx : x ∈ D) : some x ≠ (Value.slice ac ps.length kc).ownBlock := fun e => by
  obtain ⟨y, hy, he⟩ := own_none_block _ e.symm
  exact h.d1 y hy (by rw [he]; exact hx)
theorem PR2.offN (h : PR2 w B D ac kc an kn ps qs) {x : Nat} (hx : x ∈ D) : some x ≠ (Value.slice an qs.length kn).ownBlock := fun e => by
  obtain ⟨y, hy, he⟩ := own_none_block _ e.symm
  exact h.d2 y hy (by rw [he]; exact hx)
theorem PR2.lowC (h : PR2 w B D ac kc an kn ps qs) : ∀ k, (Value.slice ac ps.length kc).ownBlock = some k → B ≤ k := own_base h.oc
theorem PR2.lowN (h : PR2 w B D ac kc an kn ps qs) : ∀ k, (Value.slice an qs.length kn).ownBlock = some k → B ≤ k := own_base h.on
theorem own_mono {B B' e s n : Nat} {v : Value} {xs : List Value} (h : w.ownsRow B' e s v n xs) (hB : B ≤ B') : w.ownsRow B e s v n xs := by
  refine ⟨h.1, ?_⟩
  rcases h.2 with h1 | ⟨g, cap, cur, h1, hg, hr⟩
  · exact .inl h1
  · exact .inr ⟨g, cap, cur, h1, Nat.le_trans hB hg, hr⟩
theorem PR2.mono {B' : Nat} (h : PR2 w B' D ac kc an kn ps qs) (hB : B ≤ B') : PR2 w B D ac kc an kn ps qs := ⟨own_mono h.oc hB, own_mono h.on hB, h.ok, h.d1, h.d2, h.d3, h.dl⟩
theorem Mp.grownB {N p g : Nat} {r : Option Nat} (h : Mp w N p g ps) (hg : w.grownBy w' r) (h1 : some p ≠ r) (h2 : some g ≠ r) : Mp w' N p g ps := by
  obtain ⟨l, hT, hh⟩ := h.tab
  exact ⟨⟨l, ⟨hT.inv, hT.pls, hT.pow, hT.ne, grown_row hg h2 hT.row, grown_row hg h1 hT.box⟩, hh⟩, h.nd⟩
end

end Go.Proofs.Ytpngjokjjpdboaa
