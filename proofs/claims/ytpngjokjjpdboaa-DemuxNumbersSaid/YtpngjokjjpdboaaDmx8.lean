/- demux: a table as a map: the contracts in terms of the pairs that are there. -/
import Derived.Test.YtpngjokjjpdboaaDmx7
namespace Go.Proofs.Ytpngjokjjpdboaa
open Go.RowKit
set_option linter.unusedVariables false

theorem names_nodup : ∀ {l : List Pl}, (∀ (q r : Nat) (x y : Pl), l[q]? = some x → l[r]? = some y → x.u = true → y.u = true → x.c = y.c → q = r) → ((l.filter (·.u)).map (·.c)).Nodup
  | [], _ => by simp
  | x :: l, h => by
    have ih := names_nodup (l := l) (fun q r a b ha hb hu hv hc => by
      have := h (q + 1) (r + 1) a b (by simpa using ha) (by simpa using hb) hu hv hc
      omega)
    by_cases hu : x.u = true
    · rw [List.filter_cons_of_pos hu, List.map_cons, List.nodup_cons]
      refine ⟨fun hm => ?_, ih⟩
      obtain ⟨y, hy, hc⟩ := List.mem_map.1 hm
      obtain ⟨hy1, hy2⟩ := List.mem_filter.1 hy
      obtain ⟨r, hr⟩ := List.getElem?_of_mem hy1
      have := h 0 (r + 1) x y rfl (by simpa using hr) hu hy2 hc.symm
      omega
    · rw [List.filter_cons_of_neg hu]
      exact ih
structure Mp (w : World) (N p g : Nat) (ps : List (List Int × Int)) : Prop where
  tab : ∃ l, Tab w N l p g ∧ ∀ c n, Has l c n ↔ (c, n) ∈ ps
  nd : (ps.map (·.1)).Nodup
theorem Mp.below {w w' : World} {N p g : Nat} {ps : List (List Int × Int)} (h : Mp w N p g ps) (hb : Below w.heap.size w w') : Mp w' N p g ps := by
  obtain ⟨l, h1, h2⟩ := h.tab
  exact ⟨⟨l, h1.below hb, h2⟩, h.nd⟩
theorem pairs_of_nodup : ∀ {ps : List (List Int × Int)}, (ps.map (·.1)).Nodup → ps.Nodup
  | [], _ => by simp
  | x :: ps, h => by
    rw [List.map_cons, List.nodup_cons] at h
    rw [List.nodup_cons]
    exact ⟨fun hm => h.1 (List.mem_map.2 ⟨x, hm, rfl⟩), pairs_of_nodup h.2⟩
theorem rel_count {w : World} {N p g : Nat} {l : List Pl} {ps : List (List Int × Int)} (hT : Tab w N l p g) (hh : ∀ c n, Has l c n ↔ (c, n) ∈ ps) (hnd : (ps.map (·.1)).Nodup) : l.countP (·.u) = ps.length := by
  have h1 := names_nodup (l := l) (fun q r x y hx hy hu hv hc => hT.inv.once hx hy hu hv hc)
  have h2 : List.Perm ((l.filter (·.u)).map (·.c)) (ps.map (·.1)) := by
    rw [List.perm_ext_iff_of_nodup h1 hnd]
    intro c
    constructor
    · intro hm
      obtain ⟨x, hx, rfl⟩ := List.mem_map.1 hm
      obtain ⟨hx1, hx2⟩ := List.mem_filter.1 hx
      obtain ⟨q, hq⟩ := List.getElem?_of_mem hx1
      have : Has l x.c x.n := ⟨q, by rw [hq]; obtain ⟨a, b, d⟩ := x; simp only at hx2; rw [hx2]⟩
      exact List.mem_map.2 ⟨_, (hh _ _).1 this, rfl⟩
    · intro hm
      obtain ⟨⟨c', n⟩, hp, rfl⟩ := List.mem_map.1 hm
      obtain ⟨q, hq⟩ := (hh _ _).2 hp
      exact List.mem_map.2 ⟨_, List.mem_filter.2 ⟨List.mem_of_getElem? hq, rfl⟩, rfl⟩
  have h3 := h2.length_eq
  rw [List.length_map, List.length_map] at h3
  rw [List.countP_eq_length_filter, h3]
theorem Mp.once {w : World} {N p g : Nat} {ps : List (List Int × Int)} (h : Mp w N p g ps) {c : List Int} {n m : Int} (h1 : (c, n) ∈ ps) (h2 : (c, m) ∈ ps) : n = m := by
  obtain ⟨l, hT, hh⟩ := h.tab
  obtain ⟨q, hq⟩ := (hh _ _).2 h1
  obtain ⟨r, hr⟩ := (hh _ _).2 h2
  have e := hT.inv.once hq hr rfl rfl rfl
  subst e
  rw [hq] at hr; injection hr with hr; injection hr with _ hr _

theorem mlen_any (w : World) (N p g : Nat) (ps : List (List Int × Int)) (h : Mp w N p g ps) : Calls Try.prog 10 #[.pointer (some ⟨p, 0, none⟩)] w fun e w' => e = .returned (.int .i64 ps.length) ∧ w = w' := by
  obtain ⟨l, hT, hh⟩ := h.tab
  rw [← rel_count hT hh h.nd]
  exact tlen_any w N l p g hT
theorem mplaces_any (w : World) (N p g : Nat) (ps : List (List Int × Int)) (h : Mp w N p g ps) : Calls Try.prog 9 #[.pointer (some ⟨p, 0, none⟩)] w fun e w' => e = .returned (.int .i64 N) ∧ w = w' := by
  obtain ⟨l, hT, hh⟩ := h.tab
  exact tplaces_any w N l p g hT
theorem mnew_any (w : World) (n : Int) (hn : -9223372036854775808 ≤ n ∧ n ≤ 9223372036854775807) : Calls Try.prog 7 #[.int .i64 n] w fun e w' => Below w.heap.size w w' ∧ ∃ p g, e = .returned (.pointer (some ⟨p, 0, none⟩)) ∧ w.heap.size ≤ p ∧ w.heap.size ≤ g ∧ Mp w' (plc n) p g [] := by
  refine Calls.mono (tnew_any w n hn) ?_
  rintro e w' ⟨hb, p, g, he, hp, hg, hT⟩
  refine ⟨hb, p, g, he, hp, hg, ⟨⟨_, hT, fun c m => ⟨fun ⟨q, hq⟩ => ?_, fun h => by cases h⟩⟩, by simp⟩⟩
  have := (List.mem_replicate.1 (List.mem_of_getElem? hq)).2
  simp [zPl] at this
theorem Mp.bd {w : World} {N p g : Nat} {ps : List (List Int × Int)} (h : Mp w N p g ps) : 8 ≤ N ∧ N ≤ 4096 ∧ 4 * ps.length ≤ 3 * N ∧ p < w.heap.size ∧ g < w.heap.size ∧ g ≠ p := by
  obtain ⟨l, hT, hh⟩ := h.tab
  have h1 := pow_bd hT.pow
  have h2 := hT.inv.room
  rw [rel_count hT hh h.nd] at h2
  exact ⟨h1.1, h1.2, h2, lt_of_block hT.box, lt_of_block hT.row, hT.ne⟩
theorem mget_any (w : World) (N p g : Nat) (ps : List (List Int × Int)) (c : List Int) (h : Mp w N p g ps) (hc : c.length = 8) (hcw : ∀ x ∈ c, (Lit.int .u8 x).wf = true) :
    Calls Try.prog 17 #[.pointer (some ⟨p, 0, none⟩), .agg (c.map (Value.int .u8)).toArray] w fun e w' => Below w.heap.size w w' ∧
      ((∃ n, (c, n) ∈ ps ∧ e = .returned (.tuple #[.int .i64 n, .bool true])) ∨ ((∀ n, (c, n) ∉ ps) ∧ e = .returned (.tuple #[.int .i64 0, .bool false]))) := by
  obtain ⟨l, hT, hh⟩ := h.tab
  refine Calls.mono (get_any w N l p g c hT hc hcw) ?_
  rintro e w' ⟨hb, i, x, hs, rfl⟩
  refine ⟨hb, ?_⟩
  cases hu : x.u with
  | true => exact .inl ⟨x.n, (hh _ _).1 (hs.used hT.inv hu).2.1, rfl⟩
  | false =>
    have := hs.none hT.inv hu
    rw [this.1]
    exact .inr ⟨fun n hn => this.2 n ((hh _ _).2 hn), rfl⟩
theorem mprobes_any (w : World) (N p g : Nat) (ps : List (List Int × Int)) (c : List Int) (h : Mp w N p g ps) (hc : c.length = 8) (hcw : ∀ x ∈ c, (Lit.int .u8 x).wf = true) :
    Calls Try.prog 14 #[.pointer (some ⟨p, 0, none⟩), .agg (c.map (Value.int .u8)).toArray] w fun e w' => Below w.heap.size w w' ∧ ∃ k : Nat, 1 ≤ k ∧ k ≤ N ∧ e = .returned (.int .i64 k) := by
  obtain ⟨l, hT, hh⟩ := h.tab
  refine Calls.mono (probes_any w N l p g c hT hc hcw) ?_
  rintro e w' ⟨hb, i, x, hs, rfl⟩
  exact ⟨hb, i + 1, by omega, hs.lt, by rfl⟩
/-- what is there behind a Put. -/
def PutTo (ps : List (List Int × Int)) (c : List Int) (n : Int) (ps' : List (List Int × Int)) : Prop := (ps'.map (·.1)).Nodup ∧ ∀ c' n', (c', n') ∈ ps' ↔ (if c' = c then n' = n else (c', n') ∈ ps)
theorem mput_any (w : World) (N p g : Nat) (ps : List (List Int × Int)) (c : List Int) (n : Int) (h : Mp w N p g ps) (hc : c.length = 8) (hcw : ∀ x ∈ c, (Lit.int .u8 x).wf = true) (hn : -9223372036854775808 ≤ n ∧ n ≤ 9223372036854775807) :
    Calls Try.prog 13 #[.pointer (some ⟨p, 0, none⟩), .agg (c.map (Value.int .u8)).toArray, .int .i64 n] w fun e w' => Two w w' p g ∧
      (((∀ m, (c, m) ∉ ps) ∧ 3 * N ≤ 4 * ps.length ∧ e = .returned (.bool false) ∧ Mp w' N p g ps) ∨
       (((∃ m, (c, m) ∈ ps) ∨ 4 * ps.length + 4 ≤ 3 * N) ∧ e = .returned (.bool true) ∧ ∀ ps', PutTo ps c n ps' → Mp w' N p g ps')) := by
  obtain ⟨l, hT, hh⟩ := h.tab
  have hcnt := rel_count hT hh h.nd
  refine Calls.mono (put_any w N l p g c n hn hT hc hcw) ?_
  rintro e w' ⟨h2, i, x, hs, ⟨hu, hf, rfl, hT'⟩ | ⟨hr, rfl, hT'⟩⟩
  · exact ⟨h2, .inl ⟨fun m hm => (hs.none hT.inv hu).2 m ((hh _ _).2 hm), by rw [← hcnt]; exact hf, rfl, ⟨⟨l, hT', hh⟩, h.nd⟩⟩⟩
  · refine ⟨h2, .inr ⟨?_, rfl, fun ps' hp => ⟨⟨_, hT', fun c' n' => ?_⟩, hp.1⟩⟩⟩
    · rcases hr with hr | hr
      · exact .inl ⟨x.n, (hh _ _).1 (hs.used hT.inv hr).2.1⟩
      · exact .inr (by rw [← hcnt]; exact hr)
    · rw [(hT.inv.put hs n hr).2.2, hp.2]
      split
      · exact Iff.rfl
      · exact hh _ _
theorem mdrop_any (w : World) (N p g : Nat) (ps : List (List Int × Int)) (c : List Int) (h : Mp w N p g ps) (hc : c.length = 8) (hcw : ∀ x ∈ c, (Lit.int .u8 x).wf = true) :
    Calls Try.prog 16 #[.pointer (some ⟨p, 0, none⟩), .agg (c.map (Value.int .u8)).toArray] w fun e w' => Two w w' p g ∧
      (((∀ m, (c, m) ∉ ps) ∧ e = .returned (.bool false) ∧ Mp w' N p g ps) ∨
       ((∃ m, (c, m) ∈ ps) ∧ e = .returned (.bool true) ∧ ∃ g', w.heap.size ≤ g' ∧ ∀ ps', (ps'.map (·.1)).Nodup → (∀ c' n', (c', n') ∈ ps' ↔ (c', n') ∈ ps ∧ c' ≠ c) → Mp w' N p g' ps')) := by
  obtain ⟨l, hT, hh⟩ := h.tab
  refine Calls.mono (drop_any w N l p g c hT hc hcw) ?_
  rintro e w' ⟨h2, ⟨hno, rfl, hT'⟩ | ⟨⟨n, hyes⟩, rfl, g', T, hg, hT', hHas⟩⟩
  · exact ⟨h2, .inl ⟨fun m hm => hno m ((hh _ _).2 hm), rfl, ⟨⟨l, hT', hh⟩, h.nd⟩⟩⟩
  · exact ⟨h2, .inr ⟨⟨n, (hh _ _).1 hyes⟩, rfl, g', hg, fun ps' hnd hm => ⟨⟨T, hT', fun c' n' => by rw [hHas, hm, hh]⟩, hnd⟩⟩⟩
theorem mdropall_any (w : World) (N p g : Nat) (ps ps' : List (List Int × Int)) (n : Int) (h : Mp w N p g ps) (hnd : (ps'.map (·.1)).Nodup) (hm : ∀ c' n', (c', n') ∈ ps' ↔ (c', n') ∈ ps ∧ n' ≠ n) :
    Calls Try.prog 18 #[.pointer (some ⟨p, 0, none⟩), .int .i64 n] w fun e w' => Two w w' p g ∧ e = .returned (.int .i64 ((ps.length : Int) - ps'.length)) ∧ ∃ g', w.heap.size ≤ g' ∧ Mp w' N p g' ps' := by
  obtain ⟨l, hT, hh⟩ := h.tab
  have hcnt := rel_count hT hh h.nd
  refine Calls.mono (dropall_any w N l p g n hT) ?_
  rintro e w' ⟨h2, g', T, hg, rfl, hT', hHas⟩
  have hh' : ∀ c m, Has T c m ↔ (c, m) ∈ ps' := fun c m => by rw [hHas, hm, hh]
  exact ⟨h2, by rw [hcnt, rel_count hT' hh' hnd], g', hg, ⟨⟨T, hT', hh'⟩, hnd⟩⟩
end Go.Proofs.Ytpngjokjjpdboaa
