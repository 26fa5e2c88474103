/- texts of the proof, laid together: Pkt25, Pkt26, Pkt27, Pkt28, Pkt29. -/
import Derived.Test.YthofbckkjcidmaaV6
import Derived.Test.YthofbckkjcidmaaV8
import Derived.Great.BuildSlice
namespace Go.Proofs.Ythofbckkjcidmaa
open Go.RowKit Go.WideShapes Go.ChangeShapes
set_option linter.unusedVariables false

/-- a slice of drawn heads that came in. -/
def HXs (w : World) (a : Option Addr) (len : Nat) : Prop :=
  len = 0 ∨ ∃ b off, a = some ⟨b, off, none⟩ ∧ b < w.heap.size ∧ ∀ j, j < len → ∃ q : HX, q.ok w ∧ ∀ i v, q.row[i]? = some v → w.cell? ⟨b, off + j * 6 + i, none⟩ = some v
theorem HX.ok.below {w w' : World} {q : HX} (h : q.ok w) (hb : Below w.heap.size w w') : q.ok w' := ⟨h.bs, h.bt, h.bf, h.bw, h.le, h.max, h.ints.below hb⟩
theorem HXs.below {w w' : World} {a : Option Addr} {len : Nat} (h : HXs w a len) (hb : Below w.heap.size w w') : HXs w' a len := by
  rcases h with h | ⟨b, off, ha, hl, h⟩
  · exact .inl h
  · exact .inr ⟨b, off, ha, Nat.lt_of_lt_of_le hl hb.size, fun j hj => by
      obtain ⟨q, h1, h2⟩ := h j hj
      exact ⟨q, h1.below hb, fun i v hv => bl_cell hb (p := ⟨b, off + j * 6 + i, none⟩) hl (h2 i v hv)⟩⟩
theorem HXs.at {w : World} {a : Option Addr} {len : Nat} (h : HXs w a len) {j : Nat} (hj : j < len) : ∃ b off q, a = some ⟨b, off, none⟩ ∧ b < w.heap.size ∧ HX.ok w q ∧ w.rangeAt b (off + j * 6) q.row := by
  rcases h with h | ⟨b, off, ha, hl, h⟩
  · omega
  · obtain ⟨q, h1, h2⟩ := h j hj
    exact ⟨b, off, q, ha, hl, h1, fun i v hv => h2 i v hv⟩
set_option maxRecDepth 100000 in
theorem hxs_open {H : Type} {enc : TypeId × Value → H} {w : World} {base : Nat} {spare : Nat → Bool} {held : Bool} {a : Option Addr} {len cap : Nat} {d : DataW H} {p : List MemPlace}
    (h : DataW.Trod enc Try.prog w base spare held 46 (.slice a len cap) d p) :
    len ≤ cap ∧ (∃ elems rest : List (DataW H), (d = .nil ∧ len = 0 ∧ cap = 0) ∨ (d = .slice elems rest ∧ elems.length = len)) ∧ HXs w a len := by
  obtain ⟨h1, h2, h3⟩ := open_rows (N := 6) (e := 25) Try.underlying46 (by kernel_rfl) (by omega) h
  refine ⟨h1, h2, ?_⟩
  rcases h3 with h3 | ⟨b, off, ha, hb, hr⟩
  · exact .inl h3
  · refine .inr ⟨b, off, ha, hb, fun j hj => ?_⟩
    obtain ⟨cs, m, y, hl, hc, hy⟩ := hr j hj
    obtain ⟨_, m2, hfs⟩ := trod_fields Try.underlying25 hy
    obtain ⟨y0, h0⟩ := hfs 0 _ rfl
    obtain ⟨y1, h1⟩ := hfs 1 _ rfl
    obtain ⟨y2, h2⟩ := hfs 2 _ rfl
    obtain ⟨y3, h3⟩ := hfs 3 _ rfl
    obtain ⟨y4, h4⟩ := hfs 4 _ rfl
    obtain ⟨y5, h5⟩ := hfs 5 _ rfl
    obtain ⟨s, hs, _, ws⟩ := DataW.trod_int Try.underlying3 h0
    obtain ⟨t, ht, _, wt⟩ := DataW.trod_int Try.underlying3 h1
    obtain ⟨f, hf', _, wf⟩ := DataW.trod_int Try.underlying3 h2
    obtain ⟨wd, hw, _, ww⟩ := DataW.trod_int Try.underlying3 h3
    obtain ⟨a', tl, tc, ks, hk, hle, hmx, hi⟩ := bytes_open h4
    obtain ⟨ph, hp, _⟩ := DataW.trod_bool Try.underlying4 h5
    have g0 := one_of_take (i := 0) hs
    have g1 := one_of_take (i := 1) ht
    have g2 := one_of_take (i := 2) hf'
    have g3 := one_of_take (i := 3) hw
    have g4 := one_of_take (i := 4) hk
    have g5 := one_of_take (i := 5) hp
    refine ⟨⟨s, t, f, wd, a', tl, tc, ks, ph⟩, ⟨bdI64 ws, bdI64 wt, bdI64 wf, bdI64 ww, hle, hmx, hi⟩, fun i v hv => ?_⟩
    have hi : i < 6 := by have := lt_of_get hv; simpa [HX.row] using this
    rw [hc i hi, ← hv]
    rcases (by omega : i = 0 ∨ i = 1 ∨ i = 2 ∨ i = 3 ∨ i = 4 ∨ i = 5) with rfl | rfl | rfl | rfl | rfl | rfl
    · exact g0
    · exact g1
    · exact g2
    · exact g3
    · exact g4
    · exact g5

/-- a packet of the row: its head, its number, its bytes; the token's slice. -/
structure El where
  h : Hd
  n : Int
  b : List Int
  a : Option Addr
  tc : Nat
def El.row (e : El) : List Value := e.h.row e.a e.tc
structure El.good (kk : Int → Int × Int) (F : List Int) (e : El) : Prop where
  pr : protM (kk e.h.s).1 (kk e.h.s).2 e.h e.n F = some e.b
  ok : e.h.ok
  n0 : 0 ≤ e.n
  n4 : e.n ≤ 4
  k : e.h.k.length ≤ 32
def catB (G : List El) : List Int := G.flatMap El.b
def catR (G : List El) : List Value := G.flatMap El.row
theorem catB_snoc (G : List El) (e : El) : catB (G ++ [e]) = catB G ++ e.b := by simp [catB]
theorem catR_snoc (G : List El) (e : El) : catR (G ++ [e]) = catR G ++ e.row := by simp [catR]
theorem El.good.rowlen {kk : Int → Int × Int} {F : List Int} {e : El} (h : e.good kk F) : e.row.length = 20 := row_len e.h e.a e.tc h.ok.lt h.ok.lf
theorem El.good.right {kk : Int → Int × Int} {F : List Int} {e : El} (h : e.good kk F) : hrightP e.h := (hrightM_eq e.h).1 (prot_cond h.pr).1.1
theorem El.good.len {kk : Int → Int × Int} {F : List Int} {e : El} (h : e.good kk F) (hF : F.length ≤ 64) : 1 ≤ e.b.length ∧ e.b.length ≤ 300 := by
  have h1 := prot_len h.pr
  have h2 := encH_le2 e.h h.ok h.k (e.h.w + F.length + 8)
  have h3 := h.right.2.1
  omega
theorem catR_len {kk : Int → Int × Int} {F : List Int} : ∀ {G : List El}, (∀ e ∈ G, e.good kk F) → (catR G).length = G.length * 20
  | [], _ => rfl
  | e :: G, h => by
    have h1 := (h e (by simp)).rowlen
    have h2 := catR_len (G := G) (fun x hx => h x (by simp [hx]))
    simp only [catR, List.flatMap_cons, List.length_append, List.length_cons] at h2 ⊢
    rw [h1, h2]; omega
theorem catB_len {kk : Int → Int × Int} {F : List Int} (hF : F.length ≤ 64) : ∀ {G : List El}, (∀ e ∈ G, e.good kk F) → G.length ≤ (catB G).length ∧ (catB G).length ≤ G.length * 300
  | [], _ => ⟨Nat.le_refl _, Nat.le_refl _⟩
  | e :: G, h => by
    have h1 := (h e (by simp)).len hF
    have h2 := catB_len hF (G := G) (fun x hx => h x (by simp [hx]))
    simp only [catB, List.flatMap_cons, List.length_append, List.length_cons] at h2 ⊢
    omega
theorem catB_drop {G : List El} {j : Nat} {e : El} (h : G[j]? = some e) : catB (G.drop j) = e.b ++ catB (G.drop (j + 1)) := by
  have hj := lt_of_get h
  have e1 : G.drop j = e :: G.drop (j + 1) := by
    rw [List.drop_eq_getElem_cons hj]
    rw [List.getElem?_eq_getElem hj] at h
    injection h with h
    rw [h]
  rw [e1]; simp [catB]
theorem catR_get {kk : Int → Int × Int} {F : List Int} : ∀ {G : List El} {j : Nat} {e : El}, (∀ e ∈ G, e.good kk F) → G[j]? = some e → ∀ (i : Nat) (v : Value), e.row[i]? = some v → (catR G)[j * 20 + i]? = some v
  | [], _, _, _, h, _, _, _ => by cases h
  | x :: G, 0, e, hg, h, i, v, hv => by
    injection h with h
    subst h
    have hi := lt_of_get hv
    simp only [catR, List.flatMap_cons]
    rw [List.getElem?_append_left (by omega), Nat.zero_mul, Nat.zero_add]
    exact hv
  | x :: G, j + 1, e, hg, h, i, v, hv => by
    have hl := (hg x (by simp)).rowlen
    simp only [catR, List.flatMap_cons]
    rw [List.getElem?_append_right (by omega), hl, show (j + 1) * 20 + i - 20 = j * 20 + i by omega]
    exact catR_get (G := G) (fun y hy => hg y (by simp [hy])) (by simpa using h) i v hv
theorem catB_wf {kk : Int → Int × Int} {F : List Int} (hFw : ∀ x ∈ F, (Lit.int .u8 x).wf = true) {G : List El} (h : ∀ e ∈ G, e.good kk F) : ∀ x ∈ catB G, (Lit.int .u8 x).wf = true := by
  intro x hx
  obtain ⟨e, he, hx⟩ := List.mem_flatMap.1 hx
  exact protM_wf (h e he).pr (h e he).ok hFw x hx
theorem catR_one {kk : Int → Int × Int} {F : List Int} {G : List El} (h : ∀ e ∈ G, e.good kk F) : ∀ v ∈ catR G, v.oneCell' = true := by
  intro v hv
  obtain ⟨e, _, hv⟩ := List.mem_flatMap.1 hv
  exact row_one e.h e.a e.tc v hv
theorem own_ne {w : World} {B B2 e e2 s s2 n n2 : Nat} {v v2 : Value} {xs xs2 : List Value} (h1 : w.ownsRow B e s v n xs) (h2 : w.ownsRow B2 e2 s2 v2 n2 xs2) (hne : e ≠ e2) : v.ownBlock = none ∨ v.ownBlock ≠ v2.ownBlock := by
  rcases h1.2 with ⟨rfl, _⟩ | ⟨g, cap, cur, rfl, _, hg, _⟩
  · exact .inl rfl
  · refine .inr fun he => ?_
    rcases h2.2 with ⟨rfl, _⟩ | ⟨g2, cap2, cur2, rfl, _, hg2, _⟩
    · simp [Value.ownBlock] at he
    · simp only [Value.ownBlock, Option.some.injEq] at he
      subst he
      rw [hg] at hg2
      injection hg2 with hg2
      injection hg2 with _ ht
      exact hne ht
theorem own_row_ne {w : World} {B e s n g : Nat} {t : TypeId} {v : Value} {xs : List Value} {cs : Array Value} {fr : Nat × Nat} (h1 : w.ownsRow B e s v n xs) (h2 : w.heap[g]? = some (.cells cs t fr)) (hne : e ≠ t) : some g ≠ v.ownBlock := by
  intro he
  rcases h1.2 with ⟨rfl, _⟩ | ⟨g2, cap2, cur2, rfl, _, hg2, _⟩
  · simp [Value.ownBlock] at he
  · simp only [Value.ownBlock, Option.some.injEq] at he
    subst he
    rw [h2] at hg2
    injection hg2 with hg2
    injection hg2 with _ ht
    exact hne ht.symm
theorem own_at {w : World} {B e s : Nat} {a : Option Addr} {n l cap : Nat} {xs : List Value} (h : w.ownsRow B e s (.slice a l cap) n xs) : l = n ∧ n ≤ cap ∧ cap ≤ maxLen ∧ ((a = none ∧ n = 0) ∨ ∃ b, a = some ⟨b, 0, none⟩ ∧ B ≤ b ∧ b < w.heap.size ∧ ∀ j v, xs[j]? = some v → w.cell? ⟨b, j, none⟩ = some v) := by
  rcases h.2 with ⟨h1, h2⟩ | ⟨g, cap', cur, h1, hg, hrow, hn, hc, hsz, htk⟩
  · injection h1 with e1 e2 e3
    exact ⟨by omega, by omega, by rw [e3]; unfold maxLen; omega, .inl ⟨e1, h2⟩⟩
  · injection h1 with e1 e2 e3
    subst e3
    refine ⟨e2, hn, hc, .inr ⟨g, e1, hg, lt_of_block hrow, fun j v hv => ?_⟩⟩
    rw [cell_of_row _ _ _ _ _ _ hrow]
    have hj := lt_of_get hv
    rw [← htk, List.getElem?_take] at hv
    split at hv
    · simpa using hv
    · cases hv
set_option maxRecDepth 100000 in
theorem infoHead : (Try.prog.info? 32).map (fun i => (i.zero, i.size, i.bytes)) = some (some (.agg rowZ.toArray), 20, 64) := by kernel_rfl
section
variable {ops : Array Oper} {rest : List Oper} {o : Oper} {a : Act} {w : World} {Q : Exit → Act → World → Prop}
/-- a slice literal of one head. -/
theorem wpList_build_head (hgd : o.guard = none) (x : Operand) (ho : o.op = .buildSlice 47 1 #[(0, x)]) (C : List Value) (hx : a.eval x = .agg C.toArray) (hl : C.length = 20)
    (h : wpList Try.prog ops Q rest (a.put o.dst (.slice (some ⟨w.heap.size, 0, none⟩) 1 1)) (w.alloc (.cells C.toArray 32))) : wpList Try.prog ops Q (o :: rest) a w := by
  refine wpList_plain hgd fun K hK => ?_
  obtain ⟨i0, hi, hz0, hz1, hz2⟩ := info_parts infoHead
  refine wp_buildSlice 47 32 1 _ ho C.toArray i0 _ Try.underlying47 hi hz0 (by rw [hz1]; decide) (by rw [hz1]; decide) ?_ (hK _ _ h)
  rw [hz1]
  have hf := Great.fill_whole (s := 20) (by omega) [.agg C.toArray] ((Array.range (1 * 20)).map fun x => (Value.agg rowZ.toArray).cells[x % (Value.agg rowZ.toArray).cells.size]!) (by simp [Value.cells, hl]) (by simp)
  simp only [List.map_toArray, List.map_cons, List.map_nil, hx]
  simpa [Value.cells] using hf
theorem wpList_app_head (hgd : o.guard = none) (s x : Operand) (ho : o.op = .call { callee := .builtin .append, args := #[s, x], argTypes := #[47, 47] })
    (B n : Nat) (v : Value) (xs : List Value) (hs : a.eval s = v) (hown : w.ownsRow B 32 20 v n xs) (g c : Nat) (C : List Value) (hx : a.eval x = .slice (some ⟨g, 0, none⟩) 1 c) (hr : w.heap[g]? = some (.cells C.toArray 32 (0, 0))) (hl : C.length = 20) (h1 : ∀ v ∈ C, v.oneCell' = true)
    (hb : n ≤ 1000) (hB : B ≤ w.heap.size)
    (h : ∀ v' w', w'.ownsRow B 32 20 v' (n + 1) (xs ++ C) → w.grownBy w' v.ownBlock → wpList Try.prog ops Q rest (a.put o.dst v') w') : wpList Try.prog ops Q (o :: rest) a w := by
  obtain ⟨i0, hi, hz0, hz1, hz2⟩ := info_parts infoHead
  exact wpList_append_own w hgd s x 47 ho B 32 i0 _ 20 64 Try.underlying47 hi hz0 hz1 hz2 rfl (by omega) v n xs hs hown ⟨g, 0, none⟩ 1 c C hx (by rw [hl]) (fun j u hu => by
    have e : ((⟨g, 0, none⟩ : Addr).add j) = ⟨g, j, none⟩ := by unfold Addr.add; split <;> simp_all
    rw [e]; exact row_cell hr j u (by simpa using hu)) h1 (by unfold maxLen; omega) (by omega) hB fun v' w' h2 h3 _ => h v' w' h2 h3
end
/-- a small number is told whole where nothing was seen. -/
theorem whole_small {n : Int} {k : Int} (h0 : 0 ≤ n) (h4 : n ≤ 4) (hk : k = 1 ∨ k = 2 ∨ k = 3 ∨ k = 4) : wholeM 0 (cutM n k) (powW k) = n := by
  unfold wholeM cutM
  have hp : powW k = 256 ∨ powW k = 65536 ∨ powW k = 16777216 ∨ powW k = 4294967296 := by
    rcases hk with rfl | rfl | rfl | rfl <;> simp [powW]
  rcases hp with hp | hp | hp | hp <;> rw [hp] <;> (repeat' split) <;> omega
/-- what was protected is unprotected by whoever has seen nothing. -/
theorem unp_small {ks km n : Int} {h : Hd} {pl b : List Int} (Z : List Int) (hp : protM ks km h n pl = some b) (hok : h.ok) (hpl : ∀ x ∈ pl, (Lit.int .u8 x).wf = true) (hz : h.s ≠ 2 ∨ Z = []) (hn0 : 0 ≤ n) (hn4 : n ≤ 4) :
    unpM ks km (b ++ Z) 0 false = (h, n, pl, 0) := by
  obtain ⟨⟨c1, c2, c3, c4⟩, hb⟩ := prot_cond hp
  have hr := (hrightM_eq h).1 c1
  obtain ⟨k, hk⟩ : ∃ k : Nat, (k : Int) = h.w + pl.length + 8 := ⟨(h.w + pl.length + 8).toNat, by have := hr.1; omega⟩
  rw [hb, ← hk]
  exact unp_prot ks km h n pl Z hok hr k hk (by omega) (by omega) hpl hz 0 false (by show wholeM 0 _ _ = n; exact whole_small hn0 hn4 (wM_in hr))
end Go.Proofs.Ythofbckkjcidmaa
namespace Go.Proofs.Ythofbckkjcidmaa
open Go.RowKit
set_option linter.unusedVariables false
set_option linter.unusedSimpArgs false

set_option maxRecDepth 100000 in
set_option maxHeartbeats 4000000 in
theorem row_r8 {x0 x2 x3 x4 x5 x6 x7 x8 x11 x12 x13 x14 x15 x16 x17 x18 x19 x20 x21 x22 x23 x24 x25 x26 x27 x28 x29 x30 x31 x32 x33 x34 x35 x36 x37 x38 x39 x40 x41 x42 x43 x44 x45 x46 x47 x48 x49 x50 x51 x52 x53 x54 x55 x56 x57 x58 x59 x60 x61 x62 x63 x64 x65 x66 x67 x68 x69 x70 x71 x72 x73 x74 x75 x76 x77 x78 x79 x80 x81 x82 x83 x84 x85 x86 x87 x88 x89 x90 x91 x92 x93 x94 x95 x96 x97 x98 x99 x100 x101 x102 x103 x104 x105 x106 x107 x108 x109 x110 x111 x112 x113 x114 x115 x116 x117 x118 x119 x120 x121 x122 x123 x124 x125 x126 x127 x128 x129 x130 x131 x132 x133 x134 x135 x136 x137 x138 x139 x140 x141 x142 x143 x144 x145 x146 x147 x148 x149 x150 x151 x152 x153 x154 x155 x156 x157 x158 x159 x160 x161 x162 x163 x164 x165 x166 x167 x168 x169 x170 x171 x172 x173 x174 x175 x176 : Value} {la : Option Addr} {L lc i gh : Nat} {s : Int} {c : Bool} (w : World) {Q : Exit → Act → World → Prop}
    (hi : i < L) (hi5 : i < 5) (HC0 : Hid (w.cell? ⟨gh, 0, none⟩ = some (.int .i64 s))) (hc : (c = true ∧ s = 2 ∧ i + 1 < L ∧ i < 4) ∨ (c = false ∧ ¬ (s = 2 ∧ i + 1 < L ∧ i < 4)))
    (hQp : ∀ c a d v w, Q (.panic c) (a.put d v) w → Q (.panic c) a w)
    (hQ : ∀ (y43 y44 y45 y46 y47 y48 y49 y50 y51 y52 y53 y54 y55 : Value) (w' : World), w' = w → Q .normal ⟨List.toArray (x0 :: .slice la L lc :: x2 :: x3 :: x4 :: x5 :: x6 :: x7 :: x8 :: .int .i64 i :: .pointer (some ⟨gh, 0, none⟩) :: x11 :: x12 :: x13 :: x14 :: x15 :: x16 :: x17 :: x18 :: x19 :: x20 :: x21 :: x22 :: x23 :: x24 :: x25 :: x26 :: x27 :: x28 :: x29 :: x30 :: x31 :: x32 :: x33 :: x34 :: x35 :: x36 :: x37 :: x38 :: x39 :: x40 :: x41 :: x42 :: y43 :: y44 :: y45 :: y46 :: y47 :: y48 :: y49 :: y50 :: y51 :: y52 :: y53 :: y54 :: y55 :: .bool c :: x57 :: x58 :: x59 :: x60 :: x61 :: x62 :: x63 :: x64 :: x65 :: x66 :: x67 :: x68 :: x69 :: x70 :: x71 :: x72 :: x73 :: x74 :: x75 :: x76 :: x77 :: x78 :: x79 :: x80 :: x81 :: x82 :: x83 :: x84 :: x85 :: x86 :: x87 :: x88 :: x89 :: x90 :: x91 :: x92 :: x93 :: x94 :: x95 :: x96 :: x97 :: x98 :: x99 :: x100 :: x101 :: x102 :: x103 :: x104 :: x105 :: x106 :: x107 :: x108 :: x109 :: x110 :: x111 :: x112 :: x113 :: x114 :: x115 :: x116 :: x117 :: x118 :: x119 :: x120 :: x121 :: x122 :: x123 :: x124 :: x125 :: x126 :: x127 :: x128 :: x129 :: x130 :: x131 :: x132 :: x133 :: x134 :: x135 :: x136 :: x137 :: x138 :: x139 :: x140 :: x141 :: x142 :: x143 :: x144 :: x145 :: x146 :: x147 :: x148 :: x149 :: x150 :: x151 :: x152 :: x153 :: x154 :: x155 :: x156 :: x157 :: x158 :: x159 :: x160 :: x161 :: x162 :: x163 :: x164 :: x165 :: x166 :: x167 :: x168 :: x169 :: x170 :: x171 :: x172 :: x173 :: x174 :: x175 :: x176 :: []), []⟩ w') :
    Code.wp Try.prog (((Try.f4.body.bind (subRegion 8)).getD .skip)) Q ⟨List.toArray (x0 :: .slice la L lc :: x2 :: x3 :: x4 :: x5 :: x6 :: x7 :: x8 :: .int .i64 i :: .pointer (some ⟨gh, 0, none⟩) :: x11 :: x12 :: x13 :: x14 :: x15 :: x16 :: x17 :: x18 :: x19 :: x20 :: x21 :: x22 :: x23 :: x24 :: x25 :: x26 :: x27 :: x28 :: x29 :: x30 :: x31 :: x32 :: x33 :: x34 :: x35 :: x36 :: x37 :: x38 :: x39 :: x40 :: x41 :: x42 :: x43 :: x44 :: x45 :: x46 :: x47 :: x48 :: x49 :: x50 :: x51 :: x52 :: x53 :: x54 :: x55 :: x56 :: x57 :: x58 :: x59 :: x60 :: x61 :: x62 :: x63 :: x64 :: x65 :: x66 :: x67 :: x68 :: x69 :: x70 :: x71 :: x72 :: x73 :: x74 :: x75 :: x76 :: x77 :: x78 :: x79 :: x80 :: x81 :: x82 :: x83 :: x84 :: x85 :: x86 :: x87 :: x88 :: x89 :: x90 :: x91 :: x92 :: x93 :: x94 :: x95 :: x96 :: x97 :: x98 :: x99 :: x100 :: x101 :: x102 :: x103 :: x104 :: x105 :: x106 :: x107 :: x108 :: x109 :: x110 :: x111 :: x112 :: x113 :: x114 :: x115 :: x116 :: x117 :: x118 :: x119 :: x120 :: x121 :: x122 :: x123 :: x124 :: x125 :: x126 :: x127 :: x128 :: x129 :: x130 :: x131 :: x132 :: x133 :: x134 :: x135 :: x136 :: x137 :: x138 :: x139 :: x140 :: x141 :: x142 :: x143 :: x144 :: x145 :: x146 :: x147 :: x148 :: x149 :: x150 :: x151 :: x152 :: x153 :: x154 :: x155 :: x156 :: x157 :: x158 :: x159 :: x160 :: x161 :: x162 :: x163 :: x164 :: x165 :: x166 :: x167 :: x168 :: x169 :: x170 :: x171 :: x172 :: x173 :: x174 :: x175 :: x176 :: []), []⟩ w := by
  have HK := Lib.hid hQ; have HKP := Lib.hid hQp
  clear hQ hQp
  conv => arg 2; whnf
  have c0 := HC0.out
  rcases hc with ⟨rfl, rfl, h1, h4⟩ | ⟨rfl, hn⟩
  · have e4 : decide ((i : Int) < 4) = true := decide_eq_true (by omega)
    go_wp2_with fail
    exact HK.out _ _ _ _ _ _ _ _ _ _ _ _ _ _ rfl
  · by_cases hs : s = 2
    · subst hs
      by_cases h1 : i + 1 < L
      · have h4 : ¬ i < 4 := fun h => hn ⟨rfl, h1, h⟩
        have e4 : decide ((i : Int) < 4) = false := decide_eq_false (by omega)
        go_wp2_with fail
        exact HK.out _ _ _ _ _ _ _ _ _ _ _ _ _ _ rfl
      · go_wp2_with fail
        exact HK.out _ _ _ _ _ _ _ _ _ _ _ _ _ _ rfl
    · have e0 : (s == 2) = false := by simpa using hs
      go_wp2_with fail
      exact HK.out _ _ _ _ _ _ _ _ _ _ _ _ _ _ rfl
set_option maxRecDepth 100000 in
set_option maxHeartbeats 16000000 in
theorem row_round {x3 x4 x5 x6 x10 x11 x12 x13 x14 x15 x16 x17 x18 x19 x20 x21 x22 x23 x24 x25 x26 x27 x28 x29 x30 x31 x32 x33 x34 x35 x36 x37 x38 x39 x40 x41 x42 x43 x44 x45 x46 x47 x48 x49 x50 x51 x52 x53 x54 x55 x56 x57 x58 x59 x60 x61 x62 x63 x64 x65 x66 x67 x68 x69 x70 x71 x72 x73 x74 x75 x76 x77 x78 x79 x80 x81 x82 x83 x84 x85 x86 x87 x88 x89 x90 x91 x92 x93 x94 x95 x96 x97 x98 x99 x100 x101 x102 x103 x104 x105 x106 x107 x108 x109 x110 x111 x112 x113 x114 x115 x116 x117 x118 x119 x120 x121 x122 x123 x124 x125 x126 x127 x128 x129 x130 x131 x132 x133 x134 x135 x136 x137 x138 x139 x140 x141 x142 x143 x144 x145 x146 x147 x148 x149 x150 x151 x152 x153 x154 x155 x156 x157 x158 x159 x160 x161 x162 x163 x164 x165 x166 x167 x168 x169 x170 x171 x172 x173 x174 x175 x176 : Value} {w : World} {secret : Int} {la fa aa ha : Option Addr} {L lc fl fc ac hc i : Nat} {F : List Int} {G : List El} {kk : Int → Int × Int} {K : Int → List Value} (wc : World) {Q : Exit → Act → World → Prop}
    (hi : i < L) (hi5 : i < 5) (hfl : fl ≤ 64) (HFL : Hid (F.length = fl)) (HGL : Hid (G.length ≤ i)) (HB : Hid (Below w.heap.size w wc)) (HXS : Hid (HXs w la L)) (HF : Hid (IntsK .u8 w fa fl F)) (HOA : Hid (wc.ownsRow w.heap.size 5 1 (.slice aa (catB G).length ac) (catB G).length ((catB G).map (Value.int .u8)))) (HOH : Hid (wc.ownsRow w.heap.size 32 20 (.slice ha G.length hc) G.length (catR G))) (HG : Hid (∀ e ∈ G, e.good kk F)) (HN : Hid (∀ e ∈ G, e.h.s ≠ 2)) (HOF : Hid (∀ s : Int, 0 ≤ s → s ≤ 2 → ∀ W, Makes Try.prog 7 #[.int .u64 (IntKind.wrap .u64 (secret + s))] W (.agg (K s).toArray))) (HPR : Hid (∀ W x cp (h : Hd) a tc (n : Int), h.ok → hrightM h = true → h.k.length ≤ 32 → 0 ≤ n → n ≤ 4 → IntsK .u8 W a h.k.length h.k → IntsK .u8 W x fl F → Calls Try.prog 11 #[.agg (K h.s).toArray, .agg (h.row a tc).toArray, .int .u64 n, .slice x fl cp] W fun e w' => Below W.heap.size W w' ∧ ∃ y c b, e = .returned (.tuple #[.slice y b.length c, .int .i64 0]) ∧ IntsK .u8 w' y b.length b ∧ El.good kk F ⟨h, n, b, a, tc⟩))
    (hQp : ∀ c a d v w, Q (.panic c) (a.put d v) w → Q (.panic c) a w)
    (hQ : ∀ (y6 y10 y11 y12 y38 y39 y40 y41 y42 y43 y44 y45 y46 y47 y48 y49 y50 y51 y52 y53 y54 y55 y56 y57 y58 y59 y60 y61 y62 y63 y64 y65 y66 y67 y68 y69 y70 y71 y72 y73 y74 y75 y76 y77 y78 y79 : Value) (G' : List El) (aa' ha' : Option Addr) (ac' hc' : Nat) (w' : World), Hid (Below w.heap.size w w') → Hid (w'.ownsRow w.heap.size 5 1 (.slice aa' (catB G').length ac') (catB G').length ((catB G').map (Value.int .u8))) → Hid (w'.ownsRow w.heap.size 32 20 (.slice ha' G'.length hc') G'.length (catR G')) → Hid (∀ e ∈ G', e.good kk F) → Hid (G'.length ≤ i + 1) → Hid ((∀ e ∈ G', e.h.s ≠ 2) ∨ (¬ (i + 1 < L ∧ i + 1 < 5) ∧ ∀ e ∈ G'.dropLast, e.h.s ≠ 2)) → Q .normal ⟨List.toArray (.int .u64 secret :: .slice la L lc :: .slice fa fl fc :: x3 :: x4 :: x5 :: y6 :: .slice aa' (catB G').length ac' :: .slice ha' G'.length hc' :: .int .i64 i :: y10 :: y11 :: y12 :: x13 :: x14 :: x15 :: x16 :: x17 :: x18 :: x19 :: x20 :: x21 :: x22 :: x23 :: x24 :: x25 :: x26 :: x27 :: x28 :: x29 :: x30 :: x31 :: x32 :: x33 :: x34 :: x35 :: x36 :: x37 :: y38 :: y39 :: y40 :: y41 :: y42 :: y43 :: y44 :: y45 :: y46 :: y47 :: y48 :: y49 :: y50 :: y51 :: y52 :: y53 :: y54 :: y55 :: y56 :: y57 :: y58 :: y59 :: y60 :: y61 :: y62 :: y63 :: y64 :: y65 :: y66 :: y67 :: y68 :: y69 :: y70 :: y71 :: y72 :: y73 :: y74 :: y75 :: y76 :: y77 :: y78 :: y79 :: x80 :: x81 :: x82 :: x83 :: x84 :: x85 :: x86 :: x87 :: x88 :: x89 :: x90 :: x91 :: x92 :: x93 :: x94 :: x95 :: x96 :: x97 :: x98 :: x99 :: x100 :: x101 :: x102 :: x103 :: x104 :: x105 :: x106 :: x107 :: x108 :: x109 :: x110 :: x111 :: x112 :: x113 :: x114 :: x115 :: x116 :: x117 :: x118 :: x119 :: x120 :: x121 :: x122 :: x123 :: x124 :: x125 :: x126 :: x127 :: x128 :: x129 :: x130 :: x131 :: x132 :: x133 :: x134 :: x135 :: x136 :: x137 :: x138 :: x139 :: x140 :: x141 :: x142 :: x143 :: x144 :: x145 :: x146 :: x147 :: x148 :: x149 :: x150 :: x151 :: x152 :: x153 :: x154 :: x155 :: x156 :: x157 :: x158 :: x159 :: x160 :: x161 :: x162 :: x163 :: x164 :: x165 :: x166 :: x167 :: x168 :: x169 :: x170 :: x171 :: x172 :: x173 :: x174 :: x175 :: x176 :: []), []⟩ w') :
    Code.wp Try.prog (((Try.f4.body.bind (subBlock 1)).getD .skip)) Q ⟨List.toArray (.int .u64 secret :: .slice la L lc :: .slice fa fl fc :: x3 :: x4 :: x5 :: x6 :: .slice aa (catB G).length ac :: .slice ha G.length hc :: .int .i64 i :: x10 :: x11 :: x12 :: x13 :: x14 :: x15 :: x16 :: x17 :: x18 :: x19 :: x20 :: x21 :: x22 :: x23 :: x24 :: x25 :: x26 :: x27 :: x28 :: x29 :: x30 :: x31 :: x32 :: x33 :: x34 :: x35 :: x36 :: x37 :: x38 :: x39 :: x40 :: x41 :: x42 :: x43 :: x44 :: x45 :: x46 :: x47 :: x48 :: x49 :: x50 :: x51 :: x52 :: x53 :: x54 :: x55 :: x56 :: x57 :: x58 :: x59 :: x60 :: x61 :: x62 :: x63 :: x64 :: x65 :: x66 :: x67 :: x68 :: x69 :: x70 :: x71 :: x72 :: x73 :: x74 :: x75 :: x76 :: x77 :: x78 :: x79 :: x80 :: x81 :: x82 :: x83 :: x84 :: x85 :: x86 :: x87 :: x88 :: x89 :: x90 :: x91 :: x92 :: x93 :: x94 :: x95 :: x96 :: x97 :: x98 :: x99 :: x100 :: x101 :: x102 :: x103 :: x104 :: x105 :: x106 :: x107 :: x108 :: x109 :: x110 :: x111 :: x112 :: x113 :: x114 :: x115 :: x116 :: x117 :: x118 :: x119 :: x120 :: x121 :: x122 :: x123 :: x124 :: x125 :: x126 :: x127 :: x128 :: x129 :: x130 :: x131 :: x132 :: x133 :: x134 :: x135 :: x136 :: x137 :: x138 :: x139 :: x140 :: x141 :: x142 :: x143 :: x144 :: x145 :: x146 :: x147 :: x148 :: x149 :: x150 :: x151 :: x152 :: x153 :: x154 :: x155 :: x156 :: x157 :: x158 :: x159 :: x160 :: x161 :: x162 :: x163 :: x164 :: x165 :: x166 :: x167 :: x168 :: x169 :: x170 :: x171 :: x172 :: x173 :: x174 :: x175 :: x176 :: []), []⟩ wc := by
  have HK := Lib.hid hQ; have HKP := Lib.hid hQp
  clear hQ hQp
  conv => arg 2; whnf
  obtain ⟨lb, lo, q, rfl, hlb, hq, hrq⟩ := HXS.out.at hi
  have hrw : wc.rangeAt lb (lo + i * 6) q.row := fun j v hv => bl_cell (p := ⟨lb, lo + i * 6 + j, none⟩) HB.out hlb (hrq j v hv)
  have HRW := Lib.hid hrw; have HQL : Hid (q.row.length = 6) := Lib.hid rfl
  have hqc := hq.below HB.out
  have hok := keepH_ok q.s q.t q.f q.w q.k q.p hq.ints.2.1
  have hri := keepH_right q.s q.t q.f q.w q.k q.p
  have hkl := keepH_k q.s q.t q.f q.w q.k q.p
  have hki := keep_ints q.s q.t q.f q.w q.p hq.ints
  have hkh : Calls Try.prog 8 #[.agg q.row.toArray] wc _ := khead0_any wc q.s q.t q.f q.w q.a q.tl q.tc q.k q.p hqc.le hqc.max hqc.ints hqc.bs hqc.bt hqc.bf hqc.bw
  have hs2 := within_in q.s 0 2 (by omega)
  have hsv : (keepH q.s q.t q.f q.w q.k q.p).s = within q.s 0 2 := by unfold keepH; split <;> (try split) <;> simp <;> omega
  rw [← hsv] at hs2
  clear hsv
  generalize keepH q.s q.t q.f q.w q.k q.p = h at hok hri hkl hki hkh hs2
  generalize (if h.s = 0 then q.a else none) = ta at hki hkh
  generalize (if h.s = 0 then q.tc else 0) = tc at hkh
  have HKI := Lib.hid hki; have HOK := Lib.hid hok; have HRI := Lib.hid hri; have HKK := Lib.hid hkl; have HKH := Lib.hid hkh
  generalize q.row = X at HRW HQL HKH
  clear hki hok hri hkl hkh hqc hq hrq hrw hlb
  go_wp2_with (first | (refine wpList_load_mid rfl 25 _ rfl lb (lo + i * 6) rfl X _ HRW.out Try.underlying25 rfl (by rw [HQL.out]; rfl) ?_) | fail)
  refine Calls.mono (HKH.out) ?_
  rintro e w1 ⟨rfl, hb⟩
  replace HB := Lib.hid (bl_next HB.out HB.out.size hb)
  replace HOA := Lib.hid (own_below HOA.out hb)
  replace HOH := Lib.hid (own_below HOH.out hb)
  clear hb HKH HRW HQL
  have HRL := Lib.hid (row_len h ta tc HOK.out.lt HOK.out.lf)
  have HRO : Hid (∀ v ∈ h.row ta tc, v.oneCell' = true) := Lib.hid (row_one h ta tc)
  have HVAL : Hid (h.val ta tc = .agg (h.row ta tc).toArray) := Lib.hid rfl
  have HR0 : Hid ((h.row ta tc)[0]? = some (.int .i64 h.s)) := Lib.hid rfl
  rw [HVAL.out]
  have HPR1 := Lib.hid (fun W x cp => HPR.out W x cp h ta tc i HOK.out HRI.out HKK.out (by omega) (by omega))
  have HRE : Hid (h.row ta tc = (⟨h, i, [], ta, tc⟩ : El).row) := Lib.hid rfl
  obtain ⟨R, hR⟩ : ∃ R, h.row ta tc = R := ⟨_, rfl⟩
  rw [hR] at HRL HRO HR0 HPR1 HRE ⊢
  clear hR HVAL HPR
  go_upto_region 8 with (first | (refine wpList_store_row rfl 32 _ _ rfl _ rfl R (.int .i64 0 :: .int .u8 0 :: .int .u8 0 :: .int .u8 0 :: .int .u8 0 :: .int .u8 0 :: .int .u8 0 :: .int .u8 0 :: .int .u8 0 :: .int .u8 0 :: .int .u8 0 :: .int .u8 0 :: .int .u8 0 :: .int .u8 0 :: .int .u8 0 :: .int .u8 0 :: .int .u8 0 :: .slice none 0 0 :: .int .i64 0 :: .bool false :: []) rfl 32 (heap_alloc_new _ _) (by rw [HRL.out]; rfl) (by rw [HRL.out]; rfl) HRO.out ?_; intro w2 hr hg) | fail)
  have hal := (Below.refl w1.heap.size w1).alloc (Nat.le_refl _) (.cells ((.int .i64 0 :: .int .u8 0 :: .int .u8 0 :: .int .u8 0 :: .int .u8 0 :: .int .u8 0 :: .int .u8 0 :: .int .u8 0 :: .int .u8 0 :: .int .u8 0 :: .int .u8 0 :: .int .u8 0 :: .int .u8 0 :: .int .u8 0 :: .int .u8 0 :: .int .u8 0 :: .int .u8 0 :: .slice none 0 0 :: .int .i64 0 :: .bool false :: [])).toArray 32)
  have hb : Below w1.heap.size w1 w2 := hal.grown hg hal.size (by intro k hk; injection hk with hk; omega)
  replace HB := Lib.hid (bl_next HB.out HB.out.size hb)
  replace HOA := Lib.hid (own_below HOA.out hb)
  replace HOH := Lib.hid (own_below HOH.out hb)
  have HGH := Lib.hid (hr)
  clear hr hg hal hb
  obtain ⟨gh, hg⟩ : ∃ g, w1.heap.size = g := ⟨_, rfl⟩
  rw [hg] at HGH ⊢
  clear hg
  by_cases hskip : h.s = 2 ∧ i + 1 < L ∧ i < 4
  · refine row_r8 _ hi hi5 (Lib.hid (cell_row HGH.out 0 _ HR0.out)) (.inl ⟨rfl, hskip⟩) (fun c a d v w h => by first | (cases d <;> exact h) | exact HKP.out c a d v w h) ?_
    rintro _ _ _ _ _ _ _ _ _ _ _ _ _ w8 rfl
    go_wp2_with fail
    exact HK.out _ _ _ _ _ _ _ _ _ _ _ _ _ _ _ _ _ _ _ _ _ _ _ _ _ _ _ _ _ _ _ _ _ _ _ _ _ _ _ _ _ _ _ _ _ _ G _ _ _ _ _ HB HOA HOH HG (Lib.hid (by have := HGL.out; omega)) (Lib.hid (.inl HN.out))
  · refine row_r8 _ hi hi5 (Lib.hid (cell_row HGH.out 0 _ HR0.out)) (.inr ⟨rfl, hskip⟩) (fun c a d v w h => by first | (cases d <;> exact h) | exact HKP.out c a d v w h) ?_
    rintro _ _ _ _ _ _ _ _ _ _ _ _ _ w8 rfl
    obtain ⟨sp, hsp⟩ : ∃ s, h.s = s := ⟨_, rfl⟩
    rw [hsp] at hs2 hskip HR0 HPR1
    have HSP := Lib.hid hsp
    clear hsp
    go_upto_region 9 with fail
    have f0 : ∀ t : In (fun y => Below w8.heap.size w8 y), t.w.cell? ⟨gh, 0, none⟩ = some (.int .i64 sp) := fun t => cell_row (bl_row t.h (lt_of_block HGH.out) HGH.out) 0 _ HR0.out
    refine wp_plan (.t 0 (.t 1 (.t 2 (.t 3 (.t 4 (.t 6 (.t 7 (.t 8 (.t 9 (.u 5 (.u 10 (.t 11 (.t 12 (.t 13 (.t 14 (.t 15 .done)))))))))))))))) (fun y => Below w8.heap.size w8 y) (by kernel_rfl) (by kernel_rfl) (by kernel_rfl) (fun c a d v w h => by first | (cases d <;> exact h) | exact HKP.out c a d v w h) (Below.refl _ _).drew ?_
    have hS : Below w8.heap.size w8 w8.drew := (Below.refl _ _).drew
    generalize w8.drew = W0 at hS ⊢
    haveI hne2 : Nonempty (In (fun y => Below w8.heap.size w8 y)) := ⟨⟨w8, Below.refl _ _⟩⟩
    repeat (first | (refine plan_t_load (by rfl) (by kernel_rfl) 32 _ rfl gh 0 rfl R _ (fun y hy => rngL (bl_row hy (lt_of_block HGH.out) HGH.out)) Try.underlying32 rfl (by rw [HRL.out]; rfl) ?_; simp only [Act.put, List.setIfInBounds_toArray, List.set_cons_succ, List.set_cons_zero]) | (refine plan_t (by rfl) ?_; (first | go_big_quiet_skip | (go_big_quiet_want; go_big_quiet_op; go_big_quiet_on)); refine wpQuiet_nil ?_))
    refine plan_us (by rfl) (by kernel_rfl) ?_
    intro K hK
    go_wp2_with fail
    refine Calls.mono (HOF.out sp hs2.1 hs2.2 _) ?_
    rintro e w3 ⟨rfl, hb⟩
    replace hS := bl_next hS hS.size hb
    clear hb
    go_wp2_with fail
    refine ⟨hS, ?_⟩
    refine plan_us (by rfl) (by kernel_rfl) ?_
    intro K hK
    go_wp2_with fail
    refine Calls.mono (HPR1.out _ _ _ (HKI.out.below (bl_next HB.out HB.out.size hS)) (HF.out.below (bl_next HB.out HB.out.size hS))) ?_
    rintro e w4 ⟨hb, y, yc, b, rfl, hib, hgood⟩
    replace hS := bl_next hS hS.size hb
    clear hb
    go_wp2_with fail
    refine ⟨hS, ?_⟩
    repeat (first | (refine plan_t_load (by rfl) (by kernel_rfl) 32 _ rfl gh 0 rfl R _ (fun y hy => rngL (bl_row hy (lt_of_block HGH.out) HGH.out)) Try.underlying32 rfl (by rw [HRL.out]; rfl) ?_; simp only [Act.put, List.setIfInBounds_toArray, List.set_cons_succ, List.set_cons_zero]) | (refine plan_t (by rfl) ?_; (first | go_big_quiet_skip | (go_big_quiet_want; go_big_quiet_op; go_big_quiet_on)); refine wpQuiet_nil ?_))
    clear hne2 f0
    show Exit.then _ _ _ _ _
    replace HB := Lib.hid (bl_next HB.out HB.out.size hS)
    replace HOA := Lib.hid (own_below HOA.out hS)
    replace HOH := Lib.hid (own_below HOH.out hS)
    replace HGH := Lib.hid (bl_row hS (lt_of_block HGH.out) HGH.out)
    have HIB := Lib.hid hib; have HGD := Lib.hid hgood
    clear hib hgood hS HPR1 HOF HXS HKI HR0
    have HFL2 := HFL.out
    have HCL : Hid ((catB G).length ≤ 1500) := Lib.hid (by have h := (catB_len (by rw [HFL2]; exact hfl) HG.out).2; have := HGL.out; omega)
    have HBL := Lib.hid (HGD.out.len (by rw [HFL2]; exact hfl)).2
    obtain ⟨E, hE⟩ : ∃ E : El, E = ⟨h, (i : Int), b, ta, tc⟩ := ⟨_, rfl⟩
    rw [← hE] at HGD HBL
    have HEB : Hid (b = E.b) := Lib.hid (by rw [hE])
    have HER : Hid (R = E.row) := Lib.hid (by rw [hE]; exact HRE.out)
    have HES : Hid (E.h.s = sp) := Lib.hid (by rw [hE]; exact HSP.out)
    clear hE HRE HFL2
    rw [HEB.out] at HIB ⊢
    clear HEB
    go_upto_region 13 with (first | (at_builtin; refine wpList_append_bytes_at rfl _ _ rfl w.heap.size (catB G).length _ (catB G) rfl HOA.out y E.b.length yc E.b rfl HIB.out (by have h1 := HCL.out; have h2 := HBL.out; omega) HB.out.size ?_; intro v1 wz hown hgrow hor) | fail)
    obtain ⟨a1, c1, rfl, _⟩ := own_slice hown
    replace HGH := Lib.hid (grown_row hgrow (own_row_ne HOA.out HGH.out (by decide)) HGH.out); replace HOH := Lib.hid (HOH.out.kept hgrow (own_ne HOH.out HOA.out (by decide))); replace HB := Lib.hid (HB.out.grown hgrow HB.out.size (own_base HOA.out))
    rw [← catB_snoc] at hown
    replace HOA := Lib.hid hown
    clear hown hgrow hor HIB
    go_wp2_with (first | (refine wpList_load_mid rfl 32 _ rfl gh 0 rfl R _ (rngL HGH.out) Try.underlying32 rfl (by rw [HRL.out]; rfl) ?_) | (refine wpList_build_head rfl _ rfl R rfl HRL.out ?_; have HBZ := Lib.hid ((Below.refl wz.heap.size wz).alloc (Nat.le_refl _) (.cells R.toArray 32)); have HRZ := Lib.hid (heap_alloc_new wz (.cells R.toArray 32)); generalize wz.alloc (.cells R.toArray 32) = wy at HBZ HRZ ⊢; obtain ⟨gz, hgz⟩ : ∃ g, wz.heap.size = g := ⟨_, rfl⟩; rw [hgz] at HRZ ⊢; clear hgz) | (at_builtin; refine wpList_app_head rfl _ _ rfl w.heap.size G.length _ (catR G) rfl (own_below HOH.out HBZ.out) gz 1 R rfl HRZ.out HRL.out HRO.out (by have := HGL.out; omega) (bl_next HB.out HB.out.size HBZ.out).size ?_; intro v2 wv hown2 hgrow2) | fail)
    obtain ⟨a2, c2, rfl, _⟩ := own_slice hown2
    have hoh := own_below HOH.out HBZ.out
    have hoa := own_below HOA.out HBZ.out
    replace HB := Lib.hid ((bl_next HB.out HB.out.size HBZ.out).grown hgrow2 (bl_next HB.out HB.out.size HBZ.out).size (own_base hoh))
    replace HOA := Lib.hid (hoa.kept hgrow2 (own_ne hoa hoh (by decide)))
    rw [HER.out, ← catR_snoc] at hown2
    replace HOH := Lib.hid hown2
    clear hoh hoa hown2 hgrow2 HBZ HRZ
    have e1 : (catB G).length + E.b.length = (catB (G ++ [E])).length := by rw [catB_snoc, List.length_append]
    have e2 : G.length + 1 = (G ++ [E]).length := by simp
    rw [e1] at HOA ⊢
    rw [e2] at HOH ⊢
    clear e1 e2
    refine HK.out _ _ _ _ _ _ _ _ _ _ _ _ _ _ _ _ _ _ _ _ _ _ _ _ _ _ _ _ _ _ _ _ _ _ _ _ _ _ _ _ _ _ _ _ _ _ (G ++ [E]) _ _ _ _ _ HB HOA HOH (Lib.hid fun x hx => (List.mem_append.1 hx).elim (HG.out x) (fun hx => by rw [List.mem_singleton.1 hx]; exact HGD.out)) (Lib.hid (by rw [List.length_append]; have := HGL.out; simp only [List.length_cons, List.length_nil]; omega)) (Lib.hid ?_)
    by_cases h2 : sp = 2
    · refine .inr ⟨fun h => hskip ⟨h2, by omega, by omega⟩, ?_⟩
      rw [List.dropLast_concat]; exact HN.out
    · refine .inl fun x hx => (List.mem_append.1 hx).elim (HN.out x) (fun hx => ?_)
      rw [List.mem_singleton.1 hx, HES.out]; exact h2
end Go.Proofs.Ythofbckkjcidmaa
namespace Go.Proofs.Ythofbckkjcidmaa
open Go.RowKit
set_option linter.unusedVariables false
set_option linter.unusedSimpArgs false

theorem row_t (h : Hd) (a : Option Addr) (tc : Nat) : ∀ (i : Nat) (v : Value), (h.t.map (Value.int .u8))[i]? = some v → (h.row a tc)[1 + i]? = some v := by
  intro i v hv
  have hi := lt_of_get hv
  unfold Hd.row
  rw [List.getElem?_append_right (by simp), List.getElem?_append_left (by simp at hi ⊢; omega)]
  simpa using hv
set_option maxRecDepth 100000 in
set_option maxHeartbeats 16000000 in
theorem row_back {x1 x3 x4 x5 x6 x9 x10 x11 x12 x15 x16 x17 x18 x19 x20 x21 x22 x23 x24 x25 x26 x27 x28 x29 x30 x31 x32 x33 x34 x35 x36 x37 x38 x39 x40 x41 x42 x43 x44 x45 x46 x47 x48 x49 x50 x51 x52 x53 x54 x55 x56 x57 x58 x59 x60 x61 x62 x63 x64 x65 x66 x67 x68 x69 x70 x71 x72 x73 x74 x75 x76 x77 x78 x79 x80 x81 x82 x83 x84 x85 x86 x87 x88 x89 x90 x91 x92 x93 x94 x95 x96 x97 x98 x99 x100 x101 x102 x103 x104 x105 x106 x107 x108 x109 x110 x111 x112 x113 x114 x115 x116 x117 x118 x119 x120 x121 x122 x123 x124 x125 x126 x127 x128 x129 x130 x131 x132 x133 x134 x135 x136 x137 x138 x139 x140 x141 x142 x143 x144 x145 x146 x147 x148 x149 x150 x151 x152 x153 x154 x155 x156 x157 x158 x159 x160 x161 x162 x163 x164 x165 x166 x167 x168 x169 x170 x171 x172 x173 x174 x175 x176 : Value} {secret sp n : Int} {fa : Option Addr} {fl fc ga off Lr ac hb gl hc j bl : Nat} {F X : List Int} {T : List Value} {K : Int → List Value} (w : World) {Q : Exit → Act → World → Prop}
    (hj : j < gl) (hgl : gl ≤ 5) (hglc : gl ≤ hc) (hb1 : 1 ≤ bl) (hbl : bl ≤ Lr) (hlc : Lr ≤ ac) (hac : ac ≤ 9223372036854775807) (hLr : Lr ≤ 2000) (hsp : 0 ≤ sp ∧ sp ≤ 2) (hn : 0 ≤ n ∧ n ≤ 4) (HTL : Hid (T.length = 8)) (HEQ : Hid (∀ w, (binOp .neq 30 (.agg T.toArray) (.agg T.toArray)).run Try.prog w = .ok (.bool false) w)) (HI : Hid (IntsK .u8 w (some ⟨ga, off, none⟩) Lr X)) (HF : Hid (IntsK .u8 w fa fl F)) (HC0 : Hid (w.cell? ⟨hb, j * 20, none⟩ = some (.int .i64 sp))) (HCT : Hid (w.rangeAt hb (j * 20 + 1) T)) (HHB : Hid (hb < w.heap.size)) (HOF : Hid (∀ s : Int, 0 ≤ s → s ≤ 2 → ∀ W, Makes Try.prog 7 #[.int .u64 (IntKind.wrap .u64 (secret + s))] W (.agg (K s).toArray))) (HCU : Hid (∀ W a cap, IntsK .u8 W a Lr X → Makes Try.prog 14 #[.slice a Lr cap] W (.tuple #[.int .i64 bl, .bool true]))) (HU : Hid (∀ W a cap, Lr ≤ cap → cap ≤ 9223372036854775807 → IntsK .u8 W a Lr X → Calls Try.prog 12 #[.agg (K sp).toArray, .slice a Lr cap, .int .u64 0, .bool false] W fun e w' => Below W.heap.size W w' ∧ ∃ (R : List Value) (pa : Option Addr) (pc : Nat), e = .returned (.tuple #[.agg R.toArray, .int .u64 n, .slice pa fl pc, .int .i64 0]) ∧ IntsK .u8 w' pa fl F ∧ R.length = 20 ∧ (∀ v ∈ R, v.oneCell' = true) ∧ R[0]? = some (.int .i64 sp) ∧ (∀ i v, T[i]? = some v → R[1 + i]? = some v)))
    (hQp : ∀ c a d v w, Q (.panic c) (a.put d v) w → Q (.panic c) a w)
    (hQ : ∀ (y6 y15 y16 y17 y18 y19 y20 y85 y86 y87 y88 y89 y90 y91 y92 y93 y94 y95 y96 y97 y98 y99 y100 y101 y102 y103 y104 y105 y106 y107 y108 y109 y110 y111 y112 y113 y114 y115 y116 y117 y118 y119 y120 y121 y122 y123 y124 y125 y126 y127 y128 y129 y130 y131 y132 y133 y134 y135 y136 y137 y138 y139 y140 y141 y142 y143 y144 y145 y146 y147 y148 y149 y150 y151 y152 y153 y154 y155 y156 y157 y158 y159 y160 y161 : Value) (aa' : Option Addr) (ac' : Nat) (w' : World), Below w.heap.size w w' → IntsK .u8 w' aa' (Lr - bl) (X.drop bl) → Lr - bl ≤ ac' → ac' ≤ 9223372036854775807 → Q .normal ⟨List.toArray (.int .u64 secret :: x1 :: .slice fa fl fc :: x3 :: x4 :: x5 :: y6 :: .slice aa' (Lr - bl) ac' :: .slice (some ⟨hb, 0, none⟩) gl hc :: x9 :: x10 :: x11 :: x12 :: .int .i64 (j + 1) :: .int .i64 j :: y15 :: y16 :: y17 :: y18 :: y19 :: y20 :: x21 :: x22 :: x23 :: x24 :: x25 :: x26 :: x27 :: x28 :: x29 :: x30 :: x31 :: x32 :: x33 :: x34 :: x35 :: x36 :: x37 :: x38 :: x39 :: x40 :: x41 :: x42 :: x43 :: x44 :: x45 :: x46 :: x47 :: x48 :: x49 :: x50 :: x51 :: x52 :: x53 :: x54 :: x55 :: x56 :: x57 :: x58 :: x59 :: x60 :: x61 :: x62 :: x63 :: x64 :: x65 :: x66 :: x67 :: x68 :: x69 :: x70 :: x71 :: x72 :: x73 :: x74 :: x75 :: x76 :: x77 :: x78 :: x79 :: x80 :: x81 :: x82 :: x83 :: x84 :: y85 :: y86 :: y87 :: y88 :: y89 :: y90 :: y91 :: y92 :: y93 :: y94 :: y95 :: y96 :: y97 :: y98 :: y99 :: y100 :: y101 :: y102 :: y103 :: y104 :: y105 :: y106 :: y107 :: y108 :: y109 :: y110 :: y111 :: y112 :: y113 :: y114 :: y115 :: y116 :: y117 :: y118 :: y119 :: y120 :: y121 :: y122 :: y123 :: y124 :: y125 :: y126 :: y127 :: y128 :: y129 :: y130 :: y131 :: y132 :: y133 :: y134 :: y135 :: y136 :: y137 :: y138 :: y139 :: y140 :: y141 :: y142 :: y143 :: y144 :: y145 :: y146 :: y147 :: y148 :: y149 :: y150 :: y151 :: y152 :: y153 :: y154 :: y155 :: y156 :: y157 :: y158 :: y159 :: y160 :: y161 :: x162 :: x163 :: x164 :: x165 :: x166 :: x167 :: x168 :: x169 :: x170 :: x171 :: x172 :: x173 :: x174 :: x175 :: x176 :: []), []⟩ w') :
    Code.wp Try.prog (((Try.f4.body.bind (subBlock 3)).getD .skip)) Q ⟨List.toArray (.int .u64 secret :: x1 :: .slice fa fl fc :: x3 :: x4 :: x5 :: x6 :: .slice (some ⟨ga, off, none⟩) Lr ac :: .slice (some ⟨hb, 0, none⟩) gl hc :: x9 :: x10 :: x11 :: x12 :: .int .i64 j :: .int .i64 j :: x15 :: x16 :: x17 :: x18 :: x19 :: x20 :: x21 :: x22 :: x23 :: x24 :: x25 :: x26 :: x27 :: x28 :: x29 :: x30 :: x31 :: x32 :: x33 :: x34 :: x35 :: x36 :: x37 :: x38 :: x39 :: x40 :: x41 :: x42 :: x43 :: x44 :: x45 :: x46 :: x47 :: x48 :: x49 :: x50 :: x51 :: x52 :: x53 :: x54 :: x55 :: x56 :: x57 :: x58 :: x59 :: x60 :: x61 :: x62 :: x63 :: x64 :: x65 :: x66 :: x67 :: x68 :: x69 :: x70 :: x71 :: x72 :: x73 :: x74 :: x75 :: x76 :: x77 :: x78 :: x79 :: x80 :: x81 :: x82 :: x83 :: x84 :: x85 :: x86 :: x87 :: x88 :: x89 :: x90 :: x91 :: x92 :: x93 :: x94 :: x95 :: x96 :: x97 :: x98 :: x99 :: x100 :: x101 :: x102 :: x103 :: x104 :: x105 :: x106 :: x107 :: x108 :: x109 :: x110 :: x111 :: x112 :: x113 :: x114 :: x115 :: x116 :: x117 :: x118 :: x119 :: x120 :: x121 :: x122 :: x123 :: x124 :: x125 :: x126 :: x127 :: x128 :: x129 :: x130 :: x131 :: x132 :: x133 :: x134 :: x135 :: x136 :: x137 :: x138 :: x139 :: x140 :: x141 :: x142 :: x143 :: x144 :: x145 :: x146 :: x147 :: x148 :: x149 :: x150 :: x151 :: x152 :: x153 :: x154 :: x155 :: x156 :: x157 :: x158 :: x159 :: x160 :: x161 :: x162 :: x163 :: x164 :: x165 :: x166 :: x167 :: x168 :: x169 :: x170 :: x171 :: x172 :: x173 :: x174 :: x175 :: x176 :: []), []⟩ w := by
  have HK := Lib.hid hQ; have HKP := Lib.hid hQp
  clear hQ hQp
  conv => arg 2; whnf
  have HB := Lib.hid (Below.refl w.heap.size w)
  have HXL := Lib.hid HI.out.1
  go_wp2_with fail
  refine Calls.mono (HCU.out _ _ _ HI.out) ?_
  rintro e w1 ⟨rfl, hb⟩
  replace HB := Lib.hid (bl_next HB.out HB.out.size hb)
  replace HI := Lib.hid (HI.out.below hb)
  replace HF := Lib.hid (HF.out.below hb)
  clear hb HCU
  have e1 : decide ((bl : Int) < 1) = false := decide_eq_false (by omega)
  have e2 : decide ((Lr : Int) < (bl : Int)) = false := decide_eq_false (by omega)
  have e3 : decide ((gl : Int) ≤ (j : Int)) = false := decide_eq_false (by omega)
  go_upto_region 21 with fail
  clear e1 e2 e3
  have c0 := bl_cell (p := ⟨hb, j * 20, none⟩) HB.out HHB.out HC0.out
  go_wp2_with fail
  refine Calls.mono (HOF.out sp hsp.1 hsp.2 _) ?_
  rintro e w2 ⟨rfl, hb⟩
  replace HB := Lib.hid (bl_next HB.out HB.out.size hb)
  replace HI := Lib.hid (HI.out.below hb)
  replace HF := Lib.hid (HF.out.below hb)
  clear hb c0 HOF
  go_wp2_with fail
  refine Calls.mono (HU.out _ _ _ hlc hac HI.out) ?_
  rintro e w3 ⟨hb, R, pa, pc, rfl, hip, hrl, hro, hr0, hrt⟩
  replace HB := Lib.hid (bl_next HB.out HB.out.size hb)
  replace HI := Lib.hid (HI.out.below hb)
  replace HF := Lib.hid (HF.out.below hb)
  clear hb HU
  have HIP := Lib.hid (hip)
  have HRL := Lib.hid hrl; have HRO := Lib.hid hro; have HR0 := Lib.hid hr0; have HRT := Lib.hid hrt
  clear hip hrl hro hr0 hrt
  go_upto_region 22 with (first | (refine wpList_store_row rfl 32 _ _ rfl _ rfl R (.int .i64 0 :: .int .u8 0 :: .int .u8 0 :: .int .u8 0 :: .int .u8 0 :: .int .u8 0 :: .int .u8 0 :: .int .u8 0 :: .int .u8 0 :: .int .u8 0 :: .int .u8 0 :: .int .u8 0 :: .int .u8 0 :: .int .u8 0 :: .int .u8 0 :: .int .u8 0 :: .int .u8 0 :: .slice none 0 0 :: .int .i64 0 :: .bool false :: []) rfl 32 (heap_alloc_new _ _) (by rw [HRL.out]; rfl) (by rw [HRL.out]; rfl) HRO.out ?_; intro w4 hr hg) | fail)
  have hal := (Below.refl w3.heap.size w3).alloc (Nat.le_refl _) (.cells ((.int .i64 0 :: .int .u8 0 :: .int .u8 0 :: .int .u8 0 :: .int .u8 0 :: .int .u8 0 :: .int .u8 0 :: .int .u8 0 :: .int .u8 0 :: .int .u8 0 :: .int .u8 0 :: .int .u8 0 :: .int .u8 0 :: .int .u8 0 :: .int .u8 0 :: .int .u8 0 :: .int .u8 0 :: .slice none 0 0 :: .int .i64 0 :: .bool false :: [])).toArray 32)
  have hb : Below w3.heap.size w3 w4 := hal.grown hg hal.size (by intro k hk; injection hk with hk; omega)
  replace HB := Lib.hid (bl_next HB.out HB.out.size hb)
  replace HI := Lib.hid (HI.out.below hb)
  replace HF := Lib.hid (HF.out.below hb)
  replace HIP := Lib.hid (HIP.out.below hb)
  have HGR := Lib.hid (hr)
  clear hr hg hal hb
  obtain ⟨gr, hg⟩ : ∃ g, w3.heap.size = g := ⟨_, rfl⟩
  rw [hg] at HGR ⊢
  clear hg
  have f0 : ∀ t : In (fun y => Below w4.heap.size w4 y), t.w.cell? ⟨gr, 0, none⟩ = some (.int .i64 sp) := fun t => cell_row (bl_row t.h (lt_of_block HGR.out) HGR.out) 0 _ HR0.out
  have f1 : ∀ t : In (fun y => Below w4.heap.size w4 y), t.w.cell? ⟨hb, j * 20, none⟩ = some (.int .i64 sp) := fun t => bl_cell (p := ⟨hb, j * 20, none⟩) (bl_next HB.out HB.out.size t.h) HHB.out HC0.out
  have HT1 : Hid (∀ y, Below w4.heap.size w4 y → y.rangeAt gr 1 T) := Lib.hid fun y hy i v hv => cell_row (bl_row hy (lt_of_block HGR.out) HGR.out) (1 + i) _ (HRT.out i v hv)
  have HT2 : Hid (∀ y, Below w4.heap.size w4 y → y.rangeAt hb (j * 20 + 1) T) := Lib.hid fun y hy i v hv => bl_cell (p := ⟨hb, j * 20 + 1 + i, none⟩) (bl_next HB.out HB.out.size hy) HHB.out (HCT.out i v hv)
  have q1 : ∀ t : In (fun y => Below w4.heap.size w4 y), (convert 23 9 (.slice pa fl pc)).run Try.prog t.w = .ok (.string (strOfNums F)) t.w := fun t => conv_ints _ 5 _ _ Try.underlying23 Try.underlying5 Try.underlying9 (HIP.out.below t.h)
  have q2 : ∀ t : In (fun y => Below w4.heap.size w4 y), (convert 23 9 (.slice fa fl fc)).run Try.prog t.w = .ok (.string (strOfNums F)) t.w := fun t => conv_ints _ 5 _ _ Try.underlying23 Try.underlying5 Try.underlying9 (HF.out.below t.h)
  generalize strOfNums F = sb at q1 q2
  have q3 := HEQ.out
  have e5 : decide ((5 : Int) < n) = false := decide_eq_false (by omega)
  refine wp_plan (.t 0 (.t 1 (.t 2 (.t 3 (.t 4 (.t 5 (.t 6 (.t 7 (.t 8 (.t 9 (.t 10 (.t 11 (.t 12 (.t 13 (.t 14 (.t 15 (.t 16 (.t 17 (.t 18 (.t 19 (.t 20 (.t 21 (.t 22 (.t 23 (.t 24 (.t 25 (.t 26 (.t 27 (.t 28 (.t 29 (.t 30 (.t 31 (.t 32 .done))))))))))))))))))))))))))))))))) (fun y => Below w4.heap.size w4 y) (by kernel_rfl) (by kernel_rfl) (by kernel_rfl) (fun c a d v w h => by first | (cases d <;> exact h) | exact HKP.out c a d v w h) (Below.refl _ _).drew ?_
  have hS : Below w4.heap.size w4 w4.drew := (Below.refl _ _).drew
  generalize w4.drew = W0 at hS ⊢
  haveI hne2 : Nonempty (In (fun y => Below w4.heap.size w4 y)) := ⟨⟨w4, Below.refl _ _⟩⟩
  repeat (first | (refine plan_t_load (by rfl) (by kernel_rfl) 30 _ rfl gr 1 rfl T _ (fun y hy => HT1.out y hy) Try.underlying30 rfl (by rw [HTL.out]; rfl) ?_; simp only [Act.put, List.setIfInBounds_toArray, List.set_cons_succ, List.set_cons_zero]) | (refine plan_t_load (by rfl) (by kernel_rfl) 30 _ rfl hb (j * 20 + 1) rfl T _ (fun y hy => HT2.out y hy) Try.underlying30 rfl (by rw [HTL.out]; rfl) ?_; simp only [Act.put, List.setIfInBounds_toArray, List.set_cons_succ, List.set_cons_zero]) | (refine plan_t (by rfl) ?_; (first | go_big_quiet_skip | (go_big_quiet_want; go_big_quiet_op; go_big_quiet_on)); refine wpQuiet_nil ?_))
  clear hne2 f0 f1 q1 q2 q3 e5 HT1 HT2
  show Exit.then _ _ _ _ _
  replace HB := Lib.hid (bl_next HB.out HB.out.size hS)
  replace HI := Lib.hid (HI.out.below hS)
  replace HF := Lib.hid (HF.out.below hS)
  replace HIP := Lib.hid (HIP.out.below hS)
  replace HGR := Lib.hid (bl_row hS (lt_of_block HGR.out) HGR.out)
  clear hS
  go_upto_region 24 with fail
  have E1 : (bl : Int) ≤ (Lr : Int) := by omega
  have E2 : (bl : Int) ≤ (ac : Int) := by omega
  by_cases hz : ac = bl
  · skip
    have hzl : Lr = bl := by omega
    subst hz; subst hzl
    have hdx : X.drop Lr = [] := List.drop_of_length_le (by rw [HXL.out]; exact Nat.le_refl _)
    simp only [Nat.sub_self] at HK
    rw [hdx] at HK
    go_wp2_with fail
    exact HK.out _ _ _ _ _ _ _ _ _ _ _ _ _ _ _ _ _ _ _ _ _ _ _ _ _ _ _ _ _ _ _ _ _ _ _ _ _ _ _ _ _ _ _ _ _ _ _ _ _ _ _ _ _ _ _ _ _ _ _ _ _ _ _ _ _ _ _ _ _ _ _ _ _ _ _ _ _ _ _ _ _ _ _ _ _ _ _ HB.out (IntsK.nil _ _ _) (Nat.le_refl _) (by omega)
  · have E4 : ac ≠ 0 := by omega
    go_wp2_with fail
    exact HK.out _ _ _ _ _ _ _ _ _ _ _ _ _ _ _ _ _ _ _ _ _ _ _ _ _ _ _ _ _ _ _ _ _ _ _ _ _ _ _ _ _ _ _ _ _ _ _ _ _ _ _ _ _ _ _ _ _ _ _ _ _ _ _ _ _ _ _ _ _ _ _ _ _ _ _ _ _ _ _ _ _ _ _ _ _ _ _ HB.out (HI.out.suf bl hbl) (by omega) (by omega)
end Go.Proofs.Ythofbckkjcidmaa
namespace Go.Proofs.Ythofbckkjcidmaa
open Go.RowKit
set_option linter.unusedVariables false
set_option linter.unusedSimpArgs false

set_option maxRecDepth 100000 in
set_option maxHeartbeats 4000000 in
theorem row_r5 {x0 x2 x3 x4 x5 x6 x7 x8 x10 x11 x12 x13 x14 x15 x16 x17 x18 x19 x20 x21 x22 x23 x24 x25 x26 x27 x28 x29 x30 x31 x32 x33 x34 x35 x36 x37 x38 x39 x40 x41 x42 x43 x44 x45 x46 x47 x48 x49 x50 x51 x52 x53 x54 x55 x56 x57 x58 x59 x60 x61 x62 x63 x64 x65 x66 x67 x68 x69 x70 x71 x72 x73 x74 x75 x76 x77 x78 x79 x80 x81 x82 x83 x84 x85 x86 x87 x88 x89 x90 x91 x92 x93 x94 x95 x96 x97 x98 x99 x100 x101 x102 x103 x104 x105 x106 x107 x108 x109 x110 x111 x112 x113 x114 x115 x116 x117 x118 x119 x120 x121 x122 x123 x124 x125 x126 x127 x128 x129 x130 x131 x132 x133 x134 x135 x136 x137 x138 x139 x140 x141 x142 x143 x144 x145 x146 x147 x148 x149 x150 x151 x152 x153 x154 x155 x156 x157 x158 x159 x160 x161 x162 x163 x164 x165 x166 x167 x168 x169 x170 x171 x172 x173 x174 x175 x176 : Value} {la : Option Addr} {L lc i : Nat} {c : Bool} (w : World) {Q : Exit → Act → World → Prop}
    (hc : (c = true ∧ i < L ∧ i < 5) ∨ (c = false ∧ ¬ (i < L ∧ i < 5)))
    (hQp : ∀ c a d v w, Q (.panic c) (a.put d v) w → Q (.panic c) a w)
    (hQ : ∀ (y28 y29 y30 y31 y32 y33 y34 : Value) (w' : World), w' = w → Q .normal ⟨List.toArray (x0 :: .slice la L lc :: x2 :: x3 :: x4 :: x5 :: x6 :: x7 :: x8 :: .int .i64 i :: x10 :: x11 :: x12 :: x13 :: x14 :: x15 :: x16 :: x17 :: x18 :: x19 :: x20 :: x21 :: x22 :: x23 :: x24 :: x25 :: x26 :: x27 :: y28 :: y29 :: y30 :: y31 :: y32 :: y33 :: y34 :: .bool c :: x36 :: x37 :: x38 :: x39 :: x40 :: x41 :: x42 :: x43 :: x44 :: x45 :: x46 :: x47 :: x48 :: x49 :: x50 :: x51 :: x52 :: x53 :: x54 :: x55 :: x56 :: x57 :: x58 :: x59 :: x60 :: x61 :: x62 :: x63 :: x64 :: x65 :: x66 :: x67 :: x68 :: x69 :: x70 :: x71 :: x72 :: x73 :: x74 :: x75 :: x76 :: x77 :: x78 :: x79 :: x80 :: x81 :: x82 :: x83 :: x84 :: x85 :: x86 :: x87 :: x88 :: x89 :: x90 :: x91 :: x92 :: x93 :: x94 :: x95 :: x96 :: x97 :: x98 :: x99 :: x100 :: x101 :: x102 :: x103 :: x104 :: x105 :: x106 :: x107 :: x108 :: x109 :: x110 :: x111 :: x112 :: x113 :: x114 :: x115 :: x116 :: x117 :: x118 :: x119 :: x120 :: x121 :: x122 :: x123 :: x124 :: x125 :: x126 :: x127 :: x128 :: x129 :: x130 :: x131 :: x132 :: x133 :: x134 :: x135 :: x136 :: x137 :: x138 :: x139 :: x140 :: x141 :: x142 :: x143 :: x144 :: x145 :: x146 :: x147 :: x148 :: x149 :: x150 :: x151 :: x152 :: x153 :: x154 :: x155 :: x156 :: x157 :: x158 :: x159 :: x160 :: x161 :: x162 :: x163 :: x164 :: x165 :: x166 :: x167 :: x168 :: x169 :: x170 :: x171 :: x172 :: x173 :: x174 :: x175 :: x176 :: []), []⟩ w') :
    Code.wp Try.prog (((Try.f4.body.bind (subRegion 5)).getD .skip)) Q ⟨List.toArray (x0 :: .slice la L lc :: x2 :: x3 :: x4 :: x5 :: x6 :: x7 :: x8 :: .int .i64 i :: x10 :: x11 :: x12 :: x13 :: x14 :: x15 :: x16 :: x17 :: x18 :: x19 :: x20 :: x21 :: x22 :: x23 :: x24 :: x25 :: x26 :: x27 :: x28 :: x29 :: x30 :: x31 :: x32 :: x33 :: x34 :: x35 :: x36 :: x37 :: x38 :: x39 :: x40 :: x41 :: x42 :: x43 :: x44 :: x45 :: x46 :: x47 :: x48 :: x49 :: x50 :: x51 :: x52 :: x53 :: x54 :: x55 :: x56 :: x57 :: x58 :: x59 :: x60 :: x61 :: x62 :: x63 :: x64 :: x65 :: x66 :: x67 :: x68 :: x69 :: x70 :: x71 :: x72 :: x73 :: x74 :: x75 :: x76 :: x77 :: x78 :: x79 :: x80 :: x81 :: x82 :: x83 :: x84 :: x85 :: x86 :: x87 :: x88 :: x89 :: x90 :: x91 :: x92 :: x93 :: x94 :: x95 :: x96 :: x97 :: x98 :: x99 :: x100 :: x101 :: x102 :: x103 :: x104 :: x105 :: x106 :: x107 :: x108 :: x109 :: x110 :: x111 :: x112 :: x113 :: x114 :: x115 :: x116 :: x117 :: x118 :: x119 :: x120 :: x121 :: x122 :: x123 :: x124 :: x125 :: x126 :: x127 :: x128 :: x129 :: x130 :: x131 :: x132 :: x133 :: x134 :: x135 :: x136 :: x137 :: x138 :: x139 :: x140 :: x141 :: x142 :: x143 :: x144 :: x145 :: x146 :: x147 :: x148 :: x149 :: x150 :: x151 :: x152 :: x153 :: x154 :: x155 :: x156 :: x157 :: x158 :: x159 :: x160 :: x161 :: x162 :: x163 :: x164 :: x165 :: x166 :: x167 :: x168 :: x169 :: x170 :: x171 :: x172 :: x173 :: x174 :: x175 :: x176 :: []), []⟩ w := by
  have HK := Lib.hid hQ; have HKP := Lib.hid hQp
  clear hQ hQp
  conv => arg 2; whnf
  rcases hc with ⟨rfl, h1, h4⟩ | ⟨rfl, hn⟩
  · have e4 : decide ((i : Int) < 5) = true := decide_eq_true (by omega)
    go_wp2_with fail
    exact HK.out _ _ _ _ _ _ _ _ rfl
  · by_cases h1 : i < L
    · have h4 : ¬ i < 5 := fun h => hn ⟨h1, h⟩
      have e4 : decide ((i : Int) < 5) = false := decide_eq_false (by omega)
      go_wp2_with fail
      exact HK.out _ _ _ _ _ _ _ _ rfl
    · go_wp2_with fail
      exact HK.out _ _ _ _ _ _ _ _ rfl

set_option maxRecDepth 100000 in
set_option maxHeartbeats 16000000 in
theorem row9_core (w : World) (secret : Int) (la pa : Option Addr) (L lc pl pc pq : Nat) (ps : List Int) (kk : Int → Int × Int) (K : Int → List Value)
    (hpq : pq ≤ 60) (HXS : Hid (HXs w la L)) (HPI : Hid (IntsK .u8 w pa pq ps))
    (HC1 : Hid (∀ w1, Calls Try.prog 9 #[.slice pa pl pc, .int .i64 60] w1 fun e w' => e = .returned (.slice pa pq pc) ∧ w1 = w'))
    (HOF : Hid (∀ s : Int, 0 ≤ s → s ≤ 2 → ∀ W, Makes Try.prog 7 #[.int .u64 (IntKind.wrap .u64 (secret + s))] W (.agg (K s).toArray)))
    (HPR : Hid (∀ W x cp (h : Hd) a tc (n : Int), h.ok → hrightM h = true → h.k.length ≤ 32 → 0 ≤ n → n ≤ 4 → IntsK .u8 W a h.k.length h.k → IntsK .u8 W x (4 + pq) ([102, 111, 117, 114] ++ ps) → Calls Try.prog 11 #[.agg (K h.s).toArray, .agg (h.row a tc).toArray, .int .u64 n, .slice x (4 + pq) cp] W fun e w' => Below W.heap.size W w' ∧ ∃ y c b, e = .returned (.tuple #[.slice y b.length c, .int .i64 0]) ∧ IntsK .u8 w' y b.length b ∧ El.good kk ([102, 111, 117, 114] ++ ps) ⟨h, n, b, a, tc⟩))
    (HCU : Hid (∀ (e : El) (Z : List Int), e.good kk ([102, 111, 117, 114] ++ ps) → (e.h.s ≠ 2 ∨ Z = []) → ∀ W a Lr cap, Lr ≤ 2000 → IntsK .u8 W a Lr (e.b ++ Z) → Makes Try.prog 14 #[.slice a Lr cap] W (.tuple #[.int .i64 e.b.length, .bool true])))
    (HU : Hid (∀ (e : El) (Z : List Int), e.good kk ([102, 111, 117, 114] ++ ps) → (e.h.s ≠ 2 ∨ Z = []) → ∀ W a Lr cap, Lr ≤ 2000 → Lr ≤ cap → cap ≤ 9223372036854775807 → IntsK .u8 W a Lr (e.b ++ Z) → Calls Try.prog 12 #[.agg (K e.h.s).toArray, .slice a Lr cap, .int .u64 0, .bool false] W fun en w' => Below W.heap.size W w' ∧ ∃ (R : List Value) (pa : Option Addr) (pc : Nat),
      en = .returned (.tuple #[.agg R.toArray, .int .u64 e.n, .slice pa (4 + pq) pc, .int .i64 0]) ∧ IntsK .u8 w' pa (4 + pq) ([102, 111, 117, 114] ++ ps) ∧ R.length = 20 ∧ (∀ v ∈ R, v.oneCell' = true) ∧ R[0]? = some (.int .i64 e.h.s) ∧ (∀ i v, (e.h.t.map (Value.int .u8))[i]? = some v → R[1 + i]? = some v)))
    (HCN : Hid (∀ W, Makes Try.prog 14 #[.slice none 0 0] W (.tuple #[.int .i64 0, .bool false])))
    (HKN : Hid (∀ w1, Makes Try.prog 15 #[] w1 (.bool true))) :
    Makes Try.prog 4 #[.int .u64 secret, .slice la L lc, .slice pa pl pc] w (.bool true) := by
  have HB := Lib.hid (Below.refl w.heap.size w)
  have HFL : Hid (([102, 111, 117, 114] ++ ps).length = 4 + pq) := Lib.hid (by rw [List.length_append, HPI.out.1]; rfl)
  have HFW := Lib.hid (four_wf HPI.out.2.1)
  go_enter Try.func4, Try.ntmps4
  go_upto_region 1 with fail
  obtain ⟨wl, hcv, hbl, hil, hsz⟩ := lit_bytes w [102, 111, 117, 114] #[.int .u8 102, .int .u8 111, .int .u8 117, .int .u8 114] 4 rfl rfl (by decide)
  go_wp2_with fail
  replace HB := Lib.hid (bl_next HB.out HB.out.size hbl)
  replace HPI := Lib.hid (HPI.out.below hbl)
  clear hcv hbl hsz
  refine Calls.mono (HC1.out _) ?_
  rintro e wq ⟨rfl, rfl⟩
  go_upto_region 2 with (first | (at_builtin; refine wpList_append_full rfl _ _ rfl _ 4 [102, 111, 117, 114] rfl hil _ _ _ ps rfl HPI.out (by omega) ?_; intro a2 c2 W1 hle2 hcm2 hi2 hb) | fail)
  replace HB := Lib.hid (bl_next HB.out HB.out.size hb)
  replace HPI := Lib.hid (HPI.out.below hb)
  have HF := Lib.hid (hi2)
  clear hb hi2 hil hle2 hcm2 HC1 HPI
  replace HXS := Lib.hid (HXS.out.below HB.out)
  obtain ⟨F, hFF⟩ : ∃ F, [102, 111, 117, 114] ++ ps = F := ⟨_, rfl⟩
  rw [hFF] at HF HFL HFW HPR HCU HU
  clear hFF
  have HB1 := Lib.hid (Below.refl W1.heap.size W1)
  have HOA : Hid (W1.ownsRow W1.heap.size 5 1 (.slice none (catB ([] : List El)).length 0) (catB ([] : List El)).length ((catB ([] : List El)).map (Value.int .u8))) := Lib.hid (World.ownsRow_nil _ _ _ _)
  have HOH : Hid (W1.ownsRow W1.heap.size 32 20 (.slice none ([] : List El).length 0) ([] : List El).length (catR ([] : List El))) := Lib.hid (World.ownsRow_nil _ _ _ _)
  have HG : Hid (∀ e ∈ ([] : List El), e.good kk F) := Lib.hid (fun e he => by cases he)
  have HGL : Hid (([] : List El).length ≤ 0) := Lib.hid (Nat.le_refl _)
  have HJ : Hid ((∀ e ∈ ([] : List El), e.h.s ≠ 2) ∨ (¬ (0 < L ∧ 0 < 5) ∧ ∀ e ∈ ([] : List El).dropLast, e.h.s ≠ 2)) := Lib.hid (.inl fun e he => by cases he)
  go_wp2_with fail
  go_loopw [7, 8, 9] (fun v7 v8 v9 wr => ∃ (i : Nat) (G : List El) (aa ha : Option Addr) (ac hc : Nat), v7 = .slice aa (catB G).length ac ∧ v8 = .slice ha G.length hc ∧ v9 = .int .i64 i ∧ i ≤ 5 ∧ Hid (Below W1.heap.size W1 wr) ∧ Hid (wr.ownsRow W1.heap.size 5 1 (.slice aa (catB G).length ac) (catB G).length ((catB G).map (Value.int .u8))) ∧ Hid (wr.ownsRow W1.heap.size 32 20 (.slice ha G.length hc) G.length (catR G)) ∧ Hid (∀ e ∈ G, e.good kk F) ∧ Hid (G.length ≤ i) ∧ Hid ((∀ e ∈ G, e.h.s ≠ 2) ∨ (¬ (i < L ∧ i < 5) ∧ ∀ e ∈ G.dropLast, e.h.s ≠ 2))) (fun _ _ s _ => 5 - (intOf s).toNat)
  case atStart => exact ⟨0, ([] : List El), none, none, 0, 0, rfl, rfl, rfl, by omega, HB1, HOA, HOH, HG, HGL, HJ⟩
  case round =>
    clear HB1 HOA HOH HG HGL HJ
    obtain ⟨i, G, aa, ha, ac, hc, rfl, rfl, rfl, hi5, HB1, HOA, HOH, HG, HGL, HJ⟩ := hrel
    go_upto_region 5 with fail
    by_cases hlt : i < L ∧ i < 5
    · refine row_r5 _ (.inl ⟨rfl, hlt⟩) (fun c a d v w h => by first | (cases d <;> exact h) | exact HKP.out c a d v w h) ?_
      rintro _ _ _ _ _ _ _ wq rfl
      have HN : Hid (∀ e ∈ G, e.h.s ≠ 2) := Lib.hid (HJ.out.elim id fun h => absurd hlt h.1)
      go_upto_block 1 with fail
      refine row_round _ hlt.1 hlt.2 (by omega) HFL HGL HB1 HXS HF HOA HOH HG HN HOF HPR (fun c a d v w h => by first | (cases d <;> exact h) | exact HKP.out c a d v w h) ?_
      rintro _ _ _ _ _ _ _ _ _ _ _ _ _ _ _ _ _ _ _ _ _ _ _ _ _ _ _ _ _ _ _ _ _ _ _ _ _ _ _ _ _ _ _ _ _ _ G' aa' ha' ac' hc' w5 HB2 HOA2 HOH2 HG2 HGL2 HJ2
      clear HB1 HOA HOH HG HGL HJ HN
      go_wp2_with fail
      go_roundw
      case rel => exact ⟨i + 1, G', _, _, _, _, rfl, rfl, by go_num, by omega, HB2, HOA2, HOH2, HG2, HGL2, HJ2⟩
      case measure => simp [intOf]; omega
    · refine row_r5 _ (.inr ⟨rfl, hlt⟩) (fun c a d v w h => by first | (cases d <;> exact h) | exact HKP.out c a d v w h) ?_
      rintro _ _ _ _ _ _ _ wq rfl
      have HD : Hid (∀ e ∈ G.dropLast, e.h.s ≠ 2) := Lib.hid (HJ.out.elim (fun h e he => h e (List.dropLast_subset _ he)) fun h => h.2)
      have hGl : G.length ≤ 5 := by have := HGL.out; omega
      have HCB : Hid (∀ j, (catB (G.drop j)).length ≤ 1500) := Lib.hid (fun j => by have h := (catB_len (by rw [HFL.out]; omega) (G := G.drop j) (fun e he => HG.out e (List.mem_of_mem_drop he))).2; rw [List.length_drop] at h; omega)
      obtain ⟨_, _, ey, hcp, hip, _⟩ := ints_of_own HOA.out (catB_wf HFW.out HG.out)
      have hcm := own_capm HOA.out _ _ _ rfl
      injection ey with e1 e2 e3
      subst e1; subst e3
      have HI : Hid (IntsK .u8 wq aa (catB (G.drop 0)).length (catB (G.drop 0))) := Lib.hid (by rw [List.drop_zero]; exact hip)
      have HIC : Hid ((catB (G.drop 0)).length ≤ ac ∧ ac ≤ 9223372036854775807) := Lib.hid (by rw [List.drop_zero]; exact ⟨hcp, hcm⟩)
      replace HB := Lib.hid (bl_next HB.out HB.out.size HB1.out); replace HF := Lib.hid (HF.out.below HB1.out)
      clear e2 hip hcp hcm HOA HB1 HXS HPR HJ HFW HGL hlt
      have e0 : (catB G).length = (catB (G.drop 0)).length := by rw [List.drop_zero]
      rw [e0]
      clear e0
      have HB2 := Lib.hid (Below.refl wq.heap.size wq)
      go_wp2_with fail
      go_loopw [7, 13, 14] (fun v7 v13 v14 wx => ∃ (j : Nat) (a7 : Option Addr) (c7 : Nat), v7 = .slice a7 (catB (G.drop j)).length c7 ∧ v13 = .int .i64 j ∧ v14 = .int .i64 j ∧ j ≤ G.length ∧ Hid (Below wq.heap.size wq wx) ∧ Hid (IntsK .u8 wx a7 (catB (G.drop j)).length (catB (G.drop j))) ∧ Hid ((catB (G.drop j)).length ≤ c7 ∧ c7 ≤ 9223372036854775807)) (fun _ _ s _ => G.length - (intOf s).toNat)
      case atStart => exact ⟨0, aa, ac, rfl, rfl, rfl, by omega, HB2, HI, HIC⟩
      case round =>
        clear HB2 HI HIC
        obtain ⟨j, a7, c7, rfl, rfl, rfl, hj, HB2, HI, HIC⟩ := hrel
        by_cases hlj : j < G.length
        · skip
          obtain ⟨E, hE⟩ : ∃ e, G[j]? = some e := ⟨_, List.getElem?_eq_getElem hlj⟩
          have hEm := List.mem_of_getElem? hE
          have HGE := Lib.hid (HG.out E hEm)
          have hdr := catB_drop hE
          have hz : E.h.s ≠ 2 ∨ catB (G.drop (j + 1)) = [] := by
            by_cases hl : j + 1 < G.length
            · refine .inl (HD.out E ?_)
              have h2 : G.dropLast[j]? = some E := by rw [List.getElem?_dropLast, if_pos (by omega)]; exact hE
              exact List.mem_of_getElem? h2
            · exact .inr (by rw [List.drop_of_length_le (by omega)]; rfl)
          have hcr : ∀ (i : Nat) (v : Value), E.row[i]? = some v → (catR G)[j * 20 + i]? = some v := catR_get HG.out hE
          obtain ⟨_, hglc, _, ⟨hn0, hn1⟩ | ⟨hb, hha, _, hhb, hcell⟩⟩ := own_at HOH.out
          · omega
          subst hha
          have HC0 : Hid (wr.cell? ⟨hb, j * 20, none⟩ = some (.int .i64 E.h.s)) := Lib.hid (bl_cell (p := ⟨hb, j * 20, none⟩) HB2.out hhb (hcell _ _ (by have h := hcr 0 _ (show E.row[0]? = some (.int .i64 E.h.s) from rfl); rwa [Nat.add_zero] at h)))
          have HCT : Hid (wr.rangeAt hb (j * 20 + 1) (E.h.t.map (Value.int .u8))) := Lib.hid (fun i v hv => bl_cell (p := ⟨hb, j * 20 + 1 + i, none⟩) HB2.out hhb (hcell _ _ (by have h := hcr (1 + i) v (row_t E.h E.a E.tc i v hv); rwa [← Nat.add_assoc] at h)))
          have HHB : Hid (hb < wr.heap.size) := Lib.hid (Nat.lt_of_lt_of_le hhb HB2.out.size)
          have HEQ : Hid (∀ w, (binOp .neq 30 (.agg (E.h.t.map (Value.int .u8)).toArray) (.agg (E.h.t.map (Value.int .u8)).toArray)).run Try.prog w = .ok (.bool false) w) := Lib.hid (fun w => by have h := neq_bytes w 30 8 Try.underlying30 E.h.t E.h.t HGE.out.ok.lt HGE.out.ok.lt HGE.out.ok.wt HGE.out.ok.wt; rw [beq_self_eq_true] at h; exact h)
          have HTL : Hid ((E.h.t.map (Value.int .u8)).length = 8) := Lib.hid (by rw [List.length_map]; exact HGE.out.ok.lt)
          have hbl := HGE.out.len (by rw [HFL.out]; omega)
          have hLr := HCB.out j
          have hsr := HGE.out.right.2.2
          have hs2 : 0 ≤ E.h.s ∧ E.h.s ≤ 2 := by omega
          have HCU1 := Lib.hid (fun W a cap (h : IntsK .u8 W a (catB (G.drop j)).length (catB (G.drop j))) => HCU.out E _ HGE.out hz W a (catB (G.drop j)).length cap (by omega) (by rw [← hdr]; exact h))
          have HU1 := Lib.hid (fun W a cap h1 h2 (h : IntsK .u8 W a (catB (G.drop j)).length (catB (G.drop j))) => HU.out E _ HGE.out hz W a (catB (G.drop j)).length cap (by omega) h1 h2 (by rw [← hdr]; exact h))
          have hlb : E.b.length ≤ (catB (G.drop j)).length := by rw [hdr, List.length_append]; omega
          obtain ⟨⟨ga, off, sh⟩, rfl⟩ : ∃ a, a7 = some a := by rcases HI.out.2.2 with h | ⟨b, off, h, _⟩; omega; exact ⟨_, h⟩
          obtain rfl : sh = none := by rcases HI.out.2.2 with h | ⟨b, off, h, _⟩; omega; injection h with h; injection h
          have hdd : (catB (G.drop j)).drop E.b.length = catB (G.drop (j + 1)) := by rw [hdr, List.drop_left]
          have hdl : (catB (G.drop j)).length - E.b.length = (catB (G.drop (j + 1))).length := by rw [hdr, List.length_append]; omega
          have HFX := Lib.hid (HF.out.below HB2.out)
          have e0 : decide ((0 : Int) < ((catB (G.drop j)).length : Int)) = true := decide_eq_true (by omega)
          clear hdr hcr hcell hE hEm
          generalize E.h.t.map (Value.int .u8) = T at HCT HEQ HTL HU1
          skip
          go_upto_block 3 with fail
          clear e0
          refine row_back _ hlj hGl hglc hbl.1 hlb HIC.out.1 HIC.out.2 (by omega) hs2 ⟨HGE.out.n0, HGE.out.n4⟩ HTL HEQ HI HFX HC0 HCT HHB HOF HCU1 HU1 (fun c a d v w h => by first | (cases d <;> exact h) | exact HKP.out c a d v w h) ?_
          rintro _ _ _ _ _ _ _ _ _ _ _ _ _ _ _ _ _ _ _ _ _ _ _ _ _ _ _ _ _ _ _ _ _ _ _ _ _ _ _ _ _ _ _ _ _ _ _ _ _ _ _ _ _ _ _ _ _ _ _ _ _ _ _ _ _ _ _ _ _ _ _ _ _ _ _ _ _ _ _ _ _ _ _ _ a8 c8 w6 hb8 hi8 hc8 hm8
          skip
          rw [hdd, hdl] at hi8
          rw [hdl] at hc8 ⊢
          have HB3 := Lib.hid (bl_next HB2.out HB2.out.size hb8)
          have HI3 := Lib.hid hi8; have HIC3 := Lib.hid (And.intro hc8 hm8)
          clear hi8 hc8 hm8 hb8 HB2 HI HIC HFX HHB HC0 HCT HCU1 HU1 hdd hdl
          go_wp2_with fail
          go_roundw
          case rel => exact ⟨j + 1, a8, c8, rfl, by go_num, by go_num, by omega, HB3, HI3, HIC3⟩
          case measure => simp [intOf]; omega
        · obtain rfl : j = G.length := by omega
          have hd0 : (catB (G.drop G.length)).length = 0 := by rw [List.drop_length]; rfl
          rw [hd0]
          clear hd0
          replace HB := Lib.hid (bl_next HB.out HB.out.size HB2.out)
          clear HI HIC HB2 HF HOH
          go_wp2_with fail
          refine Calls.mono (HCN.out _) ?_
          rintro e w1 ⟨rfl, hb⟩
          replace HB := Lib.hid (bl_next HB.out HB.out.size hb)
          clear hb
          go_wp2_with fail
          refine Calls.mono (HKN.out _) ?_
          rintro e w2 ⟨rfl, hb⟩
          replace HB := Lib.hid (bl_next HB.out HB.out.size hb)
          clear hb
          go_wp2_with fail
          go_ret
          exact ⟨rfl, HB.out⟩
end Go.Proofs.Ythofbckkjcidmaa
namespace Go.Proofs.Ythofbckkjcidmaa
open Go.RowKit
set_option linter.unusedVariables false

set_option maxHeartbeats 2000000 in
theorem row9_any (w : World) (secret : Int) (la : Option Addr) (L lc : Nat) (pa : Option Addr) (pl pc : Nat) (pz : List Int) (hX : HXs w la L) (hpl : pl ≤ pc) (hpc : pc ≤ 9223372036854775807) (hP : IntsK .u8 w pa pl pz) :
    Makes Try.prog 4 #[.int .u64 secret, .slice la L lc, .slice pa pl pc] w (.bool true) := by
  have hPq := hP.pre (min pl 60) (by omega)
  obtain ⟨pq, hpq⟩ : ∃ pq, min pl 60 = pq := ⟨_, rfl⟩
  have hc1 := fun w1 => cut_any w1 pa pl pc 60 hpl hpc
  rw [hpq] at hPq hc1
  have hp60 : pq ≤ 60 := by omega
  generalize pz.take pq = ps at hPq
  obtain ⟨kk, hkk⟩ : ∃ kk : Int → Int × Int, ∀ s, (keyedM (IntKind.wrap .u64 (secret + s)) [115, 101, 97, 108], keyedM (IntKind.wrap .u64 (secret + s)) [109, 97, 115, 107]) = kk s := ⟨_, fun _ => rfl⟩
  have hof : ∀ s : Int, 0 ≤ s → s ≤ 2 → ∀ W, Makes Try.prog 7 #[.int .u64 (IntKind.wrap .u64 (secret + s))] W (.agg ([.int .u64 (kk s).1, .int .u64 (kk s).2] : List Value).toArray) := by
    intro s _ _ W
    have h := lockof_any W (IntKind.wrap .u64 (secret + s))
    rw [← hkk s]
    exact h
  clear hkk
  have hfl : ([102, 111, 117, 114] ++ ps).length = 4 + pq := by rw [List.length_append, hPq.1]; rfl
  have hfw := four_wf hPq.2.1
  refine row9_core w secret la pa L lc pl pc pq ps kk (fun s => [.int .u64 (kk s).1, .int .u64 (kk s).2]) hp60 (Lib.hid hX) (Lib.hid hPq) (Lib.hid hc1) (Lib.hid hof) (Lib.hid ?pr) (Lib.hid ?cu) (Lib.hid ?un) (Lib.hid ?cn) (Lib.hid known9_any)
  all_goals generalize [102, 111, 117, 114] ++ ps = F at hfl hfw ⊢
  case pr =>
    intro W x cp h a tc n hok hri hkl hn0 hn4 hI hJ
    have hrp := (hrightM_eq h).1 hri
    have hw1 := hrp.1; have hw4 := hrp.2.1
    have hel := encH_le2 h hok hkl (h.w + F.length + 8)
    obtain ⟨P, hPr⟩ := prot_some (ks := (kk h.s).1) (km := (kk h.s).2) (n := n) (h := h) (pl := F) hrp (by omega) (by rw [hfl]; omega) (by rw [hfl] at hel ⊢; omega)
    refine (protect_any W (kk h.s).1 (kk h.s).2 n h a tc x (4 + pq) cp F hok (by omega) hI ⟨by omega, by omega⟩ ⟨hn0, by omega⟩ (by omega) hJ).mono fun e w' hr => ?_
    obtain ⟨hbl, ⟨hnone, _⟩ | ⟨b', y, c, hsome, he, h1, h2, h3⟩⟩ := hr
    · rw [hPr] at hnone; cases hnone
    · exact ⟨hbl, y, c, b', he, h3, ⟨hsome, hok, hn0, hn4, hkl⟩⟩
  case cu =>
    intro e Z hg hz W a Lr cap hLr hI
    have hc := pcutb_any W a Lr cap (e.b ++ Z) (by omega) hI
    obtain ⟨hd, at', hp⟩ := par_of Z hg.pr hg.ok hfw hz
    rw [hp] at hc
    exact hc
  case un =>
    intro e Z hg hz W a Lr cap hLr h1 h2 hI
    refine (punprot_any W (kk e.h.s).1 (kk e.h.s).2 a Lr cap (e.b ++ Z) 0 false h1 h2 (by omega) (by omega) hI).mono fun en w' hr => ?_
    obtain ⟨hbl, hd, m, pl', err, a', tc', pa', pc', hun, he, hi1, _, hi2, _, ht, hf⟩ := hr
    have hu := unp_small Z hg.pr hg.ok hfw hz hg.n0 hg.n4
    have hue := hu.symm.trans hun
    injection hue with e1 hue
    injection hue with e2 hue
    injection hue with e3 e4
    subst e1; subst e2; subst e3; subst e4
    rw [hfl] at he hi2
    exact ⟨hbl, e.h.row a' tc', pa', pc', he, hi2, row_len e.h a' tc' ht hf, row_one e.h a' tc', rfl, row_t e.h a' tc'⟩
  case cn =>
    intro W
    have hc := pcutb_any W none 0 0 [] (by omega) (IntsK.nil _ _ _)
    rw [parM_nil] at hc
    exact hc
end Go.Proofs.Ythofbckkjcidmaa
