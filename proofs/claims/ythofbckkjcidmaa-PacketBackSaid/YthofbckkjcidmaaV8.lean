/- texts of the proof, laid together: Region3, Head0, Pkt20, Pkt21, Pkt22. -/
import Derived.Test.YthofbckkjcidmaaRegion
import Derived.Deep.MidRow
import Derived.Test.YthofbckkjcidmaaHead12
import Derived.Test.YthofbckkjcidmaaV6
namespace Go.Proofs.Ythofbckkjcidmaa
open Go.RowKit
set_option linter.unusedVariables false

inductive Plan3 where
  | old (p : Plan)
  | t (k : Nat) (p : Plan3)
  | n2 (k : Nat) (p : Plan3) (j : Nat) (q : Plan3)
  | n3 (k : Nat) (p : Plan3) (j : Nat) (q : Plan3) (i : Nat) (r : Plan3)

def Plan3.ok (md : Region.Mode) (ops : Array Oper) : Plan3 → Nat → Array Bool → Bool
  | .old p, n, l => p.ok md ops n l
  | .t _ _, 0, _ => false
  | .t k p, n + 1, l => (Region.ready md ops l).contains k && Region.free md ops l k && ((ops[k]?).map isVal).getD false && p.ok md ops n (l.setIfInBounds k true)
  | .n2 _ _ _ _, 0, _ => false
  | .n2 k p j q, n + 1, l => Region.ready md ops l == [k, j] && p.ok md ops n (l.setIfInBounds k true) && q.ok md ops n (l.setIfInBounds j true)
  | .n3 _ _ _ _ _ _, 0, _ => false
  | .n3 k p j q i r, n + 1, l => Region.ready md ops l == [k, j, i] && p.ok md ops n (l.setIfInBounds k true) && q.ok md ops n (l.setIfInBounds j true) && r.ok md ops n (l.setIfInBounds i true)

section
variable {P : Program} {ops : Array Oper} {Q : Exit → Act → World → Prop} {md : Region.Mode}

def Plan3.wp (P : Program) (ops : Array Oper) (Q : Exit → Act → World → Prop) : Plan3 → (World → Prop) → Act → World → Prop
  | .old p, S, a, w => p.wp P ops Q S a w
  | .t k p, S, a, w => ∃ o, ops[k]? = some o ∧ wpQuiet P ops (fun w' => ∃ s : In S, w' = s.w) (fun a' => p.wp P ops Q S a' w) [o] a
  | .n2 k p j q, S, a, w =>
    wpOp P ops Q k (fun a' w' => ∃ S' : World → Prop, (∀ x, S' x → S x) ∧ S' w' ∧ p.wp P ops Q S' a' w') a w ∧
    wpOp P ops Q j (fun a' w' => ∃ S' : World → Prop, (∀ x, S' x → S x) ∧ S' w' ∧ q.wp P ops Q S' a' w') a w
  | .n3 k p j q i r, S, a, w =>
    wpOp P ops Q k (fun a' w' => ∃ S' : World → Prop, (∀ x, S' x → S x) ∧ S' w' ∧ p.wp P ops Q S' a' w') a w ∧
    wpOp P ops Q j (fun a' w' => ∃ S' : World → Prop, (∀ x, S' x → S x) ∧ S' w' ∧ q.wp P ops Q S' a' w') a w ∧
    wpOp P ops Q i (fun a' w' => ∃ S' : World → Prop, (∀ x, S' x → S x) ∧ S' w' ∧ r.wp P ops Q S' a' w') a w

theorem wpAnyG_of_plan3 (hs : Region.noSelect ops = true) (hQ : ∀ c a d v w, Q (.panic c) (a.put d v) w → Q (.panic c) a w) :
    ∀ (p : Plan3) (n : Nat) (l : Array Bool) (S : World → Prop) (a : Act) (w : World), p.ok md ops n l = true → S w → p.wp P ops Q S a w → wpAnyG P md ops Q n l S a w := by
  intro p
  induction p with
  | old p => intro n l S a w hok hS h; exact wpAnyG_of_plan hs hQ p n l S a w hok hS h
  | t k p ih =>
    intro n l S a w hok hS h
    cases n with
    | zero => simp [Plan3.ok] at hok
    | succ n =>
      simp only [Plan3.ok, Bool.and_eq_true] at hok
      obtain ⟨⟨⟨h1, h2⟩, h3⟩, h4⟩ := hok
      obtain ⟨o, ho, hq⟩ := h
      rw [ho] at h3
      obtain ⟨v, hy, hk⟩ := yieldsIf_of_quiet (by simpa using h3) hS hq
      exact wpAnyG_first ho (Region.noSelect_spec hs) (fun c a w => hQ c a _ _ w) n l S a w (Region.free_spec ho h2) (by simpa using h1) hy hS (ih n _ S _ w h4 hS hk)
  | n2 k p j q ihp ihq =>
    intro n l S a w hok hS h
    cases n with
    | zero => simp [Plan3.ok] at hok
    | succ n =>
      simp only [Plan3.ok, Bool.and_eq_true] at hok
      obtain ⟨⟨h1, h4⟩, h4'⟩ := hok
      have hr : Region.ready md ops l = [k, j] := by simpa using h1
      refine ⟨fun h0 => (by rw [hr] at h0; cases h0), fun i hi => ?_⟩
      rw [hr] at hi
      rcases (by simpa using hi : i = k ∨ i = j) with rfl | rfl
      · exact wpOp_mono (fun a' w' ⟨S', h5, h6, h7⟩ => ⟨S', h5, h6, ihp n _ S' a' w' h4 h6 h7⟩) h.1
      · exact wpOp_mono (fun a' w' ⟨S', h5, h6, h7⟩ => ⟨S', h5, h6, ihq n _ S' a' w' h4' h6 h7⟩) h.2
  | n3 k p j q i r ihp ihq ihr =>
    intro n l S a w hok hS h
    cases n with
    | zero => simp [Plan3.ok] at hok
    | succ n =>
      simp only [Plan3.ok, Bool.and_eq_true] at hok
      obtain ⟨⟨⟨h1, h4⟩, h4'⟩, h4''⟩ := hok
      have hr : Region.ready md ops l = [k, j, i] := by simpa using h1
      refine ⟨fun h0 => (by rw [hr] at h0; cases h0), fun i' hi => ?_⟩
      rw [hr] at hi
      rcases (by simpa using hi : i' = k ∨ i' = j ∨ i' = i) with rfl | rfl | rfl
      · exact wpOp_mono (fun a' w' ⟨S', h5, h6, h7⟩ => ⟨S', h5, h6, ihp n _ S' a' w' h4 h6 h7⟩) h.1
      · exact wpOp_mono (fun a' w' ⟨S', h5, h6, h7⟩ => ⟨S', h5, h6, ihq n _ S' a' w' h4' h6 h7⟩) h.2.1
      · exact wpOp_mono (fun a' w' ⟨S', h5, h6, h7⟩ => ⟨S', h5, h6, ihr n _ S' a' w' h4'' h6 h7⟩) h.2.2

/-- A REGION THAT DRAWS, BY A PLAN OF THREES. -/
theorem wp_plan3 {id : Nat} {l : List Oper} {a : Act} {w : World} (p : Plan3) (S : World → Prop) (hm : P.follows .mixedOrders = true) (hs : Region.noSelect l.toArray = true)
    (hok : p.ok .any l.toArray l.length (Array.replicate l.length false) = true) (hQ : ∀ c a d v w, Q (.panic c) (a.put d v) w → Q (.panic c) a w) (hS : S w.drew)
    (h : p.wp P l.toArray Q S a w.drew) : (Code.region id l.toArray true).wp P Q a w :=
  wp_region_any hm (wpAny_of_G _ _ S _ _ (by simpa using wpAnyG_of_plan3 hs hQ p l.length (Array.replicate l.length false) S a w.drew hok hS h))

theorem plan3_t_load {l : List Oper} {k : Nat} {p : Plan3} {S : World → Prop} {a : Act} {w : World} {o : Oper} (ho : l[k]? = some o) (hw : Region.wanted o (yielded l.toArray a.tmps) = true) (ty : TypeId) (x : Operand) (hop : o.op = .load ty x)
    (g off : Nat) (hx : a.eval x = .pointer (some ⟨g, off, none⟩)) (cs : List Value) (d : TypeDesc) (hS : ∀ w, S w → w.rangeAt g off cs) (hu : P.underlying ty = some d) (hd : d.isRow = true) (hi : (P.info? ty).map (·.size) = some cs.length)
    (h : p.wp P l.toArray Q S (a.put o.dst (.agg cs.toArray)) w) : (Plan3.t k p).wp P l.toArray Q S a w := by
  refine ⟨o, by simpa using ho, wpQuiet_step fun K hK => ?_⟩
  rw [if_pos hw]
  refine ⟨.agg cs.toArray, fun y hy => ?_, hK _ (wpQuiet_nil h)⟩
  obtain ⟨s, rfl⟩ := hy
  unfold Oper.quietAt execOp
  simp only [hop, hx, Instr.loadAt, Instr.sureAddr, Sem.run_bind, Sem.run_pure, Result.andThen_ok, run_loadVar_mid s.w g off ty cs d (hS s.w s.h) hu hd hi]
  exact ⟨rfl, rfl⟩
/-- one operation of a node: what follows is met in the same class. -/
theorem op_half {l : List Oper} {k : Nat} {R : (World → Prop) → Act → World → Prop} {S : World → Prop} {a : Act} {w : World} {o : Oper} (ho : l[k]? = some o) (hw : Region.wanted o (yielded l.toArray a.tmps) = true)
    (h : ∀ K' : Act → World → Prop, (∀ a' w', S w' ∧ R S a' w' → K' a' w') → Oper.wp P o a w K' Q) : wpOp P l.toArray Q k (fun a' w' => ∃ S' : World → Prop, (∀ x, S' x → S x) ∧ S' w' ∧ R S' a' w') a w :=
  wpOp_step (by simpa using ho) fun K' hK => by rw [if_pos hw]; exact h K' fun a' w' ⟨h2, h3⟩ => hK a' w' ⟨S, fun _ h => h, h2, h3⟩
end
end Go.Proofs.Ythofbckkjcidmaa
namespace Go.Proofs.Ythofbckkjcidmaa
open Go.RowKit
set_option linter.unusedVariables false

theorem khead0_any (w : World) (xs xt xf xw : Int) (a : Option Addr) (tl tc : Nat) (k : List Int) (xp : Bool) (htc : tl ≤ tc) (htm : tc ≤ 9223372036854775807) (hI : IntsK .u8 w a tl k)
    (hs : -9223372036854775808 ≤ xs ∧ xs ≤ 9223372036854775807) (ht : -9223372036854775808 ≤ xt ∧ xt ≤ 9223372036854775807) (hf : -9223372036854775808 ≤ xf ∧ xf ≤ 9223372036854775807) (hw : -9223372036854775808 ≤ xw ∧ xw ≤ 9223372036854775807) :
    Calls Try.prog 8 #[.agg #[.int .i64 xs, .int .i64 xt, .int .i64 xf, .int .i64 xw, .slice a tl tc, .bool xp]] w fun e w' => e = .returned ((keepH xs xt xf xw k xp).val (if (keepH xs xt xf xw k xp).s = 0 then a else none) (if (keepH xs xt xf xw k xp).s = 0 then tc else 0)) ∧ Below w.heap.size w w' := by
  have h1 := within_in xs 0 2 (by omega)
  have h2 := within_in xw 1 4 (by omega)
  have HC := fun n h w => kcid_any w n h
  have hcm : ∀ n, (cidM n).map (Value.int .u8) = [.int .u8 1, .int .u8 (within n 0 1048576 % 5), .int .u8 7, .int .u8 0, .int .u8 0, .int .u8 0, .int .u8 0, .int .u8 0] := fun n => rfl
  have hkl := hI.1
  refine khead_core w xs xt xf xw (within xs 0 2) (within xw 1 4) (within xt 0 1048576 % 5) (within xf 0 1048576 % 5) a tl tc xp htc htm h1 h2
    (Lib.hid fun w => within_any w xs 0 2 (by omega) (by omega) (by omega) hs) (Lib.hid fun w => within_any w xw 1 4 (by omega) (by omega) (by omega) hw)
    (Lib.hid fun w => by have h := HC xt ht w; rw [hcm] at h; exact h) (Lib.hid fun w => by have h := HC xf hf w; rw [hcm] at h; exact h) _
    (Lib.hid fun e w' b => ?_) (Lib.hid fun e w' b => ?_) (Lib.hid fun e w' b => ?_)
  · unfold keepH; rw [if_pos e]
    exact ⟨rfl, b⟩
  · unfold keepH; rw [if_neg (by omega), if_neg (by omega)]
    refine ⟨?_, b⟩
    rw [if_neg (by simp only; omega), if_neg (by simp only; omega), e]; rfl
  · unfold keepH; rw [if_neg (by omega), if_pos e]
    have hm : (k.take 32).length = min tl 32 := by rw [List.length_take, hkl]; omega
    refine ⟨?_, b⟩
    rw [if_pos rfl, if_pos rfl]
    show Ending.returned _ = Ending.returned (Value.agg (Hd.row _ _ _).toArray)
    unfold Hd.row
    simp only [hm]
    rfl
theorem keep_ints {w : World} {a : Option Addr} {tl : Nat} {k : List Int} (xs xt xf xw : Int) (xp : Bool) (hI : IntsK .u8 w a tl k) :
    IntsK .u8 w (if (keepH xs xt xf xw k xp).s = 0 then a else none) (keepH xs xt xf xw k xp).k.length (keepH xs xt xf xw k xp).k := by
  have hkl := hI.1
  unfold keepH
  split
  · exact IntsK.nil _ _ _
  · split
    · have hm : (k.take 32).length = min tl 32 := by rw [List.length_take, hkl]; omega
      simp only
      rw [hm, if_pos trivial]
      have h := hI.pre (min tl 32) (by omega)
      rw [show k.take 32 = k.take (min tl 32) by rcases Nat.le_total tl 32 with h | h; rw [Nat.min_eq_left h, List.take_of_length_le (by omega), List.take_of_length_le (by omega)]; rw [Nat.min_eq_right h]]
      exact h
    · exact IntsK.nil _ _ _
end Go.Proofs.Ythofbckkjcidmaa
namespace Go.Proofs.Ythofbckkjcidmaa
open Go.RowKit
set_option linter.unusedVariables false
set_option linter.unusedSimpArgs false

/-- a short head: the packet takes all that is there. -/
theorem par_all {b : List Int} {r : Hd × Nat × Nat} (Z : List Int) (h : parM b = some r) (hs : r.1.s = 2) : ∃ hd at', parM (b ++ Z) = some (hd, at', (b ++ Z).length) := by
  cases b with
  | nil => rw [parM_nil] at h; cases h
  | cons x T =>
    rw [parM_cons] at h
    rw [List.cons_append, parM_cons]
    by_cases h64 : x / 64 % 2 = 0
    · rw [if_pos h64] at h; cases h
    rw [if_neg h64] at h ⊢
    by_cases h128 : x / 128 % 2 = 0
    · rw [if_pos h128] at h ⊢
      by_cases hc : (rdM T false 8).2.2 = true ∨ (rdM T false 8).2.1.length < 12
      · rw [if_pos hc] at h; cases h
      · have hc' := not_or.1 hc
        obtain ⟨_, hm, _⟩ := rd_more (bs := T) (n := 8) (bad := false) Z (by simpa using hc'.1)
        rw [hm, if_neg (by simp only [Bool.false_eq_true, false_or, List.length_append]; omega)]
        exact ⟨_, _, by rw [List.length_cons]⟩
    · rw [if_neg h128] at h
      exfalso
      unfold lgM at h
      simp only at h
      split at h
      · rename_i heq
        cases h
      · rename_i g heq
        split at heq
        · rename_i hg
          injection heq with heq
          split at h
          · cases h
          · injection h with h
            rw [← h] at hs
            simp only at hs
            have := hg.1
            rw [← heq] at hs
            simp only at hs
            omega
        · cases heq
theorem par_s {km : Int} {b : List Int} {r : Rv} (h : revM km b = some r) : ∃ q, parM b = some q ∧ q.1.s = r.h.s ∧ q.2.2 = r.en := by
  unfold revM at h
  cases hp : parM b with
  | none => rw [hp] at h; cases h
  | some q =>
    obtain ⟨hd, at', en⟩ := q
    rw [hp] at h; simp only [Option.some.injEq] at h
    exact ⟨_, rfl, by rw [← h], by rw [← h]⟩
/-- where a packet ends that stands ahead of others. -/
theorem par_behind {ks km n : Int} {h : Hd} {pl b : List Int} (Z : List Int) (hp : protM ks km h n pl = some b) (hok : h.ok) (hpl : ∀ x ∈ pl, (Lit.int .u8 x).wf = true) :
    ∃ hd at', parM (b ++ Z) = some (hd, at', if h.s = 2 then b.length + Z.length else b.length) := by
  by_cases h2 : h.s = 2
  · rw [if_pos h2, ← List.length_append]
    obtain ⟨⟨c1, c2, c3, c4⟩, hb⟩ := prot_cond hp
    have hr := (hrightM_eq h).1 c1
    obtain ⟨k, hk⟩ : ∃ k : Nat, (k : Int) = h.w + pl.length + 8 := ⟨(h.w + pl.length + 8).toNat, by have := hr.1; omega⟩
    rw [← hk] at hb
    have hrev := rev_prot ks km h n pl [] hok hr k hk (by omega) (by omega) hpl (.inr rfl)
    rw [List.append_nil, ← hb] at hrev
    obtain ⟨q, hq, hs, _⟩ := par_s hrev
    exact par_all Z hq (hs.trans h2)
  · rw [if_neg h2]
    exact par_of Z hp hok hpl (.inl h2)

set_option maxRecDepth 100000 in
set_option maxHeartbeats 16000000 in
theorem back_r2 {x0 x1 x2 x3 x4 x5 x8 x9 x10 x11 x12 x13 x14 x15 x16 x17 x18 x19 x20 x21 x22 x23 x24 x25 x26 x27 x28 x29 x30 x31 x32 x33 x34 x35 x36 x37 x38 x39 x40 x41 x42 x43 x44 x45 x46 x47 x48 x49 x50 x51 x52 x53 x54 x55 x56 x57 x58 x59 x60 x61 x62 x63 x64 x65 x66 x67 x68 x69 x70 x71 x72 x73 x74 x75 x76 x77 x78 x79 x80 x81 x82 x83 x84 x85 x86 x87 x88 x89 x90 x91 x92 x93 x94 x95 x96 x97 x98 x99 x100 x101 x102 x103 x104 x105 x106 x107 x108 x109 x110 x111 x112 x113 x114 x115 x116 x117 x118 x119 x120 x121 x122 x123 x124 x125 x126 x127 x128 : Value} {gx gy : Nat} {X Y R1 R2 : List Value} (w : World) {Q : Exit → Act → World → Prop}
    (HGX : Hid (w.heap[gx]? = some (.cells X.toArray 25 (0, 0)))) (HGY : Hid (w.heap[gy]? = some (.cells Y.toArray 25 (0, 0)))) (HXL : Hid (X.length = 6)) (HYL : Hid (Y.length = 6)) (HRL1 : Hid (R1.length = 20)) (HRO1 : Hid (∀ v ∈ R1, v.oneCell' = true)) (HRL2 : Hid (R2.length = 20)) (HRO2 : Hid (∀ v ∈ R2, v.oneCell' = true)) (HH1 : Hid (∀ W', Below w.heap.size w W' → Makes Try.prog 8 #[.agg X.toArray] W' (.agg R1.toArray))) (HH2 : Hid (∀ W', Below w.heap.size w W' → Makes Try.prog 8 #[.agg Y.toArray] W' (.agg R2.toArray)))
    (hQp : ∀ c a d v w, Q (.panic c) (a.put d v) w → Q (.panic c) a w)
    (hQ : ∀ (y26 y27 y28 y29 : Value) (g1 g2 : Nat) (w' : World), Below w.heap.size w w' → w'.heap[g1]? = some (.cells R1.toArray 32 (0, 0)) → w'.heap[g2]? = some (.cells R2.toArray 32 (0, 0)) → Q .normal ⟨List.toArray (x0 :: x1 :: x2 :: x3 :: x4 :: x5 :: .pointer (some ⟨gx, 0, none⟩) :: .pointer (some ⟨gy, 0, none⟩) :: x8 :: x9 :: x10 :: x11 :: .pointer (some ⟨g1, 0, none⟩) :: .pointer (some ⟨g2, 0, none⟩) :: x14 :: x15 :: x16 :: x17 :: x18 :: x19 :: x20 :: x21 :: x22 :: x23 :: x24 :: x25 :: y26 :: y27 :: y28 :: y29 :: x30 :: x31 :: x32 :: x33 :: x34 :: x35 :: x36 :: x37 :: x38 :: x39 :: x40 :: x41 :: x42 :: x43 :: x44 :: x45 :: x46 :: x47 :: x48 :: x49 :: x50 :: x51 :: x52 :: x53 :: x54 :: x55 :: x56 :: x57 :: x58 :: x59 :: x60 :: x61 :: x62 :: x63 :: x64 :: x65 :: x66 :: x67 :: x68 :: x69 :: x70 :: x71 :: x72 :: x73 :: x74 :: x75 :: x76 :: x77 :: x78 :: x79 :: x80 :: x81 :: x82 :: x83 :: x84 :: x85 :: x86 :: x87 :: x88 :: x89 :: x90 :: x91 :: x92 :: x93 :: x94 :: x95 :: x96 :: x97 :: x98 :: x99 :: x100 :: x101 :: x102 :: x103 :: x104 :: x105 :: x106 :: x107 :: x108 :: x109 :: x110 :: x111 :: x112 :: x113 :: x114 :: x115 :: x116 :: x117 :: x118 :: x119 :: x120 :: x121 :: x122 :: x123 :: x124 :: x125 :: x126 :: x127 :: x128 :: []), []⟩ w') :
    Code.wp Try.prog (((Try.f3.body.bind (subRegion 2)).getD .skip)) Q ⟨List.toArray (x0 :: x1 :: x2 :: x3 :: x4 :: x5 :: .pointer (some ⟨gx, 0, none⟩) :: .pointer (some ⟨gy, 0, none⟩) :: x8 :: x9 :: x10 :: x11 :: x12 :: x13 :: x14 :: x15 :: x16 :: x17 :: x18 :: x19 :: x20 :: x21 :: x22 :: x23 :: x24 :: x25 :: x26 :: x27 :: x28 :: x29 :: x30 :: x31 :: x32 :: x33 :: x34 :: x35 :: x36 :: x37 :: x38 :: x39 :: x40 :: x41 :: x42 :: x43 :: x44 :: x45 :: x46 :: x47 :: x48 :: x49 :: x50 :: x51 :: x52 :: x53 :: x54 :: x55 :: x56 :: x57 :: x58 :: x59 :: x60 :: x61 :: x62 :: x63 :: x64 :: x65 :: x66 :: x67 :: x68 :: x69 :: x70 :: x71 :: x72 :: x73 :: x74 :: x75 :: x76 :: x77 :: x78 :: x79 :: x80 :: x81 :: x82 :: x83 :: x84 :: x85 :: x86 :: x87 :: x88 :: x89 :: x90 :: x91 :: x92 :: x93 :: x94 :: x95 :: x96 :: x97 :: x98 :: x99 :: x100 :: x101 :: x102 :: x103 :: x104 :: x105 :: x106 :: x107 :: x108 :: x109 :: x110 :: x111 :: x112 :: x113 :: x114 :: x115 :: x116 :: x117 :: x118 :: x119 :: x120 :: x121 :: x122 :: x123 :: x124 :: x125 :: x126 :: x127 :: x128 :: []), []⟩ w := by
  have HK := Lib.hid hQ; have HKP := Lib.hid hQp
  clear hQ hQp
  conv => arg 2; whnf
  refine wp_plan3 (.t 0 (.t 2 (.n3 1 (.n3 3 (.n2 4 (.old (.u 5 (.u 6 (.u 7 .done)))) 5 (.old (.u 4 (.u 6 (.u 7 .done))))) 4 (.n2 3 (.old (.u 5 (.u 6 (.u 7 .done)))) 5 (.old (.u 3 (.u 6 (.u 7 .done))))) 5 (.n2 3 (.old (.u 4 (.u 6 (.u 7 .done)))) 4 (.old (.u 3 (.u 6 (.u 7 .done)))))) 4 (.n2 1 (.n2 3 (.old (.u 5 (.u 6 (.u 7 .done)))) 5 (.old (.u 3 (.u 6 (.u 7 .done))))) 5 (.old (.u 1 (.u 3 (.u 6 (.u 7 .done)))))) 5 (.n2 1 (.n2 3 (.old (.u 4 (.u 6 (.u 7 .done)))) 4 (.old (.u 3 (.u 6 (.u 7 .done))))) 4 (.old (.u 1 (.u 3 (.u 6 (.u 7 .done))))))))) (fun y => Below w.heap.size w y) (by kernel_rfl) (by kernel_rfl) (by kernel_rfl) (fun c a d v w h => by first | (cases d <;> exact h) | exact HKP.out c a d v w h) (Below.refl _ _).drew ?_
  have hS : Below w.heap.size w w.drew := (Below.refl _ _).drew
  generalize w.drew = W0 at hS ⊢
  haveI hne2 : Nonempty (In (fun y => Below w.heap.size w y)) := ⟨⟨w, Below.refl _ _⟩⟩
  refine plan3_t_load (by rfl) (by kernel_rfl) 25 _ rfl gx 0 rfl X _ (fun y hy => rngL (bl_row hy (lt_of_block HGX.out) HGX.out)) Try.underlying25 rfl (by rw [HXL.out]; rfl) ?_
  simp only [Act.put, List.setIfInBounds_toArray, List.set_cons_succ, List.set_cons_zero]
  refine plan3_t_load (by rfl) (by kernel_rfl) 25 _ rfl gy 0 rfl Y _ (fun y hy => rngL (bl_row hy (lt_of_block HGY.out) HGY.out)) Try.underlying25 rfl (by rw [HYL.out]; rfl) ?_
  simp only [Act.put, List.setIfInBounds_toArray, List.set_cons_succ, List.set_cons_zero]
  refine ⟨?_, ?_, ?_⟩
  · refine op_half (by rfl) (by kernel_rfl) ?_
    intro K hK
    go_wp2_with fail
    refine Calls.mono (HH1.out _ hS) ?_
    rintro e w1 ⟨rfl, hb⟩
    replace hS := bl_next hS hS.size hb
    clear hb
    go_wp2_with fail
    refine ⟨hS, ?_⟩
    refine ⟨?_, ?_, ?_⟩
    · refine op_half (by rfl) (by kernel_rfl) ?_
      intro K hK
      go_wp2_with fail
      refine Calls.mono (HH2.out _ hS) ?_
      rintro e w2 ⟨rfl, hb⟩
      replace hS := bl_next hS hS.size hb
      clear hb
      go_wp2_with fail
      refine ⟨hS, ?_⟩
      refine ⟨?_, ?_⟩
      · refine op_half (by rfl) (by kernel_rfl) ?_
        intro K hK
        go_wp2_with fail
        refine ⟨hS.alloc hS.size _, ?_⟩
        have hb := (Below.refl w2.heap.size w2).alloc (Nat.le_refl _) (.cells ((.int .i64 0 :: .int .u8 0 :: .int .u8 0 :: .int .u8 0 :: .int .u8 0 :: .int .u8 0 :: .int .u8 0 :: .int .u8 0 :: .int .u8 0 :: .int .u8 0 :: .int .u8 0 :: .int .u8 0 :: .int .u8 0 :: .int .u8 0 :: .int .u8 0 :: .int .u8 0 :: .int .u8 0 :: .slice none 0 0 :: .int .i64 0 :: .bool false :: [])).toArray 32)
        have hra := heap_alloc_new w2 (.cells ((.int .i64 0 :: .int .u8 0 :: .int .u8 0 :: .int .u8 0 :: .int .u8 0 :: .int .u8 0 :: .int .u8 0 :: .int .u8 0 :: .int .u8 0 :: .int .u8 0 :: .int .u8 0 :: .int .u8 0 :: .int .u8 0 :: .int .u8 0 :: .int .u8 0 :: .int .u8 0 :: .int .u8 0 :: .slice none 0 0 :: .int .i64 0 :: .bool false :: [])).toArray 32)
        have hgea := hS.size
        replace hS := hS.alloc hS.size (.cells ((.int .i64 0 :: .int .u8 0 :: .int .u8 0 :: .int .u8 0 :: .int .u8 0 :: .int .u8 0 :: .int .u8 0 :: .int .u8 0 :: .int .u8 0 :: .int .u8 0 :: .int .u8 0 :: .int .u8 0 :: .int .u8 0 :: .int .u8 0 :: .int .u8 0 :: .int .u8 0 :: .int .u8 0 :: .slice none 0 0 :: .int .i64 0 :: .bool false :: [])).toArray 32)
        clear hb
        generalize w2.alloc (.cells ((.int .i64 0 :: .int .u8 0 :: .int .u8 0 :: .int .u8 0 :: .int .u8 0 :: .int .u8 0 :: .int .u8 0 :: .int .u8 0 :: .int .u8 0 :: .int .u8 0 :: .int .u8 0 :: .int .u8 0 :: .int .u8 0 :: .int .u8 0 :: .int .u8 0 :: .int .u8 0 :: .int .u8 0 :: .slice none 0 0 :: .int .i64 0 :: .bool false :: [])).toArray 32) = w3 at hS hra  ⊢
        obtain ⟨ga, hga⟩ : ∃ g, w2.heap.size = g := ⟨_, rfl⟩
        rw [hga] at hra hgea  ⊢
        clear hga
        show Plan.wp _ _ _ _ _ _ _
        refine plan_us (by rfl) (by kernel_rfl) ?_
        intro K hK
        go_wp2_with fail
        refine ⟨hS.alloc hS.size _, ?_⟩
        have hb := (Below.refl w3.heap.size w3).alloc (Nat.le_refl _) (.cells ((.int .i64 0 :: .int .u8 0 :: .int .u8 0 :: .int .u8 0 :: .int .u8 0 :: .int .u8 0 :: .int .u8 0 :: .int .u8 0 :: .int .u8 0 :: .int .u8 0 :: .int .u8 0 :: .int .u8 0 :: .int .u8 0 :: .int .u8 0 :: .int .u8 0 :: .int .u8 0 :: .int .u8 0 :: .slice none 0 0 :: .int .i64 0 :: .bool false :: [])).toArray 32)
        have hlt := lt_of_block hra
        replace hra := bl_row hb (lt_of_block hra) hra
        have hrb := heap_alloc_new w3 (.cells ((.int .i64 0 :: .int .u8 0 :: .int .u8 0 :: .int .u8 0 :: .int .u8 0 :: .int .u8 0 :: .int .u8 0 :: .int .u8 0 :: .int .u8 0 :: .int .u8 0 :: .int .u8 0 :: .int .u8 0 :: .int .u8 0 :: .int .u8 0 :: .int .u8 0 :: .int .u8 0 :: .int .u8 0 :: .slice none 0 0 :: .int .i64 0 :: .bool false :: [])).toArray 32)
        have hgeb := hS.size
        replace hS := hS.alloc hS.size (.cells ((.int .i64 0 :: .int .u8 0 :: .int .u8 0 :: .int .u8 0 :: .int .u8 0 :: .int .u8 0 :: .int .u8 0 :: .int .u8 0 :: .int .u8 0 :: .int .u8 0 :: .int .u8 0 :: .int .u8 0 :: .int .u8 0 :: .int .u8 0 :: .int .u8 0 :: .int .u8 0 :: .int .u8 0 :: .slice none 0 0 :: .int .i64 0 :: .bool false :: [])).toArray 32)
        clear hb
        generalize w3.alloc (.cells ((.int .i64 0 :: .int .u8 0 :: .int .u8 0 :: .int .u8 0 :: .int .u8 0 :: .int .u8 0 :: .int .u8 0 :: .int .u8 0 :: .int .u8 0 :: .int .u8 0 :: .int .u8 0 :: .int .u8 0 :: .int .u8 0 :: .int .u8 0 :: .int .u8 0 :: .int .u8 0 :: .int .u8 0 :: .slice none 0 0 :: .int .i64 0 :: .bool false :: [])).toArray 32) = w4 at hS hrb hra ⊢
        obtain ⟨gb, hgb⟩ : ∃ g, w3.heap.size = g := ⟨_, rfl⟩
        rw [hgb] at hrb hgeb hlt ⊢
        clear hgb
        have hne : gb ≠ ga := by omega
        refine plan_us (by rfl) (by kernel_rfl) ?_
        intro K hK
        skip
        refine wp_store_row 32 _ _ rfl ga rfl R1 (.int .i64 0 :: .int .u8 0 :: .int .u8 0 :: .int .u8 0 :: .int .u8 0 :: .int .u8 0 :: .int .u8 0 :: .int .u8 0 :: .int .u8 0 :: .int .u8 0 :: .int .u8 0 :: .int .u8 0 :: .int .u8 0 :: .int .u8 0 :: .int .u8 0 :: .int .u8 0 :: .int .u8 0 :: .slice none 0 0 :: .int .i64 0 :: .bool false :: []) rfl 32 hra (by rw [HRL1.out]; rfl) (by rw [HRL1.out]; rfl) HRO1.out ?_
        intro w5 hr hg
        replace hS := hS.grown hg hS.size (by intro k hk; injection hk with hk; omega)
        replace hrb := grown_row hg (by intro e; injection e with e; omega) hrb
        replace hra := hr
        clear hr hg
        refine hK _ _ ⟨hS, ?_⟩
        refine plan_us (by rfl) (by kernel_rfl) ?_
        intro K hK
        skip
        refine wp_store_row 32 _ _ rfl gb rfl R2 (.int .i64 0 :: .int .u8 0 :: .int .u8 0 :: .int .u8 0 :: .int .u8 0 :: .int .u8 0 :: .int .u8 0 :: .int .u8 0 :: .int .u8 0 :: .int .u8 0 :: .int .u8 0 :: .int .u8 0 :: .int .u8 0 :: .int .u8 0 :: .int .u8 0 :: .int .u8 0 :: .int .u8 0 :: .slice none 0 0 :: .int .i64 0 :: .bool false :: []) rfl 32 hrb (by rw [HRL2.out]; rfl) (by rw [HRL2.out]; rfl) HRO2.out ?_
        intro w6 hr hg
        replace hS := hS.grown hg hS.size (by intro k hk; injection hk with hk; omega)
        replace hra := grown_row hg (by intro e; injection e with e; omega) hra
        replace hrb := hr
        clear hr hg
        refine hK _ _ ⟨hS, ?_⟩
        clear hne2
        exact HK.out _ _ _ _ ga gb _ hS hra hrb
      · refine op_half (by rfl) (by kernel_rfl) ?_
        intro K hK
        go_wp2_with fail
        refine ⟨hS.alloc hS.size _, ?_⟩
        have hb := (Below.refl w2.heap.size w2).alloc (Nat.le_refl _) (.cells ((.int .i64 0 :: .int .u8 0 :: .int .u8 0 :: .int .u8 0 :: .int .u8 0 :: .int .u8 0 :: .int .u8 0 :: .int .u8 0 :: .int .u8 0 :: .int .u8 0 :: .int .u8 0 :: .int .u8 0 :: .int .u8 0 :: .int .u8 0 :: .int .u8 0 :: .int .u8 0 :: .int .u8 0 :: .slice none 0 0 :: .int .i64 0 :: .bool false :: [])).toArray 32)
        have hrb := heap_alloc_new w2 (.cells ((.int .i64 0 :: .int .u8 0 :: .int .u8 0 :: .int .u8 0 :: .int .u8 0 :: .int .u8 0 :: .int .u8 0 :: .int .u8 0 :: .int .u8 0 :: .int .u8 0 :: .int .u8 0 :: .int .u8 0 :: .int .u8 0 :: .int .u8 0 :: .int .u8 0 :: .int .u8 0 :: .int .u8 0 :: .slice none 0 0 :: .int .i64 0 :: .bool false :: [])).toArray 32)
        have hgeb := hS.size
        replace hS := hS.alloc hS.size (.cells ((.int .i64 0 :: .int .u8 0 :: .int .u8 0 :: .int .u8 0 :: .int .u8 0 :: .int .u8 0 :: .int .u8 0 :: .int .u8 0 :: .int .u8 0 :: .int .u8 0 :: .int .u8 0 :: .int .u8 0 :: .int .u8 0 :: .int .u8 0 :: .int .u8 0 :: .int .u8 0 :: .int .u8 0 :: .slice none 0 0 :: .int .i64 0 :: .bool false :: [])).toArray 32)
        clear hb
        generalize w2.alloc (.cells ((.int .i64 0 :: .int .u8 0 :: .int .u8 0 :: .int .u8 0 :: .int .u8 0 :: .int .u8 0 :: .int .u8 0 :: .int .u8 0 :: .int .u8 0 :: .int .u8 0 :: .int .u8 0 :: .int .u8 0 :: .int .u8 0 :: .int .u8 0 :: .int .u8 0 :: .int .u8 0 :: .int .u8 0 :: .slice none 0 0 :: .int .i64 0 :: .bool false :: [])).toArray 32) = w7 at hS hrb  ⊢
        obtain ⟨gb, hgb⟩ : ∃ g, w2.heap.size = g := ⟨_, rfl⟩
        rw [hgb] at hrb hgeb  ⊢
        clear hgb
        show Plan.wp _ _ _ _ _ _ _
        refine plan_us (by rfl) (by kernel_rfl) ?_
        intro K hK
        go_wp2_with fail
        refine ⟨hS.alloc hS.size _, ?_⟩
        have hb := (Below.refl w7.heap.size w7).alloc (Nat.le_refl _) (.cells ((.int .i64 0 :: .int .u8 0 :: .int .u8 0 :: .int .u8 0 :: .int .u8 0 :: .int .u8 0 :: .int .u8 0 :: .int .u8 0 :: .int .u8 0 :: .int .u8 0 :: .int .u8 0 :: .int .u8 0 :: .int .u8 0 :: .int .u8 0 :: .int .u8 0 :: .int .u8 0 :: .int .u8 0 :: .slice none 0 0 :: .int .i64 0 :: .bool false :: [])).toArray 32)
        have hlt := lt_of_block hrb
        replace hrb := bl_row hb (lt_of_block hrb) hrb
        have hra := heap_alloc_new w7 (.cells ((.int .i64 0 :: .int .u8 0 :: .int .u8 0 :: .int .u8 0 :: .int .u8 0 :: .int .u8 0 :: .int .u8 0 :: .int .u8 0 :: .int .u8 0 :: .int .u8 0 :: .int .u8 0 :: .int .u8 0 :: .int .u8 0 :: .int .u8 0 :: .int .u8 0 :: .int .u8 0 :: .int .u8 0 :: .slice none 0 0 :: .int .i64 0 :: .bool false :: [])).toArray 32)
        have hgea := hS.size
        replace hS := hS.alloc hS.size (.cells ((.int .i64 0 :: .int .u8 0 :: .int .u8 0 :: .int .u8 0 :: .int .u8 0 :: .int .u8 0 :: .int .u8 0 :: .int .u8 0 :: .int .u8 0 :: .int .u8 0 :: .int .u8 0 :: .int .u8 0 :: .int .u8 0 :: .int .u8 0 :: .int .u8 0 :: .int .u8 0 :: .int .u8 0 :: .slice none 0 0 :: .int .i64 0 :: .bool false :: [])).toArray 32)
        clear hb
        generalize w7.alloc (.cells ((.int .i64 0 :: .int .u8 0 :: .int .u8 0 :: .int .u8 0 :: .int .u8 0 :: .int .u8 0 :: .int .u8 0 :: .int .u8 0 :: .int .u8 0 :: .int .u8 0 :: .int .u8 0 :: .int .u8 0 :: .int .u8 0 :: .int .u8 0 :: .int .u8 0 :: .int .u8 0 :: .int .u8 0 :: .slice none 0 0 :: .int .i64 0 :: .bool false :: [])).toArray 32) = w8 at hS hra hrb ⊢
        obtain ⟨ga, hga⟩ : ∃ g, w7.heap.size = g := ⟨_, rfl⟩
        rw [hga] at hra hgea hlt ⊢
        clear hga
        have hne : gb ≠ ga := by omega
        refine plan_us (by rfl) (by kernel_rfl) ?_
        intro K hK
        skip
        refine wp_store_row 32 _ _ rfl ga rfl R1 (.int .i64 0 :: .int .u8 0 :: .int .u8 0 :: .int .u8 0 :: .int .u8 0 :: .int .u8 0 :: .int .u8 0 :: .int .u8 0 :: .int .u8 0 :: .int .u8 0 :: .int .u8 0 :: .int .u8 0 :: .int .u8 0 :: .int .u8 0 :: .int .u8 0 :: .int .u8 0 :: .int .u8 0 :: .slice none 0 0 :: .int .i64 0 :: .bool false :: []) rfl 32 hra (by rw [HRL1.out]; rfl) (by rw [HRL1.out]; rfl) HRO1.out ?_
        intro w9 hr hg
        replace hS := hS.grown hg hS.size (by intro k hk; injection hk with hk; omega)
        replace hrb := grown_row hg (by intro e; injection e with e; omega) hrb
        replace hra := hr
        clear hr hg
        refine hK _ _ ⟨hS, ?_⟩
        refine plan_us (by rfl) (by kernel_rfl) ?_
        intro K hK
        skip
        refine wp_store_row 32 _ _ rfl gb rfl R2 (.int .i64 0 :: .int .u8 0 :: .int .u8 0 :: .int .u8 0 :: .int .u8 0 :: .int .u8 0 :: .int .u8 0 :: .int .u8 0 :: .int .u8 0 :: .int .u8 0 :: .int .u8 0 :: .int .u8 0 :: .int .u8 0 :: .int .u8 0 :: .int .u8 0 :: .int .u8 0 :: .int .u8 0 :: .slice none 0 0 :: .int .i64 0 :: .bool false :: []) rfl 32 hrb (by rw [HRL2.out]; rfl) (by rw [HRL2.out]; rfl) HRO2.out ?_
        intro w10 hr hg
        replace hS := hS.grown hg hS.size (by intro k hk; injection hk with hk; omega)
        replace hra := grown_row hg (by intro e; injection e with e; omega) hra
        replace hrb := hr
        clear hr hg
        refine hK _ _ ⟨hS, ?_⟩
        clear hne2
        exact HK.out _ _ _ _ ga gb _ hS hra hrb
    · refine op_half (by rfl) (by kernel_rfl) ?_
      intro K hK
      go_wp2_with fail
      refine ⟨hS.alloc hS.size _, ?_⟩
      have hb := (Below.refl w1.heap.size w1).alloc (Nat.le_refl _) (.cells ((.int .i64 0 :: .int .u8 0 :: .int .u8 0 :: .int .u8 0 :: .int .u8 0 :: .int .u8 0 :: .int .u8 0 :: .int .u8 0 :: .int .u8 0 :: .int .u8 0 :: .int .u8 0 :: .int .u8 0 :: .int .u8 0 :: .int .u8 0 :: .int .u8 0 :: .int .u8 0 :: .int .u8 0 :: .slice none 0 0 :: .int .i64 0 :: .bool false :: [])).toArray 32)
      have hra := heap_alloc_new w1 (.cells ((.int .i64 0 :: .int .u8 0 :: .int .u8 0 :: .int .u8 0 :: .int .u8 0 :: .int .u8 0 :: .int .u8 0 :: .int .u8 0 :: .int .u8 0 :: .int .u8 0 :: .int .u8 0 :: .int .u8 0 :: .int .u8 0 :: .int .u8 0 :: .int .u8 0 :: .int .u8 0 :: .int .u8 0 :: .slice none 0 0 :: .int .i64 0 :: .bool false :: [])).toArray 32)
      have hgea := hS.size
      replace hS := hS.alloc hS.size (.cells ((.int .i64 0 :: .int .u8 0 :: .int .u8 0 :: .int .u8 0 :: .int .u8 0 :: .int .u8 0 :: .int .u8 0 :: .int .u8 0 :: .int .u8 0 :: .int .u8 0 :: .int .u8 0 :: .int .u8 0 :: .int .u8 0 :: .int .u8 0 :: .int .u8 0 :: .int .u8 0 :: .int .u8 0 :: .slice none 0 0 :: .int .i64 0 :: .bool false :: [])).toArray 32)
      clear hb
      generalize w1.alloc (.cells ((.int .i64 0 :: .int .u8 0 :: .int .u8 0 :: .int .u8 0 :: .int .u8 0 :: .int .u8 0 :: .int .u8 0 :: .int .u8 0 :: .int .u8 0 :: .int .u8 0 :: .int .u8 0 :: .int .u8 0 :: .int .u8 0 :: .int .u8 0 :: .int .u8 0 :: .int .u8 0 :: .int .u8 0 :: .slice none 0 0 :: .int .i64 0 :: .bool false :: [])).toArray 32) = w11 at hS hra  ⊢
      obtain ⟨ga, hga⟩ : ∃ g, w1.heap.size = g := ⟨_, rfl⟩
      rw [hga] at hra hgea  ⊢
      clear hga
      refine ⟨?_, ?_⟩
      · refine op_half (by rfl) (by kernel_rfl) ?_
        intro K hK
        go_wp2_with fail
        refine Calls.mono (HH2.out _ hS) ?_
        rintro e w12 ⟨rfl, hb⟩
        replace hS := bl_next hS hS.size hb
        replace hra := bl_row hb (lt_of_block hra) hra
        clear hb
        go_wp2_with fail
        refine ⟨hS, ?_⟩
        show Plan.wp _ _ _ _ _ _ _
        refine plan_us (by rfl) (by kernel_rfl) ?_
        intro K hK
        go_wp2_with fail
        refine ⟨hS.alloc hS.size _, ?_⟩
        have hb := (Below.refl w12.heap.size w12).alloc (Nat.le_refl _) (.cells ((.int .i64 0 :: .int .u8 0 :: .int .u8 0 :: .int .u8 0 :: .int .u8 0 :: .int .u8 0 :: .int .u8 0 :: .int .u8 0 :: .int .u8 0 :: .int .u8 0 :: .int .u8 0 :: .int .u8 0 :: .int .u8 0 :: .int .u8 0 :: .int .u8 0 :: .int .u8 0 :: .int .u8 0 :: .slice none 0 0 :: .int .i64 0 :: .bool false :: [])).toArray 32)
        have hlt := lt_of_block hra
        replace hra := bl_row hb (lt_of_block hra) hra
        have hrb := heap_alloc_new w12 (.cells ((.int .i64 0 :: .int .u8 0 :: .int .u8 0 :: .int .u8 0 :: .int .u8 0 :: .int .u8 0 :: .int .u8 0 :: .int .u8 0 :: .int .u8 0 :: .int .u8 0 :: .int .u8 0 :: .int .u8 0 :: .int .u8 0 :: .int .u8 0 :: .int .u8 0 :: .int .u8 0 :: .int .u8 0 :: .slice none 0 0 :: .int .i64 0 :: .bool false :: [])).toArray 32)
        have hgeb := hS.size
        replace hS := hS.alloc hS.size (.cells ((.int .i64 0 :: .int .u8 0 :: .int .u8 0 :: .int .u8 0 :: .int .u8 0 :: .int .u8 0 :: .int .u8 0 :: .int .u8 0 :: .int .u8 0 :: .int .u8 0 :: .int .u8 0 :: .int .u8 0 :: .int .u8 0 :: .int .u8 0 :: .int .u8 0 :: .int .u8 0 :: .int .u8 0 :: .slice none 0 0 :: .int .i64 0 :: .bool false :: [])).toArray 32)
        clear hb
        generalize w12.alloc (.cells ((.int .i64 0 :: .int .u8 0 :: .int .u8 0 :: .int .u8 0 :: .int .u8 0 :: .int .u8 0 :: .int .u8 0 :: .int .u8 0 :: .int .u8 0 :: .int .u8 0 :: .int .u8 0 :: .int .u8 0 :: .int .u8 0 :: .int .u8 0 :: .int .u8 0 :: .int .u8 0 :: .int .u8 0 :: .slice none 0 0 :: .int .i64 0 :: .bool false :: [])).toArray 32) = w13 at hS hrb hra ⊢
        obtain ⟨gb, hgb⟩ : ∃ g, w12.heap.size = g := ⟨_, rfl⟩
        rw [hgb] at hrb hgeb hlt ⊢
        clear hgb
        have hne : gb ≠ ga := by omega
        refine plan_us (by rfl) (by kernel_rfl) ?_
        intro K hK
        skip
        refine wp_store_row 32 _ _ rfl ga rfl R1 (.int .i64 0 :: .int .u8 0 :: .int .u8 0 :: .int .u8 0 :: .int .u8 0 :: .int .u8 0 :: .int .u8 0 :: .int .u8 0 :: .int .u8 0 :: .int .u8 0 :: .int .u8 0 :: .int .u8 0 :: .int .u8 0 :: .int .u8 0 :: .int .u8 0 :: .int .u8 0 :: .int .u8 0 :: .slice none 0 0 :: .int .i64 0 :: .bool false :: []) rfl 32 hra (by rw [HRL1.out]; rfl) (by rw [HRL1.out]; rfl) HRO1.out ?_
        intro w14 hr hg
        replace hS := hS.grown hg hS.size (by intro k hk; injection hk with hk; omega)
        replace hrb := grown_row hg (by intro e; injection e with e; omega) hrb
        replace hra := hr
        clear hr hg
        refine hK _ _ ⟨hS, ?_⟩
        refine plan_us (by rfl) (by kernel_rfl) ?_
        intro K hK
        skip
        refine wp_store_row 32 _ _ rfl gb rfl R2 (.int .i64 0 :: .int .u8 0 :: .int .u8 0 :: .int .u8 0 :: .int .u8 0 :: .int .u8 0 :: .int .u8 0 :: .int .u8 0 :: .int .u8 0 :: .int .u8 0 :: .int .u8 0 :: .int .u8 0 :: .int .u8 0 :: .int .u8 0 :: .int .u8 0 :: .int .u8 0 :: .int .u8 0 :: .slice none 0 0 :: .int .i64 0 :: .bool false :: []) rfl 32 hrb (by rw [HRL2.out]; rfl) (by rw [HRL2.out]; rfl) HRO2.out ?_
        intro w15 hr hg
        replace hS := hS.grown hg hS.size (by intro k hk; injection hk with hk; omega)
        replace hra := grown_row hg (by intro e; injection e with e; omega) hra
        replace hrb := hr
        clear hr hg
        refine hK _ _ ⟨hS, ?_⟩
        clear hne2
        exact HK.out _ _ _ _ ga gb _ hS hra hrb
      · refine op_half (by rfl) (by kernel_rfl) ?_
        intro K hK
        go_wp2_with fail
        refine ⟨hS.alloc hS.size _, ?_⟩
        have hb := (Below.refl w11.heap.size w11).alloc (Nat.le_refl _) (.cells ((.int .i64 0 :: .int .u8 0 :: .int .u8 0 :: .int .u8 0 :: .int .u8 0 :: .int .u8 0 :: .int .u8 0 :: .int .u8 0 :: .int .u8 0 :: .int .u8 0 :: .int .u8 0 :: .int .u8 0 :: .int .u8 0 :: .int .u8 0 :: .int .u8 0 :: .int .u8 0 :: .int .u8 0 :: .slice none 0 0 :: .int .i64 0 :: .bool false :: [])).toArray 32)
        have hlt := lt_of_block hra
        replace hra := bl_row hb (lt_of_block hra) hra
        have hrb := heap_alloc_new w11 (.cells ((.int .i64 0 :: .int .u8 0 :: .int .u8 0 :: .int .u8 0 :: .int .u8 0 :: .int .u8 0 :: .int .u8 0 :: .int .u8 0 :: .int .u8 0 :: .int .u8 0 :: .int .u8 0 :: .int .u8 0 :: .int .u8 0 :: .int .u8 0 :: .int .u8 0 :: .int .u8 0 :: .int .u8 0 :: .slice none 0 0 :: .int .i64 0 :: .bool false :: [])).toArray 32)
        have hgeb := hS.size
        replace hS := hS.alloc hS.size (.cells ((.int .i64 0 :: .int .u8 0 :: .int .u8 0 :: .int .u8 0 :: .int .u8 0 :: .int .u8 0 :: .int .u8 0 :: .int .u8 0 :: .int .u8 0 :: .int .u8 0 :: .int .u8 0 :: .int .u8 0 :: .int .u8 0 :: .int .u8 0 :: .int .u8 0 :: .int .u8 0 :: .int .u8 0 :: .slice none 0 0 :: .int .i64 0 :: .bool false :: [])).toArray 32)
        clear hb
        generalize w11.alloc (.cells ((.int .i64 0 :: .int .u8 0 :: .int .u8 0 :: .int .u8 0 :: .int .u8 0 :: .int .u8 0 :: .int .u8 0 :: .int .u8 0 :: .int .u8 0 :: .int .u8 0 :: .int .u8 0 :: .int .u8 0 :: .int .u8 0 :: .int .u8 0 :: .int .u8 0 :: .int .u8 0 :: .int .u8 0 :: .slice none 0 0 :: .int .i64 0 :: .bool false :: [])).toArray 32) = w16 at hS hrb hra ⊢
        obtain ⟨gb, hgb⟩ : ∃ g, w11.heap.size = g := ⟨_, rfl⟩
        rw [hgb] at hrb hgeb hlt ⊢
        clear hgb
        have hne : gb ≠ ga := by omega
        show Plan.wp _ _ _ _ _ _ _
        refine plan_us (by rfl) (by kernel_rfl) ?_
        intro K hK
        go_wp2_with fail
        refine Calls.mono (HH2.out _ hS) ?_
        rintro e w17 ⟨rfl, hb⟩
        replace hS := bl_next hS hS.size hb
        replace hra := bl_row hb (lt_of_block hra) hra
        replace hrb := bl_row hb (lt_of_block hrb) hrb
        clear hb
        go_wp2_with fail
        refine ⟨hS, ?_⟩
        refine plan_us (by rfl) (by kernel_rfl) ?_
        intro K hK
        skip
        refine wp_store_row 32 _ _ rfl ga rfl R1 (.int .i64 0 :: .int .u8 0 :: .int .u8 0 :: .int .u8 0 :: .int .u8 0 :: .int .u8 0 :: .int .u8 0 :: .int .u8 0 :: .int .u8 0 :: .int .u8 0 :: .int .u8 0 :: .int .u8 0 :: .int .u8 0 :: .int .u8 0 :: .int .u8 0 :: .int .u8 0 :: .int .u8 0 :: .slice none 0 0 :: .int .i64 0 :: .bool false :: []) rfl 32 hra (by rw [HRL1.out]; rfl) (by rw [HRL1.out]; rfl) HRO1.out ?_
        intro w18 hr hg
        replace hS := hS.grown hg hS.size (by intro k hk; injection hk with hk; omega)
        replace hrb := grown_row hg (by intro e; injection e with e; omega) hrb
        replace hra := hr
        clear hr hg
        refine hK _ _ ⟨hS, ?_⟩
        refine plan_us (by rfl) (by kernel_rfl) ?_
        intro K hK
        skip
        refine wp_store_row 32 _ _ rfl gb rfl R2 (.int .i64 0 :: .int .u8 0 :: .int .u8 0 :: .int .u8 0 :: .int .u8 0 :: .int .u8 0 :: .int .u8 0 :: .int .u8 0 :: .int .u8 0 :: .int .u8 0 :: .int .u8 0 :: .int .u8 0 :: .int .u8 0 :: .int .u8 0 :: .int .u8 0 :: .int .u8 0 :: .int .u8 0 :: .slice none 0 0 :: .int .i64 0 :: .bool false :: []) rfl 32 hrb (by rw [HRL2.out]; rfl) (by rw [HRL2.out]; rfl) HRO2.out ?_
        intro w19 hr hg
        replace hS := hS.grown hg hS.size (by intro k hk; injection hk with hk; omega)
        replace hra := grown_row hg (by intro e; injection e with e; omega) hra
        replace hrb := hr
        clear hr hg
        refine hK _ _ ⟨hS, ?_⟩
        clear hne2
        exact HK.out _ _ _ _ ga gb _ hS hra hrb
    · refine op_half (by rfl) (by kernel_rfl) ?_
      intro K hK
      go_wp2_with fail
      refine ⟨hS.alloc hS.size _, ?_⟩
      have hb := (Below.refl w1.heap.size w1).alloc (Nat.le_refl _) (.cells ((.int .i64 0 :: .int .u8 0 :: .int .u8 0 :: .int .u8 0 :: .int .u8 0 :: .int .u8 0 :: .int .u8 0 :: .int .u8 0 :: .int .u8 0 :: .int .u8 0 :: .int .u8 0 :: .int .u8 0 :: .int .u8 0 :: .int .u8 0 :: .int .u8 0 :: .int .u8 0 :: .int .u8 0 :: .slice none 0 0 :: .int .i64 0 :: .bool false :: [])).toArray 32)
      have hrb := heap_alloc_new w1 (.cells ((.int .i64 0 :: .int .u8 0 :: .int .u8 0 :: .int .u8 0 :: .int .u8 0 :: .int .u8 0 :: .int .u8 0 :: .int .u8 0 :: .int .u8 0 :: .int .u8 0 :: .int .u8 0 :: .int .u8 0 :: .int .u8 0 :: .int .u8 0 :: .int .u8 0 :: .int .u8 0 :: .int .u8 0 :: .slice none 0 0 :: .int .i64 0 :: .bool false :: [])).toArray 32)
      have hgeb := hS.size
      replace hS := hS.alloc hS.size (.cells ((.int .i64 0 :: .int .u8 0 :: .int .u8 0 :: .int .u8 0 :: .int .u8 0 :: .int .u8 0 :: .int .u8 0 :: .int .u8 0 :: .int .u8 0 :: .int .u8 0 :: .int .u8 0 :: .int .u8 0 :: .int .u8 0 :: .int .u8 0 :: .int .u8 0 :: .int .u8 0 :: .int .u8 0 :: .slice none 0 0 :: .int .i64 0 :: .bool false :: [])).toArray 32)
      clear hb
      generalize w1.alloc (.cells ((.int .i64 0 :: .int .u8 0 :: .int .u8 0 :: .int .u8 0 :: .int .u8 0 :: .int .u8 0 :: .int .u8 0 :: .int .u8 0 :: .int .u8 0 :: .int .u8 0 :: .int .u8 0 :: .int .u8 0 :: .int .u8 0 :: .int .u8 0 :: .int .u8 0 :: .int .u8 0 :: .int .u8 0 :: .slice none 0 0 :: .int .i64 0 :: .bool false :: [])).toArray 32) = w20 at hS hrb  ⊢
      obtain ⟨gb, hgb⟩ : ∃ g, w1.heap.size = g := ⟨_, rfl⟩
      rw [hgb] at hrb hgeb  ⊢
      clear hgb
      refine ⟨?_, ?_⟩
      · refine op_half (by rfl) (by kernel_rfl) ?_
        intro K hK
        go_wp2_with fail
        refine Calls.mono (HH2.out _ hS) ?_
        rintro e w21 ⟨rfl, hb⟩
        replace hS := bl_next hS hS.size hb
        replace hrb := bl_row hb (lt_of_block hrb) hrb
        clear hb
        go_wp2_with fail
        refine ⟨hS, ?_⟩
        show Plan.wp _ _ _ _ _ _ _
        refine plan_us (by rfl) (by kernel_rfl) ?_
        intro K hK
        go_wp2_with fail
        refine ⟨hS.alloc hS.size _, ?_⟩
        have hb := (Below.refl w21.heap.size w21).alloc (Nat.le_refl _) (.cells ((.int .i64 0 :: .int .u8 0 :: .int .u8 0 :: .int .u8 0 :: .int .u8 0 :: .int .u8 0 :: .int .u8 0 :: .int .u8 0 :: .int .u8 0 :: .int .u8 0 :: .int .u8 0 :: .int .u8 0 :: .int .u8 0 :: .int .u8 0 :: .int .u8 0 :: .int .u8 0 :: .int .u8 0 :: .slice none 0 0 :: .int .i64 0 :: .bool false :: [])).toArray 32)
        have hlt := lt_of_block hrb
        replace hrb := bl_row hb (lt_of_block hrb) hrb
        have hra := heap_alloc_new w21 (.cells ((.int .i64 0 :: .int .u8 0 :: .int .u8 0 :: .int .u8 0 :: .int .u8 0 :: .int .u8 0 :: .int .u8 0 :: .int .u8 0 :: .int .u8 0 :: .int .u8 0 :: .int .u8 0 :: .int .u8 0 :: .int .u8 0 :: .int .u8 0 :: .int .u8 0 :: .int .u8 0 :: .int .u8 0 :: .slice none 0 0 :: .int .i64 0 :: .bool false :: [])).toArray 32)
        have hgea := hS.size
        replace hS := hS.alloc hS.size (.cells ((.int .i64 0 :: .int .u8 0 :: .int .u8 0 :: .int .u8 0 :: .int .u8 0 :: .int .u8 0 :: .int .u8 0 :: .int .u8 0 :: .int .u8 0 :: .int .u8 0 :: .int .u8 0 :: .int .u8 0 :: .int .u8 0 :: .int .u8 0 :: .int .u8 0 :: .int .u8 0 :: .int .u8 0 :: .slice none 0 0 :: .int .i64 0 :: .bool false :: [])).toArray 32)
        clear hb
        generalize w21.alloc (.cells ((.int .i64 0 :: .int .u8 0 :: .int .u8 0 :: .int .u8 0 :: .int .u8 0 :: .int .u8 0 :: .int .u8 0 :: .int .u8 0 :: .int .u8 0 :: .int .u8 0 :: .int .u8 0 :: .int .u8 0 :: .int .u8 0 :: .int .u8 0 :: .int .u8 0 :: .int .u8 0 :: .int .u8 0 :: .slice none 0 0 :: .int .i64 0 :: .bool false :: [])).toArray 32) = w22 at hS hra hrb ⊢
        obtain ⟨ga, hga⟩ : ∃ g, w21.heap.size = g := ⟨_, rfl⟩
        rw [hga] at hra hgea hlt ⊢
        clear hga
        have hne : gb ≠ ga := by omega
        refine plan_us (by rfl) (by kernel_rfl) ?_
        intro K hK
        skip
        refine wp_store_row 32 _ _ rfl ga rfl R1 (.int .i64 0 :: .int .u8 0 :: .int .u8 0 :: .int .u8 0 :: .int .u8 0 :: .int .u8 0 :: .int .u8 0 :: .int .u8 0 :: .int .u8 0 :: .int .u8 0 :: .int .u8 0 :: .int .u8 0 :: .int .u8 0 :: .int .u8 0 :: .int .u8 0 :: .int .u8 0 :: .int .u8 0 :: .slice none 0 0 :: .int .i64 0 :: .bool false :: []) rfl 32 hra (by rw [HRL1.out]; rfl) (by rw [HRL1.out]; rfl) HRO1.out ?_
        intro w23 hr hg
        replace hS := hS.grown hg hS.size (by intro k hk; injection hk with hk; omega)
        replace hrb := grown_row hg (by intro e; injection e with e; omega) hrb
        replace hra := hr
        clear hr hg
        refine hK _ _ ⟨hS, ?_⟩
        refine plan_us (by rfl) (by kernel_rfl) ?_
        intro K hK
        skip
        refine wp_store_row 32 _ _ rfl gb rfl R2 (.int .i64 0 :: .int .u8 0 :: .int .u8 0 :: .int .u8 0 :: .int .u8 0 :: .int .u8 0 :: .int .u8 0 :: .int .u8 0 :: .int .u8 0 :: .int .u8 0 :: .int .u8 0 :: .int .u8 0 :: .int .u8 0 :: .int .u8 0 :: .int .u8 0 :: .int .u8 0 :: .int .u8 0 :: .slice none 0 0 :: .int .i64 0 :: .bool false :: []) rfl 32 hrb (by rw [HRL2.out]; rfl) (by rw [HRL2.out]; rfl) HRO2.out ?_
        intro w24 hr hg
        replace hS := hS.grown hg hS.size (by intro k hk; injection hk with hk; omega)
        replace hra := grown_row hg (by intro e; injection e with e; omega) hra
        replace hrb := hr
        clear hr hg
        refine hK _ _ ⟨hS, ?_⟩
        clear hne2
        exact HK.out _ _ _ _ ga gb _ hS hra hrb
      · refine op_half (by rfl) (by kernel_rfl) ?_
        intro K hK
        go_wp2_with fail
        refine ⟨hS.alloc hS.size _, ?_⟩
        have hb := (Below.refl w20.heap.size w20).alloc (Nat.le_refl _) (.cells ((.int .i64 0 :: .int .u8 0 :: .int .u8 0 :: .int .u8 0 :: .int .u8 0 :: .int .u8 0 :: .int .u8 0 :: .int .u8 0 :: .int .u8 0 :: .int .u8 0 :: .int .u8 0 :: .int .u8 0 :: .int .u8 0 :: .int .u8 0 :: .int .u8 0 :: .int .u8 0 :: .int .u8 0 :: .slice none 0 0 :: .int .i64 0 :: .bool false :: [])).toArray 32)
        have hlt := lt_of_block hrb
        replace hrb := bl_row hb (lt_of_block hrb) hrb
        have hra := heap_alloc_new w20 (.cells ((.int .i64 0 :: .int .u8 0 :: .int .u8 0 :: .int .u8 0 :: .int .u8 0 :: .int .u8 0 :: .int .u8 0 :: .int .u8 0 :: .int .u8 0 :: .int .u8 0 :: .int .u8 0 :: .int .u8 0 :: .int .u8 0 :: .int .u8 0 :: .int .u8 0 :: .int .u8 0 :: .int .u8 0 :: .slice none 0 0 :: .int .i64 0 :: .bool false :: [])).toArray 32)
        have hgea := hS.size
        replace hS := hS.alloc hS.size (.cells ((.int .i64 0 :: .int .u8 0 :: .int .u8 0 :: .int .u8 0 :: .int .u8 0 :: .int .u8 0 :: .int .u8 0 :: .int .u8 0 :: .int .u8 0 :: .int .u8 0 :: .int .u8 0 :: .int .u8 0 :: .int .u8 0 :: .int .u8 0 :: .int .u8 0 :: .int .u8 0 :: .int .u8 0 :: .slice none 0 0 :: .int .i64 0 :: .bool false :: [])).toArray 32)
        clear hb
        generalize w20.alloc (.cells ((.int .i64 0 :: .int .u8 0 :: .int .u8 0 :: .int .u8 0 :: .int .u8 0 :: .int .u8 0 :: .int .u8 0 :: .int .u8 0 :: .int .u8 0 :: .int .u8 0 :: .int .u8 0 :: .int .u8 0 :: .int .u8 0 :: .int .u8 0 :: .int .u8 0 :: .int .u8 0 :: .int .u8 0 :: .slice none 0 0 :: .int .i64 0 :: .bool false :: [])).toArray 32) = w25 at hS hra hrb ⊢
        obtain ⟨ga, hga⟩ : ∃ g, w20.heap.size = g := ⟨_, rfl⟩
        rw [hga] at hra hgea hlt ⊢
        clear hga
        have hne : gb ≠ ga := by omega
        show Plan.wp _ _ _ _ _ _ _
        refine plan_us (by rfl) (by kernel_rfl) ?_
        intro K hK
        go_wp2_with fail
        refine Calls.mono (HH2.out _ hS) ?_
        rintro e w26 ⟨rfl, hb⟩
        replace hS := bl_next hS hS.size hb
        replace hrb := bl_row hb (lt_of_block hrb) hrb
        replace hra := bl_row hb (lt_of_block hra) hra
        clear hb
        go_wp2_with fail
        refine ⟨hS, ?_⟩
        refine plan_us (by rfl) (by kernel_rfl) ?_
        intro K hK
        skip
        refine wp_store_row 32 _ _ rfl ga rfl R1 (.int .i64 0 :: .int .u8 0 :: .int .u8 0 :: .int .u8 0 :: .int .u8 0 :: .int .u8 0 :: .int .u8 0 :: .int .u8 0 :: .int .u8 0 :: .int .u8 0 :: .int .u8 0 :: .int .u8 0 :: .int .u8 0 :: .int .u8 0 :: .int .u8 0 :: .int .u8 0 :: .int .u8 0 :: .slice none 0 0 :: .int .i64 0 :: .bool false :: []) rfl 32 hra (by rw [HRL1.out]; rfl) (by rw [HRL1.out]; rfl) HRO1.out ?_
        intro w27 hr hg
        replace hS := hS.grown hg hS.size (by intro k hk; injection hk with hk; omega)
        replace hrb := grown_row hg (by intro e; injection e with e; omega) hrb
        replace hra := hr
        clear hr hg
        refine hK _ _ ⟨hS, ?_⟩
        refine plan_us (by rfl) (by kernel_rfl) ?_
        intro K hK
        skip
        refine wp_store_row 32 _ _ rfl gb rfl R2 (.int .i64 0 :: .int .u8 0 :: .int .u8 0 :: .int .u8 0 :: .int .u8 0 :: .int .u8 0 :: .int .u8 0 :: .int .u8 0 :: .int .u8 0 :: .int .u8 0 :: .int .u8 0 :: .int .u8 0 :: .int .u8 0 :: .int .u8 0 :: .int .u8 0 :: .int .u8 0 :: .int .u8 0 :: .slice none 0 0 :: .int .i64 0 :: .bool false :: []) rfl 32 hrb (by rw [HRL2.out]; rfl) (by rw [HRL2.out]; rfl) HRO2.out ?_
        intro w28 hr hg
        replace hS := hS.grown hg hS.size (by intro k hk; injection hk with hk; omega)
        replace hra := grown_row hg (by intro e; injection e with e; omega) hra
        replace hrb := hr
        clear hr hg
        refine hK _ _ ⟨hS, ?_⟩
        clear hne2
        exact HK.out _ _ _ _ ga gb _ hS hra hrb
  · refine op_half (by rfl) (by kernel_rfl) ?_
    intro K hK
    go_wp2_with fail
    refine ⟨hS.alloc hS.size _, ?_⟩
    have hb := (Below.refl W0.heap.size W0).alloc (Nat.le_refl _) (.cells ((.int .i64 0 :: .int .u8 0 :: .int .u8 0 :: .int .u8 0 :: .int .u8 0 :: .int .u8 0 :: .int .u8 0 :: .int .u8 0 :: .int .u8 0 :: .int .u8 0 :: .int .u8 0 :: .int .u8 0 :: .int .u8 0 :: .int .u8 0 :: .int .u8 0 :: .int .u8 0 :: .int .u8 0 :: .slice none 0 0 :: .int .i64 0 :: .bool false :: [])).toArray 32)
    have hra := heap_alloc_new W0 (.cells ((.int .i64 0 :: .int .u8 0 :: .int .u8 0 :: .int .u8 0 :: .int .u8 0 :: .int .u8 0 :: .int .u8 0 :: .int .u8 0 :: .int .u8 0 :: .int .u8 0 :: .int .u8 0 :: .int .u8 0 :: .int .u8 0 :: .int .u8 0 :: .int .u8 0 :: .int .u8 0 :: .int .u8 0 :: .slice none 0 0 :: .int .i64 0 :: .bool false :: [])).toArray 32)
    have hgea := hS.size
    replace hS := hS.alloc hS.size (.cells ((.int .i64 0 :: .int .u8 0 :: .int .u8 0 :: .int .u8 0 :: .int .u8 0 :: .int .u8 0 :: .int .u8 0 :: .int .u8 0 :: .int .u8 0 :: .int .u8 0 :: .int .u8 0 :: .int .u8 0 :: .int .u8 0 :: .int .u8 0 :: .int .u8 0 :: .int .u8 0 :: .int .u8 0 :: .slice none 0 0 :: .int .i64 0 :: .bool false :: [])).toArray 32)
    clear hb
    generalize W0.alloc (.cells ((.int .i64 0 :: .int .u8 0 :: .int .u8 0 :: .int .u8 0 :: .int .u8 0 :: .int .u8 0 :: .int .u8 0 :: .int .u8 0 :: .int .u8 0 :: .int .u8 0 :: .int .u8 0 :: .int .u8 0 :: .int .u8 0 :: .int .u8 0 :: .int .u8 0 :: .int .u8 0 :: .int .u8 0 :: .slice none 0 0 :: .int .i64 0 :: .bool false :: [])).toArray 32) = w29 at hS hra  ⊢
    obtain ⟨ga, hga⟩ : ∃ g, W0.heap.size = g := ⟨_, rfl⟩
    rw [hga] at hra hgea  ⊢
    clear hga
    refine ⟨?_, ?_⟩
    · refine op_half (by rfl) (by kernel_rfl) ?_
      intro K hK
      go_wp2_with fail
      refine Calls.mono (HH1.out _ hS) ?_
      rintro e w30 ⟨rfl, hb⟩
      replace hS := bl_next hS hS.size hb
      replace hra := bl_row hb (lt_of_block hra) hra
      clear hb
      go_wp2_with fail
      refine ⟨hS, ?_⟩
      refine ⟨?_, ?_⟩
      · refine op_half (by rfl) (by kernel_rfl) ?_
        intro K hK
        go_wp2_with fail
        refine Calls.mono (HH2.out _ hS) ?_
        rintro e w31 ⟨rfl, hb⟩
        replace hS := bl_next hS hS.size hb
        replace hra := bl_row hb (lt_of_block hra) hra
        clear hb
        go_wp2_with fail
        refine ⟨hS, ?_⟩
        show Plan.wp _ _ _ _ _ _ _
        refine plan_us (by rfl) (by kernel_rfl) ?_
        intro K hK
        go_wp2_with fail
        refine ⟨hS.alloc hS.size _, ?_⟩
        have hb := (Below.refl w31.heap.size w31).alloc (Nat.le_refl _) (.cells ((.int .i64 0 :: .int .u8 0 :: .int .u8 0 :: .int .u8 0 :: .int .u8 0 :: .int .u8 0 :: .int .u8 0 :: .int .u8 0 :: .int .u8 0 :: .int .u8 0 :: .int .u8 0 :: .int .u8 0 :: .int .u8 0 :: .int .u8 0 :: .int .u8 0 :: .int .u8 0 :: .int .u8 0 :: .slice none 0 0 :: .int .i64 0 :: .bool false :: [])).toArray 32)
        have hlt := lt_of_block hra
        replace hra := bl_row hb (lt_of_block hra) hra
        have hrb := heap_alloc_new w31 (.cells ((.int .i64 0 :: .int .u8 0 :: .int .u8 0 :: .int .u8 0 :: .int .u8 0 :: .int .u8 0 :: .int .u8 0 :: .int .u8 0 :: .int .u8 0 :: .int .u8 0 :: .int .u8 0 :: .int .u8 0 :: .int .u8 0 :: .int .u8 0 :: .int .u8 0 :: .int .u8 0 :: .int .u8 0 :: .slice none 0 0 :: .int .i64 0 :: .bool false :: [])).toArray 32)
        have hgeb := hS.size
        replace hS := hS.alloc hS.size (.cells ((.int .i64 0 :: .int .u8 0 :: .int .u8 0 :: .int .u8 0 :: .int .u8 0 :: .int .u8 0 :: .int .u8 0 :: .int .u8 0 :: .int .u8 0 :: .int .u8 0 :: .int .u8 0 :: .int .u8 0 :: .int .u8 0 :: .int .u8 0 :: .int .u8 0 :: .int .u8 0 :: .int .u8 0 :: .slice none 0 0 :: .int .i64 0 :: .bool false :: [])).toArray 32)
        clear hb
        generalize w31.alloc (.cells ((.int .i64 0 :: .int .u8 0 :: .int .u8 0 :: .int .u8 0 :: .int .u8 0 :: .int .u8 0 :: .int .u8 0 :: .int .u8 0 :: .int .u8 0 :: .int .u8 0 :: .int .u8 0 :: .int .u8 0 :: .int .u8 0 :: .int .u8 0 :: .int .u8 0 :: .int .u8 0 :: .int .u8 0 :: .slice none 0 0 :: .int .i64 0 :: .bool false :: [])).toArray 32) = w32 at hS hrb hra ⊢
        obtain ⟨gb, hgb⟩ : ∃ g, w31.heap.size = g := ⟨_, rfl⟩
        rw [hgb] at hrb hgeb hlt ⊢
        clear hgb
        have hne : gb ≠ ga := by omega
        refine plan_us (by rfl) (by kernel_rfl) ?_
        intro K hK
        skip
        refine wp_store_row 32 _ _ rfl ga rfl R1 (.int .i64 0 :: .int .u8 0 :: .int .u8 0 :: .int .u8 0 :: .int .u8 0 :: .int .u8 0 :: .int .u8 0 :: .int .u8 0 :: .int .u8 0 :: .int .u8 0 :: .int .u8 0 :: .int .u8 0 :: .int .u8 0 :: .int .u8 0 :: .int .u8 0 :: .int .u8 0 :: .int .u8 0 :: .slice none 0 0 :: .int .i64 0 :: .bool false :: []) rfl 32 hra (by rw [HRL1.out]; rfl) (by rw [HRL1.out]; rfl) HRO1.out ?_
        intro w33 hr hg
        replace hS := hS.grown hg hS.size (by intro k hk; injection hk with hk; omega)
        replace hrb := grown_row hg (by intro e; injection e with e; omega) hrb
        replace hra := hr
        clear hr hg
        refine hK _ _ ⟨hS, ?_⟩
        refine plan_us (by rfl) (by kernel_rfl) ?_
        intro K hK
        skip
        refine wp_store_row 32 _ _ rfl gb rfl R2 (.int .i64 0 :: .int .u8 0 :: .int .u8 0 :: .int .u8 0 :: .int .u8 0 :: .int .u8 0 :: .int .u8 0 :: .int .u8 0 :: .int .u8 0 :: .int .u8 0 :: .int .u8 0 :: .int .u8 0 :: .int .u8 0 :: .int .u8 0 :: .int .u8 0 :: .int .u8 0 :: .int .u8 0 :: .slice none 0 0 :: .int .i64 0 :: .bool false :: []) rfl 32 hrb (by rw [HRL2.out]; rfl) (by rw [HRL2.out]; rfl) HRO2.out ?_
        intro w34 hr hg
        replace hS := hS.grown hg hS.size (by intro k hk; injection hk with hk; omega)
        replace hra := grown_row hg (by intro e; injection e with e; omega) hra
        replace hrb := hr
        clear hr hg
        refine hK _ _ ⟨hS, ?_⟩
        clear hne2
        exact HK.out _ _ _ _ ga gb _ hS hra hrb
      · refine op_half (by rfl) (by kernel_rfl) ?_
        intro K hK
        go_wp2_with fail
        refine ⟨hS.alloc hS.size _, ?_⟩
        have hb := (Below.refl w30.heap.size w30).alloc (Nat.le_refl _) (.cells ((.int .i64 0 :: .int .u8 0 :: .int .u8 0 :: .int .u8 0 :: .int .u8 0 :: .int .u8 0 :: .int .u8 0 :: .int .u8 0 :: .int .u8 0 :: .int .u8 0 :: .int .u8 0 :: .int .u8 0 :: .int .u8 0 :: .int .u8 0 :: .int .u8 0 :: .int .u8 0 :: .int .u8 0 :: .slice none 0 0 :: .int .i64 0 :: .bool false :: [])).toArray 32)
        have hlt := lt_of_block hra
        replace hra := bl_row hb (lt_of_block hra) hra
        have hrb := heap_alloc_new w30 (.cells ((.int .i64 0 :: .int .u8 0 :: .int .u8 0 :: .int .u8 0 :: .int .u8 0 :: .int .u8 0 :: .int .u8 0 :: .int .u8 0 :: .int .u8 0 :: .int .u8 0 :: .int .u8 0 :: .int .u8 0 :: .int .u8 0 :: .int .u8 0 :: .int .u8 0 :: .int .u8 0 :: .int .u8 0 :: .slice none 0 0 :: .int .i64 0 :: .bool false :: [])).toArray 32)
        have hgeb := hS.size
        replace hS := hS.alloc hS.size (.cells ((.int .i64 0 :: .int .u8 0 :: .int .u8 0 :: .int .u8 0 :: .int .u8 0 :: .int .u8 0 :: .int .u8 0 :: .int .u8 0 :: .int .u8 0 :: .int .u8 0 :: .int .u8 0 :: .int .u8 0 :: .int .u8 0 :: .int .u8 0 :: .int .u8 0 :: .int .u8 0 :: .int .u8 0 :: .slice none 0 0 :: .int .i64 0 :: .bool false :: [])).toArray 32)
        clear hb
        generalize w30.alloc (.cells ((.int .i64 0 :: .int .u8 0 :: .int .u8 0 :: .int .u8 0 :: .int .u8 0 :: .int .u8 0 :: .int .u8 0 :: .int .u8 0 :: .int .u8 0 :: .int .u8 0 :: .int .u8 0 :: .int .u8 0 :: .int .u8 0 :: .int .u8 0 :: .int .u8 0 :: .int .u8 0 :: .int .u8 0 :: .slice none 0 0 :: .int .i64 0 :: .bool false :: [])).toArray 32) = w35 at hS hrb hra ⊢
        obtain ⟨gb, hgb⟩ : ∃ g, w30.heap.size = g := ⟨_, rfl⟩
        rw [hgb] at hrb hgeb hlt ⊢
        clear hgb
        have hne : gb ≠ ga := by omega
        show Plan.wp _ _ _ _ _ _ _
        refine plan_us (by rfl) (by kernel_rfl) ?_
        intro K hK
        go_wp2_with fail
        refine Calls.mono (HH2.out _ hS) ?_
        rintro e w36 ⟨rfl, hb⟩
        replace hS := bl_next hS hS.size hb
        replace hra := bl_row hb (lt_of_block hra) hra
        replace hrb := bl_row hb (lt_of_block hrb) hrb
        clear hb
        go_wp2_with fail
        refine ⟨hS, ?_⟩
        refine plan_us (by rfl) (by kernel_rfl) ?_
        intro K hK
        skip
        refine wp_store_row 32 _ _ rfl ga rfl R1 (.int .i64 0 :: .int .u8 0 :: .int .u8 0 :: .int .u8 0 :: .int .u8 0 :: .int .u8 0 :: .int .u8 0 :: .int .u8 0 :: .int .u8 0 :: .int .u8 0 :: .int .u8 0 :: .int .u8 0 :: .int .u8 0 :: .int .u8 0 :: .int .u8 0 :: .int .u8 0 :: .int .u8 0 :: .slice none 0 0 :: .int .i64 0 :: .bool false :: []) rfl 32 hra (by rw [HRL1.out]; rfl) (by rw [HRL1.out]; rfl) HRO1.out ?_
        intro w37 hr hg
        replace hS := hS.grown hg hS.size (by intro k hk; injection hk with hk; omega)
        replace hrb := grown_row hg (by intro e; injection e with e; omega) hrb
        replace hra := hr
        clear hr hg
        refine hK _ _ ⟨hS, ?_⟩
        refine plan_us (by rfl) (by kernel_rfl) ?_
        intro K hK
        skip
        refine wp_store_row 32 _ _ rfl gb rfl R2 (.int .i64 0 :: .int .u8 0 :: .int .u8 0 :: .int .u8 0 :: .int .u8 0 :: .int .u8 0 :: .int .u8 0 :: .int .u8 0 :: .int .u8 0 :: .int .u8 0 :: .int .u8 0 :: .int .u8 0 :: .int .u8 0 :: .int .u8 0 :: .int .u8 0 :: .int .u8 0 :: .int .u8 0 :: .slice none 0 0 :: .int .i64 0 :: .bool false :: []) rfl 32 hrb (by rw [HRL2.out]; rfl) (by rw [HRL2.out]; rfl) HRO2.out ?_
        intro w38 hr hg
        replace hS := hS.grown hg hS.size (by intro k hk; injection hk with hk; omega)
        replace hra := grown_row hg (by intro e; injection e with e; omega) hra
        replace hrb := hr
        clear hr hg
        refine hK _ _ ⟨hS, ?_⟩
        clear hne2
        exact HK.out _ _ _ _ ga gb _ hS hra hrb
    · refine op_half (by rfl) (by kernel_rfl) ?_
      intro K hK
      go_wp2_with fail
      refine ⟨hS.alloc hS.size _, ?_⟩
      have hb := (Below.refl w29.heap.size w29).alloc (Nat.le_refl _) (.cells ((.int .i64 0 :: .int .u8 0 :: .int .u8 0 :: .int .u8 0 :: .int .u8 0 :: .int .u8 0 :: .int .u8 0 :: .int .u8 0 :: .int .u8 0 :: .int .u8 0 :: .int .u8 0 :: .int .u8 0 :: .int .u8 0 :: .int .u8 0 :: .int .u8 0 :: .int .u8 0 :: .int .u8 0 :: .slice none 0 0 :: .int .i64 0 :: .bool false :: [])).toArray 32)
      have hlt := lt_of_block hra
      replace hra := bl_row hb (lt_of_block hra) hra
      have hrb := heap_alloc_new w29 (.cells ((.int .i64 0 :: .int .u8 0 :: .int .u8 0 :: .int .u8 0 :: .int .u8 0 :: .int .u8 0 :: .int .u8 0 :: .int .u8 0 :: .int .u8 0 :: .int .u8 0 :: .int .u8 0 :: .int .u8 0 :: .int .u8 0 :: .int .u8 0 :: .int .u8 0 :: .int .u8 0 :: .int .u8 0 :: .slice none 0 0 :: .int .i64 0 :: .bool false :: [])).toArray 32)
      have hgeb := hS.size
      replace hS := hS.alloc hS.size (.cells ((.int .i64 0 :: .int .u8 0 :: .int .u8 0 :: .int .u8 0 :: .int .u8 0 :: .int .u8 0 :: .int .u8 0 :: .int .u8 0 :: .int .u8 0 :: .int .u8 0 :: .int .u8 0 :: .int .u8 0 :: .int .u8 0 :: .int .u8 0 :: .int .u8 0 :: .int .u8 0 :: .int .u8 0 :: .slice none 0 0 :: .int .i64 0 :: .bool false :: [])).toArray 32)
      clear hb
      generalize w29.alloc (.cells ((.int .i64 0 :: .int .u8 0 :: .int .u8 0 :: .int .u8 0 :: .int .u8 0 :: .int .u8 0 :: .int .u8 0 :: .int .u8 0 :: .int .u8 0 :: .int .u8 0 :: .int .u8 0 :: .int .u8 0 :: .int .u8 0 :: .int .u8 0 :: .int .u8 0 :: .int .u8 0 :: .int .u8 0 :: .slice none 0 0 :: .int .i64 0 :: .bool false :: [])).toArray 32) = w39 at hS hrb hra ⊢
      obtain ⟨gb, hgb⟩ : ∃ g, w29.heap.size = g := ⟨_, rfl⟩
      rw [hgb] at hrb hgeb hlt ⊢
      clear hgb
      have hne : gb ≠ ga := by omega
      show Plan.wp _ _ _ _ _ _ _
      refine plan_us (by rfl) (by kernel_rfl) ?_
      intro K hK
      go_wp2_with fail
      refine Calls.mono (HH1.out _ hS) ?_
      rintro e w40 ⟨rfl, hb⟩
      replace hS := bl_next hS hS.size hb
      replace hra := bl_row hb (lt_of_block hra) hra
      replace hrb := bl_row hb (lt_of_block hrb) hrb
      clear hb
      go_wp2_with fail
      refine ⟨hS, ?_⟩
      refine plan_us (by rfl) (by kernel_rfl) ?_
      intro K hK
      go_wp2_with fail
      refine Calls.mono (HH2.out _ hS) ?_
      rintro e w41 ⟨rfl, hb⟩
      replace hS := bl_next hS hS.size hb
      replace hra := bl_row hb (lt_of_block hra) hra
      replace hrb := bl_row hb (lt_of_block hrb) hrb
      clear hb
      go_wp2_with fail
      refine ⟨hS, ?_⟩
      refine plan_us (by rfl) (by kernel_rfl) ?_
      intro K hK
      skip
      refine wp_store_row 32 _ _ rfl ga rfl R1 (.int .i64 0 :: .int .u8 0 :: .int .u8 0 :: .int .u8 0 :: .int .u8 0 :: .int .u8 0 :: .int .u8 0 :: .int .u8 0 :: .int .u8 0 :: .int .u8 0 :: .int .u8 0 :: .int .u8 0 :: .int .u8 0 :: .int .u8 0 :: .int .u8 0 :: .int .u8 0 :: .int .u8 0 :: .slice none 0 0 :: .int .i64 0 :: .bool false :: []) rfl 32 hra (by rw [HRL1.out]; rfl) (by rw [HRL1.out]; rfl) HRO1.out ?_
      intro w42 hr hg
      replace hS := hS.grown hg hS.size (by intro k hk; injection hk with hk; omega)
      replace hrb := grown_row hg (by intro e; injection e with e; omega) hrb
      replace hra := hr
      clear hr hg
      refine hK _ _ ⟨hS, ?_⟩
      refine plan_us (by rfl) (by kernel_rfl) ?_
      intro K hK
      skip
      refine wp_store_row 32 _ _ rfl gb rfl R2 (.int .i64 0 :: .int .u8 0 :: .int .u8 0 :: .int .u8 0 :: .int .u8 0 :: .int .u8 0 :: .int .u8 0 :: .int .u8 0 :: .int .u8 0 :: .int .u8 0 :: .int .u8 0 :: .int .u8 0 :: .int .u8 0 :: .int .u8 0 :: .int .u8 0 :: .int .u8 0 :: .int .u8 0 :: .slice none 0 0 :: .int .i64 0 :: .bool false :: []) rfl 32 hrb (by rw [HRL2.out]; rfl) (by rw [HRL2.out]; rfl) HRO2.out ?_
      intro w43 hr hg
      replace hS := hS.grown hg hS.size (by intro k hk; injection hk with hk; omega)
      replace hra := grown_row hg (by intro e; injection e with e; omega) hra
      replace hrb := hr
      clear hr hg
      refine hK _ _ ⟨hS, ?_⟩
      clear hne2
      exact HK.out _ _ _ _ ga gb _ hS hra hrb
  · refine op_half (by rfl) (by kernel_rfl) ?_
    intro K hK
    go_wp2_with fail
    refine ⟨hS.alloc hS.size _, ?_⟩
    have hb := (Below.refl W0.heap.size W0).alloc (Nat.le_refl _) (.cells ((.int .i64 0 :: .int .u8 0 :: .int .u8 0 :: .int .u8 0 :: .int .u8 0 :: .int .u8 0 :: .int .u8 0 :: .int .u8 0 :: .int .u8 0 :: .int .u8 0 :: .int .u8 0 :: .int .u8 0 :: .int .u8 0 :: .int .u8 0 :: .int .u8 0 :: .int .u8 0 :: .int .u8 0 :: .slice none 0 0 :: .int .i64 0 :: .bool false :: [])).toArray 32)
    have hrb := heap_alloc_new W0 (.cells ((.int .i64 0 :: .int .u8 0 :: .int .u8 0 :: .int .u8 0 :: .int .u8 0 :: .int .u8 0 :: .int .u8 0 :: .int .u8 0 :: .int .u8 0 :: .int .u8 0 :: .int .u8 0 :: .int .u8 0 :: .int .u8 0 :: .int .u8 0 :: .int .u8 0 :: .int .u8 0 :: .int .u8 0 :: .slice none 0 0 :: .int .i64 0 :: .bool false :: [])).toArray 32)
    have hgeb := hS.size
    replace hS := hS.alloc hS.size (.cells ((.int .i64 0 :: .int .u8 0 :: .int .u8 0 :: .int .u8 0 :: .int .u8 0 :: .int .u8 0 :: .int .u8 0 :: .int .u8 0 :: .int .u8 0 :: .int .u8 0 :: .int .u8 0 :: .int .u8 0 :: .int .u8 0 :: .int .u8 0 :: .int .u8 0 :: .int .u8 0 :: .int .u8 0 :: .slice none 0 0 :: .int .i64 0 :: .bool false :: [])).toArray 32)
    clear hb
    generalize W0.alloc (.cells ((.int .i64 0 :: .int .u8 0 :: .int .u8 0 :: .int .u8 0 :: .int .u8 0 :: .int .u8 0 :: .int .u8 0 :: .int .u8 0 :: .int .u8 0 :: .int .u8 0 :: .int .u8 0 :: .int .u8 0 :: .int .u8 0 :: .int .u8 0 :: .int .u8 0 :: .int .u8 0 :: .int .u8 0 :: .slice none 0 0 :: .int .i64 0 :: .bool false :: [])).toArray 32) = w44 at hS hrb  ⊢
    obtain ⟨gb, hgb⟩ : ∃ g, W0.heap.size = g := ⟨_, rfl⟩
    rw [hgb] at hrb hgeb  ⊢
    clear hgb
    refine ⟨?_, ?_⟩
    · refine op_half (by rfl) (by kernel_rfl) ?_
      intro K hK
      go_wp2_with fail
      refine Calls.mono (HH1.out _ hS) ?_
      rintro e w45 ⟨rfl, hb⟩
      replace hS := bl_next hS hS.size hb
      replace hrb := bl_row hb (lt_of_block hrb) hrb
      clear hb
      go_wp2_with fail
      refine ⟨hS, ?_⟩
      refine ⟨?_, ?_⟩
      · refine op_half (by rfl) (by kernel_rfl) ?_
        intro K hK
        go_wp2_with fail
        refine Calls.mono (HH2.out _ hS) ?_
        rintro e w46 ⟨rfl, hb⟩
        replace hS := bl_next hS hS.size hb
        replace hrb := bl_row hb (lt_of_block hrb) hrb
        clear hb
        go_wp2_with fail
        refine ⟨hS, ?_⟩
        show Plan.wp _ _ _ _ _ _ _
        refine plan_us (by rfl) (by kernel_rfl) ?_
        intro K hK
        go_wp2_with fail
        refine ⟨hS.alloc hS.size _, ?_⟩
        have hb := (Below.refl w46.heap.size w46).alloc (Nat.le_refl _) (.cells ((.int .i64 0 :: .int .u8 0 :: .int .u8 0 :: .int .u8 0 :: .int .u8 0 :: .int .u8 0 :: .int .u8 0 :: .int .u8 0 :: .int .u8 0 :: .int .u8 0 :: .int .u8 0 :: .int .u8 0 :: .int .u8 0 :: .int .u8 0 :: .int .u8 0 :: .int .u8 0 :: .int .u8 0 :: .slice none 0 0 :: .int .i64 0 :: .bool false :: [])).toArray 32)
        have hlt := lt_of_block hrb
        replace hrb := bl_row hb (lt_of_block hrb) hrb
        have hra := heap_alloc_new w46 (.cells ((.int .i64 0 :: .int .u8 0 :: .int .u8 0 :: .int .u8 0 :: .int .u8 0 :: .int .u8 0 :: .int .u8 0 :: .int .u8 0 :: .int .u8 0 :: .int .u8 0 :: .int .u8 0 :: .int .u8 0 :: .int .u8 0 :: .int .u8 0 :: .int .u8 0 :: .int .u8 0 :: .int .u8 0 :: .slice none 0 0 :: .int .i64 0 :: .bool false :: [])).toArray 32)
        have hgea := hS.size
        replace hS := hS.alloc hS.size (.cells ((.int .i64 0 :: .int .u8 0 :: .int .u8 0 :: .int .u8 0 :: .int .u8 0 :: .int .u8 0 :: .int .u8 0 :: .int .u8 0 :: .int .u8 0 :: .int .u8 0 :: .int .u8 0 :: .int .u8 0 :: .int .u8 0 :: .int .u8 0 :: .int .u8 0 :: .int .u8 0 :: .int .u8 0 :: .slice none 0 0 :: .int .i64 0 :: .bool false :: [])).toArray 32)
        clear hb
        generalize w46.alloc (.cells ((.int .i64 0 :: .int .u8 0 :: .int .u8 0 :: .int .u8 0 :: .int .u8 0 :: .int .u8 0 :: .int .u8 0 :: .int .u8 0 :: .int .u8 0 :: .int .u8 0 :: .int .u8 0 :: .int .u8 0 :: .int .u8 0 :: .int .u8 0 :: .int .u8 0 :: .int .u8 0 :: .int .u8 0 :: .slice none 0 0 :: .int .i64 0 :: .bool false :: [])).toArray 32) = w47 at hS hra hrb ⊢
        obtain ⟨ga, hga⟩ : ∃ g, w46.heap.size = g := ⟨_, rfl⟩
        rw [hga] at hra hgea hlt ⊢
        clear hga
        have hne : gb ≠ ga := by omega
        refine plan_us (by rfl) (by kernel_rfl) ?_
        intro K hK
        skip
        refine wp_store_row 32 _ _ rfl ga rfl R1 (.int .i64 0 :: .int .u8 0 :: .int .u8 0 :: .int .u8 0 :: .int .u8 0 :: .int .u8 0 :: .int .u8 0 :: .int .u8 0 :: .int .u8 0 :: .int .u8 0 :: .int .u8 0 :: .int .u8 0 :: .int .u8 0 :: .int .u8 0 :: .int .u8 0 :: .int .u8 0 :: .int .u8 0 :: .slice none 0 0 :: .int .i64 0 :: .bool false :: []) rfl 32 hra (by rw [HRL1.out]; rfl) (by rw [HRL1.out]; rfl) HRO1.out ?_
        intro w48 hr hg
        replace hS := hS.grown hg hS.size (by intro k hk; injection hk with hk; omega)
        replace hrb := grown_row hg (by intro e; injection e with e; omega) hrb
        replace hra := hr
        clear hr hg
        refine hK _ _ ⟨hS, ?_⟩
        refine plan_us (by rfl) (by kernel_rfl) ?_
        intro K hK
        skip
        refine wp_store_row 32 _ _ rfl gb rfl R2 (.int .i64 0 :: .int .u8 0 :: .int .u8 0 :: .int .u8 0 :: .int .u8 0 :: .int .u8 0 :: .int .u8 0 :: .int .u8 0 :: .int .u8 0 :: .int .u8 0 :: .int .u8 0 :: .int .u8 0 :: .int .u8 0 :: .int .u8 0 :: .int .u8 0 :: .int .u8 0 :: .int .u8 0 :: .slice none 0 0 :: .int .i64 0 :: .bool false :: []) rfl 32 hrb (by rw [HRL2.out]; rfl) (by rw [HRL2.out]; rfl) HRO2.out ?_
        intro w49 hr hg
        replace hS := hS.grown hg hS.size (by intro k hk; injection hk with hk; omega)
        replace hra := grown_row hg (by intro e; injection e with e; omega) hra
        replace hrb := hr
        clear hr hg
        refine hK _ _ ⟨hS, ?_⟩
        clear hne2
        exact HK.out _ _ _ _ ga gb _ hS hra hrb
      · refine op_half (by rfl) (by kernel_rfl) ?_
        intro K hK
        go_wp2_with fail
        refine ⟨hS.alloc hS.size _, ?_⟩
        have hb := (Below.refl w45.heap.size w45).alloc (Nat.le_refl _) (.cells ((.int .i64 0 :: .int .u8 0 :: .int .u8 0 :: .int .u8 0 :: .int .u8 0 :: .int .u8 0 :: .int .u8 0 :: .int .u8 0 :: .int .u8 0 :: .int .u8 0 :: .int .u8 0 :: .int .u8 0 :: .int .u8 0 :: .int .u8 0 :: .int .u8 0 :: .int .u8 0 :: .int .u8 0 :: .slice none 0 0 :: .int .i64 0 :: .bool false :: [])).toArray 32)
        have hlt := lt_of_block hrb
        replace hrb := bl_row hb (lt_of_block hrb) hrb
        have hra := heap_alloc_new w45 (.cells ((.int .i64 0 :: .int .u8 0 :: .int .u8 0 :: .int .u8 0 :: .int .u8 0 :: .int .u8 0 :: .int .u8 0 :: .int .u8 0 :: .int .u8 0 :: .int .u8 0 :: .int .u8 0 :: .int .u8 0 :: .int .u8 0 :: .int .u8 0 :: .int .u8 0 :: .int .u8 0 :: .int .u8 0 :: .slice none 0 0 :: .int .i64 0 :: .bool false :: [])).toArray 32)
        have hgea := hS.size
        replace hS := hS.alloc hS.size (.cells ((.int .i64 0 :: .int .u8 0 :: .int .u8 0 :: .int .u8 0 :: .int .u8 0 :: .int .u8 0 :: .int .u8 0 :: .int .u8 0 :: .int .u8 0 :: .int .u8 0 :: .int .u8 0 :: .int .u8 0 :: .int .u8 0 :: .int .u8 0 :: .int .u8 0 :: .int .u8 0 :: .int .u8 0 :: .slice none 0 0 :: .int .i64 0 :: .bool false :: [])).toArray 32)
        clear hb
        generalize w45.alloc (.cells ((.int .i64 0 :: .int .u8 0 :: .int .u8 0 :: .int .u8 0 :: .int .u8 0 :: .int .u8 0 :: .int .u8 0 :: .int .u8 0 :: .int .u8 0 :: .int .u8 0 :: .int .u8 0 :: .int .u8 0 :: .int .u8 0 :: .int .u8 0 :: .int .u8 0 :: .int .u8 0 :: .int .u8 0 :: .slice none 0 0 :: .int .i64 0 :: .bool false :: [])).toArray 32) = w50 at hS hra hrb ⊢
        obtain ⟨ga, hga⟩ : ∃ g, w45.heap.size = g := ⟨_, rfl⟩
        rw [hga] at hra hgea hlt ⊢
        clear hga
        have hne : gb ≠ ga := by omega
        show Plan.wp _ _ _ _ _ _ _
        refine plan_us (by rfl) (by kernel_rfl) ?_
        intro K hK
        go_wp2_with fail
        refine Calls.mono (HH2.out _ hS) ?_
        rintro e w51 ⟨rfl, hb⟩
        replace hS := bl_next hS hS.size hb
        replace hrb := bl_row hb (lt_of_block hrb) hrb
        replace hra := bl_row hb (lt_of_block hra) hra
        clear hb
        go_wp2_with fail
        refine ⟨hS, ?_⟩
        refine plan_us (by rfl) (by kernel_rfl) ?_
        intro K hK
        skip
        refine wp_store_row 32 _ _ rfl ga rfl R1 (.int .i64 0 :: .int .u8 0 :: .int .u8 0 :: .int .u8 0 :: .int .u8 0 :: .int .u8 0 :: .int .u8 0 :: .int .u8 0 :: .int .u8 0 :: .int .u8 0 :: .int .u8 0 :: .int .u8 0 :: .int .u8 0 :: .int .u8 0 :: .int .u8 0 :: .int .u8 0 :: .int .u8 0 :: .slice none 0 0 :: .int .i64 0 :: .bool false :: []) rfl 32 hra (by rw [HRL1.out]; rfl) (by rw [HRL1.out]; rfl) HRO1.out ?_
        intro w52 hr hg
        replace hS := hS.grown hg hS.size (by intro k hk; injection hk with hk; omega)
        replace hrb := grown_row hg (by intro e; injection e with e; omega) hrb
        replace hra := hr
        clear hr hg
        refine hK _ _ ⟨hS, ?_⟩
        refine plan_us (by rfl) (by kernel_rfl) ?_
        intro K hK
        skip
        refine wp_store_row 32 _ _ rfl gb rfl R2 (.int .i64 0 :: .int .u8 0 :: .int .u8 0 :: .int .u8 0 :: .int .u8 0 :: .int .u8 0 :: .int .u8 0 :: .int .u8 0 :: .int .u8 0 :: .int .u8 0 :: .int .u8 0 :: .int .u8 0 :: .int .u8 0 :: .int .u8 0 :: .int .u8 0 :: .int .u8 0 :: .int .u8 0 :: .slice none 0 0 :: .int .i64 0 :: .bool false :: []) rfl 32 hrb (by rw [HRL2.out]; rfl) (by rw [HRL2.out]; rfl) HRO2.out ?_
        intro w53 hr hg
        replace hS := hS.grown hg hS.size (by intro k hk; injection hk with hk; omega)
        replace hra := grown_row hg (by intro e; injection e with e; omega) hra
        replace hrb := hr
        clear hr hg
        refine hK _ _ ⟨hS, ?_⟩
        clear hne2
        exact HK.out _ _ _ _ ga gb _ hS hra hrb
    · refine op_half (by rfl) (by kernel_rfl) ?_
      intro K hK
      go_wp2_with fail
      refine ⟨hS.alloc hS.size _, ?_⟩
      have hb := (Below.refl w44.heap.size w44).alloc (Nat.le_refl _) (.cells ((.int .i64 0 :: .int .u8 0 :: .int .u8 0 :: .int .u8 0 :: .int .u8 0 :: .int .u8 0 :: .int .u8 0 :: .int .u8 0 :: .int .u8 0 :: .int .u8 0 :: .int .u8 0 :: .int .u8 0 :: .int .u8 0 :: .int .u8 0 :: .int .u8 0 :: .int .u8 0 :: .int .u8 0 :: .slice none 0 0 :: .int .i64 0 :: .bool false :: [])).toArray 32)
      have hlt := lt_of_block hrb
      replace hrb := bl_row hb (lt_of_block hrb) hrb
      have hra := heap_alloc_new w44 (.cells ((.int .i64 0 :: .int .u8 0 :: .int .u8 0 :: .int .u8 0 :: .int .u8 0 :: .int .u8 0 :: .int .u8 0 :: .int .u8 0 :: .int .u8 0 :: .int .u8 0 :: .int .u8 0 :: .int .u8 0 :: .int .u8 0 :: .int .u8 0 :: .int .u8 0 :: .int .u8 0 :: .int .u8 0 :: .slice none 0 0 :: .int .i64 0 :: .bool false :: [])).toArray 32)
      have hgea := hS.size
      replace hS := hS.alloc hS.size (.cells ((.int .i64 0 :: .int .u8 0 :: .int .u8 0 :: .int .u8 0 :: .int .u8 0 :: .int .u8 0 :: .int .u8 0 :: .int .u8 0 :: .int .u8 0 :: .int .u8 0 :: .int .u8 0 :: .int .u8 0 :: .int .u8 0 :: .int .u8 0 :: .int .u8 0 :: .int .u8 0 :: .int .u8 0 :: .slice none 0 0 :: .int .i64 0 :: .bool false :: [])).toArray 32)
      clear hb
      generalize w44.alloc (.cells ((.int .i64 0 :: .int .u8 0 :: .int .u8 0 :: .int .u8 0 :: .int .u8 0 :: .int .u8 0 :: .int .u8 0 :: .int .u8 0 :: .int .u8 0 :: .int .u8 0 :: .int .u8 0 :: .int .u8 0 :: .int .u8 0 :: .int .u8 0 :: .int .u8 0 :: .int .u8 0 :: .int .u8 0 :: .slice none 0 0 :: .int .i64 0 :: .bool false :: [])).toArray 32) = w54 at hS hra hrb ⊢
      obtain ⟨ga, hga⟩ : ∃ g, w44.heap.size = g := ⟨_, rfl⟩
      rw [hga] at hra hgea hlt ⊢
      clear hga
      have hne : gb ≠ ga := by omega
      show Plan.wp _ _ _ _ _ _ _
      refine plan_us (by rfl) (by kernel_rfl) ?_
      intro K hK
      go_wp2_with fail
      refine Calls.mono (HH1.out _ hS) ?_
      rintro e w55 ⟨rfl, hb⟩
      replace hS := bl_next hS hS.size hb
      replace hrb := bl_row hb (lt_of_block hrb) hrb
      replace hra := bl_row hb (lt_of_block hra) hra
      clear hb
      go_wp2_with fail
      refine ⟨hS, ?_⟩
      refine plan_us (by rfl) (by kernel_rfl) ?_
      intro K hK
      go_wp2_with fail
      refine Calls.mono (HH2.out _ hS) ?_
      rintro e w56 ⟨rfl, hb⟩
      replace hS := bl_next hS hS.size hb
      replace hrb := bl_row hb (lt_of_block hrb) hrb
      replace hra := bl_row hb (lt_of_block hra) hra
      clear hb
      go_wp2_with fail
      refine ⟨hS, ?_⟩
      refine plan_us (by rfl) (by kernel_rfl) ?_
      intro K hK
      skip
      refine wp_store_row 32 _ _ rfl ga rfl R1 (.int .i64 0 :: .int .u8 0 :: .int .u8 0 :: .int .u8 0 :: .int .u8 0 :: .int .u8 0 :: .int .u8 0 :: .int .u8 0 :: .int .u8 0 :: .int .u8 0 :: .int .u8 0 :: .int .u8 0 :: .int .u8 0 :: .int .u8 0 :: .int .u8 0 :: .int .u8 0 :: .int .u8 0 :: .slice none 0 0 :: .int .i64 0 :: .bool false :: []) rfl 32 hra (by rw [HRL1.out]; rfl) (by rw [HRL1.out]; rfl) HRO1.out ?_
      intro w57 hr hg
      replace hS := hS.grown hg hS.size (by intro k hk; injection hk with hk; omega)
      replace hrb := grown_row hg (by intro e; injection e with e; omega) hrb
      replace hra := hr
      clear hr hg
      refine hK _ _ ⟨hS, ?_⟩
      refine plan_us (by rfl) (by kernel_rfl) ?_
      intro K hK
      skip
      refine wp_store_row 32 _ _ rfl gb rfl R2 (.int .i64 0 :: .int .u8 0 :: .int .u8 0 :: .int .u8 0 :: .int .u8 0 :: .int .u8 0 :: .int .u8 0 :: .int .u8 0 :: .int .u8 0 :: .int .u8 0 :: .int .u8 0 :: .int .u8 0 :: .int .u8 0 :: .int .u8 0 :: .int .u8 0 :: .int .u8 0 :: .int .u8 0 :: .slice none 0 0 :: .int .i64 0 :: .bool false :: []) rfl 32 hrb (by rw [HRL2.out]; rfl) (by rw [HRL2.out]; rfl) HRO2.out ?_
      intro w58 hr hg
      replace hS := hS.grown hg hS.size (by intro k hk; injection hk with hk; omega)
      replace hra := grown_row hg (by intro e; injection e with e; omega) hra
      replace hrb := hr
      clear hr hg
      refine hK _ _ ⟨hS, ?_⟩
      clear hne2
      exact HK.out _ _ _ _ ga gb _ hS hra hrb
end Go.Proofs.Ythofbckkjcidmaa
namespace Go.Proofs.Ythofbckkjcidmaa
open Go.RowKit
set_option linter.unusedVariables false
set_option linter.unusedSimpArgs false

theorem wrap_in (x : Int) : 0 ≤ IntKind.wrap .u64 x ∧ IntKind.wrap .u64 x < 18446744073709551616 := by
  simp only [IntKind.wrap, IntKind.signed, IntKind.bits]; simp; omega
theorem nx_back {n : Int} (h : 0 ≤ n ∧ n < 4611686018427387903) : nxM (IntKind.wrap .u64 (n - 1)) (decide (0 < n)) = n := by
  by_cases h0 : 0 < n
  · have e : IntKind.wrap .u64 (n - 1) = n - 1 := by
      simp only [IntKind.wrap, IntKind.signed, IntKind.bits]; simp; omega
    rw [e, decide_eq_true h0]
    unfold nxM
    rw [if_pos rfl, if_pos (by omega)]
    omega
  · rw [decide_eq_false h0]
    unfold nxM
    rw [if_neg (by decide)]
    omega
set_option maxRecDepth 100000 in
set_option maxHeartbeats 16000000 in
theorem back9_core (w : World) (X Y K1 R1 R2 : List Value) (secret n0 n1 n s en : Int) (pa : Option Addr) (pl pc pq : Nat) (ps : List Int) (h : Hd) (kl L L2 : Nat) (ks P P2 : List Int)
    (HXL : Hid (X.length = 6)) (HYL : Hid (Y.length = 6)) (HKL : Hid (K1.length = 2)) (HKO : Hid (∀ v ∈ K1, v.oneCell' = true))
    (HRL1 : Hid (R1.length = 20)) (HRO1 : Hid (∀ v ∈ R1, v.oneCell' = true)) (HRL2 : Hid (R2.length = 20)) (HRO2 : Hid (∀ v ∈ R2, v.oneCell' = true)) (HR0 : Hid (R1[0]? = some (.int .i64 s)))
    (HHk : Hid (∀ a tc, (h.row a tc).length = 20 ∧ (∀ v ∈ h.row a tc, v.oneCell' = true)))
    (hpq : pq ≤ 100) (hn1 : 0 ≤ n1 ∧ n1 ≤ 4611686018427387903) (HNM : Hid (n1 % 4611686018427387903 = n)) (hn : 0 ≤ n ∧ n < 4611686018427387903)
    (hen : (s = 2 ∧ en = L + L2) ∨ (s ≠ 2 ∧ en = L)) (hL : L ≤ 600) (hL2 : L2 ≤ 600) (HPW : Hid (∀ x ∈ P ++ P2, (Lit.int .u8 x).wf = true))
    (HPI : Hid (IntsK .u8 w pa pq ps))
    (HH1 : Hid (∀ W', Below w.heap.size w W' → Makes Try.prog 8 #[.agg X.toArray] W' (.agg R1.toArray)))
    (HH2 : Hid (∀ W', Below w.heap.size w W' → Makes Try.prog 8 #[.agg Y.toArray] W' (.agg R2.toArray)))
    (HO1 : Hid (∀ w1, Makes Try.prog 7 #[.int .u64 secret] w1 (.agg K1.toArray)))
    (HC1 : Hid (∀ w1, Calls Try.prog 9 #[.slice pa pl pc, .int .i64 100] w1 fun e w' => e = .returned (.slice pa pq pc) ∧ w1 = w'))
    (HSM : Hid (∀ w1, Makes Try.prog 10 #[.int .u64 n0] w1 (.int .u64 n1)))
    (HP1 : Hid (∀ W a cp, Below w.heap.size w W → IntsK .u8 W a (4 + pq) ([102, 111, 117, 114] ++ ps) → Calls Try.prog 11 #[.agg K1.toArray, .agg R1.toArray, .int .u64 n, .slice a (4 + pq) cp] W fun e w' => Below W.heap.size W w' ∧ ∃ b c, e = .returned (.tuple #[.slice b L c, .int .i64 0]) ∧ L ≤ c ∧ c ≤ 9223372036854775807 ∧ IntsK .u8 w' b L P))
    (HP2 : Hid (∀ W a cp, Below w.heap.size w W → IntsK .u8 W a (4 + pq) ([102, 111, 117, 114] ++ ps) → Calls Try.prog 11 #[.agg K1.toArray, .agg R2.toArray, .int .u64 n, .slice a (4 + pq) cp] W fun e w' => Below W.heap.size W w' ∧ ∃ b c, e = .returned (.tuple #[.slice b L2 c, .int .i64 0]) ∧ L2 ≤ c ∧ c ≤ 9223372036854775807 ∧ IntsK .u8 w' b L2 P2))
    (HU : Hid (∀ W a cap lg hs, L ≤ cap → cap ≤ 9223372036854775807 → (0 ≤ lg ∧ lg < 18446744073709551616) → nxM lg hs = n → IntsK .u8 W a L P → Calls Try.prog 12 #[.agg K1.toArray, .slice a L cap, .int .u64 lg, .bool hs] W fun e w' => Below W.heap.size W w' ∧ ∃ a' tc pa pc,
      e = .returned (.tuple #[.agg (h.row a' tc).toArray, .int .u64 n, .slice pa (4 + pq) pc, .int .i64 0]) ∧ IntsK .u8 w' a' kl ks ∧ IntsK .u8 w' pa (4 + pq) ([102, 111, 117, 114] ++ ps)))
    (HSA : Hid (∀ W a tc, Below w.heap.size w W → IntsK .u8 W a kl ks → Makes Try.prog 13 #[.agg (h.row a tc).toArray, .agg R1.toArray] W (.bool true)))
    (HCU : Hid (∀ W a cap, IntsK .u8 W a (L + L2) (P ++ P2) → Makes Try.prog 14 #[.slice a (L + L2) cap] W (.tuple #[.int .i64 en, .bool true])))
    (HKN : Hid (∀ w1, Makes Try.prog 15 #[] w1 (.bool true))) :
    Makes Try.prog 3 #[.int .u64 secret, .agg X.toArray, .agg Y.toArray, .int .u64 n0, .slice pa pl pc] w (.bool true) := by
  have HB := Lib.hid (Below.refl w.heap.size w)
  go_enter Try.func3, Try.ntmps3
  go_upto_region 1 with fail
  obtain ⟨gx, hg0⟩ : ∃ g, w.heap.size = g := ⟨_, rfl⟩
  try rw [hg0]
  have hb := (Below.refl w.heap.size w).alloc (Nat.le_refl _) (.cells X.toArray 25)
  have hrw := heap_alloc_new w (.cells X.toArray 25)
  have hsz : (w.alloc (.cells X.toArray 25)).heap.size = gx + 1 := by simp [hg0]
  rw [hg0] at hrw
  replace HB := Lib.hid (bl_next HB.out HB.out.size hb)
  replace HPI := Lib.hid (HPI.out.below hb)
  have HGX := Lib.hid hrw
  clear hb hrw
  generalize w.alloc (.cells X.toArray 25) = w1 at HB HPI HGX hsz ⊢
  have hg1 := hsz
  clear hsz
  clear hg0
  have hb := (Below.refl w1.heap.size w1).alloc (Nat.le_refl _) (.cells Y.toArray 25)
  have hrw := heap_alloc_new w1 (.cells Y.toArray 25)
  have hsz : (w1.alloc (.cells Y.toArray 25)).heap.size = gx + 1 + 1 := by simp [hg1]
  rw [hg1] at hrw
  replace HB := Lib.hid (bl_next HB.out HB.out.size hb)
  replace HPI := Lib.hid (HPI.out.below hb)
  replace HGX := Lib.hid (bl_row hb (lt_of_block HGX.out) HGX.out)
  have HGY := Lib.hid hrw
  clear hb hrw
  generalize w1.alloc (.cells Y.toArray 25) = w2 at HB HPI HGX HGY hsz ⊢
  have hg2 := hsz
  clear hsz
  clear hg1
  obtain ⟨gy, hgg⟩ : ∃ g, gx + 1 = g := ⟨_, rfl⟩
  rw [hgg] at HGY hg2 ⊢
  have HLTgy : Hid (gx < gy) := Lib.hid (by omega)
  clear hgg
  clear hg2
  go_wp2_with fail
  refine Calls.mono (HO1.out _) ?_
  rintro e w3 ⟨rfl, hb⟩
  replace HB := Lib.hid (bl_next HB.out HB.out.size hb)
  replace HPI := Lib.hid (HPI.out.below hb)
  replace HGX := Lib.hid (bl_row hb (lt_of_block HGX.out) HGX.out)
  replace HGY := Lib.hid (bl_row hb (lt_of_block HGY.out) HGY.out)
  clear hb
  go_upto_region 2 with (first | (refine wpList_store_row rfl 27 _ _ rfl _ rfl K1 (.int .u64 0 :: .int .u64 0 :: []) rfl 27 (heap_alloc_new _ _) (by rw [HKL.out]; rfl) (by rw [HKL.out]; rfl) HKO.out ?_; intro w4 hr hg) | fail)
  have hal := (Below.refl w3.heap.size w3).alloc (Nat.le_refl _) (.cells ((.int .u64 0 :: .int .u64 0 :: [])).toArray 27)
  have hb : Below w3.heap.size w3 w4 := hal.grown hg hal.size (by intro k hk; injection hk with hk; omega)
  replace HB := Lib.hid (bl_next HB.out HB.out.size hb)
  replace HPI := Lib.hid (HPI.out.below hb)
  replace HGX := Lib.hid (bl_row hb (lt_of_block HGX.out) HGX.out)
  replace HGY := Lib.hid (bl_row hb (lt_of_block HGY.out) HGY.out)
  have HGK := Lib.hid (hr)
  clear hr hg hal hb
  obtain ⟨gk, hg⟩ : ∃ g, w3.heap.size = g := ⟨_, rfl⟩
  rw [hg] at HGK ⊢
  clear hg
  refine back_r2 _ HGX HGY HXL HYL HRL1 HRO1 HRL2 HRO2 (Lib.hid fun W' hb => HH1.out W' (bl_next HB.out HB.out.size hb)) (Lib.hid fun W' hb => HH2.out W' (bl_next HB.out HB.out.size hb)) (fun c a d v w h => by first | (cases d <;> exact h) | exact HKP.out c a d v w h) ?_
  rintro _ _ _ _ g1 g2 wp hb h1 h2
  clear HGX HGY HH1 HH2 HXL HYL HO1
  replace HB := Lib.hid (bl_next HB.out HB.out.size hb)
  replace HPI := Lib.hid (HPI.out.below hb)
  replace HGK := Lib.hid (bl_row hb (lt_of_block HGK.out) HGK.out)
  have HG1 := Lib.hid (h1)
  have HG2 := Lib.hid (h2)
  clear hb h1 h2
  obtain ⟨wl, hcv, hbl, hil, hsz⟩ := lit_bytes wp [102, 111, 117, 114] #[.int .u8 102, .int .u8 111, .int .u8 117, .int .u8 114] 4 rfl rfl (by decide)
  go_wp2_with fail
  replace HB := Lib.hid (bl_next HB.out HB.out.size hbl)
  replace HPI := Lib.hid (HPI.out.below hbl)
  replace HGK := Lib.hid (bl_row hbl (lt_of_block HGK.out) HGK.out)
  replace HG1 := Lib.hid (bl_row hbl (lt_of_block HG1.out) HG1.out)
  replace HG2 := Lib.hid (bl_row hbl (lt_of_block HG2.out) HG2.out)
  clear hcv hbl hsz
  refine Calls.mono (HC1.out _) ?_
  rintro e wq ⟨rfl, rfl⟩
  go_upto_region 4 with (first | (at_builtin; refine wpList_append_full rfl _ _ rfl _ 4 [102, 111, 117, 114] rfl hil _ _ _ ps rfl HPI.out (by omega) ?_; intro a2 c2 wf hle2 hcm2 hi2 hb) | fail)
  replace HB := Lib.hid (bl_next HB.out HB.out.size hb)
  replace HPI := Lib.hid (HPI.out.below hb)
  replace HGK := Lib.hid (bl_row hb (lt_of_block HGK.out) HGK.out)
  replace HG1 := Lib.hid (bl_row hb (lt_of_block HG1.out) HG1.out)
  replace HG2 := Lib.hid (bl_row hb (lt_of_block HG2.out) HG2.out)
  have HIP := Lib.hid (hi2)
  clear hb hi2 hil hle2 hcm2 HC1
  go_wp2_with fail
  refine Calls.mono (HSM.out _) ?_
  rintro e w6 ⟨rfl, hb⟩
  replace HB := Lib.hid (bl_next HB.out HB.out.size hb)
  replace HPI := Lib.hid (HPI.out.below hb)
  replace HGK := Lib.hid (bl_row hb (lt_of_block HGK.out) HGK.out)
  replace HG1 := Lib.hid (bl_row hb (lt_of_block HG1.out) HG1.out)
  replace HG2 := Lib.hid (bl_row hb (lt_of_block HG2.out) HG2.out)
  replace HIP := Lib.hid (HIP.out.below hb)
  clear hb
  go_upto_region 5 with fail
  try rw [HNM.out]
  go_wp2_with (first | (refine wpList_load_mid rfl 27 _ rfl gk 0 rfl K1 _ (rngL HGK.out) Try.underlying27 rfl (by rw [HKL.out]; rfl) ?_) | (refine wpList_load_mid rfl 32 _ rfl g1 0 rfl R1 _ (rngL HG1.out) Try.underlying32 rfl (by rw [HRL1.out]; rfl) ?_) | fail)
  refine Calls.mono (HP1.out _ _ _ HB.out HIP.out) ?_
  rintro e w7 ⟨hb, b1, c1, rfl, hlc1, hcm1, hi1⟩
  replace HB := Lib.hid (bl_next HB.out HB.out.size hb)
  replace HPI := Lib.hid (HPI.out.below hb)
  replace HGK := Lib.hid (bl_row hb (lt_of_block HGK.out) HGK.out)
  replace HG1 := Lib.hid (bl_row hb (lt_of_block HG1.out) HG1.out)
  replace HG2 := Lib.hid (bl_row hb (lt_of_block HG2.out) HG2.out)
  replace HIP := Lib.hid (HIP.out.below hb)
  clear hb
  have HI1 := Lib.hid (hi1)
  clear hi1 HP1 HSM HNM
  go_wp2_with (first | (refine wpList_load_mid rfl 27 _ rfl gk 0 rfl K1 _ (rngL HGK.out) Try.underlying27 rfl (by rw [HKL.out]; rfl) ?_) | (refine wpList_load_mid rfl 32 _ rfl g2 0 rfl R2 _ (rngL HG2.out) Try.underlying32 rfl (by rw [HRL2.out]; rfl) ?_) | fail)
  refine Calls.mono (HP2.out _ _ _ HB.out HIP.out) ?_
  rintro e w8 ⟨hb, b2, c3, rfl, hlc2, hcm2, hi2⟩
  replace HB := Lib.hid (bl_next HB.out HB.out.size hb)
  replace HPI := Lib.hid (HPI.out.below hb)
  replace HGK := Lib.hid (bl_row hb (lt_of_block HGK.out) HGK.out)
  replace HG1 := Lib.hid (bl_row hb (lt_of_block HG1.out) HG1.out)
  replace HG2 := Lib.hid (bl_row hb (lt_of_block HG2.out) HG2.out)
  replace HIP := Lib.hid (HIP.out.below hb)
  replace HI1 := Lib.hid (HI1.out.below hb)
  clear hb
  have HI2 := Lib.hid (hi2)
  clear hi2 HP2 HG2
  go_upto_region 9 with fail
  go_wp2_with (first | (refine wpList_load_mid rfl 27 _ rfl gk 0 rfl K1 _ (rngL HGK.out) Try.underlying27 rfl (by rw [HKL.out]; rfl) ?_) | fail)
  refine Calls.mono (HU.out _ _ _ _ _ hlc1 hcm1 ?lg ?nx HI1.out) ?main
  case lg => exact wrap_in _
  case nx => exact nx_back hn
  case main =>
    rintro e w9 ⟨hb, a3, tc3, pa3, pc3, rfl, hi3, hp3⟩
    replace HB := Lib.hid (bl_next HB.out HB.out.size hb)
    replace HPI := Lib.hid (HPI.out.below hb)
    replace HGK := Lib.hid (bl_row hb (lt_of_block HGK.out) HGK.out)
    replace HG1 := Lib.hid (bl_row hb (lt_of_block HG1.out) HG1.out)
    replace HIP := Lib.hid (HIP.out.below hb)
    replace HI1 := Lib.hid (HI1.out.below hb)
    replace HI2 := Lib.hid (HI2.out.below hb)
    clear hb
    have HI3 := Lib.hid (hi3)
    have HP3 := Lib.hid (hp3)
    clear hi3 hp3 HU
    have HSA1 := Lib.hid (fun W => HSA.out W a3 tc3)
    have HRLw := Lib.hid ((HHk.out a3 tc3).1); have HROw := Lib.hid ((HHk.out a3 tc3).2)
    obtain ⟨RW, hRW⟩ : ∃ R, h.row a3 tc3 = R := ⟨_, rfl⟩
    rw [hRW] at HRLw HROw HSA1 ⊢
    clear hRW
    clear HSA HHk
    go_upto_region 10 with (first | (refine wpList_store_row rfl 32 _ _ rfl _ rfl RW (.int .i64 0 :: .int .u8 0 :: .int .u8 0 :: .int .u8 0 :: .int .u8 0 :: .int .u8 0 :: .int .u8 0 :: .int .u8 0 :: .int .u8 0 :: .int .u8 0 :: .int .u8 0 :: .int .u8 0 :: .int .u8 0 :: .int .u8 0 :: .int .u8 0 :: .int .u8 0 :: .int .u8 0 :: .slice none 0 0 :: .int .i64 0 :: .bool false :: []) rfl 32 (heap_alloc_new _ _) (by rw [HRLw.out]; rfl) (by rw [HRLw.out]; rfl) HROw.out ?_; intro w10 hr hg) | fail)
    have hal := (Below.refl w9.heap.size w9).alloc (Nat.le_refl _) (.cells ((.int .i64 0 :: .int .u8 0 :: .int .u8 0 :: .int .u8 0 :: .int .u8 0 :: .int .u8 0 :: .int .u8 0 :: .int .u8 0 :: .int .u8 0 :: .int .u8 0 :: .int .u8 0 :: .int .u8 0 :: .int .u8 0 :: .int .u8 0 :: .int .u8 0 :: .int .u8 0 :: .int .u8 0 :: .slice none 0 0 :: .int .i64 0 :: .bool false :: [])).toArray 32)
    have hb : Below w9.heap.size w9 w10 := hal.grown hg hal.size (by intro k hk; injection hk with hk; omega)
    replace HB := Lib.hid (bl_next HB.out HB.out.size hb)
    replace HPI := Lib.hid (HPI.out.below hb)
    replace HGK := Lib.hid (bl_row hb (lt_of_block HGK.out) HGK.out)
    replace HG1 := Lib.hid (bl_row hb (lt_of_block HG1.out) HG1.out)
    replace HIP := Lib.hid (HIP.out.below hb)
    replace HI1 := Lib.hid (HI1.out.below hb)
    replace HI2 := Lib.hid (HI2.out.below hb)
    replace HI3 := Lib.hid (HI3.out.below hb)
    replace HP3 := Lib.hid (HP3.out.below hb)
    have HGR := Lib.hid (hr)
    clear hr hg hal hb
    obtain ⟨gr, hg⟩ : ∃ g, w9.heap.size = g := ⟨_, rfl⟩
    rw [hg] at HGR ⊢
    clear hg
    skip
    go_wp2_with (first | (refine wpList_load_g 32 _ rfl (by kernel_rfl) gr 0 rfl RW _ (rngL HGR.out) Try.underlying32 rfl (by rw [HRLw.out]; rfl) ?_) | (refine wpList_load_g 32 _ rfl (by kernel_rfl) g1 0 rfl R1 _ (rngL HG1.out) Try.underlying32 rfl (by rw [HRL1.out]; rfl) ?_) | fail)
    refine Calls.mono (HSA1.out _ HB.out HI3.out) ?_
    rintro e w11 ⟨rfl, hb⟩
    replace HB := Lib.hid (bl_next HB.out HB.out.size hb)
    replace HPI := Lib.hid (HPI.out.below hb)
    replace HGK := Lib.hid (bl_row hb (lt_of_block HGK.out) HGK.out)
    replace HG1 := Lib.hid (bl_row hb (lt_of_block HG1.out) HG1.out)
    replace HIP := Lib.hid (HIP.out.below hb)
    replace HI1 := Lib.hid (HI1.out.below hb)
    replace HI2 := Lib.hid (HI2.out.below hb)
    replace HI3 := Lib.hid (HI3.out.below hb)
    replace HP3 := Lib.hid (HP3.out.below hb)
    replace HGR := Lib.hid (bl_row hb (lt_of_block HGR.out) HGR.out)
    clear hb
    have q1 : (convert 23 9 (.slice pa3 (4 + pq) pc3)).run Try.prog w11 = .ok (.string (strOfNums ([102, 111, 117, 114] ++ ps))) w11 := conv_ints _ 5 _ _ Try.underlying23 Try.underlying5 Try.underlying9 HP3.out
    have q2 : (convert 23 9 (.slice a2 (4 + pq) c2)).run Try.prog w11 = .ok (.string (strOfNums ([102, 111, 117, 114] ++ ps))) w11 := conv_ints _ 5 _ _ Try.underlying23 Try.underlying5 Try.underlying9 HIP.out
    generalize strOfNums ([102, 111, 117, 114] ++ ps) = sb at q1 q2
    go_upto_region 12 with fail
    clear q1 q2 HSA1 HI3 HP3 HIP HGR HRLw HROw HPI
    go_wp2_with (first | (at_builtin; refine wpList_append_bytes rfl _ _ rfl w11.heap.size 0 (.slice (some ⟨w11.heap.size, 0, none⟩) 0 0) [] rfl (World.ownsRow_made _ _ _ (Nat.le_refl _) (by unfold maxLen; omega) (by rfl)) _ _ _ _ rfl (HI1.out.below ((Below.refl _ _).alloc (Nat.le_refl _) _)) (by omega) (by simp) ?_; intro vb wb hown hgrow; rw [Nat.zero_add, List.nil_append] at hown; obtain ⟨bvb, cvb, rfl, _⟩ := own_slice hown; have HOb := Lib.hid hown; have HLb := Lib.hid (((Below.refl w11.heap.size w11).alloc (Nat.le_refl _) _).grown hgrow (by simp) (by intro k hk; simp [Value.ownBlock] at hk; omega)); clear hown hgrow) | (at_builtin; refine wpList_append_bytes rfl _ _ rfl w11.heap.size _ _ _ rfl HOb.out _ _ _ _ rfl (HI2.out.below HLb.out) (by omega) HLb.out.size ?_; intro vd wd hown hgrow; obtain ⟨bvd, cvd, rfl, _⟩ := own_slice hown; have HOd := Lib.hid hown; have HLd := Lib.hid (HLb.out.grown hgrow HLb.out.size (fun k hk => own_base HOb.out k hk)); clear hown hgrow) | fail)
    replace HB := Lib.hid (bl_next HB.out HB.out.size HLd.out)
    replace HGK := Lib.hid (bl_row HLd.out (lt_of_block HGK.out) HGK.out)
    replace HG1 := Lib.hid (bl_row HLd.out (lt_of_block HG1.out) HG1.out)
    replace HI1 := Lib.hid (HI1.out.below HLd.out)
    replace HI2 := Lib.hid (HI2.out.below HLd.out)
    obtain ⟨_, _, ey, hcp, hiy, _⟩ := ints_of_own HOd.out HPW.out
    injection ey with e1 e2 e3
    subst e1; subst e3
    clear e2
    refine Calls.mono (HCU.out _ _ _ hiy) ?_
    rintro e w12 ⟨rfl, hb⟩
    replace HB := Lib.hid (bl_next HB.out HB.out.size hb)
    replace HGK := Lib.hid (bl_row hb (lt_of_block HGK.out) HGK.out)
    replace HG1 := Lib.hid (bl_row hb (lt_of_block HG1.out) HG1.out)
    replace HI1 := Lib.hid (HI1.out.below hb)
    replace HI2 := Lib.hid (HI2.out.below hb)
    clear hb
    clear hiy hcp HOd HLd HOb HLb HCU
    go_upto_region 13 with fail
    have c0 := cell_row HG1.out 0 _ HR0.out
    rcases hen with ⟨rfl, rfl⟩ | ⟨hs2, rfl⟩
    · skip
      go_upto_region 15 with fail
      go_wp2_with fail
      refine Calls.mono (HKN.out _) ?_
      rintro e w18 ⟨rfl, hb⟩
      replace HB := Lib.hid (bl_next HB.out HB.out.size hb)
      replace HGK := Lib.hid (bl_row hb (lt_of_block HGK.out) HGK.out)
      replace HG1 := Lib.hid (bl_row hb (lt_of_block HG1.out) HG1.out)
      replace HI1 := Lib.hid (HI1.out.below hb)
      replace HI2 := Lib.hid (HI2.out.below hb)
      clear hb
      go_wp2_with fail
      go_ret
      exact ⟨rfl, HB.out⟩
    · skip
      have hs2b : (s == 2) = false := by simpa using hs2
      go_upto_region 15 with fail
      go_wp2_with fail
      refine Calls.mono (HKN.out _) ?_
      rintro e w13 ⟨rfl, hb⟩
      replace HB := Lib.hid (bl_next HB.out HB.out.size hb)
      replace HGK := Lib.hid (bl_row hb (lt_of_block HGK.out) HGK.out)
      replace HG1 := Lib.hid (bl_row hb (lt_of_block HG1.out) HG1.out)
      replace HI1 := Lib.hid (HI1.out.below hb)
      replace HI2 := Lib.hid (HI2.out.below hb)
      clear hb
      go_wp2_with fail
      go_ret
      exact ⟨rfl, HB.out⟩
end Go.Proofs.Ythofbckkjcidmaa
namespace Go.Proofs.Ythofbckkjcidmaa
open Go.RowKit
set_option linter.unusedVariables false

set_option maxHeartbeats 2000000 in
theorem back9_any (w : World) (secret : Int) (q r : HX) (n0 : Int) (pa : Option Addr) (pl pc : Nat) (pz : List Int)
    (hq : q.ok w) (hr : r.ok w) (hn0 : 0 ≤ n0 ∧ n0 < 18446744073709551616) (hpl : pl ≤ pc) (hpc : pc ≤ 9223372036854775807) (hP : IntsK .u8 w pa pl pz) :
    Makes Try.prog 3 #[.int .u64 secret, q.val, r.val, .int .u64 n0, .slice pa pl pc] w (.bool true) := by
  have hok := keepH_ok q.s q.t q.f q.w q.k q.p hq.ints.2.1
  have hri := keepH_right q.s q.t q.f q.w q.k q.p
  have hkl := keepH_k q.s q.t q.f q.w q.k q.p
  have hki := keep_ints q.s q.t q.f q.w q.p hq.ints
  have hkh := fun w1 (hb : Below w.heap.size w w1) => khead0_any w1 q.s q.t q.f q.w q.a q.tl q.tc q.k q.p hq.le hq.max (hq.ints.below hb) hq.bs hq.bt hq.bf hq.bw
  generalize keepH q.s q.t q.f q.w q.k q.p = h at hok hri hkl hki hkh
  generalize (if h.s = 0 then q.a else none) = ta at hki hkh
  generalize (if h.s = 0 then q.tc else 0) = tc at hkh
  have hok2 := keepH_ok r.s r.t r.f r.w r.k r.p hr.ints.2.1
  have hri2 := keepH_right r.s r.t r.f r.w r.k r.p
  have hkl2 := keepH_k r.s r.t r.f r.w r.k r.p
  have hki2 := keep_ints r.s r.t r.f r.w r.p hr.ints
  have hkh2 := fun w1 (hb : Below w.heap.size w w1) => khead0_any w1 r.s r.t r.f r.w r.a r.tl r.tc r.k r.p hr.le hr.max (hr.ints.below hb) hr.bs hr.bt hr.bf hr.bw
  generalize keepH r.s r.t r.f r.w r.k r.p = g at hok2 hri2 hkl2 hki2 hkh2
  generalize (if g.s = 0 then r.a else none) = ua at hki2 hkh2
  generalize (if g.s = 0 then r.tc else 0) = uc at hkh2
  have hrp := (hrightM_eq h).1 hri
  have hrp2 := (hrightM_eq g).1 hri2
  have hw1 := hrp.1; have hw4 := hrp.2.1
  have hu1 := hrp2.1; have hu4 := hrp2.2.1
  have hs := smallM_in n0
  have hsm := fun w => small_any w n0 hn0
  generalize smallM n0 = n1 at hs hsm
  obtain ⟨n, hnn⟩ : ∃ n, n1 % 4611686018427387903 = n := ⟨_, rfl⟩
  have hn : 0 ≤ n ∧ n < 4611686018427387903 := by omega
  have hPq := hP.pre (min pl 100) (by omega)
  obtain ⟨pq, hpq⟩ : ∃ pq, min pl 100 = pq := ⟨_, rfl⟩
  have hc1 := fun w1 => cut_any w1 pa pl pc 100 hpl hpc
  rw [hpq] at hPq hc1
  generalize pz.take pq = ps at hPq
  have hpsl := hPq.1
  have hfl : ([102, 111, 117, 114] ++ ps).length = 4 + pq := by rw [List.length_append, hpsl]; rfl
  have hfw := four_wf hPq.2.1
  have hp100 : pq ≤ 100 := by omega
  generalize hfour : [102, 111, 117, 114] ++ ps = F at hfl hfw
  obtain ⟨k1, hk1⟩ : ∃ k, keyedM secret [115, 101, 97, 108] = k := ⟨_, rfl⟩
  obtain ⟨k2, hk2⟩ : ∃ k, keyedM secret [109, 97, 115, 107] = k := ⟨_, rfl⟩
  have hof := fun w1 => lockof_any w1 secret
  rw [hk1, hk2] at hof
  have hel := encH_le2 h hok hkl (h.w + F.length + 8)
  have hel2 := encH_le2 g hok2 hkl2 (g.w + F.length + 8)
  obtain ⟨P, hPr⟩ := prot_some (ks := k1) (km := k2) (n := n) (h := h) (pl := F) hrp (by omega) (by rw [hfl]; omega) (by rw [hfl] at hel ⊢; omega)
  obtain ⟨P2, hPr2⟩ := prot_some (ks := k1) (km := k2) (n := n) (h := g) (pl := F) hrp2 (by omega) (by rw [hfl]; omega) (by rw [hfl] at hel2 ⊢; omega)
  have hL : P.length ≤ 600 := by rw [prot_len hPr]; rw [hfl] at hel ⊢; omega
  have hL2 : P2.length ≤ 600 := by rw [prot_len hPr2]; rw [hfl] at hel2 ⊢; omega
  have hPW := protM_wf hPr hok hfw
  have hPW2 := protM_wf hPr2 hok2 hfw
  have hprot : ∀ (g : Hd) (a : Option Addr) (tc : Nat) (b : List Int), g.ok → g.k.length ≤ 32 → (1 ≤ g.w ∧ g.w ≤ 4) → IntsK .u8 w a g.k.length g.k → protM k1 k2 g n F = some b → ∀ W x cp, Below w.heap.size w W → IntsK .u8 W x (4 + pq) F →
      Calls Try.prog 11 #[.agg ([.int .u64 k1, .int .u64 k2] : List Value).toArray, .agg (g.row a tc).toArray, .int .u64 n, .slice x (4 + pq) cp] W fun e w' => Below W.heap.size W w' ∧ ∃ y c, e = .returned (.tuple #[.slice y b.length c, .int .i64 0]) ∧ b.length ≤ c ∧ c ≤ 9223372036854775807 ∧ IntsK .u8 w' y b.length b := by
    intro g a tc b hg hgk hgw hgi hb W x cp hW hx
    refine (protect_any W k1 k2 n g a tc x (4 + pq) cp F hg (by omega) (hgi.below hW) ⟨by omega, by omega⟩ ⟨hn.1, by omega⟩ (by omega) hx).mono fun e w' hr => ?_
    obtain ⟨hbl, ⟨hnone, _⟩ | ⟨b', y, c, hsome, he, h1, h2, h3⟩⟩ := hr
    · rw [hb] at hnone; cases hnone
    · obtain rfl : b' = b := by have := hb.symm.trans hsome; injection this with this; exact this.symm
      exact ⟨hbl, y, c, he, h1, h2, h3⟩
  refine back9_core w q.row r.row [.int .u64 k1, .int .u64 k2] (h.row ta tc) (g.row ua uc) secret n0 n1 n h.s (if h.s = 2 then P.length + P2.length else P.length) pa pl pc pq ps h h.k.length P.length P2.length h.k P P2
    (Lib.hid rfl) (Lib.hid rfl) (Lib.hid rfl) (Lib.hid (by intro v hv; simp only [List.mem_cons, List.not_mem_nil, or_false] at hv; rcases hv with rfl | rfl <;> rfl))
    (Lib.hid (row_len h ta tc hok.lt hok.lf)) (Lib.hid (row_one h ta tc)) (Lib.hid (row_len g ua uc hok2.lt hok2.lf)) (Lib.hid (row_one g ua uc)) (Lib.hid rfl)
    (Lib.hid fun a tc => ⟨row_len h a tc hok.lt hok.lf, row_one h a tc⟩) hp100 hs (Lib.hid hnn) hn ?en hL hL2 (Lib.hid fun x hx => (List.mem_append.1 hx).elim (hPW x) (hPW2 x)) (Lib.hid hPq)
    (Lib.hid fun W hb => hkh W hb) (Lib.hid fun W hb => hkh2 W hb) (Lib.hid hof) (Lib.hid hc1) (Lib.hid hsm)
    (Lib.hid ?p1) (Lib.hid ?p2) (Lib.hid ?un) (Lib.hid fun W a tc' hW hI => same_any W h a ta tc' tc hok.lt hok.lf hI (hki.below hW) hok.wt hok.wf) (Lib.hid ?cu) (Lib.hid known9_any)
  case en =>
    by_cases h2 : h.s = 2
    · exact .inl ⟨h2, by rw [if_pos h2]⟩
    · exact .inr ⟨h2, by rw [if_neg h2]⟩
  case p1 => rw [hfour]; exact hprot h ta tc P hok hkl ⟨hw1, hw4⟩ hki hPr
  case p2 => rw [hfour]; exact hprot g ua uc P2 hok2 hkl2 ⟨hu1, hu4⟩ hki2 hPr2
  case un =>
    intro W a cap lg hs h1 h2 h3 h4 hI
    rw [hfour]
    refine (punprot_any W k1 k2 a P.length cap P lg hs h1 h2 (by omega) h3 hI).mono fun e w' hr => ?_
    obtain ⟨hbl, hd, m, pl', err, a', tc', pa', pc', hun, he, hi1, _, hi2, _, _, _⟩ := hr
    have hu := unp_of (largest := lg) (has := hs) [] hPr hok hfw (.inr rfl) hn.1 h4
    rw [List.append_nil] at hu
    have hue := hu.symm.trans hun
    injection hue with e1 hue
    injection hue with e2 hue
    injection hue with e3 e4
    subst e1; subst e2; subst e3; subst e4
    rw [hfl] at he hi2
    exact ⟨hbl, a', tc', pa', pc', he, hi1, hi2⟩
  case cu =>
    intro W a cap hI
    have hc := pcutb_any W a (P.length + P2.length) cap (P ++ P2) (by omega) hI
    obtain ⟨hd, at', hp⟩ := par_behind P2 hPr hok hfw
    rw [hp] at hc
    have e : ((if h.s = 2 then P.length + P2.length else P.length : Nat) : Int) = (if h.s = 2 then (P.length : Int) + P2.length else P.length) := by split <;> simp
    simp only [e] at hc
    exact hc
end Go.Proofs.Ythofbckkjcidmaa
