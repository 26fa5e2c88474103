/- octet's writer: what a writer is; contracts. -/
import Derived.Test.YtlpajohhnngbmaaOct3
import Derived.Test.YtlpajohhnngbmaaPut
import Derived.Test.YtlpajohhnngbmaaGrow2
namespace Go.Proofs.Ytlpajohhnngbmaa
open Go.RowKit
set_option linter.unusedVariables false

/-- nothing but blocks p and q has turned. -/
structure Ch (w w' : World) (p : Nat) (q : Option Nat) : Prop where
  os : w'.os = w.os
  tape : w'.tape = w.tape
  output : w'.output = w.output
  size : w.heap.size ≤ w'.heap.size
  block : ∀ i, i < w.heap.size → i ≠ p → q ≠ some i → w'.heap[i]? = w.heap[i]?
theorem Ch.below {w w' W : World} {p : Nat} {q : Option Nat} {B : Nat} (h : Ch w w' p q) (hb : Below B W w) (hs : B ≤ w.heap.size) (hp : B ≤ p) (hq : ∀ k, q = some k → B ≤ k) : Below B W w' :=
  ⟨h.os.trans hb.os, h.tape.trans hb.tape, h.output.trans hb.output, Nat.le_trans hb.size h.size, fun k hk => (h.block k (by omega) (by omega) (by intro e; have := hq k e; omega)).trans (hb.block k hk)⟩
/-- a writer at block p. -/
structure Wr (w : World) (B p : Nat) (v : Value) (bs : List Int) : Prop where
  lo : B ≤ p
  row : w.heap[p]? = some (.cells #[v] 106 (0, 0))
  own : w.ownsRow B 5 1 v bs.length (bs.map (Value.int .u8))
  ne : v.ownBlock ≠ some p
theorem own_ch {w w' : World} {base e size n : Nat} {v : Value} {xs : List Value} (h : w.ownsRow base e size v n xs) (hk : ∀ k, v.ownBlock = some k → k < w.heap.size → w'.heap[k]? = w.heap[k]?) : w'.ownsRow base e size v n xs := by
  refine ⟨h.1, ?_⟩
  rcases h.2 with ⟨rfl, rfl⟩ | ⟨g, cap, cur, rfl, hg, hrow, hn, hc, hsz, htk⟩
  · exact .inl ⟨rfl, rfl⟩
  · exact .inr ⟨g, cap, cur, rfl, hg, (hk g (by simp [Value.ownBlock]) (lt_of_block hrow)).trans hrow, hn, hc, hsz, htk⟩
theorem Wr.lt {w : World} {B p : Nat} {v : Value} {bs : List Int} (h : Wr w B p v bs) : p < w.heap.size := lt_of_block h.row
theorem Wr.ch {w w' : World} {B p : Nat} {v : Value} {bs : List Int} (h : Wr w B p v bs) (hp : w'.heap[p]? = w.heap[p]?) (hk : ∀ k, v.ownBlock = some k → k < w.heap.size → w'.heap[k]? = w.heap[k]?) : Wr w' B p v bs :=
  ⟨h.lo, hp.trans h.row, own_ch h.own hk, h.ne⟩
theorem Wr.to {w w' : World} {B p : Nat} {v : Value} {bs : List Int} (h : Wr w B p v bs) (hb : Below w.heap.size w w') : Wr w' B p v bs :=
  h.ch (hb.block p h.lt) (fun k _ hk => hb.block k hk)
theorem Wr.grow {w W1 w1 : World} {B p : Nat} {v v' : Value} {bs bs' : List Int} (h : Wr w B p v bs) (hb : Below w.heap.size w W1) (hg : W1.grownBy w1 v.ownBlock)
    (ho : w1.ownsRow B 5 1 v' bs'.length (bs'.map (Value.int .u8))) (hv : v'.ownBlock = v.ownBlock ∨ v'.ownBlock = some W1.heap.size) :
    Wr (w1.setCell ⟨p, 0, none⟩ v') B p v' bs' ∧ Ch w (w1.setCell ⟨p, 0, none⟩ v') p v.ownBlock ∧ (v'.ownBlock = v.ownBlock ∨ ∃ k, w.heap.size ≤ k ∧ v'.ownBlock = some k) := by
  have hs := hb.size
  have hlt := h.lt
  have hrow1 : w1.heap[p]? = some (.cells #[v] 106 (0, 0)) := (hg.block p (by omega) (fun e => h.ne e.symm)).trans (bl_row hb hlt h.row)
  have hne : v'.ownBlock ≠ some p := by
    rcases hv with e | e
    · rw [e]; exact h.ne
    · rw [e]; intro e2; injection e2 with e2; omega
  refine ⟨⟨h.lo, ((At.base hrow1).set 0 v').row, own_ch ho (fun k hk _ => Below.heap_setCell _ _ _ _ (fun e => hne (by rw [hk]; simp at e; rw [e]))), hne⟩, ⟨hg.os.trans hb.os, hg.tape.trans hb.tape, hg.output.trans hb.output, by have := hg.size; simp; omega, fun i hi hip hq => ?_⟩, ?_⟩
  · rw [Below.heap_setCell _ _ _ _ (fun e => hip (by simpa using e))]
    exact (hg.block i (by omega) (fun e => hq e.symm)).trans (hb.block i hi)
  · rcases hv with e | e
    · exact .inl e
    · exact .inr ⟨_, hs, e⟩

set_option maxRecDepth 100000 in
theorem new_any (w : World) : Calls Try.prog 49 #[] w fun e w' => e = .returned (.pointer (some ⟨w.heap.size, 0, none⟩)) ∧ Wr w' w.heap.size w.heap.size (.slice none 0 0) [] ∧ Below w.heap.size w w' := by
  go_enter Try.func49, Try.ntmps49
  go_wp2_with fail
  go_ret
  exact ⟨rfl, ⟨Nat.le_refl _, heap_alloc_new _ _, World.ownsRow_nil _ _ _ _, by simp [Value.ownBlock]⟩, (Below.refl _ _).alloc (Nat.le_refl _) _⟩

set_option maxRecDepth 100000 in
theorem wraw_any (w : World) (B p : Nat) (v : Value) (bs : List Int) (a : Option Addr) (len cap : Nat) (xs : List Int) (hl : bs.length + len ≤ 140737488355328) (h : Wr w B p v bs) (hI : IntsK .u8 w a len xs) :
    Calls Try.prog 55 #[.pointer (some ⟨p, 0, none⟩), .slice a len cap] w fun e w' => ∃ v', e = .returned (.tuple #[]) ∧ Wr w' B p v' (bs ++ xs) ∧ Ch w w' p v.ownBlock ∧ (v'.ownBlock = v.ownBlock ∨ ∃ k, w.heap.size ≤ k ∧ v'.ownBlock = some k) := by
  have c0 : w.cell? ⟨p, 0, none⟩ = some v := row_cell h.row 0 _ rfl
  have hB : B ≤ w.heap.size := Nat.le_trans h.lo (Nat.le_of_lt h.lt)
  have HW := Lib.hid h; have HI := Lib.hid hI
  clear h hI
  go_enter Try.func55, Try.ntmps55
  go_wp2_with (first | (at_builtin; refine wpList_append_bytes_at rfl _ _ rfl B _ v bs rfl HW.out.own _ _ _ _ rfl HI.out hl hB ?_; intro v' w1 hown hgrow hv; obtain ⟨b2, cp2, rfl, _⟩ := own_slice hown; have HO := Lib.hid hown; have HG := Lib.hid hgrow; have HV := Lib.hid hv; clear hown hgrow hv; have f0 : w1.frozen? ⟨p, 0, none⟩ = false := row_free (grown_row HG.out (fun e => HW.out.ne e.symm) HW.out.row) 0; have g0 : w1.cell? ⟨p, 0, none⟩ = some v := row_cell (grown_row HG.out (fun e => HW.out.ne e.symm) HW.out.row) 0 _ rfl) | fail)
  go_end0
  have ho : w1.ownsRow B 5 1 (.slice b2 (bs.length + len) cp2) (bs ++ xs).length ((bs ++ xs).map (Value.int .u8)) := by rw [List.length_append, HI.out.1]; exact HO.out
  exact ⟨_, rfl, HW.out.grow (Below.refl _ _) HG.out ho HV.out⟩

set_option maxRecDepth 100000 in
theorem wbyte_any (w : World) (B p : Nat) (v : Value) (bs : List Int) (x : Int) (hl : bs.length + 1 ≤ 140737488355328) (h : Wr w B p v bs) (hx : (Lit.int .u8 x).wf = true) :
    Calls Try.prog 53 #[.pointer (some ⟨p, 0, none⟩), .int .u8 x] w fun e w' => ∃ v', e = .returned (.tuple #[]) ∧ Wr w' B p v' (bs ++ [x]) ∧ Ch w w' p v.ownBlock ∧ (v'.ownBlock = v.ownBlock ∨ ∃ k, w.heap.size ≤ k ∧ v'.ownBlock = some k) := by
  have c0 : w.cell? ⟨p, 0, none⟩ = some v := row_cell h.row 0 _ rfl
  have hB : B ≤ w.heap.size := Nat.le_trans h.lo (Nat.le_of_lt h.lt)
  have HW := Lib.hid h; have HX := Lib.hid hx
  have HBA := Lib.hid ((Below.refl w.heap.size w).alloc (Nat.le_refl _) (.cells #[.int .u8 x] 5))
  clear h hx
  go_enter Try.func53, Try.ntmps53
  go_wp2_with (first | (at_builtin; refine wpList_append_bytes_at rfl _ _ rfl B _ v bs rfl (own_below HW.out.own HBA.out) _ _ _ _ rfl (ints_made _ _ HX.out) hl (by simp; omega) ?_; intro v' w1 hown hgrow hv; obtain ⟨b2, cp2, rfl, _⟩ := own_slice hown; have HO := Lib.hid hown; have HG := Lib.hid hgrow; have HV := Lib.hid hv; clear hown hgrow hv; have f0 : w1.frozen? ⟨p, 0, none⟩ = false := row_free (grown_row HG.out (fun e => HW.out.ne e.symm) (bl_row HBA.out HW.out.lt HW.out.row)) 0; have g0 : w1.cell? ⟨p, 0, none⟩ = some v := row_cell (grown_row HG.out (fun e => HW.out.ne e.symm) (bl_row HBA.out HW.out.lt HW.out.row)) 0 _ rfl) | fail)
  go_end0
  have ho : w1.ownsRow B 5 1 (.slice b2 (bs.length + 1) cp2) (bs ++ [x]).length ((bs ++ [x]).map (Value.int .u8)) := by rw [List.length_append]; exact HO.out
  exact ⟨_, rfl, HW.out.grow HBA.out HG.out ho HV.out⟩

theorem ints_made2 (w : World) (x y : Int) (hx : (Lit.int .u8 x).wf = true) (hy : (Lit.int .u8 y).wf = true) : IntsK .u8 (w.alloc (.cells #[.int .u8 x, .int .u8 y] 5)) (some ⟨w.heap.size, 0, none⟩) 2 [x, y] := by
  have h := IntsK.of_row (k := .u8) (zs := [x, y]) (heap_alloc_new w (.cells #[.int .u8 x, .int .u8 y] 5)) (by simp [hx, hy])
  exact h
set_option maxRecDepth 100000 in
theorem wtwo_any (w : World) (B p : Nat) (v : Value) (bs : List Int) (n : Int) (hl : bs.length + 2 ≤ 140737488355328) (h : Wr w B p v bs) (hn : 0 ≤ n ∧ n ≤ 65535) :
    Calls Try.prog 54 #[.pointer (some ⟨p, 0, none⟩), .int .u16 n] w fun e w' => ∃ v', e = .returned (.tuple #[]) ∧ Wr w' B p v' (bs ++ [n / 256, n % 256]) ∧ Ch w w' p v.ownBlock ∧ (v'.ownBlock = v.ownBlock ∨ ∃ k, w.heap.size ≤ k ∧ v'.ownBlock = some k) := by
  have c0 : w.cell? ⟨p, 0, none⟩ = some v := row_cell h.row 0 _ rfl
  have hB : B ≤ w.heap.size := Nat.le_trans h.lo (Nat.le_of_lt h.lt)
  have HW := Lib.hid h
  have HBA := Lib.hid ((Below.refl w.heap.size w).alloc (Nat.le_refl _) (.cells #[.int .u8 (n / 256), .int .u8 (n % 256)] 5))
  have HX : Hid ((Lit.int .u8 (n / 256)).wf = true) := Lib.hid (wf_u8_of (by omega) (by omega))
  clear h
  go_enter Try.func54, Try.ntmps54
  go_wp2_with (first | (at_builtin; refine wpList_append_bytes_at rfl _ _ rfl B _ v bs rfl (own_below HW.out.own HBA.out) _ _ _ _ rfl (ints_made2 _ _ _ HX.out (wf_u8_mod n)) hl (by simp; omega) ?_; intro v' w1 hown hgrow hv; obtain ⟨b2, cp2, rfl, _⟩ := own_slice hown; have HO := Lib.hid hown; have HG := Lib.hid hgrow; have HV := Lib.hid hv; clear hown hgrow hv; have f0 : w1.frozen? ⟨p, 0, none⟩ = false := row_free (grown_row HG.out (fun e => HW.out.ne e.symm) (bl_row HBA.out HW.out.lt HW.out.row)) 0; have g0 : w1.cell? ⟨p, 0, none⟩ = some v := row_cell (grown_row HG.out (fun e => HW.out.ne e.symm) (bl_row HBA.out HW.out.lt HW.out.row)) 0 _ rfl) | fail)
  go_end0
  have ho : w1.ownsRow B 5 1 (.slice b2 (bs.length + 2) cp2) (bs ++ [n / 256, n % 256]).length ((bs ++ [n / 256, n % 256]).map (Value.int .u8)) := by rw [List.length_append]; exact HO.out
  exact ⟨_, rfl, HW.out.grow HBA.out HG.out ho HV.out⟩

set_option maxRecDepth 100000 in
theorem wvar_any (w : World) (B p : Nat) (v : Value) (bs : List Int) (n : Int) (hl : bs.length + 8 ≤ 140737488355328) (h : Wr w B p v bs) (hn : 0 ≤ n ∧ n < 18446744073709551616) :
    Calls Try.prog 50 #[.pointer (some ⟨p, 0, none⟩), .int .u64 n] w fun e w' => ∃ v', e = .returned (.bool (decide (sizeM n ≠ 0))) ∧ Wr w' B p v' (bs ++ putM n) ∧ Ch w w' p v.ownBlock ∧ (v'.ownBlock = v.ownBlock ∨ ∃ k, w.heap.size ≤ k ∧ v'.ownBlock = some k) := by
  have hB : B ≤ w.heap.size := Nat.le_trans h.lo (Nat.le_of_lt h.lt)
  have HW := Lib.hid h
  have hs8 : sizeM n ≤ 8 := by have := sizeM_cases n; omega
  clear h
  go_enter Try.func50, Try.ntmps50
  go_wp2_with fail
  refine Calls.mono (put_any w none 0 0 [] n hn (by omega) (IntsK.nil _ _ _)) ?_
  rintro e W1 ⟨vp, rfl, hb, ho⟩
  rw [List.nil_append, Nat.zero_add] at ho
  obtain ⟨ap, capp, rfl, _, hi, _⟩ := ints_of_own ho (putM_wf n hn.1)
  have HBA := Lib.hid hb; have HI := Lib.hid hi
  have hrow := bl_row hb HW.out.lt HW.out.row
  have c0 : W1.cell? ⟨p, 0, none⟩ = some v := row_cell hrow 0 _ rfl
  have hB1 : B ≤ W1.heap.size := Nat.le_trans hB hb.size
  have HROW := Lib.hid hrow
  clear hb ho hi hrow
  obtain ⟨ok, hok⟩ : ∃ ok, decide (sizeM n ≠ 0) = ok := ⟨_, rfl⟩
  have HOK := Lib.hid hok
  rw [hok]
  clear hok
  go_wp2_with (first | (at_builtin; refine wpList_append_bytes_at rfl _ _ rfl B _ v bs rfl (own_below HW.out.own HBA.out) _ _ _ _ rfl HI.out (by omega) hB1 ?_; intro v' w1 hown hgrow hv; obtain ⟨b2, cp2, rfl, _⟩ := own_slice hown; have HO := Lib.hid hown; have HG := Lib.hid hgrow; have HV := Lib.hid hv; clear hown hgrow hv; have f0 : w1.frozen? ⟨p, 0, none⟩ = false := row_free (grown_row HG.out (fun e => HW.out.ne e.symm) HROW.out) 0; have g0 : w1.cell? ⟨p, 0, none⟩ = some v := row_cell (grown_row HG.out (fun e => HW.out.ne e.symm) HROW.out) 0 _ rfl) | fail)
  go_ret
  have ho : w1.ownsRow B 5 1 (.slice b2 (bs.length + sizeM n) cp2) (bs ++ putM n).length ((bs ++ putM n).map (Value.int .u8)) := by rw [List.length_append, putM_len]; exact HO.out
  exact ⟨_, by rw [HOK.out]; rfl, HW.out.grow HBA.out HG.out ho HV.out⟩

/-- two calls, one behind the other -/
theorem Ch.next {w w1 w2 : World} {p : Nat} {q q1 : Option Nat} (h : Ch w w1 p q) (k : Ch w1 w2 p q1) (hq : q1 = q ∨ ∃ k, w.heap.size ≤ k ∧ q1 = some k) : Ch w w2 p q :=
  ⟨k.os.trans h.os, k.tape.trans h.tape, k.output.trans h.output, Nat.le_trans h.size k.size, fun i hi hip hiq => (k.block i (Nat.lt_of_lt_of_le hi h.size) hip (by
    rcases hq with e | ⟨m, hm, e⟩
    · rw [e]; exact hiq
    · rw [e]; intro e2; injection e2 with e2; omega)).trans (h.block i hi hip hiq)⟩
theorem own_next {w w1 : World} {q q1 q2 : Option Nat} (hs : w.heap.size ≤ w1.heap.size) (h1 : q1 = q ∨ ∃ k, w.heap.size ≤ k ∧ q1 = some k) (h2 : q2 = q1 ∨ ∃ k, w1.heap.size ≤ k ∧ q2 = some k) : q2 = q ∨ ∃ k, w.heap.size ≤ k ∧ q2 = some k := by
  rcases h2 with e | ⟨m, hm, e⟩
  · rw [e]; exact h1
  · exact .inr ⟨m, by omega, e⟩
set_option maxRecDepth 100000 in
theorem wtext_any (w : World) (B p : Nat) (v : Value) (bs : List Int) (a : Option Addr) (len cap : Nat) (xs : List Int) (hl : bs.length + 8 + len ≤ 140737488355328) (h : Wr w B p v bs) (hI : IntsK .u8 w a len xs) (hap : 0 < len → ∀ x, a = some x → x.block ≠ p ∧ v.ownBlock ≠ some x.block) :
    Calls Try.prog 51 #[.pointer (some ⟨p, 0, none⟩), .slice a len cap] w fun e w' => ∃ v', e = .returned (.tuple #[]) ∧ Wr w' B p v' (bs ++ (putM len ++ xs)) ∧ Ch w w' p v.ownBlock ∧ (v'.ownBlock = v.ownBlock ∨ ∃ k, w.heap.size ≤ k ∧ v'.ownBlock = some k) := by
  have hs8 : sizeM len ≤ 8 := by have := sizeM_cases (len : Int); omega
  have HW := Lib.hid h; have HI := Lib.hid hI
  clear h hI
  go_enter Try.func51, Try.ntmps51
  go_wp2_with fail
  refine Calls.mono (wvar_any w B p v bs len (by omega) HW.out ⟨by omega, by omega⟩) ?_
  rintro e w1 ⟨v1, rfl, hW1, hC1, hV1⟩
  have HW1 := Lib.hid hW1; have HC1 := Lib.hid hC1; have HV1 := Lib.hid hV1
  have hI1 : IntsK .u8 w1 a len xs := by
    refine ⟨HI.out.1, HI.out.2.1, ?_⟩
    rcases HI.out.2.2 with h0 | ⟨b, off, rfl, hbl, hc⟩
    · exact .inl h0
    · by_cases hl0 : len = 0
      · exact .inl hl0
      obtain ⟨hp1, hp2⟩ := hap (by omega) _ rfl
      refine .inr ⟨b, off, rfl, Nat.lt_of_lt_of_le hbl HC1.out.size, fun i hi => ?_⟩
      have h5 := hc i hi
      have hm := HC1.out.block b hbl hp1 hp2
      unfold World.cell? at h5 ⊢
      simp only at h5 ⊢
      rw [hm]; exact h5
  have HI1 := Lib.hid hI1
  clear hW1 hC1 hV1 hI1
  go_wp2_with fail
  refine Calls.mono (wraw_any w1 B p v1 (bs ++ putM len) a len cap xs (by rw [List.length_append, putM_len]; omega) HW1.out HI1.out) ?_
  rintro e w2 ⟨v2, rfl, hW2, hC2, hV2⟩
  rw [List.append_assoc] at hW2
  have HW2 := Lib.hid hW2; have HC2 := Lib.hid hC2; have HV2 := Lib.hid hV2
  clear hW2 hC2 hV2
  go_wp2_with fail
  go_end0
  exact ⟨v2, rfl, HW2.out, HC1.out.next HC2.out HV1.out, own_next HC1.out.size HV1.out HV2.out⟩

set_option maxRecDepth 100000 in
theorem wdone_any (w : World) (B p : Nat) (v : Value) (bs : List Int) (hl : bs.length ≤ 140737488355328) (hwf : ∀ x ∈ bs, (Lit.int .u8 x).wf = true) (h : Wr w B p v bs) :
    Calls Try.prog 52 #[.pointer (some ⟨p, 0, none⟩)] w fun e w' => ∃ a cap, e = .returned (.slice a bs.length cap) ∧ bs.length ≤ cap ∧ cap ≤ 9223372036854775807 ∧ IntsK .u8 w' a bs.length bs ∧ (∀ x, a = some x → w.heap.size ≤ x.block) ∧ Below w.heap.size w w' := by
  obtain ⟨b, cp, rfl, _, hi, _⟩ := ints_of_own h.own hwf
  have c0 : w.cell? ⟨p, 0, none⟩ = some (.slice b bs.length cp) := row_cell h.row 0 _ rfl
  have HI := Lib.hid hi
  clear h hi
  go_enter Try.func52, Try.ntmps52
  go_wp2_with fail
  refine Calls.mono (clone_any w b bs.length cp bs hl HI.out) ?_
  rintro e w' ⟨v2, rfl, hb, ho⟩
  have hcm := own_cap ho
  obtain ⟨a1, cap1, rfl, hc1, hi1, hlow⟩ := ints_of_own ho HI.out.2.1
  replace hcm := hcm _ _ _ rfl
  have HB := Lib.hid hb; have HI1 := Lib.hid hi1
  clear hb ho hi1
  go_wp2_with fail
  go_ret
  exact ⟨a1, cap1, rfl, hc1, hcm, HI1.out, hlow, HB.out⟩
end Go.Proofs.Ytlpajohhnngbmaa
