/- params: contract of Decode. -/
import Derived.Test.YtlpajohhnngbmaaPrm3
import Derived.Deep.MidRow
namespace Go.Proofs.Ytlpajohhnngbmaa
open Go.RowKit
set_option linter.unusedVariables false

set_option maxRecDepth 100000 in
/-- rows of u64 that the call owns: append of one. -/
theorem infoU64 : (Try.prog.info? 22).map (fun i => (i.zero, i.size, i.bytes)) = some (some (.int .u64 0), 1, 8) := by kernel_rfl
set_option maxRecDepth 100000 in
theorem wpList_append_u64 {ops : Array Oper} {rest : List Oper} {o : Oper} {a : Act} {w : World} {Q : Exit → Act → World → Prop} (hgd : o.guard = none) (s x : Operand)
    (ho : o.op = .call { callee := .builtin .append, args := #[s, x], argTypes := #[41, 41] })
    (base n : Nat) (v : Value) (xs : List Int) (hs : a.eval s = v) (hown : w.ownsRow base 22 1 v n (xs.map (Value.int .u64))) (g : Nat) (u : Int) (hx : a.eval x = .slice (some ⟨g, 0, none⟩) 1 1) (hg : w.heap[g]? = some (.cells #[.int .u64 u] 22 (0, 0)))
    (hb : n + 1 ≤ 10000000000) (hbase : base ≤ w.heap.size)
    (h : ∀ v' w', w'.ownsRow base 22 1 v' (n + 1) ((xs ++ [u]).map (Value.int .u64)) → w.grownBy w' v.ownBlock → wpList Try.prog ops Q rest (a.put o.dst v') w') : wpList Try.prog ops Q (o :: rest) a w := by
  refine wpList_plain hgd fun K hK => ?_
  obtain ⟨i0, hi, hz0, hz1, hz2⟩ := info_parts infoU64
  have hnews : ∀ j y, ([u].map (Value.int .u64))[j]? = some y → w.cell? ((⟨g, 0, none⟩ : Addr).add j) = some y := by
    intro j y hy
    match j, hy with
    | 0, hy => injection hy with hy; subst hy; exact row_cell hg 0 _ rfl
  obtain ⟨v', w', hr, h2, h3, h4, _⟩ := run_append_own_at (P := Try.prog) w base 41 o.type 22 i0 (.int .u64 0) 1 8 Try.underlying41 hi hz0 hz1 hz2 rfl (by decide) v n _ hown ⟨g, 0, none⟩ 1 1 ([u].map (Value.int .u64)) (by simp) hnews ints_one (by unfold maxLen; omega) (by omega) hbase
  unfold Oper.wp execOp
  simp only [ho, resolve, invoke, builtin, Sem.run_bind, Sem.run_pure, Result.andThen_ok, List.map_toArray, List.map_cons, List.map_nil, hs, hx, hr]
  exact hK _ _ (h v' w' (by rw [List.map_append]; exact h2) h3)

def zeroPm : Pm := ⟨0, 0, 0, 0, [0, 0, 0, 0, 0, 0, 0, 0]⟩
def decM : Nat → List Int → Pm → List Int → Option (Pm × List Int)
  | _, [], p, came => some (p, came)
  | 0, _ :: _, p, came => none
  | k + 1, b :: bs, p, came =>
    let v := varM (b :: bs) false
    let t := textM v.2.1 v.2.2
    if t.2.2 = true ∨ (knownId v.1 = true ∧ v.1 ∈ came) then none
    else if (takeM p v.1 t.1).2 = true then decM k t.2.1 (takeM p v.1 t.1).1 (came ++ [v.1]) else none
def decF (bs : List Int) : Pm × Bool :=
  match decM bs.length bs zeroPm [] with
  | none => (zeroPm, false)
  | some (p, came) => if 0 ∈ came ∧ rightM p = true then (p, true) else (zeroPm, false)
def decC (r : Option (Pm × List Int)) : Pm × Bool :=
  match r with
  | none => (zeroPm, false)
  | some (p, came) => if 0 ∈ came ∧ rightM p = true then (p, true) else (zeroPm, false)
theorem takeM_len (p : Pm) (id : Int) (x : List Int) (h : p.f.length = 8) : (takeM p id x).1.f.length = 8 := by
  unfold takeM
  repeat' split
  all_goals first | exact h | skip
  show (splice p.f 0 (x.take 8)).length = 8
  rw [length_splice _ _ _ (by rw [List.length_take]; omega), h]
theorem textM_len (bs : List Int) (bad : Bool) : (textM bs bad).2.1.length ≤ bs.length := by
  have hv : (varM bs bad).2.1.length ≤ bs.length := by unfold varM; split <;> simp
  unfold textM
  split
  · simp
  · unfold rdM
    split
    · simp
    · simp; omega
theorem textM_len1 (bs : List Int) (bad : Bool) : (textM bs bad).1.length ≤ bs.length := by
  have hv : (varM bs bad).2.1.length ≤ bs.length := by unfold varM; split <;> simp
  unfold textM
  split
  · simp
  · unfold rdM
    split
    · simp
    · simp; omega
theorem varM_lt (b : Int) (bs : List Int) : (varM (b :: bs) false).2.1.length ≤ bs.length := by
  unfold varM
  split
  · simp
  · rename_i h
    have : getS (b :: bs) ≠ 0 := fun e => h (.inr e)
    simp; omega
theorem Rd.beyond {W0 w w' : World} {L p B : Nat} {T : TypeId} {bs : List Int} {bad : Bool} (h : Rd W0 w L p T bs bad) (hb : Below B w w') (hp : p < B) (hB : B ≤ w.heap.size) : Rd W0 w' L p T bs bad :=
  h.ch (fun i h1 h2 => hb.block i (by have := h.lo; omega)) (hb.block p hp)
theorem row12 {w : World} {b : Nat} {u0 u1 u2 u3 u4 u5 u6 u7 u8 u9 u10 u11 : Value} {t : TypeId} (h : w.heap[b]? = some (.cells #[u0, u1, u2, u3, u4, u5, u6, u7, u8, u9, u10, u11] t (0, 0))) :
    w.cell? ⟨b, 0, none⟩ = some u0 ∧ w.cell? ⟨b, 1, none⟩ = some u1 ∧ w.cell? ⟨b, 2, none⟩ = some u2 ∧ w.cell? ⟨b, 3, none⟩ = some u3 ∧ w.cell? ⟨b, 4, none⟩ = some u4 ∧ w.cell? ⟨b, 5, none⟩ = some u5 ∧ w.cell? ⟨b, 6, none⟩ = some u6 ∧ w.cell? ⟨b, 7, none⟩ = some u7 ∧ w.cell? ⟨b, 8, none⟩ = some u8 ∧ w.cell? ⟨b, 9, none⟩ = some u9 ∧ w.cell? ⟨b, 10, none⟩ = some u10 ∧ w.cell? ⟨b, 11, none⟩ = some u11 :=
  ⟨row_cell h 0 _ rfl, row_cell h 1 _ rfl, row_cell h 2 _ rfl, row_cell h 3 _ rfl, row_cell h 4 _ rfl, row_cell h 5 _ rfl, row_cell h 6 _ rfl, row_cell h 7 _ rfl, row_cell h 8 _ rfl, row_cell h 9 _ rfl, row_cell h 10 _ rfl, row_cell h 11 _ rfl⟩
theorem free12 {w : World} {b : Nat} {cs : Array Value} {t : TypeId} (h : w.heap[b]? = some (.cells cs t (0, 0))) :
    w.frozen? ⟨b, 0, none⟩ = false ∧ w.frozen? ⟨b, 1, none⟩ = false ∧ w.frozen? ⟨b, 2, none⟩ = false ∧ w.frozen? ⟨b, 3, none⟩ = false ∧ w.frozen? ⟨b, 4, none⟩ = false ∧ w.frozen? ⟨b, 5, none⟩ = false ∧ w.frozen? ⟨b, 6, none⟩ = false ∧ w.frozen? ⟨b, 7, none⟩ = false ∧ w.frozen? ⟨b, 8, none⟩ = false ∧ w.frozen? ⟨b, 9, none⟩ = false ∧ w.frozen? ⟨b, 10, none⟩ = false ∧ w.frozen? ⟨b, 11, none⟩ = false :=
  ⟨row_free h 0, row_free h 1, row_free h 2, row_free h 3, row_free h 4, row_free h 5, row_free h 6, row_free h 7, row_free h 8, row_free h 9, row_free h 10, row_free h 11⟩
theorem set12 {w : World} {b : Nat} {u0 u1 u2 u3 u4 u5 u6 u7 u8 u9 u10 u11 : Value} {t : TypeId} (h : w.heap[b]? = some (.cells #[u0, u1, u2, u3, u4, u5, u6, u7, u8, u9, u10, u11] t (0, 0))) (x0 x1 x2 x3 x4 x5 x6 x7 x8 x9 x10 x11 : Value) :
    At ((((((((((((w.setCell ⟨b, 0, none⟩ x0).setCell ⟨b, 1, none⟩ x1).setCell ⟨b, 2, none⟩ x2).setCell ⟨b, 3, none⟩ x3).setCell ⟨b, 4, none⟩ x4).setCell ⟨b, 5, none⟩ x5).setCell ⟨b, 6, none⟩ x6).setCell ⟨b, 7, none⟩ x7).setCell ⟨b, 8, none⟩ x8).setCell ⟨b, 9, none⟩ x9).setCell ⟨b, 10, none⟩ x10).setCell ⟨b, 11, none⟩ x11) b #[x0, x1, x2, x3, x4, x5, x6, x7, x8, x9, x10, x11] t w := by
  have h0 := At.base h
  have k0 : At _ b #[x0, u1, u2, u3, u4, u5, u6, u7, u8, u9, u10, u11] t w := (h0.set 0 x0).conv (by rfl)
  have k1 : At _ b #[x0, x1, u2, u3, u4, u5, u6, u7, u8, u9, u10, u11] t w := (k0.set 1 x1).conv (by rfl)
  have k2 : At _ b #[x0, x1, x2, u3, u4, u5, u6, u7, u8, u9, u10, u11] t w := (k1.set 2 x2).conv (by rfl)
  have k3 : At _ b #[x0, x1, x2, x3, u4, u5, u6, u7, u8, u9, u10, u11] t w := (k2.set 3 x3).conv (by rfl)
  have k4 : At _ b #[x0, x1, x2, x3, x4, u5, u6, u7, u8, u9, u10, u11] t w := (k3.set 4 x4).conv (by rfl)
  have k5 : At _ b #[x0, x1, x2, x3, x4, x5, u6, u7, u8, u9, u10, u11] t w := (k4.set 5 x5).conv (by rfl)
  have k6 : At _ b #[x0, x1, x2, x3, x4, x5, x6, u7, u8, u9, u10, u11] t w := (k5.set 6 x6).conv (by rfl)
  have k7 : At _ b #[x0, x1, x2, x3, x4, x5, x6, x7, u8, u9, u10, u11] t w := (k6.set 7 x7).conv (by rfl)
  have k8 : At _ b #[x0, x1, x2, x3, x4, x5, x6, x7, x8, u9, u10, u11] t w := (k7.set 8 x8).conv (by rfl)
  have k9 : At _ b #[x0, x1, x2, x3, x4, x5, x6, x7, x8, x9, u10, u11] t w := (k8.set 9 x9).conv (by rfl)
  have k10 : At _ b #[x0, x1, x2, x3, x4, x5, x6, x7, x8, x9, x10, u11] t w := (k9.set 10 x10).conv (by rfl)
  have k11 : At _ b #[x0, x1, x2, x3, x4, x5, x6, x7, x8, x9, x10, x11] t w := (k10.set 11 x11).conv (by rfl)
  exact k11
def pcode (ok : Bool) : Int := if ok then 0 else 12

set_option maxRecDepth 100000 in
set_option maxHeartbeats 4000000 in
theorem pdecode_any (w : World) (a : Option Addr) (len cap : Nat) (bs : List Int) (hlen : len ≤ 1000000) (hI : IntsK .u8 w a len bs) :
    Calls Try.prog 56 #[.slice a len cap] w fun e w' => e = .returned (.tuple #[(decF bs).1.val, .int .i64 (pcode (decF bs).2)]) ∧ Below w.heap.size w w' := by
  have HI := Lib.hid hI
  have hl0 := hI.1
  have HF : Hid (decF bs = decC (decM bs.length bs zeroPm [])) := Lib.hid rfl
  clear hI
  go_enter Try.func56, Try.ntmps56
  go_wp2_with fail
  refine Calls.mono (of_any _ a len cap bs (by omega) (HI.out.below ((Below.refl w.heap.size w).alloc (Nat.le_refl _) _))) ?_
  rintro e w1 ⟨W0, pr, rfl, hR, hb0, hb1⟩
  have hrow0 : (w.alloc (.cells #[.int .u64 0, .int .u64 0, .int .u64 0, .int .u64 0, .int .u8 0, .int .u8 0, .int .u8 0, .int .u8 0, .int .u8 0, .int .u8 0, .int .u8 0, .int .u8 0] 26)).heap[w.heap.size]? = some (.cells zeroPm.row.toArray 26 (0, 0)) := heap_alloc_new w _
  have hbw0 := (Below.refl w.heap.size w).alloc (Nat.le_refl _) (.cells #[.int .u64 0, .int .u64 0, .int .u64 0, .int .u64 0, .int .u8 0, .int .u8 0, .int .u8 0, .int .u8 0, .int .u8 0, .int .u8 0, .int .u8 0, .int .u8 0] 26)
  have hsz0 : (w.alloc (.cells #[.int .u64 0, .int .u64 0, .int .u64 0, .int .u64 0, .int .u8 0, .int .u8 0, .int .u8 0, .int .u8 0, .int .u8 0, .int .u8 0, .int .u8 0, .int .u8 0] 26)).heap.size = w.heap.size + 1 := by simp
  generalize w.alloc (.cells #[.int .u64 0, .int .u64 0, .int .u64 0, .int .u64 0, .int .u8 0, .int .u8 0, .int .u8 0, .int .u8 0, .int .u8 0, .int .u8 0, .int .u8 0, .int .u8 0] 26) = wa at hR hb0 hrow0 hbw0 hsz0
  rw [hsz0] at hR
  have hba1 : Below wa.heap.size wa w1 := bl_next hb0 hb0.size hb1
  have hr1 := bl_row hba1 (lt_of_block hrow0) hrow0
  have hprlo : w.heap.size + 1 ≤ pr := by have := hR.lo; have := hb0.size; omega
  have hL1 : Below w.heap.size w w1 := bl_next hbw0 hbw0.size hba1
  have hprw := hR.lt
  have hR2 := hR.to ((Below.refl w1.heap.size w1).alloc (Nat.le_refl _) (.cells #[.int .u64 0, .int .u64 0, .int .u64 0, .int .u64 0, .int .u8 0, .int .u8 0, .int .u8 0, .int .u8 0, .int .u8 0, .int .u8 0, .int .u8 0, .int .u8 0] 26))
  have hr2 := bl_row ((Below.refl w1.heap.size w1).alloc (Nat.le_refl _) (.cells #[.int .u64 0, .int .u64 0, .int .u64 0, .int .u64 0, .int .u8 0, .int .u8 0, .int .u8 0, .int .u8 0, .int .u8 0, .int .u8 0, .int .u8 0, .int .u8 0] 26)) (lt_of_block hr1) hr1
  have hp2 : (w1.alloc (.cells #[.int .u64 0, .int .u64 0, .int .u64 0, .int .u64 0, .int .u8 0, .int .u8 0, .int .u8 0, .int .u8 0, .int .u8 0, .int .u8 0, .int .u8 0, .int .u8 0] 26)).heap[w1.heap.size]? = some (.cells zeroPm.row.toArray 26 (0, 0)) := heap_alloc_new w1 _
  have hL2 := hL1.alloc hL1.size (.cells #[.int .u64 0, .int .u64 0, .int .u64 0, .int .u64 0, .int .u8 0, .int .u8 0, .int .u8 0, .int .u8 0, .int .u8 0, .int .u8 0, .int .u8 0, .int .u8 0] 26)
  have hg0 : w.heap.size < w1.heap.size := lt_of_block hr1
  have hsz2 : (w1.alloc (.cells #[.int .u64 0, .int .u64 0, .int .u64 0, .int .u64 0, .int .u8 0, .int .u8 0, .int .u8 0, .int .u8 0, .int .u8 0, .int .u8 0, .int .u8 0, .int .u8 0] 26)).heap.size = w1.heap.size + 1 := by simp
  have HR2 := Lib.hid hR2; have HR0 := Lib.hid hr2; have HP2 := Lib.hid hp2; have HL2 := Lib.hid hL2; have HSZ2 := Lib.hid hsz2
  clear hrow0 hbw0 hsz0 hba1 hr1 hL1 hR2 hr2 hp2 hL2 hsz2 hb0 hb1 hR
  go_wp2_with fail
  generalize w1.alloc (.cells #[.int .u64 0, .int .u64 0, .int .u64 0, .int .u64 0, .int .u8 0, .int .u8 0, .int .u8 0, .int .u8 0, .int .u8 0, .int .u8 0, .int .u8 0, .int .u8 0] 26) = W at HR2 HR0 HP2 HL2 HSZ2 ⊢
  obtain ⟨g, hg⟩ : ∃ g, w1.heap.size = g := ⟨_, rfl⟩
  obtain ⟨g0, hgz⟩ : ∃ g0, w.heap.size = g0 := ⟨_, rfl⟩
  rw [hg] at HP2 HSZ2 hprw hg0 ⊢
  rw [hgz] at HR0 HR2 hg0 hprlo ⊢
  have HGZ := Lib.hid hgz
  clear hg hgz
  obtain ⟨D, hD⟩ : ∃ D, decM bs.length bs zeroPm [] = D := ⟨_, rfl⟩
  rw [hD] at HF
  have HD := Lib.hid hD; clear hD
  go_loopg [6] bs.length (fun gm s6 wr => ∃ (k : Nat) (ys : List Int) (p : Pm) (came : List Int), gm = k ∧ ys.length ≤ k ∧ k + came.length ≤ 1000000 ∧ p.f.length = 8 ∧ Hid (decM k ys p came = D) ∧ Hid (∀ x ∈ came, (Lit.int .u64 x).wf = true) ∧ Hid (Below w.heap.size w wr) ∧ g + 1 ≤ wr.heap.size ∧
    Hid (wr.heap[g0]? = some (.cells zeroPm.row.toArray 26 (0, 0))) ∧ Hid (wr.heap[g]? = some (.cells p.row.toArray 26 (0, 0))) ∧ Hid (Rd W0 wr (g0 + 1) pr 124 ys false) ∧ Hid (wr.ownsRow (g + 1) 22 1 s6 came.length (came.map (Value.int .u64))))
  case atStart => exact ⟨bs.length, bs, zeroPm, [], rfl, Nat.le_refl _, by simp; omega, rfl, HD, Lib.hid (by simp), HL2, by rw [HSZ2.out]; exact Nat.le_refl _, HR0, HP2, HR2, Lib.hid (World.ownsRow_nil _ _ _ _)⟩
  case round =>
    clear HD HL2 HR0 HP2 HR2
    obtain ⟨k, ys, p, came, rfl, hyk, hkc, hpf, HDD, HWC, HL, hsz, HR0, HP, HR, HO⟩ := hrel
    have hs0 := Nat.lt_of_lt_of_le (Nat.lt_succ_self g) hsz
    cases ys with
    | nil =>
      have HE : Hid (D = some (p, came)) := Lib.hid (by rw [← HDD.out]; cases gk <;> rfl)
      clear HDD
      go_wp2_with fail
      refine Calls.mono (left_any _ _ _ _ _ _ HR.out) ?_
      rintro e w3 ⟨rfl, rfl⟩
      go_wp2_with fail
      obtain ⟨i, d, s, m, f⟩ := p
      obtain ⟨y0, y1, y2, y3, y4, y5, y6, y7, rfl⟩ := len8 hpf
      obtain ⟨v6, cp6, rfl, _, hi6, _⟩ := ints_of_own HO.out HWC.out
      refine Calls.mono (contains_any _ _ _ _ came 0 (by omega) hi6) ?_
      rintro e w4 ⟨rfl, rfl⟩
      clear hi6
      by_cases h0 : (0 : Int) ∈ came
      · rw [decide_eq_true h0]
        obtain ⟨c0, c1, c2, c3, c4, c5, c6, c7, c8, c9, c10, c11⟩ := row12 HP.out
        have H0 := Lib.hid h0
        clear h0
        go_wp2_with fail
        refine Calls.mono (right_any _ ⟨i, d, s, m, [y0, y1, y2, y3, y4, y5, y6, y7]⟩ rfl) ?_
        rintro e w5 ⟨rfl, hb5⟩
        have HP5 := Lib.hid (bl_row hb5 (lt_of_block HP.out) HP.out)
        have HR5 := Lib.hid (bl_row hb5 (lt_of_block HR0.out) HR0.out)
        have HL5 := Lib.hid (bl_next HL.out HL.out.size hb5)
        clear c0 c1 c2 c3 c4 c5 c6 c7 c8 c9 c10 c11 hb5 HP HR0 HL
        obtain ⟨f0, f1, f2, f3, f4, f5, f6, f7, f8, f9, f10, f11⟩ := free12 HR5.out
        obtain ⟨z0, z1, z2, z3, z4, z5, z6, z7, z8, z9, z10, z11⟩ := row12 HR5.out
        by_cases hrt : rightM ⟨i, d, s, m, [y0, y1, y2, y3, y4, y5, y6, y7]⟩ = true
        · have HFF : Hid (decF bs = (⟨i, d, s, m, [y0, y1, y2, y3, y4, y5, y6, y7]⟩, true)) := Lib.hid (by rw [HF.out, HE.out]; unfold decC; exact if_pos ⟨H0.out, hrt⟩)
          obtain ⟨c0, c1, c2, c3, c4, c5, c6, c7, c8, c9, c10, c11⟩ := row12 HP5.out
          rw [hrt]
          clear hrt
          go_wp2_with fail
          have hA := set12 HR5.out (.int .u64 i) (.int .u64 d) (.int .u64 s) (.int .u64 m) (.int .u8 y0) (.int .u8 y1) (.int .u8 y2) (.int .u8 y3) (.int .u8 y4) (.int .u8 y5) (.int .u8 y6) (.int .u8 y7)
          have hge : w.heap.size ≤ g0 := by rw [HGZ.out]; exact Nat.le_refl _
          generalize ((((((((((((w5.setCell ⟨g0, 0, none⟩ (.int .u64 i)).setCell ⟨g0, 1, none⟩ (.int .u64 d)).setCell ⟨g0, 2, none⟩ (.int .u64 s)).setCell ⟨g0, 3, none⟩ (.int .u64 m)).setCell ⟨g0, 4, none⟩ (.int .u8 y0)).setCell ⟨g0, 5, none⟩ (.int .u8 y1)).setCell ⟨g0, 6, none⟩ (.int .u8 y2)).setCell ⟨g0, 7, none⟩ (.int .u8 y3)).setCell ⟨g0, 8, none⟩ (.int .u8 y4)).setCell ⟨g0, 9, none⟩ (.int .u8 y5)).setCell ⟨g0, 10, none⟩ (.int .u8 y6)).setCell ⟨g0, 11, none⟩ (.int .u8 y7)) = W9 at hA ⊢
          have hrow := hA.row
          have hLZ : Below w.heap.size w W9 := HL5.out.grown hA.rest HL5.out.size (by intro k hk; injection hk with hk; omega)
          obtain ⟨e0, e1, e2, e3, e4, e5, e6, e7, e8, e9, e10, e11⟩ := row12 hrow
          exact bodyPost_ret (v := .tuple #[.agg #[.int .u64 i, .int .u64 d, .int .u64 s, .int .u64 m, .int .u8 y0, .int .u8 y1, .int .u8 y2, .int .u8 y3, .int .u8 y4, .int .u8 y5, .int .u8 y6, .int .u8 y7], .int .i64 0]) (by simp [results, Try.results56, go_sem, e0, e1, e2, e3, e4, e5, e6, e7, e8, e9, e10, e11]) rfl ⟨by rw [HFF.out]; rfl, hLZ⟩
        · have hrt' : rightM ⟨i, d, s, m, [y0, y1, y2, y3, y4, y5, y6, y7]⟩ = false := by simpa using hrt
          have HFF : Hid (decF bs = (zeroPm, false)) := Lib.hid (by rw [HF.out, HE.out]; unfold decC; exact if_neg (fun h => hrt h.2))
          rw [hrt']
          clear hrt hrt'
          go_wp2_with fail
          have hA := set12 HR5.out (.int .u64 0) (.int .u64 0) (.int .u64 0) (.int .u64 0) (.int .u8 0) (.int .u8 0) (.int .u8 0) (.int .u8 0) (.int .u8 0) (.int .u8 0) (.int .u8 0) (.int .u8 0)
          have hge : w.heap.size ≤ g0 := by rw [HGZ.out]; exact Nat.le_refl _
          generalize ((((((((((((w5.setCell ⟨g0, 0, none⟩ (.int .u64 0)).setCell ⟨g0, 1, none⟩ (.int .u64 0)).setCell ⟨g0, 2, none⟩ (.int .u64 0)).setCell ⟨g0, 3, none⟩ (.int .u64 0)).setCell ⟨g0, 4, none⟩ (.int .u8 0)).setCell ⟨g0, 5, none⟩ (.int .u8 0)).setCell ⟨g0, 6, none⟩ (.int .u8 0)).setCell ⟨g0, 7, none⟩ (.int .u8 0)).setCell ⟨g0, 8, none⟩ (.int .u8 0)).setCell ⟨g0, 9, none⟩ (.int .u8 0)).setCell ⟨g0, 10, none⟩ (.int .u8 0)).setCell ⟨g0, 11, none⟩ (.int .u8 0)) = W9 at hA ⊢
          have hrow := hA.row
          have hLZ : Below w.heap.size w W9 := HL5.out.grown hA.rest HL5.out.size (by intro k hk; injection hk with hk; omega)
          obtain ⟨e0, e1, e2, e3, e4, e5, e6, e7, e8, e9, e10, e11⟩ := row12 hrow
          exact bodyPost_ret (v := .tuple #[.agg #[.int .u64 0, .int .u64 0, .int .u64 0, .int .u64 0, .int .u8 0, .int .u8 0, .int .u8 0, .int .u8 0, .int .u8 0, .int .u8 0, .int .u8 0, .int .u8 0], .int .i64 12]) (by simp [results, Try.results56, go_sem, e0, e1, e2, e3, e4, e5, e6, e7, e8, e9, e10, e11]) rfl ⟨by rw [HFF.out]; rfl, hLZ⟩
      · rw [decide_eq_false h0]
        have HFF : Hid (decF bs = (zeroPm, false)) := Lib.hid (by rw [HF.out, HE.out]; unfold decC; exact if_neg (fun h => h0 h.1))
        obtain ⟨f0, f1, f2, f3, f4, f5, f6, f7, f8, f9, f10, f11⟩ := free12 HR0.out
        obtain ⟨z0, z1, z2, z3, z4, z5, z6, z7, z8, z9, z10, z11⟩ := row12 HR0.out
        clear h0
        go_wp2_with fail
        have hA := set12 HR0.out (.int .u64 0) (.int .u64 0) (.int .u64 0) (.int .u64 0) (.int .u8 0) (.int .u8 0) (.int .u8 0) (.int .u8 0) (.int .u8 0) (.int .u8 0) (.int .u8 0) (.int .u8 0)
        have hge : w.heap.size ≤ g0 := by rw [HGZ.out]; exact Nat.le_refl _
        generalize ((((((((((((w3.setCell ⟨g0, 0, none⟩ (.int .u64 0)).setCell ⟨g0, 1, none⟩ (.int .u64 0)).setCell ⟨g0, 2, none⟩ (.int .u64 0)).setCell ⟨g0, 3, none⟩ (.int .u64 0)).setCell ⟨g0, 4, none⟩ (.int .u8 0)).setCell ⟨g0, 5, none⟩ (.int .u8 0)).setCell ⟨g0, 6, none⟩ (.int .u8 0)).setCell ⟨g0, 7, none⟩ (.int .u8 0)).setCell ⟨g0, 8, none⟩ (.int .u8 0)).setCell ⟨g0, 9, none⟩ (.int .u8 0)).setCell ⟨g0, 10, none⟩ (.int .u8 0)).setCell ⟨g0, 11, none⟩ (.int .u8 0)) = W9 at hA ⊢
        have hrow := hA.row
        have hLZ : Below w.heap.size w W9 := HL.out.grown hA.rest HL.out.size (by intro k hk; injection hk with hk; omega)
        obtain ⟨e0, e1, e2, e3, e4, e5, e6, e7, e8, e9, e10, e11⟩ := row12 hrow
        exact bodyPost_ret (v := .tuple #[.agg #[.int .u64 0, .int .u64 0, .int .u64 0, .int .u64 0, .int .u8 0, .int .u8 0, .int .u8 0, .int .u8 0, .int .u8 0, .int .u8 0, .int .u8 0, .int .u8 0], .int .i64 12]) (by simp [results, Try.results56, go_sem, e0, e1, e2, e3, e4, e5, e6, e7, e8, e9, e10, e11]) rfl ⟨by rw [HFF.out]; rfl, hLZ⟩
    | cons c t =>
      have hid := varM_in (c :: t) false HR.out.bytes
      have hlt1 := varM_lt c t
      have hlt2 := textM_len (varM (c :: t) false).2.1 (varM (c :: t) false).2.2
      have hlt3 := textM_len1 (varM (c :: t) false).2.1 (varM (c :: t) false).2.2
      obtain ⟨k', rfl⟩ : ∃ k', gk = k' + 1 := ⟨gk - 1, by simp at hyk; omega⟩
      have hdd : decM (k' + 1) (c :: t) p came = if (textM (varM (c :: t) false).2.1 (varM (c :: t) false).2.2).2.2 = true ∨ (knownId (varM (c :: t) false).1 = true ∧ (varM (c :: t) false).1 ∈ came) then none
        else if (takeM p (varM (c :: t) false).1 (textM (varM (c :: t) false).2.1 (varM (c :: t) false).2.2).1).2 = true then decM k' (textM (varM (c :: t) false).2.1 (varM (c :: t) false).2.2).2.1 (takeM p (varM (c :: t) false).1 (textM (varM (c :: t) false).2.1 (varM (c :: t) false).2.2).1).1 (came ++ [(varM (c :: t) false).1]) else none := rfl
      have HV := Lib.hid (fun w (h : Rd W0 w (g0 + 1) pr 124 (c :: t) false) => var_any _ _ _ _ _ _ h)
      obtain ⟨⟨id, r1, b1⟩, hv⟩ : ∃ r, varM (c :: t) false = r := ⟨_, rfl⟩
      rw [hv] at hid hlt1 hlt2 hlt3 hdd HV
      simp only at hid hlt1 hlt2 hlt3 hdd HV
      obtain ⟨⟨x, r2, b2⟩, htx⟩ : ∃ r, textM r1 b1 = r := ⟨_, rfl⟩
      have HT := Lib.hid (fun w (h : Rd W0 w (g0 + 1) pr 124 r1 b1) => text_any _ _ _ _ _ _ h)
      rw [htx] at hlt2 hlt3 hdd HT
      simp only at hlt2 hlt3 hdd HT
      rw [hdd] at HDD
      have hxl : t.length + 1 ≤ 1000000 := by simp at hyk; omega
      have hr2 : r2.length ≤ k' := by simp at hyk; omega
      have hx3 : x.length ≤ 1000000 := by simp at hyk; omega
      have hcl0 : came.length ≤ 1000000 := by omega
      have HIW : Hid ((Lit.int .u64 id).wf = true) := Lib.hid (wf_u64_of hid.1 (by omega))
      clear hv htx hdd hlt1 hlt2 hlt3
      have hcl : (0 : Int) < ((c :: t).length : Nat) := by simp only [List.length_cons]; omega
      obtain ⟨L, hL⟩ : ∃ L, (c :: t).length = L := ⟨_, rfl⟩
      rw [hL] at hcl hyk
      have HL' := Lib.hid hL
      go_wp2_with fail
      refine Calls.mono (left_any _ _ _ _ _ _ HR.out) ?_
      rintro e w3 ⟨rfl, rfl⟩
      rw [hL]
      clear hL
      go_wp2_with fail
      clear hyk hcl HL'
      refine Calls.mono (HV.out _ HR.out) ?_
      rintro e w4 ⟨rfl, hR4, hg4⟩
      have HR4 := Lib.hid hR4
      have HL4 := Lib.hid (HL.out.grown hg4 HL.out.size (by intro k hk; injection hk with hk; have := HGZ.out; omega))
      have HR04 := Lib.hid (grown_row hg4 (b := g0) (by intro e; injection e with e; omega) HR0.out)
      have HP4 := Lib.hid (grown_row hg4 (b := g) (by intro e; injection e with e; omega) HP.out)
      have HO4 := Lib.hid (own_ch HO.out (fun k hk hlt => hg4.block k hlt (by intro e; injection e with e; have := own_base HO.out k hk; omega)))
      have hsz4 := Nat.le_trans hsz hg4.size
      clear hR4 hg4 HR HL HR0 HP HO hsz hs0
      go_wp2_with fail
      refine Calls.mono (HT.out _ HR4.out) ?_
      rintro e w5 ⟨xa, xl, xc, rfl, hxc, hi5, hR5, hg5, _⟩
      have HR5 := Lib.hid hR5
      have HL5 := Lib.hid (HL4.out.grown hg5 HL4.out.size (by intro k hk; injection hk with hk; have := HGZ.out; omega))
      have HR05 := Lib.hid (grown_row hg5 (b := g0) (by intro e; injection e with e; omega) HR04.out)
      have HP5 := Lib.hid (grown_row hg5 (b := g) (by intro e; injection e with e; omega) HP4.out)
      have HO5 := Lib.hid (own_ch HO4.out (fun k hk hlt => hg5.block k hlt (by intro e; injection e with e; have := own_base HO4.out k hk; omega)))
      have hsz5 := Nat.le_trans hsz4 hg5.size
      have HI5 := Lib.hid hi5
      clear hR5 hg5 HR4 HL4 HR04 HP4 HO4 hsz4 hi5 HV HT
      go_wp2_with fail
      refine Calls.mono (bad_any _ _ _ _ _ _ HR5.out) ?_
      rintro e w6 ⟨rfl, rfl⟩
      obtain ⟨v6, cp6, rfl, _, hi6, _⟩ := ints_of_own HO5.out HWC.out
      have HC6 := Lib.hid hi6
      clear hi6
      have hxl2 : xl ≤ 1000000000000 := by have := HI5.out.1; omega
      cases b2 with
      | true =>
        have HFF : Hid (decF bs = (zeroPm, false)) := Lib.hid (by rw [HF.out, ← HDD.out, if_pos (.inl rfl)]; rfl)
        obtain ⟨f0, f1, f2, f3, f4, f5, f6, f7, f8, f9, f10, f11⟩ := free12 HR05.out
        obtain ⟨z0, z1, z2, z3, z4, z5, z6, z7, z8, z9, z10, z11⟩ := row12 HR05.out
        go_wp2_with fail
        have hA := set12 HR05.out (.int .u64 0) (.int .u64 0) (.int .u64 0) (.int .u64 0) (.int .u8 0) (.int .u8 0) (.int .u8 0) (.int .u8 0) (.int .u8 0) (.int .u8 0) (.int .u8 0) (.int .u8 0)
        have hge : w.heap.size ≤ g0 := by rw [HGZ.out]; exact Nat.le_refl _
        generalize ((((((((((((w6.setCell ⟨g0, 0, none⟩ (.int .u64 0)).setCell ⟨g0, 1, none⟩ (.int .u64 0)).setCell ⟨g0, 2, none⟩ (.int .u64 0)).setCell ⟨g0, 3, none⟩ (.int .u64 0)).setCell ⟨g0, 4, none⟩ (.int .u8 0)).setCell ⟨g0, 5, none⟩ (.int .u8 0)).setCell ⟨g0, 6, none⟩ (.int .u8 0)).setCell ⟨g0, 7, none⟩ (.int .u8 0)).setCell ⟨g0, 8, none⟩ (.int .u8 0)).setCell ⟨g0, 9, none⟩ (.int .u8 0)).setCell ⟨g0, 10, none⟩ (.int .u8 0)).setCell ⟨g0, 11, none⟩ (.int .u8 0)) = W9 at hA ⊢
        have hrow := hA.row
        have hLZ : Below w.heap.size w W9 := HL5.out.grown hA.rest HL5.out.size (by intro k hk; injection hk with hk; omega)
        obtain ⟨e0, e1, e2, e3, e4, e5, e6, e7, e8, e9, e10, e11⟩ := row12 hrow
        exact bodyPost_ret (v := .tuple #[.agg #[.int .u64 0, .int .u64 0, .int .u64 0, .int .u64 0, .int .u8 0, .int .u8 0, .int .u8 0, .int .u8 0, .int .u8 0, .int .u8 0, .int .u8 0, .int .u8 0], .int .i64 12]) (by simp [results, Try.results56, go_sem, e0, e1, e2, e3, e4, e5, e6, e7, e8, e9, e10, e11]) rfl ⟨by rw [HFF.out]; rfl, hLZ⟩
      | false =>
        go_wp2_with fail
        refine Calls.mono (pknown_any _ _) ?_
        rintro e w7 ⟨rfl, rfl⟩
        cases hk : knownId id with
        | true =>
          go_wp2_with fail
          refine Calls.mono (contains_any _ _ _ _ came id (by omega) HC6.out) ?_
          rintro e w7 ⟨rfl, rfl⟩
          by_cases hin : id ∈ came
          · rw [decide_eq_true hin]
            have HFF : Hid (decF bs = (zeroPm, false)) := Lib.hid (by rw [HF.out, ← HDD.out, if_pos (.inr ⟨hk, hin⟩)]; rfl)
            obtain ⟨f0, f1, f2, f3, f4, f5, f6, f7, f8, f9, f10, f11⟩ := free12 HR05.out
            obtain ⟨z0, z1, z2, z3, z4, z5, z6, z7, z8, z9, z10, z11⟩ := row12 HR05.out
            clear hk hin
            go_wp2_with fail
            have hA := set12 HR05.out (.int .u64 0) (.int .u64 0) (.int .u64 0) (.int .u64 0) (.int .u8 0) (.int .u8 0) (.int .u8 0) (.int .u8 0) (.int .u8 0) (.int .u8 0) (.int .u8 0) (.int .u8 0)
            have hge : w.heap.size ≤ g0 := by rw [HGZ.out]; exact Nat.le_refl _
            generalize ((((((((((((w6.setCell ⟨g0, 0, none⟩ (.int .u64 0)).setCell ⟨g0, 1, none⟩ (.int .u64 0)).setCell ⟨g0, 2, none⟩ (.int .u64 0)).setCell ⟨g0, 3, none⟩ (.int .u64 0)).setCell ⟨g0, 4, none⟩ (.int .u8 0)).setCell ⟨g0, 5, none⟩ (.int .u8 0)).setCell ⟨g0, 6, none⟩ (.int .u8 0)).setCell ⟨g0, 7, none⟩ (.int .u8 0)).setCell ⟨g0, 8, none⟩ (.int .u8 0)).setCell ⟨g0, 9, none⟩ (.int .u8 0)).setCell ⟨g0, 10, none⟩ (.int .u8 0)).setCell ⟨g0, 11, none⟩ (.int .u8 0)) = W9 at hA ⊢
            have hrow := hA.row
            have hLZ : Below w.heap.size w W9 := HL5.out.grown hA.rest HL5.out.size (by intro k hk; injection hk with hk; omega)
            obtain ⟨e0, e1, e2, e3, e4, e5, e6, e7, e8, e9, e10, e11⟩ := row12 hrow
            exact bodyPost_ret (v := .tuple #[.agg #[.int .u64 0, .int .u64 0, .int .u64 0, .int .u64 0, .int .u8 0, .int .u8 0, .int .u8 0, .int .u8 0, .int .u8 0, .int .u8 0, .int .u8 0, .int .u8 0], .int .i64 12]) (by simp [results, Try.results56, go_sem, e0, e1, e2, e3, e4, e5, e6, e7, e8, e9, e10, e11]) rfl ⟨by rw [HFF.out]; rfl, hLZ⟩
          · rw [decide_eq_false hin]
            have hno : ¬ (false = true ∨ (knownId id = true ∧ id ∈ came)) := by simp [hin]
            have HNO := Lib.hid hno
            clear hk hin hno
            go_wp2_with fail
            refine Calls.mono (take_any _ g p id xa xl xc x hxl2 HI5.out hpf HP5.out) ?_
            rintro e w8 ⟨rfl, hp8, hg8⟩
            have hR8 := HR5.out.aside hg8 (.inr (by have := HR5.out.lo; omega)) (by omega)
            have HR8 := Lib.hid hR8; have HP8 := Lib.hid hp8
            have HR08 := Lib.hid (grown_row hg8 (b := g0) (by intro e; injection e with e; omega) HR05.out)
            have HL8 := Lib.hid (HL5.out.grown hg8 HL5.out.size (by intro k hk; injection hk with hk; have := HGZ.out; omega))
            have HO8 := Lib.hid (own_ch HO5.out (fun k hk hlt => hg8.block k hlt (by intro e; injection e with e; have := own_base HO5.out k hk; omega)))
            have hsz8 := Nat.le_trans hsz5 hg8.size
            have HTL := Lib.hid (takeM_len p id x hpf)
            clear hR8 hp8 hg8 HR5 HP5 HR05 HL5 HO5 hsz5 HI5 HC6
            cases htk : (takeM p id x).2 with
            | false =>
              have htk' : ¬ (takeM p id x).2 = true := by rw [htk]; decide
              have HFF : Hid (decF bs = (zeroPm, false)) := Lib.hid (by rw [HF.out, ← HDD.out, if_neg HNO.out, if_neg htk']; rfl)
              obtain ⟨f0, f1, f2, f3, f4, f5, f6, f7, f8, f9, f10, f11⟩ := free12 HR08.out
              obtain ⟨z0, z1, z2, z3, z4, z5, z6, z7, z8, z9, z10, z11⟩ := row12 HR08.out
              clear htk htk'
              go_wp2_with fail
              have hA := set12 HR08.out (.int .u64 0) (.int .u64 0) (.int .u64 0) (.int .u64 0) (.int .u8 0) (.int .u8 0) (.int .u8 0) (.int .u8 0) (.int .u8 0) (.int .u8 0) (.int .u8 0) (.int .u8 0)
              have hge : w.heap.size ≤ g0 := by rw [HGZ.out]; exact Nat.le_refl _
              generalize ((((((((((((w8.setCell ⟨g0, 0, none⟩ (.int .u64 0)).setCell ⟨g0, 1, none⟩ (.int .u64 0)).setCell ⟨g0, 2, none⟩ (.int .u64 0)).setCell ⟨g0, 3, none⟩ (.int .u64 0)).setCell ⟨g0, 4, none⟩ (.int .u8 0)).setCell ⟨g0, 5, none⟩ (.int .u8 0)).setCell ⟨g0, 6, none⟩ (.int .u8 0)).setCell ⟨g0, 7, none⟩ (.int .u8 0)).setCell ⟨g0, 8, none⟩ (.int .u8 0)).setCell ⟨g0, 9, none⟩ (.int .u8 0)).setCell ⟨g0, 10, none⟩ (.int .u8 0)).setCell ⟨g0, 11, none⟩ (.int .u8 0)) = W9 at hA ⊢
              have hrow := hA.row
              have hLZ : Below w.heap.size w W9 := HL8.out.grown hA.rest HL8.out.size (by intro k hk; injection hk with hk; omega)
              obtain ⟨e0, e1, e2, e3, e4, e5, e6, e7, e8, e9, e10, e11⟩ := row12 hrow
              exact bodyPost_ret (v := .tuple #[.agg #[.int .u64 0, .int .u64 0, .int .u64 0, .int .u64 0, .int .u8 0, .int .u8 0, .int .u8 0, .int .u8 0, .int .u8 0, .int .u8 0, .int .u8 0, .int .u8 0], .int .i64 12]) (by simp [results, Try.results56, go_sem, e0, e1, e2, e3, e4, e5, e6, e7, e8, e9, e10, e11]) rfl ⟨by rw [HFF.out]; rfl, hLZ⟩
            | true =>
              have HD8 : Hid (decM k' r2 (takeM p id x).1 (came ++ [id]) = D) := Lib.hid (by rw [← HDD.out, if_neg HNO.out, if_pos htk])
              clear htk HDD
              have HOA := Lib.hid (own_below HO8.out ((Below.refl w8.heap.size w8).alloc (Nat.le_refl _) (.cells #[.int .u64 id] 22)))
              have HNA := Lib.hid (heap_alloc_new w8 (.cells #[.int .u64 id] 22))
              have hszA : g + 1 ≤ (w8.alloc (.cells #[.int .u64 id] 22)).heap.size := by simp; omega
              have HBA := Lib.hid ((Below.refl (g + 1) w8).alloc hsz8 (.cells #[.int .u64 id] 22))
              go_wp2_with (first | (at_builtin; refine wpList_append_u64 rfl _ _ rfl (g + 1) _ _ came rfl HOA.out _ id rfl HNA.out (by omega) hszA ?_; intro v9 w9 hown hgrow; have HO9 := Lib.hid hown; have HB9 := Lib.hid (HBA.out.grown hgrow hszA (own_base HOA.out)); clear hown hgrow) | fail)
              have HWC9 : Hid (∀ y ∈ came ++ [id], (Lit.int .u64 y).wf = true) := Lib.hid (by intro y hy; rcases List.mem_append.1 hy with h | h; exact HWC.out y h; simp at h; subst h; exact HIW.out)
              have hg9 : w.heap.size ≤ g + 1 := by have := HGZ.out; omega
              go_roundg k'
              case rel => exact ⟨k', r2, (takeM p id x).1, came ++ [id], rfl, hr2, by simp; omega, HTL.out, HD8, HWC9, Lib.hid (HL8.out.trans (HB9.out.mono hg9)), Nat.le_trans hsz8 HB9.out.size, Lib.hid (bl_row HB9.out (by omega) HR08.out), Lib.hid (bl_row HB9.out (by omega) HP8.out), Lib.hid (HR8.out.beyond HB9.out (by omega) hsz8), by simpa using HO9⟩
              case measure => omega
        | false =>
          have hno : ¬ (false = true ∨ (knownId id = true ∧ id ∈ came)) := by simp [hk]
          have HNO := Lib.hid hno
          clear hk hno
          go_wp2_with fail
          refine Calls.mono (take_any _ g p id xa xl xc x hxl2 HI5.out hpf HP5.out) ?_
          rintro e w8 ⟨rfl, hp8, hg8⟩
          have hR8 := HR5.out.aside hg8 (.inr (by have := HR5.out.lo; omega)) (by omega)
          have HR8 := Lib.hid hR8; have HP8 := Lib.hid hp8
          have HR08 := Lib.hid (grown_row hg8 (b := g0) (by intro e; injection e with e; omega) HR05.out)
          have HL8 := Lib.hid (HL5.out.grown hg8 HL5.out.size (by intro k hk; injection hk with hk; have := HGZ.out; omega))
          have HO8 := Lib.hid (own_ch HO5.out (fun k hk hlt => hg8.block k hlt (by intro e; injection e with e; have := own_base HO5.out k hk; omega)))
          have hsz8 := Nat.le_trans hsz5 hg8.size
          have HTL := Lib.hid (takeM_len p id x hpf)
          clear hR8 hp8 hg8 HR5 HP5 HR05 HL5 HO5 hsz5 HI5 HC6
          cases htk : (takeM p id x).2 with
          | false =>
            have htk' : ¬ (takeM p id x).2 = true := by rw [htk]; decide
            have HFF : Hid (decF bs = (zeroPm, false)) := Lib.hid (by rw [HF.out, ← HDD.out, if_neg HNO.out, if_neg htk']; rfl)
            obtain ⟨f0, f1, f2, f3, f4, f5, f6, f7, f8, f9, f10, f11⟩ := free12 HR08.out
            obtain ⟨z0, z1, z2, z3, z4, z5, z6, z7, z8, z9, z10, z11⟩ := row12 HR08.out
            clear htk htk'
            go_wp2_with fail
            have hA := set12 HR08.out (.int .u64 0) (.int .u64 0) (.int .u64 0) (.int .u64 0) (.int .u8 0) (.int .u8 0) (.int .u8 0) (.int .u8 0) (.int .u8 0) (.int .u8 0) (.int .u8 0) (.int .u8 0)
            have hge : w.heap.size ≤ g0 := by rw [HGZ.out]; exact Nat.le_refl _
            generalize ((((((((((((w8.setCell ⟨g0, 0, none⟩ (.int .u64 0)).setCell ⟨g0, 1, none⟩ (.int .u64 0)).setCell ⟨g0, 2, none⟩ (.int .u64 0)).setCell ⟨g0, 3, none⟩ (.int .u64 0)).setCell ⟨g0, 4, none⟩ (.int .u8 0)).setCell ⟨g0, 5, none⟩ (.int .u8 0)).setCell ⟨g0, 6, none⟩ (.int .u8 0)).setCell ⟨g0, 7, none⟩ (.int .u8 0)).setCell ⟨g0, 8, none⟩ (.int .u8 0)).setCell ⟨g0, 9, none⟩ (.int .u8 0)).setCell ⟨g0, 10, none⟩ (.int .u8 0)).setCell ⟨g0, 11, none⟩ (.int .u8 0)) = W9 at hA ⊢
            have hrow := hA.row
            have hLZ : Below w.heap.size w W9 := HL8.out.grown hA.rest HL8.out.size (by intro k hk; injection hk with hk; omega)
            obtain ⟨e0, e1, e2, e3, e4, e5, e6, e7, e8, e9, e10, e11⟩ := row12 hrow
            exact bodyPost_ret (v := .tuple #[.agg #[.int .u64 0, .int .u64 0, .int .u64 0, .int .u64 0, .int .u8 0, .int .u8 0, .int .u8 0, .int .u8 0, .int .u8 0, .int .u8 0, .int .u8 0, .int .u8 0], .int .i64 12]) (by simp [results, Try.results56, go_sem, e0, e1, e2, e3, e4, e5, e6, e7, e8, e9, e10, e11]) rfl ⟨by rw [HFF.out]; rfl, hLZ⟩
          | true =>
            have HD8 : Hid (decM k' r2 (takeM p id x).1 (came ++ [id]) = D) := Lib.hid (by rw [← HDD.out, if_neg HNO.out, if_pos htk])
            clear htk HDD
            have HOA := Lib.hid (own_below HO8.out ((Below.refl w8.heap.size w8).alloc (Nat.le_refl _) (.cells #[.int .u64 id] 22)))
            have HNA := Lib.hid (heap_alloc_new w8 (.cells #[.int .u64 id] 22))
            have hszA : g + 1 ≤ (w8.alloc (.cells #[.int .u64 id] 22)).heap.size := by simp; omega
            have HBA := Lib.hid ((Below.refl (g + 1) w8).alloc hsz8 (.cells #[.int .u64 id] 22))
            go_wp2_with (first | (at_builtin; refine wpList_append_u64 rfl _ _ rfl (g + 1) _ _ came rfl HOA.out _ id rfl HNA.out (by omega) hszA ?_; intro v9 w9 hown hgrow; have HO9 := Lib.hid hown; have HB9 := Lib.hid (HBA.out.grown hgrow hszA (own_base HOA.out)); clear hown hgrow) | fail)
            have HWC9 : Hid (∀ y ∈ came ++ [id], (Lit.int .u64 y).wf = true) := Lib.hid (by intro y hy; rcases List.mem_append.1 hy with h | h; exact HWC.out y h; simp at h; subst h; exact HIW.out)
            have hg9 : w.heap.size ≤ g + 1 := by have := HGZ.out; omega
            go_roundg k'
            case rel => exact ⟨k', r2, (takeM p id x).1, came ++ [id], rfl, hr2, by simp; omega, HTL.out, HD8, HWC9, Lib.hid (HL8.out.trans (HB9.out.mono hg9)), Nat.le_trans hsz8 HB9.out.size, Lib.hid (bl_row HB9.out (by omega) HR08.out), Lib.hid (bl_row HB9.out (by omega) HP8.out), Lib.hid (HR8.out.beyond HB9.out (by omega) hsz8), by simpa using HO9⟩
            case measure => omega
end Go.Proofs.Ytlpajohhnngbmaa
