/- demux: what is asked. -/
import Derived.Test.YtpngjokjjpdboaaDmx13
import Derived.Test.YtpngjokjjpdboaaBook
import Derived.Test.YtpngjokjjpdboaaOpen
namespace Go.Proofs.Ytpngjokjjpdboaa
open Go.RowKit
set_option linter.unusedVariables false

def askRow (k m n : Int) (xs : List Int) : List Value := .int .i64 k :: .int .i64 m :: .int .i64 n :: xs.map (Value.int .u8)
/-- a slice of Asks that came in, or was made. -/
def Asks (w : World) (a : Option Addr) (len : Nat) : Prop :=
  len = 0 ∨ ∃ b off, a = some ⟨b, off, none⟩ ∧ b < w.heap.size ∧ ∀ j, j < len → ∃ k m n xs, (Lit.int .i64 k).wf = true ∧ (Lit.int .i64 m).wf = true ∧ (Lit.int .i64 n).wf = true ∧ xs.length = 8 ∧ (∀ x ∈ xs, (Lit.int .u8 x).wf = true) ∧
    ∀ i v, (askRow k m n xs)[i]? = some v → w.cell? ⟨b, off + j * 11 + i, none⟩ = some v
theorem Asks.below {w w' : World} {a : Option Addr} {len : Nat} (h : Asks w a len) (hb : Below w.heap.size w w') : Asks w' a len := by
  rcases h with h | ⟨b, off, ha, hl, h⟩
  · exact .inl h
  · exact .inr ⟨b, off, ha, Nat.lt_of_lt_of_le hl hb.size, fun j hj => by
      obtain ⟨k, m, n, xs, h1, h2, h3, h4, h5, h6⟩ := h j hj
      exact ⟨k, m, n, xs, h1, h2, h3, h4, h5, fun i v hv => bl_cell hb (p := ⟨b, off + j * 11 + i, none⟩) hl (h6 i v hv)⟩⟩
theorem Asks.at {w : World} {a : Option Addr} {len : Nat} (h : Asks w a len) {j : Nat} (hj : j < len) :
    ∃ b off k m n xs, a = some ⟨b, off, none⟩ ∧ b < w.heap.size ∧ (Lit.int .i64 k).wf = true ∧ (Lit.int .i64 m).wf = true ∧ (Lit.int .i64 n).wf = true ∧ xs.length = 8 ∧ (∀ x ∈ xs, (Lit.int .u8 x).wf = true) ∧
    ∀ i v, (askRow k m n xs)[i]? = some v → w.cell? ⟨b, off + j * 11 + i, none⟩ = some v := by
  rcases h with h | ⟨b, off, ha, hl, h⟩
  · omega
  · obtain ⟨k, m, n, xs, h⟩ := h j hj
    exact ⟨b, off, k, m, n, xs, ha, hl, h⟩
set_option maxRecDepth 100000 in
theorem asks_open {H : Type} {enc : TypeId × Value → H} {w : World} {base : Nat} {spare : Nat → Bool} {held : Bool} {a : Option Addr} {len cap : Nat} {d : DataW H} {p : List MemPlace}
    (h : DataW.Trod enc Try.prog w base spare held 45 (.slice a len cap) d p) :
    len ≤ cap ∧ (∃ elems rest : List (DataW H), (d = .nil ∧ len = 0 ∧ cap = 0) ∨ (d = .slice elems rest ∧ elems.length = len)) ∧ Asks w a len := by
  obtain ⟨h1, h2, h3⟩ := open_rows (N := 11) (e := 47) Try.underlying45 (by kernel_rfl) (by omega) h
  refine ⟨h1, h2, ?_⟩
  rcases h3 with h3 | ⟨b, off, ha, hb, hr⟩
  · exact .inl h3
  · refine .inr ⟨b, off, ha, hb, fun j hj => ?_⟩
    obtain ⟨cs, m, y, hl, hc, hy⟩ := hr j hj
    obtain ⟨_, m2, hf⟩ := trod_fields Try.underlying47 hy
    obtain ⟨y0, h0⟩ := hf 0 _ rfl
    obtain ⟨y1, h1⟩ := hf 1 _ rfl
    obtain ⟨y2, h2⟩ := hf 2 _ rfl
    obtain ⟨y3, h3⟩ := hf 3 _ rfl
    obtain ⟨k, hk, _, wk⟩ := DataW.trod_int Try.underlying3 h0
    obtain ⟨e, he, _, we⟩ := DataW.trod_int Try.underlying3 h1
    obtain ⟨n, hn, _, wn⟩ := DataW.trod_int Try.underlying3 h2
    obtain ⟨xs, hxl, hxw, hx⟩ := trod_ints_arr (n := 8) (e := 5) (k := .u8) Try.underlying30 Try.underlying5 (by kernel_rfl) (by kernel_rfl) h3
    refine ⟨k, e, n, xs, wk, we, wn, hxl, hxw, fun i v hv => ?_⟩
    have hi : i < 11 := by
      have := lt_of_get hv
      simp [askRow, hxl] at this; omega
    have g0 : cs[0]? = some (.int .i64 k) := take_drop_at (i := 0) (n := 1) (k := 0) hk (by omega)
    have g1 : cs[1]? = some (.int .i64 e) := take_drop_at (i := 1) (n := 1) (k := 0) he (by omega)
    have g2 : cs[2]? = some (.int .i64 n) := take_drop_at (i := 2) (n := 1) (k := 0) hn (by omega)
    rw [hc i hi, ← hv]
    match i, hi with
    | 0, _ => exact g0
    | 1, _ => exact g1
    | 2, _ => exact g2
    | i + 3, hi =>
      have h := take_drop_at (i := 3) (n := 8) (k := i) hx (by omega)
      rw [Nat.add_comm 3 i] at h
      rw [h]; rfl

set_option maxRecDepth 100000 in
set_option maxHeartbeats 8000000 in
theorem name_any (w : World) (k m n : Int) (xs : List Int) (hm : (Lit.int .i64 m).wf = true) (hl : xs.length = 8) (hx : ∀ x ∈ xs, (Lit.int .u8 x).wf = true) :
    Calls Try.prog 27 #[.agg (askRow k m n xs).toArray] w fun e w' => ∃ c : List Int, (e = .returned (.agg (c.map (Value.int .u8)).toArray) ∧ c.length = 8 ∧ ∀ x ∈ c, (Lit.int .u8 x).wf = true) ∧ Below w.heap.size w w' := by
  have hmb := bdI64 hm
  have HWI := Lib.hid (fun w => within_any w m 0 1048576 (by omega) (by omega) (by omega) hmb)
  have hwi := within_in m 0 1048576 (by omega)
  generalize within m 0 1048576 = q at HWI hwi
  have HX := Lib.hid hx; have HL := Lib.hid hl
  obtain ⟨X, hX⟩ : ∃ X, xs.map (Value.int .u8) = X := ⟨_, rfl⟩
  have HXL : Hid (X.length = 8) := Lib.hid (by rw [← hX, List.length_map]; exact hl)
  have HXE := Lib.hid hX
  unfold askRow
  rw [hX]
  clear hX hx hl hm
  go_enter Try.func27, Try.ntmps27
  go_upto_region 1 with fail
  change Code.wp _ _ _ _ ((w.alloc (.cells (.int .i64 k :: .int .i64 m :: .int .i64 n :: X).toArray 47)).alloc (.cells (.int .u8 0 :: .int .u8 0 :: .int .u8 0 :: .int .u8 0 :: .int .u8 0 :: .int .u8 0 :: .int .u8 0 :: .int .u8 0 :: []).toArray 30))
  have HB := Lib.hid (Below.refl w.heap.size w)
  obtain ⟨g1, hg0⟩ : ∃ g, w.heap.size = g := ⟨_, rfl⟩
  try rw [hg0]
  have hb := (Below.refl w.heap.size w).alloc (Nat.le_refl _) (.cells (.int .i64 k :: .int .i64 m :: .int .i64 n :: X).toArray 47)
  have hrw := heap_alloc_new w (.cells (.int .i64 k :: .int .i64 m :: .int .i64 n :: X).toArray 47)
  have hsz : (w.alloc (.cells (.int .i64 k :: .int .i64 m :: .int .i64 n :: X).toArray 47)).heap.size = g1 + 1 := by simp [hg0]
  rw [hg0] at hrw
  replace HB := Lib.hid (bl_next HB.out HB.out.size hb)
  have HG1 := Lib.hid hrw
  clear hb hrw
  generalize w.alloc (.cells (.int .i64 k :: .int .i64 m :: .int .i64 n :: X).toArray 47) = w1 at HB HG1 hsz ⊢
  have hg1 := hsz
  clear hsz
  have HG0 := Lib.hid hg0
  clear hg0
  have hb := (Below.refl w1.heap.size w1).alloc (Nat.le_refl _) (.cells (.int .u8 0 :: .int .u8 0 :: .int .u8 0 :: .int .u8 0 :: .int .u8 0 :: .int .u8 0 :: .int .u8 0 :: .int .u8 0 :: []).toArray 30)
  have hrw := heap_alloc_new w1 (.cells (.int .u8 0 :: .int .u8 0 :: .int .u8 0 :: .int .u8 0 :: .int .u8 0 :: .int .u8 0 :: .int .u8 0 :: .int .u8 0 :: []).toArray 30)
  have hsz : (w1.alloc (.cells (.int .u8 0 :: .int .u8 0 :: .int .u8 0 :: .int .u8 0 :: .int .u8 0 :: .int .u8 0 :: .int .u8 0 :: .int .u8 0 :: []).toArray 30)).heap.size = g1 + 1 + 1 := by simp [hg1]
  rw [hg1] at hrw
  replace HB := Lib.hid (bl_next HB.out HB.out.size hb)
  replace HG1 := Lib.hid (bl_row hb (lt_of_block HG1.out) HG1.out)
  have HG2 := Lib.hid hrw
  clear hb hrw
  generalize w1.alloc (.cells (.int .u8 0 :: .int .u8 0 :: .int .u8 0 :: .int .u8 0 :: .int .u8 0 :: .int .u8 0 :: .int .u8 0 :: .int .u8 0 :: []).toArray 30) = w2 at HB HG1 HG2 hsz ⊢
  have hg2 := hsz
  clear hsz
  clear hg1
  obtain ⟨g2, hgg⟩ : ∃ g, g1 + 1 = g := ⟨_, rfl⟩
  rw [hgg] at HG2 hg2 ⊢
  have HLTg2 : Hid (g1 < g2) := Lib.hid (by omega)
  clear hgg
  clear hg2
  have c1 := cell_row HG1.out 1 _ rfl
  by_cases h5 : Int.tmod m 5 = 4
  · skip
    have HR3 := Lib.hid (rng_row HG1.out 3 X (fun j v hv => by rw [Nat.add_comm]; exact hv))
    have HXO : Hid (∀ v ∈ X, v.oneCell' = true) := Lib.hid (by rw [← HXE.out]; exact ints_one)
    go_wp2_with (first | (refine wpList_load_mid rfl 30 _ rfl g1 3 rfl X _ HR3.out Try.underlying30 rfl (by rw [HXL.out]; rfl) ?_) | (refine wpList_store_row rfl 30 _ _ rfl _ rfl X (.int .u8 0 :: .int .u8 0 :: .int .u8 0 :: .int .u8 0 :: .int .u8 0 :: .int .u8 0 :: .int .u8 0 :: .int .u8 0 :: []) rfl 30 HG2.out (by rw [HXL.out]; rfl) (by rw [HXL.out]; rfl) HXO.out ?_; intro w3 hr hg) | fail)
    replace HB := Lib.hid (HB.out.grown hg HB.out.size (by intro k hk; injection hk with hk; have := HG0.out; have := HLTg2.out; omega))
    clear hg
    try simp only [Exit.inBlock, Exit.then]
    refine bodyPost_ret (results_cell1 rfl _ _ g2 rfl X _ _ hr Try.underlying30 rfl (by rw [HXL.out]; rfl)) rfl ⟨xs, ⟨by rw [HXE.out], HL.out, HX.out⟩, HB.out⟩
  · skip
    go_wp2_with fail
    refine Calls.mono (HWI.out _) ?_
    rintro e wq ⟨rfl, rfl⟩
    have HRL : Hid (((.int .u8 (q % 40) :: .int .u8 0 :: .int .u8 0 :: .int .u8 0 :: .int .u8 0 :: .int .u8 0 :: .int .u8 0 :: .int .u8 0 :: []) : List Value).length = 8) := Lib.hid rfl
    have HRO : Hid (∀ v ∈ ((.int .u8 (q % 40) :: .int .u8 0 :: .int .u8 0 :: .int .u8 0 :: .int .u8 0 :: .int .u8 0 :: .int .u8 0 :: .int .u8 0 :: []) : List Value), v.oneCell' = true) := Lib.hid (by intro v hv; simp only [List.mem_cons, List.not_mem_nil, or_false] at hv; rcases hv with rfl | rfl | rfl | rfl | rfl | rfl | rfl | rfl <;> rfl)
    have HC : Hid (∀ x ∈ [q % 40, 0, 0, 0, 0, 0, 0, 0], (Lit.int .u8 x).wf = true) := Lib.hid (by intro v hv; simp only [List.mem_cons, List.not_mem_nil, or_false] at hv; rcases hv with rfl | rfl | rfl | rfl | rfl | rfl | rfl | rfl; (exact wf_u8_of (by omega) (by omega)); all_goals decide)
    go_wp2_with (first | (refine wpList_store_row rfl 30 _ _ rfl _ rfl (.int .u8 (q % 40) :: .int .u8 0 :: .int .u8 0 :: .int .u8 0 :: .int .u8 0 :: .int .u8 0 :: .int .u8 0 :: .int .u8 0 :: []) (.int .u8 0 :: .int .u8 0 :: .int .u8 0 :: .int .u8 0 :: .int .u8 0 :: .int .u8 0 :: .int .u8 0 :: .int .u8 0 :: []) rfl 30 HG2.out (by rw [HRL.out]; rfl) (by rw [HRL.out]; rfl) HRO.out ?_; intro w4 hr hg) | fail)
    replace HB := Lib.hid (HB.out.grown hg HB.out.size (by intro k hk; injection hk with hk; have := HG0.out; have := HLTg2.out; omega))
    clear hg
    try simp only [Exit.inBlock, Exit.then]
    refine bodyPost_ret (results_cell1 rfl _ _ g2 rfl (.int .u8 (q % 40) :: .int .u8 0 :: .int .u8 0 :: .int .u8 0 :: .int .u8 0 :: .int .u8 0 :: .int .u8 0 :: .int .u8 0 :: []) _ _ hr Try.underlying30 rfl (by rw [HRL.out]; rfl)) rfl ⟨[q % 40, 0, 0, 0, 0, 0, 0, 0], ⟨rfl, rfl, HC.out⟩, HB.out⟩
end Go.Proofs.Ytpngjokjjpdboaa
