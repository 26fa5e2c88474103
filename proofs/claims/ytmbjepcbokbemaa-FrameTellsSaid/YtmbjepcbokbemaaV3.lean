/- texts of the proof, laid together: Keep2, Keep3, Frm5. -/
import Derived.Test.YtmbjepcbokbemaaV2
import Derived.Test.YtmbjepcbokbemaaV1
set_option linter.unusedVariables false
set_option linter.unusedSimpArgs false
set_option maxRecDepth 100000
set_option maxHeartbeats 16000000
namespace Go.Proofs.Ytmbjepcbokbemaa
open Go.RowKit
def subRegion (n : Nat) : Code → Option Code
 | .region k o d => if k = n then some (.region k o d) else none
 | .seq a b => match subRegion n a with
  | some c => some c
  | none => subRegion n b
 | .cond _ a b => match subRegion n a with
  | some c => some c
  | none => subRegion n b
 | .block _ c => subRegion n c
 | .loop c => subRegion n c
 | _ => none
def subBlock (n : Nat) : Code → Option Code
 | .block k c => if k = n then some (.block k c) else subBlock n c
 | .seq a b => match subBlock n a with
  | some c => some c
  | none => subBlock n b
 | .cond _ a b => match subBlock n a with
  | some c => some c
  | none => subBlock n b
 | .loop c => subBlock n c
 | _ => none
def KLoc (B : Nat) (da : Option Addr) (dn : Nat) (dv rv : Value) : Prop := (∀ x n c, dv = .slice (some x) n c → (da = some x ∧ n ≤ dn) ∨ B ≤ x.block) ∧ ∀ x n c, rv = .slice (some x) n c → B ≤ x.block
theorem KLoc.nil (B : Nat) (da : Option Addr) (dn : Nat) : KLoc B da dn (.slice none 0 0) (.slice none 0 0) := ⟨fun x n c h => (by injection h with h; cases h), fun x n c h => (by injection h with h; cases h)⟩
theorem KLoc.data (B : Nat) (da : Option Addr) (dn n c : Nat) (hn : n ≤ dn) : KLoc B da dn (.slice da n c) (.slice none 0 0) := ⟨fun x m c h => (by injection h with h h2; subst h2; exact .inl ⟨h, hn⟩), fun x n c h => (by injection h with h; cases h)⟩
theorem KLoc.rg {B : Nat} {da a : Option Addr} {dn n c : Nat} (h : ∀ x, a = some x → B ≤ x.block) : KLoc B da dn (.slice none 0 0) (.slice a n c) := ⟨fun x n c h => (by injection h with h; cases h), fun x n c e => (by injection e with e; exact h x e)⟩
theorem KLoc.less {B C : Nat} {da : Option Addr} {dn : Nat} {dv rv : Value} (h : KLoc B da dn dv rv) (hc : C ≤ B) : KLoc C da dn dv rv := ⟨fun x n c e => (h.1 x n c e).imp id (Nat.le_trans hc), fun x n c e => Nat.le_trans hc (h.2 x n c e)⟩
theorem kcells (n : Int) : (Kc.cidM n).map (Value.int .u8) = [.int .u8 1, .int .u8 (within n 0 1048576 % 5), .int .u8 7, .int .u8 0, .int .u8 0, .int .u8 0, .int .u8 0, .int .u8 0] := rfl
theorem kframe_sw {x0 x2 x3 x8 x9 x10 x11 x12 x13 x14 x15 x16 x17 x18 x19 x20 x21 x22 x23 x24 x25 x26 x27 x28 x30 x31 x32 x33 x34 x35 x36 x37 x38 x39 x40 x41 x42 x43 x44 x45 x46 x47 x48 x49 x50 x51 x52 x53 x54 x55 x56 x57 x58 x59 x60 x61 x62 x63 x64 x65 x66 x67 x68 x69 x70 x71 x72 x73 x74 x75 x76 x77 x78 x79 x80 x81 x82 x83 x84 x85 x86 x87 x88 x89 x90 x91 x92 x93 x94 x95 x96 x97 x98 x99 x100 x101 x102 x103 x104 x105 x106 x107 x108 x109 x110 x111 x112 x113 x114 x115 x116 x117 x118 x119 x120 x121 x122 x123 x124 x125 x126 x127 x128 x129 x130 : Value} {w0 : World} {gx gz g dn dc rn rc : Nat} {a b c k xk xa xb xc xn : Int} {xf : Bool} {da ra : Option Addr} {data rows : List Int} (w : World) {Q : Exit → Act → World → Prop}
  (HB : Hid (Below w0.heap.size w0 w)) (HG : Hid (w.heap[g]? = some (.cells ([.int .i64 k, .int .u64 0, .int .u64 0, .slice none 0 0, .bool false, .int .u64 0, .int .u64 0, .int .u64 0, .int .u64 0, .int .u64 0, .slice none 0 0, .int .u8 0, .int .u8 0, .int .u8 0, .int .u8 0, .int .u8 0, .int .u8 0, .int .u8 0, .int .u8 0] : List Value).toArray 39 (0, 0)))) (HX : Hid (w0.heap[gx]? = some (.cells ([.int .i64 xk, .int .u64 xa, .int .u64 xb, .int .u64 xc, .slice da dn dc, .bool xf, .slice ra rn rc, .int .i64 xn] : List Value).toArray 55 (0, 0)))) (hgl : w0.heap.size ≤ g) (hgz : gz < w0.heap.size) (HD : Hid (IntsK .u8 w0 da dn data)) (hdc : dn ≤ dc) (hdm : dc ≤ 9223372036854775807) (HR : Hid (IntsK .u64 w0 ra rn rows)) (hrn : rn ≤ 9223372036854775807) (ha : 0 ≤ a ∧ a ≤ 4611686018427387903) (hb : 0 ≤ b ∧ b ≤ 4611686018427387903) (hc : 0 ≤ c ∧ c ≤ 4611686018427387903) (hn : -9223372036854775808 ≤ xn ∧ xn ≤ 9223372036854775807)
  (hk : k = 0 ∨ k = 1 ∨ k = 30 ∨ k = 2 ∨ k = 4 ∨ k = 5 ∨ k = 6 ∨ k = 8 ∨ k = 16 ∨ k = 17 ∨ k = 18 ∨ k = 20 ∨ k = 24 ∨ k = 25 ∨ k = 26 ∨ k = 27 ∨ k = 28)
  (hQp : ∀ c a d v w, Q (.panic c) (a.put d v) w → Q (.panic c) a w)
  (hQ : ∀ (y30 y31 y32 y33 y34 y35 y36 y37 y38 y39 y40 y41 y42 y43 y44 y45 y46 y47 y48 y49 y50 y51 y52 y53 y54 y55 y56 y57 y58 y59 y60 y61 y62 y63 y64 y65 y66 y67 y68 y69 y70 y71 y72 y73 y74 y75 y76 y77 y78 y79 y80 y81 y82 y83 y84 y85 y86 y87 y88 y89 y90 y91 y92 y93 y94 y95 y96 y97 y98 y99 y100 y101 y102 y103 y104 y105 y106 y107 y108 y109 y110 y111 y112 y113 y114 y115 y116 y117 y118 y119 y120 y121 y122 y123 y124 y125 y126 y127 y128 y129 : Value) (f : Fr) (dv rv : Value) (w' : World), Hid (∀ y, w'.grownBy y (some gz) → IntsK .u8 y da dn data → FrAt y f dv rv) → f.kind = k → rightB f = true → KLoc w0.heap.size da dn dv rv → Hid (w'.heap[g]? = some (.cells (f.cells dv rv).toArray 39 (0, 0))) → Hid (Below w0.heap.size w0 w') → Q .normal ⟨List.toArray (x0 :: .pointer (some ⟨gx, 0, none⟩) :: x2 :: x3 :: .pointer (some ⟨g, 0, none⟩) :: .int .u64 a :: .int .u64 b :: .int .u64 c :: x8 :: x9 :: x10 :: x11 :: x12 :: x13 :: x14 :: x15 :: x16 :: x17 :: x18 :: x19 :: x20 :: x21 :: x22 :: x23 :: x24 :: x25 :: x26 :: x27 :: x28 :: .int .i64 k :: y30 :: y31 :: y32 :: y33 :: y34 :: y35 :: y36 :: y37 :: y38 :: y39 :: y40 :: y41 :: y42 :: y43 :: y44 :: y45 :: y46 :: y47 :: y48 :: y49 :: y50 :: y51 :: y52 :: y53 :: y54 :: y55 :: y56 :: y57 :: y58 :: y59 :: y60 :: y61 :: y62 :: y63 :: y64 :: y65 :: y66 :: y67 :: y68 :: y69 :: y70 :: y71 :: y72 :: y73 :: y74 :: y75 :: y76 :: y77 :: y78 :: y79 :: y80 :: y81 :: y82 :: y83 :: y84 :: y85 :: y86 :: y87 :: y88 :: y89 :: y90 :: y91 :: y92 :: y93 :: y94 :: y95 :: y96 :: y97 :: y98 :: y99 :: y100 :: y101 :: y102 :: y103 :: y104 :: y105 :: y106 :: y107 :: y108 :: y109 :: y110 :: y111 :: y112 :: y113 :: y114 :: y115 :: y116 :: y117 :: y118 :: y119 :: y120 :: y121 :: y122 :: y123 :: y124 :: y125 :: y126 :: y127 :: y128 :: y129 :: x130 :: []), []⟩ w') :
  Code.wp Try.prog (((Try.f24.body.bind (subBlock 0)).getD .skip)) Q ⟨List.toArray (x0 :: .pointer (some ⟨gx, 0, none⟩) :: x2 :: x3 :: .pointer (some ⟨g, 0, none⟩) :: .int .u64 a :: .int .u64 b :: .int .u64 c :: x8 :: x9 :: x10 :: x11 :: x12 :: x13 :: x14 :: x15 :: x16 :: x17 :: x18 :: x19 :: x20 :: x21 :: x22 :: x23 :: x24 :: x25 :: x26 :: x27 :: x28 :: .int .i64 k :: x30 :: x31 :: x32 :: x33 :: x34 :: x35 :: x36 :: x37 :: x38 :: x39 :: x40 :: x41 :: x42 :: x43 :: x44 :: x45 :: x46 :: x47 :: x48 :: x49 :: x50 :: x51 :: x52 :: x53 :: x54 :: x55 :: x56 :: x57 :: x58 :: x59 :: x60 :: x61 :: x62 :: x63 :: x64 :: x65 :: x66 :: x67 :: x68 :: x69 :: x70 :: x71 :: x72 :: x73 :: x74 :: x75 :: x76 :: x77 :: x78 :: x79 :: x80 :: x81 :: x82 :: x83 :: x84 :: x85 :: x86 :: x87 :: x88 :: x89 :: x90 :: x91 :: x92 :: x93 :: x94 :: x95 :: x96 :: x97 :: x98 :: x99 :: x100 :: x101 :: x102 :: x103 :: x104 :: x105 :: x106 :: x107 :: x108 :: x109 :: x110 :: x111 :: x112 :: x113 :: x114 :: x115 :: x116 :: x117 :: x118 :: x119 :: x120 :: x121 :: x122 :: x123 :: x124 :: x125 :: x126 :: x127 :: x128 :: x129 :: x130 :: []), []⟩ w := by
 have HK := Qh hQ; have HKP := Qh hQp
 clear hQ hQp
 conv => arg 2; whnf
 have HX1 := Qh (fun W (h : Below w0.heap.size w0 W) => bl_row h (lt_of_block HX.out) HX.out)
 have hmo := Int.emod_nonneg b (show (1000 : Int) ≠ 0 by omega); have hmo2 := Int.emod_lt_of_pos b (show (0 : Int) < 1000 by omega)
 have hmc := Int.emod_nonneg c (show (1099511627777 : Int) ≠ 0 by omega); have hmc2 := Int.emod_lt_of_pos c (show (0 : Int) < 1099511627777 by omega)
 have hmb := Int.emod_nonneg b (show (1099511627777 : Int) ≠ 0 by omega); have hmb2 := Int.emod_lt_of_pos b (show (0 : Int) < 1099511627777 by omega)
 have hma := Int.emod_nonneg a (show (1099511627777 : Int) ≠ 0 by omega); have hma2 := Int.emod_lt_of_pos a (show (0 : Int) < 1099511627777 by omega)
 have hms := Int.emod_nonneg a (show (1048577 : Int) ≠ 0 by omega); have hms2 := Int.emod_lt_of_pos a (show (0 : Int) < 1048577 by omega)
 have hmq := Int.emod_nonneg b (show (1099511626776 : Int) ≠ 0 by omega); have hmq2 := Int.emod_lt_of_pos b (show (0 : Int) < 1099511626776 by omega)
 have HM := Qh (And.intro (And.intro (And.intro hmo hmo2) (And.intro hmc hmc2)) (And.intro (And.intro (And.intro hmb hmb2) (And.intro hma hma2)) (And.intro (And.intro hms hms2) (And.intro hmq hmq2))))
 clear hmo hmo2 hmc hmc2 hmb hmb2 hma hma2 hms hms2 hmq hmq2
 rcases hk with rfl | rfl | rfl | rfl | rfl | rfl | rfl | rfl | rfl | rfl | rfl | rfl | rfl | rfl | rfl | rfl | rfl
 ·
  go_wp2_with fail
  have HF : Hid (∀ y, World.grownBy w y (some gz) → IntsK .u8 y da dn data → FrAt y (⟨0, 0, 0, [], false, 0, 0, 0, 0, 0, [], [0, 0, 0, 0, 0, 0, 0, 0]⟩ : Fr) (.slice none 0 0) (.slice none 0 0)) := Qh fun y hgy hIy => ⟨⟨by simp only; omega, by simp only [U64]; omega, by simp only [U64]; omega, by simp only [U64]; omega, by simp only [U64]; omega, by simp only [U64]; omega, by simp only [U64]; omega, by simp only [U64]; omega, rfl, (by intro x hx; simp only [List.mem_cons, List.not_mem_nil, or_false] at hx; rcases hx with rfl | rfl | rfl | rfl | rfl | rfl | rfl | rfl <;> rfl)⟩, ⟨none, 0, 0, rfl, Nat.le_refl _, by omega, IntsK.nil _ _ _⟩, ⟨none, 0, 0, rfl, Nat.le_refl _, by omega, RK.At.nil _ _⟩⟩
  exact HK.out _ _ _ _ _ _ _ _ _ _ _ _ _ _ _ _ _ _ _ _ _ _ _ _ _ _ _ _ _ _ _ _ _ _ _ _ _ _ _ _ _ _ _ _ _ _ _ _ _ _ _ _ _ _ _ _ _ _ _ _ _ _ _ _ _ _ _ _ _ _ _ _ _ _ _ _ _ _ _ _ _ _ _ _ _ _ _ _ _ _ _ _ _ _ _ _ _ _ _ _ (⟨0, 0, 0, [], false, 0, 0, 0, 0, 0, [], [0, 0, 0, 0, 0, 0, 0, 0]⟩ : Fr) _ _ _ HF rfl ((by decide)) (KLoc.nil _ _ _) HG HB
 ·
  go_wp2_with fail
  have HF : Hid (∀ y, World.grownBy w y (some gz) → IntsK .u8 y da dn data → FrAt y (⟨1, 0, 0, [], false, 0, 0, 0, 0, 0, [], [0, 0, 0, 0, 0, 0, 0, 0]⟩ : Fr) (.slice none 0 0) (.slice none 0 0)) := Qh fun y hgy hIy => ⟨⟨by simp only; omega, by simp only [U64]; omega, by simp only [U64]; omega, by simp only [U64]; omega, by simp only [U64]; omega, by simp only [U64]; omega, by simp only [U64]; omega, by simp only [U64]; omega, rfl, (by intro x hx; simp only [List.mem_cons, List.not_mem_nil, or_false] at hx; rcases hx with rfl | rfl | rfl | rfl | rfl | rfl | rfl | rfl <;> rfl)⟩, ⟨none, 0, 0, rfl, Nat.le_refl _, by omega, IntsK.nil _ _ _⟩, ⟨none, 0, 0, rfl, Nat.le_refl _, by omega, RK.At.nil _ _⟩⟩
  exact HK.out _ _ _ _ _ _ _ _ _ _ _ _ _ _ _ _ _ _ _ _ _ _ _ _ _ _ _ _ _ _ _ _ _ _ _ _ _ _ _ _ _ _ _ _ _ _ _ _ _ _ _ _ _ _ _ _ _ _ _ _ _ _ _ _ _ _ _ _ _ _ _ _ _ _ _ _ _ _ _ _ _ _ _ _ _ _ _ _ _ _ _ _ _ _ _ _ _ _ _ _ (⟨1, 0, 0, [], false, 0, 0, 0, 0, 0, [], [0, 0, 0, 0, 0, 0, 0, 0]⟩ : Fr) _ _ _ HF rfl ((by decide)) (KLoc.nil _ _ _) HG HB
 ·
  go_wp2_with fail
  have HF : Hid (∀ y, World.grownBy w y (some gz) → IntsK .u8 y da dn data → FrAt y (⟨30, 0, 0, [], false, 0, 0, 0, 0, 0, [], [0, 0, 0, 0, 0, 0, 0, 0]⟩ : Fr) (.slice none 0 0) (.slice none 0 0)) := Qh fun y hgy hIy => ⟨⟨by simp only; omega, by simp only [U64]; omega, by simp only [U64]; omega, by simp only [U64]; omega, by simp only [U64]; omega, by simp only [U64]; omega, by simp only [U64]; omega, by simp only [U64]; omega, rfl, (by intro x hx; simp only [List.mem_cons, List.not_mem_nil, or_false] at hx; rcases hx with rfl | rfl | rfl | rfl | rfl | rfl | rfl | rfl <;> rfl)⟩, ⟨none, 0, 0, rfl, Nat.le_refl _, by omega, IntsK.nil _ _ _⟩, ⟨none, 0, 0, rfl, Nat.le_refl _, by omega, RK.At.nil _ _⟩⟩
  exact HK.out _ _ _ _ _ _ _ _ _ _ _ _ _ _ _ _ _ _ _ _ _ _ _ _ _ _ _ _ _ _ _ _ _ _ _ _ _ _ _ _ _ _ _ _ _ _ _ _ _ _ _ _ _ _ _ _ _ _ _ _ _ _ _ _ _ _ _ _ _ _ _ _ _ _ _ _ _ _ _ _ _ _ _ _ _ _ _ _ _ _ _ _ _ _ _ _ _ _ _ _ (⟨30, 0, 0, [], false, 0, 0, 0, 0, 0, [], [0, 0, 0, 0, 0, 0, 0, 0]⟩ : Fr) _ _ _ HF rfl ((by decide)) (KLoc.nil _ _ _) HG HB
 ·
  obtain ⟨⟨⟨mo1, mo2⟩, mc1, mc2⟩, ⟨⟨mb1, mb2⟩, ma1, ma2⟩, ⟨ms1, ms2⟩, mq1, mq2⟩ := HM.out
  have x6 := row_cell (HX1.out _ HB.out) 6 _ rfl
  go_wp2_with fail
  clear x6
  refine Calls.mono (kranges_any _ ra rn rc rows (b % 1000) (HR.out.below HB.out) hrn (by omega)) ?_
  rintro e w1 ⟨ba, bm, bc, rs, rfl, hle, hmx, hra, hack, hfr, hb⟩
  have HRL : Hid (∀ x, ba = some x → w0.heap.size ≤ x.block) := Qh (fun x hx => Nat.le_trans HB.out.size (hfr x hx))
  have HFZ : Hid (∀ x, ba = some x → some x.block ≠ some gz) := Qh (fun x hx e => by injection e with e; have := hfr x hx; have := HB.out.size; omega)
  replace hfr : ∀ x, ba = some x → some x.block ≠ some g := fun x hx e => by injection e with e; have := hfr x hx; have := lt_of_block HG.out; omega
  replace HG := Qh (bl_row hb (lt_of_block HG.out) HG.out); replace HB := Qh (bl_next HB.out HB.out.size hb)
  have HRA := Qh hra; have HAC := Qh hack; have HFR := Qh hfr
  clear hb hra hack hfr
  have c9 := row_cell HG.out 9 _ rfl; have f9 := row_free HG.out 9
  have c10 := row_cell HG.out 10 _ rfl; have f10 := row_free HG.out 10
  go_wp2_with fail
  clear c9 f9 c10 f10
  have HR9 := Qh (HRA.out.grown (grown_trans (grown_setCell w1 g 9 (.int .u64 a)) (grown_setCell _ g 10 (.slice ba bm bc))) HFR.out)
  have hA := (((At.base HG.out).set 9 (.int .u64 a)).set 10 (.slice ba bm bc)).conv (cs' := ([.int .i64 2, .int .u64 0, .int .u64 0, .slice none 0 0, .bool false, .int .u64 0, .int .u64 0, .int .u64 0, .int .u64 0, .int .u64 a, .slice ba bm bc, .int .u8 0, .int .u8 0, .int .u8 0, .int .u8 0, .int .u8 0, .int .u8 0, .int .u8 0, .int .u8 0] : List Value).toArray) (by rfl)
  have HG9 := Qh hA.row; have HB9 := Qh (HB.out.grown hA.rest HB.out.size (by intro k hk; injection hk with hk; omega))
  clear hA
  generalize ((w1.setCell ⟨g, 9, none⟩ (.int .u64 a)).setCell ⟨g, 10, none⟩ (.slice ba bm bc)) = w9 at HG9 HB9 HR9 ⊢
  have HF : Hid (∀ y, World.grownBy w9 y (some gz) → IntsK .u8 y da dn data → FrAt y (⟨2, 0, 0, [], false, 0, 0, 0, 0, a, rs, [0, 0, 0, 0, 0, 0, 0, 0]⟩ : Fr) (.slice none 0 0) (.slice ba bm bc)) := Qh fun y hgy hIy => ⟨⟨by simp only; omega, by simp only [U64]; omega, by simp only [U64]; omega, by simp only [U64]; omega, by simp only [U64]; omega, by simp only [U64]; omega, by simp only [U64]; omega, by simp only [U64]; omega, rfl, (by intro x hx; simp only [List.mem_cons, List.not_mem_nil, or_false] at hx; rcases hx with rfl | rfl | rfl | rfl | rfl | rfl | rfl | rfl <;> rfl)⟩, ⟨none, 0, 0, rfl, Nat.le_refl _, by omega, IntsK.nil _ _ _⟩, ⟨_, _, _, rfl, hle, hmx, HR9.out.grown hgy HFZ.out⟩⟩
  exact HK.out _ _ _ _ _ _ _ _ _ _ _ _ _ _ _ _ _ _ _ _ _ _ _ _ _ _ _ _ _ _ _ _ _ _ _ _ _ _ _ _ _ _ _ _ _ _ _ _ _ _ _ _ _ _ _ _ _ _ _ _ _ _ _ _ _ _ _ _ _ _ _ _ _ _ _ _ _ _ _ _ _ _ _ _ _ _ _ _ _ _ _ _ _ _ _ _ _ _ _ _ (⟨2, 0, 0, [], false, 0, 0, 0, 0, a, rs, [0, 0, 0, 0, 0, 0, 0, 0]⟩ : Fr) _ _ _ HF rfl ((by simp [rightB, inB, HAC.out]; omega)) (KLoc.rg HRL.out) HG9 HB9
 ·
  obtain ⟨⟨⟨mo1, mo2⟩, mc1, mc2⟩, ⟨⟨mb1, mb2⟩, ma1, ma2⟩, ⟨ms1, ms2⟩, mq1, mq2⟩ := HM.out
  have c1 := row_cell HG.out 1 _ rfl; have f1 := row_free HG.out 1
  have c6 := row_cell HG.out 6 _ rfl; have f6 := row_free HG.out 6
  have c7 := row_cell HG.out 7 _ rfl; have f7 := row_free HG.out 7
  go_wp2_with fail
  clear c1 f1 c6 f6 c7 f7
  have hA := ((((At.base HG.out).set 1 (.int .u64 a)).set 6 (.int .u64 b)).set 7 (.int .u64 (c % 1099511627777))).conv (cs' := ([.int .i64 4, .int .u64 a, .int .u64 0, .slice none 0 0, .bool false, .int .u64 0, .int .u64 b, .int .u64 (c % 1099511627777), .int .u64 0, .int .u64 0, .slice none 0 0, .int .u8 0, .int .u8 0, .int .u8 0, .int .u8 0, .int .u8 0, .int .u8 0, .int .u8 0, .int .u8 0] : List Value).toArray) (by rfl)
  have HG9 := Qh hA.row; have HB9 := Qh (HB.out.grown hA.rest HB.out.size (by intro k hk; injection hk with hk; omega))
  clear hA
  generalize (((w.setCell ⟨g, 1, none⟩ (.int .u64 a)).setCell ⟨g, 6, none⟩ (.int .u64 b)).setCell ⟨g, 7, none⟩ (.int .u64 (c % 1099511627777))) = w9 at HG9 HB9 ⊢
  have HF : Hid (∀ y, World.grownBy w9 y (some gz) → IntsK .u8 y da dn data → FrAt y (⟨4, a, 0, [], false, 0, b, (c % 1099511627777), 0, 0, [], [0, 0, 0, 0, 0, 0, 0, 0]⟩ : Fr) (.slice none 0 0) (.slice none 0 0)) := Qh fun y hgy hIy => ⟨⟨by simp only; omega, by simp only [U64]; omega, by simp only [U64]; omega, by simp only [U64]; omega, by simp only [U64]; omega, by simp only [U64]; omega, by simp only [U64]; omega, by simp only [U64]; omega, rfl, (by intro x hx; simp only [List.mem_cons, List.not_mem_nil, or_false] at hx; rcases hx with rfl | rfl | rfl | rfl | rfl | rfl | rfl | rfl <;> rfl)⟩, ⟨none, 0, 0, rfl, Nat.le_refl _, by omega, IntsK.nil _ _ _⟩, ⟨none, 0, 0, rfl, Nat.le_refl _, by omega, RK.At.nil _ _⟩⟩
  exact HK.out _ _ _ _ _ _ _ _ _ _ _ _ _ _ _ _ _ _ _ _ _ _ _ _ _ _ _ _ _ _ _ _ _ _ _ _ _ _ _ _ _ _ _ _ _ _ _ _ _ _ _ _ _ _ _ _ _ _ _ _ _ _ _ _ _ _ _ _ _ _ _ _ _ _ _ _ _ _ _ _ _ _ _ _ _ _ _ _ _ _ _ _ _ _ _ _ _ _ _ _ (⟨4, a, 0, [], false, 0, b, (c % 1099511627777), 0, 0, [], [0, 0, 0, 0, 0, 0, 0, 0]⟩ : Fr) _ _ _ HF rfl ((by simp [rightB, inB, atB]; try omega)) (KLoc.nil _ _ _) HG9 HB9
 ·
  obtain ⟨⟨⟨mo1, mo2⟩, mc1, mc2⟩, ⟨⟨mb1, mb2⟩, ma1, ma2⟩, ⟨ms1, ms2⟩, mq1, mq2⟩ := HM.out
  have c1 := row_cell HG.out 1 _ rfl; have f1 := row_free HG.out 1
  have c6 := row_cell HG.out 6 _ rfl; have f6 := row_free HG.out 6
  go_wp2_with fail
  clear c1 f1 c6 f6
  have hA := (((At.base HG.out).set 1 (.int .u64 a)).set 6 (.int .u64 b)).conv (cs' := ([.int .i64 5, .int .u64 a, .int .u64 0, .slice none 0 0, .bool false, .int .u64 0, .int .u64 b, .int .u64 0, .int .u64 0, .int .u64 0, .slice none 0 0, .int .u8 0, .int .u8 0, .int .u8 0, .int .u8 0, .int .u8 0, .int .u8 0, .int .u8 0, .int .u8 0] : List Value).toArray) (by rfl)
  have HG9 := Qh hA.row; have HB9 := Qh (HB.out.grown hA.rest HB.out.size (by intro k hk; injection hk with hk; omega))
  clear hA
  generalize ((w.setCell ⟨g, 1, none⟩ (.int .u64 a)).setCell ⟨g, 6, none⟩ (.int .u64 b)) = w9 at HG9 HB9 ⊢
  have HF : Hid (∀ y, World.grownBy w9 y (some gz) → IntsK .u8 y da dn data → FrAt y (⟨5, a, 0, [], false, 0, b, 0, 0, 0, [], [0, 0, 0, 0, 0, 0, 0, 0]⟩ : Fr) (.slice none 0 0) (.slice none 0 0)) := Qh fun y hgy hIy => ⟨⟨by simp only; omega, by simp only [U64]; omega, by simp only [U64]; omega, by simp only [U64]; omega, by simp only [U64]; omega, by simp only [U64]; omega, by simp only [U64]; omega, by simp only [U64]; omega, rfl, (by intro x hx; simp only [List.mem_cons, List.not_mem_nil, or_false] at hx; rcases hx with rfl | rfl | rfl | rfl | rfl | rfl | rfl | rfl <;> rfl)⟩, ⟨none, 0, 0, rfl, Nat.le_refl _, by omega, IntsK.nil _ _ _⟩, ⟨none, 0, 0, rfl, Nat.le_refl _, by omega, RK.At.nil _ _⟩⟩
  exact HK.out _ _ _ _ _ _ _ _ _ _ _ _ _ _ _ _ _ _ _ _ _ _ _ _ _ _ _ _ _ _ _ _ _ _ _ _ _ _ _ _ _ _ _ _ _ _ _ _ _ _ _ _ _ _ _ _ _ _ _ _ _ _ _ _ _ _ _ _ _ _ _ _ _ _ _ _ _ _ _ _ _ _ _ _ _ _ _ _ _ _ _ _ _ _ _ _ _ _ _ _ (⟨5, a, 0, [], false, 0, b, 0, 0, 0, [], [0, 0, 0, 0, 0, 0, 0, 0]⟩ : Fr) _ _ _ HF rfl ((by simp [rightB, inB, atB]; try omega)) (KLoc.nil _ _ _) HG9 HB9
 ·
  obtain ⟨⟨⟨mo1, mo2⟩, mc1, mc2⟩, ⟨⟨mb1, mb2⟩, ma1, ma2⟩, ⟨ms1, ms2⟩, mq1, mq2⟩ := HM.out
  have hlt : (data.take (min dn 40)).length = min dn 40 := by rw [List.length_take, ← HD.out.1]; omega
  have HLT := Qh hlt
  clear hlt
  have x4 := row_cell (HX1.out _ HB.out) 4 _ rfl
  go_wp2_with fail
  clear x4
  refine Calls.mono (cut_any _ da dn dc 40 hdc hdm) ?_
  rintro e wq ⟨rfl, rfl⟩
  have c2 := row_cell HG.out 2 _ rfl; have f2 := row_free HG.out 2
  have c3 := row_cell HG.out 3 _ rfl; have f3 := row_free HG.out 3
  go_wp2_with fail
  clear c2 f2 c3 f3
  have hA := (((At.base HG.out).set 2 (.int .u64 (b % 1099511626776))).set 3 (.slice da (min dn 40) dc)).conv (cs' := ([.int .i64 6, .int .u64 0, .int .u64 (b % 1099511626776), .slice da (min dn 40) dc, .bool false, .int .u64 0, .int .u64 0, .int .u64 0, .int .u64 0, .int .u64 0, .slice none 0 0, .int .u8 0, .int .u8 0, .int .u8 0, .int .u8 0, .int .u8 0, .int .u8 0, .int .u8 0, .int .u8 0] : List Value).toArray) (by rfl)
  have HG9 := Qh hA.row; have HB9 := Qh (HB.out.grown hA.rest HB.out.size (by intro k hk; injection hk with hk; omega))
  clear hA
  generalize ((w.setCell ⟨g, 2, none⟩ (.int .u64 (b % 1099511626776))).setCell ⟨g, 3, none⟩ (.slice da (min dn 40) dc)) = w9 at HG9 HB9 ⊢
  have HF : Hid (∀ y, World.grownBy w9 y (some gz) → IntsK .u8 y da dn data → FrAt y (⟨6, 0, (b % 1099511626776), data.take (min dn 40), false, 0, 0, 0, 0, 0, [], [0, 0, 0, 0, 0, 0, 0, 0]⟩ : Fr) (.slice da (min dn 40) dc) (.slice none 0 0)) := Qh fun y hgy hIy => ⟨⟨by simp only; omega, by simp only [U64]; omega, by simp only [U64]; omega, by simp only [U64]; omega, by simp only [U64]; omega, by simp only [U64]; omega, by simp only [U64]; omega, by simp only [U64]; omega, rfl, (by intro x hx; simp only [List.mem_cons, List.not_mem_nil, or_false] at hx; rcases hx with rfl | rfl | rfl | rfl | rfl | rfl | rfl | rfl <;> rfl)⟩, ⟨_, _, _, rfl, by omega, hdm, hIy.pre (min dn 40) (by omega)⟩, ⟨none, 0, 0, rfl, Nat.le_refl _, by omega, RK.At.nil _ _⟩⟩
  exact HK.out _ _ _ _ _ _ _ _ _ _ _ _ _ _ _ _ _ _ _ _ _ _ _ _ _ _ _ _ _ _ _ _ _ _ _ _ _ _ _ _ _ _ _ _ _ _ _ _ _ _ _ _ _ _ _ _ _ _ _ _ _ _ _ _ _ _ _ _ _ _ _ _ _ _ _ _ _ _ _ _ _ _ _ _ _ _ _ _ _ _ _ _ _ _ _ _ _ _ _ _ (⟨6, 0, (b % 1099511626776), data.take (min dn 40), false, 0, 0, 0, 0, 0, [], [0, 0, 0, 0, 0, 0, 0, 0]⟩ : Fr) _ _ _ HF rfl ((by simp only [rightB]; simp [inB, atB, HLT.out]; omega)) (KLoc.data _ _ _ _ _ (Nat.min_le_left _ _)) HG9 HB9
 ·
  have hlt : (data.take (min dn 40)).length = min dn 40 := by rw [List.length_take, ← HD.out.1]; omega
  have HLT := Qh hlt
  clear hlt
  have g4 : ∀ z : In (fun y => Below w0.heap.size w0 y), z.w.cell? ⟨gx, 4, none⟩ = some (.slice da dn dc) := fun z => row_cell (HX1.out _ z.h) 4 _ rfl
  have g5 : ∀ z : In (fun y => Below w0.heap.size w0 y), z.w.cell? ⟨gx, 5, none⟩ = some (.bool xf) := fun z => row_cell (HX1.out _ z.h) 5 _ rfl
  obtain ⟨⟨⟨mo1, mo2⟩, mc1, mc2⟩, ⟨⟨mb1, mb2⟩, ma1, ma2⟩, ⟨ms1, ms2⟩, mq1, mq2⟩ := HM.out
  go_upto_region 14 with fail
  refine wp_plan (.t 0 (.t 1 (.t 2 (.t 3 (.t 4 (.t 6 (.t 7 (.t 8 (.u 5 (.u 9 (.t 10 (.u 11 (.t 12 (.u 13 (.t 14 (.u 15 .done)))))))))))))))) (fun y => Below w0.heap.size w0 y) (by kernel_rfl) (by kernel_rfl) (by kernel_rfl) (fun c a d v w h => by first | (cases d <;> exact h) | exact HKP.out c a d v w h) (bl_next HB.out HB.out.size (Below.refl w.heap.size w).drew) ?_
  have HB1 := Qh (bl_next HB.out HB.out.size (Below.refl w.heap.size w).drew)
  have HG1 : Hid (w.drew.heap[g]? = _) := Qh HG.out
  generalize w.drew = w1 at HB1 HG1 ⊢
  haveI hne : Nonempty (In (fun y => Below w0.heap.size w0 y)) := ⟨⟨w1, HB1.out⟩⟩
  repeat (refine plan_t (by rfl) ?_; (first | go_big_quiet_skip | (go_big_quiet_want; go_big_quiet_op; go_big_quiet_on)); refine wpQuiet_nil ?_)
  clear g4 g5
  refine plan_us (by rfl) (by kernel_rfl) ?_
  intro K hK
  go_wp2_with fail
  refine Calls.mono (cut_any _ da dn dc 40 hdc hdm) ?_
  rintro e wq ⟨rfl, rfl⟩
  go_wp2_with fail
  refine ⟨HB1.out, ?_⟩
  repeat (refine plan_t (by rfl) ?_; (first | go_big_quiet_skip | (go_big_quiet_want; go_big_quiet_op; go_big_quiet_on)); refine wpQuiet_nil ?_)
  refine plan_us (by rfl) (by kernel_rfl) ?_
  intro K hK
  have c1 := row_cell HG1.out 1 _ rfl; have f1 := row_free HG1.out 1
  go_wp2_with fail
  clear c1 f1
  have hA := ((At.base HG1.out).set 1 (.int .u64 a)).conv (cs' := ([.int .i64 8, .int .u64 a, .int .u64 0, .slice none 0 0, .bool false, .int .u64 0, .int .u64 0, .int .u64 0, .int .u64 0, .int .u64 0, .slice none 0 0, .int .u8 0, .int .u8 0, .int .u8 0, .int .u8 0, .int .u8 0, .int .u8 0, .int .u8 0, .int .u8 0] : List Value).toArray) (by rfl)
  have HG2 := Qh hA.row; have HB2 := Qh (HB1.out.grown hA.rest HB1.out.size (by intro k hk; injection hk with hk; omega))
  refine ⟨HB2.out, ?_⟩
  clear hA HG1 HB1
  generalize w1.setCell ⟨g, 1, none⟩ (.int .u64 a) = w2 at HG2 HB2 ⊢
  repeat (refine plan_t (by rfl) ?_; (first | go_big_quiet_skip | (go_big_quiet_want; go_big_quiet_op; go_big_quiet_on)); refine wpQuiet_nil ?_)
  refine plan_us (by rfl) (by kernel_rfl) ?_
  intro K hK
  have c2 := row_cell HG2.out 2 _ rfl; have f2 := row_free HG2.out 2
  go_wp2_with fail
  clear c2 f2
  have hA := ((At.base HG2.out).set 2 (.int .u64 (b % 1099511626776))).conv (cs' := ([.int .i64 8, .int .u64 a, .int .u64 (b % 1099511626776), .slice none 0 0, .bool false, .int .u64 0, .int .u64 0, .int .u64 0, .int .u64 0, .int .u64 0, .slice none 0 0, .int .u8 0, .int .u8 0, .int .u8 0, .int .u8 0, .int .u8 0, .int .u8 0, .int .u8 0, .int .u8 0] : List Value).toArray) (by rfl)
  have HG3 := Qh hA.row; have HB3 := Qh (HB2.out.grown hA.rest HB2.out.size (by intro k hk; injection hk with hk; omega))
  refine ⟨HB3.out, ?_⟩
  clear hA HG2 HB2
  generalize w2.setCell ⟨g, 2, none⟩ (.int .u64 (b % 1099511626776)) = w3 at HG3 HB3 ⊢
  repeat (refine plan_t (by rfl) ?_; (first | go_big_quiet_skip | (go_big_quiet_want; go_big_quiet_op; go_big_quiet_on)); refine wpQuiet_nil ?_)
  refine plan_us (by rfl) (by kernel_rfl) ?_
  intro K hK
  have c3 := row_cell HG3.out 3 _ rfl; have f3 := row_free HG3.out 3
  go_wp2_with fail
  clear c3 f3
  have hA := ((At.base HG3.out).set 3 (.slice da (min dn 40) dc)).conv (cs' := ([.int .i64 8, .int .u64 a, .int .u64 (b % 1099511626776), .slice da (min dn 40) dc, .bool false, .int .u64 0, .int .u64 0, .int .u64 0, .int .u64 0, .int .u64 0, .slice none 0 0, .int .u8 0, .int .u8 0, .int .u8 0, .int .u8 0, .int .u8 0, .int .u8 0, .int .u8 0, .int .u8 0] : List Value).toArray) (by rfl)
  have HG4 := Qh hA.row; have HB4 := Qh (HB3.out.grown hA.rest HB3.out.size (by intro k hk; injection hk with hk; omega))
  refine ⟨HB4.out, ?_⟩
  clear hA HG3 HB3
  generalize w3.setCell ⟨g, 3, none⟩ (.slice da (min dn 40) dc) = w4 at HG4 HB4 ⊢
  repeat (refine plan_t (by rfl) ?_; (first | go_big_quiet_skip | (go_big_quiet_want; go_big_quiet_op; go_big_quiet_on)); refine wpQuiet_nil ?_)
  refine plan_us (by rfl) (by kernel_rfl) ?_
  intro K hK
  have c4 := row_cell HG4.out 4 _ rfl; have f4 := row_free HG4.out 4
  go_wp2_with fail
  clear c4 f4
  have hA := ((At.base HG4.out).set 4 (.bool xf)).conv (cs' := ([.int .i64 8, .int .u64 a, .int .u64 (b % 1099511626776), .slice da (min dn 40) dc, .bool xf, .int .u64 0, .int .u64 0, .int .u64 0, .int .u64 0, .int .u64 0, .slice none 0 0, .int .u8 0, .int .u8 0, .int .u8 0, .int .u8 0, .int .u8 0, .int .u8 0, .int .u8 0, .int .u8 0] : List Value).toArray) (by rfl)
  have HG5 := Qh hA.row; have HB5 := Qh (HB4.out.grown hA.rest HB4.out.size (by intro k hk; injection hk with hk; omega))
  refine ⟨HB5.out, ?_⟩
  clear hA HG4 HB4
  generalize w4.setCell ⟨g, 4, none⟩ (.bool xf) = w5 at HG5 HB5 ⊢
  clear hne
  show Exit.inBlock _ _ _ _ _
  simp only [Exit.inBlock]
  have HF : Hid (∀ y, World.grownBy w5 y (some gz) → IntsK .u8 y da dn data → FrAt y (⟨8, a, (b % 1099511626776), data.take (min dn 40), xf, 0, 0, 0, 0, 0, [], [0, 0, 0, 0, 0, 0, 0, 0]⟩ : Fr) (.slice da (min dn 40) dc) (.slice none 0 0)) := Qh fun y hgy hIy => ⟨⟨by simp only; omega, by simp only [U64]; omega, by simp only [U64]; omega, by simp only [U64]; omega, by simp only [U64]; omega, by simp only [U64]; omega, by simp only [U64]; omega, by simp only [U64]; omega, rfl, (by intro x hx; simp only [List.mem_cons, List.not_mem_nil, or_false] at hx; rcases hx with rfl | rfl | rfl | rfl | rfl | rfl | rfl | rfl <;> rfl)⟩, ⟨_, _, _, rfl, by omega, hdm, hIy.pre (min dn 40) (by omega)⟩, ⟨none, 0, 0, rfl, Nat.le_refl _, by omega, RK.At.nil _ _⟩⟩
  exact HK.out _ _ _ _ _ _ _ _ _ _ _ _ _ _ _ _ _ _ _ _ _ _ _ _ _ _ _ _ _ _ _ _ _ _ _ _ _ _ _ _ _ _ _ _ _ _ _ _ _ _ _ _ _ _ _ _ _ _ _ _ _ _ _ _ _ _ _ _ _ _ _ _ _ _ _ _ _ _ _ _ _ _ _ _ _ _ _ _ _ _ _ _ _ _ _ _ _ _ _ _ (⟨8, a, (b % 1099511626776), data.take (min dn 40), xf, 0, 0, 0, 0, 0, [], [0, 0, 0, 0, 0, 0, 0, 0]⟩ : Fr) _ _ _ HF rfl ((by simp only [rightB]; simp [inB, atB, HLT.out]; omega)) (KLoc.data _ _ _ _ _ (Nat.min_le_left _ _)) HG5 HB5
 ·
  obtain ⟨⟨⟨mo1, mo2⟩, mc1, mc2⟩, ⟨⟨mb1, mb2⟩, ma1, ma2⟩, ⟨ms1, ms2⟩, mq1, mq2⟩ := HM.out
  have c5 := row_cell HG.out 5 _ rfl; have f5 := row_free HG.out 5
  go_wp2_with fail
  clear c5 f5
  have hA := ((At.base HG.out).set 5 (.int .u64 (a % 1099511627777))).conv (cs' := ([.int .i64 16, .int .u64 0, .int .u64 0, .slice none 0 0, .bool false, .int .u64 (a % 1099511627777), .int .u64 0, .int .u64 0, .int .u64 0, .int .u64 0, .slice none 0 0, .int .u8 0, .int .u8 0, .int .u8 0, .int .u8 0, .int .u8 0, .int .u8 0, .int .u8 0, .int .u8 0] : List Value).toArray) (by rfl)
  have HG9 := Qh hA.row; have HB9 := Qh (HB.out.grown hA.rest HB.out.size (by intro k hk; injection hk with hk; omega))
  clear hA
  generalize (w.setCell ⟨g, 5, none⟩ (.int .u64 (a % 1099511627777))) = w9 at HG9 HB9 ⊢
  have HF : Hid (∀ y, World.grownBy w9 y (some gz) → IntsK .u8 y da dn data → FrAt y (⟨16, 0, 0, [], false, (a % 1099511627777), 0, 0, 0, 0, [], [0, 0, 0, 0, 0, 0, 0, 0]⟩ : Fr) (.slice none 0 0) (.slice none 0 0)) := Qh fun y hgy hIy => ⟨⟨by simp only; omega, by simp only [U64]; omega, by simp only [U64]; omega, by simp only [U64]; omega, by simp only [U64]; omega, by simp only [U64]; omega, by simp only [U64]; omega, by simp only [U64]; omega, rfl, (by intro x hx; simp only [List.mem_cons, List.not_mem_nil, or_false] at hx; rcases hx with rfl | rfl | rfl | rfl | rfl | rfl | rfl | rfl <;> rfl)⟩, ⟨none, 0, 0, rfl, Nat.le_refl _, by omega, IntsK.nil _ _ _⟩, ⟨none, 0, 0, rfl, Nat.le_refl _, by omega, RK.At.nil _ _⟩⟩
  exact HK.out _ _ _ _ _ _ _ _ _ _ _ _ _ _ _ _ _ _ _ _ _ _ _ _ _ _ _ _ _ _ _ _ _ _ _ _ _ _ _ _ _ _ _ _ _ _ _ _ _ _ _ _ _ _ _ _ _ _ _ _ _ _ _ _ _ _ _ _ _ _ _ _ _ _ _ _ _ _ _ _ _ _ _ _ _ _ _ _ _ _ _ _ _ _ _ _ _ _ _ _ (⟨16, 0, 0, [], false, (a % 1099511627777), 0, 0, 0, 0, [], [0, 0, 0, 0, 0, 0, 0, 0]⟩ : Fr) _ _ _ HF rfl ((by simp [rightB, inB, atB]; try omega)) (KLoc.nil _ _ _) HG9 HB9
 ·
  obtain ⟨⟨⟨mo1, mo2⟩, mc1, mc2⟩, ⟨⟨mb1, mb2⟩, ma1, ma2⟩, ⟨ms1, ms2⟩, mq1, mq2⟩ := HM.out
  have c1 := row_cell HG.out 1 _ rfl; have f1 := row_free HG.out 1
  have c5 := row_cell HG.out 5 _ rfl; have f5 := row_free HG.out 5
  go_wp2_with fail
  clear c1 f1 c5 f5
  have hA := (((At.base HG.out).set 1 (.int .u64 a)).set 5 (.int .u64 (b % 1099511627777))).conv (cs' := ([.int .i64 17, .int .u64 a, .int .u64 0, .slice none 0 0, .bool false, .int .u64 (b % 1099511627777), .int .u64 0, .int .u64 0, .int .u64 0, .int .u64 0, .slice none 0 0, .int .u8 0, .int .u8 0, .int .u8 0, .int .u8 0, .int .u8 0, .int .u8 0, .int .u8 0, .int .u8 0] : List Value).toArray) (by rfl)
  have HG9 := Qh hA.row; have HB9 := Qh (HB.out.grown hA.rest HB.out.size (by intro k hk; injection hk with hk; omega))
  clear hA
  generalize ((w.setCell ⟨g, 1, none⟩ (.int .u64 a)).setCell ⟨g, 5, none⟩ (.int .u64 (b % 1099511627777))) = w9 at HG9 HB9 ⊢
  have HF : Hid (∀ y, World.grownBy w9 y (some gz) → IntsK .u8 y da dn data → FrAt y (⟨17, a, 0, [], false, (b % 1099511627777), 0, 0, 0, 0, [], [0, 0, 0, 0, 0, 0, 0, 0]⟩ : Fr) (.slice none 0 0) (.slice none 0 0)) := Qh fun y hgy hIy => ⟨⟨by simp only; omega, by simp only [U64]; omega, by simp only [U64]; omega, by simp only [U64]; omega, by simp only [U64]; omega, by simp only [U64]; omega, by simp only [U64]; omega, by simp only [U64]; omega, rfl, (by intro x hx; simp only [List.mem_cons, List.not_mem_nil, or_false] at hx; rcases hx with rfl | rfl | rfl | rfl | rfl | rfl | rfl | rfl <;> rfl)⟩, ⟨none, 0, 0, rfl, Nat.le_refl _, by omega, IntsK.nil _ _ _⟩, ⟨none, 0, 0, rfl, Nat.le_refl _, by omega, RK.At.nil _ _⟩⟩
  exact HK.out _ _ _ _ _ _ _ _ _ _ _ _ _ _ _ _ _ _ _ _ _ _ _ _ _ _ _ _ _ _ _ _ _ _ _ _ _ _ _ _ _ _ _ _ _ _ _ _ _ _ _ _ _ _ _ _ _ _ _ _ _ _ _ _ _ _ _ _ _ _ _ _ _ _ _ _ _ _ _ _ _ _ _ _ _ _ _ _ _ _ _ _ _ _ _ _ _ _ _ _ (⟨17, a, 0, [], false, (b % 1099511627777), 0, 0, 0, 0, [], [0, 0, 0, 0, 0, 0, 0, 0]⟩ : Fr) _ _ _ HF rfl ((by simp [rightB, inB, atB]; try omega)) (KLoc.nil _ _ _) HG9 HB9
 ·
  obtain ⟨⟨⟨mo1, mo2⟩, mc1, mc2⟩, ⟨⟨mb1, mb2⟩, ma1, ma2⟩, ⟨ms1, ms2⟩, mq1, mq2⟩ := HM.out
  have c5 := row_cell HG.out 5 _ rfl; have f5 := row_free HG.out 5
  go_wp2_with fail
  clear c5 f5
  have hA := ((At.base HG.out).set 5 (.int .u64 (a % 1048577))).conv (cs' := ([.int .i64 18, .int .u64 0, .int .u64 0, .slice none 0 0, .bool false, .int .u64 (a % 1048577), .int .u64 0, .int .u64 0, .int .u64 0, .int .u64 0, .slice none 0 0, .int .u8 0, .int .u8 0, .int .u8 0, .int .u8 0, .int .u8 0, .int .u8 0, .int .u8 0, .int .u8 0] : List Value).toArray) (by rfl)
  have HG9 := Qh hA.row; have HB9 := Qh (HB.out.grown hA.rest HB.out.size (by intro k hk; injection hk with hk; omega))
  clear hA
  generalize (w.setCell ⟨g, 5, none⟩ (.int .u64 (a % 1048577))) = w9 at HG9 HB9 ⊢
  have HF : Hid (∀ y, World.grownBy w9 y (some gz) → IntsK .u8 y da dn data → FrAt y (⟨18, 0, 0, [], false, (a % 1048577), 0, 0, 0, 0, [], [0, 0, 0, 0, 0, 0, 0, 0]⟩ : Fr) (.slice none 0 0) (.slice none 0 0)) := Qh fun y hgy hIy => ⟨⟨by simp only; omega, by simp only [U64]; omega, by simp only [U64]; omega, by simp only [U64]; omega, by simp only [U64]; omega, by simp only [U64]; omega, by simp only [U64]; omega, by simp only [U64]; omega, rfl, (by intro x hx; simp only [List.mem_cons, List.not_mem_nil, or_false] at hx; rcases hx with rfl | rfl | rfl | rfl | rfl | rfl | rfl | rfl <;> rfl)⟩, ⟨none, 0, 0, rfl, Nat.le_refl _, by omega, IntsK.nil _ _ _⟩, ⟨none, 0, 0, rfl, Nat.le_refl _, by omega, RK.At.nil _ _⟩⟩
  exact HK.out _ _ _ _ _ _ _ _ _ _ _ _ _ _ _ _ _ _ _ _ _ _ _ _ _ _ _ _ _ _ _ _ _ _ _ _ _ _ _ _ _ _ _ _ _ _ _ _ _ _ _ _ _ _ _ _ _ _ _ _ _ _ _ _ _ _ _ _ _ _ _ _ _ _ _ _ _ _ _ _ _ _ _ _ _ _ _ _ _ _ _ _ _ _ _ _ _ _ _ _ (⟨18, 0, 0, [], false, (a % 1048577), 0, 0, 0, 0, [], [0, 0, 0, 0, 0, 0, 0, 0]⟩ : Fr) _ _ _ HF rfl ((by simp [rightB, inB, atB]; try omega)) (KLoc.nil _ _ _) HG9 HB9
 ·
  obtain ⟨⟨⟨mo1, mo2⟩, mc1, mc2⟩, ⟨⟨mb1, mb2⟩, ma1, ma2⟩, ⟨ms1, ms2⟩, mq1, mq2⟩ := HM.out
  have c5 := row_cell HG.out 5 _ rfl; have f5 := row_free HG.out 5
  go_wp2_with fail
  clear c5 f5
  have hA := ((At.base HG.out).set 5 (.int .u64 a)).conv (cs' := ([.int .i64 20, .int .u64 0, .int .u64 0, .slice none 0 0, .bool false, .int .u64 a, .int .u64 0, .int .u64 0, .int .u64 0, .int .u64 0, .slice none 0 0, .int .u8 0, .int .u8 0, .int .u8 0, .int .u8 0, .int .u8 0, .int .u8 0, .int .u8 0, .int .u8 0] : List Value).toArray) (by rfl)
  have HG9 := Qh hA.row; have HB9 := Qh (HB.out.grown hA.rest HB.out.size (by intro k hk; injection hk with hk; omega))
  clear hA
  generalize (w.setCell ⟨g, 5, none⟩ (.int .u64 a)) = w9 at HG9 HB9 ⊢
  have HF : Hid (∀ y, World.grownBy w9 y (some gz) → IntsK .u8 y da dn data → FrAt y (⟨20, 0, 0, [], false, a, 0, 0, 0, 0, [], [0, 0, 0, 0, 0, 0, 0, 0]⟩ : Fr) (.slice none 0 0) (.slice none 0 0)) := Qh fun y hgy hIy => ⟨⟨by simp only; omega, by simp only [U64]; omega, by simp only [U64]; omega, by simp only [U64]; omega, by simp only [U64]; omega, by simp only [U64]; omega, by simp only [U64]; omega, by simp only [U64]; omega, rfl, (by intro x hx; simp only [List.mem_cons, List.not_mem_nil, or_false] at hx; rcases hx with rfl | rfl | rfl | rfl | rfl | rfl | rfl | rfl <;> rfl)⟩, ⟨none, 0, 0, rfl, Nat.le_refl _, by omega, IntsK.nil _ _ _⟩, ⟨none, 0, 0, rfl, Nat.le_refl _, by omega, RK.At.nil _ _⟩⟩
  exact HK.out _ _ _ _ _ _ _ _ _ _ _ _ _ _ _ _ _ _ _ _ _ _ _ _ _ _ _ _ _ _ _ _ _ _ _ _ _ _ _ _ _ _ _ _ _ _ _ _ _ _ _ _ _ _ _ _ _ _ _ _ _ _ _ _ _ _ _ _ _ _ _ _ _ _ _ _ _ _ _ _ _ _ _ _ _ _ _ _ _ _ _ _ _ _ _ _ _ _ _ _ (⟨20, 0, 0, [], false, a, 0, 0, 0, 0, [], [0, 0, 0, 0, 0, 0, 0, 0]⟩ : Fr) _ _ _ HF rfl ((by simp [rightB, inB, atB]; try omega)) (KLoc.nil _ _ _) HG9 HB9
 ·
  obtain ⟨⟨⟨mo1, mo2⟩, mc1, mc2⟩, ⟨⟨mb1, mb2⟩, ma1, ma2⟩, ⟨ms1, ms2⟩, mq1, mq2⟩ := HM.out
  have x7 := row_cell (HX1.out _ HB.out) 7 _ rfl
  by_cases hab : a ≤ b
  ·
   have hxx : ¬ b < a := by omega
   go_wp2_with fail
   clear x7
   refine Calls.mono (Kc.kcid_any _ xn hn) ?_
   rintro e w1 ⟨rfl, hb⟩
   replace HG := Qh (bl_row hb (lt_of_block HG.out) HG.out); replace HB := Qh (bl_next HB.out HB.out.size hb)
   clear hb
   have HCW := Qh (Kc.cidM_wf xn)
   rw [kcells] at *
   have hwi := within_in xn 0 1048576 (by omega)
   obtain ⟨nn, hnn⟩ : ∃ nn, within xn 0 1048576 % 5 = nn := ⟨_, rfl⟩
   rw [hnn]
   have HNN := Qh hnn
   clear hnn
   have c8 := row_cell HG.out 8 _ rfl; have f8 := row_free HG.out 8
   have c5 := row_cell HG.out 5 _ rfl; have f5 := row_free HG.out 5
   have hA := (((At.base HG.out).set 8 (.int .u64 a)).set 5 (.int .u64 a)).conv (cs' := ([.int .i64 24, .int .u64 0, .int .u64 0, .slice none 0 0, .bool false, .int .u64 a, .int .u64 0, .int .u64 0, .int .u64 a, .int .u64 0, .slice none 0 0, .int .u8 0, .int .u8 0, .int .u8 0, .int .u8 0, .int .u8 0, .int .u8 0, .int .u8 0, .int .u8 0] : List Value).toArray) (by rfl)
   have HG8 := Qh hA.row; have HB8 := Qh (HB.out.grown hA.rest HB.out.size (by intro k hk; injection hk with hk; omega))
   clear hA
   go_wp2_with (first | (refine wpList_store_part rfl 37 _ _ rfl g 11 rfl [.int .u8 1, .int .u8 nn, .int .u8 7, .int .u8 0, .int .u8 0, .int .u8 0, .int .u8 0, .int .u8 0] _ (([.int .i64 24, .int .u64 0, .int .u64 0, .slice none 0 0, .bool false, .int .u64 a, .int .u64 0, .int .u64 0, .int .u64 a, .int .u64 0, .slice none 0 0, .int .u8 0, .int .u8 0, .int .u8 0, .int .u8 0, .int .u8 0, .int .u8 0, .int .u8 0, .int .u8 0] : List Value).take 11) ((([.int .i64 24, .int .u64 0, .int .u64 0, .slice none 0 0, .bool false, .int .u64 a, .int .u64 0, .int .u64 0, .int .u64 a, .int .u64 0, .slice none 0 0, .int .u8 0, .int .u8 0, .int .u8 0, .int .u8 0, .int .u8 0, .int .u8 0, .int .u8 0, .int .u8 0] : List Value).drop 11).take 8) (([.int .i64 24, .int .u64 0, .int .u64 0, .slice none 0 0, .bool false, .int .u64 a, .int .u64 0, .int .u64 0, .int .u64 a, .int .u64 0, .slice none 0 0, .int .u8 0, .int .u8 0, .int .u8 0, .int .u8 0, .int .u8 0, .int .u8 0, .int .u8 0, .int .u8 0] : List Value).drop 19) rfl HG8.out rfl rfl rfl (by intro v hv; simp only [List.mem_cons, List.not_mem_nil, or_false] at hv; rcases hv with rfl | rfl | rfl | rfl | rfl | rfl | rfl | rfl <;> rfl) ?_; intro w9 hrp hgp; have HG9 := Qh hrp; have HB9 := Qh (HB8.out.grown hgp HB8.out.size (by intro k hk; injection hk with hk; omega)); clear hrp hgp) | fail)
   have HF : Hid (∀ y, World.grownBy w9 y (some gz) → IntsK .u8 y da dn data → FrAt y (⟨24, 0, 0, [], false, a, 0, 0, a, 0, [], [1, nn, 7, 0, 0, 0, 0, 0]⟩ : Fr) (.slice none 0 0) (.slice none 0 0)) := Qh fun y hgy hIy => ⟨⟨by simp only; omega, by simp only [U64]; omega, by simp only [U64]; omega, by simp only [U64]; omega, by simp only [U64]; omega, by simp only [U64]; omega, by simp only [U64]; omega, by simp only [U64]; omega, rfl, (by rw [← HNN.out]; exact HCW.out)⟩, ⟨none, 0, 0, rfl, Nat.le_refl _, by omega, IntsK.nil _ _ _⟩, ⟨none, 0, 0, rfl, Nat.le_refl _, by omega, RK.At.nil _ _⟩⟩
   exact HK.out _ _ _ _ _ _ _ _ _ _ _ _ _ _ _ _ _ _ _ _ _ _ _ _ _ _ _ _ _ _ _ _ _ _ _ _ _ _ _ _ _ _ _ _ _ _ _ _ _ _ _ _ _ _ _ _ _ _ _ _ _ _ _ _ _ _ _ _ _ _ _ _ _ _ _ _ _ _ _ _ _ _ _ _ _ _ _ _ _ _ _ _ _ _ _ _ _ _ _ _ (⟨24, 0, 0, [], false, a, 0, 0, a, 0, [], [1, nn, 7, 0, 0, 0, 0, 0]⟩ : Fr) _ _ _ HF rfl ((by simp [rightB, inB]; omega)) (KLoc.nil _ _ _) HG9 HB9
  ·
   have hxx : b < a := by omega
   go_wp2_with fail
   clear x7
   refine Calls.mono (Kc.kcid_any _ xn hn) ?_
   rintro e w1 ⟨rfl, hb⟩
   replace HG := Qh (bl_row hb (lt_of_block HG.out) HG.out); replace HB := Qh (bl_next HB.out HB.out.size hb)
   clear hb
   have HCW := Qh (Kc.cidM_wf xn)
   rw [kcells] at *
   have hwi := within_in xn 0 1048576 (by omega)
   obtain ⟨nn, hnn⟩ : ∃ nn, within xn 0 1048576 % 5 = nn := ⟨_, rfl⟩
   rw [hnn]
   have HNN := Qh hnn
   clear hnn
   have c8 := row_cell HG.out 8 _ rfl; have f8 := row_free HG.out 8
   have c5 := row_cell HG.out 5 _ rfl; have f5 := row_free HG.out 5
   have hA := (((At.base HG.out).set 8 (.int .u64 a)).set 5 (.int .u64 b)).conv (cs' := ([.int .i64 24, .int .u64 0, .int .u64 0, .slice none 0 0, .bool false, .int .u64 b, .int .u64 0, .int .u64 0, .int .u64 a, .int .u64 0, .slice none 0 0, .int .u8 0, .int .u8 0, .int .u8 0, .int .u8 0, .int .u8 0, .int .u8 0, .int .u8 0, .int .u8 0] : List Value).toArray) (by rfl)
   have HG8 := Qh hA.row; have HB8 := Qh (HB.out.grown hA.rest HB.out.size (by intro k hk; injection hk with hk; omega))
   clear hA
   go_wp2_with (first | (refine wpList_store_part rfl 37 _ _ rfl g 11 rfl [.int .u8 1, .int .u8 nn, .int .u8 7, .int .u8 0, .int .u8 0, .int .u8 0, .int .u8 0, .int .u8 0] _ (([.int .i64 24, .int .u64 0, .int .u64 0, .slice none 0 0, .bool false, .int .u64 b, .int .u64 0, .int .u64 0, .int .u64 a, .int .u64 0, .slice none 0 0, .int .u8 0, .int .u8 0, .int .u8 0, .int .u8 0, .int .u8 0, .int .u8 0, .int .u8 0, .int .u8 0] : List Value).take 11) ((([.int .i64 24, .int .u64 0, .int .u64 0, .slice none 0 0, .bool false, .int .u64 b, .int .u64 0, .int .u64 0, .int .u64 a, .int .u64 0, .slice none 0 0, .int .u8 0, .int .u8 0, .int .u8 0, .int .u8 0, .int .u8 0, .int .u8 0, .int .u8 0, .int .u8 0] : List Value).drop 11).take 8) (([.int .i64 24, .int .u64 0, .int .u64 0, .slice none 0 0, .bool false, .int .u64 b, .int .u64 0, .int .u64 0, .int .u64 a, .int .u64 0, .slice none 0 0, .int .u8 0, .int .u8 0, .int .u8 0, .int .u8 0, .int .u8 0, .int .u8 0, .int .u8 0, .int .u8 0] : List Value).drop 19) rfl HG8.out rfl rfl rfl (by intro v hv; simp only [List.mem_cons, List.not_mem_nil, or_false] at hv; rcases hv with rfl | rfl | rfl | rfl | rfl | rfl | rfl | rfl <;> rfl) ?_; intro w9 hrp hgp; have HG9 := Qh hrp; have HB9 := Qh (HB8.out.grown hgp HB8.out.size (by intro k hk; injection hk with hk; omega)); clear hrp hgp) | fail)
   have HF : Hid (∀ y, World.grownBy w9 y (some gz) → IntsK .u8 y da dn data → FrAt y (⟨24, 0, 0, [], false, b, 0, 0, a, 0, [], [1, nn, 7, 0, 0, 0, 0, 0]⟩ : Fr) (.slice none 0 0) (.slice none 0 0)) := Qh fun y hgy hIy => ⟨⟨by simp only; omega, by simp only [U64]; omega, by simp only [U64]; omega, by simp only [U64]; omega, by simp only [U64]; omega, by simp only [U64]; omega, by simp only [U64]; omega, by simp only [U64]; omega, rfl, (by rw [← HNN.out]; exact HCW.out)⟩, ⟨none, 0, 0, rfl, Nat.le_refl _, by omega, IntsK.nil _ _ _⟩, ⟨none, 0, 0, rfl, Nat.le_refl _, by omega, RK.At.nil _ _⟩⟩
   exact HK.out _ _ _ _ _ _ _ _ _ _ _ _ _ _ _ _ _ _ _ _ _ _ _ _ _ _ _ _ _ _ _ _ _ _ _ _ _ _ _ _ _ _ _ _ _ _ _ _ _ _ _ _ _ _ _ _ _ _ _ _ _ _ _ _ _ _ _ _ _ _ _ _ _ _ _ _ _ _ _ _ _ _ _ _ _ _ _ _ _ _ _ _ _ _ _ _ _ _ _ _ (⟨24, 0, 0, [], false, b, 0, 0, a, 0, [], [1, nn, 7, 0, 0, 0, 0, 0]⟩ : Fr) _ _ _ HF rfl ((by simp [rightB, inB]; omega)) (KLoc.nil _ _ _) HG9 HB9
 ·
  obtain ⟨⟨⟨mo1, mo2⟩, mc1, mc2⟩, ⟨⟨mb1, mb2⟩, ma1, ma2⟩, ⟨ms1, ms2⟩, mq1, mq2⟩ := HM.out
  have c8 := row_cell HG.out 8 _ rfl; have f8 := row_free HG.out 8
  go_wp2_with fail
  clear c8 f8
  have hA := ((At.base HG.out).set 8 (.int .u64 a)).conv (cs' := ([.int .i64 25, .int .u64 0, .int .u64 0, .slice none 0 0, .bool false, .int .u64 0, .int .u64 0, .int .u64 0, .int .u64 a, .int .u64 0, .slice none 0 0, .int .u8 0, .int .u8 0, .int .u8 0, .int .u8 0, .int .u8 0, .int .u8 0, .int .u8 0, .int .u8 0] : List Value).toArray) (by rfl)
  have HG9 := Qh hA.row; have HB9 := Qh (HB.out.grown hA.rest HB.out.size (by intro k hk; injection hk with hk; omega))
  clear hA
  generalize (w.setCell ⟨g, 8, none⟩ (.int .u64 a)) = w9 at HG9 HB9 ⊢
  have HF : Hid (∀ y, World.grownBy w9 y (some gz) → IntsK .u8 y da dn data → FrAt y (⟨25, 0, 0, [], false, 0, 0, 0, a, 0, [], [0, 0, 0, 0, 0, 0, 0, 0]⟩ : Fr) (.slice none 0 0) (.slice none 0 0)) := Qh fun y hgy hIy => ⟨⟨by simp only; omega, by simp only [U64]; omega, by simp only [U64]; omega, by simp only [U64]; omega, by simp only [U64]; omega, by simp only [U64]; omega, by simp only [U64]; omega, by simp only [U64]; omega, rfl, (by intro x hx; simp only [List.mem_cons, List.not_mem_nil, or_false] at hx; rcases hx with rfl | rfl | rfl | rfl | rfl | rfl | rfl | rfl <;> rfl)⟩, ⟨none, 0, 0, rfl, Nat.le_refl _, by omega, IntsK.nil _ _ _⟩, ⟨none, 0, 0, rfl, Nat.le_refl _, by omega, RK.At.nil _ _⟩⟩
  exact HK.out _ _ _ _ _ _ _ _ _ _ _ _ _ _ _ _ _ _ _ _ _ _ _ _ _ _ _ _ _ _ _ _ _ _ _ _ _ _ _ _ _ _ _ _ _ _ _ _ _ _ _ _ _ _ _ _ _ _ _ _ _ _ _ _ _ _ _ _ _ _ _ _ _ _ _ _ _ _ _ _ _ _ _ _ _ _ _ _ _ _ _ _ _ _ _ _ _ _ _ _ (⟨25, 0, 0, [], false, 0, 0, 0, a, 0, [], [0, 0, 0, 0, 0, 0, 0, 0]⟩ : Fr) _ _ _ HF rfl ((by simp [rightB, inB, atB]; try omega)) (KLoc.nil _ _ _) HG9 HB9
 ·
  have x7 := row_cell (HX1.out _ HB.out) 7 _ rfl
  go_wp2_with fail
  clear x7
  refine Calls.mono (Kc.kcid_any _ xn hn) ?_
  rintro e w1 ⟨rfl, hb⟩
  replace HG := Qh (bl_row hb (lt_of_block HG.out) HG.out); replace HB := Qh (bl_next HB.out HB.out.size hb)
  clear hb
  have HCW := Qh (Kc.cidM_wf xn)
  rw [kcells] at *
  have hwi := within_in xn 0 1048576 (by omega)
  obtain ⟨nn, hnn⟩ : ∃ nn, within xn 0 1048576 % 5 = nn := ⟨_, rfl⟩
  rw [hnn]
  have HNN := Qh hnn
  clear hnn
  go_wp2_with (first | (refine wpList_store_part rfl 37 _ _ rfl g 11 rfl [.int .u8 1, .int .u8 nn, .int .u8 7, .int .u8 0, .int .u8 0, .int .u8 0, .int .u8 0, .int .u8 0] _ (([.int .i64 26, .int .u64 0, .int .u64 0, .slice none 0 0, .bool false, .int .u64 0, .int .u64 0, .int .u64 0, .int .u64 0, .int .u64 0, .slice none 0 0, .int .u8 0, .int .u8 0, .int .u8 0, .int .u8 0, .int .u8 0, .int .u8 0, .int .u8 0, .int .u8 0] : List Value).take 11) ((([.int .i64 26, .int .u64 0, .int .u64 0, .slice none 0 0, .bool false, .int .u64 0, .int .u64 0, .int .u64 0, .int .u64 0, .int .u64 0, .slice none 0 0, .int .u8 0, .int .u8 0, .int .u8 0, .int .u8 0, .int .u8 0, .int .u8 0, .int .u8 0, .int .u8 0] : List Value).drop 11).take 8) (([.int .i64 26, .int .u64 0, .int .u64 0, .slice none 0 0, .bool false, .int .u64 0, .int .u64 0, .int .u64 0, .int .u64 0, .int .u64 0, .slice none 0 0, .int .u8 0, .int .u8 0, .int .u8 0, .int .u8 0, .int .u8 0, .int .u8 0, .int .u8 0, .int .u8 0] : List Value).drop 19) rfl HG.out rfl rfl rfl (by intro v hv; simp only [List.mem_cons, List.not_mem_nil, or_false] at hv; rcases hv with rfl | rfl | rfl | rfl | rfl | rfl | rfl | rfl <;> rfl) ?_; intro w9 hrp hgp; have HG9 := Qh hrp; have HB9 := Qh (HB.out.grown hgp HB.out.size (by intro k hk; injection hk with hk; omega)); clear hrp hgp) | fail)
  have HF : Hid (∀ y, World.grownBy w9 y (some gz) → IntsK .u8 y da dn data → FrAt y (⟨26, 0, 0, [], false, 0, 0, 0, 0, 0, [], [1, nn, 7, 0, 0, 0, 0, 0]⟩ : Fr) (.slice none 0 0) (.slice none 0 0)) := Qh fun y hgy hIy => ⟨⟨by simp only; omega, by simp only [U64]; omega, by simp only [U64]; omega, by simp only [U64]; omega, by simp only [U64]; omega, by simp only [U64]; omega, by simp only [U64]; omega, by simp only [U64]; omega, rfl, (by rw [← HNN.out]; exact HCW.out)⟩, ⟨none, 0, 0, rfl, Nat.le_refl _, by omega, IntsK.nil _ _ _⟩, ⟨none, 0, 0, rfl, Nat.le_refl _, by omega, RK.At.nil _ _⟩⟩
  exact HK.out _ _ _ _ _ _ _ _ _ _ _ _ _ _ _ _ _ _ _ _ _ _ _ _ _ _ _ _ _ _ _ _ _ _ _ _ _ _ _ _ _ _ _ _ _ _ _ _ _ _ _ _ _ _ _ _ _ _ _ _ _ _ _ _ _ _ _ _ _ _ _ _ _ _ _ _ _ _ _ _ _ _ _ _ _ _ _ _ _ _ _ _ _ _ _ _ _ _ _ _ (⟨26, 0, 0, [], false, 0, 0, 0, 0, 0, [], [1, nn, 7, 0, 0, 0, 0, 0]⟩ : Fr) _ _ _ HF rfl ((by simp [rightB])) (KLoc.nil _ _ _) HG9 HB9
 ·
  have x7 := row_cell (HX1.out _ HB.out) 7 _ rfl
  go_wp2_with fail
  clear x7
  refine Calls.mono (Kc.kcid_any _ xn hn) ?_
  rintro e w1 ⟨rfl, hb⟩
  replace HG := Qh (bl_row hb (lt_of_block HG.out) HG.out); replace HB := Qh (bl_next HB.out HB.out.size hb)
  clear hb
  have HCW := Qh (Kc.cidM_wf xn)
  rw [kcells] at *
  have hwi := within_in xn 0 1048576 (by omega)
  obtain ⟨nn, hnn⟩ : ∃ nn, within xn 0 1048576 % 5 = nn := ⟨_, rfl⟩
  rw [hnn]
  have HNN := Qh hnn
  clear hnn
  go_wp2_with (first | (refine wpList_store_part rfl 37 _ _ rfl g 11 rfl [.int .u8 1, .int .u8 nn, .int .u8 7, .int .u8 0, .int .u8 0, .int .u8 0, .int .u8 0, .int .u8 0] _ (([.int .i64 27, .int .u64 0, .int .u64 0, .slice none 0 0, .bool false, .int .u64 0, .int .u64 0, .int .u64 0, .int .u64 0, .int .u64 0, .slice none 0 0, .int .u8 0, .int .u8 0, .int .u8 0, .int .u8 0, .int .u8 0, .int .u8 0, .int .u8 0, .int .u8 0] : List Value).take 11) ((([.int .i64 27, .int .u64 0, .int .u64 0, .slice none 0 0, .bool false, .int .u64 0, .int .u64 0, .int .u64 0, .int .u64 0, .int .u64 0, .slice none 0 0, .int .u8 0, .int .u8 0, .int .u8 0, .int .u8 0, .int .u8 0, .int .u8 0, .int .u8 0, .int .u8 0] : List Value).drop 11).take 8) (([.int .i64 27, .int .u64 0, .int .u64 0, .slice none 0 0, .bool false, .int .u64 0, .int .u64 0, .int .u64 0, .int .u64 0, .int .u64 0, .slice none 0 0, .int .u8 0, .int .u8 0, .int .u8 0, .int .u8 0, .int .u8 0, .int .u8 0, .int .u8 0, .int .u8 0] : List Value).drop 19) rfl HG.out rfl rfl rfl (by intro v hv; simp only [List.mem_cons, List.not_mem_nil, or_false] at hv; rcases hv with rfl | rfl | rfl | rfl | rfl | rfl | rfl | rfl <;> rfl) ?_; intro w9 hrp hgp; have HG9 := Qh hrp; have HB9 := Qh (HB.out.grown hgp HB.out.size (by intro k hk; injection hk with hk; omega)); clear hrp hgp) | fail)
  have HF : Hid (∀ y, World.grownBy w9 y (some gz) → IntsK .u8 y da dn data → FrAt y (⟨27, 0, 0, [], false, 0, 0, 0, 0, 0, [], [1, nn, 7, 0, 0, 0, 0, 0]⟩ : Fr) (.slice none 0 0) (.slice none 0 0)) := Qh fun y hgy hIy => ⟨⟨by simp only; omega, by simp only [U64]; omega, by simp only [U64]; omega, by simp only [U64]; omega, by simp only [U64]; omega, by simp only [U64]; omega, by simp only [U64]; omega, by simp only [U64]; omega, rfl, (by rw [← HNN.out]; exact HCW.out)⟩, ⟨none, 0, 0, rfl, Nat.le_refl _, by omega, IntsK.nil _ _ _⟩, ⟨none, 0, 0, rfl, Nat.le_refl _, by omega, RK.At.nil _ _⟩⟩
  exact HK.out _ _ _ _ _ _ _ _ _ _ _ _ _ _ _ _ _ _ _ _ _ _ _ _ _ _ _ _ _ _ _ _ _ _ _ _ _ _ _ _ _ _ _ _ _ _ _ _ _ _ _ _ _ _ _ _ _ _ _ _ _ _ _ _ _ _ _ _ _ _ _ _ _ _ _ _ _ _ _ _ _ _ _ _ _ _ _ _ _ _ _ _ _ _ _ _ _ _ _ _ (⟨27, 0, 0, [], false, 0, 0, 0, 0, 0, [], [1, nn, 7, 0, 0, 0, 0, 0]⟩ : Fr) _ _ _ HF rfl ((by simp [rightB])) (KLoc.nil _ _ _) HG9 HB9
 ·
  obtain ⟨⟨⟨mo1, mo2⟩, mc1, mc2⟩, ⟨⟨mb1, mb2⟩, ma1, ma2⟩, ⟨ms1, ms2⟩, mq1, mq2⟩ := HM.out
  have hlt : (data.take (min dn 32)).length = min dn 32 := by rw [List.length_take, ← HD.out.1]; omega
  have HLT := Qh hlt
  clear hlt
  have x4 := row_cell (HX1.out _ HB.out) 4 _ rfl
  go_wp2_with fail
  clear x4
  refine Calls.mono (cut_any _ da dn dc 32 hdc hdm) ?_
  rintro e wq ⟨rfl, rfl⟩
  have c6 := row_cell HG.out 6 _ rfl; have f6 := row_free HG.out 6
  have c3 := row_cell HG.out 3 _ rfl; have f3 := row_free HG.out 3
  go_wp2_with fail
  clear c6 f6 c3 f3
  have hA := (((At.base HG.out).set 6 (.int .u64 a)).set 3 (.slice da (min dn 32) dc)).conv (cs' := ([.int .i64 28, .int .u64 0, .int .u64 0, .slice da (min dn 32) dc, .bool false, .int .u64 0, .int .u64 a, .int .u64 0, .int .u64 0, .int .u64 0, .slice none 0 0, .int .u8 0, .int .u8 0, .int .u8 0, .int .u8 0, .int .u8 0, .int .u8 0, .int .u8 0, .int .u8 0] : List Value).toArray) (by rfl)
  have HG9 := Qh hA.row; have HB9 := Qh (HB.out.grown hA.rest HB.out.size (by intro k hk; injection hk with hk; omega))
  clear hA
  generalize ((w.setCell ⟨g, 6, none⟩ (.int .u64 a)).setCell ⟨g, 3, none⟩ (.slice da (min dn 32) dc)) = w9 at HG9 HB9 ⊢
  have HF : Hid (∀ y, World.grownBy w9 y (some gz) → IntsK .u8 y da dn data → FrAt y (⟨28, 0, 0, data.take (min dn 32), false, 0, a, 0, 0, 0, [], [0, 0, 0, 0, 0, 0, 0, 0]⟩ : Fr) (.slice da (min dn 32) dc) (.slice none 0 0)) := Qh fun y hgy hIy => ⟨⟨by simp only; omega, by simp only [U64]; omega, by simp only [U64]; omega, by simp only [U64]; omega, by simp only [U64]; omega, by simp only [U64]; omega, by simp only [U64]; omega, by simp only [U64]; omega, rfl, (by intro x hx; simp only [List.mem_cons, List.not_mem_nil, or_false] at hx; rcases hx with rfl | rfl | rfl | rfl | rfl | rfl | rfl | rfl <;> rfl)⟩, ⟨_, _, _, rfl, by omega, hdm, hIy.pre (min dn 32) (by omega)⟩, ⟨none, 0, 0, rfl, Nat.le_refl _, by omega, RK.At.nil _ _⟩⟩
  exact HK.out _ _ _ _ _ _ _ _ _ _ _ _ _ _ _ _ _ _ _ _ _ _ _ _ _ _ _ _ _ _ _ _ _ _ _ _ _ _ _ _ _ _ _ _ _ _ _ _ _ _ _ _ _ _ _ _ _ _ _ _ _ _ _ _ _ _ _ _ _ _ _ _ _ _ _ _ _ _ _ _ _ _ _ _ _ _ _ _ _ _ _ _ _ _ _ _ _ _ _ _ (⟨28, 0, 0, data.take (min dn 32), false, 0, a, 0, 0, 0, [], [0, 0, 0, 0, 0, 0, 0, 0]⟩ : Fr) _ _ _ HF rfl ((by simp only [rightB]; simp [inB, atB, HLT.out]; omega)) (KLoc.data _ _ _ _ _ (Nat.min_le_left _ _)) HG9 HB9
end Go.Proofs.Ytmbjepcbokbemaa
namespace Go.Proofs.Ytmbjepcbokbemaa
open Go.RowKit
theorem kkinds_any (w : World) : Calls Try.prog 45 #[] w fun e w' => e = .returned (.slice (some ⟨w.heap.size, 0, none⟩) 17 17) ∧ w' = w.alloc (.cells ([.int .i64 0, .int .i64 1, .int .i64 2, .int .i64 4, .int .i64 5, .int .i64 6, .int .i64 8, .int .i64 16, .int .i64 17, .int .i64 18, .int .i64 20, .int .i64 24, .int .i64 25, .int .i64 26, .int .i64 27, .int .i64 28, .int .i64 30] : List Value).toArray 3) := by
 go_enter Try.func45, Try.ntmps45
 go_wp2_with fail
 go_ret
 exact ⟨rfl, rfl⟩
theorem kind_at {i : Nat} (h : i < 17) : ∃ k : Int, ([.int .i64 0, .int .i64 1, .int .i64 2, .int .i64 4, .int .i64 5, .int .i64 6, .int .i64 8, .int .i64 16, .int .i64 17, .int .i64 18, .int .i64 20, .int .i64 24, .int .i64 25, .int .i64 26, .int .i64 27, .int .i64 28, .int .i64 30] : List Value)[i]? = some (.int .i64 k) ∧ (k = 0 ∨ k = 1 ∨ k = 30 ∨ k = 2 ∨ k = 4 ∨ k = 5 ∨ k = 6 ∨ k = 8 ∨ k = 16 ∨ k = 17 ∨ k = 18 ∨ k = 20 ∨ k = 24 ∨ k = 25 ∨ k = 26 ∨ k = 27 ∨ k = 28) := by
 rcases (by omega : i = 0 ∨ i = 1 ∨ i = 2 ∨ i = 3 ∨ i = 4 ∨ i = 5 ∨ i = 6 ∨ i = 7 ∨ i = 8 ∨ i = 9 ∨ i = 10 ∨ i = 11 ∨ i = 12 ∨ i = 13 ∨ i = 14 ∨ i = 15 ∨ i = 16) with rfl | rfl | rfl | rfl | rfl | rfl | rfl | rfl | rfl | rfl | rfl | rfl | rfl | rfl | rfl | rfl | rfl
 ·
  exact ⟨0, rfl, by decide⟩
 ·
  exact ⟨1, rfl, by decide⟩
 ·
  exact ⟨2, rfl, by decide⟩
 ·
  exact ⟨4, rfl, by decide⟩
 ·
  exact ⟨5, rfl, by decide⟩
 ·
  exact ⟨6, rfl, by decide⟩
 ·
  exact ⟨8, rfl, by decide⟩
 ·
  exact ⟨16, rfl, by decide⟩
 ·
  exact ⟨17, rfl, by decide⟩
 ·
  exact ⟨18, rfl, by decide⟩
 ·
  exact ⟨20, rfl, by decide⟩
 ·
  exact ⟨24, rfl, by decide⟩
 ·
  exact ⟨25, rfl, by decide⟩
 ·
  exact ⟨26, rfl, by decide⟩
 ·
  exact ⟨27, rfl, by decide⟩
 ·
  exact ⟨28, rfl, by decide⟩
 ·
  exact ⟨30, rfl, by decide⟩
theorem one19 {k s1 s2 s3 s4 s5 s6 s7 c0 c1 c2 c3 c4 c5 c6 c7 : Int} {dv rv : Value} {b : Bool} (hd : dv.oneCell' = true) (hr : rv.oneCell' = true) :
  ∀ v ∈ ([.int .i64 k, .int .u64 s1, .int .u64 s2, dv, .bool b, .int .u64 s3, .int .u64 s4, .int .u64 s5, .int .u64 s6, .int .u64 s7, rv, .int .u8 c0, .int .u8 c1, .int .u8 c2, .int .u8 c3, .int .u8 c4, .int .u8 c5, .int .u8 c6, .int .u8 c7] : List Value), v.oneCell' = true := by
 intro v hv
 simp only [List.mem_cons, List.not_mem_nil, or_false] at hv
 rcases hv with rfl | rfl | rfl | rfl | rfl | rfl | rfl | rfl | rfl | rfl | rfl | rfl | rfl | rfl | rfl | rfl | rfl | rfl | rfl <;> first | rfl | assumption
theorem Fr.one {f : Fr} {dv rv : Value} {w : World} (h : FrAt w f dv rv) : ∀ v ∈ f.cells dv rv, v.oneCell' = true := by
 obtain ⟨a, n, c, rfl, _⟩ := h.d
 obtain ⟨a', n', c', rfl, _⟩ := h.r
 intro v hv
 rcases List.mem_append.1 hv with hv | hv
 ·
  simp only [List.mem_cons, List.not_mem_nil, or_false] at hv
  rcases hv with rfl | rfl | rfl | rfl | rfl | rfl | rfl | rfl | rfl | rfl | rfl <;> rfl
 ·
  obtain ⟨x, _, rfl⟩ := List.mem_map.1 hv; rfl
theorem Fr.len {f : Fr} {dv rv : Value} (h : f.Wf) : (f.cells dv rv).length = 19 := by
 simp [Fr.cells, h.cidl]
theorem kframeL_any (w : World) (xk xa xb xc xn : Int) (xf : Bool) (da ra : Option Addr) (dn dc rn rc : Nat) (data rows : List Int) (hD : IntsK .u8 w da dn data) (hdc : dn ≤ dc) (hdm : dc ≤ 9223372036854775807) (hR : IntsK .u64 w ra rn rows) (hrn : rn ≤ 9223372036854775807)
  (hxk : -9223372036854775808 ≤ xk ∧ xk ≤ 9223372036854775807) (hxa : U64 xa) (hxb : U64 xb) (hxc : U64 xc) (hn : -9223372036854775808 ≤ xn ∧ xn ≤ 9223372036854775807) :
  Calls Try.prog 24 #[.agg ([.int .i64 xk, .int .u64 xa, .int .u64 xb, .int .u64 xc, .slice da dn dc, .bool xf, .slice ra rn rc, .int .i64 xn] : List Value).toArray] w fun e w' => ∃ f dv rv, e = .returned (.agg (f.cells dv rv).toArray) ∧ FrAt w' f dv rv ∧ rightB f = true ∧ Below w.heap.size w w' ∧ KLoc w.heap.size da dn dv rv := by
 have HD := Qh hD; have HR := Qh hR; have HD0 := Qh hD
 have HB := Qh (Below.refl w.heap.size w)
 have hwi := within_in xk 0 1048576 (by omega)
 have HWI := Qh (fun W => within_any W xk 0 1048576 (by omega) (by omega) (by omega) hxk)
 obtain ⟨q, hq⟩ : ∃ q : Nat, within xk 0 1048576 = q := ⟨(within xk 0 1048576).toNat, by omega⟩
 rw [hq] at HWI
 clear hD hR hq hwi
 go_enter Try.func24, Try.ntmps24
 go_upto_region 1 with fail
 change Code.wp _ _ _ _ ((w.alloc (.cells ([.int .i64 xk, .int .u64 xa, .int .u64 xb, .int .u64 xc, .slice da dn dc, .bool xf, .slice ra rn rc, .int .i64 xn] : List Value).toArray 55)).alloc (.cells ([.int .i64 0, .int .u64 0, .int .u64 0, .slice none 0 0, .bool false, .int .u64 0, .int .u64 0, .int .u64 0, .int .u64 0, .int .u64 0, .slice none 0 0, .int .u8 0, .int .u8 0, .int .u8 0, .int .u8 0, .int .u8 0, .int .u8 0, .int .u8 0, .int .u8 0] : List Value).toArray 39))
 obtain ⟨gx, hg0⟩ : ∃ g, w.heap.size = g := ⟨_, rfl⟩
 try rw [hg0]
 have hb := (Below.refl w.heap.size w).alloc (Nat.le_refl _) (.cells ([.int .i64 xk, .int .u64 xa, .int .u64 xb, .int .u64 xc, .slice da dn dc, .bool xf, .slice ra rn rc, .int .i64 xn] : List Value).toArray 55)
 have hrw := heap_alloc_new w (.cells ([.int .i64 xk, .int .u64 xa, .int .u64 xb, .int .u64 xc, .slice da dn dc, .bool xf, .slice ra rn rc, .int .i64 xn] : List Value).toArray 55)
 have hsz : (w.alloc (.cells ([.int .i64 xk, .int .u64 xa, .int .u64 xb, .int .u64 xc, .slice da dn dc, .bool xf, .slice ra rn rc, .int .i64 xn] : List Value).toArray 55)).heap.size = gx + 1 := by simp [hg0]
 rw [hg0] at hrw
 replace HB := Qh (bl_next HB.out HB.out.size hb)
 replace HD := Qh (HD.out.below hb)
 replace HR := Qh (HR.out.below hb)
 have HX := Qh hrw
 clear hb hrw
 generalize w.alloc (.cells ([.int .i64 xk, .int .u64 xa, .int .u64 xb, .int .u64 xc, .slice da dn dc, .bool xf, .slice ra rn rc, .int .i64 xn] : List Value).toArray 55) = w1 at HB HD HR HX hsz ⊢
 have hg1 := hsz
 clear hsz
 have HGX := Qh hg0
 clear hg0
 have hb := (Below.refl w1.heap.size w1).alloc (Nat.le_refl _) (.cells ([.int .i64 0, .int .u64 0, .int .u64 0, .slice none 0 0, .bool false, .int .u64 0, .int .u64 0, .int .u64 0, .int .u64 0, .int .u64 0, .slice none 0 0, .int .u8 0, .int .u8 0, .int .u8 0, .int .u8 0, .int .u8 0, .int .u8 0, .int .u8 0, .int .u8 0] : List Value).toArray 39)
 have hrw := heap_alloc_new w1 (.cells ([.int .i64 0, .int .u64 0, .int .u64 0, .slice none 0 0, .bool false, .int .u64 0, .int .u64 0, .int .u64 0, .int .u64 0, .int .u64 0, .slice none 0 0, .int .u8 0, .int .u8 0, .int .u8 0, .int .u8 0, .int .u8 0, .int .u8 0, .int .u8 0, .int .u8 0] : List Value).toArray 39)
 have hsz : (w1.alloc (.cells ([.int .i64 0, .int .u64 0, .int .u64 0, .slice none 0 0, .bool false, .int .u64 0, .int .u64 0, .int .u64 0, .int .u64 0, .int .u64 0, .slice none 0 0, .int .u8 0, .int .u8 0, .int .u8 0, .int .u8 0, .int .u8 0, .int .u8 0, .int .u8 0, .int .u8 0] : List Value).toArray 39)).heap.size = gx + 1 + 1 := by simp [hg1]
 rw [hg1] at hrw
 replace HB := Qh (bl_next HB.out HB.out.size hb)
 replace HD := Qh (HD.out.below hb)
 replace HR := Qh (HR.out.below hb)
 replace HX := Qh (bl_row hb (lt_of_block HX.out) HX.out)
 have HZ := Qh hrw
 clear hb hrw
 generalize w1.alloc (.cells ([.int .i64 0, .int .u64 0, .int .u64 0, .slice none 0 0, .bool false, .int .u64 0, .int .u64 0, .int .u64 0, .int .u64 0, .int .u64 0, .slice none 0 0, .int .u8 0, .int .u8 0, .int .u8 0, .int .u8 0, .int .u8 0, .int .u8 0, .int .u8 0, .int .u8 0] : List Value).toArray 39) = w2 at HB HD HR HX HZ hsz ⊢
 have hg2 := hsz
 clear hsz
 clear hg1
 obtain ⟨gz, hgg⟩ : ∃ g, gx + 1 = g := ⟨_, rfl⟩
 rw [hgg] at HZ hg2 ⊢
 have HLTgz : Hid (gx < gz) := Qh (by omega)
 clear hgg
 clear hg2
 go_wp2_with fail
 refine Calls.mono (kkinds_any _) ?_
 rintro e wq ⟨rfl, rfl⟩
 have hb := (Below.refl w2.heap.size w2).alloc (Nat.le_refl _) (.cells ([.int .i64 0, .int .i64 1, .int .i64 2, .int .i64 4, .int .i64 5, .int .i64 6, .int .i64 8, .int .i64 16, .int .i64 17, .int .i64 18, .int .i64 20, .int .i64 24, .int .i64 25, .int .i64 26, .int .i64 27, .int .i64 28, .int .i64 30] : List Value).toArray 3)
 replace HB := Qh (bl_next HB.out HB.out.size hb)
 replace HD := Qh (HD.out.below hb)
 replace HR := Qh (HR.out.below hb)
 replace HX := Qh (bl_row hb (lt_of_block HX.out) HX.out)
 replace HZ := Qh (bl_row hb (lt_of_block HZ.out) HZ.out)
 have HKK := Qh (heap_alloc_new w2 (.cells ([.int .i64 0, .int .i64 1, .int .i64 2, .int .i64 4, .int .i64 5, .int .i64 6, .int .i64 8, .int .i64 16, .int .i64 17, .int .i64 18, .int .i64 20, .int .i64 24, .int .i64 25, .int .i64 26, .int .i64 27, .int .i64 28, .int .i64 30] : List Value).toArray 3))
 clear hb
 generalize w2.alloc (.cells ([.int .i64 0, .int .i64 1, .int .i64 2, .int .i64 4, .int .i64 5, .int .i64 6, .int .i64 8, .int .i64 16, .int .i64 17, .int .i64 18, .int .i64 20, .int .i64 24, .int .i64 25, .int .i64 26, .int .i64 27, .int .i64 28, .int .i64 30] : List Value).toArray 3) = w3 at HB HD HR HX HZ HKK ⊢
 obtain ⟨gk, hg⟩ : ∃ g, w2.heap.size = g := ⟨_, rfl⟩
 rw [hg] at HKK ⊢
 clear hg
 have hi17 : q % 17 < 17 := by omega
 obtain ⟨k, hck, hk⟩ := kind_at hi17
 have HCK := Qh (fun (W : World) (h : W.heap[gk]? = some (.cells ([.int .i64 0, .int .i64 1, .int .i64 2, .int .i64 4, .int .i64 5, .int .i64 6, .int .i64 8, .int .i64 16, .int .i64 17, .int .i64 18, .int .i64 20, .int .i64 24, .int .i64 25, .int .i64 26, .int .i64 27, .int .i64 28, .int .i64 30] : List Value).toArray 3 (0, 0))) => cell_row h (q % 17) _ hck)
 clear hck
 have x0 := row_cell HX.out 0 _ rfl
 go_wp2_with fail
 clear x0
 refine Calls.mono (HWI.out _) ?_
 rintro e wq ⟨rfl, rfl⟩
 have ck := HCK.out _ HKK.out
 go_upto_region 3 with (first | (refine wpList_store_row rfl 39 _ _ rfl w3.heap.size rfl [.int .i64 k, .int .u64 0, .int .u64 0, .slice none 0 0, .bool false, .int .u64 0, .int .u64 0, .int .u64 0, .int .u64 0, .int .u64 0, .slice none 0 0, .int .u8 0, .int .u8 0, .int .u8 0, .int .u8 0, .int .u8 0, .int .u8 0, .int .u8 0, .int .u8 0] [.int .i64 0, .int .u64 0, .int .u64 0, .slice none 0 0, .bool false, .int .u64 0, .int .u64 0, .int .u64 0, .int .u64 0, .int .u64 0, .slice none 0 0, .int .u8 0, .int .u8 0, .int .u8 0, .int .u8 0, .int .u8 0, .int .u8 0, .int .u8 0, .int .u8 0] rfl 39 (heap_alloc_new _ _) rfl rfl (one19 rfl rfl) ?_; intro w4 hr hg) | fail)
 have hal := (Below.refl w3.heap.size w3).alloc (Nat.le_refl _) (.cells ([.int .i64 0, .int .u64 0, .int .u64 0, .slice none 0 0, .bool false, .int .u64 0, .int .u64 0, .int .u64 0, .int .u64 0, .int .u64 0, .slice none 0 0, .int .u8 0, .int .u8 0, .int .u8 0, .int .u8 0, .int .u8 0, .int .u8 0, .int .u8 0, .int .u8 0] : List Value).toArray 39)
 have hb : Below w3.heap.size w3 w4 := hal.grown hg hal.size (by intro k hk; injection hk with hk; omega)
 have HB4 := Qh hb; have HG := Qh hr
 obtain ⟨g, hgg⟩ : ∃ g, w3.heap.size = g := ⟨_, rfl⟩
 rw [hgg] at HG ⊢
 have HGG := Qh hgg
 clear hr hg hal hb hgg ck
 try simp only [Act.put]
 have HX4 := Qh (bl_row HB4.out (lt_of_block HX.out) HX.out)
 have g1 : ∀ z : In (fun y => Below w4.heap.size w4 y), z.w.cell? ⟨gx, 1, none⟩ = some (.int .u64 xa) := fun z => row_cell (bl_row z.h (lt_of_block HX4.out) HX4.out) 1 _ rfl
 have g2 : ∀ z : In (fun y => Below w4.heap.size w4 y), z.w.cell? ⟨gx, 2, none⟩ = some (.int .u64 xb) := fun z => row_cell (bl_row z.h (lt_of_block HX4.out) HX4.out) 2 _ rfl
 have g3 : ∀ z : In (fun y => Below w4.heap.size w4 y), z.w.cell? ⟨gx, 3, none⟩ = some (.int .u64 xc) := fun z => row_cell (bl_row z.h (lt_of_block HX4.out) HX4.out) 3 _ rfl
 refine wp_plan (.t 0 (.t 1 (.t 3 (.t 4 (.t 6 (.t 7 (.u 2 (.u 5 (.u 8 (.t 9 (.t 10 (.t 11 .done)))))))))))) (fun y => Below w4.heap.size w4 y) (by kernel_rfl) (by kernel_rfl) (by kernel_rfl) (fun c a d v w h => by cases d <;> exact h) (Below.refl _ _).drew ?_
 have hS : Below w4.heap.size w4 w4.drew := (Below.refl _ _).drew
 generalize w4.drew = w5 at hS ⊢
 haveI hne : Nonempty (In (fun y => Below w4.heap.size w4 y)) := ⟨⟨w4, Below.refl _ _⟩⟩
 repeat (refine plan_t (by rfl) ?_; (first | go_big_quiet_skip | (go_big_quiet_want; go_big_quiet_op; go_big_quiet_on)); refine wpQuiet_nil ?_)
 clear g1 g2 g3
 refine plan_us (by rfl) (by kernel_rfl) ?_
 intro K hK
 go_wp2_with fail
 refine Calls.mono (small_any _ xa hxa) ?_
 rintro e w6 ⟨rfl, hb⟩
 replace hS := bl_next hS hS.size hb
 clear hb
 go_wp2_with fail
 refine ⟨hS, ?_⟩
 repeat (refine plan_t (by rfl) ?_; (first | go_big_quiet_skip | (go_big_quiet_want; go_big_quiet_op; go_big_quiet_on)); refine wpQuiet_nil ?_)
 refine plan_us (by rfl) (by kernel_rfl) ?_
 intro K hK
 go_wp2_with fail
 refine Calls.mono (small_any _ xb hxb) ?_
 rintro e w7 ⟨rfl, hb⟩
 replace hS := bl_next hS hS.size hb
 clear hb
 go_wp2_with fail
 refine ⟨hS, ?_⟩
 repeat (refine plan_t (by rfl) ?_; (first | go_big_quiet_skip | (go_big_quiet_want; go_big_quiet_op; go_big_quiet_on)); refine wpQuiet_nil ?_)
 refine plan_us (by rfl) (by kernel_rfl) ?_
 intro K hK
 go_wp2_with fail
 refine Calls.mono (small_any _ xc hxc) ?_
 rintro e w8 ⟨rfl, hb⟩
 replace hS := bl_next hS hS.size hb
 clear hb
 go_wp2_with fail
 refine ⟨hS, ?_⟩
 repeat (refine plan_t (by rfl) ?_; (first | go_big_quiet_skip | (go_big_quiet_want; go_big_quiet_op; go_big_quiet_on)); refine wpQuiet_nil ?_)
 clear hne
 show Exit.then _ _ _ _ _
 have HS := Qh hS
 have HB8 := Qh (bl_next HB4.out HB4.out.size hS)
 have HG8 := Qh (bl_row hS (lt_of_block HG.out) HG.out)
 clear hS HX4
 have c0 := row_cell HG8.out 0 _ rfl
 go_upto_block 0 with fail
 clear c0
 have hsa := smallM_in xa; have hsb := smallM_in xb; have hsc := smallM_in xc
 refine kframe_sw _ HB8 HG8 HX (by rw [HGG.out]; exact Nat.le_refl _) (lt_of_block HZ.out) HD hdc hdm HR hrn hsa hsb hsc hn hk (fun c a d v w h => by cases d <;> exact h) ?_
 rintro _ _ _ _ _ _ _ _ _ _ _ _ _ _ _ _ _ _ _ _ _ _ _ _ _ _ _ _ _ _ _ _ _ _ _ _ _ _ _ _ _ _ _ _ _ _ _ _ _ _ _ _ _ _ _ _ _ _ _ _ _ _ _ _ _ _ _ _ _ _ _ _ _ _ _ _ _ _ _ _ _ _ _ _ _ _ _ _ _ _ _ _ _ _ _ _ _ _ _ _ f dv rv w9 HF hkd hrt hkl HG9 HB9
 have HW40 : Hid (w.heap.size ≤ w3.heap.size) := Qh HB.out.size
 have HZ9 := Qh (bl_row HB9.out (lt_of_block HZ.out) HZ.out)
 have HL := Qh (Fr.len (dv := dv) (rv := rv) (HF.out w9 (grown_refl _ _) (HD.out.below HB9.out)).wf)
 have HO := Qh (Fr.one (HF.out w9 (grown_refl _ _) (HD.out.below HB9.out)))
 obtain ⟨R, hR⟩ : ∃ R, f.cells dv rv = R := ⟨_, rfl⟩
 have HRR := Qh hR
 rw [hR] at HG9 HL HO
 clear hR
 have hzg : w.heap.size ≤ gz := by have := HGX.out; have := HLTgz.out; omega
 have HBZ := Qh (bl_next HB.out HB.out.size HB9.out)
 have HZL := Qh (lt_of_block HZ.out)
 go_wp2_with (first | (refine wpList_load_mid rfl 39 _ rfl g 0 rfl R _ (rngL HG9.out) Try.underlying39 rfl (by rw [HL.out]; rfl) ?_) | (refine wpList_store_row rfl 39 _ _ rfl gz rfl R [.int .i64 0, .int .u64 0, .int .u64 0, .slice none 0 0, .bool false, .int .u64 0, .int .u64 0, .int .u64 0, .int .u64 0, .int .u64 0, .slice none 0 0, .int .u8 0, .int .u8 0, .int .u8 0, .int .u8 0, .int .u8 0, .int .u8 0, .int .u8 0, .int .u8 0] rfl 39 HZ9.out (by rw [HL.out]; rfl) (by rw [HL.out]; rfl) HO.out ?_; intro w10 hz hgz; have HZ10 := Qh hz; have HGZ := Qh hgz; clear hz hgz) | fail)
 refine bodyPost_ret (results_cell1 rfl _ _ gz rfl R _ _ HZ10.out Try.underlying39 rfl (by rw [HL.out]; rfl)) rfl ?_
 have hbz : Below w.heap.size w w10 := HBZ.out.grown HGZ.out HBZ.out.size (by intro k hk; injection hk with hk; omega)
 exact ⟨f, dv, rv, by rw [HRR.out], HF.out _ HGZ.out (HD0.out.below hbz), hrt, hbz, hkl.less HW40.out⟩
end Go.Proofs.Ytmbjepcbokbemaa
namespace Go.Proofs.Ytmbjepcbokbemaa
open Go.RowKit
theorem take_snd4 {α : Type} {L : List α} {i : Nat} {x : α} (hx : L[i]? = some x) : L.take (i + 1) = L.take i ++ [x] := by rw [List.take_add_one, hx]; rfl
theorem rises_pre : ∀ (m l : List (Int × Int)), risesB (l ++ m) = true → risesB l = true
 | [], l, h => by rw [List.append_nil] at h; exact h
 | x :: m, l, h => (rises_snoc_inv (rises_pre m (l ++ [x]) (by rw [List.append_assoc]; exact h))).1
theorem rises_take {l : List (Int × Int)} (h : risesB l = true) (k : Nat) : risesB (l.take k) = true := rises_pre (l.drop k) (l.take k) (by rw [List.take_append_drop]; exact h)
theorem last_take {α : Type} {l : List α} {i : Nat} {y : α} (hy : l[i]? = some y) : (l.take (i + 1)).getLast? = some y := by rw [take_snd4 hy]; simp
theorem ack_ge {x1 x2 x5 x6 x7 x8 x9 x10 x11 x12 x13 x14 x15 x16 x17 x18 x19 x20 x21 x22 x23 x24 x25 x26 x27 x28 x29 x30 x31 x32 x33 x34 x35 x36 x37 x38 x39 x40 x41 x42 x43 x44 x45 x46 x47 x48 x49 x50 : Value} {a : Option Addr} {n cp gr i : Nat} {rs : List (Int × Int)} {d e p0 q0 : Int} (w : World) {Q : Exit → Act → World → Prop}
  (HL : Hid (rgK.At w a n rs)) (HX : Hid (rs[i]? = some (d, e))) (hi : i < n) (hn : n ≤ 16) (HG : Hid (w.heap[gr]? = some (.cells ([.int .u64 d, .int .u64 e] : List Value).toArray 71 (0, 0)))) (hc : ¬ d < e)
  (hQp : ∀ c a d v w, Q (.panic c) (a.put d v) w → Q (.panic c) a w)
  (hQ : ∀ (y30 y31 y32 y33 y34 y35 y36 y37 y38 y39 y40 y41 y42 y43 y44 y45 y46 y47 y48 : Value) (w' : World), Hid (Below w.heap.size w w') → Q .normal ⟨List.toArray (.slice a n cp :: x1 :: x2 :: .int .i64 i :: .pointer (some ⟨gr, 0, none⟩) :: x5 :: x6 :: x7 :: x8 :: x9 :: x10 :: x11 :: x12 :: x13 :: x14 :: x15 :: x16 :: x17 :: x18 :: x19 :: x20 :: x21 :: x22 :: x23 :: x24 :: x25 :: x26 :: x27 :: x28 :: x29 :: y30 :: y31 :: y32 :: y33 :: y34 :: y35 :: y36 :: y37 :: y38 :: y39 :: y40 :: y41 :: y42 :: y43 :: y44 :: y45 :: y46 :: y47 :: y48 :: .bool true :: x50 :: []), []⟩ w') :
  Code.wp Try.prog (((Try.f50.body.bind (subRegion 6)).getD .skip)) Q ⟨List.toArray (.slice a n cp :: x1 :: x2 :: .int .i64 i :: .pointer (some ⟨gr, 0, none⟩) :: x5 :: x6 :: x7 :: x8 :: x9 :: x10 :: x11 :: x12 :: x13 :: x14 :: x15 :: x16 :: x17 :: x18 :: x19 :: x20 :: x21 :: x22 :: x23 :: x24 :: x25 :: x26 :: x27 :: x28 :: x29 :: x30 :: x31 :: x32 :: x33 :: x34 :: x35 :: x36 :: x37 :: x38 :: x39 :: x40 :: x41 :: x42 :: x43 :: x44 :: x45 :: x46 :: x47 :: x48 :: x49 :: x50 :: []), []⟩ w := by
 have HK := Qh hQ; have HKP := Qh hQp
 clear hQ hQp
 conv => arg 2; whnf
 obtain ⟨ab, ao, x, rfl, _, hx, hok, hrg⟩ := HL.out.at hi
 rw [HX.out] at hx; injection hx with hx; subst hx
 have hu1 := hok.1; have hu2 := hok.2
 simp only [U64] at hu1 hu2
 clear hrg hok
 have hce : decide (e ≤ d) = true := by simp; omega
 have g0 : ∀ z : In (fun y => y.heap[gr]? = some (.cells ([.int .u64 d, .int .u64 e] : List Value).toArray 71 (0, 0))), z.w.cell? ⟨gr, 0, none⟩ = some (.int .u64 d) := fun z => row_cell z.h 0 _ rfl
 have g1 : ∀ z : In (fun y => y.heap[gr]? = some (.cells ([.int .u64 d, .int .u64 e] : List Value).toArray 71 (0, 0))), z.w.cell? ⟨gr, 1, none⟩ = some (.int .u64 e) := fun z => row_cell z.h 1 _ rfl
 refine wp_plan (.t 0 (.t 1 (.t 2 (.t 3 (.t 4 (.t 5 (.t 6 (.t 7 (.t 8 (.t 9 (.t 10 (.t 11 (.t 12 (.t 13 (.t 14 (.t 15 (.t 16 (.t 17 (.t 18 (.t 19 .done)))))))))))))))))))) (fun y => y.heap[gr]? = some (.cells ([.int .u64 d, .int .u64 e] : List Value).toArray 71 (0, 0))) (by kernel_rfl) (by kernel_rfl) (by kernel_rfl) (fun c a d v w h => by first | (cases d <;> exact h) | exact HKP.out c a d v w h) HG.out ?_
 haveI hne : Nonempty (In (fun y => y.heap[gr]? = some (.cells ([.int .u64 d, .int .u64 e] : List Value).toArray 71 (0, 0)))) := ⟨⟨w, HG.out⟩⟩
 repeat (first | rw [hce] | (refine plan_t (by rfl) ?_; (first | go_big_quiet_skip | (go_big_quiet_want; go_big_quiet_op; go_big_quiet_on)); refine wpQuiet_nil ?_))
 clear hne
 show Q _ _ _
 exact HK.out _ _ _ _ _ _ _ _ _ _ _ _ _ _ _ _ _ _ _ w.drew (Qh (Below.refl w.heap.size w).drew)
theorem ack_first {x1 x2 x5 x6 x7 x8 x9 x10 x11 x12 x13 x14 x15 x16 x17 x18 x19 x20 x21 x22 x23 x24 x25 x26 x27 x28 x29 x30 x31 x32 x33 x34 x35 x36 x37 x38 x39 x40 x41 x42 x43 x44 x45 x46 x47 x48 x49 x50 : Value} {a : Option Addr} {n cp gr i : Nat} {rs : List (Int × Int)} {d e p0 q0 : Int} (w : World) {Q : Exit → Act → World → Prop}
  (HL : Hid (rgK.At w a n rs)) (HX : Hid (rs[i]? = some (d, e))) (hi : i < n) (hn : n ≤ 16) (HG : Hid (w.heap[gr]? = some (.cells ([.int .u64 d, .int .u64 e] : List Value).toArray 71 (0, 0)))) (hc : d < e) (h0 : i = 0)
  (hQp : ∀ c a d v w, Q (.panic c) (a.put d v) w → Q (.panic c) a w)
  (hQ : ∀ (y30 y31 y32 y33 y34 y35 y36 y37 y38 y39 y40 y41 y42 y43 y44 y45 y46 y47 y48 : Value) (w' : World), Hid (Below w.heap.size w w') → Q .normal ⟨List.toArray (.slice a n cp :: x1 :: x2 :: .int .i64 i :: .pointer (some ⟨gr, 0, none⟩) :: x5 :: x6 :: x7 :: x8 :: x9 :: x10 :: x11 :: x12 :: x13 :: x14 :: x15 :: x16 :: x17 :: x18 :: x19 :: x20 :: x21 :: x22 :: x23 :: x24 :: x25 :: x26 :: x27 :: x28 :: x29 :: y30 :: y31 :: y32 :: y33 :: y34 :: y35 :: y36 :: y37 :: y38 :: y39 :: y40 :: y41 :: y42 :: y43 :: y44 :: y45 :: y46 :: y47 :: y48 :: .bool false :: x50 :: []), []⟩ w') :
  Code.wp Try.prog (((Try.f50.body.bind (subRegion 6)).getD .skip)) Q ⟨List.toArray (.slice a n cp :: x1 :: x2 :: .int .i64 i :: .pointer (some ⟨gr, 0, none⟩) :: x5 :: x6 :: x7 :: x8 :: x9 :: x10 :: x11 :: x12 :: x13 :: x14 :: x15 :: x16 :: x17 :: x18 :: x19 :: x20 :: x21 :: x22 :: x23 :: x24 :: x25 :: x26 :: x27 :: x28 :: x29 :: x30 :: x31 :: x32 :: x33 :: x34 :: x35 :: x36 :: x37 :: x38 :: x39 :: x40 :: x41 :: x42 :: x43 :: x44 :: x45 :: x46 :: x47 :: x48 :: x49 :: x50 :: []), []⟩ w := by
 have HK := Qh hQ; have HKP := Qh hQp
 clear hQ hQp
 conv => arg 2; whnf
 obtain ⟨ab, ao, x, rfl, _, hx, hok, hrg⟩ := HL.out.at hi
 rw [HX.out] at hx; injection hx with hx; subst hx
 have hu1 := hok.1; have hu2 := hok.2
 simp only [U64] at hu1 hu2
 clear hrg hok
 have hce : decide (e ≤ d) = false := by simp; omega
 subst h0
 have g0 : ∀ z : In (fun y => y.heap[gr]? = some (.cells ([.int .u64 d, .int .u64 e] : List Value).toArray 71 (0, 0))), z.w.cell? ⟨gr, 0, none⟩ = some (.int .u64 d) := fun z => row_cell z.h 0 _ rfl
 have g1 : ∀ z : In (fun y => y.heap[gr]? = some (.cells ([.int .u64 d, .int .u64 e] : List Value).toArray 71 (0, 0))), z.w.cell? ⟨gr, 1, none⟩ = some (.int .u64 e) := fun z => row_cell z.h 1 _ rfl
 refine wp_plan (.t 0 (.t 1 (.t 2 (.t 3 (.t 4 (.t 5 (.t 6 (.t 7 (.t 8 (.t 9 (.t 10 (.t 11 (.t 12 (.t 13 (.t 14 (.t 15 (.t 16 (.t 17 (.t 18 (.t 19 .done)))))))))))))))))))) (fun y => y.heap[gr]? = some (.cells ([.int .u64 d, .int .u64 e] : List Value).toArray 71 (0, 0))) (by kernel_rfl) (by kernel_rfl) (by kernel_rfl) (fun c a d v w h => by first | (cases d <;> exact h) | exact HKP.out c a d v w h) HG.out ?_
 haveI hne : Nonempty (In (fun y => y.heap[gr]? = some (.cells ([.int .u64 d, .int .u64 e] : List Value).toArray 71 (0, 0)))) := ⟨⟨w, HG.out⟩⟩
 repeat (first | rw [hce] | (refine plan_t (by rfl) ?_; (first | go_big_quiet_skip | (go_big_quiet_want; go_big_quiet_op; go_big_quiet_on)); refine wpQuiet_nil ?_))
 clear hne
 show Q _ _ _
 exact HK.out _ _ _ _ _ _ _ _ _ _ _ _ _ _ _ _ _ _ _ w.drew (Qh (Below.refl w.heap.size w).drew)
theorem ack_le {x1 x2 x5 x6 x7 x8 x9 x10 x11 x12 x13 x14 x15 x16 x17 x18 x19 x20 x21 x22 x23 x24 x25 x26 x27 x28 x29 x30 x31 x32 x33 x34 x35 x36 x37 x38 x39 x40 x41 x42 x43 x44 x45 x46 x47 x48 x49 x50 : Value} {a : Option Addr} {n cp gr i : Nat} {rs : List (Int × Int)} {d e p0 q0 : Int} (w : World) {Q : Exit → Act → World → Prop}
  (HL : Hid (rgK.At w a n rs)) (HX : Hid (rs[i]? = some (d, e))) (hi : i < n) (hn : n ≤ 16) (HG : Hid (w.heap[gr]? = some (.cells ([.int .u64 d, .int .u64 e] : List Value).toArray 71 (0, 0)))) (hc : d < e) (h0 : 0 < i) (HY : Hid (rs[i - 1]? = some (p0, q0))) (hp : ¬ q0 < d)
  (hQp : ∀ c a d v w, Q (.panic c) (a.put d v) w → Q (.panic c) a w)
  (hQ : ∀ (y30 y31 y32 y33 y34 y35 y36 y37 y38 y39 y40 y41 y42 y43 y44 y45 y46 y47 y48 : Value) (w' : World), Hid (Below w.heap.size w w') → Q .normal ⟨List.toArray (.slice a n cp :: x1 :: x2 :: .int .i64 i :: .pointer (some ⟨gr, 0, none⟩) :: x5 :: x6 :: x7 :: x8 :: x9 :: x10 :: x11 :: x12 :: x13 :: x14 :: x15 :: x16 :: x17 :: x18 :: x19 :: x20 :: x21 :: x22 :: x23 :: x24 :: x25 :: x26 :: x27 :: x28 :: x29 :: y30 :: y31 :: y32 :: y33 :: y34 :: y35 :: y36 :: y37 :: y38 :: y39 :: y40 :: y41 :: y42 :: y43 :: y44 :: y45 :: y46 :: y47 :: y48 :: .bool true :: x50 :: []), []⟩ w') :
  Code.wp Try.prog (((Try.f50.body.bind (subRegion 6)).getD .skip)) Q ⟨List.toArray (.slice a n cp :: x1 :: x2 :: .int .i64 i :: .pointer (some ⟨gr, 0, none⟩) :: x5 :: x6 :: x7 :: x8 :: x9 :: x10 :: x11 :: x12 :: x13 :: x14 :: x15 :: x16 :: x17 :: x18 :: x19 :: x20 :: x21 :: x22 :: x23 :: x24 :: x25 :: x26 :: x27 :: x28 :: x29 :: x30 :: x31 :: x32 :: x33 :: x34 :: x35 :: x36 :: x37 :: x38 :: x39 :: x40 :: x41 :: x42 :: x43 :: x44 :: x45 :: x46 :: x47 :: x48 :: x49 :: x50 :: []), []⟩ w := by
 have HK := Qh hQ; have HKP := Qh hQp
 clear hQ hQp
 conv => arg 2; whnf
 obtain ⟨ab, ao, x, rfl, _, hx, hok, hrg⟩ := HL.out.at hi
 rw [HX.out] at hx; injection hx with hx; subst hx
 have hu1 := hok.1; have hu2 := hok.2
 simp only [U64] at hu1 hu2
 clear hrg hok
 have hce : decide (e ≤ d) = false := by simp; omega
 have hpq : decide (d ≤ q0) = true := by simp; omega
 obtain ⟨ab2, ao2, y, e9, _, hy, hok2, hrg2⟩ := HL.out.at (j := i - 1) (by omega)
 injection e9 with e9; injection e9 with e9 e10; subst e9; subst e10
 rw [HY.out] at hy; injection hy with hy; subst hy
 have hv2 := hok2.2
 simp only [U64] at hv2
 have hq : w.cell? ⟨ab, ao + (i - 1) * 2 + 1, none⟩ = some (.int .u64 q0) := hrg2 1 _ rfl
 have HQ9 := Qh hq
 have HQ9 := Qh hq
 clear hrg2 hok2 hq
 obtain ⟨j, rfl⟩ : ∃ j, i = j + 1 := ⟨i - 1, by omega⟩
 simp only [Nat.add_sub_cancel] at HQ9
 have hj0 : decide (0 < ((j + 1 : Nat) : Int)) = true := by simp
 have g0 : ∀ z : In (fun y => y.heap[gr]? = some (.cells ([.int .u64 d, .int .u64 e] : List Value).toArray 71 (0, 0)) ∧ y.cell? ⟨ab, ao + j * 2 + 1, none⟩ = some (.int .u64 q0)), z.w.cell? ⟨gr, 0, none⟩ = some (.int .u64 d) := fun z => row_cell z.h.1 0 _ rfl
 have g1 : ∀ z : In (fun y => y.heap[gr]? = some (.cells ([.int .u64 d, .int .u64 e] : List Value).toArray 71 (0, 0)) ∧ y.cell? ⟨ab, ao + j * 2 + 1, none⟩ = some (.int .u64 q0)), z.w.cell? ⟨gr, 1, none⟩ = some (.int .u64 e) := fun z => row_cell z.h.1 1 _ rfl
 have g2 : ∀ z : In (fun y => y.heap[gr]? = some (.cells ([.int .u64 d, .int .u64 e] : List Value).toArray 71 (0, 0)) ∧ y.cell? ⟨ab, ao + j * 2 + 1, none⟩ = some (.int .u64 q0)), z.w.cell? ⟨ab, ao + j * 2 + 1, none⟩ = some (.int .u64 q0) := fun z => z.h.2
 refine wp_plan (.t 0 (.t 1 (.t 2 (.t 3 (.t 4 (.t 5 (.t 6 (.t 7 (.t 8 (.t 9 (.t 10 (.t 11 (.t 12 (.t 13 (.t 14 (.t 15 (.t 16 (.t 17 (.t 18 (.t 19 .done)))))))))))))))))))) (fun y => y.heap[gr]? = some (.cells ([.int .u64 d, .int .u64 e] : List Value).toArray 71 (0, 0)) ∧ y.cell? ⟨ab, ao + j * 2 + 1, none⟩ = some (.int .u64 q0)) (by kernel_rfl) (by kernel_rfl) (by kernel_rfl) (fun c a d v w h => by first | (cases d <;> exact h) | exact HKP.out c a d v w h) ⟨HG.out, HQ9.out⟩ ?_
 haveI hne : Nonempty (In (fun y => y.heap[gr]? = some (.cells ([.int .u64 d, .int .u64 e] : List Value).toArray 71 (0, 0)) ∧ y.cell? ⟨ab, ao + j * 2 + 1, none⟩ = some (.int .u64 q0))) := ⟨⟨w, ⟨HG.out, HQ9.out⟩⟩⟩
 repeat (first | rw [hce] | rw [hpq] | rw [hj0] | (refine plan_t (by rfl) ?_; (first | go_big_quiet_skip | (go_big_quiet_want; go_big_quiet_op; go_big_quiet_on)); refine wpQuiet_nil ?_))
 clear hne
 show Q _ _ _
 exact HK.out _ _ _ _ _ _ _ _ _ _ _ _ _ _ _ _ _ _ _ w.drew (Qh (Below.refl w.heap.size w).drew)
theorem ack_ok {x1 x2 x5 x6 x7 x8 x9 x10 x11 x12 x13 x14 x15 x16 x17 x18 x19 x20 x21 x22 x23 x24 x25 x26 x27 x28 x29 x30 x31 x32 x33 x34 x35 x36 x37 x38 x39 x40 x41 x42 x43 x44 x45 x46 x47 x48 x49 x50 : Value} {a : Option Addr} {n cp gr i : Nat} {rs : List (Int × Int)} {d e p0 q0 : Int} (w : World) {Q : Exit → Act → World → Prop}
  (HL : Hid (rgK.At w a n rs)) (HX : Hid (rs[i]? = some (d, e))) (hi : i < n) (hn : n ≤ 16) (HG : Hid (w.heap[gr]? = some (.cells ([.int .u64 d, .int .u64 e] : List Value).toArray 71 (0, 0)))) (hc : d < e) (h0 : 0 < i) (HY : Hid (rs[i - 1]? = some (p0, q0))) (hp : q0 < d)
  (hQp : ∀ c a d v w, Q (.panic c) (a.put d v) w → Q (.panic c) a w)
  (hQ : ∀ (y30 y31 y32 y33 y34 y35 y36 y37 y38 y39 y40 y41 y42 y43 y44 y45 y46 y47 y48 : Value) (w' : World), Hid (Below w.heap.size w w') → Q .normal ⟨List.toArray (.slice a n cp :: x1 :: x2 :: .int .i64 i :: .pointer (some ⟨gr, 0, none⟩) :: x5 :: x6 :: x7 :: x8 :: x9 :: x10 :: x11 :: x12 :: x13 :: x14 :: x15 :: x16 :: x17 :: x18 :: x19 :: x20 :: x21 :: x22 :: x23 :: x24 :: x25 :: x26 :: x27 :: x28 :: x29 :: y30 :: y31 :: y32 :: y33 :: y34 :: y35 :: y36 :: y37 :: y38 :: y39 :: y40 :: y41 :: y42 :: y43 :: y44 :: y45 :: y46 :: y47 :: y48 :: .bool false :: x50 :: []), []⟩ w') :
  Code.wp Try.prog (((Try.f50.body.bind (subRegion 6)).getD .skip)) Q ⟨List.toArray (.slice a n cp :: x1 :: x2 :: .int .i64 i :: .pointer (some ⟨gr, 0, none⟩) :: x5 :: x6 :: x7 :: x8 :: x9 :: x10 :: x11 :: x12 :: x13 :: x14 :: x15 :: x16 :: x17 :: x18 :: x19 :: x20 :: x21 :: x22 :: x23 :: x24 :: x25 :: x26 :: x27 :: x28 :: x29 :: x30 :: x31 :: x32 :: x33 :: x34 :: x35 :: x36 :: x37 :: x38 :: x39 :: x40 :: x41 :: x42 :: x43 :: x44 :: x45 :: x46 :: x47 :: x48 :: x49 :: x50 :: []), []⟩ w := by
 have HK := Qh hQ; have HKP := Qh hQp
 clear hQ hQp
 conv => arg 2; whnf
 obtain ⟨ab, ao, x, rfl, _, hx, hok, hrg⟩ := HL.out.at hi
 rw [HX.out] at hx; injection hx with hx; subst hx
 have hu1 := hok.1; have hu2 := hok.2
 simp only [U64] at hu1 hu2
 clear hrg hok
 have hce : decide (e ≤ d) = false := by simp; omega
 have hpq : decide (d ≤ q0) = false := by simp; omega
 obtain ⟨ab2, ao2, y, e9, _, hy, hok2, hrg2⟩ := HL.out.at (j := i - 1) (by omega)
 injection e9 with e9; injection e9 with e9 e10; subst e9; subst e10
 rw [HY.out] at hy; injection hy with hy; subst hy
 have hv2 := hok2.2
 simp only [U64] at hv2
 have hq : w.cell? ⟨ab, ao + (i - 1) * 2 + 1, none⟩ = some (.int .u64 q0) := hrg2 1 _ rfl
 have HQ9 := Qh hq
 have HQ9 := Qh hq
 clear hrg2 hok2 hq
 obtain ⟨j, rfl⟩ : ∃ j, i = j + 1 := ⟨i - 1, by omega⟩
 simp only [Nat.add_sub_cancel] at HQ9
 have hj0 : decide (0 < ((j + 1 : Nat) : Int)) = true := by simp
 have g0 : ∀ z : In (fun y => y.heap[gr]? = some (.cells ([.int .u64 d, .int .u64 e] : List Value).toArray 71 (0, 0)) ∧ y.cell? ⟨ab, ao + j * 2 + 1, none⟩ = some (.int .u64 q0)), z.w.cell? ⟨gr, 0, none⟩ = some (.int .u64 d) := fun z => row_cell z.h.1 0 _ rfl
 have g1 : ∀ z : In (fun y => y.heap[gr]? = some (.cells ([.int .u64 d, .int .u64 e] : List Value).toArray 71 (0, 0)) ∧ y.cell? ⟨ab, ao + j * 2 + 1, none⟩ = some (.int .u64 q0)), z.w.cell? ⟨gr, 1, none⟩ = some (.int .u64 e) := fun z => row_cell z.h.1 1 _ rfl
 have g2 : ∀ z : In (fun y => y.heap[gr]? = some (.cells ([.int .u64 d, .int .u64 e] : List Value).toArray 71 (0, 0)) ∧ y.cell? ⟨ab, ao + j * 2 + 1, none⟩ = some (.int .u64 q0)), z.w.cell? ⟨ab, ao + j * 2 + 1, none⟩ = some (.int .u64 q0) := fun z => z.h.2
 refine wp_plan (.t 0 (.t 1 (.t 2 (.t 3 (.t 4 (.t 5 (.t 6 (.t 7 (.t 8 (.t 9 (.t 10 (.t 11 (.t 12 (.t 13 (.t 14 (.t 15 (.t 16 (.t 17 (.t 18 (.t 19 .done)))))))))))))))))))) (fun y => y.heap[gr]? = some (.cells ([.int .u64 d, .int .u64 e] : List Value).toArray 71 (0, 0)) ∧ y.cell? ⟨ab, ao + j * 2 + 1, none⟩ = some (.int .u64 q0)) (by kernel_rfl) (by kernel_rfl) (by kernel_rfl) (fun c a d v w h => by first | (cases d <;> exact h) | exact HKP.out c a d v w h) ⟨HG.out, HQ9.out⟩ ?_
 haveI hne : Nonempty (In (fun y => y.heap[gr]? = some (.cells ([.int .u64 d, .int .u64 e] : List Value).toArray 71 (0, 0)) ∧ y.cell? ⟨ab, ao + j * 2 + 1, none⟩ = some (.int .u64 q0))) := ⟨⟨w, ⟨HG.out, HQ9.out⟩⟩⟩
 repeat (first | rw [hce] | rw [hpq] | rw [hj0] | (refine plan_t (by rfl) ?_; (first | go_big_quiet_skip | (go_big_quiet_want; go_big_quiet_op; go_big_quiet_on)); refine wpQuiet_nil ?_))
 clear hne
 show Q _ _ _
 exact HK.out _ _ _ _ _ _ _ _ _ _ _ _ _ _ _ _ _ _ _ w.drew (Qh (Below.refl w.heap.size w).drew)
theorem ackB_iff {l : List (Int × Int)} : ackB l = true ↔ 1 ≤ l.length ∧ l.length ≤ 16 ∧ (l.getLast?.getD (0, 0)).2 ≤ 4611686018427387904 ∧ risesB l = true := by unfold ackB; simp [and_assoc]
theorem ackB_no {l : List (Int × Int)} (h : ¬ (1 ≤ l.length ∧ l.length ≤ 16 ∧ (l.getLast?.getD (0, 0)).2 ≤ 4611686018427387904 ∧ risesB l = true)) : ackB l = false := by
 cases hb : ackB l with
 | false => rfl
 | true => exact absurd (ackB_iff.1 hb) h
theorem ack4_any (w : World) (a : Option Addr) (n cp : Nat) (rs : List (Int × Int)) (hR : rgK.At w a n rs) (hc : n ≤ cp ∧ cp ≤ 9223372036854775807) :
  Calls Try.prog 50 #[.slice a n cp] w fun e w' => e = .returned (.bool (ackB rs)) ∧ Below w.heap.size w w' := by
 have HL := Qh hR
 have hln : rs.length = n := hR.1.symm
 have HLN := Qh hln
 obtain ⟨hc1, hc2⟩ := hc
 clear hR hln
 by_cases h1 : 1 ≤ n
 ·
  by_cases h16 : n ≤ 16
  ·
   obtain ⟨m, rfl⟩ : ∃ m, n = m + 1 := ⟨n - 1, by omega⟩
   obtain ⟨ab, ao, x, rfl, _, hx, hok, hrg⟩ := HL.out.at (j := m) (by omega)
   have hlast : rs.getLast? = some x := by rw [List.getLast?_eq_getElem?, HLN.out]; exact hx
   have HLAST := Qh hlast
   have hu2 := hok.2
   obtain ⟨q, hq⟩ : ∃ q, x.2 = q := ⟨_, rfl⟩
   have cq : w.cell? ⟨ab, ao + m * 2 + 1, none⟩ = some (.int .u64 q) := by rw [← hq]; exact hrg 1 _ rfl
   have HQ := Qh hq
   rw [hq] at hu2
   obtain ⟨hu3, hu4⟩ := hu2
   clear hx hok hrg hlast hq
   by_cases hqq : q ≤ 4611686018427387904
   ·
    have HQQ := Qh hqq
    go_enter Try.func50, Try.ntmps50
    go_wp2_with fail
    go_loopw [25] (fun s25 wr => ∃ i : Nat, s25 = .int .i64 i ∧ i ≤ m + 1 ∧ Hid (Below w.heap.size w wr) ∧ Hid (risesB (rs.take i) = true)) (fun s _ => (m + 1) - (intOf s).toNat)
    case atStart => exact ⟨0, rfl, by omega, Qh (Below.refl _ _), Qh rfl⟩
    case round =>
     clear cq
     obtain ⟨i, rfl, hi, HB, HA⟩ := hrel
     by_cases hlt : i < m + 1
     ·
      have HL1 := Qh (HL.out.below HB.out)
      obtain ⟨ab2, ao2, y, e9, _, hx, hok, hrg⟩ := HL1.out.at hlt
      injection e9 with e9; injection e9 with e9 e10; subst e9; subst e10
      obtain ⟨d, e⟩ := y
      have HX := Qh hx; have HRG : Hid (wr.rangeAt ab (ao + i * 2) [.int .u64 d, .int .u64 e]) := Qh hrg
      have HTS := Qh (take_snd4 hx)
      clear hx hok hrg
      go_upto_region 6 with (first | (refine wpList_load_mid rfl 71 _ rfl ab (ao + i * 2) rfl [.int .u64 d, .int .u64 e] _ HRG.out Try.underlying71 rfl rfl ?_) | fail)
      change Code.wp _ _ _ _ (wr.alloc (.cells ([.int .u64 d, .int .u64 e] : List Value).toArray 71))
      have hb := (Below.refl wr.heap.size wr).alloc (Nat.le_refl _) (.cells ([.int .u64 d, .int .u64 e] : List Value).toArray 71)
      replace HB := Qh (bl_next HB.out HB.out.size hb)
      replace HL1 := Qh (HL1.out.below hb)
      have HG := Qh (heap_alloc_new wr (.cells ([.int .u64 d, .int .u64 e] : List Value).toArray 71))
      clear hb
      generalize wr.alloc (.cells ([.int .u64 d, .int .u64 e] : List Value).toArray 71) = w1 at HB HL1 HG ⊢
      obtain ⟨gr, hg⟩ : ∃ g, wr.heap.size = g := ⟨_, rfl⟩
      rw [hg] at HG ⊢
      clear hg
      clear HRG
      by_cases hde : d < e
      ·
       by_cases h0 : i = 0
       ·
        refine ack_first _ (p0 := 0) (q0 := 0) HL1 HX hlt h16 HG hde h0 (fun c a d v w h => by cases d <;> exact h) ?_
        rintro _ _ _ _ _ _ _ _ _ _ _ _ _ _ _ _ _ _ _ w9 HB9
        have HN : Hid (risesB (rs.take (i + 1)) = true) := Qh (by rw [HTS.out]; exact risesB_snoc _ _ HA.out (fun z hz => by subst h0; simp at hz) hde)
        replace HB := Qh (bl_next HB.out HB.out.size HB9.out)
        clear HB9 HG HL1 hde
        go_wp2_with fail
        go_roundw
        case rel => exact ⟨i + 1, by go_num, by omega, HB, HN⟩
        case measure => simp [intOf]; omega
       ·
        obtain ⟨⟨p0, q0⟩, hy⟩ : ∃ y, rs[i - 1]? = some y := ⟨rs[i - 1]'(by rw [HLN.out]; omega), List.getElem?_eq_getElem _⟩
        have HY := Qh hy
        have hlt2 := last_take hy
        rw [show i - 1 + 1 = i by omega] at hlt2
        have HLT2 := Qh hlt2
        have hi0 : 0 < i := by omega
        clear hy hlt2 h0
        by_cases hp : q0 < d
        ·
         refine ack_ok _ HL1 HX hlt h16 HG hde hi0 HY hp (fun c a d v w h => by cases d <;> exact h) ?_
         rintro _ _ _ _ _ _ _ _ _ _ _ _ _ _ _ _ _ _ _ w9 HB9
         have HN : Hid (risesB (rs.take (i + 1)) = true) := Qh (by rw [HTS.out]; exact risesB_snoc _ _ HA.out (fun z hz => by rw [HLT2.out] at hz; injection hz with hz; subst hz; exact hp) hde)
         replace HB := Qh (bl_next HB.out HB.out.size HB9.out)
         clear HB9 HG HL1 hde
         go_wp2_with fail
         go_roundw
         case rel => exact ⟨i + 1, by go_num, by omega, HB, HN⟩
         case measure => simp [intOf]; omega
        ·
         refine ack_le _ HL1 HX hlt h16 HG hde hi0 HY hp (fun c a d v w h => by cases d <;> exact h) ?_
         rintro _ _ _ _ _ _ _ _ _ _ _ _ _ _ _ _ _ _ _ w9 HB9
         have HN : Hid (ackB rs = false) := Qh (ackB_no (fun h => by have h9 := rises_take h.2.2.2 (i + 1); rw [HTS.out] at h9; obtain ⟨_, k1, k2⟩ := rises_snoc_inv h9; exact hp (k2 _ HLT2.out)))
         replace HB := Qh (bl_next HB.out HB.out.size HB9.out)
         clear HB9 HG HL1
         go_wp2_with fail
         (try simp only [Exit.inBlock, Exit.then])
         go_ret
         exact ⟨by rw [HN.out]; rfl, HB.out⟩
      ·
       refine ack_ge _ (p0 := 0) (q0 := 0) HL1 HX hlt h16 HG hde (fun c a d v w h => by cases d <;> exact h) ?_
       rintro _ _ _ _ _ _ _ _ _ _ _ _ _ _ _ _ _ _ _ w9 HB9
       have HN : Hid (ackB rs = false) := Qh (ackB_no (fun h => by have h9 := rises_take h.2.2.2 (i + 1); rw [HTS.out] at h9; obtain ⟨_, k1, k2⟩ := rises_snoc_inv h9; exact hde k1))
       replace HB := Qh (bl_next HB.out HB.out.size HB9.out)
       clear HB9 HG HL1
       go_wp2_with fail
       (try simp only [Exit.inBlock, Exit.then])
       go_ret
       exact ⟨by rw [HN.out]; rfl, HB.out⟩
     ·
      obtain rfl : i = m + 1 := by omega
      have HN : Hid (ackB rs = true) := Qh (ackB_iff.2 ⟨by rw [HLN.out]; omega, by rw [HLN.out]; exact h16, by rw [HLAST.out]; simp only [Option.getD_some]; rw [HQ.out]; exact HQQ.out, by have h9 := HA.out; rw [List.take_of_length_le (by rw [HLN.out]; exact Nat.le_refl _)] at h9; exact h9⟩)
      go_wp2_with fail
      (try simp only [Exit.inBlock, Exit.then])
      go_ret
      exact ⟨by rw [HN.out]; rfl, HB.out⟩
   ·
    have HB : Hid (ackB rs = false) := Qh (ackB_no (fun h => by have h9 := h.2.2.1; rw [HLAST.out] at h9; simp only [Option.getD_some] at h9; rw [HQ.out] at h9; exact hqq h9))
    go_enter Try.func50, Try.ntmps50
    go_wp2_with fail
    go_ret
    exact ⟨by rw [HB.out]; rfl, Below.refl _ _⟩
  ·
   have HB : Hid (ackB rs = false) := Qh (ackB_no (fun h => by have := h.2.1; rw [HLN.out] at this; omega))
   go_enter Try.func50, Try.ntmps50
   go_wp2_with fail
   go_ret
   exact ⟨by rw [HB.out]; rfl, Below.refl _ _⟩
 ·
  have HB : Hid (ackB rs = false) := Qh (ackB_no (fun h => by have := h.1; rw [HLN.out] at this; omega))
  go_enter Try.func50, Try.ntmps50
  go_wp2_with fail
  go_ret
  exact ⟨by rw [HB.out]; rfl, Below.refl _ _⟩
end Go.Proofs.Ytmbjepcbokbemaa
