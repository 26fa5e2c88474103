/- chapter 6's walks: ParamTells; params that come in. -/
import Derived.Test.YtooneejimladdaaPrmB
namespace Go.Proofs.Ytooneejimladdaa
open Go.RowKit Go.WideShapes Go.ChangeShapes
set_option linter.unusedVariables false

theorem wpList_append_bytes_g {ops : Array Oper} {rest : List Oper} {o : Oper} {a : Act} {w : World} {Q : Exit → Act → World → Prop} (hw : Region.wanted o (yielded ops a.tmps) = true) (s x : Operand)
    (ho : o.op = .call { callee := .builtin .append, args := #[s, x], argTypes := #[29, 29] })
    (base n : Nat) (v : Value) (xs : List Int) (hs : a.eval s = v) (hown : w.ownsRow base 5 1 v n (xs.map (Value.int .u8))) (xa : Option Addr) (m c : Nat) (bs : List Int) (hx : a.eval x = .slice xa m c) (hI : IntsK .u8 w xa m bs)
    (hb : n + m ≤ 140737488355328) (hbase : base ≤ w.heap.size)
    (h : ∀ v' w', w'.ownsRow base 5 1 v' (n + m) ((xs ++ bs).map (Value.int .u8)) → w.grownBy w' v.ownBlock → wpList Try.prog ops Q rest (a.put o.dst v') w') : wpList Try.prog ops Q (o :: rest) a w := by
  refine wpList_step fun K hK => ?_
  rw [if_pos hw]
  obtain ⟨v', w', hr, h2, h3⟩ := append_bytes w o.type base n v xs hown xa m c bs hI hb hbase
  unfold Oper.wp execOp
  simp only [ho, resolve, invoke, builtin, Sem.run_bind, Sem.run_pure, Result.andThen_ok, List.map_toArray, List.map_cons, List.map_nil, hs, hx, hr]
  exact hK _ _ (h v' w' h2 h3)


theorem one_of_take {cs : List Value} {i : Nat} {v : Value} (h : (cs.drop i).take 1 = [v]) : cs[i]? = some v := by
  have h1 : ((cs.drop i).take 1)[0]? = some v := by rw [h]; rfl
  rw [List.getElem?_take_of_lt (by omega), List.getElem?_drop] at h1
  simpa using h1
theorem params_open {H : Type} {enc : TypeId × Value → H} {w : World} {base b0 : Nat} {r : Reach} {spare : Nat → Bool} {held : Bool} {v : Value} {d : DataW H} {p : List MemPlace}
    (hv : Value.okWide Try.prog w r b0 26 v) (h : DataW.Trod enc Try.prog w base spare held 26 v d p) : ∃ q : Pm, v = q.val ∧ q.ok := by
  simp only [Value.okWide, Try.underlying26] at hv
  obtain ⟨cs, rfl, _, _⟩ := hv
  obtain ⟨fuel, hf⟩ := h
  simp only [Value.cells] at hf
  obtain ⟨hl, m, hfs⟩ := trod_fields Try.underlying26 hf
  obtain ⟨y0, h0⟩ := hfs 0 _ rfl
  obtain ⟨y1, h1⟩ := hfs 1 _ rfl
  obtain ⟨y2, h2⟩ := hfs 2 _ rfl
  obtain ⟨y3, h3⟩ := hfs 3 _ rfl
  obtain ⟨y4, h4⟩ := hfs 4 _ rfl
  obtain ⟨i, hi, _, wi⟩ := DataW.trod_int Try.underlying22 h0
  obtain ⟨dd, hd, _, wd⟩ := DataW.trod_int Try.underlying22 h1
  obtain ⟨s, hs, _, ws⟩ := DataW.trod_int Try.underlying22 h2
  obtain ⟨mm, hm, _, wm⟩ := DataW.trod_int Try.underlying22 h3
  obtain ⟨xs, hxl, wx, hx⟩ := trod_ints_arr Try.underlying24 Try.underlying5 (by kernel_rfl) (by kernel_rfl) h4
  refine ⟨⟨i, dd, s, mm, xs⟩, ?_, ⟨wi, wd, ws, wm, hxl, wx⟩⟩
  have hl12 : cs.toList.length = 12 := hl.trans (by kernel_rfl)
  have e : cs.toList = (⟨i, dd, s, mm, xs⟩ : Pm).row := by
    have g0 := one_of_take (i := 0) hi
    have g1 := one_of_take (i := 1) hd
    have g2 := one_of_take (i := 2) hs
    have g3 := one_of_take (i := 3) hm
    have g4 : (cs.toList.drop 4) = xs.map (Value.int .u8) := by
      have h5 : (cs.toList.drop 4).take 8 = xs.map (Value.int .u8) := hx
      rwa [List.take_of_length_le (by rw [List.length_drop, hl12]; omega)] at h5
    match hcs : cs.toList, hl12 with
    | v0 :: v1 :: v2 :: v3 :: rest, _ =>
      rw [hcs] at g0 g1 g2 g3 g4
      simp at g0 g1 g2 g3 g4
      subst g0 g1 g2 g3
      rw [g4]; rfl
  show Value.agg cs = .agg _
  rw [← e]
theorem encP_len (p : Pm) (h : p.f.length = 8) : 10 ≤ (encP p).length ∧ (encP p).length ≤ 120 := by
  have h1 := onesM_len p 4
  have h2 := putM_le 0
  have h3 : (putM 0).length = 1 := by decide
  have h4 : (putM (8 : Nat)).length = 1 := by decide
  unfold encP
  rw [List.length_append, List.length_append, List.length_append, h, h3, h4]
  omega
theorem encP_wf (p : Pm) (hp : p.ok) (h : rightM p = true) : ∀ x ∈ encP p, (Lit.int .u8 x).wf = true := by
  intro x hx
  have b1 := bdU64 hp.wi; have b2 := bdU64 hp.wd; have b3 := bdU64 hp.ws; have b4 := bdU64 hp.wm
  unfold encP at hx
  rcases List.mem_append.1 hx with h1 | h1
  · exact onesM_wf p h ⟨b1.1, b2.1, b3.1, b4.1⟩ 4 x h1
  · rcases List.mem_append.1 h1 with h1 | h1
    · exact putM_wf 0 (by omega) x h1
    · rcases List.mem_append.1 h1 with h1 | h1
      · exact putM_wf _ (by omega) x h1
      · exact hp.wf x h1

set_option maxHeartbeats 8000000 in
theorem tells6_any (w : World) (a b c d n : Int) (raw : Pm) (xa : Option Addr) (xl xc : Nat) (xs : List Int) (att turn : Int) (ha : 0 ≤ a ∧ a < 18446744073709551616) (hb : 0 ≤ b ∧ b < 18446744073709551616) (hc : 0 ≤ c ∧ c < 18446744073709551616) (hd : 0 ≤ d ∧ d < 18446744073709551616) (hn : -9223372036854775808 ≤ n ∧ n ≤ 9223372036854775807)
    (hraw : raw.ok) (hxc : xl ≤ xc) (hxm : xc ≤ 9223372036854775807) (hX : IntsK .u8 w xa xl xs) (hat : -9223372036854775808 ≤ att ∧ att ≤ 9223372036854775807) (ht : (Lit.int .u8 turn).wf = true) :
    Makes Try.prog 4 #[.int .u64 a, .int .u64 b, .int .u64 c, .int .u64 d, .int .i64 n, raw.val, .slice xa xl xc, .int .i64 att, .int .u8 turn] w (.bool true) := by
  have HKP := Lib.hid (fun w => kparams_any w a b c d n ha hb hc hd hn)
  have hok := keepM_ok a b c d n
  have hri := keepM_right a b c d n
  generalize keepM a b c d n = P at HKP hok hri
  have HEN := Lib.hid (fun w => encodes6_any w P hok)
  have HER := Lib.hid (fun w => encodes6_any w raw hraw)
  have HPE := Lib.hid (fun w => rpencode_any w P hok hri)
  have hle := encP_len P hok.len
  have hwe := encP_wf P hok hri
  obtain ⟨es, hes⟩ : ∃ es, encP P = es := ⟨_, rfl⟩
  rw [hes] at HPE hle hwe
  have HWE := Lib.hid hwe
  have HC60 := Lib.hid (fun w => cut_any w xa xl xc 60 hxc hxm)
  have HC9 := Lib.hid (fun w => cut_any w xa xl xc 9 hxc hxm)
  have HX60 := Lib.hid (hX.pre (min xl 60) (by omega)); have HX9 := Lib.hid (hX.pre (min xl 9) (by omega))
  obtain ⟨L, hL⟩ : ∃ L, es.length = L := ⟨_, rfl⟩
  rw [hL] at HPE hle
  have HLE := Lib.hid hL
  obtain ⟨i, d0, s, m, f⟩ := P
  obtain ⟨y0, y1, y2, y3, y4, y5, y6, y7, rfl⟩ := len8 hok.len
  obtain ⟨i', d', s', m', f'⟩ := raw
  obtain ⟨z0, z1, z2, z3, z4, z5, z6, z7, rfl⟩ := len8 hraw.len
  have HV : Hid (Pm.val ⟨i, d0, s, m, [y0, y1, y2, y3, y4, y5, y6, y7]⟩ = .agg #[.int .u64 i, .int .u64 d0, .int .u64 s, .int .u64 m, .int .u8 y0, .int .u8 y1, .int .u8 y2, .int .u8 y3, .int .u8 y4, .int .u8 y5, .int .u8 y6, .int .u8 y7]) := Lib.hid rfl
  have HVR : Hid (Pm.val ⟨i', d', s', m', [z0, z1, z2, z3, z4, z5, z6, z7]⟩ = .agg #[.int .u64 i', .int .u64 d', .int .u64 s', .int .u64 m', .int .u8 z0, .int .u8 z1, .int .u8 z2, .int .u8 z3, .int .u8 z4, .int .u8 z5, .int .u8 z6, .int .u8 z7]) := Lib.hid rfl
  rw [HV.out] at HKP HEN HPE
  rw [HVR.out] at HER ⊢
  clear hok hri hwe hes hL hX hraw
  go_enter Try.func4, Try.ntmps4
  go_wp2_with fail
  refine Calls.mono (HKP.out _) ?_
  have hrow := heap_alloc_new w (.cells #[.int .u64 i', .int .u64 d', .int .u64 s', .int .u64 m', .int .u8 z0, .int .u8 z1, .int .u8 z2, .int .u8 z3, .int .u8 z4, .int .u8 z5, .int .u8 z6, .int .u8 z7] 26)
  have hbW := (Below.refl w.heap.size w).alloc (Nat.le_refl _) (.cells #[.int .u64 i', .int .u64 d', .int .u64 s', .int .u64 m', .int .u8 z0, .int .u8 z1, .int .u8 z2, .int .u8 z3, .int .u8 z4, .int .u8 z5, .int .u8 z6, .int .u8 z7] 26)
  generalize w.alloc (.cells #[.int .u64 i', .int .u64 d', .int .u64 s', .int .u64 m', .int .u8 z0, .int .u8 z1, .int .u8 z2, .int .u8 z3, .int .u8 z4, .int .u8 z5, .int .u8 z6, .int .u8 z7] 26) = W at hrow hbW ⊢
  obtain ⟨g, hg⟩ : ∃ g, w.heap.size = g := ⟨_, rfl⟩
  rw [hg] at hrow ⊢
  have HG := Lib.hid hg
  clear hg
  rintro e w1 ⟨rfl, hb1⟩
  have hr1 := bl_row hb1 (lt_of_block hrow) hrow
  have hl1 := bl_next hbW hbW.size hb1
  have hrA := heap_alloc_new w1 (.cells #[.int .u64 i, .int .u64 d0, .int .u64 s, .int .u64 m, .int .u8 y0, .int .u8 y1, .int .u8 y2, .int .u8 y3, .int .u8 y4, .int .u8 y5, .int .u8 y6, .int .u8 y7] 26)
  have hbA := (Below.refl w1.heap.size w1).alloc (Nat.le_refl _) (.cells #[.int .u64 i, .int .u64 d0, .int .u64 s, .int .u64 m, .int .u8 y0, .int .u8 y1, .int .u8 y2, .int .u8 y3, .int .u8 y4, .int .u8 y5, .int .u8 y6, .int .u8 y7] 26)
  have HRQ := Lib.hid (bl_row hbA (lt_of_block hr1) hr1); have HRP := Lib.hid hrA; have HL := Lib.hid (bl_next hl1 hl1.size hbA)
  clear hrow hbW hb1 hr1 hl1 hrA hbA
  go_upto_region 2 with fail
  generalize w1.alloc (.cells #[.int .u64 i, .int .u64 d0, .int .u64 s, .int .u64 m, .int .u8 y0, .int .u8 y1, .int .u8 y2, .int .u8 y3, .int .u8 y4, .int .u8 y5, .int .u8 y6, .int .u8 y7] 26) = W1 at HRQ HRP HL ⊢
  generalize w1.heap.size = g1 at HRP ⊢
  obtain ⟨c0, c1, c2, c3, c4, c5, c6, c7, c8, c9, c10, c11⟩ := row12 HRP.out
  go_wp2_with fail
  refine Calls.mono (HPE.out _) ?_
  rintro e w2 ⟨v2, rfl, hb2, ho2⟩
  obtain ⟨b2, cp2, rfl, hcp2⟩ := own_slice ho2
  have hcm2 := own_cap ho2 _ _ _ rfl
  have HO2 := Lib.hid ho2; have HRQ2 := Lib.hid (bl_row hb2 (lt_of_block HRQ.out) HRQ.out); have HRP2 := Lib.hid (bl_row hb2 (lt_of_block HRP.out) HRP.out); have HL2 := Lib.hid (bl_next HL.out HL.out.size hb2)
  have hg1l := lt_of_block HRP.out
  have hgl := lt_of_block HRQ.out
  clear hb2 ho2 c0 c1 c2 c3 c4 c5 c6 c7 c8 c9 c10 c11
  go_wp2_with fail
  refine Calls.mono (within_any _ att 0 (L - 1) (by omega) (by omega) (by omega) hat) ?_
  rintro e w3 ⟨rfl, rfl⟩
  have hj := within_in att 0 (L - 1) (by omega)
  obtain ⟨j, ej⟩ : ∃ j : Nat, within att 0 (L - 1) = j := ⟨(within att 0 (L - 1)).toNat, by omega⟩
  rw [ej] at hj ⊢
  clear ej
  have hel := HLE.out
  obtain ⟨x, hx⟩ : ∃ x, es[j]? = some x := ⟨_, List.getElem?_eq_getElem (by omega)⟩
  obtain ⟨g2, rfl, hg2, hg2l, hfz, hcells, _⟩ := own_set HO2.out (Below.refl _ _) (i := j) (by omega) (.int .u8 0) rfl
  have hc2 : w2.cell? ⟨g2, j, none⟩ = some (.int .u8 x) := hcells _ _ (by rw [List.getElem?_map, hx]; rfl)
  have hput := own_put HO2.out (i := j) (by omega) (.int .u8 (bits .xor .u8 x turn)) rfl
  rw [← List.map_set] at hput
  have hwy : ∀ y ∈ es.set j (bits .xor .u8 x turn), (Lit.int .u8 y).wf = true := by
    intro y hy
    rcases List.mem_or_eq_of_mem_set hy with h | h
    · exact HWE.out y h
    · rw [h]; exact wf_bits _ _ _ _
  obtain ⟨_, _, e5, hc5, hi5, _⟩ := ints_of_own hput hwy
  injection e5 with e51 e52 e53
  subst e51 e53
  have hgs := grown_setCell w2 g2 j (.int .u8 (bits .xor .u8 x turn))
  have HL3 := Lib.hid (HL2.out.grown hgs HL2.out.size (by intro k hk; injection hk with hk; have := HL.out.size; omega))
  have HRQ3 := Lib.hid (grown_row hgs (b := g) (by intro e; injection e with e; omega) HRQ2.out)
  have HRP3 := Lib.hid (grown_row hgs (b := g1) (by intro e; injection e with e; omega) HRP2.out)
  have HI5 := Lib.hid hi5
  clear hcells hx hput hwy hi5 e52 hgs hel
  go_upto_region 4 with fail
  generalize w2.setCell ⟨g2, j, none⟩ (.int .u8 (bits .xor .u8 x turn)) = W3 at HL3 HRQ3 HRP3 HI5 ⊢
  clear hc2 hfz hg2l
  obtain ⟨c0, c1, c2, c3, c4, c5, c6, c7, c8, c9, c10, c11⟩ := row12 HRP3.out
  go_wp2_with fail
  refine Calls.mono (HEN.out _) ?_
  rintro e w4 ⟨rfl, hb4⟩
  have HL4 := Lib.hid (bl_next HL3.out HL3.out.size hb4); have HRQ4 := Lib.hid (bl_row hb4 (lt_of_block HRQ3.out) HRQ3.out); have HRP4 := Lib.hid (bl_row hb4 (lt_of_block HRP3.out) HRP3.out); have HI6 := Lib.hid (HI5.out.below hb4)
  clear hb4 c0 c1 c2 c3 c4 c5 c6 c7 c8 c9 c10 c11 HL3 HRQ3 HRP3 HI5
  obtain ⟨c0, c1, c2, c3, c4, c5, c6, c7, c8, c9, c10, c11⟩ := row12 HRQ4.out
  go_wp2_with fail
  refine Calls.mono (HER.out _) ?_
  rintro e w5 ⟨rfl, hb5⟩
  have HL5 := Lib.hid (bl_next HL4.out HL4.out.size hb5); have HRP5 := Lib.hid (bl_row hb5 (lt_of_block HRP4.out) HRP4.out); have HI7 := Lib.hid (HI6.out.below hb5)
  clear hb5 c0 c1 c2 c3 c4 c5 c6 c7 c8 c9 c10 c11 HL4 HRQ4 HRP4 HI6
  go_wp2_with fail
  refine Calls.mono (decodes6_any _ _ _ _ _ (by omega) hc5 hcm2 HI7.out) ?_
  rintro e w6 ⟨rfl, hb6⟩
  have HL6 := Lib.hid (bl_next HL5.out HL5.out.size hb6); have HRP6 := Lib.hid (bl_row hb6 (lt_of_block HRP5.out) HRP5.out)
  clear hb6 HL5 HRP5 HI7
  go_wp2_with fail
  refine Calls.mono (HC60.out _) ?_
  rintro e w7 ⟨rfl, rfl⟩
  go_wp2_with fail
  refine Calls.mono (decodes6_any _ xa (min xl 60) xc _ (by omega) (by omega) hxm (HX60.out.below HL6.out)) ?_
  rintro e w7 ⟨rfl, hb7⟩
  have HL7 := Lib.hid (bl_next HL6.out HL6.out.size hb7); have HRP7 := Lib.hid (bl_row hb7 (lt_of_block HRP6.out) HRP6.out)
  clear hb7 HL6 HRP6
  obtain ⟨c0, c1, c2, c3, c4, c5, c6, c7, c8, c9, c10, c11⟩ := row12 HRP7.out
  go_wp2_with fail
  refine Calls.mono (HPE.out _) ?_
  rintro e w8 ⟨v8, rfl, hb8, ho8⟩
  have HL8 := Lib.hid (bl_next HL7.out HL7.out.size hb8); have HO8 := Lib.hid (ho8.mono HL7.out.size)
  clear hb8 ho8 c0 c1 c2 c3 c4 c5 c6 c7 c8 c9 c10 c11 HL7 HRP7
  go_wp2_with fail
  refine Calls.mono (HC9.out _) ?_
  rintro e w9 ⟨rfl, rfl⟩
  obtain ⟨q, hq, hq9, hqx⟩ : ∃ q, min xl 9 = q ∧ q ≤ 9 ∧ q ≤ xl := ⟨_, rfl, by omega, by omega⟩
  rw [hq] at HX9 ⊢
  clear hq
  have HX8 := Lib.hid (HX9.out.below HL8.out)
  have hs8 := HL8.out.size
  go_wp2_with (first | (at_builtin; refine wpList_append_bytes_g (by first | rfl | kernel_rfl) _ _ rfl w.heap.size _ _ es rfl HO8.out _ _ _ _ rfl HX8.out (by omega) hs8 ?_; intro v9 w9 hown hgrow) | fail)
  obtain ⟨b9, cp9, rfl, hc9, hi9, _⟩ := ints_of_own hown (by
    intro y hy
    rcases List.mem_append.1 hy with h | h
    · exact HWE.out y h
    · exact HX8.out.2.1 y h)
  have hcm9 := own_cap hown _ _ _ rfl
  have HL9 := Lib.hid (HL8.out.grown hgrow hs8 (own_base HO8.out))
  have HI9 := Lib.hid hi9
  clear hown hgrow hi9 HO8 HL8
  go_wp2_with fail
  refine Calls.mono (decodes6_any _ b9 (L + q) cp9 _ (by omega) hc9 hcm9 HI9.out) ?_
  rintro e w10 ⟨rfl, hb10⟩
  have HL10 := Lib.hid (bl_next HL9.out HL9.out.size hb10)
  clear hb10 HL9
  go_wp2_with fail
  refine Calls.mono (known6_any _) ?_
  rintro e w11 ⟨rfl, hb11⟩
  have HL11 := Lib.hid (bl_next HL10.out HL10.out.size hb11)
  clear hb11 HL10
  go_wp2_with fail
  go_ret
  exact ⟨rfl, HL11.out⟩
end Go.Proofs.Ytooneejimladdaa
