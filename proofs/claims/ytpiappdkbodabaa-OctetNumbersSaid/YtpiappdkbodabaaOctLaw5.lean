/- chapter 2's walks: OctetTells -/
import Derived.Test.YtpiappdkbodabaaOctLaw4
namespace Go.Proofs.Ytpiappdkbodabaa
open Go.RowKit
set_option linter.unusedVariables false

theorem wpList_append_bytes_g {ops : Array Oper} {rest : List Oper} {o : Oper} {a : Act} {w : World} {Q : Exit → Act → World → Prop} (hw : Region.wanted o (yielded ops a.tmps) = true) (s x : Operand)
    (ho : o.op = .call { callee := .builtin .append, args := #[s, x], argTypes := #[22, 22] })
    (base n : Nat) (v : Value) (xs : List Int) (hs : a.eval s = v) (hown : w.ownsRow base 5 1 v n (xs.map (Value.int .u8))) (xa : Option Addr) (m c : Nat) (bs : List Int) (hx : a.eval x = .slice xa m c) (hI : IntsK .u8 w xa m bs)
    (hb : n + m ≤ 140737488355328) (hbase : base ≤ w.heap.size)
    (h : ∀ v' w', w'.ownsRow base 5 1 v' (n + m) ((xs ++ bs).map (Value.int .u8)) → w.grownBy w' v.ownBlock → wpList Try.prog ops Q rest (a.put o.dst v') w') : wpList Try.prog ops Q (o :: rest) a w := by
  refine wpList_step fun K hK => ?_
  rw [if_pos hw]
  obtain ⟨v', w', hr, h2, h3⟩ := append_bytes w o.type base n v xs hown xa m c bs hI hb hbase
  unfold Oper.wp execOp
  simp only [ho, resolve, invoke, builtin, Sem.run_bind, Sem.run_pure, Result.andThen_ok, List.map_toArray, List.map_cons, List.map_nil, hs, hx, hr]
  exact hK _ _ (h v' w' h2 h3)

set_option maxRecDepth 100000 in
set_option maxHeartbeats 4000000 in
theorem tells2_any (w : World) (la : Option Addr) (llen lcap : Nat) (qs : Nat → Q) (ma : Option Addr) (mlen mcap : Nat) (qm : Nat → Q) (a : Option Addr) (len cap : Nat) (bs : List Int) (att turn : Int)
    (hl : llen ≤ 4611686018427387904) (hA : Asks w la llen qs) (hml : mlen ≤ 4611686018427387904) (hM : Asks w ma mlen qm) (hlen : len ≤ cap) (hcap : cap ≤ 9223372036854775807) (hb : IntsK .u8 w a len bs)
    (hat : -9223372036854775808 ≤ att ∧ att ≤ 9223372036854775807) (ht : (Lit.int .u8 turn).wf = true) :
    Makes Try.prog 5 #[.slice la llen lcap, .slice ma mlen mcap, .slice a len cap, .int .i64 att, .int .u8 turn] w (.bool true) := by
  have HW := Lib.hid (written2_any w la llen lcap qs hl hA)
  have hwl : (wM qs (min llen 15)).length ≤ 570 := by have := wM_len qs (min llen 15); omega
  have hwf : ∀ x ∈ wM qs (min llen 15), (Lit.int .u8 x).wf = true := by
    rcases hA with h | ⟨_, _, _, _, h⟩
    · obtain rfl : llen = 0 := h
      simp [wM]
    · exact wM_wf (fun j hj => (h j hj).1) _ (by omega)
  obtain ⟨xs, exs⟩ : ∃ xs, wM qs (min llen 15) = xs := ⟨_, rfl⟩
  rw [exs] at HW hwl hwf
  clear exs
  have HWF := Lib.hid hwf
  obtain ⟨m, hm, hm1, hm2⟩ : ∃ m, min len 60 = m ∧ m ≤ 60 ∧ m ≤ len := ⟨_, rfl, by omega, by omega⟩
  have HB := Lib.hid (hb.pre m hm2)
  have HCUT := Lib.hid (fun w => cut_any w a len cap 60 hlen hcap)
  rw [hm] at HCUT
  have HA := Lib.hid hA; have HM := Lib.hid hM; have HT := Lib.hid ht
  clear hA hM hb hm ht hwf
  go_enter Try.func5, Try.ntmps5
  go_wp2_with fail
  refine Calls.mono HW.out ?_
  rintro e w1 ⟨a1, cap1, u1, rfl, hc1, hcm1, hi1, ho1, hb1⟩
  obtain ⟨b2, cp2, e2, hc2, hi2, _⟩ := ints_of_own ho1 HWF.out
  subst e2
  obtain ⟨n, en⟩ : ∃ n, xs.length = n := ⟨_, rfl⟩
  rw [en] at hi1 hi2 ho1 hc1 hc2 hwl ⊢
  have hcm2 := own_cap ho1 _ _ _ rfl
  have hconv1 : (convert 22 9 (.slice a1 n cap1)).run Try.prog w1 = .ok (.string (strOfNums xs)) w1 := conv_ints _ 5 _ _ Try.underlying22 Try.underlying5 Try.underlying9 hi1
  have hconv2 : (convert 22 9 (.slice b2 n cp2)).run Try.prog w1 = .ok (.string (strOfNums xs)) w1 := conv_ints _ 5 _ _ Try.underlying22 Try.underlying5 Try.underlying9 hi2
  have HO1 := Lib.hid ho1; have HI2 := Lib.hid hi2; have H1 := Lib.hid hb1
  clear hi1 ho1 hb1 hi2
  go_upto_region 4 with fail
  clear hconv1 hconv2
  go_upto_region 5 with (first | (at_builtin; refine wpList_append_bytes rfl _ _ rfl w1.heap.size 0 (.slice (some ⟨w1.heap.size, 0, none⟩) 0 0) [] rfl (World.ownsRow_made _ _ _ (Nat.le_refl _) (by unfold maxLen; omega) (by rfl)) _ _ _ _ rfl (HI2.out.below ((Below.refl _ _).alloc (Nat.le_refl _) _)) (by omega) (by simp) ?_; intro v3 w3 hown hgrow; rw [Nat.zero_add, List.nil_append] at hown; obtain ⟨b3, cp3, rfl, _⟩ := own_slice hown; have HO3 := Lib.hid hown; have HL3 := Lib.hid (((Below.refl w1.heap.size w1).alloc (Nat.le_refl _) _).grown hgrow (by simp) (by intro k hk; simp [Value.ownBlock] at hk; omega)); clear hown hgrow) | fail)
  go_upto_if 35 with fail
  go_cut [] (fun wc => ∃ ys : List Int, Hid (∀ x ∈ ys, (Lit.int .u8 x).wf = true) ∧ Hid (Below w1.heap.size w1 wc) ∧ Hid (wc.ownsRow w1.heap.size 5 1 (.slice b3 n cp3) n (ys.map (Value.int .u8))))
  case first =>
    by_cases hn0 : n = 0
    · subst hn0
      go_wp2_with fail
      go_meet
      case rel => exact ⟨xs, HWF, HL3, HO3⟩
    · go_wp2_with fail
      refine Calls.mono (within_any _ att 0 (n - 1) (by omega) (by omega) (by omega) hat) ?_
      rintro e w4 ⟨rfl, rfl⟩
      have hj := within_in att 0 (n - 1) (by omega)
      obtain ⟨j, ej⟩ : ∃ j : Nat, within att 0 (n - 1) = j := ⟨(within att 0 (n - 1)).toNat, by omega⟩
      rw [ej] at hj ⊢
      clear ej
      obtain ⟨x, hx⟩ : ∃ x, xs[j]? = some x := ⟨_, List.getElem?_eq_getElem (by omega)⟩
      obtain ⟨g, rfl, hg, hgl, hfz, hcells, _⟩ := own_set HO3.out (Below.refl _ _) (i := j) (by omega) (.int .u8 0) rfl
      have hc : w3.cell? ⟨g, j, none⟩ = some (.int .u8 x) := hcells _ _ (by rw [List.getElem?_map, hx]; rfl)
      clear hcells hx
      go_wp2_with fail
      have hput := own_put HO3.out (i := j) (by omega) (.int .u8 (bits .xor .u8 x turn)) rfl
      rw [← List.map_set] at hput
      have HPUT := Lib.hid hput
      have HLP := Lib.hid (HL3.out.setCell (p := ⟨g, j, none⟩) hg (.int .u8 (bits .xor .u8 x turn)))
      have HWY : Hid (∀ y ∈ xs.set j (bits .xor .u8 x turn), (Lit.int .u8 y).wf = true) := Lib.hid (by
        intro y hy
        rcases List.mem_or_eq_of_mem_set hy with h | h
        · exact HWF.out y h
        · rw [h]; exact wf_bits _ _ _ _)
      clear hput
      go_meet
      case rel => exact ⟨_, HWY, HLP, HPUT⟩
  case rest =>
    obtain ⟨ys, HWY, HL4, HO4⟩ := hcut
    clear HO3 HL3
    obtain ⟨b5, cp5, e5, hc5, hi5, _⟩ := ints_of_own HO4.out HWY.out
    injection e5 with e51 e52 e53
    subst e51 e53
    have hcm5 := own_cap HO4.out _ _ _ rfl
    have HI5 := Lib.hid hi5
    have hs1 := H1.out.size
    have H4 := Lib.hid (H1.out.trans (HL4.out.mono hs1))
    clear hi5 e52
    go_wp2_with fail
    refine Calls.mono (HCUT.out _) ?_
    rintro e w5 ⟨rfl, rfl⟩
    go_wp2_with fail
    refine Calls.mono (reads2_any wc b3 n cp3 ys la llen lcap qs (by omega) hc5 hcm5 HI5.out hl (HA.out.below H4.out)) ?_
    rintro e w6 ⟨rfl, h6⟩
    have H6 := Lib.hid (bl_next H4.out H4.out.size h6)
    have HX6 := Lib.hid (own_below (own_below HO1.out HL4.out) (h6.mono (Nat.le_refl _)))
    clear h6
    go_wp2_with fail
    obtain ⟨_, _, e7, _, hi7, _⟩ := ints_of_own HX6.out HWF.out
    injection e7 with e71 e72 e73
    subst e71 e73
    refine Calls.mono (reads2_any w6 b2 n cp2 xs ma mlen mcap qm (by omega) hc2 hcm2 hi7 hml (HM.out.below H6.out)) ?_
    rintro e w7 ⟨rfl, h7⟩
    have H7 := Lib.hid (bl_next H6.out H6.out.size h7)
    have HX7 := Lib.hid (own_below HX6.out h7)
    clear h7 hi7
    go_wp2_with fail
    refine Calls.mono (reads2_any w7 a m cap _ ma mlen mcap qm (by omega) (by omega) hcap (HB.out.below H7.out) hml (HM.out.below H7.out)) ?_
    rintro e w8 ⟨rfl, h8⟩
    have H8 := Lib.hid (bl_next H7.out H7.out.size h8)
    have HX8 := Lib.hid (own_below HX7.out h8)
    have HB8 := Lib.hid (HB.out.below H8.out)
    have hs8 := H8.out.size
    clear h8
    go_wp2_with (first | (at_builtin; refine wpList_append_bytes_g (by first | rfl | kernel_rfl) _ _ rfl w.heap.size _ _ xs rfl HX8.out _ _ _ _ rfl HB8.out (by omega) hs8 ?_; intro v9 w9 hown hgrow; have HO9 := Lib.hid hown; have H9 := Lib.hid (H8.out.grown hgrow hs8 (own_base HX8.out)); obtain ⟨b9, cp9, rfl, hc9, hi9, _⟩ := ints_of_own hown (by
        intro y hy
        rcases List.mem_append.1 hy with h | h
        · exact HWF.out y h
        · exact HB8.out.2.1 y h); have hcm9 := own_cap HO9.out _ _ _ rfl; have HI9 := Lib.hid hi9; clear hown hgrow hi9) | fail)
    refine Calls.mono (reads2_any w9 b9 (n + m) cp9 _ la llen lcap qs (by omega) hc9 hcm9 HI9.out hl (HA.out.below H9.out)) ?_
    rintro e w10 ⟨rfl, h10⟩
    have H10 := Lib.hid (bl_next H9.out H9.out.size h10)
    clear h10
    go_wp2_with fail
    refine Calls.mono (known2_any _) ?_
    rintro e w11 ⟨rfl, h11⟩
    have H11 := Lib.hid (bl_next H10.out H10.out.size h11); clear h11
    go_wp2_with fail
    go_ret
    exact ⟨rfl, H11.out⟩
end Go.Proofs.Ytpiappdkbodabaa
