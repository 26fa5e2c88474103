/- chapter 3's walks: PnumNumbers -/
import Derived.Test.YtamedmdpkepnlaaPnumLaw
namespace Go.Proofs.Ytamedmdpkepnlaa
open Go.RowKit
set_option linter.unusedVariables false

def lows (n : Int) : List Int := [0, 1, 127, 128, 255, 256, 32768, 4294967295, n % 4294967296]
theorem lows_wf (n : Int) : ∀ x ∈ lows n, (Lit.int .u32 x).wf = true := by
  intro x hx
  have h : 0 ≤ x ∧ x < 4294967296 := by
    simp only [lows, List.mem_cons, List.not_mem_nil, or_false] at hx; omega
  simp [Lit.wf, IntKind.min, IntKind.max, IntKind.signed, IntKind.bits]; omega
set_option maxRecDepth 100000 in
set_option maxHeartbeats 4000000 in
theorem numbers3_any (w : World) : Makes Try.prog 3 #[] w (.bool true) := by
  go_enter Try.func3, Try.ntmps3
  go_wp2_with fail
  go_loopw [1] (fun s1 wr => ∃ i : Nat, s1 = .int .i64 i ∧ i ≤ 63 ∧ Hid (Below w.heap.size w wr)) (fun s1 _ => 63 - (intOf s1).toNat)
  case atStart => exact ⟨0, rfl, by omega, Lib.hid (Below.refl _ _)⟩
  case round =>
    obtain ⟨i, rfl, hi, HB1⟩ := hrel
    by_cases hlt : i < 63
    · go_wp2_with fail
      generalize decide ((i : Int) < 63) = q8
      go_loopw [2] (fun s2 wr => ∃ d : Nat, s2 = .int .u64 d ∧ d ≤ 4 ∧ Hid (Below w.heap.size w wr)) (fun s2 _ => 4 - (intOf s2).toNat)
      case atStart => exact ⟨0, rfl, by omega, HB1⟩
      case round =>
        obtain ⟨d, rfl, hd, HB2⟩ := hrel
        by_cases hltd : d < 4
        · go_wp2_with fail
          generalize decide ((d : Int) < 4) = q12
          obtain ⟨n, hn⟩ : ∃ n, IntKind.u64.wrap (IntKind.u64.wrap (IntKind.u64.wrap (2 ^ i) - 2) + ↑d) = n := ⟨_, rfl⟩
          have hn2 := u64_bounds (wf_wrap .u64 (IntKind.u64.wrap (IntKind.u64.wrap (2 ^ i) - 2) + ↑d))
          have hsh := u64_bounds (wf_wrap .u64 (2 ^ (i / 2)))
          rw [hn] at hn2 ⊢
          clear hn
          go_loopw [4] (fun s4 wr => ∃ k : Int, s4 = .int .i64 k ∧ -1 ≤ k ∧ k ≤ 7 ∧ Hid (Below w.heap.size w wr)) (fun s4 _ => (7 - (intOf s4)).toNat)
          case atStart => exact ⟨-1, rfl, by omega, by omega, HB2⟩
          case round =>
            obtain ⟨k, rfl, hk0, hk1, HB3⟩ := hrel
            by_cases hltk : k < 7
            · have HR := Lib.hid (heap_alloc_new wr (.cells ((lows n).map (Value.int .u32)).toArray 24))
              have HB4 := Lib.hid (HB3.out.alloc HB3.out.size (.cells ((lows n).map (Value.int .u32)).toArray 24))
              go_upto_region 12 with fail
              change Code.wp _ _ _ _ (wr.alloc (.cells ((lows n).map (Value.int .u32)).toArray 24))
              generalize wr.alloc (.cells ((lows n).map (Value.int .u32)).toArray 24) = W1 at HR HB4 ⊢
              have HI := Lib.hid (IntsK.of_row HR.out (lows_wf n))
              clear HR
              go_loopw [29] (fun s29 wr' => ∃ j : Nat, s29 = .int .i64 j ∧ j ≤ 9 ∧ Hid (Below W1.heap.size W1 wr')) (fun s29 _ => 9 - (intOf s29).toNat)
              case atStart => exact ⟨0, rfl, by omega, Lib.hid (Below.refl _ _)⟩
              case round =>
                obtain ⟨j, rfl, hj, HB5⟩ := hrel
                by_cases hltj : j < 9
                · obtain ⟨b, off, x, e, hbl, hx, hwx, hc⟩ := HI.out.at HB5.out (j := j) hltj
                  injection e with e; injection e with e1 e2 e3; subst e1; subst e2
                  rw [Nat.zero_add] at hc
                  have hx2 := u32_bounds hwx
                  clear hx hwx e3
                  go_wp2_with fail
                  refine Calls.mono (same3_any _ n (n / 2) x k true hn2 ⟨by omega, by omega⟩ hx2) ?_
                  rintro e w2 ⟨rfl, h2⟩
                  have HC := Lib.hid (bl_next HB5.out HB5.out.size h2); clear h2
                  go_wp2_with fail
                  refine Calls.mono (same3_any _ n (IntKind.u64.wrap (2 ^ (i / 2))) x k _ hn2 hsh hx2) ?_
                  rintro e w3 ⟨rfl, h3⟩
                  have HD := Lib.hid (bl_next HC.out HC.out.size h3); clear h3
                  go_wp2_with fail
                  go_roundw
                  case rel => exact ⟨j + 1, by go_num, by omega, HD⟩
                  case measure => simp [intOf]; omega
                · go_wp2_with fail
                  go_roundw
                  case rel => exact ⟨k + 1, rfl, by omega, by omega, Lib.hid (HB4.out.trans (HB5.out.mono HB4.out.size))⟩
                  case measure => simp [intOf]; omega
            · go_wp2_with fail
              go_roundw
              case rel => exact ⟨d + 1, by go_num, by omega, HB3⟩
              case measure => simp [intOf]; omega
        · go_wp2_with fail
          go_roundw
          case rel => exact ⟨i + 1, by go_num, by omega, HB2⟩
          case measure => simp [intOf]; omega
    · go_wp2_with fail
      refine Calls.mono (same3_any _ 18446744073709551615 5 9 4 true (by omega) (by omega) (by omega)) ?_
      rintro e w2 ⟨rfl, h2⟩
      have H2 := Lib.hid (bl_next HB1.out HB1.out.size h2); clear h2
      go_wp2_with fail
      refine Calls.mono (same3_any _ 18446744073709551615 5 9 1 false (by omega) (by omega) (by omega)) ?_
      rintro e w3 ⟨rfl, h3⟩
      have H3 := Lib.hid (bl_next H2.out H2.out.size h3); clear h3
      go_wp2_with fail
      refine Calls.mono (same3_any _ 4611686018427387903 4611686018427387903 0 2 true (by omega) (by omega) (by omega)) ?_
      rintro e w4 ⟨rfl, h4⟩
      have H4 := Lib.hid (bl_next H3.out H3.out.size h4); clear h4
      go_wp2_with fail
      refine Calls.mono (known3_any _) ?_
      rintro e w5 ⟨rfl, h5⟩
      have H5 := Lib.hid (bl_next H4.out H4.out.size h5); clear h5
      go_wp2_with fail
      go_ret
      exact ⟨rfl, H5.out⟩
end Go.Proofs.Ytamedmdpkepnlaa
