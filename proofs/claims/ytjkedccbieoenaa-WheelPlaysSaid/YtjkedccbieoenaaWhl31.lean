/- wheel: WheelPlays. -/
import Derived.Test.YtjkedccbieoenaaWhl30
namespace Go.Proofs.Ytjkedccbieoenaa
open Go.RowKit
set_option linter.unusedVariables false
set_option linter.unusedSimpArgs false

set_option maxRecDepth 100000 in
set_option maxHeartbeats 4000000 in
theorem plays24_any (w : World) (start : Int) (a : Option Addr) (len cap : Nat) (hA : Aks w a len) :
    Makes Try.prog 7 #[.int .i64 start, .slice a len cap] w (.bool true) := by
  have HA := Lib.hid hA
  have HPL := Lib.hid (fun W s nr (hb : Below w.heap.size w W) hnr => play24_any W s a len cap nr (HA.out.below hb) hnr)
  have HKN := Lib.hid known24_any
  have HB := Lib.hid (Below.refl w.heap.size w)
  clear hA
  go_enter Try.func7, Try.ntmps7
  go_wp2_with fail
  refine Calls.mono (HPL.out _ _ 0 HB.out (by omega)) ?_
  rintro e w1 ⟨rfl, hb⟩
  replace HB := Lib.hid (bl_next HB.out HB.out.size hb)
  clear hb
  go_wp2_with fail
  refine Calls.mono (HPL.out _ _ 200 HB.out (by omega)) ?_
  rintro e w2 ⟨rfl, hb⟩
  replace HB := Lib.hid (bl_next HB.out HB.out.size hb)
  clear hb
  go_wp2_with fail
  refine Calls.mono (HPL.out _ _ 5000 HB.out (by omega)) ?_
  rintro e w3 ⟨rfl, hb⟩
  replace HB := Lib.hid (bl_next HB.out HB.out.size hb)
  clear hb
  go_wp2_with fail
  refine Calls.mono (HPL.out _ _ 16777216 HB.out (by omega)) ?_
  rintro e w4 ⟨rfl, hb⟩
  replace HB := Lib.hid (bl_next HB.out HB.out.size hb)
  clear hb
  go_wp2_with fail
  refine Calls.mono (HKN.out _) ?_
  rintro e w9 ⟨rfl, hb⟩
  replace HB := Lib.hid (bl_next HB.out HB.out.size hb)
  clear hb
  go_wp2_with fail
  go_ret
  exact ⟨rfl, HB.out⟩
end Go.Proofs.Ytjkedccbieoenaa
