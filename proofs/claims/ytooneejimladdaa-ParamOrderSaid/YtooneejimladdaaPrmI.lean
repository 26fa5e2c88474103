/- chapter 6's walks: ParamOrder, any params. -/
import Derived.Test.YtooneejimladdaaPrmH
namespace Go.Proofs.Ytooneejimladdaa
open Go.RowKit
set_option linter.unusedVariables false

theorem order6_any (w : World) (a b c d n turn : Int) (xa : Option Addr) (xl xc : Nat) (xs : List Int) (ha : 0 ≤ a ∧ a < 18446744073709551616) (hb : 0 ≤ b ∧ b < 18446744073709551616) (hc : 0 ≤ c ∧ c < 18446744073709551616) (hd : 0 ≤ d ∧ d < 18446744073709551616) (hn : -9223372036854775808 ≤ n ∧ n ≤ 9223372036854775807)
    (hturn : -9223372036854775808 ≤ turn ∧ turn ≤ 9223372036854775807) (hxc : xl ≤ xc) (hxm : xc ≤ 9223372036854775807) (hX : IntsK .u8 w xa xl xs) :
    Makes Try.prog 6 #[.int .u64 a, .int .u64 b, .int .u64 c, .int .u64 d, .int .i64 n, .int .i64 turn, .slice xa xl xc] w (.bool true) := by
  have HKP := Lib.hid (fun w => kparams_any w a b c d n ha hb hc hd hn)
  have hok := keepM_ok a b c d n
  have hri := keepM_right a b c d n
  generalize keepM a b c d n = P at HKP hok hri
  obtain ⟨i, d0, s, m, f⟩ := P
  obtain ⟨y0, y1, y2, y3, y4, y5, y6, y7, rfl⟩ := len8 hok.len
  exact order6_core w a b c d n turn i d0 s m y0 y1 y2 y3 y4 y5 y6 y7 xa xl xc xs HKP hok hri hturn hxc hxm hX
end Go.Proofs.Ytooneejimladdaa
