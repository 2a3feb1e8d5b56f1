/- Numbers and places as numbers, and back. -/
import Derived.Test.YtambpbcdnhekbaaBits
import Derived.Test.YtambpbcdnhekbaaCat
import Derived.Test.YtambpbcdnhekbaaDims
set_option linter.unusedSimpArgs false
set_option linter.unusedVariables false
set_option maxHeartbeats 4000000
set_option maxRecDepth 100000
namespace Go.Proofs.Ytambpbcdnhekbaa
open Go.Ev
theorem wrapu_neg {v : Int} (h1 : -9223372036854775808 ≤ v) (h2 : v < 0) : IntKind.u64.wrap v = v + 18446744073709551616 := by
  simp only [IntKind.wrap, IntKind.signed, IntKind.bits]
  simp
  omega
theorem wrapi_big {u : Int} (h1 : 9223372036854775808 ≤ u) (h2 : u ≤ 18446744073709551615) : IntKind.i64.wrap u = u - 18446744073709551616 := by
  simp only [IntKind.wrap, IntKind.signed, IntKind.bits]
  simp
  omega
theorem wrap8 (x : Int) : IntKind.u8.wrap x = x % 256 := by
  simp only [IntKind.wrap, IntKind.signed, IntKind.bits]
  simp
theorem wrapu_over {x : Int} (h1 : 18446744073709551616 ≤ x) (h2 : x < 36893488147419103232) : IntKind.u64.wrap x = x - 18446744073709551616 := by
  simp only [IntKind.wrap, IntKind.signed, IntKind.bits]
  simp
  omega
def inU (u : Int) : Prop := 0 ≤ u ∧ u ≤ 18446744073709551615
def inU32 (u : Int) : Prop := 0 ≤ u ∧ u ≤ 4294967295
def zigN (v : Int) : Int := if v < 0 then -2 * v - 1 else 2 * v
def zagN (u : Int) : Int := if u % 2 = 0 then u / 2 else -(u / 2) - 1
theorem fdiv_eq (a : Int) (b : Nat) : a.fdiv (b : Int) = a / (b : Int) := Int.fdiv_eq_ediv_of_nonneg a (by omega)
/-! ### Places -/
def key4 (a b c d : Int) : Int := ((a * 256 + b) * 256 + c) * 256 + d
end Go.Proofs.Ytambpbcdnhekbaa
