/- Contract of wire's form: the number that bytes begin with. Conditions: the slice reads. -/
import Derived.Test.YtmmoopioiheleaaWireA
import Derived.Test.YtmmoopioiheleaaReadM
import Derived.Deep.LoopGhost
namespace Go.Proofs.Ytmmoopioiheleaa
set_option linter.unusedSimpArgs false
set_option linter.unusedVariables false
open Go.RowKit

theorem formR_none {x : Bs} (h : getN x = none) : formR x = (0, 0) := by unfold formR; rw [h]
theorem formR_some {x : Bs} {v : Nat} {r : Bs} (h : getN x = some (v, r)) : formR x = (v, x.length - r.length) := by unfold formR; rw [h]

theorem ret_uv {a b c d : Int} (h1 : a = c) (h2 : b = d) : Ending.returned (.tuple #[.int .u64 a, .int .i64 b]) = Ending.returned (.tuple #[.int .u64 c, .int .i64 d]) := by rw [h1, h2]
theorem u64_eq {a b : Int} (h : a = b) : Value.int .u64 a = Value.int .u64 b := by rw [h]
theorem pow_le {k : Nat} (h : k ≤ 9) : 128 ^ k ≤ 9223372036854775808 := Nat.le_trans (Nat.pow_le_pow_right (by omega) h) (by decide)


end Go.Proofs.Ytmmoopioiheleaa
