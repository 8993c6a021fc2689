/-
  Contracts: operands of a contact or coil are copied, counted and compared.
-/
import Derived.Test.YtogbbbgmhobfiaaPw2
import Derived.Test.YtogbbbgmhobfiaaFactsw2
import Derived.Test.YtogbbbgmhobfiaaInw2
set_option linter.unusedVariables false
set_option linter.unusedSimpArgs false
set_option maxRecDepth 100000
set_option maxHeartbeats 4000000
namespace Go.Proofs.Ytogbbbgmhobfiaa
open Go Go.Sx

end Go.Proofs.Ytogbbbgmhobfiaa
namespace Go.Proofs.Ytogbbbgmhobfiaa
open Go Go.Sx

theorem i_succ {i : Nat} (h : i < 4611686018427387904) : IntKind.i64.wrap ((i : Int) + 1) = ((i + 1 : Nat) : Int) := by
  rw [wrap_i64 (by omega) (by omega)]; omega

end Go.Proofs.Ytogbbbgmhobfiaa
