/-
  Contracts: two memories are compared.
-/
import Derived.Test.YtmlmmaojomghdaaDoorPth
import Derived.Test.YtmlmmaojomghdaaDoorFactsth
set_option linter.unusedVariables false
set_option linter.unusedSimpArgs false
set_option maxRecDepth 100000
set_option maxHeartbeats 4000000
namespace Go.Proofs.YtmlmmaojomghdaaDoor
open Go Go.Sx

theorem fmt64 : FloatKind.f64.format = dbl := rfl

end Go.Proofs.YtmlmmaojomghdaaDoor
