/-
  Contracts: bits are put into the memory; real numbers of operands; a scan begins.
-/
import Derived.Test.YtfhnbdlkiemaeaaA
set_option linter.unusedVariables false
set_option linter.unusedSimpArgs false
set_option maxRecDepth 100000
set_option maxHeartbeats 4000000
namespace Go.Proofs.Ytfhnbdlkiemaeaa
open Go Go.Sx

end Go.Proofs.Ytfhnbdlkiemaeaa
