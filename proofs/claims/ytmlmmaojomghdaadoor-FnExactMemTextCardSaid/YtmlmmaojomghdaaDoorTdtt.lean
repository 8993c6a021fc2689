/-
  Operands read as the reference guesses; contacts and coils out of their texts. Plain Lean: nothing of a program stands here. Conditions: none.
-/
import Derived.Test.YtmlmmaojomghdaaDoorTctt
set_option linter.unusedVariables false
set_option linter.unusedSimpArgs false
namespace Go.Sx
open Go

instance (l : Str) : Decidable (Digs l) := inferInstanceAs (Decidable (∀ c ∈ l, 48 ≤ c.toNat ∧ c.toNat ≤ 57))
end Go.Sx
