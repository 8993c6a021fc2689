/-
  Operands read as the reference guesses; contacts and coils out of their texts. Plain Lean: nothing of a program stands here. Conditions: none.
-/
import Derived.Test.YtmlmmaojomghdaaDoorTcth
set_option linter.unusedVariables false
set_option linter.unusedSimpArgs false
namespace Go.Sx
open Go

instance (l : Str) : Decidable (Digs l) := inferInstanceAs (Decidable (∀ c ∈ l, 48 ≤ c.toNat ∧ c.toNat ≤ 57))
theorem idxL_hit {c : UInt8} {a b : Str} (h : c ∉ a) : idxL c (a ++ c :: b) = a.length := by
  induction a with
  | nil => simp [idxL]
  | cons x a ih =>
    have h1 : ¬ x = c := fun e => h (by simp [e])
    have h2 : c ∉ a := fun e => h (by simp [e])
    rw [List.cons_append, idxL, if_neg h1, ih h2, if_neg (by omega)]
    simp
end Go.Sx
