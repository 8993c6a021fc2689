/-
  Operands read as the reference guesses; contacts and coils out of their texts. Plain Lean: nothing of a program stands here. Conditions: none.
-/
import Derived.Test.YtmlmmaojomghdaaDoorTctu
set_option linter.unusedVariables false
set_option linter.unusedSimpArgs false
namespace Go.Sx
open Go

instance (l : Str) : Decidable (Digs l) := inferInstanceAs (Decidable (∀ c ∈ l, 48 ≤ c.toNat ∧ c.toNat ≤ 57))
theorem devT_len {d : Dev} (h : dOk d = true) : (devT d).length ≤ 11 := by
  obtain ⟨k, n, p⟩ := d
  rcases dOk_cases h with ⟨h1, h2, h3, h4, h5⟩ | ⟨h1, h2, h3, h4⟩ | ⟨h1, h2, h3, h4, h5, h6⟩ | ⟨h1, h2, h3, h4⟩ <;> simp only at *
  · have e : devT ⟨k, n, p⟩ = letterU k :: decZ n := by
      unfold devT
      simp only
      rw [if_neg (by omega), if_neg (by omega), if_neg (by omega)]
    have hz := devSize_le k
    have := decZ_short (n := n) (k := 4) (by omega)
    rw [e, List.length_cons]; omega
  · subst h1
    have := decZ_short (n := n) (k := 4) (by omega)
    have e : devT ⟨11, n, p⟩ = decZ n := rfl
    rw [e]; omega
  · subst h1
    have e : devT ⟨12, n, p⟩ = decT n p.toNat := rfl
    obtain ⟨a, b, ed, g1, g2, g3⟩ := decT_split n p.toNat
    have hl : (a ++ b).length ≤ 9 := by
      rw [g3, padS_len]
      have := decL_len n.natAbs 8 (by omega)
      omega
    have hs : (signS n).length ≤ 1 := by unfold signS; split <;> simp
    rw [e, ed]
    simp only [List.length_append, List.length_cons] at hl ⊢
    omega
  · subst h1; subst h4
    have : n = 0 ∨ n = 1 ∨ n = 2 ∨ n = 3 := by omega
    rcases this with rfl | rfl | rfl | rfl <;> decide
theorem devL_len (d : Dev) : (devL d).length ≤ 11 := by
  cases h : dOk d
  · rw [devL_bad h]; simp
  · rw [devL_ok h]; exact devT_len h
end Go.Sx
