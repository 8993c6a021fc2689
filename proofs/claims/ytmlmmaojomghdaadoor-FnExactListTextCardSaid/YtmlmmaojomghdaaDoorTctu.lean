/-
  Numbers and operands, read out of their texts. Plain Lean: nothing of a program stands here. Conditions: none.
-/
import Derived.Test.YtmlmmaojomghdaaDoorTatu
import Derived.Lib.AtoiAll
import Derived.Lib.ItoaNum
import Derived.Lib.ParseIntB
import Derived.Lib.IndexMore
import Derived.Lib.IndexLaws
set_option linter.unusedVariables false
set_option linter.unusedSimpArgs false
namespace Go.Sx
open Go

def Digs (l : Str) : Prop := ∀ c ∈ l, 48 ≤ c.toNat ∧ c.toNat ≤ 57
theorem itoa_dec (n : Nat) : Lib.decDigits n = decL n := by
  induction n using Nat.strongRecOn with
  | _ n ih =>
    rw [Lib.decDigits, decL]
    by_cases h : n < 10
    · rw [dif_pos h, dif_pos (by omega)]; rfl
    · rw [dif_neg h, dif_neg (by omega), ih (n / 10) (by omega)]; rfl
theorem padS_len (p : Nat) (l : Str) : (padS p l).length = max (p + 1) l.length := by unfold padS; simp; omega
def signS (n : Int) : Str := if n < 0 then [45] else []
theorem decT_split (n : Int) (p : Nat) : ∃ a b, decT n p = signS n ++ a ++ 46 :: b ∧ a ≠ [] ∧ b.length = p ∧ a ++ b = padS p (decL n.natAbs) := by
  have h := padS_len p (decL n.natAbs)
  refine ⟨_, _, by unfold decT fracS signS; rw [← List.append_assoc], ?_, ?_, List.take_append_drop _ _⟩
  · intro e
    have := congrArg List.length e
    simp at this
    have h1 := decL_len1 n.natAbs
    omega
  · rw [List.length_drop]; omega
def letters : Str := [88, 89, 77, 83, 69, 71, 84, 67, 68, 82]
def words4 : List Str := [[110, 97, 110], [105, 110, 102], [45, 105, 110, 102], [45, 48, 46, 48]]
theorem dOk_cases {d : Dev} (h : dOk d = true) : (1 ≤ d.k ∧ d.k ≤ 10 ∧ 0 ≤ d.n ∧ d.n < devSize d.k ∧ d.p = 0) ∨ (d.k = 11 ∧ -32768 ≤ d.n ∧ d.n ≤ 32767 ∧ d.p = 0) ∨
    (d.k = 12 ∧ -999999999 ≤ d.n ∧ d.n ≤ 999999999 ∧ 1 ≤ d.p ∧ d.p ≤ 6 ∧ (d.p = 1 ∨ d.n.tmod 10 ≠ 0)) ∨ (d.k = 13 ∧ 0 ≤ d.n ∧ d.n ≤ 3 ∧ d.p = 0) := by
  unfold dOk devOk at h
  exact of_decide_eq_true h
theorem devSize_le (k : Int) : devSize k ≤ 64 := by unfold devSize; (repeat' split) <;> omega
theorem devL_ok {d : Dev} (h : dOk d = true) : devL d = devT d := by unfold devL; rw [if_pos h]
theorem devL_bad {d : Dev} (h : dOk d = false) : devL d = [] := by unfold devL; rw [h]; rfl
end Go.Sx
