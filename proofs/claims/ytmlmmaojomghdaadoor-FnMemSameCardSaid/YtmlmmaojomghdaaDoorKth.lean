/-
  Bits that are put and asked. Plain Lean: nothing of a program stands here. Conditions: none.
-/
import Derived.Test.YtmlmmaojomghdaaDoorInth
import Derived.Test.YtmlmmaojomghdaaDoorVth
set_option linter.unusedVariables false
set_option linter.unusedSimpArgs false
set_option maxRecDepth 100000
namespace Go.Sx
open Go

end Go.Sx
namespace Go.Sx
open Go

theorem bitOf_nat (X : Nat) (i : Nat) : bitOf (X : Int) i = X.testBit i := by
  unfold bitOf
  rw [Nat.testBit_eq_decide_div_mod_eq]
  congr 1
  apply propext
  have e : ((X : Int) / 2 ^ i % 2) = ((X / 2 ^ i % 2 : Nat) : Int) := by push_cast; rfl
  rw [e]
  omega
theorem bitOf_put {x : Int} {b i j : Nat} {c : Bool} (hx : 0 ≤ x) (hx2 : x < 2 ^ b) (hj : j < b) (hi : i < b) : bitOf (putBit x j c) i = if i = j then c else bitOf x i := by
  obtain ⟨X, rfl⟩ := Int.eq_ofNat_of_zero_le hx
  have hX : X < 2 ^ b := by exact_mod_cast hx2
  have e := putBit_nat (c := c) hX hj
  rw [show (((X : Nat) : Int)) = ((X : Nat) : Int) from rfl] at *
  rw [e, bitOf_nat, bitOf_nat, Nat.testBit_or, Nat.testBit_and]
  have h2 : 2 ^ j < 2 ^ b := Nat.pow_lt_pow_right (by omega) hj
  have e2 : 2 ^ b - 1 - 2 ^ j = 2 ^ b - (2 ^ j + 1) := by omega
  rw [e2, Nat.testBit_two_pow_sub_succ h2, Nat.testBit_two_pow]
  by_cases h : i = j
  · subst h
    cases c <;> simp [hi, Nat.testBit_two_pow]
  · have h' : ¬ j = i := fun h' => h h'.symm
    cases c <;> simp [hi, h, h', Nat.testBit_two_pow]

theorem zeroM_ok : MOk zeroM := by
  constructor <;> (try decide) <;> (intro k _; simp [zeroM, Arr.zero]; try decide)
end Go.Sx
