/-
  Stacks of bits, plainly: as numbers and as lists. Plain Lean: nothing of a program stands here. Conditions: none.
-/
import Derived.Test.YtmiicjgbhkjocaaP
set_option linter.unusedVariables false
set_option linter.unusedSimpArgs false
namespace Go.Sx
open Go

def okS (m : Nat) (b n : Int) : Bool := decide (0 ≤ n ∧ n ≤ m ∧ b < 2 ^ n.toNat)
def b2i (x : Bool) : Int := if x then 1 else 0
theorem b2i_bd (x : Bool) : 0 ≤ b2i x ∧ b2i x ≤ 1 := by cases x <;> decide
theorem pow_succ2 (k : Nat) : (2 : Int) ^ (k + 1) = 2 * 2 ^ k := by rw [Int.pow_succ, Int.mul_comm]
theorem pow_pos2 (k : Nat) : (0 : Int) < 2 ^ k := Int.pow_pos (by decide)
def pushS (m : Nat) (s : Int × Int) (x : Bool) : Int × Int := ((2 * s.1 + b2i x) % 2 ^ m, min (s.2 + 1) m)
def turnS (s : Int × Int) (x : Bool) : Int × Int := if s.2 = 0 then (0, 0) else (2 * (s.1 / 2) + b2i x, s.2)
theorem okS_iff {m : Nat} {b n : Int} : okS m b n = true ↔ (0 ≤ n ∧ n ≤ m ∧ b < 2 ^ n.toNat) := by unfold okS; simp
theorem pow_mono2 {j k : Nat} (h : j ≤ k) : (2 : Int) ^ j ≤ 2 ^ k := by
  obtain ⟨d, rfl⟩ := Nat.le.dest h
  induction d with
  | zero => simp
  | succ d ih =>
    have := ih (by omega)
    have hp := pow_pos2 (j + d)
    rw [← Nat.add_assoc, pow_succ2]; omega
end Go.Sx
