/-
  Real numbers cut towards 0. Plain Lean: nothing of a program stands here. Conditions: none.
-/
import Derived.Test.YtmlmmaojomghdaaDoorVth
import Derived.Test.YtmlmmaojomghdaaDoorPth
set_option linter.unusedVariables false
set_option linter.unusedSimpArgs false
set_option maxRecDepth 100000
namespace Go.Sx
open Go

def wholeN (m : Nat) (i : Int) : Nat := if 0 ≤ i then m * 2 ^ i.toNat else m / 2 ^ (-i).toNat
theorem cutz (s : Bool) (n k : Nat) : Ieee.Toward.zero.cut s n k = n / 2 ^ k := by
  simp only [Ieee.Toward.cut, Bool.toNat_false, Nat.add_zero, Nat.shiftLeft_eq, Nat.one_mul]
  by_cases h : k ≤ n.log2 + 2
  · rw [Nat.min_eq_left h]
  · rw [Nat.min_eq_right (by omega)]
    have h1 : n < 2 ^ (n.log2 + 1) := Nat.lt_log2_self
    have h2 : n < 2 ^ (n.log2 + 2) := Nat.lt_of_lt_of_le h1 (Nat.pow_le_pow_right (by omega) (by omega))
    have h3 : n < 2 ^ k := Nat.lt_of_lt_of_le h2 (Nat.pow_le_pow_right (by omega) (by omega))
    rw [Nat.div_eq_of_lt h2, Nat.div_eq_of_lt h3]
theorem integral_num (s : Bool) (m : Nat) (i : Int) : (Ieee.Datum.number s m i).integral .zero = .number s (wholeN m i) 0 := by
  simp only [Ieee.Datum.integral, wholeN, cutz, Nat.shiftLeft_eq]
  congr 1
  split
  · rename_i h
    have : (-i).toNat = 0 := by omega
    rw [this]; simp
  · rename_i h
    have : i.toNat = 0 := by omega
    rw [this]; simp
theorem signed_pow (s : Bool) (m u : Nat) : Ieee.signed s m u = if s then -((m * 2 ^ u : Nat) : Int) else ((m * 2 ^ u : Nat) : Int) := by
  unfold Ieee.signed; rw [Nat.shiftLeft_eq]
theorem cmpI (a b : Int) : compare a b = if a < b then .lt else if a = b then .eq else .gt := rfl
theorem toInt_num {x : Nat} {s : Bool} {m : Nat} {i : Int} (hr : dbl.read x = .number s m i) : (dbl.read x).toInt .zero = some (if s then -(wholeN m i : Int) else (wholeN m i : Int)) := by
  rw [hr]
  unfold Ieee.Datum.toInt
  rw [integral_num]
  simp only [signed_pow, Nat.pow_zero, Nat.mul_one]
end Go.Sx
