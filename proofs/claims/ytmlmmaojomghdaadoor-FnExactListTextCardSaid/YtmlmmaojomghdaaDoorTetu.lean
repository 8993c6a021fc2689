/-
  Contacts and coils, read out of their texts as the program does it. Plain Lean: nothing of a program stands here. Conditions: none.
-/
import Derived.Test.YtmlmmaojomghdaaDoorTdtu
import Derived.Lib.Split
set_option linter.unusedVariables false
set_option linter.unusedSimpArgs false
namespace Go.Sx
open Go

def eOk (op : Int) (xs : List Dev) : Bool := coilOk op xs || conOk op xs
theorem eOk_all {op : Int} {xs : List Dev} (h : eOk op xs = true) : (∀ d ∈ xs, dOk d = true) ∧ (xs.length : Int) = arity op := by
  unfold eOk coilOk conOk at h
  simp only [Bool.or_eq_true, Bool.and_eq_true, decide_eq_true_eq, List.all_eq_true] at h
  rcases h with ⟨⟨⟨_, _, h⟩, h2⟩, _⟩ | ⟨⟨⟨_, _, h⟩, h2⟩, _⟩ <;> exact ⟨h2, h⟩
theorem coil_facts : ∀ op : Int, 21 ≤ op → op ≤ 37 → coilName op ≠ [] ∧ (58 : UInt8) ∉ coilName op ∧ (coilName op).headD 0 ≠ 43 ∧ (coilName op).headD 0 ≠ 45 ∧ (coilName op).length ≤ 5 ∧ (1 : Int) ≤ arity op ∧ arity op ≤ 3 ∧ (3 ≤ arity op → (coilName op).length ≤ 3) := by
  intro op h1 h2
  have : op = 21 ∨ op = 22 ∨ op = 23 ∨ op = 24 ∨ op = 25 ∨ op = 26 ∨ op = 27 ∨ op = 28 ∨ op = 29 ∨ op = 30 ∨ op = 31 ∨ op = 32 ∨ op = 33 ∨ op = 34 ∨ op = 35 ∨ op = 36 ∨ op = 37 := by omega
  rcases this with rfl | rfl | rfl | rfl | rfl | rfl | rfl | rfl | rfl | rfl | rfl | rfl | rfl | rfl | rfl | rfl | rfl <;> decide
theorem con_shape {op : Int} {xs : List Dev} (h : conOk op xs = true) : ((op = 1 ∨ op = 2) ∧ ∃ a, xs = [a]) ∨ (3 ≤ op ∧ op ≤ 10 ∧ ∃ a b, xs = [a, b]) := by
  unfold conOk at h
  simp only [Bool.and_eq_true, decide_eq_true_eq] at h
  obtain ⟨⟨⟨h1, h2, h3⟩, _⟩, _⟩ := h
  by_cases e : op = 1 ∨ op = 2
  · left
    have : arity op = 1 := by unfold arity; rw [if_pos (by omega)]
    exact ⟨e, list_one (by omega)⟩
  · right
    have : arity op = 2 := by unfold arity; rw [if_neg (by omega), if_neg (by omega), if_pos (by omega)]
    exact ⟨by omega, h2, list_two (by omega)⟩
end Go.Sx
