/-
  Plainly: where a fault of a list's text is told; a text of one line. Nothing of a program stands here. Conditions: none.
-/
import Derived.Test.YtclbanhoiaieaaaGreatDoorTgva
set_option linter.unusedVariables false
set_option linter.unusedSimpArgs false
namespace Go.Sx
open Go

theorem listRd_all (t : Str) : ((listRd t).2 = (0, 0) ∧ (∀ x ∈ (listRd t).1, insOk x = true) ∧ (listRd t).1.length ≤ 1000) ∨
    ((listRd t).1 = [] ∧ ((listRd t).2 = (0, 1) ∨ (1 ≤ (listRd t).2.1 ∧ (listRd t).2.1 ≤ ((t.filter fun x => x == 10).length : Int) + 1 ∧ ((listRd t).2.2 = 2 ∨ (listRd t).2.2 = 3)))) := by
  unfold listRd
  split
  · exact Or.inr ⟨rfl, Or.inl rfl⟩
  · rcases listGo_ok (ls := cutL 10 t) (k := 0) (out := []) (by simp) (by simp) with ⟨h1, h2, h3, h4⟩ | ⟨h1, h2, h3, h4⟩
    · exact Or.inl ⟨Prod.ext h2 h1, h3, h4⟩
    · rw [cutL_count] at h4
      exact Or.inr ⟨h2, Or.inr ⟨h3, by omega, h1⟩⟩
theorem count_step {c x : UInt8} {t : Str} {i : Nat} (h : t[i]? = some x) : ((t.take (i + 1)).filter fun y => y == c).length = ((t.take i).filter fun y => y == c).length + (if x = c then 1 else 0) := by
  rw [List.take_add_one, h, List.filter_append, List.length_append]
  by_cases hx : x = c
  · simp [hx]
  · simp [hx]
theorem lineL_short (x : Ins) : (lineL x).length ≤ 50000 := by
  by_cases h : insOk x = true
  · have := list_short [x]
    unfold listL linesL at this
    rw [if_pos ⟨by simp, by simp [h]⟩] at this
    simp at this
    omega
  · unfold lineL; rw [if_neg h]; simp
theorem listRd_line {x : Ins} (h : insOk x = true) : listRd (lineL x) = ([x], 0, 0) := by
  unfold listRd
  rw [if_neg (by have := lineL_short x; omega), cutL_one (line_not10 x)]
  have hw : wordsL (lineL x) ≠ [] := by rw [words_line h]; split <;> simp
  show (if wordsL (lineL x) = [] then _ else match lineRd (wordsL (lineL x)) with | none => _ | some x => _) = _
  rw [if_neg hw, lineRd_line h]
  rfl
theorem line_ne {x : Ins} (h : insOk x = true) : lineL x ≠ [] := by
  intro e
  have := lineRd_line h
  rw [e] at this
  have e2 : wordsL [] = [] := by decide
  rw [e2] at this
  cases this
theorem line_no {x : Ins} (h : insOk x = false) : lineL x = [] := by unfold lineL; rw [h]; rfl
theorem line_inj {x y : Ins} (hx : insOk x = true) (h : lineL x = lineL y) : x = y := by
  have hy : insOk y = true := Decidable.byContradiction fun hn => by
    have e := line_no (x := y) (by simpa using hn)
    rw [e] at h
    exact line_ne hx h
  have a := listRd_line hx
  rw [h, listRd_line hy] at a
  simp only [Prod.mk.injEq, List.cons.injEq, and_true] at a
  exact a.symm
theorem arity_le3s (op : Int) : 0 ≤ arity op ∧ arity op ≤ 3 := by unfold arity; (repeat' split) <;> omega
theorem ok_args {x : Ins} (h : insOk x = true) : x.args.length ≤ 3 := by
  have key : ∀ {op : Int} {xs : List Dev}, ((xs.length : Int) = arity op) → xs.length ≤ 3 := fun {op xs} e => by
    have := arity_le3s op
    omega
  unfold insOk at h
  split at h
  · unfold conOk at h
    simp only [Bool.and_eq_true, decide_eq_true_eq] at h
    exact key h.1.1.2.2
  · split at h
    · unfold coilOk at h
      simp only [Bool.and_eq_true, decide_eq_true_eq] at h
      exact key h.1.1.2.2
    · simp only [decide_eq_true_eq] at h
      omega
def cnt10 (t : Str) (i : Nat) : Nat := ((t.take i).filter fun y => y == 10).length
theorem cnt10_zero (t : Str) : cnt10 t 0 = 0 := rfl
theorem cnt10_all (t : Str) : cnt10 t t.length = (t.filter fun x => x == 10).length := by unfold cnt10; rw [List.take_length]
theorem cnt10_le (t : Str) (i : Nat) : cnt10 t i ≤ t.length := by
  unfold cnt10
  exact Nat.le_trans (List.length_filter_le _ _) (by simp; omega)
end Go.Sx
