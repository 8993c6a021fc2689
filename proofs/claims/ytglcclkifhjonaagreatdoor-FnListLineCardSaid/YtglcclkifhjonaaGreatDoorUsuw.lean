/-
  Plainly: where a fault of a list's text is told; a text of one line. Nothing of a program stands here. Conditions: none.
-/
import Derived.Test.YtglcclkifhjonaaGreatDoorTguw
set_option linter.unusedVariables false
set_option linter.unusedSimpArgs false
namespace Go.Sx
open Go

theorem lineL_short (x : Ins) : (lineL x).length ≤ 50000 := by
  by_cases h : insOk x = true
  · have := list_short [x]
    unfold listL linesL at this
    rw [if_pos ⟨by simp, by simp [h]⟩] at this
    simp at this
    omega
  · unfold lineL; rw [if_neg h]; simp
theorem listRd_line {x : Ins} (h : insOk x = true) : listRd (lineL x) = ([x], 0, 0) := by
  unfold listRd
  rw [if_neg (by have := lineL_short x; omega), cutL_one (line_not10 x)]
  have hw : wordsL (lineL x) ≠ [] := by rw [words_line h]; split <;> simp
  show (if wordsL (lineL x) = [] then _ else match lineRd (wordsL (lineL x)) with | none => _ | some x => _) = _
  rw [if_neg hw, lineRd_line h]
  rfl
theorem line_ne {x : Ins} (h : insOk x = true) : lineL x ≠ [] := by
  intro e
  have := lineRd_line h
  rw [e] at this
  have e2 : wordsL [] = [] := by decide
  rw [e2] at this
  cases this
theorem line_no {x : Ins} (h : insOk x = false) : lineL x = [] := by unfold lineL; rw [h]; rfl
theorem line_inj {x y : Ins} (hx : insOk x = true) (h : lineL x = lineL y) : x = y := by
  have hy : insOk y = true := Decidable.byContradiction fun hn => by
    have e := line_no (x := y) (by simpa using hn)
    rw [e] at h
    exact line_ne hx h
  have a := listRd_line hx
  rw [h, listRd_line hy] at a
  simp only [Prod.mk.injEq, List.cons.injEq, and_true] at a
  exact a.symm
end Go.Sx
