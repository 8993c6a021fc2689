/-
  What coils do, plainly. Plain Lean: nothing of a program stands here. Conditions: none.
-/
import Derived.Test.YtclbanhoiaieaaaGreatDoorInva
import Derived.Test.YtclbanhoiaieaaaGreatDoorVva
import Derived.Test.YtclbanhoiaieaaaGreatDoorPva
set_option linter.unusedVariables false
set_option linter.unusedSimpArgs false
set_option maxRecDepth 100000
namespace Go.Sx
open Go

section
variable (m : M)
end

theorem sameF_symm {a b : Nat} (h : sameF a b) : sameF b a := by
  rcases h with ⟨rfl, h⟩ | ⟨h1, h2⟩
  · exact Or.inl ⟨rfl, h⟩
  · exact Or.inr ⟨h2, h1⟩
theorem sameF_trans {a b c : Nat} (h : sameF a b) (h' : sameF b c) : sameF a c := by
  rcases h with ⟨rfl, h⟩ | ⟨h1, h2⟩
  · exact h'
  · rcases h' with ⟨rfl, h'⟩ | ⟨h3, h4⟩
    · rw [h2] at h'; cases h'
    · exact Or.inr ⟨h1, h4⟩
theorem MSame.symm {a b : M} (h : MSame a b) : MSame b a := ⟨h.X.symm, h.Y.symm, h.Mw.symm, h.S.symm, h.E.symm, h.T.symm, h.C.symm, h.D.symm, fun k hk => sameF_symm (h.R k hk), h.Time.symm, h.Ran.symm, h.Fault.symm⟩
theorem MSame.trans {a b c : M} (h : MSame a b) (h' : MSame b c) : MSame a c := ⟨h.X.trans h'.X, h.Y.trans h'.Y, h.Mw.trans h'.Mw, h.S.trans h'.S, h.E.trans h'.E, h.T.trans h'.T, h.C.trans h'.C, h.D.trans h'.D, fun k hk => sameF_trans (h.R k hk) (h'.R k hk), h.Time.trans h'.Time, h.Ran.trans h'.Ran, h.Fault.trans h'.Fault⟩
end Go.Sx
