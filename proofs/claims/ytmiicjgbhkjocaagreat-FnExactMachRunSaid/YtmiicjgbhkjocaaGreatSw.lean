/-
  Contracts of functions over known memory, in general. Plain lemmas: nothing of a program stands here. Conditions: none.
-/
import Derived.Test.YtmiicjgbhkjocaaGreatSz
set_option linter.unusedVariables false
set_option linter.unusedSimpArgs false
namespace Go.Sx
open Go

section
variable {P : Program}

/-- A function over known memory, in general. -/
structure Gens (P : Program) (f : FuncId) where
  ι : Type
  A : ι → List C
  pre : ι → Cx → List Blk → Prop
  post : ι → Cx → List Blk → Cx → C → List Blk → Prop
  enter : ∀ args w, (callFunc f args).run P w = .ok (.enter f args) w
  h : ∀ i cx mem w, pre i cx mem → MemRel cx mem w → Calls P f ((A i).map den).toArray w (fun e w' => ∃ cx' c mem', e = .returned (den c) ∧ MemRel cx' mem' w' ∧ post i cx mem cx' c mem')
def GenV {f : FuncId} (d : Nat) (S : Gens P f) (cx : Cx) (args : List C) (mem : List Blk) (K : Cx → C → List Blk → Prop) (_u : Tag K := ⟨⟩) : Prop :=
  ∃ i, args = S.A i ∧ S.pre i cx mem ∧ ∀ cx' c mem', S.post i cx mem cx' c mem' → K cx' c mem'
@[congr] theorem GenV_congr {f : FuncId} {d d' : Nat} {S : Gens P f} {cx : Cx} {args args' : List C} {mem mem' : List Blk} {K : Cx → C → List Blk → Prop} (h' : d = d') (h : args = args') (hm : mem = mem') :
    GenV d S cx args mem K = GenV d' S cx args' mem' K := by rw [h, hm]; rfl
def Con.gen {f : FuncId} (S : Gens P f) : Con P where
  f := f
  tr cx args mem K := GenV (1 + 1) S cx args mem K
  sound cx args mem K w hm := by
    rintro ⟨i, rfl, hp, hk⟩
    refine Or.inl ⟨S.enter _ _, (S.h i cx mem w hp hm).mono ?_⟩
    rintro e w' ⟨cx', c, mem', rfl, hm', hpo⟩
    exact ⟨cx', c, mem', rfl, hm', hk _ _ _ hpo⟩
  pu := none
  puTr rel hrel := by simp at hrel
  puSound rel hrel := by simp at hrel
  rd := false
  rdSound := fun h => by cases h
  fr := false
  frSound := fun h => by cases h

end
end Go.Sx
