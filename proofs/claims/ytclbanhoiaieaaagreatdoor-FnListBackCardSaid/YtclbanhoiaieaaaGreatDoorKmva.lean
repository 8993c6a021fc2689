/-
  Known blocks dropped, and what was made over no memory laid behind a memory. Plain lemmas: nothing of a program stands here. Conditions: none.
-/
import Derived.Test.YtclbanhoiaieaaaGreatDoorSwva
set_option linter.unusedVariables false
set_option linter.unusedSimpArgs false
namespace Go.Sx
open Go

section
variable {P : Program}
theorem memRel_lift {cx cx2 : Cx} {mem mem2 : List Blk} {w w' : World} (hm : MemRel cx mem w) (h2 : MemRel cx2 mem2 w') (hle : Le ⟨w, [], w, []⟩ cx2) :
    ∃ cx', MemRel cx' (mem ++ mem2) w' ∧ Le cx cx' := by
  have hb := below_of_rel h2 hle.w0 hle.g0
  obtain ⟨h1, hle1, _⟩ := memRel_on hm hb
  have hge : ∀ b ∈ mem2, w.heap.size ≤ b.id := fun b hb => by
    refine Nat.le_of_not_lt fun hlt => ?_
    have := h2.low b hb (by rw [hle.w0]; exact hlt)
    rw [hle.g0] at this
    simp at this
  have hlt : ∀ b ∈ mem, b.id < w.heap.size := fun b hb => by
    obtain ⟨k, hk⟩ := List.getElem?_of_mem hb
    exact (Array.getElem?_eq_some_iff.1 (hm.blk k b hk)).1
  have hw1 := hm.le1
  have hw01 := hm.le01
  refine ⟨⟨cx.w0, cx.g0, w', (mem ++ mem2).map (·.id)⟩, ⟨h1.os, h1.tape, h1.output, h1.frame, fun _ _ _ => rfl, h1.le01, Nat.le_refl _, fun k b hk => ?_, fun b hb => Or.inl (List.mem_map.2 ⟨b, hb, rfl⟩), fun b hb hl => ?_, fun i j b c hi hj e => ?_⟩, rfl, rfl, fun a v e => ?_⟩
  · by_cases hl : k < mem.length
    · rw [List.getElem?_append_left hl] at hk; exact h1.blk k b hk
    · rw [List.getElem?_append_right (by omega)] at hk; exact h2.blk _ b hk
  · rcases List.mem_append.1 hb with hb | hb
    · exact h1.low b hb hl
    · have := hge b hb
      have hl' : b.id < cx.w0.heap.size := hl
      omega
  · have key : ∀ (i j : Nat) (b c : Blk), (mem ++ mem2)[i]? = some b → (mem ++ mem2)[j]? = some c → b.id = c.id → i < mem.length → mem.length ≤ j → False := by
      intro i j b c hi hj e h3 h4
      rw [List.getElem?_append_left h3] at hi
      rw [List.getElem?_append_right h4] at hj
      have := hlt b (List.mem_of_getElem? hi)
      have := hge c (List.mem_of_getElem? hj)
      omega
    by_cases h3 : i < mem.length
    · by_cases h4 : j < mem.length
      · rw [List.getElem?_append_left h3] at hi
        rw [List.getElem?_append_left h4] at hj
        exact h1.inj i j b c hi hj e
      · exact (key i j b c hi hj e h3 (by omega)).elim
    · by_cases h4 : j < mem.length
      · exact (key j i c b hj hi e.symm h4 (by omega)).elim
      · rw [List.getElem?_append_right (by omega)] at hi hj
        have := h2.inj _ _ b c hi hj e
        omega
  · have e1 := hle1.fact a v e
    unfold factF at e1 ⊢
    split at e1
    · simp at e1
    · rename_i hg
      rw [if_neg]
      · exact e1
      · simp only [List.map_append, List.mem_append]
        rintro (h5 | h5)
        · exact hg h5
        · simp only [List.mem_map] at h5
          obtain ⟨b, hb, hbe⟩ := h5
          have h6 := hge b hb
          unfold factF at e
          split at e
          · simp at e
          · have h7 := block_lt_of_cell e
            omega
end
end Go.Sx
namespace Go.Sx
open Go
theorem endK_val {d : Nat} {K : Cx → C → List Blk → Prop} {cx : Cx} {c : C} {mem : List Blk} (h : K cx (.v (den c)) mem) : EndK d K cx c mem := fun w' hm => ⟨cx, .v (den c), mem, rfl, hm, h⟩
theorem memRel_mid {cx : Cx} {mem ex ys : List Blk} {w : World} (h : MemRel cx (mem ++ (ex ++ ys)) w) : MemRel cx (mem ++ ys) w := by
  have at' : ∀ (k : Nat) b, (mem ++ ys)[k]? = some b → ∃ k', (mem ++ (ex ++ ys))[k']? = some b ∧ ((k < mem.length ∧ k' = k) ∨ (mem.length ≤ k ∧ k' = k + ex.length)) := by
    intro k b hk
    by_cases hl : k < mem.length
    · rw [List.getElem?_append_left hl] at hk
      exact ⟨k, by rw [List.getElem?_append_left hl]; exact hk, Or.inl ⟨hl, rfl⟩⟩
    · rw [List.getElem?_append_right (by omega)] at hk
      refine ⟨k + ex.length, ?_, Or.inr ⟨by omega, rfl⟩⟩
      rw [List.getElem?_append_right (by omega), List.getElem?_append_right (by omega)]
      rw [show k + ex.length - mem.length - ex.length = k - mem.length by omega]
      exact hk
  have sub : ∀ b ∈ mem ++ ys, b ∈ mem ++ (ex ++ ys) := fun b hb => by
    simp only [List.mem_append] at hb ⊢
    rcases hb with hb | hb
    · exact Or.inl hb
    · exact Or.inr (Or.inr hb)
  exact ⟨h.os, h.tape, h.output, h.frame, h.facts, h.le01, h.le1, fun k b hk => by
    obtain ⟨k', h1, _⟩ := at' k b hk
    exact h.blk k' b h1, fun b hb => h.fresh b (sub b hb), fun b hb => h.low b (sub b hb), fun i j b c hi hj e => by
    obtain ⟨i', h1, h2⟩ := at' i b hi
    obtain ⟨j', h3, h4⟩ := at' j c hj
    have := h.inj i' j' b c h1 h3 e
    omega⟩
theorem endK_mid {d : Nat} {K : Cx → C → List Blk → Prop} {cx : Cx} {c : C} {mem ex ys : List Blk} (h : K cx c (mem ++ ys)) : EndK d K cx c (mem ++ (ex ++ ys)) := fun w' hm => ⟨cx, c, _, rfl, memRel_mid hm, h⟩
end Go.Sx
