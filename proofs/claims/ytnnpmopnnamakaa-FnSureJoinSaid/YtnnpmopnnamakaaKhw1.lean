/-
  A list of lists of instructions in memory: each row's header in the outer block, its instructions as facts. Plain lemmas. Conditions: none.
-/
import Derived.Test.YtnnpmopnnamakaaIw1
import Derived.Test.YtnnpmopnnamakaaSww1
set_option linter.unusedVariables false
set_option linter.unusedSimpArgs false
set_option maxHeartbeats 1000000
namespace Go.Sx
open Go
structure RgP (F : Facts) (vs : List Value) (rs : List (List Ins)) : Prop where
  len : vs.length = rs.length
  at' : ∀ (i : Nat) z r, vs[i]? = some z → rs[i]? = some r → IsList F z r
theorem RgP.nil (F : Facts) : RgP F [] [] := ⟨rfl, fun i z r h => by simp at h⟩
theorem RgP.mono {F G : Facts} {vs : List Value} {rs : List (List Ins)} (h : RgP F vs rs) (hs : Sub F G) : RgP G vs rs := ⟨h.len, fun i z r h1 h2 => (h.at' i z r h1 h2).mono hs⟩
theorem RgP.snoc {F : Facts} {vs : List Value} {rs : List (List Ins)} {z : Value} {r : List Ins} (h : RgP F vs rs) (hz : IsList F z r) : RgP F (vs ++ [z]) (rs ++ [r]) := by
  refine ⟨by simp [h.len], fun i z' r' h1 h2 => ?_⟩
  by_cases hi : i < vs.length
  · rw [List.getElem?_append_left hi] at h1
    rw [List.getElem?_append_left (by rw [← h.len]; exact hi)] at h2
    exact h.at' i z' r' h1 h2
  · have e := (List.getElem?_eq_some_iff.1 h1).1
    obtain rfl : i = vs.length := by simp at e; omega
    rw [List.getElem?_append_right (Nat.le_refl _), Nat.sub_self] at h1
    rw [h.len, List.getElem?_append_right (Nat.le_refl _), Nat.sub_self] at h2
    cases h1; cases h2
    exact hz
structure IsRungs (F : Facts) (v : Value) (rs : List (List Ins)) : Prop where
  ex : ∃ (o : Option Addr) (cap : Nat) (vs : List Value), v = .slice o rs.length cap ∧ rs.length ≤ cap ∧ cap ≤ maxLen ∧ RdL F o vs ∧ RgP F vs rs
theorem IsRungs.mono {F G : Facts} {v : Value} {rs : List (List Ins)} (h : IsRungs F v rs) (hs : Sub F G) : IsRungs G v rs := by
  obtain ⟨o, cap, vs, h1, h2, h3, h4, h5⟩ := h.ex
  exact ⟨o, cap, vs, h1, h2, h3, h4.mono hs, h5.mono hs⟩
end Go.Sx
