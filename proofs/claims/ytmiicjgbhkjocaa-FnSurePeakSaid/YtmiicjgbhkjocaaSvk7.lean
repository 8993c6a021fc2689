/-
  What the laws of the verifier say, plainly. Plain Lean: nothing of a program stands here. Conditions: none.
-/
import Derived.Test.YtmiicjgbhkjocaaSkk7
set_option linter.unusedVariables false
set_option linter.unusedSimpArgs false
namespace Go.Sx
open Go

theorem wrongN_range (x : Ins) (b f : Int) (base coil : Bool) : wrongN x b f base coil = 0 ∨ (2 ≤ wrongN x b f base coil ∧ wrongN x b f base coil ≤ 8) := by
  unfold wrongN; (repeat' split) <;> omega
theorem wrAt_range (xs : List Ins) (i : Nat) (x : Ins) : wrAt xs i x = 0 ∨ (2 ≤ wrAt xs i x ∧ wrAt xs i x ≤ 8) := wrongN_range _ _ _ _ _
/-- The first wrong one, or the end. -/
theorem sureGo_spec (xs : List Ins) : ∀ (n i : Nat), i + n = xs.length →
    (∃ j x, i ≤ j ∧ xs[j]? = some x ∧ wrAt xs j x ≠ 0 ∧ (∀ k y, i ≤ k → k < j → xs[k]? = some y → wrAt xs k y = 0) ∧ sureGo xs n i = (wrAt xs j x, (j : Int))) ∨
      ((∀ k y, i ≤ k → xs[k]? = some y → wrAt xs k y = 0) ∧ sureGo xs n i = if hB xs xs.length ≠ 0 then (9, (xs.length : Int)) else (0, 0))
  | 0, i, h => by
    refine Or.inr ⟨fun k y hk hy => ?_, ?_⟩
    · have := (List.getElem?_eq_some_iff.1 hy).1; omega
    · have : i = xs.length := by omega
      subst this; rfl
  | n + 1, i, h => by
    have hx : xs[i]? = some (xs[i]'(by omega)) := by simp [show i < xs.length by omega]
    rw [sureGo_succ hx]
    by_cases hw : wrAt xs i (xs[i]'(by omega)) = 0
    · have e : ∀ k y, k = i → xs[k]? = some y → wrAt xs k y = 0 := by
        rintro k y rfl hy
        rw [hx] at hy
        cases hy; exact hw
      rw [if_neg (by simp [hw])]
      rcases sureGo_spec xs n (i + 1) (by omega) with ⟨j, x, h1, h2, h3, h4, h5⟩ | ⟨h1, h2⟩
      · refine Or.inl ⟨j, x, by omega, h2, h3, fun k y hk hkj hy => ?_, h5⟩
        by_cases hki : k = i
        · exact e k y hki hy
        · exact h4 k y (by omega) hkj hy
      · refine Or.inr ⟨fun k y hk hy => ?_, h2⟩
        by_cases hki : k = i
        · exact e k y hki hy
        · exact h1 k y (by omega) hy
    · rw [if_pos hw]
      exact Or.inl ⟨i, _, by omega, hx, hw, fun k y hk hki => by omega, rfl⟩
/-- What is known ahead of an instruction, if nothing was wrong so far. -/
theorem fine_at (xs : List Ins) : ∀ (i : Nat), i ≤ xs.length → (∀ k y, k < i → xs[k]? = some y → wrAt xs k y = 0) → Fine (hB xs i) (hF xs i) ∧ (hB xs i = 0 → hF xs i = 0)
  | 0, _, _ => by
    rw [hB_zero, hF_zero]; exact ⟨fine_zero, fun _ => rfl⟩
  | i + 1, h, hk => by
    obtain ⟨f1, f2⟩ := fine_at xs i (by omega) fun k y hki hy => hk k y (by omega) hy
    have hx : xs[i]? = some (xs[i]'(by omega)) := by simp [show i < xs.length by omega]
    have hw := hk i _ (by omega) hx
    generalize xs[i]'(by omega) = x at *
    rw [hB_succ hx, hF_succ hx]
    obtain ⟨g1, g2, g3⟩ := wrong_step hw f1
    refine ⟨g1, fun e => ?_⟩
    by_cases h11 : x.code = 11
    · exact (g2 h11).2
    · unfold wrAt wrongN at hw
      rw [g3] at hw
      simp only [Bool.true_eq_false, if_false] at hw
      obtain ⟨q1, q2, q3, q4⟩ := f1
      clear g1 g2 g3 hk hx
      split at hw
      · omega
      rename_i p1
      unfold needsN at p1
      unfold dB at e
      unfold dF
      clear hw
      split at p1 <;> split at e <;> (try split at e) <;> (repeat' split) <;> omega
theorem sureN_zero {xs : List Ins} (h : (sureN xs).1 = 0) : xs.length ≤ 1000 ∧ (∀ k y, xs[k]? = some y → wrAt xs k y = 0) ∧ hB xs xs.length = 0 ∧ hF xs xs.length = 0 ∧ sureN xs = (0, 0) := by
  unfold sureN at h ⊢
  by_cases hl : xs.length ≤ 1000
  · rw [if_pos hl] at h ⊢
    rcases sureGo_spec xs xs.length 0 (by omega) with ⟨j, x, h1, h2, h3, h4, h5⟩ | ⟨h1, h2⟩
    · rw [h5] at h; exact absurd h h3
    · rw [h2] at h ⊢
      by_cases hb : hB xs xs.length = 0
      · have hz := fine_at xs xs.length (by omega) fun k y _ hy => h1 k y (by omega) hy
        exact ⟨hl, fun k y hy => h1 k y (by omega) hy, hb, hz.2 hb, by rw [if_neg (by simp [hb])]⟩
      · rw [if_pos hb] at h; simp at h
  · rw [if_neg hl] at h; simp at h
theorem sureN_bd (xs : List Ins) : 0 ≤ (sureN xs).1 ∧ (sureN xs).1 ≤ 9 ∧ 0 ≤ (sureN xs).2 ∧ (sureN xs).2 ≤ xs.length := by
  unfold sureN
  split
  · rcases sureGo_spec xs xs.length 0 (by omega) with ⟨j, x, h1, h2, h3, h4, h5⟩ | ⟨h1, h2⟩
    · rw [h5]
      have := wrAt_range xs j x
      have := (List.getElem?_eq_some_iff.1 h2).1
      refine ⟨?_, ?_, ?_, ?_⟩ <;> simp only <;> omega
    · rw [h2]; split <;> (refine ⟨?_, ?_, ?_, ?_⟩ <;> simp only <;> omega)
  · refine ⟨?_, ?_, ?_, ?_⟩ <;> simp only <;> omega

/-- The peaks of a verified list. -/
theorem pB_bd {xs : List Ins} (hk : ∀ k y, xs[k]? = some y → wrAt xs k y = 0) : ∀ n, n ≤ xs.length → pB xs n ≤ 16 ∧ pF xs n ≤ 8 ∧ 0 ≤ pB xs n ∧ (0 < n → 0 < pB xs n)
  | 0, _ => by refine ⟨?_, ?_, ?_, ?_⟩ <;> simp [pB, pF]
  | n + 1, h => by
    obtain ⟨p1, p2, p3, p4⟩ := pB_bd hk n (by omega)
    obtain ⟨⟨f1, f2, f3, f4⟩, _⟩ := fine_at xs (n + 1) h fun k y _ hy => hk k y hy
    rw [pB, pF]
    refine ⟨by split <;> omega, by split <;> omega, by split <;> omega, fun _ => ?_⟩
    by_cases hn : 0 < n
    · have := p4 hn; split <;> omega
    · obtain rfl : n = 0 := by omega
      have hx : xs[0]? = some (xs[0]'(by omega)) := by simp [show 0 < xs.length by omega]
      have hw := hk 0 _ hx
      generalize xs[0]'(by omega) = x at *
      have h1 : x.code = 1 := by
        unfold wrAt wrongN at hw
        rw [hB_zero] at hw
        split at hw
        · omega
        split at hw
        · omega
        rename_i q
        unfold needsN at q
        split at q
        · omega
        · split at q
          · assumption
          · omega
      have e : hB xs 1 = 1 := by rw [hB_succ hx, hB_zero, h1]; decide
      rw [e]
      split
      · decide
      · have : pB xs 0 = 0 := rfl
        omega
end Go.Sx
