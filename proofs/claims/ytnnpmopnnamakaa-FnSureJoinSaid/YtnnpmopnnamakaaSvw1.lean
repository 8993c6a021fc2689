/-
  What the laws of the verifier say, plainly. Plain Lean: nothing of a program stands here. Conditions: none.
-/
import Derived.Test.YtnnpmopnnamakaaInw1
set_option linter.unusedVariables false
set_option linter.unusedSimpArgs false
namespace Go.Sx
open Go

def dB (c : Int) : Int := if c = 1 then 1 else if c = 4 ∨ c = 5 ∨ c = 11 then -1 else 0
def dF (c : Int) : Int := if c = 7 then 1 else if c = 9 then -1 else 0
def hB (xs : List Ins) (k : Nat) : Int := ((xs.take k).map fun x => dB x.code).sum
def hF (xs : List Ins) (k : Nat) : Int := ((xs.take k).map fun x => dF x.code).sum
theorem dB_abs (c : Int) : -1 ≤ dB c ∧ dB c ≤ 1 := by unfold dB; split <;> (try split) <;> omega
theorem dF_abs (c : Int) : -1 ≤ dF c ∧ dF c ≤ 1 := by unfold dF; split <;> (try split) <;> omega
theorem hB_zero (xs : List Ins) : hB xs 0 = 0 := rfl
theorem hF_zero (xs : List Ins) : hF xs 0 = 0 := rfl
theorem hB_succ {xs : List Ins} {k : Nat} {x : Ins} (hx : xs[k]? = some x) : hB xs (k + 1) = hB xs k + dB x.code := by
  unfold hB; rw [List.take_add_one, hx]; simp
theorem hF_succ {xs : List Ins} {k : Nat} {x : Ins} (hx : xs[k]? = some x) : hF xs (k + 1) = hF xs k + dF x.code := by
  unfold hF; rw [List.take_add_one, hx]; simp
theorem hB_abs (xs : List Ins) : ∀ k : Nat, k ≤ xs.length → -(k : Int) ≤ hB xs k ∧ hB xs k ≤ k
  | 0, _ => by rw [hB_zero]; omega
  | k + 1, h => by
    have hx : xs[k]? = some (xs[k]'(by omega)) := by simp [show k < xs.length by omega]
    have := hB_abs xs k (by omega)
    have := dB_abs (xs[k]'(by omega)).code
    rw [hB_succ hx]; omega
theorem hF_abs (xs : List Ins) : ∀ k : Nat, k ≤ xs.length → -(k : Int) ≤ hF xs k ∧ hF xs k ≤ k
  | 0, _ => by rw [hF_zero]; omega
  | k + 1, h => by
    have hx : xs[k]? = some (xs[k]'(by omega)) := by simp [show k < xs.length by omega]
    have := hF_abs xs k (by omega)
    have := dF_abs (xs[k]'(by omega)).code
    rw [hF_succ hx]; omega
def trRow (xs : List Ins) (k : Nat) : List Value := [.int .i64 (hB xs (k + 1)), .int .i64 (hF xs (k + 1))]
def trRows (xs : List Ins) (n : Nat) : List (List Value) := (List.range n).map (trRow xs)
def trN (xs : List Ins) : Nat := if xs.length ≤ 1000 then xs.length else 0
structure IsTr (F : Facts) (v : Value) (xs : List Ins) : Prop where
  ex : ∃ o cap, v = .slice o (trN xs) cap ∧ RdO F 2 o (trRows xs (trN xs)) ∧ trN xs ≤ cap ∧ cap ≤ maxLen
theorem IsTr.mono {F G : Facts} {v : Value} {xs : List Ins} (h : IsTr F v xs) (hs : Sub F G) : IsTr G v xs := by
  obtain ⟨o, cap, h1, h2, h3⟩ := h.ex
  exact ⟨o, cap, h1, RdO.mono h2 hs, h3⟩
theorem RdO.some {F : Facts} {size : Nat} {o : Option Addr} {rows : List (List Value)} (h : RdO F size o rows) {i : Nat} {r : List Value} (hi : rows[i]? = some r) : o.isSome = true := by
  obtain ⟨_, a, rfl, _⟩ := h i r hi; rfl
end Go.Sx
namespace Go.Sx
open Go

def needsN (c : Int) : Int := if c = 4 ∨ c = 5 then 2 else if c = 1 then 0 else 1
def wrongN (x : Ins) (b f : Int) (base coil : Bool) : Int :=
  if insOk x = false then 2 else if b < needsN x.code then 3 else if x.code = 1 ∧ 16 ≤ b then 4 else if 7 ≤ x.code ∧ 1 < b then 5
  else if base = true ∧ (((x.code = 3 ∨ x.code = 6) ∧ b = 1) ∨ (x.code = 5 ∧ b = 2)) then 6
  else if (x.code = 7 ∧ 8 ≤ f) ∨ ((x.code = 8 ∨ x.code = 9) ∧ f = 0) ∨ (x.code = 11 ∧ f ≠ 0) then 7
  else if (x.code = 8 ∨ x.code = 9 ∨ x.code = 11) ∧ coil = false then 8 else 0
def baseN (xs : List Ins) : Nat → Bool
  | 0 => false
  | i + 1 => match xs[i]? with
    | some x => x.code != 11 && (baseN xs i || x.code == 10 || x.code == 7)
    | none => baseN xs i
def lastC (xs : List Ins) : Nat → Int
  | 0 => 0
  | i + 1 => match xs[i]? with
    | some x => x.code
    | none => 0
def wrAt (xs : List Ins) (i : Nat) (x : Ins) : Int := wrongN x (hB xs i) (hF xs i) (baseN xs i) (lastC xs i == 10)
def sureGo (xs : List Ins) : Nat → Nat → Int × Int
  | 0, i => if hB xs i ≠ 0 then (9, xs.length) else (0, 0)
  | n + 1, i => match xs[i]? with
    | some x => if wrAt xs i x ≠ 0 then (wrAt xs i x, i) else sureGo xs n (i + 1)
    | none => (0, 0)
def sureN (xs : List Ins) : Int × Int := if xs.length ≤ 1000 then sureGo xs xs.length 0 else (1, 0)
theorem baseN_succ {xs : List Ins} {i : Nat} {x : Ins} (h : xs[i]? = some x) : baseN xs (i + 1) = (x.code != 11 && (baseN xs i || x.code == 10 || x.code == 7)) := by
  rw [baseN, h]
theorem lastC_succ {xs : List Ins} {i : Nat} {x : Ins} (h : xs[i]? = some x) : lastC xs (i + 1) = x.code := by
  rw [lastC, h]
theorem sureGo_succ {xs : List Ins} {i n : Nat} {x : Ins} (h : xs[i]? = some x) : sureGo xs (n + 1) i = if wrAt xs i x ≠ 0 then (wrAt xs i x, (i : Int)) else sureGo xs n (i + 1) := by
  rw [sureGo, h]
theorem insOk_code {x : Ins} (h : insOk x = true) : 1 ≤ x.code ∧ x.code ≤ 11 := by
  unfold insOk at h
  split at h
  · omega
  · split at h
    · omega
    · simp at h; omega
structure Fine (b f : Int) : Prop where
  b0 : 0 ≤ b
  b1 : b ≤ 16
  f0 : 0 ≤ f
  f1 : f ≤ 8
theorem wrong_step {x : Ins} {b f : Int} {base coil : Bool} (h : wrongN x b f base coil = 0) (hf : Fine b f) : Fine (b + dB x.code) (f + dF x.code) ∧ (x.code = 11 → b + dB x.code = 0 ∧ f + dF x.code = 0) ∧ insOk x = true := by
  obtain ⟨h1, h2, h3, h4⟩ := hf
  unfold wrongN at h
  cases hi : insOk x
  · rw [hi] at h; simp at h
  · have hc := insOk_code hi
    rw [hi] at h
    simp only [Bool.true_eq_false, if_false] at h
    split at h
    · omega
    split at h
    · omega
    split at h
    · omega
    split at h
    · omega
    split at h
    · omega
    rename_i q1 q2 q3 _ q5
    clear h
    unfold needsN at q1
    refine ⟨?_, ?_, rfl⟩
    · unfold dB dF
      constructor <;> (split at q1 <;> (repeat' split) <;> omega)
    · intro e
      unfold dB dF
      split at q1 <;> (repeat' split) <;> omega
theorem fine_zero : Fine 0 0 := ⟨by omega, by omega, by omega, by omega⟩
end Go.Sx
namespace Go.Sx
open Go

theorem wrongN_range (x : Ins) (b f : Int) (base coil : Bool) : wrongN x b f base coil = 0 ∨ (2 ≤ wrongN x b f base coil ∧ wrongN x b f base coil ≤ 8) := by
  unfold wrongN; (repeat' split) <;> omega
theorem wrAt_range (xs : List Ins) (i : Nat) (x : Ins) : wrAt xs i x = 0 ∨ (2 ≤ wrAt xs i x ∧ wrAt xs i x ≤ 8) := wrongN_range _ _ _ _ _
theorem sureGo_spec (xs : List Ins) : ∀ (n i : Nat), i + n = xs.length →
    (∃ j x, i ≤ j ∧ xs[j]? = some x ∧ wrAt xs j x ≠ 0 ∧ (∀ k y, i ≤ k → k < j → xs[k]? = some y → wrAt xs k y = 0) ∧ sureGo xs n i = (wrAt xs j x, (j : Int))) ∨
      ((∀ k y, i ≤ k → xs[k]? = some y → wrAt xs k y = 0) ∧ sureGo xs n i = if hB xs xs.length ≠ 0 then (9, (xs.length : Int)) else (0, 0))
  | 0, i, h => by
    refine Or.inr ⟨fun k y hk hy => ?_, ?_⟩
    · have := (List.getElem?_eq_some_iff.1 hy).1; omega
    · have : i = xs.length := by omega
      subst this; rfl
  | n + 1, i, h => by
    have hx : xs[i]? = some (xs[i]'(by omega)) := by simp [show i < xs.length by omega]
    rw [sureGo_succ hx]
    by_cases hw : wrAt xs i (xs[i]'(by omega)) = 0
    · have e : ∀ k y, k = i → xs[k]? = some y → wrAt xs k y = 0 := by
        rintro k y rfl hy
        rw [hx] at hy
        cases hy; exact hw
      rw [if_neg (by simp [hw])]
      rcases sureGo_spec xs n (i + 1) (by omega) with ⟨j, x, h1, h2, h3, h4, h5⟩ | ⟨h1, h2⟩
      · refine Or.inl ⟨j, x, by omega, h2, h3, fun k y hk hkj hy => ?_, h5⟩
        by_cases hki : k = i
        · exact e k y hki hy
        · exact h4 k y (by omega) hkj hy
      · refine Or.inr ⟨fun k y hk hy => ?_, h2⟩
        by_cases hki : k = i
        · exact e k y hki hy
        · exact h1 k y (by omega) hy
    · rw [if_pos hw]
      exact Or.inl ⟨i, _, by omega, hx, hw, fun k y hk hki => by omega, rfl⟩
theorem fine_at (xs : List Ins) : ∀ (i : Nat), i ≤ xs.length → (∀ k y, k < i → xs[k]? = some y → wrAt xs k y = 0) → Fine (hB xs i) (hF xs i) ∧ (hB xs i = 0 → hF xs i = 0)
  | 0, _, _ => by
    rw [hB_zero, hF_zero]; exact ⟨fine_zero, fun _ => rfl⟩
  | i + 1, h, hk => by
    obtain ⟨f1, f2⟩ := fine_at xs i (by omega) fun k y hki hy => hk k y (by omega) hy
    have hx : xs[i]? = some (xs[i]'(by omega)) := by simp [show i < xs.length by omega]
    have hw := hk i _ (by omega) hx
    generalize xs[i]'(by omega) = x at *
    rw [hB_succ hx, hF_succ hx]
    obtain ⟨g1, g2, g3⟩ := wrong_step hw f1
    refine ⟨g1, fun e => ?_⟩
    by_cases h11 : x.code = 11
    · exact (g2 h11).2
    · unfold wrAt wrongN at hw
      rw [g3] at hw
      simp only [Bool.true_eq_false, if_false] at hw
      obtain ⟨q1, q2, q3, q4⟩ := f1
      clear g1 g2 g3 hk hx
      split at hw
      · omega
      rename_i p1
      unfold needsN at p1
      unfold dB at e
      unfold dF
      clear hw
      split at p1 <;> split at e <;> (try split at e) <;> (repeat' split) <;> omega
theorem sureN_zero {xs : List Ins} (h : (sureN xs).1 = 0) : xs.length ≤ 1000 ∧ (∀ k y, xs[k]? = some y → wrAt xs k y = 0) ∧ hB xs xs.length = 0 ∧ hF xs xs.length = 0 ∧ sureN xs = (0, 0) := by
  unfold sureN at h ⊢
  by_cases hl : xs.length ≤ 1000
  · rw [if_pos hl] at h ⊢
    rcases sureGo_spec xs xs.length 0 (by omega) with ⟨j, x, h1, h2, h3, h4, h5⟩ | ⟨h1, h2⟩
    · rw [h5] at h; exact absurd h h3
    · rw [h2] at h ⊢
      by_cases hb : hB xs xs.length = 0
      · have hz := fine_at xs xs.length (by omega) fun k y _ hy => h1 k y (by omega) hy
        exact ⟨hl, fun k y hy => h1 k y (by omega) hy, hb, hz.2 hb, by rw [if_neg (by simp [hb])]⟩
      · rw [if_pos hb] at h; simp at h
  · rw [if_neg hl] at h; simp at h
theorem sureN_bd (xs : List Ins) : 0 ≤ (sureN xs).1 ∧ (sureN xs).1 ≤ 9 ∧ 0 ≤ (sureN xs).2 ∧ (sureN xs).2 ≤ xs.length := by
  unfold sureN
  split
  · rcases sureGo_spec xs xs.length 0 (by omega) with ⟨j, x, h1, h2, h3, h4, h5⟩ | ⟨h1, h2⟩
    · rw [h5]
      have := wrAt_range xs j x
      have := (List.getElem?_eq_some_iff.1 h2).1
      refine ⟨?_, ?_, ?_, ?_⟩ <;> simp only <;> omega
    · rw [h2]; split <;> (refine ⟨?_, ?_, ?_, ?_⟩ <;> simp only <;> omega)
  · refine ⟨?_, ?_, ?_, ?_⟩ <;> simp only <;> omega

end Go.Sx
