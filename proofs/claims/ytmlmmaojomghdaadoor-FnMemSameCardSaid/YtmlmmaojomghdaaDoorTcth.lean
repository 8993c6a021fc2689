/-
  Numbers and operands, read out of their texts. Plain Lean: nothing of a program stands here. Conditions: none.
-/
import Derived.Test.YtmlmmaojomghdaaDoorTath
import Derived.Lib.AtoiAll
import Derived.Lib.ItoaNum
import Derived.Lib.ParseIntB
import Derived.Lib.IndexMore
import Derived.Lib.IndexLaws
set_option linter.unusedVariables false
set_option linter.unusedSimpArgs false
namespace Go.Sx
open Go

def Digs (l : Str) : Prop := ∀ c ∈ l, 48 ≤ c.toNat ∧ c.toNat ≤ 57
theorem itoa_dec (n : Nat) : Lib.decDigits n = decL n := by
  induction n using Nat.strongRecOn with
  | _ n ih =>
    rw [Lib.decDigits, decL]
    by_cases h : n < 10
    · rw [dif_pos h, dif_pos (by omega)]; rfl
    · rw [dif_neg h, dif_neg (by omega), ih (n / 10) (by omega)]; rfl
theorem decL_ne (n : Nat) : decL n ≠ [] := fun h => by have := decL_len1 n; rw [h] at this; simp at this
theorem padS_len (p : Nat) (l : Str) : (padS p l).length = max (p + 1) l.length := by unfold padS; simp; omega
def signS (n : Int) : Str := if n < 0 then [45] else []
def cutAt (c : UInt8) (s : Str) : Str × Str × Bool := if s.contains c then (s.takeWhile (· != c), (s.dropWhile (· != c)).drop 1, true) else (s, [], false)
theorem cutAt_hit {c : UInt8} {a b : Str} (h : c ∉ a) : cutAt c (a ++ c :: b) = (a, b, true) := by
  unfold cutAt
  rw [if_pos (by simp)]
  have h1 : (a ++ c :: b).takeWhile (· != c) = a := by
    rw [List.takeWhile_append_of_pos (by intro x hx; simp; rintro rfl; exact h hx)]
    simp
  have h2 : (a ++ c :: b).dropWhile (· != c) = c :: b := by
    rw [List.dropWhile_append_of_pos (by intro x hx; simp; rintro rfl; exact h hx)]
    simp
  rw [h1, h2]; rfl
def idxL (c : UInt8) : Str → Int
  | [] => -1
  | x :: l => if x = c then 0 else if idxL c l = -1 then -1 else idxL c l + 1
theorem idxL_miss {c : UInt8} : ∀ {l : Str}, c ∉ l → idxL c l = -1
  | [], _ => rfl
  | x :: l, h => by
    have h1 : ¬ x = c := fun e => h (by simp [e])
    have h2 : c ∉ l := fun e => h (by simp [e])
    rw [idxL, if_neg h1, if_pos (idxL_miss h2)]
def letters : Str := [88, 89, 77, 83, 69, 71, 84, 67, 68, 82]
def words4 : List Str := [[110, 97, 110], [105, 110, 102], [45, 105, 110, 102], [45, 48, 46, 48]]
theorem dOk_cases {d : Dev} (h : dOk d = true) : (1 ≤ d.k ∧ d.k ≤ 10 ∧ 0 ≤ d.n ∧ d.n < devSize d.k ∧ d.p = 0) ∨ (d.k = 11 ∧ -32768 ≤ d.n ∧ d.n ≤ 32767 ∧ d.p = 0) ∨
    (d.k = 12 ∧ -999999999 ≤ d.n ∧ d.n ≤ 999999999 ∧ 1 ≤ d.p ∧ d.p ≤ 6 ∧ (d.p = 1 ∨ d.n.tmod 10 ≠ 0)) ∨ (d.k = 13 ∧ 0 ≤ d.n ∧ d.n ≤ 3 ∧ d.p = 0) := by
  unfold dOk devOk at h
  exact of_decide_eq_true h
theorem devSize_le (k : Int) : devSize k ≤ 64 := by unfold devSize; (repeat' split) <;> omega
theorem decZ_head (n : Int) : ∃ c r, decZ n = c :: r ∧ ((48 ≤ c.toNat ∧ c.toNat ≤ 57) ∨ c = 45) ∧ (∀ x ∈ r, 48 ≤ x.toNat ∧ x.toNat ≤ 57) ∧ (c = 45 → r ≠ []) := by
  unfold decZ
  split
  · exact ⟨45, _, rfl, Or.inr rfl, decL_dig _, fun _ => decL_ne _⟩
  · obtain ⟨c, r, e, h1, h2⟩ := decL_cons n.natAbs
    refine ⟨c, r, e, Or.inl ⟨h1, h2⟩, fun x hx => decL_dig n.natAbs x (by rw [e]; simp [hx]), fun hc => ?_⟩
    subst hc; exact absurd h1 (by decide)
theorem devL_ok {d : Dev} (h : dOk d = true) : devL d = devT d := by unfold devL; rw [if_pos h]
theorem devL_bad {d : Dev} (h : dOk d = false) : devL d = [] := by unfold devL; rw [h]; rfl
end Go.Sx
