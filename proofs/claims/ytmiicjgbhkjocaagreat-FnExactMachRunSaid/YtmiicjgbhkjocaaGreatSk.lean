/-
  What is wrong with an instruction where it stands, and with a list, plainly. Plain Lean: nothing of a program stands here. Conditions: none.
-/
import Derived.Test.YtmiicjgbhkjocaaGreatSp
import Derived.Test.YtmiicjgbhkjocaaGreatEp
set_option linter.unusedVariables false
set_option linter.unusedSimpArgs false
namespace Go.Sx
open Go

def needsN (c : Int) : Int := if c = 4 ∨ c = 5 then 2 else if c = 1 then 0 else 1
/-- Bits b, forks f ahead of it; base: a coil or mps of its rung is ahead; coil: the one just ahead is a coil. -/
def wrongN (x : Ins) (b f : Int) (base coil : Bool) : Int :=
  if insOk x = false then 2 else if b < needsN x.code then 3 else if x.code = 1 ∧ 16 ≤ b then 4 else if 7 ≤ x.code ∧ 1 < b then 5
  else if base = true ∧ (((x.code = 3 ∨ x.code = 6) ∧ b = 1) ∨ (x.code = 5 ∧ b = 2)) then 6
  else if (x.code = 7 ∧ 8 ≤ f) ∨ ((x.code = 8 ∨ x.code = 9) ∧ f = 0) ∨ (x.code = 11 ∧ f ≠ 0) then 7
  else if (x.code = 8 ∨ x.code = 9 ∨ x.code = 11) ∧ coil = false then 8 else 0
def baseN (xs : List Ins) : Nat → Bool
  | 0 => false
  | i + 1 => match xs[i]? with
    | some x => x.code != 11 && (baseN xs i || x.code == 10 || x.code == 7)
    | none => baseN xs i
def lastC (xs : List Ins) : Nat → Int
  | 0 => 0
  | i + 1 => match xs[i]? with
    | some x => x.code
    | none => 0
def wrAt (xs : List Ins) (i : Nat) (x : Ins) : Int := wrongN x (hB xs i) (hF xs i) (baseN xs i) (lastC xs i == 10)
def sureGo (xs : List Ins) : Nat → Nat → Int × Int
  | 0, i => if hB xs i ≠ 0 then (9, xs.length) else (0, 0)
  | n + 1, i => match xs[i]? with
    | some x => if wrAt xs i x ≠ 0 then (wrAt xs i x, i) else sureGo xs n (i + 1)
    | none => (0, 0)
def sureN (xs : List Ins) : Int × Int := if xs.length ≤ 1000 then sureGo xs xs.length 0 else (1, 0)
theorem baseN_succ {xs : List Ins} {i : Nat} {x : Ins} (h : xs[i]? = some x) : baseN xs (i + 1) = (x.code != 11 && (baseN xs i || x.code == 10 || x.code == 7)) := by
  rw [baseN, h]
theorem lastC_succ {xs : List Ins} {i : Nat} {x : Ins} (h : xs[i]? = some x) : lastC xs (i + 1) = x.code := by
  rw [lastC, h]
theorem sureGo_succ {xs : List Ins} {i n : Nat} {x : Ins} (h : xs[i]? = some x) : sureGo xs (n + 1) i = if wrAt xs i x ≠ 0 then (wrAt xs i x, (i : Int)) else sureGo xs n (i + 1) := by
  rw [sureGo, h]
theorem insOk_code {x : Ins} (h : insOk x = true) : 1 ≤ x.code ∧ x.code ≤ 11 := by
  unfold insOk at h
  split at h
  · omega
  · split at h
    · omega
    · simp at h; omega
/-- Where nothing was wrong so far. -/
structure Fine (b f : Int) : Prop where
  b0 : 0 ≤ b
  b1 : b ≤ 16
  f0 : 0 ≤ f
  f1 : f ≤ 8
theorem wrong_step {x : Ins} {b f : Int} {base coil : Bool} (h : wrongN x b f base coil = 0) (hf : Fine b f) : Fine (b + dB x.code) (f + dF x.code) ∧ (x.code = 11 → b + dB x.code = 0 ∧ f + dF x.code = 0) ∧ insOk x = true := by
  obtain ⟨h1, h2, h3, h4⟩ := hf
  unfold wrongN at h
  cases hi : insOk x
  · rw [hi] at h; simp at h
  · have hc := insOk_code hi
    rw [hi] at h
    simp only [Bool.true_eq_false, if_false] at h
    split at h
    · omega
    split at h
    · omega
    split at h
    · omega
    split at h
    · omega
    split at h
    · omega
    rename_i q1 q2 q3 _ q5
    clear h
    unfold needsN at q1
    refine ⟨?_, ?_, rfl⟩
    · unfold dB dF
      constructor <;> (split at q1 <;> (repeat' split) <;> omega)
    · intro e
      unfold dB dF
      split at q1 <;> (repeat' split) <;> omega
theorem fine_zero : Fine 0 0 := ⟨by omega, by omega, by omega, by omega⟩
end Go.Sx
