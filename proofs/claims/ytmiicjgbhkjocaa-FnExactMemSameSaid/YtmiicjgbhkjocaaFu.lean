/-
  Floats of 64 bits: their order with a few words, odd parts. Plain Lean: nothing of a program stands here. Conditions: none.
-/
import Derived.Test.YtmiicjgbhkjocaaFt
set_option linter.unusedVariables false
set_option linter.unusedSimpArgs false
set_option maxRecDepth 100000
namespace Go.Sx
open Go

/-- A magnitude, counted in the least units. -/
def unitsV (m : Nat) (i : Int) : Nat := m * 2 ^ (i + 1074).toNat
theorem ord_pos {x y m n : Nat} {i j : Int} (hx : dbl.read x = .number false m i) (hy : dbl.read y = .number false n j) : dbl.order x y = some (compare (unitsV m i : Int) (unitsV n j)) := by
  have h1 := (read_norm hx).lo
  have h2 := (read_norm hy).lo
  unfold Ieee.Format.order
  rw [hx, hy]
  simp only [Ieee.Datum.order, signed_pow, Bool.false_eq_true, if_false]
  have hc : (0 : Int) < ((2 ^ (min i j + 1074).toNat : Nat) : Int) := by exact_mod_cast Nat.two_pow_pos _
  rw [← cmp_mul hc]
  have e1 : m * 2 ^ (i - min i j).toNat * 2 ^ (min i j + 1074).toNat = unitsV m i := by
    unfold unitsV; rw [Nat.mul_assoc, ← Nat.pow_add]; congr 2; omega
  have e2 : n * 2 ^ (j - min i j).toNat * 2 ^ (min i j + 1074).toNat = unitsV n j := by
    unfold unitsV; rw [Nat.mul_assoc, ← Nat.pow_add]; congr 2; omega
  rw [← e1, ← e2]
  push_cast
  rfl
theorem read_53 : dbl.read 4845873199050653696 = .number false 4503599627370496 1 := by kernel_rfl
theorem read_52 : dbl.read 4841369599423283200 = .number false 4503599627370496 0 := by kernel_rfl
theorem read_max : dbl.read 9218868437227405311 = .number false 9007199254740991 971 := by kernel_rfl
theorem units_le {m n : Nat} {i j : Int} (hi : -1074 ≤ i) (h : i ≤ j) (hm : m ≤ n) : unitsV m i ≤ unitsV n j :=
  Nat.mul_le_mul hm (Nat.pow_le_pow_right (by decide) (by omega))
theorem units_lt {m n : Nat} {i : Int} (hm : m < n) : unitsV m i < unitsV n i := Nat.mul_lt_mul_of_pos_right hm (Nat.two_pow_pos _)
theorem units_up {m : Nat} {i : Int} (hi : -1074 ≤ i) : unitsV m (i + 1) = unitsV (2 * m) i := by
  unfold unitsV
  rw [show (i + 1 + 1074).toNat = (i + 1074).toNat + 1 by omega, Nat.pow_succ, Nat.mul_comm 2 m, Nat.mul_assoc, Nat.mul_comm 2]
theorem cmp_int (a b : Nat) : compare (a : Int) b = if a < b then .lt else if a = b then .eq else .gt := by
  rw [cmpI]
  simp only [Int.ofNat_lt, Int.ofNat_inj]
theorem ge53 {x m : Nat} {i : Int} (h : dbl.read x = .number false m i) : (dbl.order x 4845873199050653696 == some .gt || dbl.order x 4845873199050653696 == some .eq) = decide (1 ≤ i) := by
  obtain ⟨n1, n2, n3, n4⟩ := read_norm h
  rw [ord_pos h read_53, cmp_int]
  by_cases hi : 1 ≤ i
  · have h1 : unitsV 4503599627370496 1 ≤ unitsV m i := units_le (by decide) hi (by omega)
    rw [if_neg (by omega)]
    split <;> simp [hi]
  · have e : unitsV 4503599627370496 (0 + 1) = unitsV (2 * 4503599627370496) 0 := units_up (by decide)
    have h1 : unitsV m i ≤ unitsV m 0 := units_le n1 (by omega) (Nat.le_refl _)
    have h2 : unitsV m 0 < unitsV (2 * 4503599627370496) 0 := units_lt (by omega)
    rw [Int.zero_add] at e
    rw [if_pos (by omega)]
    simp [hi]
theorem lt52 {x m : Nat} {i : Int} (h : dbl.read x = .number false m i) : (dbl.order x 4841369599423283200 == some .lt) = decide (i < 0) := by
  obtain ⟨n1, n2, n3, n4⟩ := read_norm h
  rw [ord_pos h read_52, cmp_int]
  by_cases hi : 0 ≤ i
  · have h1 : unitsV 4503599627370496 0 ≤ unitsV m i := units_le (by decide) hi (by omega)
    rw [if_neg (by omega)]
    have : ¬ i < 0 := by omega
    split <;> simp [this]
  · have e : unitsV 4503599627370496 (-1 + 1) = unitsV (2 * 4503599627370496) (-1) := units_up (by decide)
    have h1 : unitsV m i ≤ unitsV m (-1) := units_le n1 (by omega) (Nat.le_refl _)
    have h2 : unitsV m (-1) < unitsV (2 * 4503599627370496) (-1) := units_lt (by omega)
    rw [show (-1 : Int) + 1 = 0 from rfl] at e
    rw [if_pos (by omega)]
    have : i < 0 := by omega
    simp [this]
theorem gtMax {x m : Nat} {i : Int} (h : dbl.read x = .number false m i) : (dbl.order x 9218868437227405311 == some .gt) = false := by
  obtain ⟨n1, n2, n3, n4⟩ := read_norm h
  rw [ord_pos h read_max, cmp_int]
  have h1 : unitsV m i ≤ unitsV 9007199254740991 971 := units_le n1 n2 (by omega)
  split
  · rfl
  split
  · rfl
  · omega
theorem gtMax_inf {x : Nat} (h : dbl.read x = .infinity false) : (dbl.order x 9218868437227405311 == some .gt) = true := by
  unfold Ieee.Format.order
  rw [h, read_max]
  rfl
theorem read_zeroU : dbl.read 0 = .number false 0 (-1074) := by kernel_rfl
theorem ord_zeroU {x : Nat} {s : Bool} {m : Nat} {i : Int} (h : dbl.read x = .number s m i) : dbl.order x 0 = some (if m = 0 then .eq else if s then .lt else .gt) := by
  unfold Ieee.Format.order
  rw [h, read_zeroU]
  simp only [Ieee.Datum.order, signed_pow, Nat.zero_mul, Bool.false_eq_true, if_false, cmpI]
  have hp := Nat.two_pow_pos (i - min i (-1074)).toNat
  generalize 2 ^ (i - min i (-1074)).toNat = q at hp
  by_cases hm : m = 0
  · subst hm; cases s <;> simp
  · have : 0 < m * q := Nat.mul_pos (by omega) hp
    generalize m * q = w at this
    rw [if_neg hm]
    cases s
    · simp; rw [if_neg (by omega), if_neg (by omega)]
    · simp; omega
theorem ord_zero_inf {x : Nat} {s : Bool} (h : dbl.read x = .infinity s) : dbl.order x 0 = some (if s then .lt else .gt) := by
  unfold Ieee.Format.order
  rw [h, read_zeroU]
  rfl
theorem read_one : dbl.read 4607182418800017408 = .number false 4503599627370496 (-52) := by kernel_rfl
theorem one_zero {x : Nat} {s : Bool} {i : Int} (h : dbl.read x = .number s 0 i) : dbl.div 4607182418800017408 x = some (dbl.word s dbl.infRung) := by
  unfold Ieee.Format.div
  rw [h, read_one]
  simp only [Ieee.Datum.quotient]
  rw [if_pos trivial, if_neg (by decide)]
  simp [Ieee.Format.write]
theorem read_inf (s : Bool) : dbl.read (dbl.word s dbl.infRung) = .infinity s := by cases s <;> kernel_rfl
theorem num_notNan {x : Nat} {s : Bool} {m : Nat} {i : Int} (h : dbl.read x = .number s m i) : isNan x = false := by unfold isNan; rw [h]; rfl
theorem inf_notNan {x : Nat} {s : Bool} (h : dbl.read x = .infinity s) : isNan x = false := by unfold isNan; rw [h]; rfl
theorem ord_selfU {x : Nat} (h : isNan x = false) : dbl.order x x = some .eq := by
  unfold Ieee.Format.order
  unfold isNan at h
  cases hr : dbl.read x with
  | number s m i => simp only [Ieee.Datum.order, cmpI]; simp
  | infinity s => simp only [Ieee.Datum.order]; cases s <;> rfl
  | nan s t => rw [hr] at h; cases h
theorem read_nanU {a : Nat} (h : isNan a = true) : ∃ s t, dbl.read a = .nan s t := by
  unfold isNan at h
  cases e : dbl.read a with
  | nan s t => exact ⟨s, t, rfl⟩
  | infinity s => rw [e] at h; cases h
  | number s m i => rw [e] at h; cases h
theorem ord_self_nan {x : Nat} (h : isNan x = true) : dbl.order x x = none := by
  obtain ⟨s, t, e⟩ := read_nanU h
  unfold Ieee.Format.order; rw [e]; rfl

/-- A number without its factors of two, and how many there are. -/
def strip (m : Nat) : Nat × Nat := if h : m ≠ 0 ∧ m % 2 = 0 then ((strip (m / 2)).1, (strip (m / 2)).2 + 1) else (m, 0)
termination_by m
decreasing_by all_goals omega
theorem strip_odd {m : Nat} (h : m % 2 = 1) : strip m = (m, 0) := by
  rw [strip, dif_neg (by omega)]
theorem strip_two {m : Nat} (h : m ≠ 0) : strip (2 * m) = ((strip m).1, (strip m).2 + 1) := by
  rw [strip, dif_pos (by omega), show 2 * m / 2 = m by omega]
theorem strip_pow {m : Nat} (h : m ≠ 0) : ∀ k, strip (m * 2 ^ k) = ((strip m).1, (strip m).2 + k)
  | 0 => by simp
  | k + 1 => by
    have h0 : m * 2 ^ k ≠ 0 := Nat.mul_ne_zero h (Nat.ne_of_gt (Nat.two_pow_pos k))
    rw [Nat.pow_succ, ← Nat.mul_assoc, Nat.mul_comm (m * 2 ^ k) 2, strip_two h0, strip_pow h k]; rfl
theorem strip_val (m : Nat) : (strip m).1 * 2 ^ (strip m).2 = m := by
  induction m using Nat.strongRecOn with
  | _ m ih =>
    rw [strip]
    split
    · rename_i h
      simp only
      rw [Nat.pow_succ, ← Nat.mul_assoc, ih (m / 2) (by omega)]; omega
    · simp
/-- Where all factors of two are off. -/
theorem strip_end {n j m k : Nat} (hm : m ≠ 0) (hn : n % 2 = 1) (h : n * 2 ^ j = m * 2 ^ k) : n = (strip m).1 ∧ j = (strip m).2 + k := by
  have e := strip_pow (m := n) (by omega) j
  rw [h, strip_pow hm, strip_odd hn] at e
  simp at e
  omega
end Go.Sx
