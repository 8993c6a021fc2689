/-
  Floats of 64 bits, plainly: which are nan, when two are one. Conditions: none.
-/
import Derived.Test.YtfhnbdlkiemaeaaSx
import Derived.KernelRfl
import Derived.Laws.FloatBits
set_option linter.unusedVariables false
set_option linter.unusedSimpArgs false
set_option maxRecDepth 100000
namespace Go.Sx
open Go

abbrev dbl : Ieee.Format := Ieee.double
def isNan (x : Nat) : Bool := (dbl.read x).isNaN
/-- One number, or both are nan. -/
def sameF (a b : Nat) : Prop := (a = b ∧ isNan a = false) ∨ (isNan a = true ∧ isNan b = true)
theorem sameF_refl (a : Nat) : sameF a a := by
  unfold sameF; cases isNan a <;> simp

theorem cmp_selfI (a : Int) : compare a a = .eq := by
  simp [compare, compareOfLessAndEq]
theorem cmp_selfN (a : Nat) : compare a a = .eq := by
  simp [compare, compareOfLessAndEq]
theorem cmp_eqI {a b : Int} : compare a b = .eq ↔ a = b := by
  simp only [compare, compareOfLessAndEq]
  by_cases h : a < b
  · rw [if_pos h]; constructor
    · intro h; cases h
    · omega
  · rw [if_neg h]
    by_cases e : a = b
    · simp [e]
    · simp [e]

theorem ord_self (x : Nat) : dbl.order x x = if isNan x then none else some .eq := by
  unfold Ieee.Format.order isNan
  cases dbl.read x <;> simp [Ieee.Datum.order, Ieee.Datum.isNaN, cmp_selfI, cmp_selfN]
theorem ord_nan_left {x : Nat} (h : isNan x = true) (y : Nat) : dbl.order x y = none := by
  unfold isNan at h
  unfold Ieee.Format.order
  cases e : dbl.read x <;> simp [e, Ieee.Datum.isNaN] at h
  simp [Ieee.Datum.order]
theorem ord_nan_right {y : Nat} (h : isNan y = true) (x : Nat) : dbl.order x y = none := by
  unfold isNan at h
  unfold Ieee.Format.order
  cases e : dbl.read y <;> simp [e, Ieee.Datum.isNaN] at h
  cases dbl.read x <;> simp [Ieee.Datum.order]
theorem read_zero : dbl.read 0 = .number false 0 (-1074) := by kernel_rfl
theorem consts : dbl.signWeight = 9223372036854775808 ∧ dbl.binade = 4503599627370496 ∧ dbl.infRung = 9218868437227405312 ∧ dbl.leastPlace = -1074 := by
  refine ⟨by kernel_rfl, by kernel_rfl, by kernel_rfl, by kernel_rfl⟩

theorem signed_zero (s : Bool) (m u : Nat) : Ieee.signed s m u = 0 ↔ m = 0 := by
  unfold Ieee.signed
  have : m <<< u = 0 ↔ m = 0 := by
    rw [Nat.shiftLeft_eq]
    have := Nat.two_pow_pos u
    constructor
    · intro h
      rcases Nat.mul_eq_zero.1 h with h | h
      · exact h
      · omega
    · rintro rfl; simp
  cases s <;> simp [this]

theorem ord_zero {x : Nat} (hx : x < 18446744073709551616) : dbl.order x 0 = some .eq ↔ x = 0 ∨ x = 9223372036854775808 := by
  obtain ⟨c1, c2, c3, c4⟩ := consts
  unfold Ieee.Format.order
  rw [read_zero]
  unfold Ieee.Format.read
  simp only [c1, c2, c3, c4]
  have key : ∀ (s : Bool) (m : Nat) (e : Int), (Ieee.Datum.order (.number s m e) (.number false 0 (-1074)) = some .eq) ↔ m = 0 := by
    intro s m e
    simp only [Ieee.Datum.order, Option.some.injEq, cmp_eqI]
    have h0 : ∀ u, Ieee.signed false 0 u = 0 := fun u => (signed_zero false 0 u).2 rfl
    rw [h0, signed_zero]
  split
  · rw [key]; omega
  · split
    · rw [key]; omega
    · split
      · simp [Ieee.Datum.order]
        constructor
        · intro h; split at h <;> cases h
        · omega
      · simp [Ieee.Datum.order]
        omega

theorem isNan_iff (x : Nat) : isNan x = decide (9218868437227405312 < x % 9223372036854775808) := by
  obtain ⟨c1, c2, c3, c4⟩ := consts
  unfold isNan Ieee.Format.read
  simp only [c1, c2, c3]
  split
  · simp [Ieee.Datum.isNaN]; omega
  · split
    · simp [Ieee.Datum.isNaN]; omega
    · split
      · simp [Ieee.Datum.isNaN]; omega
      · simp [Ieee.Datum.isNaN]; omega
/-- Any nan that the machine may give. -/
theorem nan_cut {a b t : Nat} : isNan ((Question.nanBits .f64 a b).cut t) = true ∧ (Question.nanBits .f64 a b).cut t < 18446744073709551616 := by
  rw [isNan_iff, decide_eq_true_eq]
  have h1 : t % 2 < 2 := Nat.mod_lt _ (by omega)
  have h2 : t / 2 % 4503599627370495 < 4503599627370495 := Nat.mod_lt _ (by omega)
  have e : (Question.nanBits .f64 a b).cut t = (t % 2) * 9223372036854775808 + 9218868437227405312 + 1 + t / 2 % 4503599627370495 := rfl
  rw [e]
  clear e
  generalize t % 2 = z at *
  generalize t / 2 % 4503599627370495 = y at *
  have hz : z = 0 ∨ z = 1 := by omega
  rcases hz with rfl | rfl
  · omega
  · omega
theorem sameF_nan {a b : Nat} (ha : isNan a = true) (hb : isNan b = true) : sameF a b := Or.inr ⟨ha, hb⟩
theorem fRes_same {x : Option Nat} {a b : Nat} (ha : fRes .f64 x a) (hb : fRes .f64 x b) : sameF a b := by
  unfold fRes at ha hb
  cases x with
  | none => obtain ⟨t, rfl⟩ := ha; obtain ⟨u, rfl⟩ := hb; exact sameF_nan nan_cut.1 nan_cut.1
  | some y => simp only at ha hb; subst ha; subst hb; exact sameF_refl _
theorem fRes_div {x y r : Nat} (h : fRes .f64 (dbl.div x y) r) : r < 18446744073709551616 := by
  unfold fRes at h
  cases e : dbl.div x y with
  | none => rw [e] at h; obtain ⟨t, rfl⟩ := h; exact nan_cut.2
  | some z => rw [e] at h; simp only at h; subst h; exact Ieee.Format.div_lt _ e
theorem div_one_pos : dbl.div 4607182418800017408 0 = some 9218868437227405312 := by kernel_rfl
theorem div_one_neg : dbl.div 4607182418800017408 9223372036854775808 = some 18442240474082181120 := by kernel_rfl
theorem ord_inf_pos : dbl.order 9218868437227405312 0 = some .gt := by kernel_rfl
theorem ord_inf_neg : dbl.order 18442240474082181120 0 = some .lt := by kernel_rfl
end Go.Sx
