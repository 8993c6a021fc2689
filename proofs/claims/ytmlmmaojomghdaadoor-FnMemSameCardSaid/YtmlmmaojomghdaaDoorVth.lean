/-
  Whole numbers as floats of 64 bits: read exactly, in their order. Plain Lean: nothing of a program stands here. Conditions: none.
-/
import Derived.Test.YtmlmmaojomghdaaDoorPth
set_option linter.unusedVariables false
set_option linter.unusedSimpArgs false
set_option maxRecDepth 100000
namespace Go.Sx
open Go

theorem cut_zero (neg : Bool) (n : Nat) : Ieee.Toward.even.cut neg n 0 = n := by
  simp [Ieee.Toward.cut, Nat.mod_one]
theorem nearest_int {mag : Nat} {neg : Bool} (h0 : mag ≠ 0) (h : mag < 9007199254740992) :
    dbl.nearest neg mag 0 = dbl.word neg ((mag.log2 + 1022) * 4503599627370496 + mag * 2 ^ (52 - mag.log2)) ∧ mag.log2 ≤ 52 ∧ 4503599627370496 ≤ mag * 2 ^ (52 - mag.log2) ∧ mag * 2 ^ (52 - mag.log2) < 9007199254740992 := by
  obtain ⟨c1, c2, c3, c4⟩ := consts
  have hl : mag.log2 < 53 := (Nat.log2_lt h0).2 h
  have h1 : 2 ^ mag.log2 ≤ mag := Nat.log2_self_le h0
  have h2 : mag < 2 ^ (mag.log2 + 1) := Nat.lt_log2_self
  have e52 : 2 ^ mag.log2 * 2 ^ (52 - mag.log2) = 4503599627370496 := by
    rw [← Nat.pow_add, show mag.log2 + (52 - mag.log2) = 52 by omega]
  have e53 : 2 ^ (mag.log2 + 1) * 2 ^ (52 - mag.log2) = 9007199254740992 := by
    rw [← Nat.pow_add, show mag.log2 + 1 + (52 - mag.log2) = 53 by omega]
  have hp : 0 < 2 ^ (52 - mag.log2) := Nat.two_pow_pos _
  have hlo : 4503599627370496 ≤ mag * 2 ^ (52 - mag.log2) := by rw [← e52]; exact Nat.mul_le_mul_right _ h1
  have hhi : mag * 2 ^ (52 - mag.log2) < 9007199254740992 := by rw [← e53]; exact Nat.mul_lt_mul_of_pos_right h2 hp
  refine ⟨?_, by omega, hlo, hhi⟩
  unfold Ieee.Format.nearest
  rw [if_neg h0]
  have hf : dbl.fractionBits = 52 := rfl
  simp only [hf, c2, c3, c4]
  have hm : max ((0 : Int) + mag.log2 - (52 : Nat)) (-1074) = (mag.log2 : Int) - 52 := by omega
  rw [hm]
  have ha : ((0 : Int) - ((mag.log2 : Int) - 52)).toNat = 52 - mag.log2 := by omega
  have hb : (((mag.log2 : Int) - 52) - 0).toNat = 0 := by omega
  rw [ha, hb, cut_zero, Nat.shiftLeft_eq]
  have hc : (((mag.log2 : Int) - 52) - (-1074)).toNat = mag.log2 + 1022 := by omega
  rw [hc, Nat.min_eq_left (by omega)]
theorem cmp_mul {a b c : Int} (hc : 0 < c) : compare (a * c) (b * c) = compare a b := by
  simp only [compare, compareOfLessAndEq]
  have h1 : a * c < b * c ↔ a < b := Int.mul_lt_mul_right hc
  have h2 : a * c = b * c ↔ a = b := Int.mul_eq_mul_right_iff (by omega)
  simp only [h1, h2]
end Go.Sx
