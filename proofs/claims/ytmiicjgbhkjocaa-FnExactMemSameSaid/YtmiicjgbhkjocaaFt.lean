/-
  Floats of 64 bits, halved and doubled exactly. Plain Lean: nothing of a program stands here. Conditions: none.
-/
import Derived.Test.YtmiicjgbhkjocaaRw
set_option linter.unusedVariables false
set_option linter.unusedSimpArgs false
set_option maxRecDepth 100000
namespace Go.Sx
open Go

/-- What is read of a word that stands for a number. -/
structure Norm (m : Nat) (i : Int) : Prop where
  lo : -1074 ≤ i
  hi : i ≤ 971
  sm : m < 9007199254740992
  nr : 4503599627370496 ≤ m ∨ i = -1074
theorem read_norm {x : Nat} {s : Bool} {m : Nat} {i : Int} (h : dbl.read x = .number s m i) : Norm m i := by
  obtain ⟨c1, c2, c3, c4⟩ := consts
  unfold Ieee.Format.read at h
  simp only [c1, c2, c3, c4] at h
  split at h
  · injection h with h1 h2 h3
    refine ⟨?_, ?_, ?_, ?_⟩ <;> omega
  split at h
  · injection h with h1 h2 h3
    refine ⟨?_, ?_, ?_, ?_⟩ <;> omega
  split at h <;> cases h
def rungOf (m : Nat) (i : Int) : Nat := (i + 1074).toNat * 4503599627370496 + m
theorem word_of {x : Nat} {s : Bool} {m : Nat} {i : Int} (hx : x < 18446744073709551616) (h : dbl.read x = .number s m i) : x = dbl.word s (rungOf m i) := by
  obtain ⟨c1, c2, c3, c4⟩ := consts
  unfold Ieee.Format.read at h
  unfold Ieee.Format.word rungOf
  simp only [c1, c2, c3, c4] at h ⊢
  split at h
  · injection h with h1 h2 h3
    subst h1 h2 h3
    by_cases hq : x / 9223372036854775808 % 2 = 1
    · rw [if_pos (by simpa using hq)]; omega
    · rw [if_neg (by simpa using hq)]; omega
  split at h
  · injection h with h1 h2 h3
    subst h1 h2 h3
    by_cases hq : x / 9223372036854775808 % 2 = 1
    · rw [if_pos (by simpa using hq)]; omega
    · rw [if_neg (by simpa using hq)]; omega
  split at h <;> cases h
theorem read_word {neg : Bool} {m : Nat} {i : Int} (h : Norm m i) : dbl.read (dbl.word neg (rungOf m i)) = .number neg m i := by
  obtain ⟨c1, c2, c3, c4⟩ := consts
  obtain ⟨h1, h2, h3, h4⟩ := h
  unfold Ieee.Format.read Ieee.Format.word rungOf
  simp only [c1, c2, c3, c4]
  obtain ⟨e, rfl⟩ : ∃ e : Nat, i = (e : Int) - 1074 := ⟨(i + 1074).toNat, by omega⟩
  have ee : ((e : Int) - 1074 + 1074).toNat = e := by omega
  rw [ee]
  have hr : (if neg = true then 9223372036854775808 + (e * 4503599627370496 + m) else e * 4503599627370496 + m) % 9223372036854775808 = e * 4503599627370496 + m := by
    cases neg <;> simp <;> omega
  have hn : ((if neg = true then 9223372036854775808 + (e * 4503599627370496 + m) else e * 4503599627370496 + m) / 9223372036854775808 % 2 == 1) = neg := by
    cases neg <;> simp <;> omega
  rw [hr, hn]
  rcases h4 with h4 | h4
  · rw [if_neg (by omega), if_pos (by omega)]
    have g1 : 4503599627370496 + (e * 4503599627370496 + m) % 4503599627370496 = m := by omega
    have g2 : (-1074 : Int) + (((e * 4503599627370496 + m) / 4503599627370496 - 1 : Nat) : Int) = (e : Int) - 1074 := by omega
    rw [g1, g2]
  · have he : e = 0 := by omega
    subst he
    by_cases hm : m < 4503599627370496
    · rw [if_pos (by omega)]
      simp
    · rw [if_neg (by omega), if_pos (by omega)]
      have g1 : 4503599627370496 + (0 * 4503599627370496 + m) % 4503599627370496 = m := by omega
      have g2 : (-1074 : Int) + (((0 * 4503599627370496 + m) / 4503599627370496 - 1 : Nat) : Int) = ((0 : Nat) : Int) - 1074 := by omega
      rw [g1, g2]
theorem log2_pow {m : Nat} (h : m ≠ 0) : ∀ a, (m * 2 ^ a).log2 = m.log2 + a
  | 0 => by simp
  | a + 1 => by
    have h0 : m * 2 ^ a ≠ 0 := Nat.mul_ne_zero h (Nat.ne_of_gt (Nat.two_pow_pos a))
    rw [Nat.pow_succ, ← Nat.mul_assoc, Nat.mul_comm (m * 2 ^ a) 2, Nat.log2_two_mul h0, log2_pow h a]; omega
theorem cut_exact {neg : Bool} {m a : Nat} (h : m ≠ 0) : Ieee.Toward.even.cut neg (m * 2 ^ a) a = m := by
  simp only [Ieee.Toward.cut, Nat.shiftLeft_eq, Nat.one_mul]
  rw [log2_pow h, Nat.min_eq_left (by omega)]
  have hp := Nat.two_pow_pos a
  rw [Nat.mul_mod_left, Nat.mul_div_cancel _ hp]
  have h1 : ¬ 2 ^ a < 2 * 0 := by omega
  have h2 : (2 ^ a == 2 * 0) = false := by rw [beq_eq_false_iff_ne]; omega
  rw [h2]
  simp [h1]
/-- A number that the format has is written as it is. -/
theorem nearest_norm {neg : Bool} {mag m : Nat} {place i : Int} (h0 : m ≠ 0) (hN : Norm m i) (hv : (∃ a : Nat, place = i - a ∧ mag = m * 2 ^ a) ∨ (∃ a : Nat, place = i + a ∧ m = mag * 2 ^ a)) :
    dbl.nearest neg mag place = dbl.word neg (rungOf m i) := by
  obtain ⟨c1, c2, c3, c4⟩ := consts
  obtain ⟨n1, n2, n3, n4⟩ := hN
  have hl53 : m.log2 < 53 := (Nat.log2_lt h0).2 n3
  have hl52 : 4503599627370496 ≤ m → 52 ≤ m.log2 := by
    intro hm
    rcases Nat.lt_or_ge m.log2 52 with hl | hl
    · have := (Nat.log2_lt h0).1 hl
      have e : (2 : Nat) ^ 52 = 4503599627370496 := rfl
      omega
    · exact hl
  have hf : dbl.fractionBits = 52 := rfl
  have hlast : max (i + m.log2 - (52 : Nat)) (-1074) = i := by
    rcases n4 with n4 | n4
    · have := hl52 n4; omega
    · omega
  have hmin : min ((i + 1074).toNat * 4503599627370496 + m) 9218868437227405312 = (i + 1074).toNat * 4503599627370496 + m := by
    rw [Nat.min_eq_left]; omega
  unfold Ieee.Format.nearest rungOf
  simp only [hf, c2, c3, c4]
  rcases hv with ⟨a, rfl, rfl⟩ | ⟨a, rfl, rfl⟩
  · have hm0 : m * 2 ^ a ≠ 0 := Nat.mul_ne_zero h0 (Nat.ne_of_gt (Nat.two_pow_pos a))
    rw [if_neg hm0, log2_pow h0]
    have e1 : i - (a : Int) + ((m.log2 + a : Nat) : Int) - (52 : Nat) = i + m.log2 - (52 : Nat) := by omega
    rw [e1, hlast]
    have e2 : (i - (a : Int) - i).toNat = 0 := by omega
    have e3 : (i - (i - (a : Int))).toNat = a := by omega
    rw [e2, e3, Nat.shiftLeft_eq, Nat.pow_zero, Nat.mul_one, cut_exact h0]
    have e4 : (i - -1074).toNat = (i + 1074).toNat := by omega
    rw [e4, hmin]
  · have hm0 : mag ≠ 0 := by rintro rfl; simp at h0
    rw [if_neg hm0]
    have e1 : i + (a : Int) + (mag.log2 : Int) - (52 : Nat) = i + (mag * 2 ^ a).log2 - (52 : Nat) := by rw [log2_pow hm0]; omega
    rw [e1, hlast]
    have e2 : (i + (a : Int) - i).toNat = a := by omega
    have e3 : (i - (i + (a : Int))).toNat = 0 := by omega
    rw [e2, e3, Nat.shiftLeft_eq, cut_zero]
    have e4 : (i - -1074).toNat = (i + 1074).toNat := by omega
    rw [e4, hmin]
theorem read_two : dbl.read 4611686018427387904 = .number false 4503599627370496 (-51) := by kernel_rfl
theorem div2 {x : Nat} {s : Bool} {m : Nat} {i : Int} (h : dbl.read x = .number s m i) (hi : 1 ≤ i) : dbl.div x 4611686018427387904 = some (dbl.word s (rungOf m (i - 1))) := by
  obtain ⟨n1, n2, n3, n4⟩ := read_norm h
  have hm : 4503599627370496 ≤ m := by omega
  have h0 : m ≠ 0 := by omega
  have hl53 : m.log2 < 53 := (Nat.log2_lt h0).2 n3
  unfold Ieee.Format.div
  rw [h, read_two]
  have hl : Nat.log2 4503599627370496 = 52 := by decide +kernel
  have hf : dbl.fractionBits = 52 := rfl
  simp only [Ieee.Datum.quotient, hl, hf, Option.map_some]
  rw [if_neg (by decide)]
  simp only [Option.map_some, Option.some.injEq]
  obtain ⟨a, ha⟩ : ∃ a, 52 + 2 + 52 - m.log2 = a + 52 := ⟨52 + 2 - m.log2, by omega⟩
  rw [ha, Nat.shiftLeft_eq]
  have e1 : m * 2 ^ (a + 52) = m * 2 ^ a * 4503599627370496 := by rw [Nat.pow_add, Nat.mul_assoc]
  rw [e1, Nat.mul_div_cancel _ (by decide), Nat.mul_mod_left]
  unfold Ieee.Format.write
  simp only [Bool.xor_false]
  refine nearest_norm h0 ⟨by omega, by omega, n3, Or.inl hm⟩ (Or.inl ⟨a + 1, by omega, ?_⟩)
  rw [Nat.pow_succ]
  have : (0 != 0) = false := rfl
  rw [this]
  show 2 * (m * 2 ^ a) + 0 = m * (2 ^ a * 2)
  rw [Nat.add_zero, Nat.mul_comm 2, Nat.mul_assoc]
theorem mul2 {x : Nat} {s : Bool} {m : Nat} {i : Int} (h : dbl.read x = .number s m i) (h0 : m ≠ 0) (hi : i ≤ 970) :
    dbl.mul x 4611686018427387904 = some (if 4503599627370496 ≤ m then dbl.word s (rungOf m (i + 1)) else dbl.word s (rungOf (2 * m) i)) := by
  obtain ⟨n1, n2, n3, n4⟩ := read_norm h
  unfold Ieee.Format.mul
  rw [h, read_two]
  simp only [Ieee.Datum.product, Option.map_some, Option.some.injEq]
  unfold Ieee.Format.write
  simp only [Bool.xor_false]
  split
  · rename_i hm
    refine nearest_norm h0 ⟨by omega, by omega, n3, Or.inl hm⟩ (Or.inl ⟨52, by omega, rfl⟩)
  · rename_i hm
    have hi' : i = -1074 := by omega
    refine nearest_norm (by omega) ⟨by omega, by omega, by omega, Or.inr hi'⟩ (Or.inl ⟨51, by omega, ?_⟩)
    have : (2 : Nat) ^ 51 = 2251799813685248 := rfl
    omega
end Go.Sx
