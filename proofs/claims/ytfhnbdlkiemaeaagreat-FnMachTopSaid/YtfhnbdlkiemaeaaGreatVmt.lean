/-
  Whole numbers as floats of 64 bits: read exactly, in their order. Plain Lean: nothing of a program stands here. Conditions: none.
-/
import Derived.Test.YtfhnbdlkiemaeaaGreatPmt
set_option linter.unusedVariables false
set_option linter.unusedSimpArgs false
set_option maxRecDepth 100000
namespace Go.Sx
open Go

theorem cut_zero (neg : Bool) (n : Nat) : Ieee.Toward.even.cut neg n 0 = n := by
  simp [Ieee.Toward.cut, Nat.mod_one]
theorem nearest_int {mag : Nat} {neg : Bool} (h0 : mag ≠ 0) (h : mag < 9007199254740992) :
    dbl.nearest neg mag 0 = dbl.word neg ((mag.log2 + 1022) * 4503599627370496 + mag * 2 ^ (52 - mag.log2)) ∧ mag.log2 ≤ 52 ∧ 4503599627370496 ≤ mag * 2 ^ (52 - mag.log2) ∧ mag * 2 ^ (52 - mag.log2) < 9007199254740992 := by
  obtain ⟨c1, c2, c3, c4⟩ := consts
  have hl : mag.log2 < 53 := (Nat.log2_lt h0).2 h
  have h1 : 2 ^ mag.log2 ≤ mag := Nat.log2_self_le h0
  have h2 : mag < 2 ^ (mag.log2 + 1) := Nat.lt_log2_self
  have e52 : 2 ^ mag.log2 * 2 ^ (52 - mag.log2) = 4503599627370496 := by
    rw [← Nat.pow_add, show mag.log2 + (52 - mag.log2) = 52 by omega]
  have e53 : 2 ^ (mag.log2 + 1) * 2 ^ (52 - mag.log2) = 9007199254740992 := by
    rw [← Nat.pow_add, show mag.log2 + 1 + (52 - mag.log2) = 53 by omega]
  have hp : 0 < 2 ^ (52 - mag.log2) := Nat.two_pow_pos _
  have hlo : 4503599627370496 ≤ mag * 2 ^ (52 - mag.log2) := by rw [← e52]; exact Nat.mul_le_mul_right _ h1
  have hhi : mag * 2 ^ (52 - mag.log2) < 9007199254740992 := by rw [← e53]; exact Nat.mul_lt_mul_of_pos_right h2 hp
  refine ⟨?_, by omega, hlo, hhi⟩
  unfold Ieee.Format.nearest
  rw [if_neg h0]
  have hf : dbl.fractionBits = 52 := rfl
  simp only [hf, c2, c3, c4]
  have hm : max ((0 : Int) + mag.log2 - (52 : Nat)) (-1074) = (mag.log2 : Int) - 52 := by omega
  rw [hm]
  have ha : ((0 : Int) - ((mag.log2 : Int) - 52)).toNat = 52 - mag.log2 := by omega
  have hb : (((mag.log2 : Int) - 52) - 0).toNat = 0 := by omega
  rw [ha, hb, cut_zero, Nat.shiftLeft_eq]
  have hc : (((mag.log2 : Int) - 52) - (-1074)).toNat = mag.log2 + 1022 := by omega
  rw [hc, Nat.min_eq_left (by omega)]
theorem read_int {mag : Nat} {neg : Bool} (h0 : mag ≠ 0) (h : mag < 9007199254740992) :
    dbl.read (dbl.nearest neg mag 0) = .number neg (mag * 2 ^ (52 - mag.log2)) ((mag.log2 : Int) - 52) := by
  obtain ⟨c1, c2, c3, c4⟩ := consts
  obtain ⟨e, hl, hlo, hhi⟩ := nearest_int (neg := neg) h0 h
  rw [e]
  generalize mag * 2 ^ (52 - mag.log2) = m at *
  generalize mag.log2 = l at *
  unfold Ieee.Format.read Ieee.Format.word
  simp only [c1, c2, c3, c4]
  have hr : (if neg = true then 9223372036854775808 + ((l + 1022) * 4503599627370496 + m) else (l + 1022) * 4503599627370496 + m) % 9223372036854775808 = (l + 1022) * 4503599627370496 + m := by
    cases neg <;> simp <;> omega
  have hn : ((if neg = true then 9223372036854775808 + ((l + 1022) * 4503599627370496 + m) else (l + 1022) * 4503599627370496 + m) / 9223372036854775808 % 2 == 1) = neg := by
    cases neg <;> simp <;> omega
  rw [hr, hn, if_neg (by omega), if_pos (by omega)]
  have h1 : 4503599627370496 + ((l + 1022) * 4503599627370496 + m) % 4503599627370496 = m := by omega
  have h2 : (-1074 : Int) + ((((l + 1022) * 4503599627370496 + m) / 4503599627370496 - 1 : Nat) : Int) = (l : Int) - 52 := by omega
  rw [h1, h2]
theorem read_whole {a : Int} (ha : a.natAbs < 9007199254740992) : ∃ (m d : Nat), d ≤ 1074 ∧ dbl.read (FloatKind.f64.nearest a) = .number (decide (a < 0)) m (-(d : Int)) ∧ m = a.natAbs * 2 ^ d := by
  by_cases h0 : a = 0
  · subst h0
    obtain ⟨d, hd⟩ : ∃ d : Nat, d = 1074 := ⟨1074, rfl⟩
    exact ⟨0, d, by omega, by subst hd; kernel_rfl, by rw [Int.natAbs_zero, Nat.zero_mul]⟩
  · have h1 : a.natAbs ≠ 0 := by omega
    refine ⟨_, 52 - a.natAbs.log2, by omega, ?_, rfl⟩
    have hr := read_int (neg := decide (a < 0)) h1 ha
    have hl := (nearest_int (neg := decide (a < 0)) h1 ha).2.1
    have e : FloatKind.f64.nearest a = dbl.nearest (decide (a < 0)) a.natAbs 0 := rfl
    rw [e, hr]
    congr 1
    omega
theorem signed_whole {a : Int} {d u : Nat} : Ieee.signed (decide (a < 0)) (a.natAbs * 2 ^ d) u = a * 2 ^ (d + u) := by
  unfold Ieee.signed
  have e : (a.natAbs * 2 ^ d) <<< u = a.natAbs * 2 ^ (d + u) := by rw [Nat.shiftLeft_eq, Nat.mul_assoc, ← Nat.pow_add]
  rw [e]
  by_cases h : a < 0
  · have : a = -(a.natAbs : Int) := by omega
    simp only [h, decide_true, if_true]
    conv => rhs; rw [this]
    push_cast
    rw [Int.neg_mul]
  · have : a = (a.natAbs : Int) := by omega
    simp only [h, decide_false, Bool.false_eq_true, if_false]
    conv => rhs; rw [this]
    push_cast
    rfl
theorem cmp_mul {a b c : Int} (hc : 0 < c) : compare (a * c) (b * c) = compare a b := by
  simp only [compare, compareOfLessAndEq]
  have h1 : a * c < b * c ↔ a < b := Int.mul_lt_mul_right hc
  have h2 : a * c = b * c ↔ a = b := Int.mul_eq_mul_right_iff (by omega)
  simp only [h1, h2]
theorem order_int {a b : Int} (ha : a.natAbs < 9007199254740992) (hb : b.natAbs < 9007199254740992) : dbl.order (FloatKind.f64.nearest a) (FloatKind.f64.nearest b) = some (compare a b) := by
  obtain ⟨m, d, hd, hr, rfl⟩ := read_whole ha
  obtain ⟨n, e, he, hs, rfl⟩ := read_whole hb
  unfold Ieee.Format.order
  rw [hr, hs]
  simp only [Ieee.Datum.order, signed_whole]
  have e1 : d + (-(d : Int) - min (-(d : Int)) (-(e : Int))).toNat = max d e := by omega
  have e2 : e + (-(e : Int) - min (-(d : Int)) (-(e : Int))).toNat = max d e := by omega
  rw [e1, e2, cmp_mul (Int.pow_pos (by decide))]
def realCmp (op : Int) (a b : Nat) : Bool :=
  if op = 1 then dbl.order a b == some .lt else if op = 2 then (dbl.order a b == some .lt || dbl.order a b == some .eq) else if op = 3 then dbl.order a b == some .eq
  else if op = 4 then dbl.order a b != some .eq else if op = 5 then (dbl.order a b == some .gt || dbl.order a b == some .eq) else if op = 6 then dbl.order a b == some .gt else false
def wholeCmp (op : Int) (a b : Int) : Bool :=
  if op = 1 then decide (a < b) else if op = 2 then decide (a ≤ b) else if op = 3 then a == b
  else if op = 4 then a != b else if op = 5 then decide (b ≤ a) else if op = 6 then decide (b < a) else false
theorem real_whole {op a b : Int} (ha : a.natAbs < 9007199254740992) (hb : b.natAbs < 9007199254740992) : realCmp op (FloatKind.f64.nearest a) (FloatKind.f64.nearest b) = wholeCmp op a b := by
  have hc : compare a b = if a < b then .lt else if a = b then .eq else .gt := rfl
  unfold realCmp wholeCmp
  rw [order_int ha hb, hc]
  by_cases h1 : a < b
  · have h2 : ¬ a = b := by omega
    have h3 : a ≤ b := by omega
    have h4 : ¬ b < a := by omega
    have h5 : ¬ b ≤ a := by omega
    have e1 : (a == b) = false := by simpa using h2
    have e2 : (a != b) = true := by simpa using h2
    have e3 : (some Ordering.lt != some Ordering.eq) = true := by decide
    simp [h1, h2, h3, h4, h5, e1, e2, e3]
  · by_cases h2 : a = b
    · subst h2; simp
    · have h3 : ¬ a ≤ b := by omega
      have h4 : b < a := by omega
      have h5 : b ≤ a := by omega
      have e1 : (a == b) = false := by simpa using h2
      have e2 : (a != b) = true := by simpa using h2
      have e3 : (some Ordering.gt != some Ordering.eq) = true := by decide
      simp [h1, h2, h3, h4, h5, e1, e2, e3]
end Go.Sx
