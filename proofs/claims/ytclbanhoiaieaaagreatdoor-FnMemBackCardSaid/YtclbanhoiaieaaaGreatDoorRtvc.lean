/-
  Contracts: numbers as texts, by the reference; memories compared by their texts.
-/
import Derived.Test.YtclbanhoiaieaaaGreatDoorIvc
import Derived.Test.YtclbanhoiaieaaaGreatDoorMcvc
import Derived.Test.YtclbanhoiaieaaaGreatDoorAvc
import Derived.Test.YtclbanhoiaieaaaGreatDoorSwvc
set_option linter.unusedVariables false
set_option linter.unusedSimpArgs false
set_option maxRecDepth 100000
set_option maxHeartbeats 4000000
namespace Go.Sx
open Go

structure Norm (m : Nat) (i : Int) : Prop where
  lo : -1074 ≤ i
  hi : i ≤ 971
  sm : m < 9007199254740992
  nr : 4503599627370496 ≤ m ∨ i = -1074
theorem read_norm {x : Nat} {s : Bool} {m : Nat} {i : Int} (h : dbl.read x = .number s m i) : Norm m i := by
  obtain ⟨c1, c2, c3, c4⟩ := consts
  unfold Ieee.Format.read at h
  simp only [c1, c2, c3, c4] at h
  split at h
  · injection h with h1 h2 h3
    refine ⟨?_, ?_, ?_, ?_⟩ <;> omega
  split at h
  · injection h with h1 h2 h3
    refine ⟨?_, ?_, ?_, ?_⟩ <;> omega
  split at h <;> cases h
def rungOf (m : Nat) (i : Int) : Nat := (i + 1074).toNat * 4503599627370496 + m
theorem word_of {x : Nat} {s : Bool} {m : Nat} {i : Int} (hx : x < 18446744073709551616) (h : dbl.read x = .number s m i) : x = dbl.word s (rungOf m i) := by
  obtain ⟨c1, c2, c3, c4⟩ := consts
  unfold Ieee.Format.read at h
  unfold Ieee.Format.word rungOf
  simp only [c1, c2, c3, c4] at h ⊢
  split at h
  · injection h with h1 h2 h3
    subst h1 h2 h3
    by_cases hq : x / 9223372036854775808 % 2 = 1
    · rw [if_pos (by simpa using hq)]; omega
    · rw [if_neg (by simpa using hq)]; omega
  split at h
  · injection h with h1 h2 h3
    subst h1 h2 h3
    by_cases hq : x / 9223372036854775808 % 2 = 1
    · rw [if_pos (by simpa using hq)]; omega
    · rw [if_neg (by simpa using hq)]; omega
  split at h <;> cases h
theorem read_word {neg : Bool} {m : Nat} {i : Int} (h : Norm m i) : dbl.read (dbl.word neg (rungOf m i)) = .number neg m i := by
  obtain ⟨c1, c2, c3, c4⟩ := consts
  obtain ⟨h1, h2, h3, h4⟩ := h
  unfold Ieee.Format.read Ieee.Format.word rungOf
  simp only [c1, c2, c3, c4]
  obtain ⟨e, rfl⟩ : ∃ e : Nat, i = (e : Int) - 1074 := ⟨(i + 1074).toNat, by omega⟩
  have ee : ((e : Int) - 1074 + 1074).toNat = e := by omega
  rw [ee]
  have hr : (if neg = true then 9223372036854775808 + (e * 4503599627370496 + m) else e * 4503599627370496 + m) % 9223372036854775808 = e * 4503599627370496 + m := by
    cases neg <;> simp <;> omega
  have hn : ((if neg = true then 9223372036854775808 + (e * 4503599627370496 + m) else e * 4503599627370496 + m) / 9223372036854775808 % 2 == 1) = neg := by
    cases neg <;> simp <;> omega
  rw [hr, hn]
  rcases h4 with h4 | h4
  · rw [if_neg (by omega), if_pos (by omega)]
    have g1 : 4503599627370496 + (e * 4503599627370496 + m) % 4503599627370496 = m := by omega
    have g2 : (-1074 : Int) + (((e * 4503599627370496 + m) / 4503599627370496 - 1 : Nat) : Int) = (e : Int) - 1074 := by omega
    rw [g1, g2]
  · have he : e = 0 := by omega
    subst he
    by_cases hm : m < 4503599627370496
    · rw [if_pos (by omega)]
      simp
    · rw [if_neg (by omega), if_pos (by omega)]
      have g1 : 4503599627370496 + (0 * 4503599627370496 + m) % 4503599627370496 = m := by omega
      have g2 : (-1074 : Int) + (((0 * 4503599627370496 + m) / 4503599627370496 - 1 : Nat) : Int) = ((0 : Nat) : Int) - 1074 := by omega
      rw [g1, g2]
theorem log2_pow {m : Nat} (h : m ≠ 0) : ∀ a, (m * 2 ^ a).log2 = m.log2 + a
  | 0 => by simp
  | a + 1 => by
    have h0 : m * 2 ^ a ≠ 0 := Nat.mul_ne_zero h (Nat.ne_of_gt (Nat.two_pow_pos a))
    rw [Nat.pow_succ, ← Nat.mul_assoc, Nat.mul_comm (m * 2 ^ a) 2, Nat.log2_two_mul h0, log2_pow h a]; omega
theorem cut_exact {neg : Bool} {m a : Nat} (h : m ≠ 0) : Ieee.Toward.even.cut neg (m * 2 ^ a) a = m := by
  simp only [Ieee.Toward.cut, Nat.shiftLeft_eq, Nat.one_mul]
  rw [log2_pow h, Nat.min_eq_left (by omega)]
  have hp := Nat.two_pow_pos a
  rw [Nat.mul_mod_left, Nat.mul_div_cancel _ hp]
  have h1 : ¬ 2 ^ a < 2 * 0 := by omega
  have h2 : (2 ^ a == 2 * 0) = false := by rw [beq_eq_false_iff_ne]; omega
  rw [h2]
  simp [h1]
theorem nearest_norm {neg : Bool} {mag m : Nat} {place i : Int} (h0 : m ≠ 0) (hN : Norm m i) (hv : (∃ a : Nat, place = i - a ∧ mag = m * 2 ^ a) ∨ (∃ a : Nat, place = i + a ∧ m = mag * 2 ^ a)) :
    dbl.nearest neg mag place = dbl.word neg (rungOf m i) := by
  obtain ⟨c1, c2, c3, c4⟩ := consts
  obtain ⟨n1, n2, n3, n4⟩ := hN
  have hl53 : m.log2 < 53 := (Nat.log2_lt h0).2 n3
  have hl52 : 4503599627370496 ≤ m → 52 ≤ m.log2 := by
    intro hm
    rcases Nat.lt_or_ge m.log2 52 with hl | hl
    · have := (Nat.log2_lt h0).1 hl
      have e : (2 : Nat) ^ 52 = 4503599627370496 := rfl
      omega
    · exact hl
  have hf : dbl.fractionBits = 52 := rfl
  have hlast : max (i + m.log2 - (52 : Nat)) (-1074) = i := by
    rcases n4 with n4 | n4
    · have := hl52 n4; omega
    · omega
  have hmin : min ((i + 1074).toNat * 4503599627370496 + m) 9218868437227405312 = (i + 1074).toNat * 4503599627370496 + m := by
    rw [Nat.min_eq_left]; omega
  unfold Ieee.Format.nearest rungOf
  simp only [hf, c2, c3, c4]
  rcases hv with ⟨a, rfl, rfl⟩ | ⟨a, rfl, rfl⟩
  · have hm0 : m * 2 ^ a ≠ 0 := Nat.mul_ne_zero h0 (Nat.ne_of_gt (Nat.two_pow_pos a))
    rw [if_neg hm0, log2_pow h0]
    have e1 : i - (a : Int) + ((m.log2 + a : Nat) : Int) - (52 : Nat) = i + m.log2 - (52 : Nat) := by omega
    rw [e1, hlast]
    have e2 : (i - (a : Int) - i).toNat = 0 := by omega
    have e3 : (i - (i - (a : Int))).toNat = a := by omega
    rw [e2, e3, Nat.shiftLeft_eq, Nat.pow_zero, Nat.mul_one, cut_exact h0]
    have e4 : (i - -1074).toNat = (i + 1074).toNat := by omega
    rw [e4, hmin]
  · have hm0 : mag ≠ 0 := by rintro rfl; simp at h0
    rw [if_neg hm0]
    have e1 : i + (a : Int) + (mag.log2 : Int) - (52 : Nat) = i + (mag * 2 ^ a).log2 - (52 : Nat) := by rw [log2_pow hm0]; omega
    rw [e1, hlast]
    have e2 : (i + (a : Int) - i).toNat = a := by omega
    have e3 : (i - (i + (a : Int))).toNat = 0 := by omega
    rw [e2, e3, Nat.shiftLeft_eq, cut_zero]
    have e4 : (i - -1074).toNat = (i + 1074).toNat := by omega
    rw [e4, hmin]
theorem read_two : dbl.read 4611686018427387904 = .number false 4503599627370496 (-51) := by kernel_rfl
theorem div2 {x : Nat} {s : Bool} {m : Nat} {i : Int} (h : dbl.read x = .number s m i) (hi : 1 ≤ i) : dbl.div x 4611686018427387904 = some (dbl.word s (rungOf m (i - 1))) := by
  obtain ⟨n1, n2, n3, n4⟩ := read_norm h
  have hm : 4503599627370496 ≤ m := by omega
  have h0 : m ≠ 0 := by omega
  have hl53 : m.log2 < 53 := (Nat.log2_lt h0).2 n3
  unfold Ieee.Format.div
  rw [h, read_two]
  have hl : Nat.log2 4503599627370496 = 52 := by decide +kernel
  have hf : dbl.fractionBits = 52 := rfl
  simp only [Ieee.Datum.quotient, hl, hf, Option.map_some]
  rw [if_neg (by decide)]
  simp only [Option.map_some, Option.some.injEq]
  obtain ⟨a, ha⟩ : ∃ a, 52 + 2 + 52 - m.log2 = a + 52 := ⟨52 + 2 - m.log2, by omega⟩
  rw [ha, Nat.shiftLeft_eq]
  have e1 : m * 2 ^ (a + 52) = m * 2 ^ a * 4503599627370496 := by rw [Nat.pow_add, Nat.mul_assoc]
  rw [e1, Nat.mul_div_cancel _ (by decide), Nat.mul_mod_left]
  unfold Ieee.Format.write
  simp only [Bool.xor_false]
  refine nearest_norm h0 ⟨by omega, by omega, n3, Or.inl hm⟩ (Or.inl ⟨a + 1, by omega, ?_⟩)
  rw [Nat.pow_succ]
  have : (0 != 0) = false := rfl
  rw [this]
  show 2 * (m * 2 ^ a) + 0 = m * (2 ^ a * 2)
  rw [Nat.add_zero, Nat.mul_comm 2, Nat.mul_assoc]
theorem mul2 {x : Nat} {s : Bool} {m : Nat} {i : Int} (h : dbl.read x = .number s m i) (h0 : m ≠ 0) (hi : i ≤ 970) :
    dbl.mul x 4611686018427387904 = some (if 4503599627370496 ≤ m then dbl.word s (rungOf m (i + 1)) else dbl.word s (rungOf (2 * m) i)) := by
  obtain ⟨n1, n2, n3, n4⟩ := read_norm h
  unfold Ieee.Format.mul
  rw [h, read_two]
  simp only [Ieee.Datum.product, Option.map_some, Option.some.injEq]
  unfold Ieee.Format.write
  simp only [Bool.xor_false]
  split
  · rename_i hm
    refine nearest_norm h0 ⟨by omega, by omega, n3, Or.inl hm⟩ (Or.inl ⟨52, by omega, rfl⟩)
  · rename_i hm
    have hi' : i = -1074 := by omega
    refine nearest_norm (by omega) ⟨by omega, by omega, by omega, Or.inr hi'⟩ (Or.inl ⟨51, by omega, ?_⟩)
    have : (2 : Nat) ^ 51 = 2251799813685248 := rfl
    omega
end Go.Sx
namespace Go.Sx
open Go

def unitsV (m : Nat) (i : Int) : Nat := m * 2 ^ (i + 1074).toNat
theorem ord_pos {x y m n : Nat} {i j : Int} (hx : dbl.read x = .number false m i) (hy : dbl.read y = .number false n j) : dbl.order x y = some (compare (unitsV m i : Int) (unitsV n j)) := by
  have h1 := (read_norm hx).lo
  have h2 := (read_norm hy).lo
  unfold Ieee.Format.order
  rw [hx, hy]
  simp only [Ieee.Datum.order, signed_pow, Bool.false_eq_true, if_false]
  have hc : (0 : Int) < ((2 ^ (min i j + 1074).toNat : Nat) : Int) := by exact_mod_cast Nat.two_pow_pos _
  rw [← cmp_mul hc]
  have e1 : m * 2 ^ (i - min i j).toNat * 2 ^ (min i j + 1074).toNat = unitsV m i := by
    unfold unitsV; rw [Nat.mul_assoc, ← Nat.pow_add]; congr 2; omega
  have e2 : n * 2 ^ (j - min i j).toNat * 2 ^ (min i j + 1074).toNat = unitsV n j := by
    unfold unitsV; rw [Nat.mul_assoc, ← Nat.pow_add]; congr 2; omega
  rw [← e1, ← e2]
  push_cast
  rfl
theorem read_53 : dbl.read 4845873199050653696 = .number false 4503599627370496 1 := by kernel_rfl
theorem read_52 : dbl.read 4841369599423283200 = .number false 4503599627370496 0 := by kernel_rfl
theorem read_max : dbl.read 9218868437227405311 = .number false 9007199254740991 971 := by kernel_rfl
theorem units_le {m n : Nat} {i j : Int} (hi : -1074 ≤ i) (h : i ≤ j) (hm : m ≤ n) : unitsV m i ≤ unitsV n j :=
  Nat.mul_le_mul hm (Nat.pow_le_pow_right (by decide) (by omega))
theorem units_lt {m n : Nat} {i : Int} (hm : m < n) : unitsV m i < unitsV n i := Nat.mul_lt_mul_of_pos_right hm (Nat.two_pow_pos _)
theorem units_up {m : Nat} {i : Int} (hi : -1074 ≤ i) : unitsV m (i + 1) = unitsV (2 * m) i := by
  unfold unitsV
  rw [show (i + 1 + 1074).toNat = (i + 1074).toNat + 1 by omega, Nat.pow_succ, Nat.mul_comm 2 m, Nat.mul_assoc, Nat.mul_comm 2]
theorem cmp_int (a b : Nat) : compare (a : Int) b = if a < b then .lt else if a = b then .eq else .gt := by
  rw [cmpI]
  simp only [Int.ofNat_lt, Int.ofNat_inj]
theorem ge53 {x m : Nat} {i : Int} (h : dbl.read x = .number false m i) : (dbl.order x 4845873199050653696 == some .gt || dbl.order x 4845873199050653696 == some .eq) = decide (1 ≤ i) := by
  obtain ⟨n1, n2, n3, n4⟩ := read_norm h
  rw [ord_pos h read_53, cmp_int]
  by_cases hi : 1 ≤ i
  · have h1 : unitsV 4503599627370496 1 ≤ unitsV m i := units_le (by decide) hi (by omega)
    rw [if_neg (by omega)]
    split <;> simp [hi]
  · have e : unitsV 4503599627370496 (0 + 1) = unitsV (2 * 4503599627370496) 0 := units_up (by decide)
    have h1 : unitsV m i ≤ unitsV m 0 := units_le n1 (by omega) (Nat.le_refl _)
    have h2 : unitsV m 0 < unitsV (2 * 4503599627370496) 0 := units_lt (by omega)
    rw [Int.zero_add] at e
    rw [if_pos (by omega)]
    simp [hi]
theorem lt52 {x m : Nat} {i : Int} (h : dbl.read x = .number false m i) : (dbl.order x 4841369599423283200 == some .lt) = decide (i < 0) := by
  obtain ⟨n1, n2, n3, n4⟩ := read_norm h
  rw [ord_pos h read_52, cmp_int]
  by_cases hi : 0 ≤ i
  · have h1 : unitsV 4503599627370496 0 ≤ unitsV m i := units_le (by decide) hi (by omega)
    rw [if_neg (by omega)]
    have : ¬ i < 0 := by omega
    split <;> simp [this]
  · have e : unitsV 4503599627370496 (-1 + 1) = unitsV (2 * 4503599627370496) (-1) := units_up (by decide)
    have h1 : unitsV m i ≤ unitsV m (-1) := units_le n1 (by omega) (Nat.le_refl _)
    have h2 : unitsV m (-1) < unitsV (2 * 4503599627370496) (-1) := units_lt (by omega)
    rw [show (-1 : Int) + 1 = 0 from rfl] at e
    rw [if_pos (by omega)]
    have : i < 0 := by omega
    simp [this]
theorem gtMax {x m : Nat} {i : Int} (h : dbl.read x = .number false m i) : (dbl.order x 9218868437227405311 == some .gt) = false := by
  obtain ⟨n1, n2, n3, n4⟩ := read_norm h
  rw [ord_pos h read_max, cmp_int]
  have h1 : unitsV m i ≤ unitsV 9007199254740991 971 := units_le n1 n2 (by omega)
  split
  · rfl
  split
  · rfl
  · omega
theorem gtMax_inf {x : Nat} (h : dbl.read x = .infinity false) : (dbl.order x 9218868437227405311 == some .gt) = true := by
  unfold Ieee.Format.order
  rw [h, read_max]
  rfl
theorem read_zeroU : dbl.read 0 = .number false 0 (-1074) := by kernel_rfl
theorem ord_zeroU {x : Nat} {s : Bool} {m : Nat} {i : Int} (h : dbl.read x = .number s m i) : dbl.order x 0 = some (if m = 0 then .eq else if s then .lt else .gt) := by
  unfold Ieee.Format.order
  rw [h, read_zeroU]
  simp only [Ieee.Datum.order, signed_pow, Nat.zero_mul, Bool.false_eq_true, if_false, cmpI]
  have hp := Nat.two_pow_pos (i - min i (-1074)).toNat
  generalize 2 ^ (i - min i (-1074)).toNat = q at hp
  by_cases hm : m = 0
  · subst hm; cases s <;> simp
  · have : 0 < m * q := Nat.mul_pos (by omega) hp
    generalize m * q = w at this
    rw [if_neg hm]
    cases s
    · simp; rw [if_neg (by omega), if_neg (by omega)]
    · simp; omega
theorem ord_zero_inf {x : Nat} {s : Bool} (h : dbl.read x = .infinity s) : dbl.order x 0 = some (if s then .lt else .gt) := by
  unfold Ieee.Format.order
  rw [h, read_zeroU]
  rfl
theorem read_one : dbl.read 4607182418800017408 = .number false 4503599627370496 (-52) := by kernel_rfl
theorem one_zero {x : Nat} {s : Bool} {i : Int} (h : dbl.read x = .number s 0 i) : dbl.div 4607182418800017408 x = some (dbl.word s dbl.infRung) := by
  unfold Ieee.Format.div
  rw [h, read_one]
  simp only [Ieee.Datum.quotient]
  rw [if_pos trivial, if_neg (by decide)]
  simp [Ieee.Format.write]
theorem read_inf (s : Bool) : dbl.read (dbl.word s dbl.infRung) = .infinity s := by cases s <;> kernel_rfl
theorem num_notNan {x : Nat} {s : Bool} {m : Nat} {i : Int} (h : dbl.read x = .number s m i) : isNan x = false := by unfold isNan; rw [h]; rfl
theorem inf_notNan {x : Nat} {s : Bool} (h : dbl.read x = .infinity s) : isNan x = false := by unfold isNan; rw [h]; rfl
theorem ord_selfU {x : Nat} (h : isNan x = false) : dbl.order x x = some .eq := by
  unfold Ieee.Format.order
  unfold isNan at h
  cases hr : dbl.read x with
  | number s m i => simp only [Ieee.Datum.order, cmpI]; simp
  | infinity s => simp only [Ieee.Datum.order]; cases s <;> rfl
  | nan s t => rw [hr] at h; cases h
theorem read_nanU {a : Nat} (h : isNan a = true) : ∃ s t, dbl.read a = .nan s t := by
  unfold isNan at h
  cases e : dbl.read a with
  | nan s t => exact ⟨s, t, rfl⟩
  | infinity s => rw [e] at h; cases h
  | number s m i => rw [e] at h; cases h
theorem ord_self_nan {x : Nat} (h : isNan x = true) : dbl.order x x = none := by
  obtain ⟨s, t, e⟩ := read_nanU h
  unfold Ieee.Format.order; rw [e]; rfl

def strip (m : Nat) : Nat × Nat := if h : m ≠ 0 ∧ m % 2 = 0 then ((strip (m / 2)).1, (strip (m / 2)).2 + 1) else (m, 0)
termination_by m
decreasing_by all_goals omega
theorem strip_odd {m : Nat} (h : m % 2 = 1) : strip m = (m, 0) := by
  rw [strip, dif_neg (by omega)]
theorem strip_two {m : Nat} (h : m ≠ 0) : strip (2 * m) = ((strip m).1, (strip m).2 + 1) := by
  rw [strip, dif_pos (by omega), show 2 * m / 2 = m by omega]
theorem strip_pow {m : Nat} (h : m ≠ 0) : ∀ k, strip (m * 2 ^ k) = ((strip m).1, (strip m).2 + k)
  | 0 => by simp
  | k + 1 => by
    have h0 : m * 2 ^ k ≠ 0 := Nat.mul_ne_zero h (Nat.ne_of_gt (Nat.two_pow_pos k))
    rw [Nat.pow_succ, ← Nat.mul_assoc, Nat.mul_comm (m * 2 ^ k) 2, strip_two h0, strip_pow h k]; rfl
theorem strip_val (m : Nat) : (strip m).1 * 2 ^ (strip m).2 = m := by
  induction m using Nat.strongRecOn with
  | _ m ih =>
    rw [strip]
    split
    · rename_i h
      simp only
      rw [Nat.pow_succ, ← Nat.mul_assoc, ih (m / 2) (by omega)]; omega
    · simp
theorem strip_end {n j m k : Nat} (hm : m ≠ 0) (hn : n % 2 = 1) (h : n * 2 ^ j = m * 2 ^ k) : n = (strip m).1 ∧ j = (strip m).2 + k := by
  have e := strip_pow (m := n) (by omega) j
  rw [h, strip_pow hm, strip_odd hn] at e
  simp at e
  omega
end Go.Sx
namespace Go.Sx
open Go

def txt (l : List UInt8) : ByteArray := ⟨l.toArray⟩
@[simp] theorem txt_size (l : List UInt8) : (txt l).size = l.length := rfl
@[simp] theorem txt_toList (l : List UInt8) : (txt l).toList = l := by rw [ByteArray.toList_eq]; rfl
@[simp] theorem txt_data (l : List UInt8) : (txt l).data.toList = l := rfl
@[simp] theorem txt_app (a b : List UInt8) : txt a ++ txt b = txt (a ++ b) := by
  apply ByteArray.ext
  simp [txt]
theorem txt_of (s : ByteArray) : s = txt s.data.toList := by
  apply ByteArray.ext
  simp [txt]
theorem txt_eta (a : Array UInt8) : (⟨a⟩ : ByteArray) = txt a.toList := by
  apply ByteArray.ext
  simp [txt]
@[simp] theorem txt_cut (l : List UInt8) (i j : Nat) : (txt l).extract i j = txt ((l.take j).drop i) := by
  apply ByteArray.ext
  rw [ByteArray.data_extract]
  simp [txt, List.extract_eq_take_drop, List.drop_take]
@[simp] theorem txt_inj {a b : List UInt8} : txt a = txt b ↔ a = b := by
  constructor
  · intro h
    have := congrArg ByteArray.toList h
    simpa using this
  · rintro rfl; rfl

def digU (n : Nat) : UInt8 := UInt8.ofNat (48 + n)
theorem digU_nat {n : Nat} (h : n ≤ 9) : (digU n).toNat = 48 + n := by
  unfold digU
  rw [UInt8.toNat_ofNat']
  omega
def decL (n : Nat) : List UInt8 := if h : n ≤ 9 then [digU n] else decL (n / 10) ++ [digU (n % 10)]
termination_by n
decreasing_by omega
theorem decL_low {n : Nat} (h : n ≤ 9) : decL n = [digU n] := by rw [decL, dif_pos h]
theorem decL_up {n : Nat} (h : ¬ n ≤ 9) : decL n = decL (n / 10) ++ [digU (n % 10)] := by rw [decL, dif_neg h]
theorem decL_dig (n : Nat) : ∀ c ∈ decL n, 48 ≤ c.toNat ∧ c.toNat ≤ 57 := by
  induction n using Nat.strongRecOn with
  | _ n ih =>
    intro c hc
    by_cases h : n ≤ 9
    · rw [decL_low h, List.mem_singleton] at hc
      rw [hc, digU_nat h]; omega
    · rw [decL_up h, List.mem_append, List.mem_singleton] at hc
      rcases hc with hc | rfl
      · exact ih (n / 10) (by omega) c hc
      · rw [digU_nat (by omega)]; omega
theorem decL_len1 (n : Nat) : 1 ≤ (decL n).length := by
  rw [decL]; split
  · simp
  · simp
theorem decL_len (n : Nat) : ∀ k, n < 10 ^ (k + 1) → (decL n).length ≤ k + 1 := by
  intro k
  induction k generalizing n with
  | zero => intro h; rw [decL_low (by omega)]; simp
  | succ k ih =>
    intro h
    by_cases h9 : n ≤ 9
    · rw [decL_low h9]; simp
    · rw [decL_up h9, List.length_append]
      have := ih (n / 10) (by rw [Nat.pow_succ] at h; omega)
      simp; omega
def valD (l : List UInt8) : Nat := l.foldl (fun v c => 10 * v + (c.toNat - 48)) 0
theorem valD_dec (n : Nat) : valD (decL n) = n := by
  induction n using Nat.strongRecOn with
  | _ n ih =>
    by_cases h : n ≤ 9
    · rw [decL_low h]; simp [valD, digU_nat h]
    · rw [decL_up h]
      unfold valD
      rw [List.foldl_append]
      have := ih (n / 10) (by omega)
      unfold valD at this
      rw [this]
      simp only [List.foldl_cons, List.foldl_nil]
      rw [digU_nat (by omega)]; omega
theorem decL_inj {a b : Nat} (h : decL a = decL b) : a = b := by rw [← valD_dec a, h, valD_dec]
theorem decL_not {n : Nat} {c : UInt8} (h : c.toNat < 48 ∨ 57 < c.toNat) : c ∉ decL n := fun hc => by
  have := decL_dig n c hc; omega
theorem decL_cons (n : Nat) : ∃ c r, decL n = c :: r ∧ 48 ≤ c.toNat ∧ c.toNat ≤ 57 := by
  have h1 := decL_len1 n
  have h2 := decL_dig n
  match h : decL n with
  | [] => rw [h] at h1; simp at h1
  | c :: r => exact ⟨c, r, rfl, h2 c (by rw [h]; simp)⟩
def decZ (n : Int) : List UInt8 := if n < 0 then 45 :: decL n.natAbs else decL n.natAbs
theorem decZ_inj {a b : Int} (h : decZ a = decZ b) : a = b := by
  unfold decZ at h
  obtain ⟨c, r, e1, e2, e3⟩ := decL_cons a.natAbs
  obtain ⟨d, s, f1, f2, f3⟩ := decL_cons b.natAbs
  split at h <;> split at h
  · have := decL_inj (List.cons.inj h).2; omega
  · rw [f1] at h
    have := (List.cons.inj h).1
    rw [← this] at f2; simp at f2
  · rw [e1] at h
    have := (List.cons.inj h).1
    rw [this] at e2; simp at e2
  · have := decL_inj h; omega
theorem decZ_len {n : Int} (h : n.natAbs < 10 ^ 20) : (decZ n).length ≤ 21 := by
  have := decL_len n.natAbs 19 h
  unfold decZ; split
  · simp; omega
  · omega
theorem split_at {c : UInt8} : ∀ {a b r s : List UInt8}, c ∉ a → c ∉ b → a ++ c :: r = b ++ c :: s → a = b ∧ r = s
  | [], [], r, s, _, _, h => by simpa using h
  | [], y :: b, r, s, _, hb, h => by
    simp at h hb; exact absurd h.1 hb.1
  | x :: a, [], r, s, ha, _, h => by
    simp at h ha; exact absurd h.1.symm ha.1
  | x :: a, y :: b, r, s, ha, hb, h => by
    simp at h ha hb
    obtain ⟨e1, e2⟩ := split_at (a := a) (b := b) ha.2 hb.2 h.2
    exact ⟨by rw [h.1, e1], e2⟩
def plainL (m : Nat) (i : Int) : List UInt8 := decL (strip m).1 ++ ([42, 50, 94] ++ decZ (i + (strip m).2))
def realL (x : Nat) : List UInt8 := match dbl.read x with
  | .nan _ _ => [110, 97, 110]
  | .infinity s => if s then [45, 105, 110, 102] else [105, 110, 102]
  | .number s m i => if m = 0 then (if s then [45, 48] else [48]) else (if s then 45 :: plainL m i else plainL m i)
theorem realL_nan {x : Nat} (h : isNan x = true) : realL x = [110, 97, 110] := by
  obtain ⟨s, t, e⟩ := read_nanU h
  unfold realL; rw [e]
theorem realL_same {a b : Nat} (h : sameF a b) : realL a = realL b := by
  rcases h with ⟨rfl, _⟩ | ⟨ha, hb⟩
  · rfl
  · rw [realL_nan ha, realL_nan hb]
theorem plainL_inj {m n : Nat} {i j : Int} (h : plainL m i = plainL n j) : (strip m).1 = (strip n).1 ∧ i + (strip m).2 = j + (strip n).2 := by
  unfold plainL at h
  obtain ⟨e1, e2⟩ := split_at (c := 42) (decL_not (by decide)) (decL_not (by decide)) h
  refine ⟨decL_inj e1, decZ_inj ?_⟩
  simpa using e2
theorem norm_uniq {m n : Nat} {i j : Int} (hm : Norm m i) (hn : Norm n j) (h0 : m ≠ 0) (h : unitsV m i = unitsV n j) : m = n ∧ i = j := by
  have key : ∀ {m n : Nat} {i j : Int}, Norm m i → Norm n j → m ≠ 0 → unitsV m i = unitsV n j → ¬ i < j := by
    intro m n i j hm hn h0 h hlt
    obtain ⟨a1, a2, a3, a4⟩ := hm
    obtain ⟨b1, b2, b3, b4⟩ := hn
    unfold unitsV at h
    have e : (j + 1074).toNat = (j - i).toNat + (i + 1074).toNat := by omega
    rw [e, Nat.pow_add, ← Nat.mul_assoc] at h
    have h' := Nat.eq_of_mul_eq_mul_right (Nat.two_pow_pos _) h
    have e2 : (j - i).toNat = ((j - i).toNat - 1) + 1 := by omega
    rw [e2, Nat.pow_succ, ← Nat.mul_assoc] at h'
    have hp : 1 ≤ 2 ^ ((j - i).toNat - 1) := Nat.one_le_two_pow
    have : n ≤ n * 2 ^ ((j - i).toNat - 1) := Nat.le_mul_of_pos_right _ hp
    omega
  have h1 := key hm hn h0 h
  have hn0 : n ≠ 0 := by
    intro e; subst e
    unfold unitsV at h
    rw [Nat.zero_mul] at h
    rcases Nat.mul_eq_zero.1 h with h | h
    · exact h0 h
    · have := Nat.two_pow_pos (i + 1074).toNat; omega
  have h2 := key hn hm hn0 h.symm
  have e : i = j := by omega
  subst e
  exact ⟨Nat.eq_of_mul_eq_mul_right (Nat.two_pow_pos _) h, rfl⟩
theorem units_strip {m : Nat} {i : Int} (hi : -1074 ≤ i) : unitsV m i = (strip m).1 * 2 ^ (i + (strip m).2 + 1074).toNat := by
  unfold unitsV
  rw [show (i + (strip m).2 + 1074).toNat = (strip m).2 + (i + 1074).toNat by omega, Nat.pow_add, ← Nat.mul_assoc, strip_val]
theorem plainL_cons (m : Nat) (i : Int) : ∃ c r, plainL m i = c :: r ∧ 48 ≤ c.toNat ∧ c.toNat ≤ 57 ∧ 42 ∈ r := by
  unfold plainL
  obtain ⟨c, r, e1, e2, e3⟩ := decL_cons (strip m).1
  rw [e1]
  exact ⟨c, _, rfl, e2, e3, by simp⟩
theorem realL_inj {a b : Nat} (ha : a < 18446744073709551616) (hb : b < 18446744073709551616) (h : realL a = realL b) : sameF a b := by
  unfold realL at h
  cases ea : dbl.read a with
  | nan s t =>
    have na : isNan a = true := by unfold isNan; rw [ea]; rfl
    cases eb : dbl.read b with
    | nan s' t' => exact Or.inr ⟨na, by unfold isNan; rw [eb]; rfl⟩
    | infinity s' => rw [ea, eb] at h; cases s' <;> simp at h
    | number s' m' i' =>
      rw [ea, eb] at h
      obtain ⟨c, r, f1, f2, f3, f4⟩ := plainL_cons m' i'
      by_cases h0 : m' = 0 <;> cases s' <;> simp [h0, f1] at h
      rw [← h.1] at f3; simp at f3
  | infinity s =>
    have na : isNan a = false := inf_notNan ea
    cases eb : dbl.read b with
    | nan s' t' => rw [ea, eb] at h; cases s <;> simp at h
    | infinity s' =>
      rw [ea, eb] at h
      have hs : s = s' := by cases s <;> cases s' <;> simp at h <;> rfl
      subst hs
      refine Or.inl ⟨?_, na⟩
      have key : ∀ {x : Nat} {s : Bool}, x < 18446744073709551616 → dbl.read x = .infinity s → x = dbl.word s dbl.infRung := by
        intro x s hx hr
        obtain ⟨c1, c2, c3, c4⟩ := consts
        unfold Ieee.Format.read at hr
        unfold Ieee.Format.word
        simp only [c1, c2, c3, c4] at hr ⊢
        split at hr
        · cases hr
        split at hr
        · cases hr
        split at hr
        · injection hr with h1
          subst h1
          by_cases hq : x / 9223372036854775808 % 2 = 1
          · rw [if_pos (by simpa using hq)]; omega
          · rw [if_neg (by simpa using hq)]; omega
        · cases hr
      rw [key ha ea, key hb eb]
    | number s' m' i' =>
      rw [ea, eb] at h
      obtain ⟨c, r, f1, f2, f3, f4⟩ := plainL_cons m' i'
      by_cases h0 : m' = 0 <;> cases s <;> cases s' <;> simp [h0, f1] at h
      · rw [← h.1] at f3; simp at f3
      · rw [← h.1] at f2; simp at f2
      · rw [← h.1] at f3; simp at f3
  | number s m i =>
    have na : isNan a = false := num_notNan ea
    have nm := read_norm ea
    cases eb : dbl.read b with
    | nan s' t' =>
      rw [ea, eb] at h
      obtain ⟨c, r, f1, f2, f3, f4⟩ := plainL_cons m i
      by_cases h0 : m = 0 <;> cases s <;> simp [h0, f1] at h
      rw [h.1] at f3; simp at f3
    | infinity s' =>
      rw [ea, eb] at h
      obtain ⟨c, r, f1, f2, f3, f4⟩ := plainL_cons m i
      by_cases h0 : m = 0 <;> cases s <;> cases s' <;> simp [h0, f1] at h
      · rw [h.1] at f3; simp at f3
      · rw [h.1] at f2; simp at f2
      · rw [h.1] at f3; simp at f3
    | number s' m' i' =>
      rw [ea, eb] at h
      have nm' := read_norm eb
      obtain ⟨c, r, f1, f2, f3, f4⟩ := plainL_cons m i
      obtain ⟨c', r', g1, g2, g3, g4⟩ := plainL_cons m' i'
      refine Or.inl ⟨?_, na⟩
      rw [word_of ha ea, word_of hb eb]
      have key : ∀ {m m' : Nat} {i i' : Int}, Norm m i → Norm m' i' → m ≠ 0 → plainL m i = plainL m' i' → m = m' ∧ i = i' := by
        intro m m' i i' nm nm' h0 h
        obtain ⟨e1, e2⟩ := plainL_inj h
        apply norm_uniq nm nm' h0
        rw [units_strip nm.lo, units_strip nm'.lo, e1, e2]
      by_cases h0 : m = 0
      · subst h0
        have ei : i = -1074 := by rcases nm.nr with h | h <;> omega
        by_cases h0' : m' = 0
        · subst h0'
          have ei' : i' = -1074 := by rcases nm'.nr with h | h <;> omega
          cases s <;> cases s' <;> simp at h <;> rw [ei, ei']
        · exfalso
          cases s <;> cases s' <;> simp [h0', g1] at h
          · rw [h.2] at g4; simp at g4
          · rw [← h.1] at g2; simp at g2
          · rw [h.2] at g4; simp at g4
      · by_cases h0' : m' = 0
        · exfalso
          cases s <;> cases s' <;> simp [h0, h0', f1] at h
          · rw [h.2] at f4; simp at f4
          · rw [h.1] at f2; simp at f2
          · rw [h.2] at f4; simp at f4
        · simp only [h0, h0', if_false] at h
          cases s <;> cases s'
          · simp only [Bool.false_eq_true, if_false] at h
            obtain ⟨e1, e2⟩ := key nm nm' h0 h
            rw [e1, e2]
          · exfalso
            simp [f1] at h; rw [h.1] at f2; simp at f2
          · exfalso
            simp [g1] at h; rw [← h.1] at g2; simp at g2
          · simp only [if_true] at h
            obtain ⟨e1, e2⟩ := key nm nm' h0 (List.cons.inj h).2
            rw [e1, e2]

structure Dn (m : Nat) (i : Int) (x : Nat) (e ic : Int) : Prop where
  rd : dbl.read x = .number false m ic
  ee : e = i - ic
  lo : 0 ≤ e
theorem Dn.step {m x : Nat} {i e ic : Int} (h : Dn m i x e ic) (hi : 1 ≤ ic) : ∃ y, dbl.div x 4611686018427387904 = some y ∧ Dn m i y (e + 1) (ic - 1) := by
  obtain ⟨n1, n2, n3, n4⟩ := read_norm h.rd
  exact ⟨_, div2 h.rd hi, read_word ⟨by omega, by omega, n3, by omega⟩, by have := h.ee; omega, by have := h.lo; omega⟩
structure Up (m : Nat) (i : Int) (x : Nat) (e : Int) (mc : Nat) (ic : Int) : Prop where
  rd : dbl.read x = .number false mc ic
  ne : mc ≠ 0
  un : unitsV mc ic = m * 2 ^ (i + 1074 - e).toNat
  le : e ≤ i + 1074
  hi : ic ≤ 0
theorem Dn.up {m x : Nat} {i e ic : Int} (h : Dn m i x e ic) (h0 : m ≠ 0) (hi : ic ≤ 0) : Up m i x e m ic := by
  obtain ⟨n1, n2, n3, n4⟩ := read_norm h.rd
  have he := h.ee
  have hl := h.lo
  refine ⟨h.rd, h0, ?_, by omega, hi⟩
  unfold unitsV; rw [show ic + 1074 = i + 1074 - e by omega]
theorem Up.bd {m x mc : Nat} {i e ic : Int} (h : Up m i x e mc ic) (hm : m ≠ 0) : i - 53 < e := by
  obtain ⟨n1, n2, n3, n4⟩ := read_norm h.rd
  have h1 := h.un
  have h2 := h.hi
  have h3 := h.le
  unfold unitsV at h1
  obtain ⟨K, hK⟩ : ∃ K : Nat, K = 1074 := ⟨_, rfl⟩
  have a1 : mc * 2 ^ (ic + 1074).toNat < 2 ^ 53 * 2 ^ K := by
    apply Nat.mul_lt_mul_of_lt_of_le (show mc < 2 ^ 53 by omega) (Nat.pow_le_pow_right (by decide) (by omega)) (Nat.two_pow_pos _)
  have a2 : 2 ^ (i + 1074 - e).toNat ≤ m * 2 ^ (i + 1074 - e).toNat := Nat.le_mul_of_pos_left _ (by omega)
  rw [h1, ← Nat.pow_add] at a1
  have a3 := (Nat.pow_lt_pow_iff_right (by decide : 1 < 2)).1 (Nat.lt_of_le_of_lt a2 a1)
  omega
def mesUp (mc : Nat) (ic : Int) : Nat := (-ic).toNat * 9007199254740992 + (9007199254740992 - mc)
theorem Up.step {m x mc : Nat} {i e ic : Int} (h : Up m i x e mc ic) (hi : ic < 0) :
    ∃ y mc' ic', dbl.mul x 4611686018427387904 = some y ∧ Up m i y (e - 1) mc' ic' ∧ mesUp mc' ic' < mesUp mc ic := by
  obtain ⟨n1, n2, n3, n4⟩ := read_norm h.rd
  have h0 := h.ne
  have h1 := h.un
  have h3 := h.le
  have hm := mul2 h.rd h0 (by omega)
  have e1 : (i + 1074 - (e - 1)).toNat = (i + 1074 - e).toNat + 1 := by omega
  by_cases hc : 4503599627370496 ≤ mc
  · rw [if_pos hc] at hm
    refine ⟨_, mc, ic + 1, hm, ⟨read_word ⟨by omega, by omega, n3, Or.inl hc⟩, h0, ?_, by omega, by omega⟩, ?_⟩
    · rw [units_up n1, e1, Nat.pow_succ, ← Nat.mul_assoc, ← h1]
      unfold unitsV
      rw [Nat.mul_comm 2 mc, Nat.mul_assoc, Nat.mul_assoc, Nat.mul_comm 2]
    · unfold mesUp
      have : (-ic).toNat = (-(ic + 1)).toNat + 1 := by omega
      rw [this]; omega
  · rw [if_neg hc] at hm
    refine ⟨_, 2 * mc, ic, hm, ⟨read_word ⟨by omega, by omega, by omega, by omega⟩, by omega, ?_, by omega, by omega⟩, ?_⟩
    · rw [e1, Nat.pow_succ, ← Nat.mul_assoc, ← h1]
      unfold unitsV
      rw [Nat.mul_comm 2 mc, Nat.mul_assoc, Nat.mul_assoc, Nat.mul_comm 2]
    · unfold mesUp; omega
structure Od (m : Nat) (i : Int) (n : Nat) (e e0 : Int) : Prop where
  ne : n ≠ 0
  ge : e0 ≤ e
  lt : n * 2 ^ (e - e0).toNat < 9007199254740992
  un : ∃ a k : Nat, n * 2 ^ a = m * 2 ^ k ∧ e = i + a - k
theorem Up.od {m x mc : Nat} {i e ic : Int} (h : Up m i x e mc ic) (hi : ¬ ic < 0) : Od m i mc e e ∧ ic = 0 := by
  obtain ⟨n1, n2, n3, n4⟩ := read_norm h.rd
  have h2 := h.hi
  have h3 := h.le
  have h4 : ic = 0 := by omega
  have h1 := h.un
  subst h4
  refine ⟨⟨h.ne, by omega, ?_, ((0 : Int) + 1074).toNat, (i + 1074 - e).toNat, h1, by omega⟩, rfl⟩
  rw [Int.sub_self]; simpa using n3
theorem Od.bd {m n : Nat} {i e e0 : Int} (h : Od m i n e e0) : e - e0 < 53 ∧ n < 9007199254740992 := by
  have h1 := h.lt
  have h2 := h.ne
  have h3 := h.ge
  have a1 : 2 ^ (e - e0).toNat ≤ n * 2 ^ (e - e0).toNat := Nat.le_mul_of_pos_left _ (by omega)
  have a2 : n ≤ n * 2 ^ (e - e0).toNat := Nat.le_mul_of_pos_right _ (Nat.two_pow_pos _)
  have a3 : (2 : Nat) ^ (e - e0).toNat < 2 ^ 53 := by
    have : (2 : Nat) ^ 53 = 9007199254740992 := rfl
    omega
  have := (Nat.pow_lt_pow_iff_right (by decide : 1 < 2)).1 a3
  omega
theorem Od.step {m n : Nat} {i e e0 : Int} (h : Od m i n e e0) (hn : n % 2 = 0) : Od m i (n / 2) (e + 1) e0 := by
  obtain ⟨h1, h2, h3, a, k, h4, h5⟩ := h
  have e1 : (e + 1 - e0).toNat = (e - e0).toNat + 1 := by omega
  have e2 : n = n / 2 * 2 := by omega
  refine ⟨by omega, by omega, ?_, a + 1, k, ?_, by omega⟩
  · rw [e1, Nat.pow_succ, Nat.mul_comm (2 ^ _) 2, ← Nat.mul_assoc, ← e2]; exact h3
  · rw [Nat.pow_succ, Nat.mul_comm (2 ^ _) 2, ← Nat.mul_assoc, ← e2]; exact h4
theorem Od.fin {m n : Nat} {i e e0 : Int} (h : Od m i n e e0) (hm : m ≠ 0) (hn : n % 2 = 1) : n = (strip m).1 ∧ e = i + (strip m).2 := by
  obtain ⟨h1, h2, h3, a, k, h4, h5⟩ := h
  obtain ⟨e1, e2⟩ := strip_end hm hn h4
  exact ⟨e1, by omega⟩
theorem int_of {x mc : Nat} {r : Int} (h : dbl.read x = .number false mc 0) (hf : f2i .f64 x .i64 r) : r = mc := by
  have n3 := (read_norm h).sm
  have ht := toInt_num h
  unfold f2i at hf
  have hd : FloatKind.f64.decode x = dbl.read x := rfl
  rw [hd, ht] at hf
  have hw : wholeN mc 0 = mc := by simp [wholeN]
  simp only [hw, Bool.false_eq_true, if_false] at hf
  rw [if_pos (by simp [IntKind.min, IntKind.max, IntKind.signed, IntKind.bits]; omega)] at hf
  exact hf
theorem xor_top {R : Nat} (h : R < 9223372036854775808) : (9223372036854775808 + R) ^^^ 9223372036854775808 = R := by
  have e : (9223372036854775808 : Nat) = 2 ^ 63 := rfl
  rw [e] at h ⊢
  apply Nat.eq_of_testBit_eq
  intro i
  rw [Nat.testBit_xor]
  rcases Nat.lt_trichotomy i 63 with hi | rfl | hi
  · rw [Nat.testBit_two_pow_add_gt hi, Nat.testBit_two_pow_of_ne (by omega), Bool.xor_false]
  · rw [Nat.testBit_two_pow_add_eq, Nat.testBit_two_pow_self, Nat.testBit_lt_two_pow h]; rfl
  · have h1 : (2 : Nat) ^ 64 ≤ 2 ^ i := Nat.pow_le_pow_right (by decide) hi
    have h2 : (2 : Nat) ^ 63 ≤ 2 ^ i := Nat.pow_le_pow_right (by decide) (by omega)
    have h3 : (2 : Nat) ^ 64 = 2 ^ 63 + 2 ^ 63 := by decide
    rw [Nat.testBit_lt_two_pow (by omega), Nat.testBit_two_pow_of_ne (by omega), Nat.testBit_lt_two_pow (by omega)]; rfl
theorem rung_lt {m : Nat} {i : Int} (h : Norm m i) : rungOf m i < 9223372036854775808 := by
  obtain ⟨h1, h2, h3, h4⟩ := h
  unfold rungOf
  have : (i + 1074).toNat ≤ 2045 := by omega
  omega
theorem neg_word {R : Nat} (h : R < 9223372036854775808) : Op.negFloat .f64 (dbl.word true R) = dbl.word false R := by
  obtain ⟨c1, c2, c3, c4⟩ := consts
  have e : FloatKind.f64.format.exponentBits + FloatKind.f64.format.fractionBits = 63 := by decide
  unfold Op.negFloat Ieee.Format.word
  rw [e, c1]
  exact xor_top h
theorem neg_num {x m : Nat} {i : Int} (hx : x < 18446744073709551616) (h : dbl.read x = .number true m i) : dbl.read (Op.negFloat .f64 x) = .number false m i := by
  have hn := read_norm h
  rw [word_of hx h, neg_word (rung_lt hn), read_word hn]
theorem neg_infU {x : Nat} (hx : x < 18446744073709551616) (h : dbl.read x = .infinity true) : dbl.read (Op.negFloat .f64 x) = .infinity false := by
  obtain ⟨c1, c2, c3, c4⟩ := consts
  have e : x = dbl.word true dbl.infRung := by
    unfold Ieee.Format.read at h
    unfold Ieee.Format.word
    simp only [c1, c2, c3, c4] at h ⊢
    split at h
    · cases h
    split at h
    · cases h
    split at h
    · injection h with h1
      simp only [beq_iff_eq] at h1
      rw [if_pos trivial]
      omega
    · cases h
  rw [e, neg_word (by rw [c3]; decide), read_inf]
theorem strip_le (m : Nat) (h : m ≠ 0) : (strip m).1 ≤ m ∧ 2 ^ (strip m).2 ≤ m := by
  have e := strip_val m
  have h1 : (strip m).1 ≠ 0 := fun h1 => by rw [h1, Nat.zero_mul] at e; omega
  have h2 := Nat.le_mul_of_pos_right (strip m).1 (Nat.two_pow_pos (strip m).2)
  have h3 := Nat.le_mul_of_pos_left (2 ^ (strip m).2) (Nat.pos_of_ne_zero h1)
  omega
theorem plainL_len {m : Nat} {i : Int} (hn : Norm m i) (h : m ≠ 0) : (plainL m i).length ≤ 50 := by
  obtain ⟨h1, h2, h3, h4⟩ := hn
  obtain ⟨g1, g2⟩ := strip_le m h
  have l1 := decL_len (strip m).1 19 (by omega)
  have g3 : (2 : Nat) ^ (strip m).2 < 2 ^ 53 := by
    have : (2 : Nat) ^ 53 = 9007199254740992 := rfl
    omega
  have g4 := (Nat.pow_lt_pow_iff_right (by decide : 1 < 2)).1 g3
  have l2 := decZ_len (n := i + (strip m).2) (by omega)
  unfold plainL
  simp only [List.length_append, List.length_cons, List.length_nil]
  omega
theorem realL_len (x : Nat) : (realL x).length ≤ 60 := by
  unfold realL
  split
  · simp
  · split <;> simp
  · rename_i s m i hr
    split
    · split <;> simp
    · rename_i h0
      have := plainL_len (read_norm hr) h0
      split
      · simp; omega
      · omega
end Go.Sx
namespace Go.Proofs.YtclbanhoiaieaaaGreatDoor
open Go Go.Sx
open List renaming all_eq_true → Y1, zipIdx → Y5
open Bool renaming exists_bool → Y3, forall_bool → Y4
attribute [local simp] Sx.vcsE1 Sx.vcsE2 Sx.vcsE3 Sx.vcsE4 Sx.vcsE5 Sx.vcsE6 Sx.vcsE7 Sx.vcsE8 Sx.vcsE9 Sx.vcsE10 Sx.vcsE11 Sx.vcsE12 Sx.vcsE13 Sx.vcsE14 Sx.vcsE15 Sx.vcsE16 Sx.vcsE17 Sx.vcsE18 Sx.vcsE19 Sx.get Sx.look Sx.put Sx.pureFn Sx.findOrd Sx.unF Sx.dstOk Sx.isFloatT Sx.endVC Sx.resFn Sx.packC Sx.newFn Sx.storeFn Sx.buildFn Sx.known Sx.aggT Sx.cellsC Sx.findCon Sx.allV Sx.partsV Sx.partsC Sx.fillL Sx.exitTo Sx.fAr Sx.eqFn Sx.eqFieldsFn Sx.eqElemsFn Sx.partFn Sx.sliceFn Sx.boundFn Sx.AppV Sx.CopyV Sx.MakeSliceV Sx.NewsV Sx.GrowV Sx.TextV Sx.bytesL Sx.notInt Sx.typeAt Sx.argAt Sx.den Go.undef Go.Value.cells Go.Value.oneCell' Sx.Con.pure Sx.Con.some Sx.Con.read Sx.Con.make Sx.Con.ext Sx.Con.rel Sx.Con.extS Sx.Con.draw Sx.Con.step Sx.C.one Sx.Draws.steps

def sameFB (a b : Nat) : Bool := (isNan a && isNan b) || a == b
theorem sameFB_iff {a b : Nat} : sameFB a b = true ↔ sameF a b := by
  unfold sameFB sameF
  cases ha : isNan a <;> cases hb : isNan b <;> simp
  all_goals (rintro rfl; rw [ha] at hb; cases hb)
def memEqB (a b : M) : Bool :=
  (a.X == b.X) && ((a.Y == b.Y) && ((a.M == b.M) && ((a.S == b.S) && ((a.E == b.E) &&
    (((List.range 16).foldr (fun k q => ((a.T k).1 == (b.T k).1 && ((a.T k).2 == (b.T k).2 && true)) && q) true) &&
    (((List.range 16).foldr (fun k q => ((a.C k).1 == (b.C k).1 && ((a.C k).2.1 == (b.C k).2.1 && ((a.C k).2.2 == (b.C k).2.2 && true))) && q) true) &&
    (((List.range 32).foldr (fun k q => (a.D k == b.D k) && q) true) &&
    (((List.range 16).foldr (fun k q => Op.floatEq .f64 (a.R k) (b.R k) && q) true) &&
    ((a.Time == b.Time) && ((a.Ran == b.Ran) && ((a.Fault == b.Fault) && true)))))))))))
theorem foldr_all (f : Nat → Bool) : ∀ (l : List Nat), l.foldr (fun k q => f k && q) true = l.all f
  | [] => rfl
  | x :: l => by rw [List.foldr_cons, List.all_cons, foldr_all f l]
def noR (m : M) : M := { m with R := Arr.zero _ _ }
theorem memEqB_iff (a b : M) : memEqB (noR a) (noR b) = true ↔ (a.X = b.X ∧ a.Y = b.Y ∧ a.M = b.M ∧ a.S = b.S ∧ a.E = b.E ∧ a.T = b.T ∧ a.C = b.C ∧ a.D = b.D ∧ a.Time = b.Time ∧ a.Ran = b.Ran ∧ a.Fault = b.Fault) := by
  have hz : (List.range 16).foldr (fun k q => Op.floatEq .f64 ((noR a).R k) ((noR b).R k) && q) true = true := by
    have : ∀ k, ((noR a).R k) = 0 ∧ ((noR b).R k) = 0 := fun k => ⟨rfl, rfl⟩
    rw [foldr_all, List.all_eq_true]
    intro k _
    rw [(this k).1, (this k).2]
    decide
  unfold memEqB
  rw [hz]
  rw [foldr_all (fun k => ((noR a).T k).1 == ((noR b).T k).1 && (((noR a).T k).2 == ((noR b).T k).2 && true)), foldr_all (fun k => ((noR a).C k).1 == ((noR b).C k).1 && (((noR a).C k).2.1 == ((noR b).C k).2.1 && (((noR a).C k).2.2 == ((noR b).C k).2.2 && true))), foldr_all (fun k => (noR a).D k == (noR b).D k)]
  simp only [Bool.and_eq_true, beq_iff_eq, List.all_eq_true, List.mem_range, Bool.and_true, and_true, true_and]
  constructor
  · rintro ⟨h1, h2, h3, h4, h5, h6, h7, h8, h9, h10, h11⟩
    exact ⟨h1, h2, h3, h4, h5, Arr.ext' fun k hk => Prod.ext (h6 k hk).1 (h6 k hk).2, Arr.ext' fun k hk => Prod.ext (h7 k hk).1 (Prod.ext (h7 k hk).2.1 (h7 k hk).2.2), Arr.ext' fun k hk => h8 k hk, h9, h10, h11⟩
  · rintro ⟨h1, h2, h3, h4, h5, h6, h7, h8, h9, h10, h11⟩
    refine ⟨h1, h2, h3, h4, h5, fun k _ => ?_, fun k _ => ?_, fun k _ => ?_, h9, h10, h11⟩
    · show (a.T k).1 = (b.T k).1 ∧ (a.T k).2 = (b.T k).2
      rw [h6]; exact ⟨rfl, rfl⟩
    · show (a.C k).1 = (b.C k).1 ∧ (a.C k).2.1 = (b.C k).2.1 ∧ (a.C k).2.2 = (b.C k).2.2
      rw [h7]; exact ⟨rfl, rfl, rfl⟩
    · show a.D k = b.D k
      rw [h8]
def msB (a b : M) : Bool := (List.range 16).all (fun k => sameFB (a.R k) (b.R k)) && memEqB (noR a) (noR b)
theorem msB_iff {a b : M} : msB a b = true ↔ MSame a b := by
  unfold msB
  rw [Bool.and_eq_true, memEqB_iff, List.all_eq_true]
  constructor
  · rintro ⟨hr, h1, h2, h3, h4, h5, h6, h7, h8, h9, h10, h11⟩
    exact ⟨h1, h2, h3, h4, h5, h6, h7, h8, fun k hk => sameFB_iff.1 (hr k (by simpa using hk)), h9, h10, h11⟩
  · rintro ⟨h1, h2, h3, h4, h5, h6, h7, h8, hr, h9, h10, h11⟩
    exact ⟨fun k hk => sameFB_iff.2 (hr k (by simpa using hk)), h1, h2, h3, h4, h5, h6, h7, h8, h9, h10, h11⟩
theorem sameRealC_c (a b : Nat) (w : World) : Calls Tryz.prog 65 #[.float .f64 a, .float .f64 b] w fun e w' => e = .returned (.bool (sameFB a b)) ∧ RowKit.Below w.heap.size w w' := by
  refine (plain_of_vcs ⟨[bitsC], []⟩ hmx Tryz.func65 rfl (by kernel_rfl) (args := [.float .f64 a, .float .f64 b]) (by simp [Tryz.ntmps65]) w (· = .bool (sameFB a b)) 400 ?_).mono fun e w' ⟨v, h1, h2, h3⟩ => ⟨h2 ▸ h1, h3⟩
  have e1 := ord_self a
  have e2 := ord_self b
  have e3 : ((a : Int) == (b : Int)) = (a == b) := by rw [Bool.eq_iff_iff]; simp; omega
  cases ha : isNan a <;> cases hb : isNan b
  all_goals
    rw [ha] at e1
    rw [hb] at e2
    simp (maxSteps := 4000000) -dsimp [-Y1, -Array.all_eq_true, -Y3, -Y4, and_assoc, Y5, Tryz.f65, bitsC, fmt64, e1, e2, e3, sameFB, ha, hb]
def sameRealC : Con Tryz.prog := Con.pure 65 Tryz.call65 (fun (i : ((Nat) × (Nat))) => match i with | (a, b) => [.float .f64 a, .float .f64 b]) (fun (i : ((Nat) × (Nat))) => match i with | (a, b) => True) (fun (i : ((Nat) × (Nat))) => match i with | (a, b) => .bool (sameFB a b)) fun i w _ => sameRealC_c i.1 i.2 w

theorem tmod_nat (k : Nat) : (k : Int).tmod 10 = ((k % 10 : Nat) : Int) := by rw [Int.tmod_eq_emod_of_nonneg (by omega)]; omega
theorem tdiv_nat (k : Nat) : (k : Int).tdiv 10 = ((k / 10 : Nat) : Int) := by rw [Int.tdiv_eq_ediv_of_nonneg (by omega)]; omega
theorem dig_byte {k : Nat} (h : k ≤ 9) : UInt8.ofNat (IntKind.u8.wrap (IntKind.i64.wrap (48 + (k : Int)))).toNat = digU k := by
  rw [wrap_i64 (by omega) (by omega), wrap_u8 (by omega) (by omega)]
  unfold digU
  congr 1
theorem sDecPC_c (n : Int) (hpre : 0 ≤ n ∧ n ≤ 9223372036854775807) (w : World) : Calls Tryz.prog 126 #[.int .i64 n] w fun e w' => e = .returned (.string (txt (decL n.toNat))) ∧ RowKit.Below w.heap.size w w' := by
  refine (plain_of_vcs ⟨[], []⟩ hmx Tryz.func126 rfl (by kernel_rfl) (args := [.int .i64 n]) (by simp [Tryz.ntmps126]) w (· = .string (txt (decL n.toNat))) 400 ?_).mono fun e w' ⟨v, h1, h2, h3⟩ => ⟨h2 ▸ h1, h3⟩
  obtain ⟨h0, h1⟩ := hpre
  have a1 : ¬ n < -9223372036854775807 := by omega
  have a2 : ¬ n < 0 := by omega
  simp (maxSteps := 4000000) -dsimp [-Y1, -Array.all_eq_true, -Y3, -Y4, and_assoc, Y5, Tryz.f126, a1, a2, txt_eta]
  refine loop_inv (σ := ⟨[], []⟩) hmx (by kernel_rfl) (fun q cx tm mem => Le ⟨w, [], w, []⟩ cx ∧ mem = [] ∧ ∃ (k : Nat) (out : List UInt8), k = q ∧ (k : Int) ≤ n ∧ decL n.toNat = decL k ++ out ∧ Sx.look tm 0 = .v (.int .i64 k) ∧ Sx.look tm 3 = .v (.string (txt out)))
    n.toNat ⟨Le.refl _, rfl, n.toNat, [], rfl, by omega, by simp, by simp [Sx.look]; omega, by simp [Sx.look]⟩ ?_
  rintro q cx tm mem ⟨hle, rfl, k, out, hq, hk, hd, j0, j3⟩
  refine ⟨300, ?_⟩
  have hlen : (decL n.toNat).length ≤ 20 := decL_len _ 19 (by omega)
  rw [hd, List.length_append] at hlen
  have hl1 := decL_len1 k
  by_cases hlt : (9 : Int) < k
  · have e1 := dig_byte (k := k % 10) (by omega)
    have e2 := decL_up (n := k) (by omega)
    simp (maxSteps := 4000000) -dsimp [-Y1, -Array.all_eq_true, -Y3, -Y4, and_assoc, Y5, Tryz.f126, j0, j3, hlt, tmod_nat, tdiv_nat]
    intro cx1 p hle1 hl1'
    rw [RdL.sl (hl1'.mono ((sub_new cx1).trans (sub_now _ _))) (by rfl)]
    have e0 : (k : Int) % 10 = ((k % 10 : Nat) : Int) := by omega
    simp (maxSteps := 4000000) -dsimp [-Y1, -Array.all_eq_true, -Y3, -Y4, and_assoc, Y5, Tryz.f126, j0, j3, hlt, tmod_nat, tdiv_nat, bytesL, txt_eta]
    refine ⟨by omega, k / 10, by omega, hle.trans hle1, by omega, ?_, ?_⟩
    · rw [e0, e1, hd, e2]; simp
    · rw [wrap_i64 (by omega) (by omega)]; omega
  · have e1 := dig_byte (k := k) (by omega)
    simp (maxSteps := 4000000) -dsimp [-Y1, -Array.all_eq_true, -Y3, -Y4, and_assoc, Y5, Tryz.f126, j0, j3, hlt]
    intro cx1 p hle1 hl1'
    rw [RdL.sl (hl1'.mono ((sub_new cx1).trans (sub_now _ _))) (by rfl)]
    simp (maxSteps := 4000000) -dsimp [-Y1, -Array.all_eq_true, -Y3, -Y4, and_assoc, Y5, Tryz.f126, j0, j3, hlt, e1, bytesL, txt_eta]
    exact ⟨by omega, (hle.trans hle1).w0, (hle.trans hle1).g0, by rw [hd, decL_low (by omega)]; rfl⟩
def sDecPC : Con Tryz.prog := Con.pure 126 Tryz.call126 (fun (n : ((Int))) => [.int .i64 n]) (fun (n : ((Int))) => 0 ≤ n ∧ n ≤ 9223372036854775807) (fun (n : ((Int))) => .string (txt (decL n.toNat))) fun n w hp => sDecPC_c n hp w
theorem sDecNC_c (n : Int) (hpre : -9223372036854775807 ≤ n ∧ n < 0) (w : World) : Calls Tryz.prog 126 #[.int .i64 n] w fun e w' => e = .returned (.string (txt (45 :: decL n.natAbs))) ∧ RowKit.Below w.heap.size w w' := by
  refine (plain_of_vcs ⟨[sDecPC], []⟩ hmx Tryz.func126 rfl (by kernel_rfl) (args := [.int .i64 n]) (by simp [Tryz.ntmps126]) w (· = .string (txt (45 :: decL n.natAbs))) 400 ?_).mono fun e w' ⟨v, h1, h2, h3⟩ => ⟨h2 ▸ h1, h3⟩
  obtain ⟨h0, hn⟩ := hpre
  have a1 : ¬ n < -9223372036854775807 := by omega
  have hlen : (decL n.natAbs).length ≤ 20 := decL_len _ 19 (by omega)
  have e1 : IntKind.i64.wrap (-n) = -n := wrap_i64 (by omega) (by omega)
  have e2 : (-n).toNat = n.natAbs := by omega
  have e3 : 0 ≤ -n ∧ -n ≤ 9223372036854775807 := by omega
  simp (maxSteps := 4000000) -dsimp [-Y1, -Array.all_eq_true, -Y3, -Y4, and_assoc, Y5, Tryz.f126, sDecPC, a1, hn, e1, e2, e3, txt_eta]
  omega
theorem sDecC_c (n : Int) (hpre : -9223372036854775807 ≤ n ∧ n ≤ 9223372036854775807) (w : World) : Calls Tryz.prog 126 #[.int .i64 n] w fun e w' => e = .returned (.string (txt (decZ n))) ∧ RowKit.Below w.heap.size w w' := by
  by_cases hn : n < 0
  · have e : decZ n = 45 :: decL n.natAbs := by unfold decZ; rw [if_pos hn]
    rw [e]
    exact sDecNC_c n ⟨hpre.1, hn⟩ w
  · have e : decZ n = decL n.toNat := by unfold decZ; rw [if_neg hn]; congr 1; omega
    rw [e]
    exact sDecPC_c n ⟨by omega, hpre.2⟩ w
def sDecC : Con Tryz.prog := Con.pure 126 Tryz.call126 (fun (n : Int) => [.int .i64 n]) (fun (n : Int) => -9223372036854775807 ≤ n ∧ n ≤ 9223372036854775807) (fun (n : Int) => .string (txt (decZ n))) fun n w hp => sDecC_c n hp w
theorem f64_fmt : FloatKind.f64.format = dbl := rfl
theorem l3PlainC_c (x : Nat) (hpre : dbl.read x = .infinity false ∨ ∃ m i, dbl.read x = .number false m i ∧ m ≠ 0) (w : World) : Calls Tryz.prog 191 #[.float .f64 x] w fun e w' => e = .returned (.string (txt (realL x))) ∧ RowKit.Below w.heap.size w w' := by
  refine (plain_of_vcs ⟨[sDecC], []⟩ hmx Tryz.func191 rfl (by kernel_rfl) (args := [.float .f64 x]) (by simp [Tryz.ntmps191]) w (· = .string (txt (realL x))) 400 ?_).mono fun e w' ⟨v, h1, h2, h3⟩ => ⟨h2 ▸ h1, h3⟩
  rcases hpre with hr | ⟨m, i, hr, hm⟩
  · have e : realL x = [105, 110, 102] := by unfold realL; rw [hr]; rfl
    rw [e]
    simp (maxSteps := 4000000) -dsimp [-Y1, -Array.all_eq_true, -Y3, -Y4, and_assoc, Y5, Tryz.f191, sDecC, f64_fmt, gtMax_inf hr, txt_eta]
  · have e : realL x = plainL m i := by unfold realL; rw [hr]; simp [hm]
    rw [e]
    obtain ⟨nn1, nn2, nn3, nn4⟩ := read_norm hr
    simp (maxSteps := 4000000) -dsimp [-Y1, -Array.all_eq_true, -Y3, -Y4, and_assoc, Y5, Tryz.f191, sDecC, f64_fmt, gtMax hr, txt_eta]
    refine loop_inv (σ := ⟨[sDecC], []⟩) hmx (by kernel_rfl) (fun q cx tm mem => cx = ⟨w, [], w, []⟩ ∧ mem = [] ∧ ∃ (y : Nat) (e ic : Int), q = ic.toNat ∧ Dn m i y e ic ∧ Sx.look tm 0 = .v (.float .f64 y) ∧ Sx.look tm 3 = .v (.int .i64 e))
      i.toNat ⟨rfl, rfl, x, 0, i, rfl, ⟨hr, by omega, by omega⟩, by simp [Sx.look], by simp [Sx.look]⟩ ?_
    rintro q cx tm mem ⟨rfl, rfl, y, e, ic, rfl, hd, j0, j3⟩
    refine ⟨300, ?_⟩
    have hn2 := read_norm hd.rd
    by_cases hi : 1 ≤ ic
    · obtain ⟨z, hz, hd2⟩ := hd.step hi
      simp (maxSteps := 4000000) -dsimp [-Y1, -Array.all_eq_true, -Y3, -Y4, and_assoc, Y5, Tryz.f191, sDecC, j0, j3, f64_fmt, ge53 hd.rd, hi, fAr, fRes, hz]
      exact ⟨(ic - 1).toNat, by omega, z, e + 1, ic - 1, rfl, hd2, rfl, wrap_i64 (by have := hd.ee; have := hd.lo; omega) (by have := hd.ee; have := hn2.lo; omega)⟩
    · have hu0 := hd.up hm (by omega)
      simp (maxSteps := 4000000) -dsimp [-Y1, -Array.all_eq_true, -Y3, -Y4, and_assoc, Y5, Tryz.f191, sDecC, j0, j3, f64_fmt, ge53 hd.rd, hi]
      refine loop_inv (σ := ⟨[sDecC], []⟩) hmx (by kernel_rfl) (fun q cx tm mem => cx = ⟨w, [], w, []⟩ ∧ mem = [] ∧ ∃ (y : Nat) (e : Int) (mc : Nat) (ic : Int), q = mesUp mc ic ∧ Up m i y e mc ic ∧ Sx.look tm 0 = .v (.float .f64 y) ∧ Sx.look tm 3 = .v (.int .i64 e))
        (mesUp m ic) ⟨rfl, rfl, y, e, m, ic, rfl, hu0, by first | exact j0 | simp [Sx.look, j0], by first | exact j3 | simp [Sx.look, j3]⟩ ?_
      rintro q cx tm mem ⟨rfl, rfl, y, e, mc, ic, rfl, hu, j0, j3⟩
      refine ⟨300, ?_⟩
      have hub := hu.bd hm
      have hul := hu.le
      by_cases hi : ic < 0
      · obtain ⟨z, mc', ic', hz, hu2, hms⟩ := hu.step hi
        simp (maxSteps := 4000000) -dsimp [-Y1, -Array.all_eq_true, -Y3, -Y4, and_assoc, Y5, Tryz.f191, sDecC, j0, j3, f64_fmt, lt52 hu.rd, hi, fAr, fRes, hz]
        exact ⟨_, hms, z, e - 1, mc', ic', rfl, hu2, rfl, wrap_i64 (by omega) (by omega)⟩
      · obtain ⟨ho0, hic⟩ := hu.od hi
        subst hic
        simp (maxSteps := 4000000) -dsimp [-Y1, -Array.all_eq_true, -Y3, -Y4, and_assoc, Y5, Tryz.f191, sDecC, j0, j3, f64_fmt, lt52 hu.rd, hi]
        intro r hr2
        have hr3 := int_of hu.rd hr2
        subst hr3
        generalize he0 : e = e0 at ho0
        refine loop_inv (σ := ⟨[sDecC], []⟩) hmx (by kernel_rfl) (fun q cx tm mem => cx = ⟨w, [], w, []⟩ ∧ mem = [] ∧ ∃ (n : Nat) (e : Int), n = q ∧ Od m i n e e0 ∧ Sx.look tm 4 = .v (.int .i64 n) ∧ Sx.look tm 3 = .v (.int .i64 e))
          mc ⟨rfl, rfl, mc, e, rfl, by rw [he0]; exact ho0, by simp [Sx.look], by first | exact j3 | simp [Sx.look, j3]⟩ ?_
        rintro q cx tm mem ⟨rfl, rfl, n, e', hnq, ho, j4, j3⟩
        refine ⟨300, ?_⟩
        have hob := ho.bd
        have hog := ho.ge
        have hne := ho.ne
        by_cases hpar : n % 2 = 0
        · have h1 : (n : Int).tmod 2 = 0 := by rw [Int.tmod_eq_emod_of_nonneg (by omega)]; omega
          have h2 : 0 < n := by omega
          simp (maxSteps := 4000000) -dsimp [-Y1, -Array.all_eq_true, -Y3, -Y4, and_assoc, Y5, Tryz.f191, sDecC, j4, j3, h1, h2]
          have hs := ho.step hpar
          exact ⟨n / 2, by omega, by rw [wrap_i64 (by omega) (by omega)]; exact hs, by rw [wrap_i64 (by omega) (by omega)]; omega⟩
        · have h1 : ¬ (n : Int).tmod 2 = 0 := by rw [Int.tmod_eq_emod_of_nonneg (by omega)]; omega
          obtain ⟨f1, f2⟩ := ho.fin hm (by omega)
          have l1 := decZ_len (n := (n : Int)) (by omega)
          have l2 := decZ_len (n := e') (by omega)
          have ez : decZ (n : Int) = decL n := by unfold decZ; rw [if_neg (by omega)]; rfl
          simp (maxSteps := 4000000) -dsimp [-Y1, -Array.all_eq_true, -Y3, -Y4, and_assoc, Y5, Tryz.f191, sDecC, j4, j3, h1]
          refine ⟨by omega, by omega, by omega, by omega, by omega, ?_⟩
          unfold plainL
          rw [ez, f2, ← f1]; rfl
def l3PlainC : Con Tryz.prog := Con.pure 191 Tryz.call191 (fun (x : ((Nat))) => [.float .f64 x]) (fun (x : ((Nat))) => dbl.read x = .infinity false ∨ ∃ m i, dbl.read x = .number false m i ∧ m ≠ 0) (fun (x : ((Nat))) => .string (txt (realL x))) fun x w hp => l3PlainC_c x hp w
theorem sRealTextC_c (x : Nat) (hpre : x < 18446744073709551616) (w : World) : Calls Tryz.prog 128 #[.float .f64 x] w fun e w' => e = .returned (.string (txt (realL x))) ∧ RowKit.Below w.heap.size w w' := by
  refine (plain_of_vcs ⟨[l3PlainC], []⟩ hmx Tryz.func128 rfl (by kernel_rfl) (args := [.float .f64 x]) (by simp [Tryz.ntmps128]) w (· = .string (txt (realL x))) 400 ?_).mono fun e w' ⟨v, h1, h2, h3⟩ => ⟨h2 ▸ h1, h3⟩
  cases hr : dbl.read x with
  | nan s t =>
    have hn : isNan x = true := by unfold isNan; rw [hr]; rfl
    rw [realL_nan hn]
    simp (maxSteps := 4000000) -dsimp [-Y1, -Array.all_eq_true, -Y3, -Y4, and_assoc, Y5, Tryz.f128, l3PlainC, f64_fmt, ord_self_nan hn, txt_eta]
  | infinity s =>
    have hn := inf_notNan hr
    cases s
    · have e : realL x = [105, 110, 102] := by unfold realL; rw [hr]; rfl
      simp (maxSteps := 4000000) -dsimp [-Y1, -Array.all_eq_true, -Y3, -Y4, and_assoc, Y5, Tryz.f128, l3PlainC, f64_fmt, ord_selfU hn, ord_zero_inf hr, txt_eta, hr]
    · have e : realL x = [45, 105, 110, 102] := by unfold realL; rw [hr]; rfl
      have h2 := neg_infU hpre hr
      have e2 : realL (Op.negFloat .f64 x) = [105, 110, 102] := by unfold realL; rw [h2]; rfl
      simp (maxSteps := 4000000) -dsimp [-Y1, -Array.all_eq_true, -Y3, -Y4, and_assoc, Y5, Tryz.f128, l3PlainC, f64_fmt, ord_selfU hn, ord_zero_inf hr, txt_eta, h2, e, e2]
  | number s m i =>
    have hn := num_notNan hr
    have ho := ord_zeroU hr
    have hnm := read_norm hr
    by_cases h0 : m = 0
    · subst h0
      cases s
      · have e : realL x = [48] := by unfold realL; rw [hr]; rfl
        have od := one_zero hr
        have oi : dbl.order (dbl.word false dbl.infRung) 0 = some .gt := ord_zero_inf (read_inf false)
        simp only [if_true] at ho
        simp (maxSteps := 4000000) -dsimp [-Y1, -Array.all_eq_true, -Y3, -Y4, and_assoc, Y5, Tryz.f128, l3PlainC, f64_fmt, ord_selfU hn, ho, txt_eta, e, fAr, fRes, od, oi]
      · have e : realL x = [45, 48] := by unfold realL; rw [hr]; rfl
        have od := one_zero hr
        have oi : dbl.order (dbl.word true dbl.infRung) 0 = some .lt := ord_zero_inf (read_inf true)
        simp only [if_true] at ho
        simp (maxSteps := 4000000) -dsimp [-Y1, -Array.all_eq_true, -Y3, -Y4, and_assoc, Y5, Tryz.f128, l3PlainC, f64_fmt, ord_selfU hn, ho, txt_eta, e, fAr, fRes, od, oi]
    · cases s
      · simp only [h0, if_false, Bool.false_eq_true] at ho
        have hp : dbl.read x = .infinity false ∨ ∃ m i, dbl.read x = .number false m i ∧ m ≠ 0 := Or.inr ⟨m, i, hr, h0⟩
        simp (maxSteps := 4000000) -dsimp [-Y1, -Array.all_eq_true, -Y3, -Y4, and_assoc, Y5, Tryz.f128, l3PlainC, f64_fmt, ord_selfU hn, ho, txt_eta]
        exact Or.inr ⟨m, ⟨i, hr⟩, h0⟩
      · simp only [h0, if_false, if_true] at ho
        have h2 := neg_num hpre hr
        have hp : dbl.read (Op.negFloat .f64 x) = .infinity false ∨ ∃ m i, dbl.read (Op.negFloat .f64 x) = .number false m i ∧ m ≠ 0 := Or.inr ⟨m, i, h2, h0⟩
        have e : realL x = 45 :: realL (Op.negFloat .f64 x) := by unfold realL; rw [hr, h2]; simp [h0]
        simp (maxSteps := 4000000) -dsimp [-Y1, -Array.all_eq_true, -Y3, -Y4, and_assoc, Y5, Tryz.f128, l3PlainC, f64_fmt, ord_selfU hn, ho, txt_eta, e]
        have hl := realL_len (Op.negFloat .f64 x)
        exact ⟨Or.inr ⟨m, ⟨i, h2⟩, h0⟩, by omega⟩
def sRealTextC : Con Tryz.prog := Con.pure 128 Tryz.call128 (fun (x : ((Nat))) => [.float .f64 x]) (fun (x : ((Nat))) => x < 18446744073709551616) (fun (x : ((Nat))) => .string (txt (realL x))) fun x w hp => sRealTextC_c x hp w
theorem realL_eq {a b : Nat} (ha : a < 18446744073709551616) (hb : b < 18446744073709551616) : (realL a == realL b) = sameFB a b := by
  rw [Bool.eq_iff_iff, beq_iff_eq, sameFB_iff]
  exact ⟨realL_inj ha hb, realL_same⟩
theorem l5SameC_c (a b : Nat) (hpre : a < 18446744073709551616 ∧ b < 18446744073709551616) (w : World) : Calls Tryz.prog 69 #[.float .f64 a, .float .f64 b] w fun e w' => e = .returned (.bool (sameFB a b)) ∧ RowKit.Below w.heap.size w w' := by
  refine (plain_of_vcs ⟨[sRealTextC], []⟩ hmx Tryz.func69 rfl (by kernel_rfl) (args := [.float .f64 a, .float .f64 b]) (by simp [Tryz.ntmps69]) w (· = .bool (sameFB a b)) 400 ?_).mono fun e w' ⟨v, h1, h2, h3⟩ => ⟨h2 ▸ h1, h3⟩
  obtain ⟨ha, hb⟩ := hpre
  simp (maxSteps := 4000000) -dsimp [-Y1, -Array.all_eq_true, -Y3, -Y4, and_assoc, Y5, Tryz.f69, sRealTextC, ha, hb, realL_eq ha hb]
def l5SameC : Con Tryz.prog := Con.pure 69 Tryz.call69 (fun (i : ((Nat) × (Nat))) => match i with | (a, b) => [.float .f64 a, .float .f64 b]) (fun (i : ((Nat) × (Nat))) => match i with | (a, b) => a < 18446744073709551616 ∧ b < 18446744073709551616) (fun (i : ((Nat) × (Nat))) => match i with | (a, b) => .bool (sameFB a b)) fun i w hp => l5SameC_c i.1 i.2 hp w
theorem ms_false {x y : M} (h : ¬ MSame x y) : msB x y = false := Bool.eq_false_iff.2 fun e => h (msB_iff.1 e)
theorem sMemSameC_c (x y : M) (hpre : MOk x ∧ MOk y) (w : World) : Calls Tryz.prog 16 #[.agg (cells x), .agg (cells y)] w fun e w' => e = .returned (.bool (msB x y)) ∧ RowKit.Below w.heap.size w w' := by
  refine (plain_of_vcs ⟨[l5SameC], []⟩ hmx Tryz.func16 rfl (by kernel_rfl) (args := [.agg (cells x), .agg (cells y)]) (by simp [Tryz.ntmps16]) w (· = .bool (msB x y)) 600 ?_).mono fun e w' ⟨v, h1, h2, h3⟩ => ⟨h2 ▸ h1, h3⟩
  obtain ⟨hx, hy⟩ := hpre
  simp (maxSteps := 4000000) -dsimp [-Y1, -Array.all_eq_true, -Y3, -Y4, and_assoc, Y5, Tryz.f16, l5SameC]
  intro b1 b2
  refine loop_inv (σ := ⟨[l5SameC], []⟩) hmx (by kernel_rfl) (fun q cx tm mem => cx = ⟨w, [], w, []⟩ ∧ ∃ (i : Nat), i ≤ 16 ∧ q = 16 - i ∧ (∀ k, k < i → sameFB (x.R k) (y.R k) = true ∧ x.T k = y.T k ∧ x.C k = y.C k) ∧ mem = [⟨b1, cellC x, 36⟩, ⟨b2, cellC y, 36⟩] ∧ Sx.look tm 5 = .v (.int .i64 i) ∧ Sx.look tm 2 = .p 0 b1 0 ∧ Sx.look tm 3 = .p 1 b2 0)
    16 ⟨rfl, 0, by omega, rfl, by omega, rfl, by simp [Sx.look], by simp [Sx.look], by simp [Sx.look]⟩ ?_
  rintro q cx tm mem ⟨rfl, i, hi, rfl, hk, rfl, h5, h2, h3⟩
  refine ⟨600, ?_⟩
  by_cases hlt : i < 16
  · have hlt' : (i : Int) < 16 := by omega
    have g1 := get_R x i hlt
    have g2 := get_R y i hlt
    have f1 := fun h => (List.getElem_eq_iff (h := h)).2 g1
    have f2 := fun h => (List.getElem_eq_iff (h := h)).2 g2
    have t1 := get_TT x i hlt
    have t2 := get_TT y i hlt
    have c1 := get_CC x i hlt
    have c2 := get_CC y i hlt
    have ob : 117 + i < 136 ∧ 5 + i * 2 + 2 ≤ 136 ∧ 37 + i * 3 + 3 ≤ 136 := by omega
    have r1 := hx.R i hlt
    have r2 := hy.R i hlt
    cases hs : sameFB (x.R i) (y.R i)
    · have e : msB x y = false := ms_false fun h => by
        have := sameFB_iff.2 (h.R i hlt); rw [hs] at this; cases this
      simp (maxSteps := 4000000) -dsimp [-Y1, -Array.all_eq_true, -Y3, -Y4, and_assoc, Y5, Tryz.f16, l5SameC, h5, h2, h3, hlt', g1, g2, f1, f2, ob, hs, e, r1, r2, t1, t2, c1, c2]
    by_cases hT : x.T i = y.T i
    · by_cases hC : x.C i = y.C i
      · have hT1 : (x.T i).1 = (y.T i).1 ∧ (x.T i).2 = (y.T i).2 := by rw [hT]; exact ⟨rfl, rfl⟩
        have hC1 : (x.C i).1 = (y.C i).1 ∧ (x.C i).2.1 = (y.C i).2.1 ∧ (x.C i).2.2 = (y.C i).2.2 := by rw [hC]; exact ⟨rfl, rfl, rfl⟩
        simp (maxSteps := 4000000) -dsimp [-Y1, -Array.all_eq_true, -Y3, -Y4, and_assoc, Y5, Tryz.f16, l5SameC, h5, h2, h3, hlt', g1, g2, f1, f2, ob, hs, r1, r2, t1, t2, c1, c2, hT1, hC1, i_succ (i := i) (by omega)]
        exact ⟨2, 16 - (i + 1), by omega, i + 1, by omega, rfl, fun k hkk => if h : k = i then by rw [h]; exact ⟨hs, hT, hC⟩ else hk k (by omega), rfl, by omega⟩
      · have e : msB x y = false := ms_false fun h => hC (by rw [h.C])
        simp (maxSteps := 4000000) -dsimp [-Y1, -Array.all_eq_true, -Y3, -Y4, and_assoc, Y5, Tryz.f16, l5SameC, h5, h2, h3, hlt', g1, g2, f1, f2, ob, hs, r1, r2, t1, t2, c1, c2, e]
        intro a1 a2 a3 a4 a5
        exact absurd (Prod.ext a3 (Prod.ext a4 a5)) hC
    · have e : msB x y = false := ms_false fun h => hT (by rw [h.T])
      simp (maxSteps := 4000000) -dsimp [-Y1, -Array.all_eq_true, -Y3, -Y4, and_assoc, Y5, Tryz.f16, l5SameC, h5, h2, h3, hlt', g1, g2, f1, f2, ob, hs, r1, r2, t1, t2, c1, c2, e]
      intro a1 a2
      exact absurd (Prod.ext a1 a2) hT
  · have hlt' : ¬ (i : Int) < 16 := by omega
    have hk16 : ∀ k, k < 16 → sameFB (x.R k) (y.R k) = true ∧ x.T k = y.T k ∧ x.C k = y.C k := fun k hkk => hk k (by omega)
    simp (maxSteps := 4000000) -dsimp [-Y1, -Array.all_eq_true, -Y3, -Y4, and_assoc, Y5, Tryz.f16, l5SameC, h5, h2, h3, hlt']
    refine loop_inv (σ := ⟨[l5SameC], []⟩) hmx (by kernel_rfl) (fun q cx tm mem => cx = ⟨w, [], w, []⟩ ∧ ∃ (i : Nat), i ≤ 32 ∧ q = 32 - i ∧ (∀ k, k < i → x.D k = y.D k) ∧ mem = [⟨b1, cellC x, 36⟩, ⟨b2, cellC y, 36⟩] ∧ Sx.look tm 6 = .v (.int .i64 i) ∧ Sx.look tm 2 = .p 0 b1 0 ∧ Sx.look tm 3 = .p 1 b2 0)
      32 ⟨rfl, 0, by omega, rfl, by omega, rfl, by simp [Sx.look], by first | exact h2 | simp [Sx.look, h2], by first | exact h3 | simp [Sx.look, h3]⟩ ?_
    rintro q cx tm mem ⟨rfl, j, hj, rfl, hD, rfl, h6, j2, j3⟩
    refine ⟨600, ?_⟩
    by_cases hjl : j < 32
    · have hjl' : (j : Int) < 32 := by omega
      have g1 := get_D x j hjl
      have g2 := get_D y j hjl
      have f1 := fun h => (List.getElem_eq_iff (h := h)).2 g1
      have f2 := fun h => (List.getElem_eq_iff (h := h)).2 g2
      have ob : 85 + j < 136 := by omega
      by_cases hd : x.D j = y.D j
      · simp (maxSteps := 4000000) -dsimp [-Y1, -Array.all_eq_true, -Y3, -Y4, and_assoc, Y5, Tryz.f16, l5SameC, h6, j2, j3, hjl', g1, g2, f1, f2, ob, hd, i_succ (i := j) (by omega)]
        exact ⟨2, 32 - (j + 1), by omega, j + 1, by omega, rfl, fun k hkk => if h : k = j then by rw [h]; exact hd else hD k (by omega), rfl, by omega⟩
      · have e : msB x y = false := ms_false fun h => hd (by rw [h.D])
        simp (maxSteps := 4000000) -dsimp [-Y1, -Array.all_eq_true, -Y3, -Y4, and_assoc, Y5, Tryz.f16, l5SameC, h6, j2, j3, hjl', g1, g2, f1, f2, ob, hd, e]
    · have hjl' : ¬ (j : Int) < 32 := by omega
      have hT : x.T = y.T := Arr.ext' fun k hkk => (hk16 k hkk).2.1
      have hC : x.C = y.C := Arr.ext' fun k hkk => (hk16 k hkk).2.2
      have hDD : x.D = y.D := Arr.ext' fun k hkk => hD k (by omega)
      have e : msB x y = decide (x.X = y.X ∧ x.Y = y.Y ∧ x.M = y.M ∧ x.S = y.S ∧ x.E = y.E ∧ x.Time = y.Time ∧ x.Ran = y.Ran ∧ x.Fault = y.Fault) := by
        rw [Bool.eq_iff_iff, msB_iff, decide_eq_true_eq]
        exact ⟨fun h => ⟨h.X, h.Y, h.Mw, h.S, h.E, h.Time, h.Ran, h.Fault⟩, fun ⟨a1, a2, a3, a4, a5, a6, a7, a8⟩ => ⟨a1, a2, a3, a4, a5, hT, hC, hDD, fun k hkk => sameFB_iff.1 (hk16 k hkk).1, a6, a7, a8⟩⟩
      rw [e]
      simp (maxSteps := 4000000) -dsimp [-Y1, -Array.all_eq_true, -Y3, -Y4, and_assoc, Y5, Tryz.f16, l5SameC, h6, j2, j3, hjl']
      have bq : ∀ a b : Bool, (a == b) = decide (a = b) := by decide
      simp +contextual [bq]
def sMemSameC : Con Tryz.prog := Con.pure 16 Tryz.call16 (fun (i : ((M) × (M))) => match i with | (x, y) => [.agg (cells x), .agg (cells y)]) (fun (i : ((M) × (M))) => match i with | (x, y) => MOk x ∧ MOk y) (fun (i : ((M) × (M))) => match i with | (x, y) => .bool (msB x y)) fun i w hp => sMemSameC_c i.1 i.2 hp w
end Go.Proofs.YtclbanhoiaieaaaGreatDoor
