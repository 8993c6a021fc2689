/-
  Real numbers cut towards 0. Plain Lean: nothing of a program stands here. Conditions: none.
-/
import Derived.Test.YtfhnbdlkiemaeaaGreatVmt
import Derived.Test.YtfhnbdlkiemaeaaGreatPmt
set_option linter.unusedVariables false
set_option linter.unusedSimpArgs false
set_option maxRecDepth 100000
namespace Go.Sx
open Go

def wholeN (m : Nat) (i : Int) : Nat := if 0 ≤ i then m * 2 ^ i.toNat else m / 2 ^ (-i).toNat
theorem cutz (s : Bool) (n k : Nat) : Ieee.Toward.zero.cut s n k = n / 2 ^ k := by
  simp only [Ieee.Toward.cut, Bool.toNat_false, Nat.add_zero, Nat.shiftLeft_eq, Nat.one_mul]
  by_cases h : k ≤ n.log2 + 2
  · rw [Nat.min_eq_left h]
  · rw [Nat.min_eq_right (by omega)]
    have h1 : n < 2 ^ (n.log2 + 1) := Nat.lt_log2_self
    have h2 : n < 2 ^ (n.log2 + 2) := Nat.lt_of_lt_of_le h1 (Nat.pow_le_pow_right (by omega) (by omega))
    have h3 : n < 2 ^ k := Nat.lt_of_lt_of_le h2 (Nat.pow_le_pow_right (by omega) (by omega))
    rw [Nat.div_eq_of_lt h2, Nat.div_eq_of_lt h3]
theorem integral_num (s : Bool) (m : Nat) (i : Int) : (Ieee.Datum.number s m i).integral .zero = .number s (wholeN m i) 0 := by
  simp only [Ieee.Datum.integral, wholeN, cutz, Nat.shiftLeft_eq]
  congr 1
  split
  · rename_i h
    have : (-i).toNat = 0 := by omega
    rw [this]; simp
  · rename_i h
    have : i.toNat = 0 := by omega
    rw [this]; simp
theorem ord_num {x : Nat} {s : Bool} {m : Nat} {i a : Int} (hr : dbl.read x = .number s m i) (ha : a.natAbs < 9007199254740992) :
    ∃ u v : Nat, (u : Int) - v = i ∧ dbl.order x (FloatKind.f64.nearest a) = some (compare (Ieee.signed s m u) (a * 2 ^ v)) := by
  obtain ⟨n, d, hd, hs, rfl⟩ := read_whole ha
  unfold Ieee.Format.order
  rw [hr, hs]
  simp only [Ieee.Datum.order, signed_whole]
  exact ⟨(i - min i (-(d : Int))).toNat, d + (-(d : Int) - min i (-(d : Int))).toNat, by omega, rfl⟩
theorem signed_pow (s : Bool) (m u : Nat) : Ieee.signed s m u = if s then -((m * 2 ^ u : Nat) : Int) else ((m * 2 ^ u : Nat) : Int) := by
  unfold Ieee.signed; rw [Nat.shiftLeft_eq]
theorem lt_whole {m u v n : Nat} {i : Int} (hi : (u : Int) - v = i) : m * 2 ^ u < n * 2 ^ v ↔ wholeN m i < n := by
  unfold wholeN
  by_cases h : v ≤ u
  · rw [if_pos (by omega)]
    have e : i.toNat = u - v := by omega
    have e2 : 2 ^ u = 2 ^ (u - v) * 2 ^ v := by rw [← Nat.pow_add]; congr 1; omega
    rw [e, e2, ← Nat.mul_assoc]
    exact Nat.mul_lt_mul_right (Nat.two_pow_pos v)
  · rw [if_neg (by omega)]
    have e : (-i).toNat = v - u := by omega
    have e2 : 2 ^ v = 2 ^ (v - u) * 2 ^ u := by rw [← Nat.pow_add]; congr 1; omega
    rw [e, e2, ← Nat.mul_assoc, Nat.mul_lt_mul_right (Nat.two_pow_pos u), Nat.div_lt_iff_lt_mul (Nat.two_pow_pos _)]
theorem cmpI (a b : Int) : compare a b = if a < b then .lt else if a = b then .eq else .gt := rfl
theorem ord_lt {x : Nat} {s : Bool} {m n : Nat} {i : Int} (hr : dbl.read x = .number s m i) (hn : n < 9007199254740992) (h0 : 0 < n) :
    (dbl.order x (FloatKind.f64.nearest (n : Int)) == some .lt) = (s || decide (wholeN m i < n)) := by
  obtain ⟨u, v, hi, e⟩ := ord_num (a := n) hr (by simpa using hn)
  rw [e, signed_pow, cmpI]
  have hp : 0 < n * 2 ^ v := Nat.mul_pos h0 (Nat.two_pow_pos v)
  have hl := lt_whole (m := m) (n := n) hi
  have hc : ((n : Int) * 2 ^ v) = ((n * 2 ^ v : Nat) : Int) := by push_cast; rfl
  rw [hc]
  cases s
  · simp only [Bool.false_eq_true, if_false, Bool.false_or]
    by_cases h : m * 2 ^ u < n * 2 ^ v
    · have h2 : ((m * 2 ^ u : Nat) : Int) < ((n * 2 ^ v : Nat) : Int) := by exact_mod_cast h
      rw [if_pos h2]; simp [hl.1 h]
    · have h2 : ¬ ((m * 2 ^ u : Nat) : Int) < ((n * 2 ^ v : Nat) : Int) := by exact_mod_cast h
      have h3 : ¬ wholeN m i < n := fun h' => h (hl.2 h')
      rw [if_neg h2]
      split <;> simp [h3]
  · simp only [if_true, Bool.true_or]
    have h2 : -((m * 2 ^ u : Nat) : Int) < ((n * 2 ^ v : Nat) : Int) := by omega
    rw [if_pos h2]; rfl
theorem ord_gt {x : Nat} {s : Bool} {m n : Nat} {i : Int} (hr : dbl.read x = .number s m i) (hn : n < 9007199254740992) (h0 : 0 < n) :
    (dbl.order x (FloatKind.f64.nearest (-(n : Int))) == some .gt) = (!s || decide (wholeN m i < n)) := by
  obtain ⟨u, v, hi, e⟩ := ord_num (a := -(n : Int)) hr (by simpa using hn)
  rw [e, signed_pow, cmpI]
  have hp : 0 < n * 2 ^ v := Nat.mul_pos h0 (Nat.two_pow_pos v)
  have hl := lt_whole (m := m) (n := n) hi
  have hc : (-(n : Int) * 2 ^ v) = -((n * 2 ^ v : Nat) : Int) := by push_cast; rw [Int.neg_mul]
  rw [hc]
  cases s
  · simp only [Bool.false_eq_true, if_false, Bool.not_false, Bool.true_or]
    have h2 : ¬ ((m * 2 ^ u : Nat) : Int) < -((n * 2 ^ v : Nat) : Int) := by omega
    have h3 : ¬ ((m * 2 ^ u : Nat) : Int) = -((n * 2 ^ v : Nat) : Int) := by omega
    rw [if_neg h2, if_neg h3]; rfl
  · simp only [if_true, Bool.not_true, Bool.false_or]
    by_cases h : m * 2 ^ u < n * 2 ^ v
    · have h2 : ¬ -((m * 2 ^ u : Nat) : Int) < -((n * 2 ^ v : Nat) : Int) := by omega
      have h3 : ¬ -((m * 2 ^ u : Nat) : Int) = -((n * 2 ^ v : Nat) : Int) := by omega
      rw [if_neg h2, if_neg h3]; simp [hl.1 h]
    · have h3 : ¬ wholeN m i < n := fun h' => h (hl.2 h')
      by_cases h2 : -((m * 2 ^ u : Nat) : Int) < -((n * 2 ^ v : Nat) : Int)
      · rw [if_pos h2]; simp [h3]
      · rw [if_neg h2, if_pos (by omega)]; simp [h3]
theorem nearest_big {M : Nat} {s : Bool} (h : 9007199254740992 ≤ M) : dbl.read (dbl.nearest s M 0) = .infinity s ∨ ∃ m i, dbl.read (dbl.nearest s M 0) = .number s m i ∧ 9007199254740992 ≤ wholeN m i := by
  obtain ⟨c1, c2, c3, c4⟩ := consts
  have h0 : M ≠ 0 := by omega
  have hlog : 53 ≤ M.log2 := by
    rcases Nat.lt_or_ge M.log2 53 with hl | hl
    · have := (Nat.log2_lt h0).1 hl
      have e : (2 : Nat) ^ 53 = 9007199254740992 := rfl
      omega
    · exact hl
  unfold Ieee.Format.nearest
  rw [if_neg h0]
  have hf : dbl.fractionBits = 52 := rfl
  simp only [hf, c2, c3, c4]
  have hm : max ((0 : Int) + M.log2 - (52 : Nat)) (-1074) = (M.log2 : Int) - 52 := by omega
  rw [hm]
  have ha : ((0 : Int) - ((M.log2 : Int) - 52)).toNat = 0 := by omega
  have hb : (((M.log2 : Int) - 52) - 0).toNat = M.log2 - 52 := by omega
  have hc : (((M.log2 : Int) - 52) - (-1074)).toNat = M.log2 + 1022 := by omega
  rw [ha, hb, hc, Nat.shiftLeft_eq, Nat.pow_zero, Nat.mul_one]
  have hk : 4503599627370496 ≤ Ieee.Toward.even.cut s M (M.log2 - 52) := by
    simp only [Ieee.Toward.cut, Nat.shiftLeft_eq, Nat.one_mul]
    rw [Nat.min_eq_left (by omega)]
    have h1 : 2 ^ M.log2 ≤ M := Nat.log2_self_le h0
    have h2 : 2 ^ 52 * 2 ^ (M.log2 - 52) ≤ M := by rw [← Nat.pow_add]; rwa [show 52 + (M.log2 - 52) = M.log2 by omega]
    have h3 := (Nat.le_div_iff_mul_le (Nat.two_pow_pos (M.log2 - 52))).2 h2
    have e : (2 : Nat) ^ 52 = 4503599627370496 := rfl
    omega
  generalize Ieee.Toward.even.cut s M (M.log2 - 52) = kept at *
  have hr : 1076 * 4503599627370496 ≤ (M.log2 + 1022) * 4503599627370496 + kept := by
    have : 1075 * 4503599627370496 ≤ (M.log2 + 1022) * 4503599627370496 := Nat.mul_le_mul_right _ (by omega)
    omega
  generalize (M.log2 + 1022) * 4503599627370496 + kept = rung at *
  unfold Ieee.Format.read Ieee.Format.word
  simp only [c1, c2, c3, c4]
  by_cases hi : 9218868437227405312 ≤ rung
  · left
    rw [Nat.min_eq_right hi]
    have e1 : (if s = true then 9223372036854775808 + 9218868437227405312 else 9218868437227405312) % 9223372036854775808 = 9218868437227405312 := by cases s <;> simp
    have e2 : ((if s = true then 9223372036854775808 + 9218868437227405312 else 9218868437227405312) / 9223372036854775808 % 2 == 1) = s := by cases s <;> simp
    rw [e1, e2]
    simp
  · right
    rw [Nat.min_eq_left (by omega)]
    have e1 : (if s = true then 9223372036854775808 + rung else rung) % 9223372036854775808 = rung := by cases s <;> simp <;> omega
    have e2 : ((if s = true then 9223372036854775808 + rung else rung) / 9223372036854775808 % 2 == 1) = s := by cases s <;> simp <;> omega
    rw [e1, e2, if_neg (by omega), if_pos (by omega)]
    refine ⟨_, _, rfl, ?_⟩
    have hq : 1076 ≤ rung / 4503599627370496 := by omega
    unfold wholeN
    rw [if_pos (by omega)]
    have e3 : ((-1074 : Int) + ((rung / 4503599627370496 - 1 : Nat) : Int)).toNat = rung / 4503599627370496 - 1075 := by omega
    rw [e3]
    have h2 : 2 ^ 1 ≤ 2 ^ (rung / 4503599627370496 - 1075) := Nat.pow_le_pow_right (by omega) (by omega)
    have h3 : 4503599627370496 * 2 ≤ (4503599627370496 + rung % 4503599627370496) * 2 ^ (rung / 4503599627370496 - 1075) := Nat.mul_le_mul (by omega) h2
    omega
theorem wholeN_pow {n d : Nat} : wholeN (n * 2 ^ d) (-(d : Int)) = n := by
  unfold wholeN
  split
  · rename_i h
    have : d = 0 := by omega
    subst this; simp
  · rw [show (-(-(d : Int))).toNat = d by omega, Nat.mul_div_cancel _ (Nat.two_pow_pos d)]
theorem read_cut (s : Bool) (M : Nat) : dbl.read (dbl.nearest s M 0) = .infinity s ∧ 9007199254740992 ≤ M ∨
    ∃ m i, dbl.read (dbl.nearest s M 0) = .number s m i ∧ (wholeN m i = M ∨ (9007199254740992 ≤ M ∧ 9007199254740992 ≤ wholeN m i)) := by
  by_cases h : 9007199254740992 ≤ M
  · rcases nearest_big (s := s) h with h' | ⟨m, i, h1, h2⟩
    · exact Or.inl ⟨h', h⟩
    · exact Or.inr ⟨m, i, h1, Or.inr ⟨h, h2⟩⟩
  · right
    by_cases h0 : M = 0
    · subst h0
      obtain ⟨i, hi⟩ : ∃ i : Int, i = -1074 := ⟨_, rfl⟩
      refine ⟨0, i, by subst hi; cases s <;> kernel_rfl, Or.inl ?_⟩
      unfold wholeN; simp
    · have hr := read_int (neg := s) h0 (by omega)
      have hl := (nearest_int (neg := s) h0 (by omega)).2.1
      refine ⟨_, _, hr, Or.inl ?_⟩
      have e : (M.log2 : Int) - 52 = -((52 - M.log2 : Nat) : Int) := by omega
      rw [e, wholeN_pow]

def realWhole (x : Nat) : Int × Bool :=
  match dbl.read x with
  | .number s m i => if wholeN m i < (if s then 32769 else 32768) then (if s then -(wholeN m i : Int) else (wholeN m i : Int), true) else (0, false)
  | _ => (0, false)
theorem lit_a : FloatKind.f64.nearest (-32769) = 13898108587504304128 := by kernel_rfl
theorem lit_b : FloatKind.f64.nearest 32768 = 4674736413210574848 := by kernel_rfl
theorem lit_c : FloatKind.f64.nearest (-32768) = 13898108450065350656 := by kernel_rfl
theorem lit_d : FloatKind.f64.nearest 32767 = 4674736138332667904 := by kernel_rfl
theorem toInt_num {x : Nat} {s : Bool} {m : Nat} {i : Int} (hr : dbl.read x = .number s m i) : (dbl.read x).toInt .zero = some (if s then -(wholeN m i : Int) else (wholeN m i : Int)) := by
  rw [hr]
  unfold Ieee.Datum.toInt
  rw [integral_num]
  simp only [signed_pow, Nat.pow_zero, Nat.mul_one]
theorem spec_whole (x : Nat) : (dbl.order x 13898108587504304128 == some .gt && dbl.order x 4674736413210574848 == some .lt) = (realWhole x).2 := by
  unfold realWhole
  cases hr : dbl.read x with
  | nan s t =>
    have : isNan x = true := by unfold isNan; rw [hr]; rfl
    rw [ord_nan_left this]; rfl
  | infinity s =>
    rw [← lit_b, ← lit_a]
    unfold Ieee.Format.order
    obtain ⟨m1, d1, _, h1, _⟩ := read_whole (a := 32768) (by decide)
    obtain ⟨m2, d2, _, h2, _⟩ := read_whole (a := -32769) (by decide)
    rw [hr, h1, h2]
    cases s <;> simp [Ieee.Datum.order]
  | number s m i =>
    have h1 := ord_lt (n := 32768) hr (by decide) (by decide)
    have h2 := ord_gt (n := 32769) hr (by decide) (by decide)
    have e1 : ((32768 : Nat) : Int) = 32768 := rfl
    have e2 : -((32769 : Nat) : Int) = -32769 := rfl
    rw [e1, lit_b] at h1
    rw [e2, lit_a] at h2
    rw [h1, h2]
    cases s
    · simp only [Bool.not_false, Bool.true_or, Bool.true_and, Bool.false_or, Bool.false_eq_true, if_false]
      by_cases h : wholeN m i < 32768 <;> simp [h]
    · simp only [Bool.not_true, Bool.false_or, Bool.true_or, Bool.and_true, if_true]
      by_cases h : wholeN m i < 32769 <;> simp [h]
def inB (c : Nat) : Bool := (dbl.order c 13898108450065350656 == some .gt || dbl.order c 13898108450065350656 == some .eq) && (dbl.order c 4674736138332667904 == some .lt || dbl.order c 4674736138332667904 == some .eq)
theorem inB_int {s : Bool} {M : Nat} (h : M < 9007199254740992) : inB (dbl.nearest s M 0) = decide (M < (if s then 32769 else 32768)) := by
  by_cases h0 : M = 0
  · subst h0
    cases s <;> (unfold inB; kernel_rfl)
  · unfold inB
    rw [← lit_c, ← lit_d]
    cases s
    · have e : dbl.nearest false M 0 = FloatKind.f64.nearest (M : Int) := by
        have : decide ((M : Int) < 0) = false := by simp
        show dbl.nearest false M 0 = dbl.nearest (decide ((M : Int) < 0)) ((M : Int).natAbs) 0
        rw [this, Int.natAbs_natCast]
      rw [e, order_int (by simpa using h) (by decide), order_int (by simpa using h) (by decide), cmpI, cmpI]
      have h1 : ¬ (M : Int) < -32768 := by omega
      have h2 : ¬ (M : Int) = -32768 := by omega
      rw [if_neg h1, if_neg h2]
      by_cases h3 : (M : Int) < 32767
      · rw [if_pos h3]; have : M < 32768 := by omega
        simp [this]
      · rw [if_neg h3]
        by_cases h4 : (M : Int) = 32767
        · rw [if_pos h4]; have : M < 32768 := by omega
          simp [this]
        · rw [if_neg h4]; have : ¬ M < 32768 := by omega
          simp [this]
    · have e : dbl.nearest true M 0 = FloatKind.f64.nearest (-(M : Int)) := by
        have : decide (-(M : Int) < 0) = true := by simp; omega
        show dbl.nearest true M 0 = dbl.nearest (decide (-(M : Int) < 0)) ((-(M : Int)).natAbs) 0
        rw [this, Int.natAbs_neg, Int.natAbs_natCast]
      rw [e, order_int (by simpa using h) (by decide), order_int (by simpa using h) (by decide), cmpI, cmpI]
      have h1 : -(M : Int) < 32767 := by omega
      rw [if_pos h1]
      by_cases h3 : -(M : Int) < -32768
      · rw [if_pos h3]; have : ¬ M < 32769 := by omega
        simp [this]
      · rw [if_neg h3]
        have : M < 32769 := by omega
        by_cases h4 : -(M : Int) = -32768
        · rw [if_pos h4]; simp [this]
        · rw [if_neg h4]; simp [this]
theorem inB_big {s : Bool} {M : Nat} (h : 9007199254740992 ≤ M) : inB (dbl.nearest s M 0) = false := by
  unfold inB
  rw [← lit_c, ← lit_d]
  rcases nearest_big (s := s) h with hr | ⟨m, i, hr, hw⟩
  · unfold Ieee.Format.order
    obtain ⟨m1, d1, _, h1, _⟩ := read_whole (a := -32768) (by decide)
    obtain ⟨m2, d2, _, h2, _⟩ := read_whole (a := 32767) (by decide)
    rw [hr, h1, h2]
    cases s <;> simp [Ieee.Datum.order]
  · cases s
    · obtain ⟨u, v, hi, e⟩ := ord_num (a := 32767) hr (by decide)
      rw [e, signed_pow, cmpI]
      have hl := lt_whole (m := m) (n := 32768) hi
      have h1 : ¬ m * 2 ^ u < 32768 * 2 ^ v := fun h' => by have := hl.1 h'; omega
      have hv := Nat.two_pow_pos v
      have hc : ((32767 : Int) * 2 ^ v) = ((32767 * 2 ^ v : Nat) : Int) := by push_cast; rfl
      rw [hc]
      simp only [Bool.false_eq_true, if_false]
      generalize m * 2 ^ u = A at *
      have h2 : ¬ (A : Int) < ((32767 * 2 ^ v : Nat) : Int) := by omega
      have h3 : ¬ (A : Int) = ((32767 * 2 ^ v : Nat) : Int) := by omega
      rw [if_neg h2, if_neg h3]
      simp
    · obtain ⟨u, v, hi, e⟩ := ord_num (a := -32768) hr (by decide)
      rw [e, signed_pow, cmpI]
      have hl := lt_whole (m := m) (n := 32769) hi
      have h1 : ¬ m * 2 ^ u < 32769 * 2 ^ v := fun h' => by have := hl.1 h'; omega
      have hv := Nat.two_pow_pos v
      have hc : ((-32768 : Int) * 2 ^ v) = -((32768 * 2 ^ v : Nat) : Int) := by push_cast; rw [Int.neg_mul]
      rw [hc]
      simp only [if_true]
      generalize m * 2 ^ u = A at *
      have h2 : -(A : Int) < -((32768 * 2 ^ v : Nat) : Int) := by omega
      rw [if_pos h2]
      simp
theorem inB_cut {s : Bool} {M : Nat} : inB (dbl.nearest s M 0) = decide (M < (if s then 32769 else 32768)) := by
  by_cases h : M < 9007199254740992
  · exact inB_int h
  · rw [inB_big (by omega)]
    cases s <;> simp <;> omega
theorem inB_nan {c : Nat} (h : isNan c = true) : inB c = false := by
  unfold inB; rw [ord_nan_left h, ord_nan_left h]; rfl
theorem inB_inf (s : Bool) : inB (dbl.word s dbl.infRung) = false := by
  cases s <;> (unfold inB; kernel_rfl)
def cutR (x c : Nat) : Prop :=
  match dbl.read x with
  | .number s m i => c = dbl.nearest s (wholeN m i) 0
  | .infinity s => c = dbl.word s dbl.infRung
  | .nan _ _ => isNan c = true
theorem cut_inB {x c : Nat} (h : cutR x c) : inB c = (realWhole x).2 := by
  unfold cutR at h
  unfold realWhole
  cases hr : dbl.read x with
  | nan s t => rw [hr] at h; simp only at h; rw [inB_nan h]
  | infinity s => rw [hr] at h; simp only at h; subst h; rw [inB_inf]
  | number s m i =>
    rw [hr] at h; simp only at h; subst h
    rw [inB_cut]
    by_cases h : wholeN m i < (if s = true then 32769 else 32768) <;> simp [h]
theorem cut_int {x c : Nat} {r : Int} (h : cutR x c) (hb : (realWhole x).2 = true) (hf : f2i .f64 c .i16 r) : r = (realWhole x).1 := by
  unfold cutR at h
  unfold realWhole at hb ⊢
  cases hr : dbl.read x with
  | nan s t => rw [hr] at hb; simp at hb
  | infinity s => rw [hr] at hb; simp at hb
  | number s m i =>
    rw [hr] at h hb
    simp only at h hb ⊢
    subst h
    by_cases hM : wholeN m i < (if s = true then 32769 else 32768)
    · rw [if_pos hM]
      simp only
      have hlt : wholeN m i < 9007199254740992 := by cases s <;> simp at hM <;> omega
      obtain ⟨m', i', hrd, hw⟩ : ∃ m' i', dbl.read (dbl.nearest s (wholeN m i) 0) = .number s m' i' ∧ wholeN m' i' = wholeN m i := by
        rcases read_cut s (wholeN m i) with ⟨_, h⟩ | ⟨m', i', h1, h2 | ⟨h2, _⟩⟩
        · omega
        · exact ⟨m', i', h1, h2⟩
        · omega
      have ht := toInt_num hrd
      rw [hw] at ht
      unfold f2i at hf
      have ed : FloatKind.f64.decode (dbl.nearest s (wholeN m i) 0) = dbl.read (dbl.nearest s (wholeN m i) 0) := rfl
      rw [ed, ht] at hf
      simp only at hf
      rw [if_pos] at hf
      · exact hf
      · cases s <;> simp at hM ⊢ <;> simp [IntKind.min, IntKind.max, IntKind.signed, IntKind.bits] <;> omega
    · rw [if_neg hM] at hb; simp at hb
theorem spec_int {x : Nat} {r : Int} (hb : (realWhole x).2 = true) (hf : f2i .f64 x .i64 r) : IntKind.i16.wrap r = (realWhole x).1 := by
  unfold realWhole at hb ⊢
  cases hr : dbl.read x with
  | nan s t => rw [hr] at hb; simp at hb
  | infinity s => rw [hr] at hb; simp at hb
  | number s m i =>
    rw [hr] at hb
    simp only at hb ⊢
    by_cases hM : wholeN m i < (if s = true then 32769 else 32768)
    · rw [if_pos hM]
      have ht := toInt_num hr
      unfold f2i at hf
      have ed : FloatKind.f64.decode x = dbl.read x := rfl
      rw [ed, ht] at hf
      simp only at hf
      rw [if_pos] at hf
      · rw [hf]
        cases s
        · simp at hM ⊢; exact wrap_i16 (by omega) (by omega)
        · simp at hM ⊢; exact wrap_i16 (by omega) (by omega)
      · cases s <;> simp at hM ⊢ <;> simp [IntKind.min, IntKind.max, IntKind.signed, IntKind.bits] <;> omega
    · rw [if_neg hM] at hb; simp at hb
theorem realWhole_bd (x : Nat) : -32768 ≤ (realWhole x).1 ∧ (realWhole x).1 ≤ 32767 := by
  unfold realWhole
  cases hr : dbl.read x with
  | nan s t => simp
  | infinity s => simp
  | number s m i =>
    cases s
    · by_cases h : wholeN m i < 32768
      · simp [h]; omega
      · simp [h]
    · by_cases h : wholeN m i < 32769
      · simp [h]; omega
      · simp [h]
theorem realWhole_no {x : Nat} (h : (realWhole x).2 = false) : (realWhole x).1 = 0 := by
  unfold realWhole at h ⊢
  cases hr : dbl.read x with
  | nan s t => simp
  | infinity s => simp
  | number s m i =>
    rw [hr] at h
    simp only at h ⊢
    by_cases hM : wholeN m i < (if s = true then 32769 else 32768)
    · rw [if_pos hM] at h; simp at h
    · rw [if_neg hM]
end Go.Sx
