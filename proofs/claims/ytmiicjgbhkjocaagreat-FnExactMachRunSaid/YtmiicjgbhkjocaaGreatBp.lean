/-
  Stacks of bits, plainly: as numbers and as lists. Plain Lean: nothing of a program stands here. Conditions: none.
-/
import Derived.Test.YtmiicjgbhkjocaaGreatP
set_option linter.unusedVariables false
set_option linter.unusedSimpArgs false
namespace Go.Sx
open Go

def okS (m : Nat) (b n : Int) : Bool := decide (0 ≤ n ∧ n ≤ m ∧ b < 2 ^ n.toNat)
def b2i (x : Bool) : Int := if x then 1 else 0
/-- The k lowest bits of a number, the lowest last. -/
def bitsL : Nat → Int → List Bool
  | 0, _ => []
  | k + 1, b => bitsL k (b / 2) ++ [decide (b % 2 = 1)]
def valL (l : List Bool) : Int := l.foldl (fun a x => 2 * a + b2i x) 0
/-- The list of a stack of at most m bits. -/
def listS (m : Nat) (b n : Int) : List Bool := if okS m b n then bitsL n.toNat b else []
/-- The stack of a list: its last m bits. -/
def stackS (m : Nat) (l : List Bool) : Int × Int := (valL (l.drop (l.length - m)), ((l.drop (l.length - m)).length : Int))

theorem bitsL_len : ∀ (k : Nat) (b : Int), (bitsL k b).length = k
  | 0, _ => rfl
  | k + 1, b => by rw [bitsL, List.length_append, bitsL_len k]; rfl
theorem valL_snoc (l : List Bool) (x : Bool) : valL (l ++ [x]) = 2 * valL l + b2i x := by unfold valL; rw [List.foldl_append]; rfl
theorem b2i_bd (x : Bool) : 0 ≤ b2i x ∧ b2i x ≤ 1 := by cases x <;> decide
theorem b2i_mod (b : Int) : b2i (decide (b % 2 = 1)) = b % 2 := by
  unfold b2i
  have := Int.emod_two_eq b
  split
  · rename_i h; simp at h; omega
  · rename_i h; simp at h; omega
theorem pow_succ2 (k : Nat) : (2 : Int) ^ (k + 1) = 2 * 2 ^ k := by rw [Int.pow_succ, Int.mul_comm]
theorem pow_pos2 (k : Nat) : (0 : Int) < 2 ^ k := Int.pow_pos (by decide)
theorem valL_bitsL : ∀ (k : Nat) (b : Int), 0 ≤ b → b < 2 ^ k → valL (bitsL k b) = b
  | 0, b, h0, h1 => by simp at h1; rw [bitsL]; show (0 : Int) = b; omega
  | k + 1, b, h0, h1 => by
    rw [pow_succ2] at h1
    rw [bitsL, valL_snoc, valL_bitsL k (b / 2) (by omega) (by omega), b2i_mod]; omega
theorem valL_bd : ∀ (n : Nat) (l : List Bool), l.length = n → 0 ≤ valL l ∧ valL l < 2 ^ n
  | 0, l, h => by rw [List.length_eq_zero_iff.1 h]; exact ⟨Int.le_refl 0, by decide⟩
  | n + 1, l, h => by
    rcases List.eq_nil_or_concat l with rfl | ⟨l', x, rfl⟩
    · simp at h
    · rw [List.concat_eq_append] at h ⊢
      rw [valL_snoc, pow_succ2]
      have := valL_bd n l' (by simpa using h)
      have := b2i_bd x
      omega
theorem bitsL_valL : ∀ (n : Nat) (l : List Bool), l.length = n → bitsL n (valL l) = l
  | 0, l, h => by rw [List.length_eq_zero_iff.1 h]; rfl
  | n + 1, l, h => by
    rcases List.eq_nil_or_concat l with rfl | ⟨l', x, rfl⟩
    · simp at h
    · rw [List.concat_eq_append] at h ⊢
      have hl : l'.length = n := by simpa using h
      rw [valL_snoc, bitsL]
      have e1 : (2 * valL l' + b2i x) / 2 = valL l' := by have := b2i_bd x; omega
      have e2 : decide ((2 * valL l' + b2i x) % 2 = 1) = x := by
        have : (2 * valL l' + b2i x) % 2 = b2i x := by have := b2i_bd x; omega
        rw [this]; cases x <;> rfl
      rw [e1, e2, bitsL_valL n l' hl]
theorem valL_cons (x : Bool) (l : List Bool) : valL (x :: l) = b2i x * 2 ^ l.length + valL l := by
  have key : ∀ (l : List Bool) (a : Int), l.foldl (fun a x => 2 * a + b2i x) a = a * 2 ^ l.length + l.foldl (fun a x => 2 * a + b2i x) 0 := by
    intro l
    induction l with
    | nil => intro a; simp
    | cons y l ih =>
      intro a
      rw [List.foldl_cons, ih, List.foldl_cons, ih (2 * 0 + b2i y), List.length_cons, pow_succ2]
      rw [Int.add_mul, Int.mul_zero, Int.zero_add]
      have : 2 * a * 2 ^ l.length = a * (2 * 2 ^ l.length) := by rw [Int.mul_comm 2 a, Int.mul_assoc]
      omega
  unfold valL
  rw [List.foldl_cons, key]
  simp
/-- A value on a stack. -/
def goodS (m : Nat) (b n : Int) : Int × Int := if okS m b n then (b, n) else (0, 0)
def pushS (m : Nat) (s : Int × Int) (x : Bool) : Int × Int := ((2 * s.1 + b2i x) % 2 ^ m, min (s.2 + 1) m)
def popS (s : Int × Int) : Int × Int := if s.2 = 0 then (0, 0) else (s.1 / 2, s.2 - 1)
def topS (s : Int × Int) : Bool := if s.2 = 0 then false else decide (s.1 % 2 = 1)
def turnS (s : Int × Int) (x : Bool) : Int × Int := if s.2 = 0 then (0, 0) else (2 * (s.1 / 2) + b2i x, s.2)
theorem okS_iff {m : Nat} {b n : Int} : okS m b n = true ↔ (0 ≤ n ∧ n ≤ m ∧ b < 2 ^ n.toNat) := by unfold okS; simp
theorem listS_len {m : Nat} {b n : Int} : ((listS m b n).length : Int) = (goodS m b n).2 := by
  unfold listS goodS
  by_cases h : okS m b n = true
  · rw [if_pos h, if_pos h, bitsL_len]
    have := okS_iff.1 h; simp; omega
  · rw [if_neg h, if_neg h]; rfl
theorem pow_mono2 {j k : Nat} (h : j ≤ k) : (2 : Int) ^ j ≤ 2 ^ k := by
  obtain ⟨d, rfl⟩ := Nat.le.dest h
  induction d with
  | zero => simp
  | succ d ih =>
    have := ih (by omega)
    have hp := pow_pos2 (j + d)
    rw [← Nat.add_assoc, pow_succ2]; omega
theorem stack_list {m : Nat} {l : List Bool} (h : l.length ≤ m) : stackS m l = (valL l, (l.length : Int)) := by
  unfold stackS
  rw [show l.length - m = 0 by omega]; rfl
theorem push_law {m : Nat} {b n : Int} (hb : 0 ≤ b) (x : Bool) : stackS m (listS m b n ++ [x]) = pushS m (goodS m b n) x ∨ m = 0 := by
  by_cases hm : m = 0
  · exact Or.inr hm
  refine Or.inl ?_
  have hx := b2i_bd x
  have h1 : listS m b n = bitsL ((goodS m b n).2).toNat (goodS m b n).1 := by
    unfold listS goodS
    split <;> rfl
  have hg : 0 ≤ (goodS m b n).1 ∧ 0 ≤ (goodS m b n).2 ∧ (goodS m b n).2 ≤ m ∧ (goodS m b n).1 < 2 ^ ((goodS m b n).2).toNat := by
    unfold goodS
    by_cases h : okS m b n = true
    · rw [if_pos h]; have := okS_iff.1 h; exact ⟨hb, this.1, this.2.1, this.2.2⟩
    · rw [if_neg h]; simp
  generalize goodS m b n = s at *
  obtain ⟨b', n'⟩ := s
  simp only at hg h1
  obtain ⟨g1, g2, g3, g4⟩ := hg
  rw [h1]
  obtain ⟨k, rfl⟩ := Int.eq_ofNat_of_zero_le g2
  simp only [Int.toNat_natCast, Int.ofNat_le] at g3 g4 ⊢
  have hlen : (bitsL k b' ++ [x]).length = k + 1 := by rw [List.length_append, bitsL_len]; rfl
  have hv : valL (bitsL k b' ++ [x]) = 2 * b' + b2i x := by rw [valL_snoc, valL_bitsL k b' g1 g4]
  by_cases hk : k + 1 ≤ m
  · rw [stack_list (by omega), hv, hlen]
    unfold pushS
    have h2 : 2 * b' + b2i x < 2 ^ m := by
      have := pow_mono2 hk
      rw [pow_succ2] at this; omega
    rw [Int.emod_eq_of_lt (by omega) h2]
    congr 1
    simp only
    omega
  · have hkm : k = m := by omega
    subst hkm
    unfold stackS pushS
    rw [hlen, show k + 1 - k = 1 by omega]
    obtain ⟨y, l, hyl⟩ : ∃ y l, bitsL k b' ++ [x] = y :: l := by
      cases h : bitsL k b' ++ [x] with
      | nil => simp at h
      | cons y l => exact ⟨y, l, rfl⟩
    rw [hyl] at hlen hv ⊢
    have hl : l.length = k := by simpa using hlen
    rw [valL_cons, hl] at hv
    have hbd := valL_bd k l hl
    rw [List.drop_one, List.tail_cons, hl]
    have : (2 * b' + b2i x) % 2 ^ k = valL l := by
      rw [← hv, Int.add_comm, Int.add_mul_emod_self_right, Int.emod_eq_of_lt hbd.1 hbd.2]
    simp only [this]
    congr 1
    omega
theorem pop_law {m : Nat} {b n : Int} (hb : 0 ≤ b) : stackS m ((listS m b n).dropLast) = popS (goodS m b n) ∧ ((listS m b n).getLast?.getD false) = topS (goodS m b n) := by
  unfold listS goodS
  by_cases h : okS m b n = true
  · rw [if_pos h, if_pos h]
    obtain ⟨h1, h2, h3⟩ := okS_iff.1 h
    obtain ⟨k, rfl⟩ := Int.eq_ofNat_of_zero_le h1
    simp only [Int.toNat_natCast, Int.ofNat_le] at h2 h3 ⊢
    cases k with
    | zero => simp [bitsL, popS, topS, stackS, valL]
    | succ k =>
      rw [pow_succ2] at h3
      rw [bitsL, List.dropLast_concat]
      have hl := bitsL_len k (b / 2)
      rw [stack_list (by omega), valL_bitsL k (b / 2) (by omega) (by omega), hl]
      unfold popS topS
      have hne : ¬ ((k + 1 : Nat) : Int) = 0 := by omega
      rw [if_neg hne, if_neg hne]
      refine ⟨?_, by simp⟩
      congr 1
      simp only
      omega
  · rw [if_neg h, if_neg h]
    simp [popS, topS, stackS, valL]
theorem turn_law {m : Nat} {b n : Int} (hb : 0 ≤ b) (x : Bool) (h : listS m b n ≠ []) : stackS m ((listS m b n).dropLast ++ [x]) = turnS (goodS m b n) x := by
  unfold listS goodS at *
  by_cases ho : okS m b n = true
  · rw [if_pos ho] at h ⊢
    rw [if_pos ho]
    obtain ⟨h1, h2, h3⟩ := okS_iff.1 ho
    obtain ⟨k, rfl⟩ := Int.eq_ofNat_of_zero_le h1
    simp only [Int.toNat_natCast, Int.ofNat_le] at h h2 h3 ⊢
    cases k with
    | zero => simp [bitsL] at h
    | succ k =>
      rw [pow_succ2] at h3
      rw [bitsL, List.dropLast_concat]
      have hl : (bitsL k (b / 2) ++ [x]).length = k + 1 := by rw [List.length_append, bitsL_len]; rfl
      rw [stack_list (by omega), valL_snoc, valL_bitsL k (b / 2) (by omega) (by omega), hl]
      unfold turnS
      have hne : ¬ ((k + 1 : Nat) : Int) = 0 := by omega
      rw [if_neg hne]
  · rw [if_neg ho] at h; simp at h
end Go.Sx
