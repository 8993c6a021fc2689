/-
  What a coil may change, plainly. Plain Lean: nothing of a program stands here. Conditions: none.
-/
import Derived.Test.YtclbanhoiaieaaaGreatDoorPva
import Derived.Test.YtclbanhoiaieaaaGreatDoorDova
import Derived.Test.YtclbanhoiaieaaaGreatDoorInva
set_option linter.unusedVariables false
set_option linter.unusedSimpArgs false
set_option maxRecDepth 100000
namespace Go.Sx
open Go

def okS (m : Nat) (b n : Int) : Bool := decide (0 ≤ n ∧ n ≤ m ∧ b < 2 ^ n.toNat)
def b2i (x : Bool) : Int := if x then 1 else 0
theorem b2i_bd (x : Bool) : 0 ≤ b2i x ∧ b2i x ≤ 1 := by cases x <;> decide
theorem pow_succ2 (k : Nat) : (2 : Int) ^ (k + 1) = 2 * 2 ^ k := by rw [Int.pow_succ, Int.mul_comm]
theorem pow_pos2 (k : Nat) : (0 : Int) < 2 ^ k := Int.pow_pos (by decide)
def goodS (m : Nat) (b n : Int) : Int × Int := if okS m b n then (b, n) else (0, 0)
def pushS (m : Nat) (s : Int × Int) (x : Bool) : Int × Int := ((2 * s.1 + b2i x) % 2 ^ m, min (s.2 + 1) m)
def turnS (s : Int × Int) (x : Bool) : Int × Int := if s.2 = 0 then (0, 0) else (2 * (s.1 / 2) + b2i x, s.2)
theorem okS_iff {m : Nat} {b n : Int} : okS m b n = true ↔ (0 ≤ n ∧ n ≤ m ∧ b < 2 ^ n.toNat) := by unfold okS; simp
theorem pow_mono2 {j k : Nat} (h : j ≤ k) : (2 : Int) ^ j ≤ 2 ^ k := by
  obtain ⟨d, rfl⟩ := Nat.le.dest h
  induction d with
  | zero => simp
  | succ d ih =>
    have := ih (by omega)
    have hp := pow_pos2 (j + d)
    rw [← Nat.add_assoc, pow_succ2]; omega
end Go.Sx
namespace Go.Sx
open Go

end Go.Sx
namespace Go.Sx
open Go

structure MS where
  m : M
  s : Int × Int
  f : Int × Int
structure MSt (a b : MS) : Prop where
  m : MSame a.m b.m
  s : a.s = b.s
  f : a.f = b.f
theorem MSt.refl (a : MS) : MSt a a := ⟨MSame_refl _, rfl, rfl⟩
theorem MSt.symm {a b : MS} (h : MSt a b) : MSt b a := ⟨h.m.symm, h.s.symm, h.f.symm⟩
theorem MSt.trans {a b c : MS} (h : MSt a b) (h' : MSt b c) : MSt a c := ⟨h.m.trans h'.m, h.s.trans h'.s, h.f.trans h'.f⟩
theorem goodS_bd {m : Nat} {b n : Int} (hb : 0 ≤ b) : 0 ≤ (goodS m b n).1 ∧ 0 ≤ (goodS m b n).2 ∧ (goodS m b n).2 ≤ m ∧ (goodS m b n).1 < 2 ^ ((goodS m b n).2).toNat := by
  unfold goodS
  split
  · rename_i h; have := okS_iff.1 h; exact ⟨hb, this.1, this.2.1, this.2.2⟩
  · simp
structure SOk (m : Nat) (s : Int × Int) : Prop where
  b : 0 ≤ s.1
  ok : okS m s.1 s.2 = true
theorem SOk.bd {m : Nat} {s : Int × Int} (h : SOk m s) : 0 ≤ s.1 ∧ s.1 < 2 ^ m ∧ 0 ≤ s.2 ∧ s.2 ≤ m ∧ s.1 < 2 ^ s.2.toNat := by
  obtain ⟨h1, h2, h3⟩ := okS_iff.1 h.ok
  refine ⟨h.b, ?_, h1, h2, h3⟩
  have := pow_mono2 (j := s.2.toNat) (k := m) (by omega)
  omega
theorem SOk.good {m : Nat} {b n : Int} (hb : 0 ≤ b) : SOk m (goodS m b n) := by
  obtain ⟨h1, h2, h3, h4⟩ := goodS_bd (m := m) (n := n) hb
  exact ⟨h1, okS_iff.2 ⟨h2, h3, h4⟩⟩
theorem SOk.push {m : Nat} {s : Int × Int} (h : SOk m s) (x : Bool) (hm : 1 ≤ m) : SOk m (pushS m s x) := by
  obtain ⟨h1, h2, h3, h4, h5⟩ := h.bd
  have hp := pow_pos2 m
  have e1 := Int.emod_nonneg (2 * s.1 + b2i x) (b := 2 ^ m) (by omega)
  have e2 := Int.emod_lt_of_pos (2 * s.1 + b2i x) hp
  have hx := b2i_bd x
  refine ⟨e1, okS_iff.2 ⟨?_, ?_, ?_⟩⟩
  · unfold pushS; simp only; omega
  · unfold pushS; simp only; omega
  · unfold pushS
    simp only
    by_cases hc : s.2 + 1 ≤ m
    · rw [Int.min_eq_left hc]
      have e : (s.2 + 1).toNat = s.2.toNat + 1 := by omega
      have e3 : (2 * s.1 + b2i x) % 2 ^ m ≤ 2 * s.1 + b2i x := by
        by_cases hv : 2 * s.1 + b2i x < 2 ^ m
        · rw [Int.emod_eq_of_lt (by omega) hv]; omega
        · omega
      rw [e, pow_succ2]; omega
    · rw [Int.min_eq_right (by omega)]
      simpa using e2
theorem SOk.turn {m : Nat} {s : Int × Int} (h : SOk m s) (x : Bool) : SOk m (turnS s x) := by
  obtain ⟨h1, h2, h3, h4, h5⟩ := h.bd
  have hx := b2i_bd x
  unfold turnS
  split
  · exact ⟨by simp, okS_iff.2 ⟨by simp, by simp, by simp⟩⟩
  · have e : s.2.toNat = (s.2 - 1).toNat + 1 := by omega
    rw [e, pow_succ2] at h5
    exact ⟨by simp only; omega, okS_iff.2 ⟨h3, h4, by simp only; rw [e, pow_succ2]; omega⟩⟩
end Go.Sx
namespace Go.Sx
open Go

end Go.Sx
