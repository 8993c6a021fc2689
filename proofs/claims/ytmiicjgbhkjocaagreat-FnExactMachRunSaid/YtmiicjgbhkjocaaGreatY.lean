/-
  Bits that are put and asked. Plain Lean: nothing of a program stands here. Conditions: none.
-/
import Derived.Test.YtmiicjgbhkjocaaGreatK
set_option linter.unusedVariables false
set_option linter.unusedSimpArgs false
set_option maxRecDepth 100000
namespace Go.Sx
open Go

theorem bitOf_nat (X : Nat) (i : Nat) : bitOf (X : Int) i = X.testBit i := by
  unfold bitOf
  rw [Nat.testBit_eq_decide_div_mod_eq]
  congr 1
  apply propext
  have e : ((X : Int) / 2 ^ i % 2) = ((X / 2 ^ i % 2 : Nat) : Int) := by push_cast; rfl
  rw [e]
  omega
theorem bitOf_put {x : Int} {b i j : Nat} {c : Bool} (hx : 0 ≤ x) (hx2 : x < 2 ^ b) (hj : j < b) (hi : i < b) : bitOf (putBit x j c) i = if i = j then c else bitOf x i := by
  obtain ⟨X, rfl⟩ := Int.eq_ofNat_of_zero_le hx
  have hX : X < 2 ^ b := by exact_mod_cast hx2
  have e := putBit_nat (c := c) hX hj
  rw [show (((X : Nat) : Int)) = ((X : Nat) : Int) from rfl] at *
  rw [e, bitOf_nat, bitOf_nat, Nat.testBit_or, Nat.testBit_and]
  have h2 : 2 ^ j < 2 ^ b := Nat.pow_lt_pow_right (by omega) hj
  have e2 : 2 ^ b - 1 - 2 ^ j = 2 ^ b - (2 ^ j + 1) := by omega
  rw [e2, Nat.testBit_two_pow_sub_succ h2, Nat.testBit_two_pow]
  by_cases h : i = j
  · subst h
    cases c <;> simp [hi, Nat.testBit_two_pow]
  · have h' : ¬ j = i := fun h' => h h'.symm
    cases c <;> simp [hi, h, h', Nat.testBit_two_pow]

def isPutK (k : Int) : Prop := k = 2 ∨ k = 3 ∨ k = 4 ∨ k = 5
theorem memBit_put {m : M} {k n k' n' : Int} {b : Bool} (hm : MOk m) (hk : isPutK k) : memBit (memPut m k n b) k' n' = if k' = k ∧ place k' n' = place k n then b else memBit m k' n' := by
  obtain ⟨l1, l2, l3, l4, l5, l6, l7, l8, l9, l10⟩ := place_lt n
  obtain ⟨l1', l2', l3', l4', l5', l6', l7', l8', l9', l10'⟩ := place_lt n'
  have hp := (place_bd k n).1
  have hp' := (place_bd k' n').1
  by_cases hkk : k' = k
  · subst hkk
    obtain rfl | rfl | rfl | rfl := hk
    · have e := bitOf_put (b := 32) (i := (place 2 n').toNat) (j := (place 2 n).toNat) (c := b) hm.Y.1 (by have := hm.Y.2; omega) (by omega) (by omega)
      simp only [memBit, memPut]; simp only [reduceIte, e, show (2 : Int) ≠ 1 by decide]
      by_cases h : place 2 n' = place 2 n
      · simp [h]
      · simp [h, show ¬ (place 2 n').toNat = (place 2 n).toNat by omega]
    · have e := bitOf_put (b := 64) (i := (place 3 n').toNat) (j := (place 3 n).toNat) (c := b) hm.Mw.1 (by have := hm.Mw.2; omega) (by omega) (by omega)
      simp only [memBit, memPut]; simp only [reduceIte, e, show (3 : Int) ≠ 1 by decide, show (3 : Int) ≠ 2 by decide]
      by_cases h : place 3 n' = place 3 n
      · simp [h]
      · simp [h, show ¬ (place 3 n').toNat = (place 3 n).toNat by omega]
    · have e := bitOf_put (b := 16) (i := (place 4 n').toNat) (j := (place 4 n).toNat) (c := b) hm.S.1 (by have := hm.S.2; omega) (by omega) (by omega)
      simp only [memBit, memPut]; simp only [reduceIte, e, show (4 : Int) ≠ 1 by decide, show (4 : Int) ≠ 2 by decide, show (4 : Int) ≠ 3 by decide]
      by_cases h : place 4 n' = place 4 n
      · simp [h]
      · simp [h, show ¬ (place 4 n').toNat = (place 4 n).toNat by omega]
    · have e := bitOf_put (b := 32) (i := (place 5 n').toNat) (j := (place 5 n).toNat) (c := b) hm.E.1 (by have := hm.E.2; omega) (by omega) (by omega)
      simp only [memBit, memPut]; simp only [reduceIte, e, show (5 : Int) ≠ 1 by decide, show (5 : Int) ≠ 2 by decide, show (5 : Int) ≠ 3 by decide, show (5 : Int) ≠ 4 by decide]
      by_cases h : place 5 n' = place 5 n
      · simp [h]
      · simp [h, show ¬ (place 5 n').toNat = (place 5 n).toNat by omega]
  · have h0 : ¬ (k' = k ∧ place k' n' = place k n) := fun h => hkk h.1
    rw [if_neg h0]
    obtain rfl | rfl | rfl | rfl := hk
    all_goals
      unfold memBit memPut
      simp [hkk]
      try rfl
theorem memWhole_put {m : M} {k n k' n' : Int} {b : Bool} : memWhole (memPut m k n b) k' n' = memWhole m k' n' := by
  unfold memPut
  (repeat' split) <;> rfl
theorem putBit_back {x : Int} {b j : Nat} {c : Bool} (hx : 0 ≤ x) (hx2 : x < 2 ^ b) (hj : j < b) : putBit (putBit x j c) j (bitOf x j) = x := by
  have e := bitOf_put (c := c) hx hx2 hj hj
  rw [if_pos rfl] at e
  unfold putBit at e ⊢
  by_cases h : bitOf x j = c
  · rw [if_pos h] at e ⊢
    rw [if_pos rfl]
  · rw [if_neg h] at e ⊢
    cases c
    · have hb : bitOf x j = true := by simpa using h
      simp only [hb, Bool.false_eq_true, if_false] at e ⊢
      rw [if_neg (by rw [e]; decide)]; simp
    · have hb : bitOf x j = false := by simpa using h
      simp only [hb, if_true, Bool.false_eq_true, if_false] at e ⊢
      rw [if_neg (by rw [e]; decide)]
      omega
theorem memPut_back {m : M} {k n : Int} {b : Bool} (hm : MOk m) (hk : isPutK k) : memPut (memPut m k n b) k n (memBit m k n) = m := by
  obtain ⟨l1, l2, l3, l4, l5, l6, l7, l8, l9, l10⟩ := place_lt n
  have hp := (place_bd k n).1
  obtain rfl | rfl | rfl | rfl := hk
  · have e := putBit_back (b := 32) (j := (place 2 n).toNat) (c := b) hm.Y.1 (by have := hm.Y.2; omega) (by omega)
    simp [memPut, memBit, e]
  · have e := putBit_back (b := 64) (j := (place 3 n).toNat) (c := b) hm.Mw.1 (by have := hm.Mw.2; omega) (by omega)
    simp [memPut, memBit, e]
  · have e := putBit_back (b := 16) (j := (place 4 n).toNat) (c := b) hm.S.1 (by have := hm.S.2; omega) (by omega)
    simp [memPut, memBit, e]
  · have e := putBit_back (b := 32) (j := (place 5 n).toNat) (c := b) hm.E.1 (by have := hm.E.2; omega) (by omega)
    simp [memPut, memBit, e]
theorem zeroM_ok : MOk zeroM := by
  constructor <;> (try decide) <;> (intro k _; simp [zeroM, Arr.zero]; try decide)
theorem memBit_zero (k n : Int) (hk : isPutK k) : memBit zeroM k n = false := by
  obtain rfl | rfl | rfl | rfl := hk <;> simp [memBit, zeroM, bitOf]

/-- One round of the law of edges. -/
def edgeX : Dev := ⟨3, 7, 0⟩
def edgeU : Dev := ⟨5, 1, 0⟩
def edgeD : Dev := ⟨5, 31, 0⟩
structure EdgeI (m : M) (was : Bool) : Prop where
  ok : MOk m
  up : memBit m 5 1 = was
  down : memBit m 5 31 = was
theorem edge_zero : EdgeI zeroM false := ⟨zeroM_ok, memBit_zero 5 1 (by simp [isPutK]), memBit_zero 5 31 (by simp [isPutK])⟩
theorem edge_step {m : M} {was now : Bool} (h : EdgeI m was) :
    testB (memPut m 3 7 now) 3 edgeX edgeU = (now && !was) ∧ testB (testM (memPut m 3 7 now) 3 edgeX edgeU) 4 edgeX edgeD = (was && !now) ∧
      EdgeI (testM (testM (memPut m 3 7 now) 3 edgeX edgeU) 4 edgeX edgeD) now := by
  have h1 := memPut_ok (k := 3) (n := 7) (b := now) h.ok
  have p1 : isPutK 3 := by simp [isPutK]
  have p5 : isPutK 5 := by simp [isPutK]
  have pl1 : place 5 1 = 1 := by decide
  have pl2 : place 5 31 = 31 := by decide
  have a1 : memBit (memPut m 3 7 now) 3 7 = now := by rw [memBit_put h.ok p1]; simp
  have a2 : memBit (memPut m 3 7 now) 5 1 = was := by rw [memBit_put h.ok p1]; simp [h.up]
  have a3 : memBit (memPut m 3 7 now) 5 31 = was := by rw [memBit_put h.ok p1]; simp [h.down]
  have h2 := memPut_ok (k := 5) (n := 1) (b := now) h1
  have b1 : memBit (memPut (memPut m 3 7 now) 5 1 now) 3 7 = now := by rw [memBit_put h1 p5]; simp [a1]
  have b2 : memBit (memPut (memPut m 3 7 now) 5 1 now) 5 1 = now := by rw [memBit_put h1 p5]; simp
  have b3 : memBit (memPut (memPut m 3 7 now) 5 1 now) 5 31 = was := by rw [memBit_put h1 p5]; simp [a3, pl1, pl2]
  have h3 := memPut_ok (k := 5) (n := 31) (b := now) h2
  have c2 : memBit (memPut (memPut (memPut m 3 7 now) 5 1 now) 5 31 now) 5 1 = now := by rw [memBit_put h2 p5]; simp [b2, pl1, pl2]
  have c3 : memBit (memPut (memPut (memPut m 3 7 now) 5 1 now) 5 31 now) 5 31 = now := by rw [memBit_put h2 p5]; simp
  simp only [testB, testM, wasB, keepM, edgeX, edgeU, edgeD]
  simp [a1, a2, b1, b3]
  exact ⟨h3, c2, c3⟩
end Go.Sx
