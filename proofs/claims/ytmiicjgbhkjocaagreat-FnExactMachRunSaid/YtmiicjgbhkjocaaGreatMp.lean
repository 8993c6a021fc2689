/-
  What the laws of memories say, plainly. Plain Lean: nothing of a program stands here. Conditions: none.
-/
import Derived.Test.YtmiicjgbhkjocaaGreatDo
set_option linter.unusedVariables false
set_option linter.unusedSimpArgs false
set_option maxRecDepth 100000
namespace Go.Sx
open Go

theorem memBit_same {a b : M} (h : MSame a b) (k n : Int) : memBit a k n = memBit b k n := by
  unfold memBit given
  rw [h.X, h.Y, h.Mw, h.S, h.E, h.T, h.C, h.Time, h.Ran, h.Fault]
theorem memWhole_same {a b : M} (h : MSame a b) (k n : Int) : memWhole a k n = memWhole b k n := by
  unfold memWhole
  rw [h.T, h.C, h.D]
theorem memReal_same {a b : M} (h : MSame a b) (k n p : Int) (hs : ∀ k n p, sameF (realArgF k n p) (realArgF k n p)) : sameF (memRealF a k n p) (memRealF b k n p) := by
  unfold memRealF
  split
  · rename_i hk
    subst hk
    have := (place_lt n).2.2.2.2.2.2.2.2.2
    have := (place_bd 10 n).1
    exact h.R _ (by omega)
  · exact hs _ _ _
theorem memPut_no {m : M} {k n : Int} {b : Bool} (h : ¬ isPutK k) : memPut m k n b = m := by
  unfold isPutK at h
  have h1 : k ≠ 2 := fun e => h (Or.inl e)
  have h2 : k ≠ 3 := fun e => h (Or.inr (Or.inl e))
  have h3 : k ≠ 4 := fun e => h (Or.inr (Or.inr (Or.inl e)))
  have h4 : k ≠ 5 := fun e => h (Or.inr (Or.inr (Or.inr e)))
  unfold memPut
  simp [h1, h2, h3, h4]
/-- Two devices that are there lie at one place only if they are one. -/
theorem place_inj {k n p n' p' : Int} (hk : isPutK k) (h : devOk k n p = true) (h' : devOk k n' p' = true) (e : place k n' = place k n) : n' = n ∧ p' = p := by
  unfold devOk at h h'
  rw [decide_eq_true_eq] at h h'
  rcases hk with rfl | rfl | rfl | rfl <;> simp [place, ring, devSize] at h h' e <;> omega
theorem memBit_other {m : M} {k n p k' n' p' : Int} {b : Bool} (hm : MOk m) (hk : isPutK k) (h : devOk k n p = true) (h' : devOk k' n' p' = true) (hne : ¬ (k' = k ∧ n' = n ∧ p' = p)) : memBit (memPut m k n b) k' n' = memBit m k' n' := by
  rw [memBit_put hm hk, if_neg]
  rintro ⟨rfl, e⟩
  obtain ⟨e1, e2⟩ := place_inj hk h h' e
  exact hne ⟨rfl, e1, e2⟩
theorem memBit_self {m : M} {k n : Int} {b : Bool} (hm : MOk m) (hk : isPutK k) : memBit (memPut m k n b) k n = b := by rw [memBit_put hm hk]; simp
theorem memPutWhole_no {m : M} {k n v : Int} (h : k ≠ 9) : memPutWhole m k n v = m := by unfold memPutWhole; rw [if_neg h]
theorem memWhole_self {m : M} {n v : Int} : memWhole (memPutWhole m 9 n v) 9 n = v := by
  have h1 := (place_lt n).2.2.2.2.2.2.2.2.1
  have h2 := (place_bd 9 n).1
  unfold memWhole memPutWhole
  simp [upd]; omega
theorem memPutWhole_back {m : M} {n v : Int} : memPutWhole (memPutWhole m 9 n v) 9 n (memWhole m 9 n) = m := by
  unfold memWhole memPutWhole
  simp [upd_upd, upd_self]
theorem memPutReal_no {m : M} {k n : Int} {v : Nat} (h : k ≠ 10) : memPutReal m k n v = m := by unfold memPutReal; rw [if_neg h]
theorem memReal_self {m : M} {n p : Int} {v : Nat} : memRealF (memPutReal m 10 n v) 10 n p = v := by
  have h1 := (place_lt n).2.2.2.2.2.2.2.2.2
  have h2 := (place_bd 10 n).1
  unfold memRealF memPutReal
  simp [upd]; omega
theorem memPutReal_back {m : M} {n p : Int} {v : Nat} : memPutReal (memPutReal m 10 n v) 10 n (memRealF m 10 n p) = m := by
  unfold memRealF memPutReal
  simp [upd_upd, upd_self]
/-- Places are counted round. -/
theorem place_round {k n j : Int} : place k (n + j * ring k) = place k n := by
  unfold place
  split
  · rfl
  · rw [Int.add_mul_emod_self_right]
theorem memBit_round {m : M} {k n n' : Int} (h : place k n' = place k n) : memBit m k n' = memBit m k n := by unfold memBit; rw [h]
theorem memWhole_round {m : M} {k n n' : Int} (h : place k n' = place k n) (hk : k ≠ 11) : memWhole m k n' = memWhole m k n := by unfold memWhole; rw [h]; simp [hk]

theorem clrS_bd {x g : Int} (hx : 0 ≤ x ∧ x < 65536) : 0 ≤ clr x g ∧ clr x g < 65536 := by unfold clr; split <;> omega
theorem clrS_bit {x : Int} (hx : 0 ≤ x ∧ x < 65536) {g : Int} (hg : g = 0 ∨ g = 1) {i : Nat} (hi : i < 16) : bitOf (clr x g) i = if (i : Int) / 8 = g then false else bitOf x i := by
  have hc : i = 0 ∨ i = 1 ∨ i = 2 ∨ i = 3 ∨ i = 4 ∨ i = 5 ∨ i = 6 ∨ i = 7 ∨ i = 8 ∨ i = 9 ∨ i = 10 ∨ i = 11 ∨ i = 12 ∨ i = 13 ∨ i = 14 ∨ i = 15 := by omega
  unfold bitOf clr
  rcases hg with rfl | rfl
  · rcases hc with rfl | rfl | rfl | rfl | rfl | rfl | rfl | rfl | rfl | rfl | rfl | rfl | rfl | rfl | rfl | rfl <;> simp <;> omega
  · rcases hc with rfl | rfl | rfl | rfl | rfl | rfl | rfl | rfl | rfl | rfl | rfl | rfl | rfl | rfl | rfl | rfl <;> simp <;> omega
/-- A step: of its eight it alone is on, the others are as they were. -/
theorem step_bit {m : M} (hm : MOk m) {k i : Int} (hk : 0 ≤ k ∧ k < 16) (hi : 0 ≤ i ∧ i < 16) : memBit (stepM m k) 4 i = if i / 8 = k / 8 then decide (i = k) else memBit m 4 i := by
  have pk : place 4 k = k := by simp [place, ring, devSize]; omega
  have pi : place 4 i = i := by simp [place, ring, devSize]; omega
  have hg : k / 8 = 0 ∨ k / 8 = 1 := by omega
  unfold stepM
  rw [pk]
  have hm' : MOk { m with S := clr m.S (k / 8) } := ⟨hm.X, hm.Y, hm.Mw, clrS_bd hm.S, hm.E, hm.T, hm.C, hm.D, hm.R, hm.Time⟩
  rw [memBit_put hm' (by simp [isPutK]), pk, pi]
  have e : memBit { m with S := clr m.S (k / 8) } 4 i = bitOf (clr m.S (k / 8)) i.toNat := by
    unfold memBit; simp [pi]
  have e' : memBit m 4 i = bitOf m.S i.toNat := by unfold memBit; simp [pi]
  have hc := clrS_bit hm.S hg (i := i.toNat) (by omega)
  rw [show ((i.toNat : Nat) : Int) = i by omega] at hc
  rw [e, e', hc]
  by_cases hik : i = k
  · simp [hik]
  · simp [hik]
end Go.Sx
