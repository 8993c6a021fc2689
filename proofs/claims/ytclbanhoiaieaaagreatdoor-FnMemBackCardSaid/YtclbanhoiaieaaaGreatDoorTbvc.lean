/-
  A memory is what the words of its text say. Plain Lean: nothing of a program stands here. Conditions: none.
-/
import Derived.Test.YtclbanhoiaieaaaGreatDoorTavc
import Derived.Test.YtclbanhoiaieaaaGreatDoorIvc
set_option linter.unusedVariables false
set_option linter.unusedSimpArgs false
namespace Go.Sx
open Go

def MW.put (m : M) : MW → M
  | .bit k n => if k = 1 then { m with X := putBit m.X n true } else if k = 2 then { m with Y := putBit m.Y n true } else if k = 3 then { m with M := putBit m.M n true }
      else if k = 4 then { m with S := putBit m.S n true } else if k = 5 then { m with E := putBit m.E n true } else m
  | .tim i d c => { m with T := upd m.T i (d, c) }
  | .cnt i d l c => { m with C := upd m.C i (d, l, c) }
  | .dat i v => { m with D := upd m.D i v }
  | .real i x => { m with R := upd m.R i x }
  | .time t => { m with Time := t }
  | .ran => { m with Ran := true }
  | .fault => { m with Fault := true }
def putW (m : M) (ws : List MW) : M := ws.foldl MW.put m
theorem putW_app (m : M) (a b : List MW) : putW m (a ++ b) = putW (putW m a) b := by unfold putW; rw [List.foldl_append]
def setBits (x : Int) (l : List Nat) : Int := l.foldl (fun x n => putBit x n true) x
theorem setBits_bit {b : Nat} : ∀ (l : List Nat) (x : Int), 0 ≤ x → x < 2 ^ b → (∀ n ∈ l, n < b) → (0 ≤ setBits x l ∧ setBits x l < 2 ^ b) ∧ ∀ i, i < b → bitOf (setBits x l) i = (bitOf x i || decide (i ∈ l))
  | [], x, h0, h1, _ => ⟨⟨h0, h1⟩, fun i _ => by simp [setBits]⟩
  | n :: l, x, h0, h1, hl => by
    have hn := hl n (by simp)
    have hp := putBit_bd (c := true) h0 h1 hn
    obtain ⟨g1, g2⟩ := setBits_bit l (putBit x n true) hp.1 hp.2 fun k hk => hl k (by simp [hk])
    refine ⟨g1, fun i hi => ?_⟩
    have e : setBits x (n :: l) = setBits (putBit x n true) l := rfl
    rw [e, g2 i hi, bitOf_put h0 h1 hn hi]
    by_cases e : i = n
    · subst e; simp
    · rw [if_neg e]; simp [e]
theorem bitsExt {b : Nat} {x y : Int} (hx : 0 ≤ x ∧ x < 2 ^ b) (hy : 0 ≤ y ∧ y < 2 ^ b) (h : ∀ i, i < b → bitOf x i = bitOf y i) : x = y := by
  obtain ⟨X, rfl⟩ := Int.eq_ofNat_of_zero_le hx.1
  obtain ⟨Y, rfl⟩ := Int.eq_ofNat_of_zero_le hy.1
  have hX : X < 2 ^ b := by have := hx.2; exact_mod_cast this
  have hY : Y < 2 ^ b := by have := hy.2; exact_mod_cast this
  congr 1
  apply Nat.eq_of_testBit_eq
  intro i
  by_cases hi : i < b
  · have := h i hi
    rw [bitOf_nat, bitOf_nat] at this
    exact this
  · have hp : 2 ^ b ≤ 2 ^ i := Nat.pow_le_pow_right (by decide) (by omega)
    rw [Nat.testBit_lt_two_pow (by omega), Nat.testBit_lt_two_pow (by omega)]
theorem setBits_all {b : Nat} {x : Int} {p : Nat → Bool} (hx : 0 ≤ x ∧ x < 2 ^ b) (hp : ∀ n, n < b → p n = bitOf x n) : setBits 0 ((List.range b).filter p) = x := by
  have h0 : (0 : Int) < 2 ^ b := by exact_mod_cast Nat.two_pow_pos b
  obtain ⟨g1, g2⟩ := setBits_bit (b := b) ((List.range b).filter p) 0 (by omega) h0 fun n hn => by
    have := (List.mem_filter.1 hn).1; simpa using this
  refine bitsExt g1 hx fun i hi => ?_
  have hz : bitOf 0 i = false := by simp [bitOf]
  rw [g2 i hi, hz, Bool.false_or, ← hp i hi]
  rw [Bool.eq_iff_iff]
  simp [List.mem_filter, hi]
theorem putW_bit1 : ∀ (l : List Nat) (s : M), putW s (l.map fun n => .bit 1 n) = { s with X := setBits s.X l }
  | [], s => rfl
  | n :: l, s => by
    have := putW_bit1 l (MW.put s (.bit 1 n))
    exact this
theorem putW_bit2 : ∀ (l : List Nat) (s : M), putW s (l.map fun n => .bit 2 n) = { s with Y := setBits s.Y l }
  | [], s => rfl
  | n :: l, s => by
    have := putW_bit2 l (MW.put s (.bit 2 n))
    exact this
theorem putW_bit3 : ∀ (l : List Nat) (s : M), putW s (l.map fun n => .bit 3 n) = { s with M := setBits s.M l }
  | [], s => rfl
  | n :: l, s => by
    have := putW_bit3 l (MW.put s (.bit 3 n))
    exact this
theorem putW_bit4 : ∀ (l : List Nat) (s : M), putW s (l.map fun n => .bit 4 n) = { s with S := setBits s.S l }
  | [], s => rfl
  | n :: l, s => by
    have := putW_bit4 l (MW.put s (.bit 4 n))
    exact this
theorem putW_bit5 : ∀ (l : List Nat) (s : M), putW s (l.map fun n => .bit 5 n) = { s with E := setBits s.E l }
  | [], s => rfl
  | n :: l, s => by
    have := putW_bit5 l (MW.put s (.bit 5 n))
    exact this
def updL {n : Nat} {α : Type} [Inhabited α] (f : Arr n α) (l : List Nat) (g : Nat → α) : Arr n α := l.foldl (fun f i => upd f i (g i)) f
theorem updL_at {n : Nat} {α : Type} [Inhabited α] (g : Nat → α) : ∀ (l : List Nat) (f : Arr n α) (j : Nat), j < n → updL f l g j = if j ∈ l then g j else f j
  | [], f, j, _ => by simp [updL]
  | i :: l, f, j, hj => by
    have e : updL f (i :: l) g = updL (upd f i (g i)) l g := rfl
    rw [e, updL_at g l _ j hj]
    by_cases hl : j ∈ l
    · simp [hl]
    · by_cases hi : j = i
      · subst hi
        show (if j ∈ l then g j else if j = j ∧ j < n then g j else f j) = _
        simp [hl, hj]
      · show (if j ∈ l then g j else if j = i ∧ j < n then g i else f j) = _
        simp [hl, hi]
theorem updL_all {n : Nat} {α : Type} [Inhabited α] {f : Arr n α} {p : Nat → Bool} (hp : ∀ i, i < n → p i = false → f i = default) : updL (Arr.zero n α) ((List.range n).filter p) (fun i => f i) = f := by
  refine Arr.ext' fun j hj => ?_
  rw [updL_at _ _ _ j hj]
  by_cases h : p j = true
  · rw [if_pos (by simp [List.mem_filter, hj, h])]
  · rw [if_neg (by simp [List.mem_filter, hj, h]), hp j hj (by simpa using h)]; rfl
theorem putW_tim (g : Nat → Bool × Int) : ∀ (l : List Nat) (s : M), putW s (l.map fun i => .tim i (g i).1 (g i).2) = { s with T := updL s.T l g }
  | [], s => rfl
  | n :: l, s => putW_tim g l (MW.put s (.tim n (g n).1 (g n).2))
theorem putW_cnt (g : Nat → Bool × Bool × Int) : ∀ (l : List Nat) (s : M), putW s (l.map fun i => .cnt i (g i).1 (g i).2.1 (g i).2.2) = { s with C := updL s.C l g }
  | [], s => rfl
  | n :: l, s => putW_cnt g l (MW.put s (.cnt n (g n).1 (g n).2.1 (g n).2.2))
theorem putW_dat (g : Nat → Int) : ∀ (l : List Nat) (s : M), putW s (l.map fun i => .dat i (g i)) = { s with D := updL s.D l g }
  | [], s => rfl
  | n :: l, s => putW_dat g l (MW.put s (.dat n (g n)))
theorem putW_real (g : Nat → Nat) : ∀ (l : List Nat) (s : M), putW s (l.map fun i => .real i (g i)) = { s with R := updL s.R l g }
  | [], s => rfl
  | n :: l, s => putW_real g l (MW.put s (.real n (g n)))
theorem place_lt' {k : Int} {n : Nat} (hk : k = 1 ∨ k = 2 ∨ k = 3 ∨ k = 4 ∨ k = 5) (hn : (n : Int) < devSize k) : (place k n).toNat = n := by
  have hr : ring k = devSize k := by unfold ring; rw [if_neg (by omega)]
  unfold place
  rw [hr, if_neg (by omega), Int.emod_eq_of_lt (by omega) hn]; rfl
theorem putW_bits {m : M} (hm : MOk m) {s : M} :
    (s.X = 0 → putW s (bitsW m 1) = { s with X := m.X }) ∧ (s.Y = 0 → putW s (bitsW m 2) = { s with Y := m.Y }) ∧ (s.M = 0 → putW s (bitsW m 3) = { s with M := m.M })
    ∧ (s.S = 0 → putW s (bitsW m 4) = { s with S := m.S }) ∧ (s.E = 0 → putW s (bitsW m 5) = { s with E := m.E }) := by
  refine ⟨fun h => ?_, fun h => ?_, fun h => ?_, fun h => ?_, fun h => ?_⟩ <;> unfold bitsW
  · rw [putW_bit1, h]
    have : setBits 0 ((List.range (devSize 1).toNat).filter fun (n : Nat) => memBit m 1 n) = m.X := setBits_all (b := 32) hm.X fun n hn => by
      have := place_lt' (k := 1) (n := n) (by omega) (by have : devSize 1 = 32 := rfl; omega)
      show bitOf m.X (place 1 n).toNat = _
      rw [this]
    rw [this]
  · rw [putW_bit2, h]
    have : setBits 0 ((List.range (devSize 2).toNat).filter fun (n : Nat) => memBit m 2 n) = m.Y := setBits_all (b := 32) hm.Y fun n hn => by
      have := place_lt' (k := 2) (n := n) (by omega) (by have : devSize 2 = 32 := rfl; omega)
      show bitOf m.Y (place 2 n).toNat = _
      rw [this]
    rw [this]
  · rw [putW_bit3, h]
    have : setBits 0 ((List.range (devSize 3).toNat).filter fun (n : Nat) => memBit m 3 n) = m.M := setBits_all (b := 64) hm.Mw fun n hn => by
      have := place_lt' (k := 3) (n := n) (by omega) (by have : devSize 3 = 64 := rfl; omega)
      show bitOf m.M (place 3 n).toNat = _
      rw [this]
    rw [this]
  · rw [putW_bit4, h]
    have : setBits 0 ((List.range (devSize 4).toNat).filter fun (n : Nat) => memBit m 4 n) = m.S := setBits_all (b := 16) hm.S fun n hn => by
      have := place_lt' (k := 4) (n := n) (by omega) (by have : devSize 4 = 16 := rfl; omega)
      show bitOf m.S (place 4 n).toNat = _
      rw [this]
    rw [this]
  · rw [putW_bit5, h]
    have : setBits 0 ((List.range (devSize 5).toNat).filter fun (n : Nat) => memBit m 5 n) = m.E := setBits_all (b := 32) hm.E fun n hn => by
      have := place_lt' (k := 5) (n := n) (by omega) (by have : devSize 5 = 32 := rfl; omega)
      show bitOf m.E (place 5 n).toNat = _
      rw [this]
    rw [this]
theorem putW_mem {m : M} (hm : MOk m) : putW zeroM (memW m) = m := by
  unfold memW
  have b := fun s => putW_bits (s := s) hm
  rw [putW_app, (b zeroM).1 rfl, putW_app, (b _).2.1 rfl, putW_app, (b _).2.2.1 rfl, putW_app, (b _).2.2.2.1 rfl, putW_app, (b _).2.2.2.2 rfl]
  have hT : updL (Arr.zero 16 (Bool × Int)) ((List.range 16).filter fun i => (m.T i).1 || decide (0 < (m.T i).2)) (fun i => m.T i) = m.T := updL_all fun i hi h => by
    have := hm.T i hi
    simp only [Bool.or_eq_false_iff, decide_eq_false_iff_not] at h
    have e : (m.T i).2 = 0 := by omega
    exact Prod.ext h.1 e
  have hC : updL (Arr.zero 16 (Bool × Bool × Int)) ((List.range 16).filter fun i => (m.C i).1 || ((m.C i).2.1 || decide (0 < (m.C i).2.2))) (fun i => m.C i) = m.C := updL_all fun i hi h => by
    have := hm.C i hi
    simp only [Bool.or_eq_false_iff, decide_eq_false_iff_not] at h
    have e : (m.C i).2.2 = 0 := by omega
    exact Prod.ext h.1 (Prod.ext h.2.1 e)
  have hD : updL (Arr.zero 32 Int) ((List.range 32).filter fun i => decide (m.D i ≠ 0)) (fun i => m.D i) = m.D := updL_all fun i hi h => by
    simp only [ne_eq, decide_not, Bool.not_eq_false', decide_eq_true_eq] at h
    exact h
  have hR : updL (Arr.zero 16 Nat) ((List.range 16).filter fun i => decide (m.R i ≠ 0)) (fun i => m.R i) = m.R := updL_all fun i hi h => by
    simp only [ne_eq, decide_not, Bool.not_eq_false', decide_eq_true_eq] at h
    exact h
  rw [putW_app]
  unfold timW
  rw [putW_tim (fun i => m.T i), putW_app]
  unfold cntW
  rw [putW_cnt (fun i => m.C i), putW_app]
  unfold datW
  rw [putW_dat (fun i => m.D i), putW_app]
  unfold realW
  rw [putW_real (fun i => m.R i)]
  have eT : (zeroM.T) = Arr.zero 16 (Bool × Int) := rfl
  have eC : (zeroM.C) = Arr.zero 16 (Bool × Bool × Int) := rfl
  have eD : (zeroM.D) = Arr.zero 32 Int := rfl
  have eR : (zeroM.R) = Arr.zero 16 Nat := rfl
  simp only [eT, eC, eD, eR, hT, hC, hD, hR]
  unfold endW
  have ht := hm.Time
  by_cases h1 : 0 < m.Time
  · rw [if_pos h1]
    cases h2 : m.Ran <;> cases h3 : m.Fault <;> (cases m; simp_all [putW, MW.put, zeroM])
  · rw [if_neg h1]
    have h0 : m.Time = 0 := by omega
    cases h2 : m.Ran <;> cases h3 : m.Fault <;> (cases m; simp_all [putW, MW.put, zeroM])
theorem put_same {a b : M} (h : MSame a b) {i x y : Nat} (hxy : sameF x y) : MSame (MW.put a (.real i x)) (MW.put b (.real i y)) := by
  refine ⟨h.X, h.Y, h.Mw, h.S, h.E, h.T, h.C, h.D, fun k hk => ?_, h.Time, h.Ran, h.Fault⟩
  show sameF (if k = i ∧ k < 16 then x else a.R k) (if k = i ∧ k < 16 then y else b.R k)
  split
  · exact hxy
  · exact h.R k hk
theorem put_cong {a b : M} (h : MSame a b) (w : MW) : MSame (MW.put a w) (MW.put b w) := by
  cases w with
  | real i x => exact put_same h (sameF_refl _)
  | bit k n =>
    simp only [MW.put, h.X, h.Y, h.Mw, h.S, h.E]
    (repeat' split) <;> exact ⟨by first | rfl | exact h.X, by first | rfl | exact h.Y, by first | rfl | exact h.Mw, by first | rfl | exact h.S, by first | rfl | exact h.E, h.T, h.C, h.D, h.R, h.Time, h.Ran, h.Fault⟩
  | tim i d c => exact ⟨h.X, h.Y, h.Mw, h.S, h.E, by show upd a.T i (d, c) = upd b.T i (d, c); rw [h.T], h.C, h.D, h.R, h.Time, h.Ran, h.Fault⟩
  | cnt i d l c => exact ⟨h.X, h.Y, h.Mw, h.S, h.E, h.T, by show upd a.C i (d, l, c) = upd b.C i (d, l, c); rw [h.C], h.D, h.R, h.Time, h.Ran, h.Fault⟩
  | dat i v => exact ⟨h.X, h.Y, h.Mw, h.S, h.E, h.T, h.C, by show upd a.D i v = upd b.D i v; rw [h.D], h.R, h.Time, h.Ran, h.Fault⟩
  | time t => exact ⟨h.X, h.Y, h.Mw, h.S, h.E, h.T, h.C, h.D, h.R, rfl, h.Ran, h.Fault⟩
  | ran => exact ⟨h.X, h.Y, h.Mw, h.S, h.E, h.T, h.C, h.D, h.R, h.Time, rfl, h.Fault⟩
  | fault => exact ⟨h.X, h.Y, h.Mw, h.S, h.E, h.T, h.C, h.D, h.R, h.Time, h.Ran, rfl⟩
end Go.Sx
