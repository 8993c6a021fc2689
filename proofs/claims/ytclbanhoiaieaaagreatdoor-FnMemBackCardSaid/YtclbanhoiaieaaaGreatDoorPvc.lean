/-
  What devices, operands and bits are, as plain functions. Plain Lean: nothing of a program stands here. Conditions: none.
-/
import Derived.Test.YtclbanhoiaieaaaGreatDoorSxvc
import Derived.Test.YtclbanhoiaieaaaGreatDoorMvc
import Derived.KernelRfl
import Derived.Laws.FloatBits
set_option linter.unusedVariables false
set_option linter.unusedSimpArgs false
set_option maxRecDepth 100000
namespace Go.Sx
open Go

abbrev dbl : Ieee.Format := Ieee.double
def isNan (x : Nat) : Bool := (dbl.read x).isNaN
def sameF (a b : Nat) : Prop := (a = b ∧ isNan a = false) ∨ (isNan a = true ∧ isNan b = true)
theorem sameF_refl (a : Nat) : sameF a a := by
  unfold sameF; cases isNan a <;> simp

theorem cmp_selfI (a : Int) : compare a a = .eq := by
  simp [compare, compareOfLessAndEq]
theorem cmp_selfN (a : Nat) : compare a a = .eq := by
  simp [compare, compareOfLessAndEq]
theorem cmp_eqI {a b : Int} : compare a b = .eq ↔ a = b := by
  simp only [compare, compareOfLessAndEq]
  by_cases h : a < b
  · rw [if_pos h]; constructor
    · intro h; cases h
    · omega
  · rw [if_neg h]
    by_cases e : a = b
    · simp [e]
    · simp [e]

theorem ord_self (x : Nat) : dbl.order x x = if isNan x then none else some .eq := by
  unfold Ieee.Format.order isNan
  cases dbl.read x <;> simp [Ieee.Datum.order, Ieee.Datum.isNaN, cmp_selfI, cmp_selfN]
theorem read_zero : dbl.read 0 = .number false 0 (-1074) := by kernel_rfl
theorem consts : dbl.signWeight = 9223372036854775808 ∧ dbl.binade = 4503599627370496 ∧ dbl.infRung = 9218868437227405312 ∧ dbl.leastPlace = -1074 := by
  refine ⟨by kernel_rfl, by kernel_rfl, by kernel_rfl, by kernel_rfl⟩

theorem signed_zero (s : Bool) (m u : Nat) : Ieee.signed s m u = 0 ↔ m = 0 := by
  unfold Ieee.signed
  have : m <<< u = 0 ↔ m = 0 := by
    rw [Nat.shiftLeft_eq]
    have := Nat.two_pow_pos u
    constructor
    · intro h
      rcases Nat.mul_eq_zero.1 h with h | h
      · exact h
      · omega
    · rintro rfl; simp
  cases s <;> simp [this]

theorem ord_zero {x : Nat} (hx : x < 18446744073709551616) : dbl.order x 0 = some .eq ↔ x = 0 ∨ x = 9223372036854775808 := by
  obtain ⟨c1, c2, c3, c4⟩ := consts
  unfold Ieee.Format.order
  rw [read_zero]
  unfold Ieee.Format.read
  simp only [c1, c2, c3, c4]
  have key : ∀ (s : Bool) (m : Nat) (e : Int), (Ieee.Datum.order (.number s m e) (.number false 0 (-1074)) = some .eq) ↔ m = 0 := by
    intro s m e
    simp only [Ieee.Datum.order, Option.some.injEq, cmp_eqI]
    have h0 : ∀ u, Ieee.signed false 0 u = 0 := fun u => (signed_zero false 0 u).2 rfl
    rw [h0, signed_zero]
  split
  · rw [key]; omega
  · split
    · rw [key]; omega
    · split
      · simp [Ieee.Datum.order]
        constructor
        · intro h; split at h <;> cases h
        · omega
      · simp [Ieee.Datum.order]
        omega

theorem isNan_iff (x : Nat) : isNan x = decide (9218868437227405312 < x % 9223372036854775808) := by
  obtain ⟨c1, c2, c3, c4⟩ := consts
  unfold isNan Ieee.Format.read
  simp only [c1, c2, c3]
  split
  · simp [Ieee.Datum.isNaN]; omega
  · split
    · simp [Ieee.Datum.isNaN]; omega
    · split
      · simp [Ieee.Datum.isNaN]; omega
      · simp [Ieee.Datum.isNaN]; omega
theorem nan_cut {a b t : Nat} : isNan ((Question.nanBits .f64 a b).cut t) = true ∧ (Question.nanBits .f64 a b).cut t < 18446744073709551616 := by
  rw [isNan_iff, decide_eq_true_eq]
  have h1 : t % 2 < 2 := Nat.mod_lt _ (by omega)
  have h2 : t / 2 % 4503599627370495 < 4503599627370495 := Nat.mod_lt _ (by omega)
  have e : (Question.nanBits .f64 a b).cut t = (t % 2) * 9223372036854775808 + 9218868437227405312 + 1 + t / 2 % 4503599627370495 := rfl
  rw [e]
  clear e
  generalize t % 2 = z at *
  generalize t / 2 % 4503599627370495 = y at *
  have hz : z = 0 ∨ z = 1 := by omega
  rcases hz with rfl | rfl
  · omega
  · omega
theorem div_one_pos : dbl.div 4607182418800017408 0 = some 9218868437227405312 := by kernel_rfl
theorem div_one_neg : dbl.div 4607182418800017408 9223372036854775808 = some 18442240474082181120 := by kernel_rfl
theorem ord_inf_pos : dbl.order 9218868437227405312 0 = some .gt := by kernel_rfl
theorem ord_inf_neg : dbl.order 18442240474082181120 0 = some .lt := by kernel_rfl
end Go.Sx
namespace Go.Sx
open Go

def devSize (k : Int) : Int :=
  if k = 1 then 32 else if k = 2 then 32 else if k = 3 then 64 else if k = 4 then 16 else if k = 5 then 32 else if k = 6 then 5 else if k = 7 then 16 else if k = 8 then 16 else if k = 9 then 32 else if k = 10 then 16 else 0
def ring (k : Int) : Int := if k = 6 then 8 else devSize k
def place (k n : Int) : Int := if ring k = 0 then 0 else n % ring k
def bitOf (x : Int) (j : Nat) : Bool := decide (x / 2 ^ j % 2 = 1)
def given (m : M) (k : Int) : Bool := if k = 0 then true else if k = 2 then !m.Ran else if k = 3 then m.Fault else if k = 4 then decide (500 ≤ m.Time % 1000) else false
def memBit (m : M) (k n : Int) : Bool :=
  if k = 1 then bitOf m.X (place k n).toNat else if k = 2 then bitOf m.Y (place k n).toNat else if k = 3 then bitOf m.M (place k n).toNat
  else if k = 4 then bitOf m.S (place k n).toNat else if k = 5 then bitOf m.E (place k n).toNat else if k = 6 then given m (place k n)
  else if k = 7 then (m.T (place k n).toNat).1 else if k = 8 then (m.C (place k n).toNat).1 else false

def memPutReal (m : M) (k n : Int) (v : Nat) : M := if k = 10 then { m with R := upd m.R (place k n).toNat v } else m

def putBit (x : Int) (j : Nat) (b : Bool) : Int := if bitOf x j = b then x else if b then x + 2 ^ j else x - 2 ^ j
def memPut (m : M) (k n : Int) (b : Bool) : M :=
  if k = 2 then { m with Y := putBit m.Y (place k n).toNat b } else if k = 3 then { m with M := putBit m.M (place k n).toNat b }
  else if k = 4 then { m with S := putBit m.S (place k n).toNat b } else if k = 5 then { m with E := putBit m.E (place k n).toNat b } else m
def devOk (k n p : Int) : Bool :=
  decide ((1 ≤ k ∧ k ≤ 10 ∧ 0 ≤ n ∧ n < devSize k ∧ p = 0) ∨ (k = 11 ∧ -32768 ≤ n ∧ n ≤ 32767 ∧ p = 0) ∨
    (k = 12 ∧ -999999999 ≤ n ∧ n ≤ 999999999 ∧ 1 ≤ p ∧ p ≤ 6 ∧ (p = 1 ∨ n.tmod 10 ≠ 0)) ∨ (k = 13 ∧ 0 ≤ n ∧ n ≤ 3 ∧ p = 0))
structure MOk (m : M) : Prop where
  X : 0 ≤ m.X ∧ m.X < 4294967296
  Y : 0 ≤ m.Y ∧ m.Y < 4294967296
  Mw : 0 ≤ m.M ∧ m.M < 18446744073709551616
  S : 0 ≤ m.S ∧ m.S < 65536
  E : 0 ≤ m.E ∧ m.E < 4294967296
  T : ∀ k, k < 16 → 0 ≤ (m.T k).2 ∧ (m.T k).2 < 65536
  C : ∀ k, k < 16 → 0 ≤ (m.C k).2.2 ∧ (m.C k).2.2 < 65536
  D : ∀ k, k < 32 → -32768 ≤ m.D k ∧ m.D k < 32768
  R : ∀ k, k < 16 → m.R k < 18446744073709551616
  Time : 0 ≤ m.Time ∧ m.Time < 4294967296

theorem wrap_i64 {x : Int} (h1 : -9223372036854775808 ≤ x) (h2 : x ≤ 9223372036854775807) : IntKind.i64.wrap x = x := by
  simp only [IntKind.wrap, IntKind.signed, IntKind.bits]; simp; omega
theorem wrap_u64 {x : Int} (h1 : 0 ≤ x) (h2 : x < 18446744073709551616) : IntKind.u64.wrap x = x := by
  simp only [IntKind.wrap, IntKind.signed, IntKind.bits]; simp; omega
theorem wrap_u32 {x : Int} (h1 : 0 ≤ x) (h2 : x < 4294967296) : IntKind.u32.wrap x = x := by
  simp only [IntKind.wrap, IntKind.signed, IntKind.bits]; simp; omega
theorem wrap_u16 {x : Int} (h1 : 0 ≤ x) (h2 : x < 65536) : IntKind.u16.wrap x = x := by
  simp only [IntKind.wrap, IntKind.signed, IntKind.bits]; simp; omega
theorem wrap_u8 {x : Int} (h1 : 0 ≤ x) (h2 : x < 256) : IntKind.u8.wrap x = x := by
  simp only [IntKind.wrap, IntKind.signed, IntKind.bits]; simp; omega
theorem wrap_i16 {x : Int} (h1 : -32768 ≤ x) (h2 : x < 32768) : IntKind.i16.wrap x = x := by
  simp only [IntKind.wrap, IntKind.signed, IntKind.bits]; simp; omega

theorem ring_bd (k : Int) : 0 ≤ ring k ∧ ring k ≤ 64 := by
  unfold ring devSize; (repeat' split) <;> omega
theorem place_bd (k n : Int) : 0 ≤ place k n ∧ (ring k ≠ 0 → place k n < ring k) ∧ place k n < 64 := by
  have := ring_bd k
  unfold place
  split
  · simp; omega
  · have h1 := Int.emod_nonneg n (b := ring k) (by omega)
    have h2 := Int.emod_lt_of_pos n (b := ring k) (by omega)
    omega
theorem place_tmod {n s : Int} (hs : 0 < s) : (n.tmod s + s).tmod s = n % s := by
  have h1 : 0 ≤ n.tmod s + s := by
    have := Int.lt_tmod_of_pos n hs; omega
  rw [Int.tmod_eq_emod_of_nonneg h1, Int.add_emod_right, Int.tmod_def, Int.sub_mul_emod_self_left]

theorem devSize_tab {k : Int} (h1 : 1 ≤ k) (h2 : k ≤ 10) : 0 ≤ IntKind.i64.wrap (k - 1) ∧ IntKind.i64.wrap (k - 1) < 10 ∧
    [Value.int .i64 32, .int .i64 32, .int .i64 64, .int .i64 16, .int .i64 32, .int .i64 5, .int .i64 16, .int .i64 16, .int .i64 32, .int .i64 16][(IntKind.i64.wrap (k - 1)).toNat]? = some (.int .i64 (devSize k)) := by
  rw [wrap_i64 (by omega) (by omega)]
  refine ⟨by omega, by omega, ?_⟩
  obtain rfl | rfl | rfl | rfl | rfl | rfl | rfl | rfl | rfl | rfl : k = 1 ∨ k = 2 ∨ k = 3 ∨ k = 4 ∨ k = 5 ∨ k = 6 ∨ k = 7 ∨ k = 8 ∨ k = 9 ∨ k = 10 := by omega
  all_goals rfl
theorem devSize_out {k : Int} (h : k < 1 ∨ 10 < k) : devSize k = 0 := by
  unfold devSize; (repeat' split) <;> omega
theorem devSize_pos {k : Int} (h1 : 1 ≤ k) (h2 : k ≤ 10) : 0 < devSize k ∧ devSize k ≤ 64 := by
  unfold devSize; (repeat' split) <;> omega
theorem ring_pos {k : Int} (h1 : 1 ≤ k) (h2 : k ≤ 10) : 0 < ring k := by
  have := devSize_pos h1 h2
  unfold ring; split <;> omega
theorem place_eq {k n : Int} (h1 : 1 ≤ k) (h2 : k ≤ 10) : (IntKind.i64.wrap (n.tmod (ring k) + ring k)).tmod (ring k) = place k n := by
  have h := ring_pos h1 h2
  have hb := ring_bd k
  have h3 := Int.lt_tmod_of_pos n h
  have h4 := Int.tmod_lt_of_pos n h
  rw [wrap_i64 (by omega) (by omega), place_tmod h]
  unfold place; rw [if_neg (by omega)]

theorem place_two {k n : Int} (h : ring k ≠ 0) : (n.tmod (ring k) < 0 → IntKind.i64.wrap (n.tmod (ring k) + ring k) = place k n) ∧ (0 ≤ n.tmod (ring k) → n.tmod (ring k) = place k n) := by
  have hb := ring_bd k
  have h3 := Int.lt_tmod_of_pos n (b := ring k) (by omega)
  have h4 := Int.tmod_lt_of_pos n (b := ring k) (by omega)
  have e := place_tmod (n := n) (s := ring k) (by omega)
  have hp : place k n = n % ring k := by unfold place; rw [if_neg h]
  refine ⟨fun hn => ?_, fun hn => ?_⟩
  · rw [wrap_i64 (by omega) (by omega), hp, ← e, Int.tmod_eq_emod_of_nonneg (by omega : 0 ≤ n.tmod (ring k) + ring k), Int.emod_eq_of_lt (by omega) (by omega)]
  · rw [hp, ← e, Int.tmod_eq_emod_of_nonneg (by omega : 0 ≤ n.tmod (ring k) + ring k), Int.add_emod_right, Int.emod_eq_of_lt hn h4]

theorem and_one (n : Nat) : n &&& 1 = n % 2 := Nat.and_one_is_mod n

theorem bit_k {k : IntKind} {x p : Int} {b : Nat} (hk : k.bits = b) (hw : k.wrap 0 = 0 ∧ k.wrap 1 = 1) (h1 : 1 % 2 ^ b = 1) (hx : 0 ≤ x) (hx2 : x < 2 ^ b) (hp : 0 ≤ p) (hpb : p < b) (hp64 : p < 64) :
    (k.wrap ↑((x.fdiv (2 ^ min (IntKind.u64.wrap p).toNat k.bits) % 2 ^ k.bits).toNat &&& 1 % 2 ^ k.bits) == 1) = bitOf x p.toNat := by
  rw [hk, h1, and_one, wrap_u64 hp (by omega), show min p.toNat b = p.toNat by omega, Int.fdiv_eq_ediv_of_nonneg x (Int.pow_nonneg (by decide))]
  have hq : 0 ≤ x / 2 ^ p.toNat := Int.ediv_nonneg hx (Int.pow_nonneg (by decide))
  have hq2 : x / 2 ^ p.toNat < 2 ^ b := Int.lt_of_le_of_lt (Int.ediv_le_self _ hx) hx2
  rw [Int.emod_eq_of_lt hq hq2]
  unfold bitOf
  have e : ((x / 2 ^ p.toNat).toNat % 2 = 1) ↔ (x / 2 ^ p.toNat % 2 = 1) := by omega
  rcases Nat.mod_two_eq_zero_or_one (x / 2 ^ p.toNat).toNat with h | h
  · rw [h]
    have : ¬ (x / 2 ^ p.toNat % 2 = 1) := by omega
    simp [hw.1, this]
  · rw [h]
    have : x / 2 ^ p.toNat % 2 = 1 := by omega
    simp [hw.2, this]
theorem bit_u32 {x p : Int} (hx : 0 ≤ x ∧ x < 4294967296) (hp : 0 ≤ p) (hpb : p < 32) :
    (IntKind.u32.wrap ↑((x.fdiv (2 ^ min (IntKind.u64.wrap p).toNat IntKind.u32.bits) % 2 ^ IntKind.u32.bits).toNat &&& 1 % 2 ^ IntKind.u32.bits) == 1) = bitOf x p.toNat :=
  bit_k rfl ⟨rfl, rfl⟩ (by decide) hx.1 hx.2 hp hpb (by omega)
theorem bit_u64 {x p : Int} (hx : 0 ≤ x ∧ x < 18446744073709551616) (hp : 0 ≤ p) (hpb : p < 64) :
    (IntKind.u64.wrap ↑((x.fdiv (2 ^ min (IntKind.u64.wrap p).toNat IntKind.u64.bits) % 2 ^ IntKind.u64.bits).toNat &&& 1 % 2 ^ IntKind.u64.bits) == 1) = bitOf x p.toNat :=
  bit_k rfl ⟨rfl, rfl⟩ (by decide) hx.1 hx.2 hp hpb (by omega)
theorem bit_u16 {x p : Int} (hx : 0 ≤ x ∧ x < 65536) (hp : 0 ≤ p) (hpb : p < 16) :
    (IntKind.u16.wrap ↑((x.fdiv (2 ^ min (IntKind.u64.wrap p).toNat IntKind.u16.bits) % 2 ^ IntKind.u16.bits).toNat &&& 1 % 2 ^ IntKind.u16.bits) == 1) = bitOf x p.toNat :=
  bit_k rfl ⟨rfl, rfl⟩ (by decide) hx.1 hx.2 hp hpb (by omega)

theorem ring_lits : ring 1 = 32 ∧ ring 2 = 32 ∧ ring 3 = 64 ∧ ring 4 = 16 ∧ ring 5 = 32 ∧ ring 6 = 8 ∧ ring 7 = 16 ∧ ring 8 = 16 ∧ ring 9 = 32 ∧ ring 10 = 16 := by decide
theorem place_lt (n : Int) : place 1 n < 32 ∧ place 2 n < 32 ∧ place 3 n < 64 ∧ place 4 n < 16 ∧ place 5 n < 32 ∧ place 6 n < 8 ∧ place 7 n < 16 ∧ place 8 n < 16 ∧ place 9 n < 32 ∧ place 10 n < 16 := by
  obtain ⟨r1, r2, r3, r4, r5, r6, r7, r8, r9, r10⟩ := ring_lits
  have p1 := (place_bd 1 n).2.1; have p2 := (place_bd 2 n).2.1; have p3 := (place_bd 3 n).2.1; have p4 := (place_bd 4 n).2.1; have p5 := (place_bd 5 n).2.1
  have p6 := (place_bd 6 n).2.1; have p7 := (place_bd 7 n).2.1; have p8 := (place_bd 8 n).2.1; have p9 := (place_bd 9 n).2.1; have p10 := (place_bd 10 n).2.1
  omega

theorem nat_put (X b j c : Nat) (hX : X < 2 ^ b) (hj : j < b) (hc : c ≤ 1) : (X &&& (2 ^ b - 1 - 2 ^ j)) ||| (c * 2 ^ j) = X - X / 2 ^ j % 2 * 2 ^ j + c * 2 ^ j := by
  have hp : 0 < 2 ^ j := Nat.two_pow_pos j
  have e1 : X = 2 ^ j * (X / 2 ^ j) + X % 2 ^ j := (Nat.div_add_mod X (2 ^ j)).symm
  have hl : X % 2 ^ j < 2 ^ j := Nat.mod_lt _ hp
  have e2 : X / 2 ^ j = 2 * (X / 2 ^ j / 2) + X / 2 ^ j % 2 := by omega
  have hr : X - X / 2 ^ j % 2 * 2 ^ j + c * 2 ^ j = 2 ^ j * (2 * (X / 2 ^ j / 2) + c) + X % 2 ^ j := by
    have : 2 ^ j * (X / 2 ^ j) = 2 ^ j * (2 * (X / 2 ^ j / 2)) + X / 2 ^ j % 2 * 2 ^ j := by
      conv => lhs; rw [e2]
      rw [Nat.mul_add, Nat.mul_comm (2 ^ j) (X / 2 ^ j % 2)]
    rw [Nat.mul_add, Nat.mul_comm (2 ^ j) c]
    omega
  rw [hr]
  apply Nat.eq_of_testBit_eq
  intro i
  have hm : 2 ^ b - 1 - 2 ^ j = 2 ^ b - (2 ^ j + 1) := by omega
  have hjb : 2 ^ j < 2 ^ b := Nat.pow_lt_pow_right (by omega) hj
  rw [Nat.testBit_or, Nat.testBit_and, hm, Nat.testBit_two_pow_sub_succ hjb, Nat.testBit_two_pow_mul_add _ hl]
  have hcb : (c * 2 ^ j).testBit i = (decide (c = 1) && decide (i = j)) := by
    have : c = 0 ∨ c = 1 := by omega
    rcases this with rfl | rfl
    · simp
    · simp [Nat.testBit_two_pow]; omega
  have hxb : X.testBit i = if i < j then (X % 2 ^ j).testBit i else (X / 2 ^ j).testBit (i - j) := by
    conv => lhs; rw [e1]
    rw [Nat.testBit_two_pow_mul_add _ hl]
  rw [hcb, Nat.testBit_two_pow]
  by_cases h1 : i < j
  · rw [hxb, if_pos h1, if_pos h1]
    have : i < b := by omega
    have h2 : ¬ i = j := by omega
    have h3 : ¬ j = i := by omega
    simp [this, h2, h3]
  · rw [if_neg h1]
    by_cases h2 : i = j
    · subst h2
      have : c = 0 ∨ c = 1 := by omega
      rcases this with rfl | rfl <;> simp [Nat.testBit_zero] <;> omega
    · have h3 : ¬ j = i := by omega
      obtain ⟨d, rfl⟩ : ∃ d, i = j + d + 1 := ⟨i - j - 1, by omega⟩
      have hd : j + d + 1 - j = d + 1 := by omega
      rw [hxb, if_neg h1, hd, Nat.testBit_succ, Nat.testBit_succ]
      have hd2 : (2 * (X / 2 ^ j / 2) + c) / 2 = X / 2 ^ j / 2 := by omega
      rw [hd2]
      by_cases h4 : j + d + 1 < b
      · simp [h4, h2, h3]
      · have hz : (X / 2 ^ j / 2).testBit d = false := by
          have := Nat.testBit_lt_two_pow (x := X) (i := j + d + 1) (Nat.lt_of_lt_of_le hX (Nat.pow_le_pow_right (by omega) (by omega)))
          rw [hxb, if_neg h1, hd, Nat.testBit_succ] at this
          exact this
        simp [hz, h2]

theorem put_k {k : IntKind} {x p : Int} {b : Nat} {c : Bool} (hk : k.bits = b) (hw : ∀ y : Int, 0 ≤ y → y < 2 ^ b → k.wrap y = y) (hx : 0 ≤ x) (hx2 : x < 2 ^ b) (hp : 0 ≤ p) (hpb : p < b) (hp64 : p < 64) {cc : Int} (hcc : cc = if c then 1 else 0) :
    k.wrap ↑((k.wrap ↑((x % 2 ^ k.bits).toNat &&& 2 ^ k.bits - 1 - (k.wrap (2 ^ min (IntKind.u64.wrap p).toNat k.bits) % 2 ^ k.bits).toNat) % 2 ^ k.bits).toNat |||
      (k.wrap (cc * 2 ^ min (IntKind.u64.wrap p).toNat k.bits) % 2 ^ k.bits).toNat) = putBit x p.toNat c := by
  obtain ⟨X, rfl⟩ := Int.eq_ofNat_of_zero_le hx
  obtain ⟨j, rfl⟩ := Int.eq_ofNat_of_zero_le hp
  have hcn : ∃ n : Nat, cc = n ∧ n ≤ 1 ∧ n = (if c then 1 else 0) := by
    cases c <;> simp at hcc <;> subst hcc
    · exact ⟨0, rfl, by omega, rfl⟩
    · exact ⟨1, rfl, by omega, rfl⟩
  obtain ⟨n, rfl, hn, hnc⟩ := hcn
  have hX : X < 2 ^ b := by exact_mod_cast hx2
  have hjb : j < b := by omega
  have hj2 : (2 : Nat) ^ j < 2 ^ b := Nat.pow_lt_pow_right (by omega) hjb
  have hA : X &&& (2 ^ b - 1 - 2 ^ j) < 2 ^ b := Nat.lt_of_le_of_lt Nat.and_le_left hX
  have hnj : n * 2 ^ j < 2 ^ b := by
    have : n = 0 ∨ n = 1 := by omega
    rcases this with rfl | rfl
    · have := Nat.two_pow_pos b; omega
    · omega
  have key := nat_put X b j n hX hjb hn
  have hlt : (X &&& (2 ^ b - 1 - 2 ^ j)) ||| (n * 2 ^ j) < 2 ^ b := Nat.or_lt_two_pow hA hnj
  have hle : X / 2 ^ j % 2 * 2 ^ j ≤ X := Nat.le_trans (Nat.mul_le_mul_right _ (Nat.mod_le _ _)) (Nat.div_mul_le_self X (2 ^ j))
  rw [hk, wrap_u64 (by omega) (by omega), show min (j : Int).toNat b = j by omega]
  have c1 : ((2 : Int) ^ j) = ((2 ^ j : Nat) : Int) := by push_cast; rfl
  have c2 : ((2 : Int) ^ b) = ((2 ^ b : Nat) : Int) := by push_cast; rfl
  have hbit : ((X : Int) / 2 ^ (j : Int).toNat % 2 = 1) ↔ (X / 2 ^ j % 2 = 1) := by
    rw [show ((j : Int).toNat) = j by omega, c1]
    generalize 2 ^ j = J
    omega
  unfold putBit bitOf
  simp only [hbit]
  rw [show ((j : Int).toNat) = j by omega]
  rw [c1, c2]
  rw [c2] at hw hx2
  have hnJ : (n : Int) * ((2 ^ j : Nat) : Int) = ((n * 2 ^ j : Nat) : Int) := by push_cast; rfl
  rw [hnJ]
  generalize hn2 : n * 2 ^ j = NJ at *
  have hn3 : NJ = n * 2 ^ j := hn2.symm
  generalize 2 ^ j = J at *
  generalize 2 ^ b = B at *
  rw [hw (J : Int) (by omega) (by omega)]
  have m1 : ((J : Int) % (B : Int)).toNat = J := by rw [Int.emod_eq_of_lt (by omega) (by omega)]; omega
  have m2 : ((X : Int) % (B : Int)).toNat = X := by rw [Int.emod_eq_of_lt (by omega) (by omega)]; omega
  rw [m1, m2]
  generalize hY : X &&& (B - 1 - J) = Y at *
  rw [hw (Y : Int) (by omega) (by omega)]
  have m3 : ((Y : Int) % (B : Int)).toNat = Y := by rw [Int.emod_eq_of_lt (by omega) (by omega)]; omega
  rw [m3, hw (NJ : Int) (by omega) (by omega)]
  have m4 : ((NJ : Int) % (B : Int)).toNat = NJ := by rw [Int.emod_eq_of_lt (by omega) (by omega)]; omega
  rw [m4]
  generalize hZ : Y ||| NJ = Z at *
  rw [hw (Z : Int) (by omega) (by omega)]
  rcases Nat.mod_two_eq_zero_or_one (X / J) with h | h <;> rw [h] at hle key ⊢ <;> cases c <;> simp at hnc <;> subst hnc <;> simp at key hn3 ⊢ <;> omega
theorem putBit_nat {X b j : Nat} {c : Bool} (hX : X < 2 ^ b) (hj : j < b) : putBit (X : Int) j c = (((X &&& (2 ^ b - 1 - 2 ^ j)) ||| ((if c then 1 else 0) * 2 ^ j) : Nat) : Int) := by
  have hn : (if c then 1 else 0) ≤ 1 := by cases c <;> simp
  rw [nat_put X b j _ hX hj hn]
  have c1 : ((2 : Int) ^ j) = ((2 ^ j : Nat) : Int) := by push_cast; rfl
  have hle : X / 2 ^ j % 2 * 2 ^ j ≤ X := Nat.le_trans (Nat.mul_le_mul_right _ (Nat.mod_le _ _)) (Nat.div_mul_le_self X (2 ^ j))
  unfold putBit bitOf
  rw [c1]
  generalize 2 ^ j = J at *
  have hbit : ((X : Int) / (J : Int) % 2 = 1) ↔ (X / J % 2 = 1) := by omega
  simp only [hbit]
  rcases Nat.mod_two_eq_zero_or_one (X / J) with h | h <;> rw [h] at hle ⊢ <;> cases c <;> simp at hle ⊢ <;> omega
theorem putBit_bd {x : Int} {b j : Nat} {c : Bool} (hx : 0 ≤ x) (hx2 : x < 2 ^ b) (hj : j < b) : 0 ≤ putBit x j c ∧ putBit x j c < 2 ^ b := by
  obtain ⟨X, rfl⟩ := Int.eq_ofNat_of_zero_le hx
  have hX : X < 2 ^ b := by exact_mod_cast hx2
  rw [putBit_nat hX hj]
  have hA : X &&& (2 ^ b - 1 - 2 ^ j) < 2 ^ b := Nat.lt_of_le_of_lt Nat.and_le_left hX
  have hj2 : (2 : Nat) ^ j < 2 ^ b := Nat.pow_lt_pow_right (by omega) hj
  have hn : (if c then 1 else 0) * 2 ^ j < 2 ^ b := by
    cases c
    · simpa using Nat.two_pow_pos b
    · simpa using hj2
  have := Nat.or_lt_two_pow hA hn
  exact ⟨by omega, by exact_mod_cast this⟩
theorem memPut_ok {m : M} {k n : Int} {b : Bool} (h : MOk m) : MOk (memPut m k n b) := by
  obtain ⟨l1, l2, l3, l4, l5, l6, l7, l8, l9, l10⟩ := place_lt n
  have hb := fun k => (place_bd k n).1
  unfold memPut
  (repeat' split)
  · subst k; have := putBit_bd (b := 32) (j := (place 2 n).toNat) (c := b) h.Y.1 (by have := h.Y.2; omega) (by have := hb 2; omega)
    exact ⟨h.X, ⟨this.1, by have := this.2; simp only; omega⟩, h.Mw, h.S, h.E, h.T, h.C, h.D, h.R, h.Time⟩
  · subst k; have := putBit_bd (b := 64) (j := (place 3 n).toNat) (c := b) h.Mw.1 (by have := h.Mw.2; omega) (by have := hb 3; omega)
    exact ⟨h.X, h.Y, ⟨this.1, by have := this.2; simp only; omega⟩, h.S, h.E, h.T, h.C, h.D, h.R, h.Time⟩
  · subst k; have := putBit_bd (b := 16) (j := (place 4 n).toNat) (c := b) h.S.1 (by have := h.S.2; omega) (by have := hb 4; omega)
    exact ⟨h.X, h.Y, h.Mw, ⟨this.1, by have := this.2; simp only; omega⟩, h.E, h.T, h.C, h.D, h.R, h.Time⟩
  · subst k; have := putBit_bd (b := 32) (j := (place 5 n).toNat) (c := b) h.E.1 (by have := h.E.2; omega) (by have := hb 5; omega)
    exact ⟨h.X, h.Y, h.Mw, h.S, ⟨this.1, by have := this.2; simp only; omega⟩, h.T, h.C, h.D, h.R, h.Time⟩
  · exact h
theorem wrap_u32_bd (x : Int) : 0 ≤ IntKind.u32.wrap x ∧ IntKind.u32.wrap x < 4294967296 := by
  simp only [IntKind.wrap, IntKind.signed, IntKind.bits]; simp; omega
structure MSame (a b : M) : Prop where
  X : a.X = b.X
  Y : a.Y = b.Y
  Mw : a.M = b.M
  S : a.S = b.S
  E : a.E = b.E
  T : a.T = b.T
  C : a.C = b.C
  D : a.D = b.D
  R : ∀ k, k < 16 → sameF (a.R k) (b.R k)
  Time : a.Time = b.Time
  Ran : a.Ran = b.Ran
  Fault : a.Fault = b.Fault
theorem MSame_refl (a : M) : MSame a a := ⟨rfl, rfl, rfl, rfl, rfl, rfl, rfl, rfl, fun k _ => sameF_refl _, rfl, rfl, rfl⟩

end Go.Sx
