/-
  What devices, operands and bits are, as plain functions. Plain Lean: nothing of a program stands here. Conditions: none.
-/
import Derived.Test.YtclbanhoiaieaaaGreatDoorSxva
import Derived.Test.YtclbanhoiaieaaaGreatDoorMva
import Derived.KernelRfl
import Derived.Laws.FloatBits
set_option linter.unusedVariables false
set_option linter.unusedSimpArgs false
set_option maxRecDepth 100000
namespace Go.Sx
open Go

abbrev dbl : Ieee.Format := Ieee.double
def isNan (x : Nat) : Bool := (dbl.read x).isNaN
def sameF (a b : Nat) : Prop := (a = b ∧ isNan a = false) ∨ (isNan a = true ∧ isNan b = true)
theorem sameF_refl (a : Nat) : sameF a a := by
  unfold sameF; cases isNan a <;> simp

theorem consts : dbl.signWeight = 9223372036854775808 ∧ dbl.binade = 4503599627370496 ∧ dbl.infRung = 9218868437227405312 ∧ dbl.leastPlace = -1074 := by
  refine ⟨by kernel_rfl, by kernel_rfl, by kernel_rfl, by kernel_rfl⟩

end Go.Sx
namespace Go.Sx
open Go

def devSize (k : Int) : Int :=
  if k = 1 then 32 else if k = 2 then 32 else if k = 3 then 64 else if k = 4 then 16 else if k = 5 then 32 else if k = 6 then 5 else if k = 7 then 16 else if k = 8 then 16 else if k = 9 then 32 else if k = 10 then 16 else 0
def ring (k : Int) : Int := if k = 6 then 8 else devSize k
def place (k n : Int) : Int := if ring k = 0 then 0 else n % ring k
def bitOf (x : Int) (j : Nat) : Bool := decide (x / 2 ^ j % 2 = 1)
def given (m : M) (k : Int) : Bool := if k = 0 then true else if k = 2 then !m.Ran else if k = 3 then m.Fault else if k = 4 then decide (500 ≤ m.Time % 1000) else false
def putBit (x : Int) (j : Nat) (b : Bool) : Int := if bitOf x j = b then x else if b then x + 2 ^ j else x - 2 ^ j
def devOk (k n p : Int) : Bool :=
  decide ((1 ≤ k ∧ k ≤ 10 ∧ 0 ≤ n ∧ n < devSize k ∧ p = 0) ∨ (k = 11 ∧ -32768 ≤ n ∧ n ≤ 32767 ∧ p = 0) ∨
    (k = 12 ∧ -999999999 ≤ n ∧ n ≤ 999999999 ∧ 1 ≤ p ∧ p ≤ 6 ∧ (p = 1 ∨ n.tmod 10 ≠ 0)) ∨ (k = 13 ∧ 0 ≤ n ∧ n ≤ 3 ∧ p = 0))
theorem wrap_i64 {x : Int} (h1 : -9223372036854775808 ≤ x) (h2 : x ≤ 9223372036854775807) : IntKind.i64.wrap x = x := by
  simp only [IntKind.wrap, IntKind.signed, IntKind.bits]; simp; omega
theorem wrap_u64 {x : Int} (h1 : 0 ≤ x) (h2 : x < 18446744073709551616) : IntKind.u64.wrap x = x := by
  simp only [IntKind.wrap, IntKind.signed, IntKind.bits]; simp; omega
theorem wrap_u8 {x : Int} (h1 : 0 ≤ x) (h2 : x < 256) : IntKind.u8.wrap x = x := by
  simp only [IntKind.wrap, IntKind.signed, IntKind.bits]; simp; omega
theorem devSize_tab {k : Int} (h1 : 1 ≤ k) (h2 : k ≤ 10) : 0 ≤ IntKind.i64.wrap (k - 1) ∧ IntKind.i64.wrap (k - 1) < 10 ∧
    [Value.int .i64 32, .int .i64 32, .int .i64 64, .int .i64 16, .int .i64 32, .int .i64 5, .int .i64 16, .int .i64 16, .int .i64 32, .int .i64 16][(IntKind.i64.wrap (k - 1)).toNat]? = some (.int .i64 (devSize k)) := by
  rw [wrap_i64 (by omega) (by omega)]
  refine ⟨by omega, by omega, ?_⟩
  obtain rfl | rfl | rfl | rfl | rfl | rfl | rfl | rfl | rfl | rfl : k = 1 ∨ k = 2 ∨ k = 3 ∨ k = 4 ∨ k = 5 ∨ k = 6 ∨ k = 7 ∨ k = 8 ∨ k = 9 ∨ k = 10 := by omega
  all_goals rfl
theorem devSize_out {k : Int} (h : k < 1 ∨ 10 < k) : devSize k = 0 := by
  unfold devSize; (repeat' split) <;> omega
theorem devSize_pos {k : Int} (h1 : 1 ≤ k) (h2 : k ≤ 10) : 0 < devSize k ∧ devSize k ≤ 64 := by
  unfold devSize; (repeat' split) <;> omega
structure MSame (a b : M) : Prop where
  X : a.X = b.X
  Y : a.Y = b.Y
  Mw : a.M = b.M
  S : a.S = b.S
  E : a.E = b.E
  T : a.T = b.T
  C : a.C = b.C
  D : a.D = b.D
  R : ∀ k, k < 16 → sameF (a.R k) (b.R k)
  Time : a.Time = b.Time
  Ran : a.Ran = b.Ran
  Fault : a.Fault = b.Fault
theorem MSame_refl (a : M) : MSame a a := ⟨rfl, rfl, rfl, rfl, rfl, rfl, rfl, rfl, fun k _ => sameF_refl _, rfl, rfl, rfl⟩

end Go.Sx
