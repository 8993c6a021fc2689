/-
  Contracts: memories that are drawn.
-/
import Derived.Test.YtfhnbdlkiemaeaaGe
import Derived.Test.YtfhnbdlkiemaeaaDo
import Derived.Test.YtfhnbdlkiemaeaaN
import Derived.Test.YtfhnbdlkiemaeaaI
set_option linter.unusedVariables false
set_option linter.unusedSimpArgs false
set_option maxRecDepth 100000
set_option maxHeartbeats 4000000
namespace Go.Proofs.Ytfhnbdlkiemaeaa
open Go Go.Sx

theorem near_lt (a : Int) : FloatKind.f64.nearest a < 18446744073709551616 := by
  have h := Ieee.Format.nearest_lt dbl (decide (a < 0)) a.natAbs 0
  have e : 2 ^ dbl.width = 18446744073709551616 := by decide
  rw [e] at h
  exact h
theorem fAdd_lt {a b r : Nat} (h : fRes .f64 (FloatKind.f64.format.add a b) r) : r < 18446744073709551616 := arith_lt.1 h
theorem fMul_lt {a b r : Nat} (h : fRes .f64 (FloatKind.f64.format.mul a b) r) : r < 18446744073709551616 := arith_lt.2.2.1 h
theorem fDiv_lt {a b r : Nat} (h : fRes .f64 (FloatKind.f64.format.div a b) r) : r < 18446744073709551616 := arith_lt.2.2.2 h
theorem wrap_u64_bd (x : Int) : 0 ≤ IntKind.u64.wrap x ∧ IntKind.u64.wrap x < 18446744073709551616 := by
  have h1 := Int.emod_nonneg x (b := 18446744073709551616) (by omega)
  have h2 := Int.emod_lt_of_pos x (b := 18446744073709551616) (by omega)
  simp only [IntKind.wrap, IntKind.signed, IntKind.bits]
  simp
  omega
theorem wrap_u16_bd (x : Int) : 0 ≤ IntKind.u16.wrap x ∧ IntKind.u16.wrap x < 65536 := by
  have h1 := Int.emod_nonneg x (b := 65536) (by omega)
  have h2 := Int.emod_lt_of_pos x (b := 65536) (by omega)
  simp only [IntKind.wrap, IntKind.signed, IntKind.bits]
  simp
  omega
end Go.Proofs.Ytfhnbdlkiemaeaa
namespace Go.Proofs.Ytfhnbdlkiemaeaa
open Go Go.Sx

theorem setD_ok {m : M} {j : Nat} {x : Int} (h : MOk m) (hx : -32768 ≤ x ∧ x < 32768) : MOk { m with D := upd m.D j x } := by
  refine ⟨h.X, h.Y, h.Mw, h.S, h.E, h.T, h.C, fun k hk => ?_, h.R, h.Time⟩
  simp only [upd]; split
  · exact hx
  · exact h.D k hk
theorem setR_ok {m : M} {j : Nat} {x : Nat} (h : MOk m) (hx : x < 18446744073709551616) : MOk { m with R := upd m.R j x } := by
  refine ⟨h.X, h.Y, h.Mw, h.S, h.E, h.T, h.C, h.D, fun k hk => ?_, h.Time⟩
  simp only [upd]; split
  · exact hx
  · exact h.R k hk
end Go.Proofs.Ytfhnbdlkiemaeaa
