/-
  How the arguments of the laws are opened. Conditions: none.
-/
import Derived.Test.YtooiepddaclbgaaFacts
import Derived.Test.YtooiepddaclbgaaR
set_option linter.unusedVariables false
set_option linter.unusedSimpArgs false
set_option maxRecDepth 100000
namespace Go.Proofs.Ytooiepddaclbgaa
open Go Go.Sx Go.ChangeShapes Go.WideShapes Go.ChangeAt Go.RowKit

theorem own : ownKnob Try.prog.godebug = none := by kernel_rfl
theorem laidOut : laidOutB Try.prog = true := by kernel_rfl

theorem openMem {w : World} {r : Reach} {base : Nat} {v : Value} (h : Value.okWide Try.prog w r base 36 v) : ∃ m, v = .agg (cells m) ∧ MOk m := by
  obtain ⟨cs, rfl, hl, hc⟩ := open_cells (ks := memK) (by kernel_rfl) (by kernel_rfl) (by kernel_rfl) h
  obtain ⟨m, rfl, hm⟩ := mem_open hl hc
  exact ⟨m, rfl, hm⟩
theorem openDev {w : World} {r : Reach} {base : Nat} {v : Value} (h : Value.okWide Try.prog w r base 47 v) : ∃ k n p, v = .agg #[.int .i64 k, .int .i64 n, .int .i64 p] ∧
    (-9223372036854775808 ≤ k ∧ k ≤ 9223372036854775807) ∧ (-9223372036854775808 ≤ n ∧ n ≤ 9223372036854775807) ∧ (-9223372036854775808 ≤ p ∧ p ≤ 9223372036854775807) := by
  obtain ⟨cs, rfl, hl, hc⟩ := open_cells (ks := [.int .i64, .int .i64, .int .i64]) (by kernel_rfl) (by kernel_rfl) (by kernel_rfl) h
  obtain ⟨k, n, p, rfl, hk⟩ := dev_open hl hc
  exact ⟨k, n, p, rfl, hk⟩

theorem openSample {w : World} {r : Reach} {base : Nat} {v : Value} (h : Value.okWide Try.prog w r base 57 v) : ∃ x t f, v = .agg (sampleL x t f).toArray ∧ (0 ≤ x ∧ x < 4294967296) ∧ (0 ≤ t ∧ t < 65536) ∧ ∀ k, k < 4 → f k < 18446744073709551616 := by
  obtain ⟨cs, rfl, hl, hc⟩ := open_cells (ks := [.int .u32, .int .u16, .f64, .f64, .f64, .f64]) (by kernel_rfl) (by kernel_rfl) (by kernel_rfl) h
  obtain ⟨x, t, f, rfl, hk⟩ := sample_open hl hc
  exact ⟨x, t, f, rfl, hk⟩
end Go.Proofs.Ytooiepddaclbgaa
