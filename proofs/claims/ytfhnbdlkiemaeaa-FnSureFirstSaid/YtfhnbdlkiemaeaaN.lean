/-
  Contracts: the real numbers of operands.
-/
import Derived.Test.YtfhnbdlkiemaeaaH
import Derived.Test.YtfhnbdlkiemaeaaK
import Derived.Laws.Externs
set_option linter.unusedVariables false
set_option linter.unusedSimpArgs false
set_option maxRecDepth 100000
set_option maxHeartbeats 4000000
namespace Go.Proofs.Ytfhnbdlkiemaeaa
open Go Go.Sx


theorem neg_inf : Op.negFloat FloatKind.f64 9218868437227405312 = 18442240474082181120 := by kernel_rfl
theorem neg_zero : Op.negFloat FloatKind.f64 0 = 9223372036854775808 := by kernel_rfl
theorem div_zero : FloatKind.f64.format.div 0 0 = none := by kernel_rfl
theorem div_one : FloatKind.f64.format.div 4607182418800017408 0 = some 9218868437227405312 := by kernel_rfl
theorem realArg_dec {n p : Int} {r : Nat} {t : Int} (hd : devOk 12 n p = true) (ht : (10 : Int) ^ p.toNat = t) (h : fRes FloatKind.f64 (FloatKind.f64.format.div (FloatKind.f64.nearest n) (FloatKind.f64.nearest t)) r) : realArgR 12 n p r := by
  unfold realArgR
  rw [if_pos hd, if_pos rfl, ht]; exact h
theorem realArg_word {n p : Int} {r : Nat} (hd : devOk 13 n p = true) (h : wordR n r) : realArgR 13 n p r := by
  unfold realArgR
  rw [if_pos hd, if_neg (by decide), if_pos rfl]; exact h
theorem realArg_none {k n p : Int} (h : devOk k n p = false ∨ (k ≠ 12 ∧ k ≠ 13)) : realArgR k n p 0 := by
  unfold realArgR
  rcases h with h | ⟨h1, h2⟩
  · rw [if_neg (by simp [h])]
  · rw [if_neg h1, if_neg h2]; simp
theorem dec_p {n p : Int} (hd : devOk 12 n p = true) : p = 1 ∨ p = 2 ∨ p = 3 ∨ p = 4 ∨ p = 5 ∨ p = 6 := by
  have := (devOk_iff 12 n p).1 hd
  omega
theorem word_n {n p : Int} (hd : devOk 13 n p = true) : n = 0 ∨ n = 1 ∨ n = 2 ∨ n = 3 := by
  have := (devOk_iff 13 n p).1 hd
  omega

end Go.Proofs.Ytfhnbdlkiemaeaa
