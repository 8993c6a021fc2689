/-
  The program's ActTest returns what the reference's returns, for all arguments. Conditions: none.
-/
import Derived.Test.YteigfllcmdkboaaW
import Derived.Test.YteigfllcmdkboaaO
set_option linter.unusedVariables false
set_option linter.unusedSimpArgs false
set_option maxRecDepth 100000
namespace Go.Proofs.Yteigfllcmdkboaa
open Go Go.Sx Go.ChangeShapes Go.WideShapes Go.ChangeAt Go.RowKit

theorem fnExactActTest_lifted (os : Os) (started : os.Started) (H : Type) (enc : TypeId × Value → H) :
    ReturnsInHanded {} Try.checked os 7 .any (Rows.fnExactActTestSpec.pre6 enc Try.prog Try.f7 Rows.fnExactActTestRow.domain false) (Rows.fnExactActTestSpec.post enc Try.prog Try.f7 false true false false) := by
  refine lifted_of_walk (C := Try.checked) (tb := 4) own started (by kernel_rfl) Try.func7
    (ChangeSpec.witness6 (enc := enc) (C := Try.checked) false ⟨#[], #[.agg (cells zeroM), .agg #[.int .i64 0, .slice none 0 0]], []⟩ 12 (by kernel_rfl) (by kernel_rfl) (by kernel_rfl) (by kernel_rfl))
    laidOut (by kernel_rfl) rfl rfl (by kernel_rfl) (fun ds hd => ?_) (fun W base args hsz hval htr => ?_)
  · match ds, hd with
    | [d0, d1], _ => rfl
  · obtain ⟨a0, a1, rfl⟩ : ∃ a0 a1, args = #[a0, a1] := by
      obtain ⟨l⟩ := args
      match l, hsz with
      | [a0, a1], _ => exact ⟨a0, a1, rfl⟩
    obtain ⟨m, rfl, h_m⟩ := openMem (hval 0 _ a0 rfl rfl)
    obtain ⟨op, o, cap, xs, rfl, h_op⟩ := openElem (hval 1 _ a1 rfl rfl) (htr 1 _ a1 rfl rfl)
    exact lawActTestC_c m op o cap xs W (by rw [factF_init]; exact ⟨h_op.1, h_m, by have := h_op.2.1; have := h_op.2.2; unfold maxLen at this; omega⟩)

theorem fnExactActTest_holds : Rows.FnExactActTestSaid :=
  OpenClaim.holds_of_wide 7 Try.f7 rfl rfl rfl rfl rfl rfl rfl ⟨rfl, rfl, rfl, rfl, rfl⟩ rfl rfl rfl rfl rfl (by kernel_rfl) Try.func7 (by kernel_rfl)
    (of_decide_eq_true (by kernel_rfl)) (by unfold Func.isWrapper; first | (rw [if_pos (by decide +kernel)]; kernel_rfl) | (rw [if_neg (by decide +kernel)]; exact ⟨rfl, rfl⟩))
    (fun os started H enc _ => fnExactActTest_lifted os started H enc)
end Go.Proofs.Yteigfllcmdkboaa
