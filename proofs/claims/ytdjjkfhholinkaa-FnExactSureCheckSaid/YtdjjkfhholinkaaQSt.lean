/-
  The program's SureCheck returns what the reference's returns, for all arguments. Conditions: none.
-/
import Derived.Test.YtdjjkfhholinkaaSt
import Derived.Test.YtdjjkfhholinkaaO
set_option linter.unusedVariables false
set_option linter.unusedSimpArgs false
set_option maxRecDepth 100000
namespace Go.Proofs.Ytdjjkfhholinkaa
open Go Go.Sx Go.ChangeShapes Go.WideShapes Go.ChangeAt Go.RowKit

theorem fnExactSureCheck_lifted (os : Os) (started : os.Started) (H : Type) (enc : TypeId × Value → H) :
    ReturnsInHanded {} Try.checked os 7 .any (Rows.fnExactSureCheckSpec.pre6 enc Try.prog Try.f7 Rows.fnExactSureCheckRow.domain false) (Rows.fnExactSureCheckSpec.post enc Try.prog Try.f7 false true false false) := by
  refine lifted_of_walk (C := Try.checked) (tb := 4) own started (by kernel_rfl) Try.func7
    (ChangeSpec.witness6 (enc := enc) (C := Try.checked) false ⟨#[], #[.slice none 0 0], []⟩ 12 (by kernel_rfl) (by kernel_rfl) (by kernel_rfl) (by kernel_rfl))
    laidOut (by kernel_rfl) rfl rfl (by kernel_rfl) (fun ds hd => ?_) (fun W base args hsz hval htr => ?_)
  · match ds, hd with
    | [d0], _ => rfl
  · obtain ⟨a0, rfl⟩ : ∃ a0, args = #[a0] := by
      obtain ⟨l⟩ := args
      match l, hsz with
      | [a0], _ => exact ⟨a0, rfl⟩
    obtain ⟨o, cap, xs, rfl, h_o⟩ := openList (hval 0 _ a0 rfl rfl) (htr 0 _ a0 rfl rfl)
    exact lawSureCheckC_c o cap xs W (by rw [factF_init]; exact ⟨h_o.1, by have := h_o.2.1; have := h_o.2.2; unfold maxLen at this; omega⟩)

theorem fnExactSureCheck_holds : Rows.FnExactSureCheckSaid :=
  OpenClaim.holds_of_wide 7 Try.f7 rfl rfl rfl rfl rfl rfl rfl ⟨rfl, rfl, rfl, rfl, rfl⟩ rfl rfl rfl rfl rfl (by kernel_rfl) Try.func7 (by kernel_rfl)
    (of_decide_eq_true (by kernel_rfl)) (by unfold Func.isWrapper; first | (rw [if_pos (by decide +kernel)]; kernel_rfl) | (rw [if_neg (by decide +kernel)]; exact ⟨rfl, rfl⟩))
    (fun os started H enc _ => fnExactSureCheck_lifted os started H enc)
end Go.Proofs.Ytdjjkfhholinkaa
