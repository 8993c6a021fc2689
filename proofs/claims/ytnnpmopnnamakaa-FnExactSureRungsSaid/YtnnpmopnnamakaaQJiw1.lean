/-
  The program's SureRungs returns what the reference's returns, for all arguments. Conditions: none.
-/
import Derived.Test.YtnnpmopnnamakaaJiw1
import Derived.Test.YtnnpmopnnamakaaOw1
set_option linter.unusedVariables false
set_option linter.unusedSimpArgs false
set_option maxRecDepth 100000
namespace Go.Proofs.Ytnnpmopnnamakaa
open Go Go.Sx Go.ChangeShapes Go.WideShapes Go.ChangeAt Go.RowKit

theorem fnExactSureRungs_lifted (os : Os) (started : os.Started) (H : Type) (enc : TypeId × Value → H) :
    ReturnsInHanded {} Try.checked os 3 .any (Rows.fnExactSureRungsSpec.pre6 enc Try.prog Try.f3 Rows.fnExactSureRungsRow.domain false) (Rows.fnExactSureRungsSpec.post enc Try.prog Try.f3 false true false false) := by
  refine lifted_of_walk (C := Try.checked) (tb := 4) own started (by kernel_rfl) Try.func3
    (ChangeSpec.witness6 (enc := enc) (C := Try.checked) false ⟨#[], #[.slice none 0 0], []⟩ 12 (by kernel_rfl) (by kernel_rfl) (by kernel_rfl) (by kernel_rfl))
    laidOut (by kernel_rfl) rfl rfl (by kernel_rfl) (fun ds hd => ?_) (fun W base args hsz hval htr => ?_)
  · match ds, hd with
    | [d0], _ => rfl
  · obtain ⟨a0, rfl⟩ : ∃ a0, args = #[a0] := by
      obtain ⟨l⟩ := args
      match l, hsz with
      | [a0], _ => exact ⟨a0, rfl⟩
    obtain ⟨o, cap, xs, rfl, h_o⟩ := openList (hval 0 _ a0 rfl rfl) (htr 0 _ a0 rfl rfl)
    exact lawSureRungsC_c o cap xs W (by rw [factF_init]; exact ⟨h_o.1, by have := h_o.2.1; have := h_o.2.2; unfold maxLen at this; omega⟩)

theorem fnExactSureRungs_j0 : Rows.fnExactSureRungsRow.wf (OpenSpec.ofChange Rows.fnExactSureRungsSpec) = true := by kernel_rfl
theorem fnExactSureRungs_j3 : (Try.f3.params.all (Try.prog.readableRec ·) && namedTie Try.prog Rows.fnExactSureRungsRow.named Rows.fnExactSureRungsSpec.vars && (Rows.fnExactSureRungsRow.stops == []) && (Try.prog.stops == []) && (Rows.fnExactSureRungsRow.knobs == []) && (Try.prog.stopKnobs == [])) = true := by kernel_rfl
theorem fnExactSureRungs_j9 : (Rows.fnExactSureRungsRow.inPlace == Try.prog.inPlace 3) = true := by kernel_rfl
theorem fnExactSureRungs_j10 : (Rows.fnExactSureRungsRow.unfollowed == Try.prog.unfollowed 3) = true := by kernel_rfl
theorem fnExactSureRungs_j11 : (Rows.fnExactSureRungsRow.recurses == Try.prog.recurses 3) = true := by kernel_rfl
theorem fnExactSureRungs_j12 : (Rows.fnExactSureRungsRow.named == Try.prog.varsNamed 3) = true := by kernel_rfl
theorem fnExactSureRungs_closed : joinedFacts Try.prog 3 Try.f3 Rows.fnExactSureRungsSpec Rows.fnExactSureRungsRow = true :=
  joined_of fnExactSureRungs_j0 fxLaid fxMaps fnExactSureRungs_j3 fnExactSureRungs_j9 fnExactSureRungs_j10 fnExactSureRungs_j11 fnExactSureRungs_j12 (by kernel_rfl) (Eq.trans (by kernel_rfl) fxKeys) (by kernel_rfl) fxHeard fxEnter (Eq.trans (by rfl) fxLifts) (Eq.trans (by rfl) fxMake) (by kernel_rfl)
theorem fnExactSureRungs_holds : Rows.FnExactSureRungsSaid :=
  OpenClaim.holds_of_wide 3 Try.f3 rfl rfl rfl rfl rfl rfl rfl ⟨rfl, rfl, rfl, rfl, rfl⟩ rfl rfl rfl rfl rfl (by kernel_rfl) Try.func3 fnExactSureRungs_closed
    (of_decide_eq_true (by kernel_rfl)) (by unfold Func.isWrapper; first | (rw [if_pos (by decide +kernel)]; kernel_rfl) | (rw [if_neg (by decide +kernel)]; exact ⟨rfl, rfl⟩))
    (fun os started H enc _ => fnExactSureRungs_lifted os started H enc)
end Go.Proofs.Ytnnpmopnnamakaa
