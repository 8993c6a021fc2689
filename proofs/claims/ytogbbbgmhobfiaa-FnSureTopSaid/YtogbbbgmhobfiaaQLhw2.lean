/-
  The verifier accepts a list exactly when both stacks stay within their bounds and the block grammar holds, for all codes. Conditions: none.
-/
import Derived.Test.YtogbbbgmhobfiaaLhw2
import Derived.Test.YtogbbbgmhobfiaaOw2
set_option linter.unusedVariables false
set_option linter.unusedSimpArgs false
set_option maxRecDepth 100000
namespace Go.Proofs.Ytogbbbgmhobfiaa
open Go Go.Sx Go.ChangeShapes Go.WideShapes Go.ChangeAt Go.RowKit

theorem fnSureTop_lifted (os : Os) (started : os.Started) (H : Type) (enc : TypeId × Value → H) :
    ReturnsInHanded {} Try.checked os 3 .any (Rows.fnSureTopSpec.pre6 enc Try.prog Try.f3 Rows.fnSureTopRow.domain false) (Rows.fnSureTopSpec.post enc Try.prog Try.f3 false true false false) := by
  refine lifted_of_walk (C := Try.checked) (tb := 4) own started (by kernel_rfl) Try.func3
    (ChangeSpec.witness6 (enc := enc) (C := Try.checked) false ⟨#[], #[.slice none 0 0], []⟩ 12 (by kernel_rfl) (by kernel_rfl) (by kernel_rfl) (by kernel_rfl))
    laidOut (by kernel_rfl) rfl rfl (by kernel_rfl) (fun ds hd => ?_) (fun W base args hsz hval htr => ?_)
  · match ds, hd with
    | [d0], _ => rfl
  · obtain ⟨a0, rfl⟩ : ∃ a0, args = #[a0] := by
      obtain ⟨l⟩ := args
      match l, hsz with
      | [a0], _ => exact ⟨a0, rfl⟩
    obtain ⟨o, cap, bs, rfl, h_o⟩ := openBytes (hval 0 _ a0 rfl rfl) (htr 0 _ a0 rfl rfl)
    exact lawSTopC_c o cap bs W (by rw [factF_init]; exact ⟨h_o.1, h_o.2⟩)

theorem fnSureTop_j0 : Rows.fnSureTopRow.wf (OpenSpec.ofChange Rows.fnSureTopSpec) = true := by kernel_rfl
theorem fnSureTop_j3 : (Try.f3.params.all (Try.prog.readableRec ·) && namedTie Try.prog Rows.fnSureTopRow.named Rows.fnSureTopSpec.vars && (Rows.fnSureTopRow.stops == []) && (Try.prog.stops == []) && (Rows.fnSureTopRow.knobs == []) && (Try.prog.stopKnobs == [])) = true := by kernel_rfl
theorem fnSureTop_j9 : (Rows.fnSureTopRow.inPlace == Try.prog.inPlace 3) = true := by kernel_rfl
theorem fnSureTop_j10 : (Rows.fnSureTopRow.unfollowed == Try.prog.unfollowed 3) = true := by kernel_rfl
theorem fnSureTop_j11 : (Rows.fnSureTopRow.recurses == Try.prog.recurses 3) = true := by kernel_rfl
theorem fnSureTop_j12 : (Rows.fnSureTopRow.named == Try.prog.varsNamed 3) = true := by kernel_rfl
theorem fnSureTop_closed : joinedFacts Try.prog 3 Try.f3 Rows.fnSureTopSpec Rows.fnSureTopRow = true :=
  joined_of fnSureTop_j0 fxLaid fxMaps fnSureTop_j3 fnSureTop_j9 fnSureTop_j10 fnSureTop_j11 fnSureTop_j12 (by kernel_rfl) (Eq.trans (by kernel_rfl) fxKeys) (by kernel_rfl) fxHeard fxEnter (Eq.trans (by rfl) fxLifts) (Eq.trans (by rfl) fxMake) (by kernel_rfl)
theorem fnSureTop_holds : Rows.FnSureTopSaid :=
  OpenClaim.holds_of_wide 3 Try.f3 rfl rfl rfl rfl rfl rfl rfl ⟨rfl, rfl, rfl, rfl, rfl⟩ rfl rfl rfl rfl rfl (by kernel_rfl) Try.func3 fnSureTop_closed
    (of_decide_eq_true (by kernel_rfl)) (by unfold Func.isWrapper; first | (rw [if_pos (by decide +kernel)]; kernel_rfl) | (rw [if_neg (by decide +kernel)]; exact ⟨rfl, rfl⟩))
    (fun os started H enc _ => fnSureTop_lifted os started H enc)
end Go.Proofs.Ytogbbbgmhobfiaa
