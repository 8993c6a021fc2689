/-
  In each group exactly one step is active after a step coil, for all codes. Conditions: none.
-/
import Derived.Test.YtmiicjgbhkjocaaLd
import Derived.Test.YtmiicjgbhkjocaaO
set_option linter.unusedVariables false
set_option linter.unusedSimpArgs false
set_option maxRecDepth 100000
namespace Go.Proofs.Ytmiicjgbhkjocaa
open Go Go.Sx Go.ChangeShapes Go.WideShapes Go.ChangeAt Go.RowKit

theorem fnActStep_lifted (os : Os) (started : os.Started) (H : Type) (enc : TypeId × Value → H) :
    ReturnsInHanded {} Try.checked os 9 .any (Rows.fnActStepSpec.pre6 enc Try.prog Try.f9 Rows.fnActStepRow.domain false) (Rows.fnActStepSpec.post enc Try.prog Try.f9 false true false false) := by
  refine lifted_of_walk (C := Try.checked) (tb := 4) own started (by kernel_rfl) Try.func9
    (ChangeSpec.witness6 (enc := enc) (C := Try.checked) false ⟨#[], #[.slice none 0 0], []⟩ 12 (by kernel_rfl) (by kernel_rfl) (by kernel_rfl) (by kernel_rfl))
    laidOut (by kernel_rfl) rfl rfl (by kernel_rfl) (fun ds hd => ?_) (fun W base args hsz hval htr => ?_)
  · match ds, hd with
    | [d0], _ => rfl
  · obtain ⟨a0, rfl⟩ : ∃ a0, args = #[a0] := by
      obtain ⟨l⟩ := args
      match l, hsz with
      | [a0], _ => exact ⟨a0, rfl⟩
    obtain ⟨o, cap, bs, rfl, h_o⟩ := openBytes (hval 0 _ a0 rfl rfl) (htr 0 _ a0 rfl rfl)
    exact lawAStepC_c o cap bs W (by rw [factF_init]; exact ⟨h_o.1, h_o.2⟩)

theorem fnActStep_j0 : Rows.fnActStepRow.wf (OpenSpec.ofChange Rows.fnActStepSpec) = true := by kernel_rfl
theorem fnActStep_j3 : (Try.f9.params.all (Try.prog.readableRec ·) && namedTie Try.prog Rows.fnActStepRow.named Rows.fnActStepSpec.vars && (Rows.fnActStepRow.stops == []) && (Try.prog.stops == []) && (Rows.fnActStepRow.knobs == []) && (Try.prog.stopKnobs == [])) = true := by kernel_rfl
theorem fnActStep_j9 : (Rows.fnActStepRow.inPlace == Try.prog.inPlace 9) = true := by kernel_rfl
theorem fnActStep_j10 : (Rows.fnActStepRow.unfollowed == Try.prog.unfollowed 9) = true := by kernel_rfl
theorem fnActStep_j11 : (Rows.fnActStepRow.recurses == Try.prog.recurses 9) = true := by kernel_rfl
theorem fnActStep_j12 : (Rows.fnActStepRow.named == Try.prog.varsNamed 9) = true := by kernel_rfl
theorem fnActStep_closed : joinedFacts Try.prog 9 Try.f9 Rows.fnActStepSpec Rows.fnActStepRow = true :=
  joined_of fnActStep_j0 fxLaid fxMaps fnActStep_j3 fnActStep_j9 fnActStep_j10 fnActStep_j11 fnActStep_j12 (by kernel_rfl) (Eq.trans (by kernel_rfl) fxKeys) (by kernel_rfl) fxHeard fxEnter (Eq.trans (by rfl) fxLifts) (Eq.trans (by rfl) fxMake) (by kernel_rfl)
theorem fnActStep_holds : Rows.FnActStepSaid :=
  OpenClaim.holds_of_wide 9 Try.f9 rfl rfl rfl rfl rfl rfl rfl ⟨rfl, rfl, rfl, rfl, rfl⟩ rfl rfl rfl rfl rfl (by kernel_rfl) Try.func9 fnActStep_closed
    (of_decide_eq_true (by kernel_rfl)) (by unfold Func.isWrapper; first | (rw [if_pos (by decide +kernel)]; kernel_rfl) | (rw [if_neg (by decide +kernel)]; exact ⟨rfl, rfl⟩))
    (fun os started H enc _ => fnActStep_lifted os started H enc)
end Go.Proofs.Ytmiicjgbhkjocaa
