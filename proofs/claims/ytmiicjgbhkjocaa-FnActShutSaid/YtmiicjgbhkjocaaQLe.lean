/-
  Asking a contact never changes the memory, except for the history bit of an edge contact, for all codes. Conditions: none.
-/
import Derived.Test.YtmiicjgbhkjocaaLe
import Derived.Test.YtmiicjgbhkjocaaO
set_option linter.unusedVariables false
set_option linter.unusedSimpArgs false
set_option maxRecDepth 100000
namespace Go.Proofs.Ytmiicjgbhkjocaa
open Go Go.Sx Go.ChangeShapes Go.WideShapes Go.ChangeAt Go.RowKit

theorem fnActShut_lifted (os : Os) (started : os.Started) (H : Type) (enc : TypeId × Value → H) :
    ReturnsInHanded {} Try.checked os 10 .any (Rows.fnActShutSpec.pre6 enc Try.prog Try.f10 Rows.fnActShutRow.domain false) (Rows.fnActShutSpec.post enc Try.prog Try.f10 false true false false) := by
  refine lifted_of_walk (C := Try.checked) (tb := 4) own started (by kernel_rfl) Try.func10
    (ChangeSpec.witness6 (enc := enc) (C := Try.checked) false ⟨#[], #[.slice none 0 0], []⟩ 12 (by kernel_rfl) (by kernel_rfl) (by kernel_rfl) (by kernel_rfl))
    laidOut (by kernel_rfl) rfl rfl (by kernel_rfl) (fun ds hd => ?_) (fun W base args hsz hval htr => ?_)
  · match ds, hd with
    | [d0], _ => rfl
  · obtain ⟨a0, rfl⟩ : ∃ a0, args = #[a0] := by
      obtain ⟨l⟩ := args
      match l, hsz with
      | [a0], _ => exact ⟨a0, rfl⟩
    obtain ⟨o, cap, bs, rfl, h_o⟩ := openBytes (hval 0 _ a0 rfl rfl) (htr 0 _ a0 rfl rfl)
    exact lawAShutC_c o cap bs W (by rw [factF_init]; exact ⟨h_o.1, h_o.2⟩)

theorem fnActShut_j0 : Rows.fnActShutRow.wf (OpenSpec.ofChange Rows.fnActShutSpec) = true := by kernel_rfl
theorem fnActShut_j3 : (Try.f10.params.all (Try.prog.readableRec ·) && namedTie Try.prog Rows.fnActShutRow.named Rows.fnActShutSpec.vars && (Rows.fnActShutRow.stops == []) && (Try.prog.stops == []) && (Rows.fnActShutRow.knobs == []) && (Try.prog.stopKnobs == [])) = true := by kernel_rfl
theorem fnActShut_j9 : (Rows.fnActShutRow.inPlace == Try.prog.inPlace 10) = true := by kernel_rfl
theorem fnActShut_j10 : (Rows.fnActShutRow.unfollowed == Try.prog.unfollowed 10) = true := by kernel_rfl
theorem fnActShut_j11 : (Rows.fnActShutRow.recurses == Try.prog.recurses 10) = true := by kernel_rfl
theorem fnActShut_j12 : (Rows.fnActShutRow.named == Try.prog.varsNamed 10) = true := by kernel_rfl
theorem fnActShut_closed : joinedFacts Try.prog 10 Try.f10 Rows.fnActShutSpec Rows.fnActShutRow = true :=
  joined_of fnActShut_j0 fxLaid fxMaps fnActShut_j3 fnActShut_j9 fnActShut_j10 fnActShut_j11 fnActShut_j12 (by kernel_rfl) (Eq.trans (by kernel_rfl) fxKeys) (by kernel_rfl) fxHeard fxEnter (Eq.trans (by rfl) fxLifts) (Eq.trans (by rfl) fxMake) (by kernel_rfl)
theorem fnActShut_holds : Rows.FnActShutSaid :=
  OpenClaim.holds_of_wide 10 Try.f10 rfl rfl rfl rfl rfl rfl rfl ⟨rfl, rfl, rfl, rfl, rfl⟩ rfl rfl rfl rfl rfl (by kernel_rfl) Try.func10 fnActShut_closed
    (of_decide_eq_true (by kernel_rfl)) (by unfold Func.isWrapper; first | (rw [if_pos (by decide +kernel)]; kernel_rfl) | (rw [if_neg (by decide +kernel)]; exact ⟨rfl, rfl⟩))
    (fun os started H enc _ => fnActShut_lifted os started H enc)
end Go.Proofs.Ytmiicjgbhkjocaa
