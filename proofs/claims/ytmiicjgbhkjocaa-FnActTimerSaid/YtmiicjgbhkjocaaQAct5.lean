/-
  A timer is done exactly when current has flowed for its preset time, for every code. Conditions: none.
-/
import Derived.Test.YtmiicjgbhkjocaaZt
import Derived.Test.YtmiicjgbhkjocaaO
set_option linter.unusedVariables false
set_option linter.unusedSimpArgs false
set_option maxRecDepth 100000
namespace Go.Proofs.Ytmiicjgbhkjocaa
open Go Go.Sx Go.ChangeShapes Go.WideShapes Go.ChangeAt Go.RowKit

theorem fnActTimer_lifted (os : Os) (started : os.Started) (H : Type) (enc : TypeId × Value → H) :
    ReturnsInHanded {} Try.checked os 8 .any (Rows.fnActTimerSpec.pre6 enc Try.prog Try.f8 Rows.fnActTimerRow.domain false) (Rows.fnActTimerSpec.post enc Try.prog Try.f8 false true false false) := by
  refine lifted_of_walk (C := Try.checked) (tb := 4) own started (by kernel_rfl) Try.func8
    (ChangeSpec.witness6 (enc := enc) (C := Try.checked) false ⟨#[], #[.slice none 0 0], []⟩ 12 (by kernel_rfl) (by kernel_rfl) (by kernel_rfl) (by kernel_rfl))
    laidOut (by kernel_rfl) rfl rfl (by kernel_rfl) (fun ds hd => ?_) (fun W base args hsz hval htr => ?_)
  · match ds, hd with
    | [d0], _ => rfl
  · obtain ⟨a0, rfl⟩ : ∃ a0, args = #[a0] := by
      obtain ⟨l⟩ := args
      match l, hsz with
      | [a0], _ => exact ⟨a0, rfl⟩
    obtain ⟨o, cap, bs, rfl, h_o⟩ := openBytes (hval 0 _ a0 rfl rfl) (htr 0 _ a0 rfl rfl)
    exact lawActTimerC_c o cap bs W (by rw [factF_init]; exact ⟨h_o.1, by have := h_o.2.2.1; have := h_o.2.2.2; unfold maxLen at this; omega, h_o.2.1⟩)

theorem fnActTimer_j0 : Rows.fnActTimerRow.wf (OpenSpec.ofChange Rows.fnActTimerSpec) = true := by kernel_rfl
theorem fnActTimer_j3 : (Try.f8.params.all (Try.prog.readableRec ·) && namedTie Try.prog Rows.fnActTimerRow.named Rows.fnActTimerSpec.vars && (Rows.fnActTimerRow.stops == []) && (Try.prog.stops == []) && (Rows.fnActTimerRow.knobs == []) && (Try.prog.stopKnobs == [])) = true := by kernel_rfl
theorem fnActTimer_j9 : (Rows.fnActTimerRow.inPlace == Try.prog.inPlace 8) = true := by kernel_rfl
theorem fnActTimer_j10 : (Rows.fnActTimerRow.unfollowed == Try.prog.unfollowed 8) = true := by kernel_rfl
theorem fnActTimer_j11 : (Rows.fnActTimerRow.recurses == Try.prog.recurses 8) = true := by kernel_rfl
theorem fnActTimer_j12 : (Rows.fnActTimerRow.named == Try.prog.varsNamed 8) = true := by kernel_rfl
theorem fnActTimer_closed : joinedFacts Try.prog 8 Try.f8 Rows.fnActTimerSpec Rows.fnActTimerRow = true :=
  joined_of fnActTimer_j0 fxLaid fxMaps fnActTimer_j3 fnActTimer_j9 fnActTimer_j10 fnActTimer_j11 fnActTimer_j12 (by kernel_rfl) (Eq.trans (by kernel_rfl) fxKeys) (by kernel_rfl) fxHeard fxEnter (Eq.trans (by rfl) fxLifts) (Eq.trans (by rfl) fxMake) (by kernel_rfl)
theorem fnActTimer_holds : Rows.FnActTimerSaid :=
  OpenClaim.holds_of_wide 8 Try.f8 rfl rfl rfl rfl rfl rfl rfl ⟨rfl, rfl, rfl, rfl, rfl⟩ rfl rfl rfl rfl rfl (by kernel_rfl) Try.func8 fnActTimer_closed
    (of_decide_eq_true (by kernel_rfl)) (by unfold Func.isWrapper; first | (rw [if_pos (by decide +kernel)]; kernel_rfl) | (rw [if_neg (by decide +kernel)]; exact ⟨rfl, rfl⟩))
    (fun os started H enc _ => fnActTimer_lifted os started H enc)
end Go.Proofs.Ytmiicjgbhkjocaa
