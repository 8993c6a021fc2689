/-
  A counter counts every rising edge exactly once, for every code. Conditions: none.
-/
import Derived.Test.YtmiicjgbhkjocaaZa
import Derived.Test.YtmiicjgbhkjocaaO
set_option linter.unusedVariables false
set_option linter.unusedSimpArgs false
set_option maxRecDepth 100000
namespace Go.Proofs.Ytmiicjgbhkjocaa
open Go Go.Sx Go.ChangeShapes Go.WideShapes Go.ChangeAt Go.RowKit

theorem fnActCount_lifted (os : Os) (started : os.Started) (H : Type) (enc : TypeId × Value → H) :
    ReturnsInHanded {} Try.checked os 7 .any (Rows.fnActCountSpec.pre6 enc Try.prog Try.f7 Rows.fnActCountRow.domain false) (Rows.fnActCountSpec.post enc Try.prog Try.f7 false true false false) := by
  refine lifted_of_walk (C := Try.checked) (tb := 4) own started (by kernel_rfl) Try.func7
    (ChangeSpec.witness6 (enc := enc) (C := Try.checked) false ⟨#[], #[.slice none 0 0], []⟩ 12 (by kernel_rfl) (by kernel_rfl) (by kernel_rfl) (by kernel_rfl))
    laidOut (by kernel_rfl) rfl rfl (by kernel_rfl) (fun ds hd => ?_) (fun W base args hsz hval htr => ?_)
  · match ds, hd with
    | [d0], _ => rfl
  · obtain ⟨a0, rfl⟩ : ∃ a0, args = #[a0] := by
      obtain ⟨l⟩ := args
      match l, hsz with
      | [a0], _ => exact ⟨a0, rfl⟩
    obtain ⟨o, cap, bs, rfl, h_o⟩ := openBytes (hval 0 _ a0 rfl rfl) (htr 0 _ a0 rfl rfl)
    exact lawActCountC_c o cap bs W (by rw [factF_init]; exact ⟨h_o.1, by have := h_o.2.2.1; have := h_o.2.2.2; unfold maxLen at this; omega, h_o.2.1⟩)

theorem fnActCount_j0 : Rows.fnActCountRow.wf (OpenSpec.ofChange Rows.fnActCountSpec) = true := by kernel_rfl
theorem fnActCount_j3 : (Try.f7.params.all (Try.prog.readableRec ·) && namedTie Try.prog Rows.fnActCountRow.named Rows.fnActCountSpec.vars && (Rows.fnActCountRow.stops == []) && (Try.prog.stops == []) && (Rows.fnActCountRow.knobs == []) && (Try.prog.stopKnobs == [])) = true := by kernel_rfl
theorem fnActCount_j9 : (Rows.fnActCountRow.inPlace == Try.prog.inPlace 7) = true := by kernel_rfl
theorem fnActCount_j10 : (Rows.fnActCountRow.unfollowed == Try.prog.unfollowed 7) = true := by kernel_rfl
theorem fnActCount_j11 : (Rows.fnActCountRow.recurses == Try.prog.recurses 7) = true := by kernel_rfl
theorem fnActCount_j12 : (Rows.fnActCountRow.named == Try.prog.varsNamed 7) = true := by kernel_rfl
theorem fnActCount_closed : joinedFacts Try.prog 7 Try.f7 Rows.fnActCountSpec Rows.fnActCountRow = true :=
  joined_of fnActCount_j0 fxLaid fxMaps fnActCount_j3 fnActCount_j9 fnActCount_j10 fnActCount_j11 fnActCount_j12 (by kernel_rfl) (Eq.trans (by kernel_rfl) fxKeys) (by kernel_rfl) fxHeard fxEnter (Eq.trans (by rfl) fxLifts) (Eq.trans (by rfl) fxMake) (by kernel_rfl)
theorem fnActCount_holds : Rows.FnActCountSaid :=
  OpenClaim.holds_of_wide 7 Try.f7 rfl rfl rfl rfl rfl rfl rfl ⟨rfl, rfl, rfl, rfl, rfl⟩ rfl rfl rfl rfl rfl (by kernel_rfl) Try.func7 fnActCount_closed
    (of_decide_eq_true (by kernel_rfl)) (by unfold Func.isWrapper; first | (rw [if_pos (by decide +kernel)]; kernel_rfl) | (rw [if_neg (by decide +kernel)]; exact ⟨rfl, rfl⟩))
    (fun os started H enc _ => fnActCount_lifted os started H enc)
end Go.Proofs.Ytmiicjgbhkjocaa
