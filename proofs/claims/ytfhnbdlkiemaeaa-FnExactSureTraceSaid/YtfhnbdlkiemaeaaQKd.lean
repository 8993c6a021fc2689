/-
  The program's SureTrace returns what the reference's returns, for all arguments. Conditions: none.
-/
import Derived.Test.YtfhnbdlkiemaeaaKd
import Derived.Test.YtfhnbdlkiemaeaaO
set_option linter.unusedVariables false
set_option linter.unusedSimpArgs false
set_option maxRecDepth 100000
namespace Go.Proofs.Ytfhnbdlkiemaeaa
open Go Go.Sx Go.ChangeShapes Go.WideShapes Go.ChangeAt Go.RowKit

theorem fnExactSureTrace_lifted (os : Os) (started : os.Started) (H : Type) (enc : TypeId × Value → H) :
    ReturnsInHanded {} Try.checked os 3 .any (Rows.fnExactSureTraceSpec.pre6 enc Try.prog Try.f3 Rows.fnExactSureTraceRow.domain false) (Rows.fnExactSureTraceSpec.post enc Try.prog Try.f3 false true false false) := by
  refine lifted_of_walk (C := Try.checked) (tb := 4) own started (by kernel_rfl) Try.func3
    (ChangeSpec.witness6 (enc := enc) (C := Try.checked) false ⟨#[], #[.slice none 0 0], []⟩ 12 (by kernel_rfl) (by kernel_rfl) (by kernel_rfl) (by kernel_rfl))
    laidOut (by kernel_rfl) rfl rfl (by kernel_rfl) (fun ds hd => ?_) (fun W base args hsz hval htr => ?_)
  · match ds, hd with
    | [d0], _ => rfl
  · obtain ⟨a0, rfl⟩ : ∃ a0, args = #[a0] := by
      obtain ⟨l⟩ := args
      match l, hsz with
      | [a0], _ => exact ⟨a0, rfl⟩
    obtain ⟨o, cap, xs, rfl, h_o⟩ := openList (hval 0 _ a0 rfl rfl) (htr 0 _ a0 rfl rfl)
    exact lawSureTraceC_c o cap xs W (by rw [factF_init]; exact ⟨h_o.1, by have := h_o.2.1; have := h_o.2.2; unfold maxLen at this; omega⟩)

theorem fnExactSureTrace_j0 : Rows.fnExactSureTraceRow.wf (OpenSpec.ofChange Rows.fnExactSureTraceSpec) = true := by kernel_rfl
theorem fnExactSureTrace_j3 : (Try.f3.params.all (Try.prog.readableRec ·) && namedTie Try.prog Rows.fnExactSureTraceRow.named Rows.fnExactSureTraceSpec.vars && (Rows.fnExactSureTraceRow.stops == []) && (Try.prog.stops == []) && (Rows.fnExactSureTraceRow.knobs == []) && (Try.prog.stopKnobs == [])) = true := by kernel_rfl
theorem fnExactSureTrace_j9 : (Rows.fnExactSureTraceRow.inPlace == Try.prog.inPlace 3) = true := by kernel_rfl
theorem fnExactSureTrace_j10 : (Rows.fnExactSureTraceRow.unfollowed == Try.prog.unfollowed 3) = true := by kernel_rfl
theorem fnExactSureTrace_j11 : (Rows.fnExactSureTraceRow.recurses == Try.prog.recurses 3) = true := by kernel_rfl
theorem fnExactSureTrace_j12 : (Rows.fnExactSureTraceRow.named == Try.prog.varsNamed 3) = true := by kernel_rfl
theorem fnExactSureTrace_closed : joinedFacts Try.prog 3 Try.f3 Rows.fnExactSureTraceSpec Rows.fnExactSureTraceRow = true :=
  joined_of fnExactSureTrace_j0 fxLaid fxMaps fnExactSureTrace_j3 fnExactSureTrace_j9 fnExactSureTrace_j10 fnExactSureTrace_j11 fnExactSureTrace_j12 (by kernel_rfl) (Eq.trans (by kernel_rfl) fxKeys) (by kernel_rfl) fxHeard fxEnter (Eq.trans (by rfl) fxLifts) (Eq.trans (by rfl) fxMake) (by kernel_rfl)
theorem fnExactSureTrace_holds : Rows.FnExactSureTraceSaid :=
  OpenClaim.holds_of_wide 3 Try.f3 rfl rfl rfl rfl rfl rfl rfl ⟨rfl, rfl, rfl, rfl, rfl⟩ rfl rfl rfl rfl rfl (by kernel_rfl) Try.func3 fnExactSureTrace_closed
    (of_decide_eq_true (by kernel_rfl)) (by unfold Func.isWrapper; first | (rw [if_pos (by decide +kernel)]; kernel_rfl) | (rw [if_neg (by decide +kernel)]; exact ⟨rfl, rfl⟩))
    (fun os started H enc _ => fnExactSureTrace_lifted os started H enc)
end Go.Proofs.Ytfhnbdlkiemaeaa
