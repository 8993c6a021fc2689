/-
  Only contacts and coils touch the memory, and a branch gives back exactly the value that was kept, for all codes. Conditions: none.
-/
import Derived.Test.YtfhnbdlkiemaeaaGreatLjpk
import Derived.Test.YtfhnbdlkiemaeaaGreatOpk
set_option linter.unusedVariables false
set_option linter.unusedSimpArgs false
set_option maxRecDepth 100000
namespace Go.Proofs.YtfhnbdlkiemaeaaGreat
open Go Go.Sx Go.ChangeShapes Go.WideShapes Go.ChangeAt Go.RowKit

theorem fnMachStep_lifted (os : Os) (started : os.Started) (H : Type) (enc : TypeId × Value → H) :
    ReturnsInHanded {} Tryz.checked os 6 .any (Rows.fnMachStepSpec.pre6 enc Tryz.prog Tryz.f6 Rows.fnMachStepRow.domain false) (Rows.fnMachStepSpec.post enc Tryz.prog Tryz.f6 false true false false) := by
  refine lifted_of_walk (C := Tryz.checked) (tb := 4) own started (by kernel_rfl) Tryz.func6
    (ChangeSpec.witness6 (enc := enc) (C := Tryz.checked) false ⟨#[], #[.slice none 0 0], []⟩ 12 (by kernel_rfl) (by kernel_rfl) (by kernel_rfl) (by kernel_rfl))
    laidOut (by kernel_rfl) rfl rfl (by kernel_rfl) (fun ds hd => ?_) (fun W base args hsz hval htr => ?_)
  · match ds, hd with
    | [d0], _ => rfl
  · obtain ⟨a0, rfl⟩ : ∃ a0, args = #[a0] := by
      obtain ⟨l⟩ := args
      match l, hsz with
      | [a0], _ => exact ⟨a0, rfl⟩
    obtain ⟨o, cap, bs, rfl, h_o⟩ := openBytes (hval 0 _ a0 rfl rfl) (htr 0 _ a0 rfl rfl)
    exact lawMStepC_c o cap bs W (by rw [factF_init]; exact ⟨h_o.1, h_o.2⟩)

theorem fnMachStep_j0 : Rows.fnMachStepRow.wf (OpenSpec.ofChange Rows.fnMachStepSpec) = true := by kernel_rfl
theorem fnMachStep_j3 : (Tryz.f6.params.all (Tryz.prog.readableRec ·) && namedTie Tryz.prog Rows.fnMachStepRow.named Rows.fnMachStepSpec.vars && (Rows.fnMachStepRow.stops == []) && (Tryz.prog.stops == []) && (Rows.fnMachStepRow.knobs == []) && (Tryz.prog.stopKnobs == [])) = true := by kernel_rfl
theorem fnMachStep_j9 : (Rows.fnMachStepRow.inPlace == Tryz.prog.inPlace 6) = true := by kernel_rfl
theorem fnMachStep_j10 : (Rows.fnMachStepRow.unfollowed == Tryz.prog.unfollowed 6) = true := by kernel_rfl
theorem fnMachStep_j11 : (Rows.fnMachStepRow.recurses == Tryz.prog.recurses 6) = true := by kernel_rfl
theorem fnMachStep_j12 : (Rows.fnMachStepRow.named == Tryz.prog.varsNamed 6) = true := by kernel_rfl
theorem fnMachStep_closed : joinedFacts Tryz.prog 6 Tryz.f6 Rows.fnMachStepSpec Rows.fnMachStepRow = true :=
  joined_of fnMachStep_j0 fxLaid fxMaps fnMachStep_j3 fnMachStep_j9 fnMachStep_j10 fnMachStep_j11 fnMachStep_j12 (by kernel_rfl) (Eq.trans (by kernel_rfl) fxKeys) (by kernel_rfl) fxHeard fxEnter (Eq.trans (by rfl) fxLifts) (Eq.trans (by rfl) fxMake) (by kernel_rfl)
theorem fnMachStep_holds : Rows.FnMachStepSaid :=
  OpenClaim.holds_of_wide 6 Tryz.f6 rfl rfl rfl rfl rfl rfl rfl ⟨rfl, rfl, rfl, rfl, rfl⟩ rfl rfl rfl rfl rfl (by kernel_rfl) Tryz.func6 fnMachStep_closed
    (of_decide_eq_true (by kernel_rfl)) (by unfold Func.isWrapper; first | (rw [if_pos (by decide +kernel)]; kernel_rfl) | (rw [if_neg (by decide +kernel)]; exact ⟨rfl, rfl⟩))
    (fun os started H enc _ => fnMachStep_lifted os started H enc)
end Go.Proofs.YtfhnbdlkiemaeaaGreat
