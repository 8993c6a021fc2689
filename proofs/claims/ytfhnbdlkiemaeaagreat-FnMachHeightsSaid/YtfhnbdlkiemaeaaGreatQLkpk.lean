/-
  While a verified list runs, both stacks are always exactly as high as the verifier said, for all codes. Conditions: none.
-/
import Derived.Test.YtfhnbdlkiemaeaaGreatLkpk
import Derived.Test.YtfhnbdlkiemaeaaGreatOpk
set_option linter.unusedVariables false
set_option linter.unusedSimpArgs false
set_option maxRecDepth 100000
namespace Go.Proofs.YtfhnbdlkiemaeaaGreat
open Go Go.Sx Go.ChangeShapes Go.WideShapes Go.ChangeAt Go.RowKit

theorem fnMachHeights_lifted (os : Os) (started : os.Started) (H : Type) (enc : TypeId × Value → H) :
    ReturnsInHanded {} Tryz.checked os 4 .any (Rows.fnMachHeightsSpec.pre6 enc Tryz.prog Tryz.f4 Rows.fnMachHeightsRow.domain false) (Rows.fnMachHeightsSpec.post enc Tryz.prog Tryz.f4 false true false false) := by
  refine lifted_of_walk (C := Tryz.checked) (tb := 4) own started (by kernel_rfl) Tryz.func4
    (ChangeSpec.witness6 (enc := enc) (C := Tryz.checked) false ⟨#[], #[.slice none 0 0], []⟩ 12 (by kernel_rfl) (by kernel_rfl) (by kernel_rfl) (by kernel_rfl))
    laidOut (by kernel_rfl) rfl rfl (by kernel_rfl) (fun ds hd => ?_) (fun W base args hsz hval htr => ?_)
  · match ds, hd with
    | [d0], _ => rfl
  · obtain ⟨a0, rfl⟩ : ∃ a0, args = #[a0] := by
      obtain ⟨l⟩ := args
      match l, hsz with
      | [a0], _ => exact ⟨a0, rfl⟩
    obtain ⟨o, cap, bs, rfl, h_o⟩ := openBytes (hval 0 _ a0 rfl rfl) (htr 0 _ a0 rfl rfl)
    exact lawMHeightC_c o cap bs W (by rw [factF_init]; exact ⟨h_o.1, h_o.2⟩)

theorem fnMachHeights_j0 : Rows.fnMachHeightsRow.wf (OpenSpec.ofChange Rows.fnMachHeightsSpec) = true := by kernel_rfl
theorem fnMachHeights_j3 : (Tryz.f4.params.all (Tryz.prog.readableRec ·) && namedTie Tryz.prog Rows.fnMachHeightsRow.named Rows.fnMachHeightsSpec.vars && (Rows.fnMachHeightsRow.stops == []) && (Tryz.prog.stops == []) && (Rows.fnMachHeightsRow.knobs == []) && (Tryz.prog.stopKnobs == [])) = true := by kernel_rfl
theorem fnMachHeights_j9 : (Rows.fnMachHeightsRow.inPlace == Tryz.prog.inPlace 4) = true := by kernel_rfl
theorem fnMachHeights_j10 : (Rows.fnMachHeightsRow.unfollowed == Tryz.prog.unfollowed 4) = true := by kernel_rfl
theorem fnMachHeights_j11 : (Rows.fnMachHeightsRow.recurses == Tryz.prog.recurses 4) = true := by kernel_rfl
theorem fnMachHeights_j12 : (Rows.fnMachHeightsRow.named == Tryz.prog.varsNamed 4) = true := by kernel_rfl
theorem fnMachHeights_closed : joinedFacts Tryz.prog 4 Tryz.f4 Rows.fnMachHeightsSpec Rows.fnMachHeightsRow = true :=
  joined_of fnMachHeights_j0 fxLaid fxMaps fnMachHeights_j3 fnMachHeights_j9 fnMachHeights_j10 fnMachHeights_j11 fnMachHeights_j12 (by kernel_rfl) (Eq.trans (by kernel_rfl) fxKeys) (by kernel_rfl) fxHeard fxEnter (Eq.trans (by rfl) fxLifts) (Eq.trans (by rfl) fxMake) (by kernel_rfl)
theorem fnMachHeights_holds : Rows.FnMachHeightsSaid :=
  OpenClaim.holds_of_wide 4 Tryz.f4 rfl rfl rfl rfl rfl rfl rfl ⟨rfl, rfl, rfl, rfl, rfl⟩ rfl rfl rfl rfl rfl (by kernel_rfl) Tryz.func4 fnMachHeights_closed
    (of_decide_eq_true (by kernel_rfl)) (by unfold Func.isWrapper; first | (rw [if_pos (by decide +kernel)]; kernel_rfl) | (rw [if_neg (by decide +kernel)]; exact ⟨rfl, rfl⟩))
    (fun os started H enc _ => fnMachHeights_lifted os started H enc)
end Go.Proofs.YtfhnbdlkiemaeaaGreat
