/-
  A verified list never underflows or overflows a stack and never touches a device outside its area, on any memory, for all codes. Conditions: none.
-/
import Derived.Test.YtfhnbdlkiemaeaaGreatLmmt
import Derived.Test.YtfhnbdlkiemaeaaGreatOmt
set_option linter.unusedVariables false
set_option linter.unusedSimpArgs false
set_option maxRecDepth 100000
namespace Go.Proofs.YtfhnbdlkiemaeaaGreat
open Go Go.Sx Go.ChangeShapes Go.WideShapes Go.ChangeAt Go.RowKit

theorem fnMachTop_lifted (os : Os) (started : os.Started) (H : Type) (enc : TypeId × Value → H) :
    ReturnsInHanded {} Tryz.checked os 3 .any (Rows.fnMachTopSpec.pre6 enc Tryz.prog Tryz.f3 Rows.fnMachTopRow.domain false) (Rows.fnMachTopSpec.post enc Tryz.prog Tryz.f3 false true false false) := by
  refine lifted_of_walk (C := Tryz.checked) (tb := 4) own started (by kernel_rfl) Tryz.func3
    (ChangeSpec.witness6 (enc := enc) (C := Tryz.checked) false ⟨#[], #[.slice none 0 0], []⟩ 12 (by kernel_rfl) (by kernel_rfl) (by kernel_rfl) (by kernel_rfl))
    laidOut (by kernel_rfl) rfl rfl (by kernel_rfl) (fun ds hd => ?_) (fun W base args hsz hval htr => ?_)
  · match ds, hd with
    | [d0], _ => rfl
  · obtain ⟨a0, rfl⟩ : ∃ a0, args = #[a0] := by
      obtain ⟨l⟩ := args
      match l, hsz with
      | [a0], _ => exact ⟨a0, rfl⟩
    obtain ⟨o, cap, bs, rfl, h_o⟩ := openBytes (hval 0 _ a0 rfl rfl) (htr 0 _ a0 rfl rfl)
    exact lawMTopC_c o cap bs W (by rw [factF_init]; exact ⟨h_o.1, h_o.2⟩)

theorem fnMachTop_j0 : Rows.fnMachTopRow.wf (OpenSpec.ofChange Rows.fnMachTopSpec) = true := by kernel_rfl
theorem fnMachTop_j3 : (Tryz.f3.params.all (Tryz.prog.readableRec ·) && namedTie Tryz.prog Rows.fnMachTopRow.named Rows.fnMachTopSpec.vars && (Rows.fnMachTopRow.stops == []) && (Tryz.prog.stops == []) && (Rows.fnMachTopRow.knobs == []) && (Tryz.prog.stopKnobs == [])) = true := by kernel_rfl
theorem fnMachTop_j9 : (Rows.fnMachTopRow.inPlace == Tryz.prog.inPlace 3) = true := by kernel_rfl
theorem fnMachTop_j10 : (Rows.fnMachTopRow.unfollowed == Tryz.prog.unfollowed 3) = true := by kernel_rfl
theorem fnMachTop_j11 : (Rows.fnMachTopRow.recurses == Tryz.prog.recurses 3) = true := by kernel_rfl
theorem fnMachTop_j12 : (Rows.fnMachTopRow.named == Tryz.prog.varsNamed 3) = true := by kernel_rfl
theorem fnMachTop_closed : joinedFacts Tryz.prog 3 Tryz.f3 Rows.fnMachTopSpec Rows.fnMachTopRow = true :=
  joined_of fnMachTop_j0 fxLaid fxMaps fnMachTop_j3 fnMachTop_j9 fnMachTop_j10 fnMachTop_j11 fnMachTop_j12 (by kernel_rfl) (Eq.trans (by kernel_rfl) fxKeys) (by kernel_rfl) fxHeard fxEnter (Eq.trans (by rfl) fxLifts) (Eq.trans (by rfl) fxMake) (by kernel_rfl)
theorem fnMachTop_holds : Rows.FnMachTopSaid :=
  OpenClaim.holds_of_wide 3 Tryz.f3 rfl rfl rfl rfl rfl rfl rfl ⟨rfl, rfl, rfl, rfl, rfl⟩ rfl rfl rfl rfl rfl (by kernel_rfl) Tryz.func3 fnMachTop_closed
    (of_decide_eq_true (by kernel_rfl)) (by unfold Func.isWrapper; first | (rw [if_pos (by decide +kernel)]; kernel_rfl) | (rw [if_neg (by decide +kernel)]; exact ⟨rfl, rfl⟩))
    (fun os started H enc _ => fnMachTop_lifted os started H enc)
end Go.Proofs.YtfhnbdlkiemaeaaGreat
