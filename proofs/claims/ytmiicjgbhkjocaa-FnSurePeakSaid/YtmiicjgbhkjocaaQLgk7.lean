/-
  The peak heights that are told are reached and never passed, for all codes. Conditions: none.
-/
import Derived.Test.YtmiicjgbhkjocaaLgk7
import Derived.Test.YtmiicjgbhkjocaaO
set_option linter.unusedVariables false
set_option linter.unusedSimpArgs false
set_option maxRecDepth 100000
namespace Go.Proofs.Ytmiicjgbhkjocaa
open Go Go.Sx Go.ChangeShapes Go.WideShapes Go.ChangeAt Go.RowKit

theorem fnSurePeak_lifted (os : Os) (started : os.Started) (H : Type) (enc : TypeId × Value → H) :
    ReturnsInHanded {} Try.checked os 14 .any (Rows.fnSurePeakSpec.pre6 enc Try.prog Try.f14 Rows.fnSurePeakRow.domain false) (Rows.fnSurePeakSpec.post enc Try.prog Try.f14 false true false false) := by
  refine lifted_of_walk (C := Try.checked) (tb := 4) own started (by kernel_rfl) Try.func14
    (ChangeSpec.witness6 (enc := enc) (C := Try.checked) false ⟨#[], #[.slice none 0 0], []⟩ 12 (by kernel_rfl) (by kernel_rfl) (by kernel_rfl) (by kernel_rfl))
    laidOut (by kernel_rfl) rfl rfl (by kernel_rfl) (fun ds hd => ?_) (fun W base args hsz hval htr => ?_)
  · match ds, hd with
    | [d0], _ => rfl
  · obtain ⟨a0, rfl⟩ : ∃ a0, args = #[a0] := by
      obtain ⟨l⟩ := args
      match l, hsz with
      | [a0], _ => exact ⟨a0, rfl⟩
    obtain ⟨o, cap, bs, rfl, h_o⟩ := openBytes (hval 0 _ a0 rfl rfl) (htr 0 _ a0 rfl rfl)
    exact lawSPeakC_c o cap bs W (by rw [factF_init]; exact ⟨h_o.1, h_o.2⟩)

theorem fnSurePeak_j0 : Rows.fnSurePeakRow.wf (OpenSpec.ofChange Rows.fnSurePeakSpec) = true := by kernel_rfl
theorem fnSurePeak_j3 : (Try.f14.params.all (Try.prog.readableRec ·) && namedTie Try.prog Rows.fnSurePeakRow.named Rows.fnSurePeakSpec.vars && (Rows.fnSurePeakRow.stops == []) && (Try.prog.stops == []) && (Rows.fnSurePeakRow.knobs == []) && (Try.prog.stopKnobs == [])) = true := by kernel_rfl
theorem fnSurePeak_j9 : (Rows.fnSurePeakRow.inPlace == Try.prog.inPlace 14) = true := by kernel_rfl
theorem fnSurePeak_j10 : (Rows.fnSurePeakRow.unfollowed == Try.prog.unfollowed 14) = true := by kernel_rfl
theorem fnSurePeak_j11 : (Rows.fnSurePeakRow.recurses == Try.prog.recurses 14) = true := by kernel_rfl
theorem fnSurePeak_j12 : (Rows.fnSurePeakRow.named == Try.prog.varsNamed 14) = true := by kernel_rfl
theorem fnSurePeak_closed : joinedFacts Try.prog 14 Try.f14 Rows.fnSurePeakSpec Rows.fnSurePeakRow = true :=
  joined_of fnSurePeak_j0 fxLaid fxMaps fnSurePeak_j3 fnSurePeak_j9 fnSurePeak_j10 fnSurePeak_j11 fnSurePeak_j12 (by kernel_rfl) (Eq.trans (by kernel_rfl) fxKeys) (by kernel_rfl) fxHeard fxEnter (Eq.trans (by rfl) fxLifts) (Eq.trans (by rfl) fxMake) (by kernel_rfl)
theorem fnSurePeak_holds : Rows.FnSurePeakSaid :=
  OpenClaim.holds_of_wide 14 Try.f14 rfl rfl rfl rfl rfl rfl rfl ⟨rfl, rfl, rfl, rfl, rfl⟩ rfl rfl rfl rfl rfl (by kernel_rfl) Try.func14 fnSurePeak_closed
    (of_decide_eq_true (by kernel_rfl)) (by unfold Func.isWrapper; first | (rw [if_pos (by decide +kernel)]; kernel_rfl) | (rw [if_neg (by decide +kernel)]; exact ⟨rfl, rfl⟩))
    (fun os started H enc _ => fnSurePeak_lifted os started H enc)
end Go.Proofs.Ytmiicjgbhkjocaa
