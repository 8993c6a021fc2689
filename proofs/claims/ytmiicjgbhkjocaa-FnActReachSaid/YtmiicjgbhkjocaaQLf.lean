/-
  A coil never changes anything but its own device, for all codes. Conditions: none.
-/
import Derived.Test.YtmiicjgbhkjocaaLf
import Derived.Test.YtmiicjgbhkjocaaO
set_option linter.unusedVariables false
set_option linter.unusedSimpArgs false
set_option maxRecDepth 100000
namespace Go.Proofs.Ytmiicjgbhkjocaa
open Go Go.Sx Go.ChangeShapes Go.WideShapes Go.ChangeAt Go.RowKit

theorem fnActReach_lifted (os : Os) (started : os.Started) (H : Type) (enc : TypeId × Value → H) :
    ReturnsInHanded {} Try.checked os 11 .any (Rows.fnActReachSpec.pre6 enc Try.prog Try.f11 Rows.fnActReachRow.domain false) (Rows.fnActReachSpec.post enc Try.prog Try.f11 false true false false) := by
  refine lifted_of_walk (C := Try.checked) (tb := 4) own started (by kernel_rfl) Try.func11
    (ChangeSpec.witness6 (enc := enc) (C := Try.checked) false ⟨#[], #[.slice none 0 0], []⟩ 12 (by kernel_rfl) (by kernel_rfl) (by kernel_rfl) (by kernel_rfl))
    laidOut (by kernel_rfl) rfl rfl (by kernel_rfl) (fun ds hd => ?_) (fun W base args hsz hval htr => ?_)
  · match ds, hd with
    | [d0], _ => rfl
  · obtain ⟨a0, rfl⟩ : ∃ a0, args = #[a0] := by
      obtain ⟨l⟩ := args
      match l, hsz with
      | [a0], _ => exact ⟨a0, rfl⟩
    obtain ⟨o, cap, bs, rfl, h_o⟩ := openBytes (hval 0 _ a0 rfl rfl) (htr 0 _ a0 rfl rfl)
    exact lawAReachC_c o cap bs W (by rw [factF_init]; exact ⟨h_o.1, h_o.2⟩)

theorem fnActReach_j0 : Rows.fnActReachRow.wf (OpenSpec.ofChange Rows.fnActReachSpec) = true := by kernel_rfl
theorem fnActReach_j3 : (Try.f11.params.all (Try.prog.readableRec ·) && namedTie Try.prog Rows.fnActReachRow.named Rows.fnActReachSpec.vars && (Rows.fnActReachRow.stops == []) && (Try.prog.stops == []) && (Rows.fnActReachRow.knobs == []) && (Try.prog.stopKnobs == [])) = true := by kernel_rfl
theorem fnActReach_j9 : (Rows.fnActReachRow.inPlace == Try.prog.inPlace 11) = true := by kernel_rfl
theorem fnActReach_j10 : (Rows.fnActReachRow.unfollowed == Try.prog.unfollowed 11) = true := by kernel_rfl
theorem fnActReach_j11 : (Rows.fnActReachRow.recurses == Try.prog.recurses 11) = true := by kernel_rfl
theorem fnActReach_j12 : (Rows.fnActReachRow.named == Try.prog.varsNamed 11) = true := by kernel_rfl
theorem fnActReach_closed : joinedFacts Try.prog 11 Try.f11 Rows.fnActReachSpec Rows.fnActReachRow = true :=
  joined_of fnActReach_j0 fxLaid fxMaps fnActReach_j3 fnActReach_j9 fnActReach_j10 fnActReach_j11 fnActReach_j12 (by kernel_rfl) (Eq.trans (by kernel_rfl) fxKeys) (by kernel_rfl) fxHeard fxEnter (Eq.trans (by rfl) fxLifts) (Eq.trans (by rfl) fxMake) (by kernel_rfl)
theorem fnActReach_holds : Rows.FnActReachSaid :=
  OpenClaim.holds_of_wide 11 Try.f11 rfl rfl rfl rfl rfl rfl rfl ⟨rfl, rfl, rfl, rfl, rfl⟩ rfl rfl rfl rfl rfl (by kernel_rfl) Try.func11 fnActReach_closed
    (of_decide_eq_true (by kernel_rfl)) (by unfold Func.isWrapper; first | (rw [if_pos (by decide +kernel)]; kernel_rfl) | (rw [if_neg (by decide +kernel)]; exact ⟨rfl, rfl⟩))
    (fun os started H enc _ => fnActReach_lifted os started H enc)
end Go.Proofs.Ytmiicjgbhkjocaa
