/-
  Setting one register of a memory changes that register and nothing else, for all codes. Conditions: none.
-/
import Derived.Test.YtmiicjgbhkjocaaLb
import Derived.Test.YtmiicjgbhkjocaaO
set_option linter.unusedVariables false
set_option linter.unusedSimpArgs false
set_option maxRecDepth 100000
namespace Go.Proofs.Ytmiicjgbhkjocaa
open Go Go.Sx Go.ChangeShapes Go.WideShapes Go.ChangeAt Go.RowKit

theorem fnMemPutNumber_lifted (os : Os) (started : os.Started) (H : Type) (enc : TypeId × Value → H) :
    ReturnsInHanded {} Try.checked os 4 .any (Rows.fnMemPutNumberSpec.pre6 enc Try.prog Try.f4 Rows.fnMemPutNumberRow.domain false) (Rows.fnMemPutNumberSpec.post enc Try.prog Try.f4 false true false false) := by
  refine lifted_of_walk (C := Try.checked) (tb := 4) own started (by kernel_rfl) Try.func4
    (ChangeSpec.witness6 (enc := enc) (C := Try.checked) false ⟨#[], #[.slice none 0 0, .slice none 0 0], []⟩ 12 (by kernel_rfl) (by kernel_rfl) (by kernel_rfl) (by kernel_rfl))
    laidOut (by kernel_rfl) rfl rfl (by kernel_rfl) (fun ds hd => ?_) (fun W base args hsz hval htr => ?_)
  · match ds, hd with
    | [d0, d1], _ => rfl
  · obtain ⟨a0, a1, rfl⟩ : ∃ a0 a1, args = #[a0, a1] := by
      obtain ⟨l⟩ := args
      match l, hsz with
      | [a0, a1], _ => exact ⟨a0, a1, rfl⟩
    obtain ⟨o, cap, bs, rfl, h_o⟩ := openBytes (hval 0 _ a0 rfl rfl) (htr 0 _ a0 rfl rfl)
    obtain ⟨o2, cap2, bs2, rfl, h_o2⟩ := openBytes (hval 1 _ a1 rfl rfl) (htr 1 _ a1 rfl rfl)
    exact lawMPutNC_c o cap bs o2 cap2 bs2 W (by rw [factF_init]; exact ⟨h_o.1, h_o2.1, h_o.2, h_o2.2⟩)

theorem fnMemPutNumber_j0 : Rows.fnMemPutNumberRow.wf (OpenSpec.ofChange Rows.fnMemPutNumberSpec) = true := by kernel_rfl
theorem fnMemPutNumber_j3 : (Try.f4.params.all (Try.prog.readableRec ·) && namedTie Try.prog Rows.fnMemPutNumberRow.named Rows.fnMemPutNumberSpec.vars && (Rows.fnMemPutNumberRow.stops == []) && (Try.prog.stops == []) && (Rows.fnMemPutNumberRow.knobs == []) && (Try.prog.stopKnobs == [])) = true := by kernel_rfl
theorem fnMemPutNumber_j9 : (Rows.fnMemPutNumberRow.inPlace == Try.prog.inPlace 4) = true := by kernel_rfl
theorem fnMemPutNumber_j10 : (Rows.fnMemPutNumberRow.unfollowed == Try.prog.unfollowed 4) = true := by kernel_rfl
theorem fnMemPutNumber_j11 : (Rows.fnMemPutNumberRow.recurses == Try.prog.recurses 4) = true := by kernel_rfl
theorem fnMemPutNumber_j12 : (Rows.fnMemPutNumberRow.named == Try.prog.varsNamed 4) = true := by kernel_rfl
theorem fnMemPutNumber_closed : joinedFacts Try.prog 4 Try.f4 Rows.fnMemPutNumberSpec Rows.fnMemPutNumberRow = true :=
  joined_of fnMemPutNumber_j0 fxLaid fxMaps fnMemPutNumber_j3 fnMemPutNumber_j9 fnMemPutNumber_j10 fnMemPutNumber_j11 fnMemPutNumber_j12 (by kernel_rfl) (Eq.trans (by kernel_rfl) fxKeys) (by kernel_rfl) fxHeard fxEnter (Eq.trans (by rfl) fxLifts) (Eq.trans (by rfl) fxMake) (by kernel_rfl)
theorem fnMemPutNumber_holds : Rows.FnMemPutNumberSaid :=
  OpenClaim.holds_of_wide 4 Try.f4 rfl rfl rfl rfl rfl rfl rfl ⟨rfl, rfl, rfl, rfl, rfl⟩ rfl rfl rfl rfl rfl (by kernel_rfl) Try.func4 fnMemPutNumber_closed
    (of_decide_eq_true (by kernel_rfl)) (by unfold Func.isWrapper; first | (rw [if_pos (by decide +kernel)]; kernel_rfl) | (rw [if_neg (by decide +kernel)]; exact ⟨rfl, rfl⟩))
    (fun os started H enc _ => fnMemPutNumber_lifted os started H enc)
end Go.Proofs.Ytmiicjgbhkjocaa
