/-
  The verifier names the first wrong instruction, whatever follows it, for all codes. Conditions: none.
-/
import Derived.Test.YtogbbbgmhobfiaaLiw2
import Derived.Test.YtogbbbgmhobfiaaOw2
set_option linter.unusedVariables false
set_option linter.unusedSimpArgs false
set_option maxRecDepth 100000
namespace Go.Proofs.Ytogbbbgmhobfiaa
open Go Go.Sx Go.ChangeShapes Go.WideShapes Go.ChangeAt Go.RowKit

theorem fnSureFirst_lifted (os : Os) (started : os.Started) (H : Type) (enc : TypeId × Value → H) :
    ReturnsInHanded {} Try.checked os 4 .any (Rows.fnSureFirstSpec.pre6 enc Try.prog Try.f4 Rows.fnSureFirstRow.domain false) (Rows.fnSureFirstSpec.post enc Try.prog Try.f4 false true false false) := by
  refine lifted_of_walk (C := Try.checked) (tb := 4) own started (by kernel_rfl) Try.func4
    (ChangeSpec.witness6 (enc := enc) (C := Try.checked) false ⟨#[], #[.slice none 0 0, .slice none 0 0], []⟩ 12 (by kernel_rfl) (by kernel_rfl) (by kernel_rfl) (by kernel_rfl))
    laidOut (by kernel_rfl) rfl rfl (by kernel_rfl) (fun ds hd => ?_) (fun W base args hsz hval htr => ?_)
  · match ds, hd with
    | [d0, d1], _ => rfl
  · obtain ⟨a0, a1, rfl⟩ : ∃ a0 a1, args = #[a0, a1] := by
      obtain ⟨l⟩ := args
      match l, hsz with
      | [a0, a1], _ => exact ⟨a0, a1, rfl⟩
    obtain ⟨o, cap, bs, rfl, h_o⟩ := openBytes (hval 0 _ a0 rfl rfl) (htr 0 _ a0 rfl rfl)
    obtain ⟨p, q, cs, rfl, h_p⟩ := openBytes (hval 1 _ a1 rfl rfl) (htr 1 _ a1 rfl rfl)
    exact lawSFirstC_c o cap bs p q cs W (by rw [factF_init]; exact ⟨h_o.1, h_p.1, h_o.2, h_p.2⟩)

theorem fnSureFirst_j0 : Rows.fnSureFirstRow.wf (OpenSpec.ofChange Rows.fnSureFirstSpec) = true := by kernel_rfl
theorem fnSureFirst_j3 : (Try.f4.params.all (Try.prog.readableRec ·) && namedTie Try.prog Rows.fnSureFirstRow.named Rows.fnSureFirstSpec.vars && (Rows.fnSureFirstRow.stops == []) && (Try.prog.stops == []) && (Rows.fnSureFirstRow.knobs == []) && (Try.prog.stopKnobs == [])) = true := by kernel_rfl
theorem fnSureFirst_j9 : (Rows.fnSureFirstRow.inPlace == Try.prog.inPlace 4) = true := by kernel_rfl
theorem fnSureFirst_j10 : (Rows.fnSureFirstRow.unfollowed == Try.prog.unfollowed 4) = true := by kernel_rfl
theorem fnSureFirst_j11 : (Rows.fnSureFirstRow.recurses == Try.prog.recurses 4) = true := by kernel_rfl
theorem fnSureFirst_j12 : (Rows.fnSureFirstRow.named == Try.prog.varsNamed 4) = true := by kernel_rfl
theorem fnSureFirst_closed : joinedFacts Try.prog 4 Try.f4 Rows.fnSureFirstSpec Rows.fnSureFirstRow = true :=
  joined_of fnSureFirst_j0 fxLaid fxMaps fnSureFirst_j3 fnSureFirst_j9 fnSureFirst_j10 fnSureFirst_j11 fnSureFirst_j12 (by kernel_rfl) (Eq.trans (by kernel_rfl) fxKeys) (by kernel_rfl) fxHeard fxEnter (Eq.trans (by rfl) fxLifts) (Eq.trans (by rfl) fxMake) (by kernel_rfl)
theorem fnSureFirst_holds : Rows.FnSureFirstSaid :=
  OpenClaim.holds_of_wide 4 Try.f4 rfl rfl rfl rfl rfl rfl rfl ⟨rfl, rfl, rfl, rfl, rfl⟩ rfl rfl rfl rfl rfl (by kernel_rfl) Try.func4 fnSureFirst_closed
    (of_decide_eq_true (by kernel_rfl)) (by unfold Func.isWrapper; first | (rw [if_pos (by decide +kernel)]; kernel_rfl) | (rw [if_neg (by decide +kernel)]; exact ⟨rfl, rfl⟩))
    (fun os started H enc _ => fnSureFirst_lifted os started H enc)
end Go.Proofs.Ytogbbbgmhobfiaa
