/-
  Verified lists can be put one behind the other, and cut at every rung, for all codes. Conditions: none.
-/
import Derived.Test.YtnnpmopnnamakaaJjw1
import Derived.Test.YtnnpmopnnamakaaOw1
set_option linter.unusedVariables false
set_option linter.unusedSimpArgs false
set_option maxRecDepth 100000
namespace Go.Proofs.Ytnnpmopnnamakaa
open Go Go.Sx Go.ChangeShapes Go.WideShapes Go.ChangeAt Go.RowKit

theorem fnSureJoin_lifted (os : Os) (started : os.Started) (H : Type) (enc : TypeId × Value → H) :
    ReturnsInHanded {} Try.checked os 4 .any (Rows.fnSureJoinSpec.pre6 enc Try.prog Try.f4 Rows.fnSureJoinRow.domain false) (Rows.fnSureJoinSpec.post enc Try.prog Try.f4 false true false false) := by
  refine lifted_of_walk (C := Try.checked) (tb := 4) own started (by kernel_rfl) Try.func4
    (ChangeSpec.witness6 (enc := enc) (C := Try.checked) false ⟨#[], #[.slice none 0 0, .slice none 0 0], []⟩ 12 (by kernel_rfl) (by kernel_rfl) (by kernel_rfl) (by kernel_rfl))
    laidOut (by kernel_rfl) rfl rfl (by kernel_rfl) (fun ds hd => ?_) (fun W base args hsz hval htr => ?_)
  · match ds, hd with
    | [d0, d1], _ => rfl
  · obtain ⟨a0, a1, rfl⟩ : ∃ a0 a1, args = #[a0, a1] := by
      obtain ⟨l⟩ := args
      match l, hsz with
      | [a0, a1], _ => exact ⟨a0, a1, rfl⟩
    obtain ⟨o, cap, bs, rfl, h_o⟩ := openBytes (hval 0 _ a0 rfl rfl) (htr 0 _ a0 rfl rfl)
    obtain ⟨p, q, cs, rfl, h_p⟩ := openBytes (hval 1 _ a1 rfl rfl) (htr 1 _ a1 rfl rfl)
    exact lawSJoinC_c o cap bs p q cs W (by rw [factF_init]; exact ⟨h_o.1, h_p.1, h_o.2, h_p.2⟩)

theorem fnSureJoin_j0 : Rows.fnSureJoinRow.wf (OpenSpec.ofChange Rows.fnSureJoinSpec) = true := by kernel_rfl
theorem fnSureJoin_j3 : (Try.f4.params.all (Try.prog.readableRec ·) && namedTie Try.prog Rows.fnSureJoinRow.named Rows.fnSureJoinSpec.vars && (Rows.fnSureJoinRow.stops == []) && (Try.prog.stops == []) && (Rows.fnSureJoinRow.knobs == []) && (Try.prog.stopKnobs == [])) = true := by kernel_rfl
theorem fnSureJoin_j9 : (Rows.fnSureJoinRow.inPlace == Try.prog.inPlace 4) = true := by kernel_rfl
theorem fnSureJoin_j10 : (Rows.fnSureJoinRow.unfollowed == Try.prog.unfollowed 4) = true := by kernel_rfl
theorem fnSureJoin_j11 : (Rows.fnSureJoinRow.recurses == Try.prog.recurses 4) = true := by kernel_rfl
theorem fnSureJoin_j12 : (Rows.fnSureJoinRow.named == Try.prog.varsNamed 4) = true := by kernel_rfl
theorem fnSureJoin_closed : joinedFacts Try.prog 4 Try.f4 Rows.fnSureJoinSpec Rows.fnSureJoinRow = true :=
  joined_of fnSureJoin_j0 fxLaid fxMaps fnSureJoin_j3 fnSureJoin_j9 fnSureJoin_j10 fnSureJoin_j11 fnSureJoin_j12 (by kernel_rfl) (Eq.trans (by kernel_rfl) fxKeys) (by kernel_rfl) fxHeard fxEnter (Eq.trans (by rfl) fxLifts) (Eq.trans (by rfl) fxMake) (by kernel_rfl)
theorem fnSureJoin_holds : Rows.FnSureJoinSaid :=
  OpenClaim.holds_of_wide 4 Try.f4 rfl rfl rfl rfl rfl rfl rfl ⟨rfl, rfl, rfl, rfl, rfl⟩ rfl rfl rfl rfl rfl (by kernel_rfl) Try.func4 fnSureJoin_closed
    (of_decide_eq_true (by kernel_rfl)) (by unfold Func.isWrapper; first | (rw [if_pos (by decide +kernel)]; kernel_rfl) | (rw [if_neg (by decide +kernel)]; exact ⟨rfl, rfl⟩))
    (fun os started H enc _ => fnSureJoin_lifted os started H enc)
end Go.Proofs.Ytnnpmopnnamakaa
