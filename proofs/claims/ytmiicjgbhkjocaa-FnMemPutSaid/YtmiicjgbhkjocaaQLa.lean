/-
  Setting one bit of a memory changes that bit and nothing else, for all codes. Conditions: none.
-/
import Derived.Test.YtmiicjgbhkjocaaLa
import Derived.Test.YtmiicjgbhkjocaaO
set_option linter.unusedVariables false
set_option linter.unusedSimpArgs false
set_option maxRecDepth 100000
namespace Go.Proofs.Ytmiicjgbhkjocaa
open Go Go.Sx Go.ChangeShapes Go.WideShapes Go.ChangeAt Go.RowKit

theorem fnMemPut_lifted (os : Os) (started : os.Started) (H : Type) (enc : TypeId × Value → H) :
    ReturnsInHanded {} Try.checked os 5 .any (Rows.fnMemPutSpec.pre6 enc Try.prog Try.f5 Rows.fnMemPutRow.domain false) (Rows.fnMemPutSpec.post enc Try.prog Try.f5 false true false false) := by
  refine lifted_of_walk (C := Try.checked) (tb := 4) own started (by kernel_rfl) Try.func5
    (ChangeSpec.witness6 (enc := enc) (C := Try.checked) false ⟨#[], #[.slice none 0 0, .slice none 0 0], []⟩ 12 (by kernel_rfl) (by kernel_rfl) (by kernel_rfl) (by kernel_rfl))
    laidOut (by kernel_rfl) rfl rfl (by kernel_rfl) (fun ds hd => ?_) (fun W base args hsz hval htr => ?_)
  · match ds, hd with
    | [d0, d1], _ => rfl
  · obtain ⟨a0, a1, rfl⟩ : ∃ a0 a1, args = #[a0, a1] := by
      obtain ⟨l⟩ := args
      match l, hsz with
      | [a0, a1], _ => exact ⟨a0, a1, rfl⟩
    obtain ⟨o, cap, bs, rfl, h_o⟩ := openBytes (hval 0 _ a0 rfl rfl) (htr 0 _ a0 rfl rfl)
    obtain ⟨o2, cap2, bs2, rfl, h_o2⟩ := openBytes (hval 1 _ a1 rfl rfl) (htr 1 _ a1 rfl rfl)
    exact lawMPutC_c o cap bs o2 cap2 bs2 W (by rw [factF_init]; exact ⟨h_o.1, h_o2.1, h_o.2, h_o2.2⟩)

theorem fnMemPut_j0 : Rows.fnMemPutRow.wf (OpenSpec.ofChange Rows.fnMemPutSpec) = true := by kernel_rfl
theorem fnMemPut_j3 : (Try.f5.params.all (Try.prog.readableRec ·) && namedTie Try.prog Rows.fnMemPutRow.named Rows.fnMemPutSpec.vars && (Rows.fnMemPutRow.stops == []) && (Try.prog.stops == []) && (Rows.fnMemPutRow.knobs == []) && (Try.prog.stopKnobs == [])) = true := by kernel_rfl
theorem fnMemPut_j9 : (Rows.fnMemPutRow.inPlace == Try.prog.inPlace 5) = true := by kernel_rfl
theorem fnMemPut_j10 : (Rows.fnMemPutRow.unfollowed == Try.prog.unfollowed 5) = true := by kernel_rfl
theorem fnMemPut_j11 : (Rows.fnMemPutRow.recurses == Try.prog.recurses 5) = true := by kernel_rfl
theorem fnMemPut_j12 : (Rows.fnMemPutRow.named == Try.prog.varsNamed 5) = true := by kernel_rfl
theorem fnMemPut_closed : joinedFacts Try.prog 5 Try.f5 Rows.fnMemPutSpec Rows.fnMemPutRow = true :=
  joined_of fnMemPut_j0 fxLaid fxMaps fnMemPut_j3 fnMemPut_j9 fnMemPut_j10 fnMemPut_j11 fnMemPut_j12 (by kernel_rfl) (Eq.trans (by kernel_rfl) fxKeys) (by kernel_rfl) fxHeard fxEnter (Eq.trans (by rfl) fxLifts) (Eq.trans (by rfl) fxMake) (by kernel_rfl)
theorem fnMemPut_holds : Rows.FnMemPutSaid :=
  OpenClaim.holds_of_wide 5 Try.f5 rfl rfl rfl rfl rfl rfl rfl ⟨rfl, rfl, rfl, rfl, rfl⟩ rfl rfl rfl rfl rfl (by kernel_rfl) Try.func5 fnMemPut_closed
    (of_decide_eq_true (by kernel_rfl)) (by unfold Func.isWrapper; first | (rw [if_pos (by decide +kernel)]; kernel_rfl) | (rw [if_neg (by decide +kernel)]; exact ⟨rfl, rfl⟩))
    (fun os started H enc _ => fnMemPut_lifted os started H enc)
end Go.Proofs.Ytmiicjgbhkjocaa
