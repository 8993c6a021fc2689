/-
  Running many scans at once is running them one after the other, instruction by instruction, for all codes. Conditions: none.
-/
import Derived.Test.YtfhnbdlkiemaeaaGreatLlpk
import Derived.Test.YtfhnbdlkiemaeaaGreatOpk
set_option linter.unusedVariables false
set_option linter.unusedSimpArgs false
set_option maxRecDepth 100000
namespace Go.Proofs.YtfhnbdlkiemaeaaGreat
open Go Go.Sx Go.ChangeShapes Go.WideShapes Go.ChangeAt Go.RowKit

theorem fnMachFold_lifted (os : Os) (started : os.Started) (H : Type) (enc : TypeId × Value → H) :
    ReturnsInHanded {} Tryz.checked os 7 .any (Rows.fnMachFoldSpec.pre6 enc Tryz.prog Tryz.f7 Rows.fnMachFoldRow.domain false) (Rows.fnMachFoldSpec.post enc Tryz.prog Tryz.f7 false true false false) := by
  refine lifted_of_walk (C := Tryz.checked) (tb := 4) own started (by kernel_rfl) Tryz.func7
    (ChangeSpec.witness6 (enc := enc) (C := Tryz.checked) false ⟨#[], #[.slice none 0 0, .slice none 0 0], []⟩ 12 (by kernel_rfl) (by kernel_rfl) (by kernel_rfl) (by kernel_rfl))
    laidOut (by kernel_rfl) rfl rfl (by kernel_rfl) (fun ds hd => ?_) (fun W base args hsz hval htr => ?_)
  · match ds, hd with
    | [d0, d1], _ => rfl
  · obtain ⟨a0, a1, rfl⟩ : ∃ a0 a1, args = #[a0, a1] := by
      obtain ⟨l⟩ := args
      match l, hsz with
      | [a0, a1], _ => exact ⟨a0, a1, rfl⟩
    obtain ⟨o, cap, bs, rfl, h_o⟩ := openBytes (hval 0 _ a0 rfl rfl) (htr 0 _ a0 rfl rfl)
    obtain ⟨p, q, cs, rfl, h_p⟩ := openBytes (hval 1 _ a1 rfl rfl) (htr 1 _ a1 rfl rfl)
    exact lawMFoldC_c o cap bs p q cs W (by rw [factF_init]; exact ⟨h_o.1, h_p.1, h_o.2, h_p.2⟩)

theorem fnMachFold_j0 : Rows.fnMachFoldRow.wf (OpenSpec.ofChange Rows.fnMachFoldSpec) = true := by kernel_rfl
theorem fnMachFold_j3 : (Tryz.f7.params.all (Tryz.prog.readableRec ·) && namedTie Tryz.prog Rows.fnMachFoldRow.named Rows.fnMachFoldSpec.vars && (Rows.fnMachFoldRow.stops == []) && (Tryz.prog.stops == []) && (Rows.fnMachFoldRow.knobs == []) && (Tryz.prog.stopKnobs == [])) = true := by kernel_rfl
theorem fnMachFold_j9 : (Rows.fnMachFoldRow.inPlace == Tryz.prog.inPlace 7) = true := by kernel_rfl
theorem fnMachFold_j10 : (Rows.fnMachFoldRow.unfollowed == Tryz.prog.unfollowed 7) = true := by kernel_rfl
theorem fnMachFold_j11 : (Rows.fnMachFoldRow.recurses == Tryz.prog.recurses 7) = true := by kernel_rfl
theorem fnMachFold_j12 : (Rows.fnMachFoldRow.named == Tryz.prog.varsNamed 7) = true := by kernel_rfl
theorem fnMachFold_closed : joinedFacts Tryz.prog 7 Tryz.f7 Rows.fnMachFoldSpec Rows.fnMachFoldRow = true :=
  joined_of fnMachFold_j0 fxLaid fxMaps fnMachFold_j3 fnMachFold_j9 fnMachFold_j10 fnMachFold_j11 fnMachFold_j12 (by kernel_rfl) (Eq.trans (by kernel_rfl) fxKeys) (by kernel_rfl) fxHeard fxEnter (Eq.trans (by rfl) fxLifts) (Eq.trans (by rfl) fxMake) (by kernel_rfl)
theorem fnMachFold_holds : Rows.FnMachFoldSaid :=
  OpenClaim.holds_of_wide 7 Tryz.f7 rfl rfl rfl rfl rfl rfl rfl ⟨rfl, rfl, rfl, rfl, rfl⟩ rfl rfl rfl rfl rfl (by kernel_rfl) Tryz.func7 fnMachFold_closed
    (of_decide_eq_true (by kernel_rfl)) (by unfold Func.isWrapper; first | (rw [if_pos (by decide +kernel)]; kernel_rfl) | (rw [if_neg (by decide +kernel)]; exact ⟨rfl, rfl⟩))
    (fun os started H enc _ => fnMachFold_lifted os started H enc)
end Go.Proofs.YtfhnbdlkiemaeaaGreat
