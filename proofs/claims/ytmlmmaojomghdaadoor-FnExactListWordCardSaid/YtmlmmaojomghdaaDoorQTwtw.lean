/-
  The program's ListWord returns what the reference's returns, for all arguments. Conditions: none but that the listed variable holds what the program's text lays in it, which the card ties to the text.
-/
import Derived.Test.YtmlmmaojomghdaaDoorTwtw
import Derived.Test.YtmlmmaojomghdaaDoorOltw
import Derived.Test.YtmlmmaojomghdaaDoorTie
import Derived.Test.YtmlmmaojomghdaaDoorCards
set_option linter.unusedVariables false
set_option linter.unusedSimpArgs false
set_option maxRecDepth 100000
namespace Go.Proofs.YtmlmmaojomghdaaDoor
open Go Go.Sx Go.ChangeShapes Go.WideShapes Go.ChangeAt Go.RowKit

theorem fnExactListWord_met (os : Os) (args : Array Value) : laidMetH Tryd.prog Rows.fnExactListWordRow.laid ((World.doorLaid Tryd.prog 400 os).forCall (fun _ _ => 0) ⟨#[], args, []⟩).memory :=
  laidMetH_of_parts3 (fuel := 8) (laidMet_of_run' 8 (by kernel_rfl) (by kernel_rfl)) (by kernel_rfl) (by kernel_rfl)
theorem fnExactListWord_lifted (os : Os) (started : os.Started) (H : Type) (enc : TypeId × Value → H) :
    ReturnsInHanded {} Tryd.checked os 3 .any (fun w args => (Rows.fnExactListWordSpec.pre enc Tryd.prog Tryd.f3 [] false w args ∧ laidMetH Tryd.prog Rows.fnExactListWordRow.laid w) ∧ sizedMet enc Tryd.prog Tryd.f3 (OpenSpec.ofChange Rows.fnExactListWordSpec) false w args) (Rows.fnExactListWordSpec.post enc Tryd.prog Tryd.f3 false true false false) := by
  refine lifted_of_walkL (C := Tryd.checked) (tb := 4) own started (by kernel_rfl) Tryd.func3
    (ChangeSpec.witness_shaped (enc := enc) (C := Tryd.checked) (os := os) (X := fun w _ => laidMetH Tryd.prog Rows.fnExactListWordRow.laid w) false (World.doorLaid Tryd.prog 400 os) #[.int .i64 0] 12 rfl (World.shaped_of_RefB (by kernel_rfl) (by kernel_rfl)) (by kernel_rfl) (by kernel_rfl) (by kernel_rfl) (fnExactListWord_met os _))
    laidOut (by kernel_rfl) (by kernel_rfl) rfl (by kernel_rfl) (by kernel_rfl) (fun ds gs hd hg => ?_) (fun W base args hsz hval htr hL => ?_)
  · obtain ⟨g, rfl⟩ : ∃ g, g = gs := ⟨_, rfl⟩
    match ds, hd with
    | [d0], _ => first
      | (match g, hg with | [_], _ => rfl)
      | (match g, hg with | [_, _], _ => rfl)
      | (match g, hg with | [_, _, _], _ => rfl)
  · obtain ⟨a0, rfl⟩ : ∃ a0, args = #[a0] := by
      obtain ⟨l⟩ := args
      match l, hsz with
      | [a0], _ => exact ⟨a0, rfl⟩
    obtain ⟨c, rfl, h_c⟩ := openInt (k := .i64) (by kernel_rfl) (hval 0 _ a0 rfl rfl)
    exact lawListWordC_c c W (by rw [factF_init]; exact laid_strs (zs := words11) hL (List.mem_of_getElem? (i := 0) rfl) (t := 76) (e := 9) (k := 11) (by kernel_rfl) (by kernel_rfl) (by kernel_rfl) (by kernel_rfl) (by kernel_rfl) (by kernel_rfl))

theorem fnExactListWord_j0 : Rows.fnExactListWordRow.wf (OpenSpec.ofChange Rows.fnExactListWordSpec) = true := by kernel_rfl
theorem fnExactListWord_j3 : (Tryd.f3.params.all (Tryd.prog.readableRec ·) && namedTie Tryd.prog Rows.fnExactListWordRow.named Rows.fnExactListWordSpec.vars && (Rows.fnExactListWordRow.stops == []) && (Tryd.prog.stops == []) && (Rows.fnExactListWordRow.knobs == []) && (Tryd.prog.stopKnobs == [])) = true := by kernel_rfl
theorem fnExactListWord_j9 : (Rows.fnExactListWordRow.inPlace == Tryd.prog.inPlace 3) = true := by kernel_rfl
theorem fnExactListWord_j10 : (Rows.fnExactListWordRow.unfollowed == Tryd.prog.unfollowed 3) = true := by kernel_rfl
theorem fnExactListWord_j11 : (Rows.fnExactListWordRow.recurses == Tryd.prog.recurses 3) = true := by kernel_rfl
theorem fnExactListWord_j12 : (Rows.fnExactListWordRow.named == Tryd.prog.varsNamed 3) = true := by kernel_rfl
theorem fnExactListWord_closed : joinedFacts Tryd.prog 3 Tryd.f3 Rows.fnExactListWordSpec Rows.fnExactListWordRow = true :=
  joined_of fnExactListWord_j0 fxLaid fxMaps fnExactListWord_j3 fnExactListWord_j9 fnExactListWord_j10 fnExactListWord_j11 fnExactListWord_j12 (by kernel_rfl) (Eq.trans (by kernel_rfl) fxKeys) (by kernel_rfl) fxHeard fxEnter (Eq.trans (by rfl) fxLifts) (Eq.trans (by rfl) fxMake) (by kernel_rfl)
theorem fnExactListWord_row : Rows.FnExactListWordSaid :=
  OpenClaim.holds_of_wide 3 Tryd.f3 rfl rfl rfl rfl rfl rfl rfl ⟨rfl, rfl, rfl, rfl, rfl⟩ rfl rfl rfl rfl rfl (by kernel_rfl) Tryd.func3 fnExactListWord_closed
    (of_decide_eq_true (by kernel_rfl)) (by unfold Func.isWrapper; first | (rw [if_pos (by decide +kernel)]; kernel_rfl) | (rw [if_neg (by decide +kernel)]; exact ⟨rfl, rfl⟩))
    (fun os started H enc _ => fnExactListWord_lifted os started H enc)
theorem fnExactListWord_holds : Rows.FnExactListWordCardSaid :=
  Claim7.holds_tied_plain_at .later [] Rows.fnExactListWordCard.laidKinds true Rows.fnExactListWordCard.stood.harness Rows.fnExactListWordCard.stood.looks
    fnExactListWord_row (fun _ h => by cases h) (by kernel_rfl) (fun _ h => by cases h) fnExactListWord_row_tie rfl ⟨rfl, rfl⟩ (by kernel_rfl) rfl
    (fun f fn hf hfn => by
      obtain rfl : f = 3 := (Option.some.inj ((show Tryd.prog.funcNamed Rows.fnExactListWordRow.func = some 3 by kernel_rfl).symm.trans hf)).symm
      obtain rfl : fn = Tryd.f3 := (Option.some.inj (Tryd.func3.symm.trans hfn)).symm
      refine ⟨by kernel_rfl, fun j t ht => ?_⟩
      have hall : (Tryd.f3.params.toList.all fun t => !Tryd.prog.wantsStandIn t) = true := by kernel_rfl
      have := List.all_eq_true.1 hall t (Array.mem_toList_iff.2 (Array.mem_of_getElem? ht))
      show Tryd.prog.wantsStandIn t = false
      simpa using this)
    (by kernel_rfl)
end Go.Proofs.YtmlmmaojomghdaaDoor
