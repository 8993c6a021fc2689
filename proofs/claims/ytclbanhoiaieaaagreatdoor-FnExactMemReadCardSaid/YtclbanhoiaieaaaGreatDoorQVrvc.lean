/-
  The program's MemRead returns what the reference's returns, for all texts. Conditions: none but that the listed variables hold what the program's text lays in them, which the card ties to the text.
-/
import Derived.Test.YtclbanhoiaieaaaGreatDoorVrvc
import Derived.Test.YtclbanhoiaieaaaGreatDoorVxvc
import Derived.Test.YtclbanhoiaieaaaGreatDoorTie
import Derived.Test.YtclbanhoiaieaaaGreatDoorCards
import Derived.Lay
set_option linter.unusedVariables false
set_option linter.unusedSimpArgs false
set_option maxRecDepth 100000
namespace Go.Proofs.YtclbanhoiaieaaaGreatDoor
open Go Go.Sx Go.ChangeShapes Go.WideShapes Go.ChangeAt Go.RowKit

theorem openStr {P : Program} {w : World} {r : Reach} {b0 : Nat} {t : TypeId} {v : Value} (ht : P.underlying t = some .string) (hval : Value.okWide P w r b0 t v) : ∃ s : Str, v = .string (txt s) := by
  obtain ⟨s, rfl⟩ := okWide_string ht hval
  exact ⟨s.data.toList, by cases s; simp [txt]⟩
theorem fnExactMemRead_met (os : Os) (args : Array Value) : laidMetH Tryz.prog Rows.fnExactMemReadRow.laid ((World.laidAll Tryz.prog os Rows.fnExactMemReadRow.laid).forCall (fun _ _ => 0) ⟨#[], args, []⟩).memory :=
  by rw [MakeChecks.laidMetH_plain _ _ _ (by kernel_rfl)]; exact laidMet_laidAll _ (by kernel_rfl) (by kernel_rfl)
theorem fnExactMemRead_lifted (os : Os) (started : os.Started) (H : Type) (enc : TypeId × Value → H) :
    ReturnsInHanded {} Tryz.checked os 3 .any (fun w args => (Rows.fnExactMemReadSpec.pre enc Tryz.prog Tryz.f3 [] false w args ∧ laidMetH Tryz.prog Rows.fnExactMemReadRow.laid w) ∧ sizedMet enc Tryz.prog Tryz.f3 (OpenSpec.ofChange Rows.fnExactMemReadSpec) false w args) (Rows.fnExactMemReadSpec.post enc Tryz.prog Tryz.f3 false true false false) := by
  refine lifted_of_walkL (C := Tryz.checked) (tb := 4) own started (by kernel_rfl) Tryz.func3
    (ChangeSpec.witness_shaped (enc := enc) (C := Tryz.checked) (os := os) (X := fun w _ => laidMetH Tryz.prog Rows.fnExactMemReadRow.laid w) false (World.laidAll Tryz.prog os Rows.fnExactMemReadRow.laid) #[.string ⟨#[]⟩] 12 (World.laidAll_os _ _ _) (World.shaped_of_ZipB (by kernel_rfl) (by kernel_rfl)) (by kernel_rfl) (by kernel_rfl) (by kernel_rfl) (fnExactMemRead_met os _))
    laidOut (by kernel_rfl) (by kernel_rfl) rfl (by kernel_rfl) (by kernel_rfl) (fun ds gs hd hg => ?_) (fun W base args hsz hval htr hL hSh => ?_)
  · obtain ⟨g, rfl⟩ : ∃ g, g = gs := ⟨_, rfl⟩
    match ds, hd with
    | [d0], _ => first
      | (match g, hg with | [_], _ => rfl)
      | (match g, hg with | [_, _], _ => rfl)
      | (match g, hg with | [_, _, _], _ => rfl)
  · obtain ⟨a0, rfl⟩ : ∃ a0, args = #[a0] := by
      obtain ⟨l⟩ := args
      match l, hsz with
      | [a0], _ => exact ⟨a0, rfl⟩
    obtain ⟨s, rfl⟩ := openStr (by kernel_rfl) (hval 0 _ a0 rfl rfl)
    exact lawMemReadC_c s W (by rw [factF_init]; exact ⟨tr_laid hL hSh (List.mem_of_getElem? (i := 2) rfl) (List.mem_of_getElem? (i := 6) rfl) (List.mem_of_getElem? (i := 4) rfl) (List.mem_of_getElem? (i := 5) rfl), trivial⟩)

theorem fnExactMemRead_j0 : Rows.fnExactMemReadRow.wf (OpenSpec.ofChange Rows.fnExactMemReadSpec) = true := by kernel_rfl
theorem fnExactMemRead_j3 : (Tryz.f3.params.all (Tryz.prog.readableRec ·) && namedTie Tryz.prog Rows.fnExactMemReadRow.named Rows.fnExactMemReadSpec.vars && (Rows.fnExactMemReadRow.stops == []) && (Tryz.prog.stops == []) && (Rows.fnExactMemReadRow.knobs == []) && (Tryz.prog.stopKnobs == [])) = true := by kernel_rfl
theorem fnExactMemRead_j9 : (Rows.fnExactMemReadRow.inPlace == Tryz.prog.inPlace 3) = true := by kernel_rfl
theorem fnExactMemRead_j10 : (Rows.fnExactMemReadRow.unfollowed == Tryz.prog.unfollowed 3) = true := by kernel_rfl
theorem fnExactMemRead_j11 : (Rows.fnExactMemReadRow.recurses == Tryz.prog.recurses 3) = true := by kernel_rfl
theorem fnExactMemRead_j12 : (Rows.fnExactMemReadRow.named == Tryz.prog.varsNamed 3) = true := by kernel_rfl
theorem fnExactMemRead_closed : joinedFacts Tryz.prog 3 Tryz.f3 Rows.fnExactMemReadSpec Rows.fnExactMemReadRow = true :=
  joined_of fnExactMemRead_j0 fxLaid fxMaps fnExactMemRead_j3 fnExactMemRead_j9 fnExactMemRead_j10 fnExactMemRead_j11 fnExactMemRead_j12 (by kernel_rfl) (Eq.trans (by kernel_rfl) fxKeys) (by kernel_rfl) fxHeard fxEnter (Eq.trans (by rfl) fxLifts) (Eq.trans (by rfl) fxMake) (by kernel_rfl)
theorem fnExactMemRead_row : Rows.FnExactMemReadSaid :=
  OpenClaim.holds_of_wide 3 Tryz.f3 rfl rfl rfl rfl rfl rfl rfl ⟨rfl, rfl, rfl, rfl, rfl⟩ rfl rfl rfl rfl rfl (by kernel_rfl) Tryz.func3 fnExactMemRead_closed
    (of_decide_eq_true (by kernel_rfl)) (by unfold Func.isWrapper; first | (rw [if_pos (by decide +kernel)]; kernel_rfl) | (rw [if_neg (by decide +kernel)]; exact ⟨rfl, rfl⟩))
    (fun os started H enc _ => fnExactMemRead_lifted os started H enc)
theorem fnExactMemRead_holds : Rows.FnExactMemReadCardSaid :=
  Claim7.holds_tied_plain_at .later [] Rows.fnExactMemReadCard.laidKinds true Rows.fnExactMemReadCard.stood.harness Rows.fnExactMemReadCard.stood.looks
    fnExactMemRead_row (fun _ h => by cases h) (by kernel_rfl) (fun _ h => by cases h) fnExactMemRead_row_tie rfl ⟨rfl, rfl⟩ (by kernel_rfl) rfl
    (fun f fn hf hfn => by
      obtain rfl : f = 3 := (Option.some.inj ((show Tryz.prog.funcNamed Rows.fnExactMemReadRow.func = some 3 by kernel_rfl).symm.trans hf)).symm
      obtain rfl : fn = Tryz.f3 := (Option.some.inj (Tryz.func3.symm.trans hfn)).symm
      refine ⟨by kernel_rfl, fun j t ht => ?_⟩
      have hall : (Tryz.f3.params.toList.all fun t => !Tryz.prog.wantsStandIn t) = true := by kernel_rfl
      have := List.all_eq_true.1 hall t (Array.mem_toList_iff.2 (Array.mem_of_getElem? ht))
      show Tryz.prog.wantsStandIn t = false
      simpa using this)
    (by kernel_rfl)
end Go.Proofs.YtclbanhoiaieaaaGreatDoor
