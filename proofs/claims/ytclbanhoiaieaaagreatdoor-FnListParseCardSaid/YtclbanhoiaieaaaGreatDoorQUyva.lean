/-
  The assembler accepts exactly the texts that are instruction lists, and names the first fault of all others. Conditions: none but that the listed variables hold what the program's text lays in them, which the card ties to the text.
-/
import Derived.Test.YtclbanhoiaieaaaGreatDoorUyva
import Derived.Test.YtclbanhoiaieaaaGreatDoorUxva
import Derived.Test.YtclbanhoiaieaaaGreatDoorTie
import Derived.Test.YtclbanhoiaieaaaGreatDoorCards
import Derived.Lay
set_option linter.unusedVariables false
set_option linter.unusedSimpArgs false
set_option maxRecDepth 100000
namespace Go.Proofs.YtclbanhoiaieaaaGreatDoor
open Go Go.Sx Go.ChangeShapes Go.WideShapes Go.ChangeAt Go.RowKit

theorem fnListParse_met (os : Os) (args : Array Value) : laidMetH Tryz.prog Rows.fnListParseRow.laid ((World.laidAll Tryz.prog os Rows.fnListParseRow.laid).forCall (fun _ _ => 0) ⟨#[], args, []⟩).memory :=
  by rw [MakeChecks.laidMetH_plain _ _ _ (by kernel_rfl)]; exact laidMet_laidAll _ (by kernel_rfl) (by kernel_rfl)
theorem fnListParse_lifted (os : Os) (started : os.Started) (H : Type) (enc : TypeId × Value → H) :
    ReturnsInHanded {} Tryz.checked os 5 .any (fun w args => (Rows.fnListParseSpec.pre enc Tryz.prog Tryz.f5 [] false w args ∧ laidMetH Tryz.prog Rows.fnListParseRow.laid w) ∧ sizedMet enc Tryz.prog Tryz.f5 (OpenSpec.ofChange Rows.fnListParseSpec) false w args) (Rows.fnListParseSpec.post enc Tryz.prog Tryz.f5 false true false false) := by
  refine lifted_of_walkL (C := Tryz.checked) (tb := 4) own started (by kernel_rfl) Tryz.func5
    (ChangeSpec.witness_shaped (enc := enc) (C := Tryz.checked) (os := os) (X := fun w _ => laidMetH Tryz.prog Rows.fnListParseRow.laid w) false (World.laidAll Tryz.prog os Rows.fnListParseRow.laid) #[.slice none 0 0] 12 (World.laidAll_os _ _ _) (World.shaped_of_ZipB (by kernel_rfl) (by kernel_rfl)) (by kernel_rfl) (by kernel_rfl) (by kernel_rfl) (fnListParse_met os _))
    laidOut (by kernel_rfl) (by kernel_rfl) rfl (by kernel_rfl) (by kernel_rfl) (fun ds gs hd hg => ?_) (fun W base args hsz hval htr hL hSh => ?_)
  · obtain ⟨g, rfl⟩ : ∃ g, g = gs := ⟨_, rfl⟩
    match ds, hd with
    | [d0], _ => first
      | (match g, hg with | [_], _ => rfl)
      | (match g, hg with | [_, _], _ => rfl)
      | (match g, hg with | [_, _, _], _ => rfl)
  · obtain ⟨a0, rfl⟩ : ∃ a0, args = #[a0] := by
      obtain ⟨l⟩ := args
      match l, hsz with
      | [a0], _ => exact ⟨a0, rfl⟩
    obtain ⟨o, cap, bs, rfl, h_o⟩ := openBytes (hval 0 _ a0 rfl rfl) (htr 0 _ a0 rfl rfl)
    exact lawListParse2C_c o cap bs W (by rw [factF_init]; exact ⟨h_o.1, ⟨te_laid hL hSh (List.mem_of_getElem? (i := 2) rfl) (List.mem_of_getElem? (i := 6) rfl) (List.mem_of_getElem? (i := 7) rfl) (List.mem_of_getElem? (i := 4) rfl) (List.mem_of_getElem? (i := 5) rfl), laid_strs (zs := words11) hL (List.mem_of_getElem? (i := 8) rfl) (t := 174) (e := 9) (k := 11) (by kernel_rfl) (by kernel_rfl) (by kernel_rfl) (by kernel_rfl) (by kernel_rfl) (by kernel_rfl)⟩, h_o.2⟩)

theorem fnListParse_j0 : Rows.fnListParseRow.wf (OpenSpec.ofChange Rows.fnListParseSpec) = true := by kernel_rfl
theorem fnListParse_j3 : (Tryz.f5.params.all (Tryz.prog.readableRec ·) && namedTie Tryz.prog Rows.fnListParseRow.named Rows.fnListParseSpec.vars && (Rows.fnListParseRow.stops == []) && (Tryz.prog.stops == []) && (Rows.fnListParseRow.knobs == []) && (Tryz.prog.stopKnobs == [])) = true := by kernel_rfl
theorem fnListParse_j9 : (Rows.fnListParseRow.inPlace == Tryz.prog.inPlace 5) = true := by kernel_rfl
theorem fnListParse_j10 : (Rows.fnListParseRow.unfollowed == Tryz.prog.unfollowed 5) = true := by kernel_rfl
theorem fnListParse_j11 : (Rows.fnListParseRow.recurses == Tryz.prog.recurses 5) = true := by kernel_rfl
theorem fnListParse_j12 : (Rows.fnListParseRow.named == Tryz.prog.varsNamed 5) = true := by kernel_rfl
theorem fnListParse_closed : joinedFacts Tryz.prog 5 Tryz.f5 Rows.fnListParseSpec Rows.fnListParseRow = true :=
  joined_of fnListParse_j0 fxLaid fxMaps fnListParse_j3 fnListParse_j9 fnListParse_j10 fnListParse_j11 fnListParse_j12 (by kernel_rfl) (Eq.trans (by kernel_rfl) fxKeys) (by kernel_rfl) fxHeard fxEnter (Eq.trans (by rfl) fxLifts) (Eq.trans (by rfl) fxMake) (by kernel_rfl)
theorem fnListParse_row : Rows.FnListParseSaid :=
  OpenClaim.holds_of_wide 5 Tryz.f5 rfl rfl rfl rfl rfl rfl rfl ⟨rfl, rfl, rfl, rfl, rfl⟩ rfl rfl rfl rfl rfl (by kernel_rfl) Tryz.func5 fnListParse_closed
    (of_decide_eq_true (by kernel_rfl)) (by unfold Func.isWrapper; first | (rw [if_pos (by decide +kernel)]; kernel_rfl) | (rw [if_neg (by decide +kernel)]; exact ⟨rfl, rfl⟩))
    (fun os started H enc _ => fnListParse_lifted os started H enc)
theorem fnListParse_holds : Rows.FnListParseCardSaid :=
  Claim7.holds_tied_plain_at .later [] Rows.fnListParseCard.laidKinds true Rows.fnListParseCard.stood.harness Rows.fnListParseCard.stood.looks
    fnListParse_row (fun _ h => by cases h) (by kernel_rfl) (fun _ h => by cases h) fnListParse_row_tie rfl ⟨rfl, rfl⟩ (by kernel_rfl) rfl
    (fun f fn hf hfn => by
      obtain rfl : f = 5 := (Option.some.inj ((show Tryz.prog.funcNamed Rows.fnListParseRow.func = some 5 by kernel_rfl).symm.trans hf)).symm
      obtain rfl : fn = Tryz.f5 := (Option.some.inj (Tryz.func5.symm.trans hfn)).symm
      refine ⟨by kernel_rfl, fun j t ht => ?_⟩
      have hall : (Tryz.f5.params.toList.all fun t => !Tryz.prog.wantsStandIn t) = true := by kernel_rfl
      have := List.all_eq_true.1 hall t (Array.mem_toList_iff.2 (Array.mem_of_getElem? ht))
      show Tryz.prog.wantsStandIn t = false
      simpa using this)
    (by kernel_rfl)
end Go.Proofs.YtclbanhoiaieaaaGreatDoor
