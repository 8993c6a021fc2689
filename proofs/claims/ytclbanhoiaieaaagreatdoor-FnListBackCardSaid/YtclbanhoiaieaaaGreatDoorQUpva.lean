/-
  Lists written and read back. Conditions: none but that the listed variables hold what the program's text lays in them, which the card ties to the text.
-/
import Derived.Test.YtclbanhoiaieaaaGreatDoorUpva
import Derived.Test.YtclbanhoiaieaaaGreatDoorUxva
import Derived.Test.YtclbanhoiaieaaaGreatDoorTie
import Derived.Test.YtclbanhoiaieaaaGreatDoorCards
import Derived.Lay
set_option linter.unusedVariables false
set_option linter.unusedSimpArgs false
set_option maxRecDepth 100000
namespace Go.Proofs.YtclbanhoiaieaaaGreatDoor
open Go Go.Sx Go.ChangeShapes Go.WideShapes Go.ChangeAt Go.RowKit

theorem fnListBack_met (os : Os) (args : Array Value) : laidMetH Tryz.prog Rows.fnListBackRow.laid ((World.laidAll Tryz.prog os Rows.fnListBackRow.laid).forCall (fun _ _ => 0) ⟨#[], args, []⟩).memory :=
  by rw [MakeChecks.laidMetH_plain _ _ _ (by kernel_rfl)]; exact laidMet_laidAll _ (by kernel_rfl) (by kernel_rfl)
theorem fnListBack_lifted (os : Os) (started : os.Started) (H : Type) (enc : TypeId × Value → H) :
    ReturnsInHanded {} Tryz.checked os 8 .any (fun w args => (Rows.fnListBackSpec.pre enc Tryz.prog Tryz.f8 [] false w args ∧ laidMetH Tryz.prog Rows.fnListBackRow.laid w) ∧ sizedMet enc Tryz.prog Tryz.f8 (OpenSpec.ofChange Rows.fnListBackSpec) false w args) (Rows.fnListBackSpec.post enc Tryz.prog Tryz.f8 false true false false) := by
  refine lifted_of_walkL (C := Tryz.checked) (tb := 4) own started (by kernel_rfl) Tryz.func8
    (ChangeSpec.witness_shaped (enc := enc) (C := Tryz.checked) (os := os) (X := fun w _ => laidMetH Tryz.prog Rows.fnListBackRow.laid w) false (World.laidAll Tryz.prog os Rows.fnListBackRow.laid) #[.slice none 0 0] 12 (World.laidAll_os _ _ _) (World.shaped_of_ZipB (by kernel_rfl) (by kernel_rfl)) (by kernel_rfl) (by kernel_rfl) (by kernel_rfl) (fnListBack_met os _))
    laidOut (by kernel_rfl) (by kernel_rfl) rfl (by kernel_rfl) (by kernel_rfl) (fun ds gs hd hg => ?_) (fun W base args hsz hval htr hL hSh => ?_)
  · obtain ⟨g, rfl⟩ : ∃ g, g = gs := ⟨_, rfl⟩
    match ds, hd with
    | [d0], _ => first
      | (match g, hg with | [_], _ => rfl)
      | (match g, hg with | [_, _], _ => rfl)
      | (match g, hg with | [_, _, _], _ => rfl)
  · obtain ⟨a0, rfl⟩ : ∃ a0, args = #[a0] := by
      obtain ⟨l⟩ := args
      match l, hsz with
      | [a0], _ => exact ⟨a0, rfl⟩
    obtain ⟨o, cap, bs, rfl, h_o⟩ := openBytes (hval 0 _ a0 rfl rfl) (htr 0 _ a0 rfl rfl)
    exact lawListBackC_c o cap bs W (by rw [factF_init]; exact ⟨h_o.1, ⟨te_laid hL hSh (List.mem_of_getElem? (i := 2) rfl) (List.mem_of_getElem? (i := 6) rfl) (List.mem_of_getElem? (i := 7) rfl) (List.mem_of_getElem? (i := 4) rfl) (List.mem_of_getElem? (i := 5) rfl), laid_strs (zs := words11) hL (List.mem_of_getElem? (i := 8) rfl) (t := 174) (e := 9) (k := 11) (by kernel_rfl) (by kernel_rfl) (by kernel_rfl) (by kernel_rfl) (by kernel_rfl) (by kernel_rfl)⟩, h_o.2⟩)

theorem fnListBack_j0 : Rows.fnListBackRow.wf (OpenSpec.ofChange Rows.fnListBackSpec) = true := by kernel_rfl
theorem fnListBack_j3 : (Tryz.f8.params.all (Tryz.prog.readableRec ·) && namedTie Tryz.prog Rows.fnListBackRow.named Rows.fnListBackSpec.vars && (Rows.fnListBackRow.stops == []) && (Tryz.prog.stops == []) && (Rows.fnListBackRow.knobs == []) && (Tryz.prog.stopKnobs == [])) = true := by kernel_rfl
theorem fnListBack_j9 : (Rows.fnListBackRow.inPlace == Tryz.prog.inPlace 8) = true := by kernel_rfl
theorem fnListBack_j10 : (Rows.fnListBackRow.unfollowed == Tryz.prog.unfollowed 8) = true := by kernel_rfl
theorem fnListBack_j11 : (Rows.fnListBackRow.recurses == Tryz.prog.recurses 8) = true := by kernel_rfl
theorem fnListBack_j12 : (Rows.fnListBackRow.named == Tryz.prog.varsNamed 8) = true := by kernel_rfl
theorem fnListBack_closed : joinedFacts Tryz.prog 8 Tryz.f8 Rows.fnListBackSpec Rows.fnListBackRow = true :=
  joined_of fnListBack_j0 fxLaid fxMaps fnListBack_j3 fnListBack_j9 fnListBack_j10 fnListBack_j11 fnListBack_j12 (by kernel_rfl) (Eq.trans (by kernel_rfl) fxKeys) (by kernel_rfl) fxHeard fxEnter (Eq.trans (by rfl) fxLifts) (Eq.trans (by rfl) fxMake) (by kernel_rfl)
theorem fnListBack_row : Rows.FnListBackSaid :=
  OpenClaim.holds_of_wide 8 Tryz.f8 rfl rfl rfl rfl rfl rfl rfl ⟨rfl, rfl, rfl, rfl, rfl⟩ rfl rfl rfl rfl rfl (by kernel_rfl) Tryz.func8 fnListBack_closed
    (of_decide_eq_true (by kernel_rfl)) (by unfold Func.isWrapper; first | (rw [if_pos (by decide +kernel)]; kernel_rfl) | (rw [if_neg (by decide +kernel)]; exact ⟨rfl, rfl⟩))
    (fun os started H enc _ => fnListBack_lifted os started H enc)
theorem fnListBack_holds : Rows.FnListBackCardSaid :=
  Claim7.holds_tied_plain_at .later [] Rows.fnListBackCard.laidKinds true Rows.fnListBackCard.stood.harness Rows.fnListBackCard.stood.looks
    fnListBack_row (fun _ h => by cases h) (by kernel_rfl) (fun _ h => by cases h) fnListBack_row_tie rfl ⟨rfl, rfl⟩ (by kernel_rfl) rfl
    (fun f fn hf hfn => by
      obtain rfl : f = 8 := (Option.some.inj ((show Tryz.prog.funcNamed Rows.fnListBackRow.func = some 8 by kernel_rfl).symm.trans hf)).symm
      obtain rfl : fn = Tryz.f8 := (Option.some.inj (Tryz.func8.symm.trans hfn)).symm
      refine ⟨by kernel_rfl, fun j t ht => ?_⟩
      have hall : (Tryz.f8.params.toList.all fun t => !Tryz.prog.wantsStandIn t) = true := by kernel_rfl
      have := List.all_eq_true.1 hall t (Array.mem_toList_iff.2 (Array.mem_of_getElem? ht))
      show Tryz.prog.wantsStandIn t = false
      simpa using this)
    (by kernel_rfl)
end Go.Proofs.YtclbanhoiaieaaaGreatDoor
