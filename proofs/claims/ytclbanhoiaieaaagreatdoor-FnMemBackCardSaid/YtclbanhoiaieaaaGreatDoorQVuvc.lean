/-
  A memory that is written as text is read back to the last bit. Conditions: none but that the listed variables hold what the program's text lays in them, which the card ties to the text.
-/
import Derived.Test.YtclbanhoiaieaaaGreatDoorVuvc
import Derived.Test.YtclbanhoiaieaaaGreatDoorVxvc
import Derived.Test.YtclbanhoiaieaaaGreatDoorTie
import Derived.Test.YtclbanhoiaieaaaGreatDoorCards
import Derived.Lay
set_option linter.unusedVariables false
set_option linter.unusedSimpArgs false
set_option maxRecDepth 100000
namespace Go.Proofs.YtclbanhoiaieaaaGreatDoor
open Go Go.Sx Go.ChangeShapes Go.WideShapes Go.ChangeAt Go.RowKit

theorem fnMemBack_met (os : Os) (args : Array Value) : laidMetH Tryz.prog Rows.fnMemBackRow.laid ((World.laidAll Tryz.prog os Rows.fnMemBackRow.laid).forCall (fun _ _ => 0) ⟨#[], args, []⟩).memory :=
  by rw [MakeChecks.laidMetH_plain _ _ _ (by kernel_rfl)]; exact laidMet_laidAll _ (by kernel_rfl) (by kernel_rfl)
theorem fnMemBack_lifted (os : Os) (started : os.Started) (H : Type) (enc : TypeId × Value → H) :
    ReturnsInHanded {} Tryz.checked os 4 .any (fun w args => (Rows.fnMemBackSpec.pre enc Tryz.prog Tryz.f4 [] false w args ∧ laidMetH Tryz.prog Rows.fnMemBackRow.laid w) ∧ sizedMet enc Tryz.prog Tryz.f4 (OpenSpec.ofChange Rows.fnMemBackSpec) false w args) (Rows.fnMemBackSpec.post enc Tryz.prog Tryz.f4 false true false false) := by
  refine lifted_of_walkL (C := Tryz.checked) (tb := 4) own started (by kernel_rfl) Tryz.func4
    (ChangeSpec.witness_shaped (enc := enc) (C := Tryz.checked) (os := os) (X := fun w _ => laidMetH Tryz.prog Rows.fnMemBackRow.laid w) false (World.laidAll Tryz.prog os Rows.fnMemBackRow.laid) #[.slice none 0 0, .slice none 0 0] 12 (World.laidAll_os _ _ _) (World.shaped_of_ZipB (by kernel_rfl) (by kernel_rfl)) (by kernel_rfl) (by kernel_rfl) (by kernel_rfl) (fnMemBack_met os _))
    laidOut (by kernel_rfl) (by kernel_rfl) rfl (by kernel_rfl) (by kernel_rfl) (fun ds gs hd hg => ?_) (fun W base args hsz hval htr hL hSh => ?_)
  · obtain ⟨g, rfl⟩ : ∃ g, g = gs := ⟨_, rfl⟩
    match ds, hd with
    | [d0, d1], _ => first
      | (match g, hg with | [_], _ => rfl)
      | (match g, hg with | [_, _], _ => rfl)
      | (match g, hg with | [_, _, _], _ => rfl)
  · obtain ⟨a0, a1, rfl⟩ : ∃ a0 a1, args = #[a0, a1] := by
      obtain ⟨l⟩ := args
      match l, hsz with
      | [a0, a1], _ => exact ⟨a0, a1, rfl⟩
    obtain ⟨o, cap, bs, rfl, h_o⟩ := openBytes (hval 0 _ a0 rfl rfl) (htr 0 _ a0 rfl rfl)
    obtain ⟨o2, cap2, cs, rfl, h_o2⟩ := openBytes (hval 1 _ a1 rfl rfl) (htr 1 _ a1 rfl rfl)
    exact lawMemBackC_c o cap bs o2 cap2 cs W (by rw [factF_init]; exact ⟨h_o.1, h_o2.1, tr_laid hL hSh (List.mem_of_getElem? (i := 2) rfl) (List.mem_of_getElem? (i := 6) rfl) (List.mem_of_getElem? (i := 4) rfl) (List.mem_of_getElem? (i := 5) rfl), h_o.2, h_o2.2⟩)

theorem fnMemBack_j0 : Rows.fnMemBackRow.wf (OpenSpec.ofChange Rows.fnMemBackSpec) = true := by kernel_rfl
theorem fnMemBack_j3 : (Tryz.f4.params.all (Tryz.prog.readableRec ·) && namedTie Tryz.prog Rows.fnMemBackRow.named Rows.fnMemBackSpec.vars && (Rows.fnMemBackRow.stops == []) && (Tryz.prog.stops == []) && (Rows.fnMemBackRow.knobs == []) && (Tryz.prog.stopKnobs == [])) = true := by kernel_rfl
theorem fnMemBack_j9 : (Rows.fnMemBackRow.inPlace == Tryz.prog.inPlace 4) = true := by kernel_rfl
theorem fnMemBack_j10 : (Rows.fnMemBackRow.unfollowed == Tryz.prog.unfollowed 4) = true := by kernel_rfl
theorem fnMemBack_j11 : (Rows.fnMemBackRow.recurses == Tryz.prog.recurses 4) = true := by kernel_rfl
theorem fnMemBack_j12 : (Rows.fnMemBackRow.named == Tryz.prog.varsNamed 4) = true := by kernel_rfl
theorem fnMemBack_closed : joinedFacts Tryz.prog 4 Tryz.f4 Rows.fnMemBackSpec Rows.fnMemBackRow = true :=
  joined_of fnMemBack_j0 fxLaid fxMaps fnMemBack_j3 fnMemBack_j9 fnMemBack_j10 fnMemBack_j11 fnMemBack_j12 (by kernel_rfl) (Eq.trans (by kernel_rfl) fxKeys) (by kernel_rfl) fxHeard fxEnter (Eq.trans (by rfl) fxLifts) (Eq.trans (by rfl) fxMake) (by kernel_rfl)
theorem fnMemBack_row : Rows.FnMemBackSaid :=
  OpenClaim.holds_of_wide 4 Tryz.f4 rfl rfl rfl rfl rfl rfl rfl ⟨rfl, rfl, rfl, rfl, rfl⟩ rfl rfl rfl rfl rfl (by kernel_rfl) Tryz.func4 fnMemBack_closed
    (of_decide_eq_true (by kernel_rfl)) (by unfold Func.isWrapper; first | (rw [if_pos (by decide +kernel)]; kernel_rfl) | (rw [if_neg (by decide +kernel)]; exact ⟨rfl, rfl⟩))
    (fun os started H enc _ => fnMemBack_lifted os started H enc)
theorem fnMemBack_holds : Rows.FnMemBackCardSaid :=
  Claim7.holds_tied_plain_at .later [] Rows.fnMemBackCard.laidKinds true Rows.fnMemBackCard.stood.harness Rows.fnMemBackCard.stood.looks
    fnMemBack_row (fun _ h => by cases h) (by kernel_rfl) (fun _ h => by cases h) fnMemBack_row_tie rfl ⟨rfl, rfl⟩ (by kernel_rfl) rfl
    (fun f fn hf hfn => by
      obtain rfl : f = 4 := (Option.some.inj ((show Tryz.prog.funcNamed Rows.fnMemBackRow.func = some 4 by kernel_rfl).symm.trans hf)).symm
      obtain rfl : fn = Tryz.f4 := (Option.some.inj (Tryz.func4.symm.trans hfn)).symm
      refine ⟨by kernel_rfl, fun j t ht => ?_⟩
      have hall : (Tryz.f4.params.toList.all fun t => !Tryz.prog.wantsStandIn t) = true := by kernel_rfl
      have := List.all_eq_true.1 hall t (Array.mem_toList_iff.2 (Array.mem_of_getElem? ht))
      show Tryz.prog.wantsStandIn t = false
      simpa using this)
    (by kernel_rfl)
end Go.Proofs.YtclbanhoiaieaaaGreatDoor
