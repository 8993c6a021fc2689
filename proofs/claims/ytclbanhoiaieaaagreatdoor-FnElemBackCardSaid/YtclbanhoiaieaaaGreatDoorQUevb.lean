/-
  Contacts and coils written and read back. Conditions: none but that the listed variables hold what the program's text lays in them, which the card ties to the text.
-/
import Derived.Test.YtclbanhoiaieaaaGreatDoorUevb
import Derived.Test.YtclbanhoiaieaaaGreatDoorUxvb
import Derived.Test.YtclbanhoiaieaaaGreatDoorTie
import Derived.Test.YtclbanhoiaieaaaGreatDoorCards
import Derived.Lay
set_option linter.unusedVariables false
set_option linter.unusedSimpArgs false
set_option maxRecDepth 100000
namespace Go.Proofs.YtclbanhoiaieaaaGreatDoor
open Go Go.Sx Go.ChangeShapes Go.WideShapes Go.ChangeAt Go.RowKit

theorem fnElemBack_met (os : Os) (args : Array Value) : laidMetH Tryz.prog Rows.fnElemBackRow.laid ((World.laidAll Tryz.prog os Rows.fnElemBackRow.laid).forCall (fun _ _ => 0) ⟨#[], args, []⟩).memory :=
  by rw [MakeChecks.laidMetH_plain _ _ _ (by kernel_rfl)]; exact laidMet_laidAll _ (by kernel_rfl) (by kernel_rfl)
theorem fnElemBack_lifted (os : Os) (started : os.Started) (H : Type) (enc : TypeId × Value → H) :
    ReturnsInHanded {} Tryz.checked os 9 .any (fun w args => (Rows.fnElemBackSpec.pre enc Tryz.prog Tryz.f9 [] false w args ∧ laidMetH Tryz.prog Rows.fnElemBackRow.laid w) ∧ sizedMet enc Tryz.prog Tryz.f9 (OpenSpec.ofChange Rows.fnElemBackSpec) false w args) (Rows.fnElemBackSpec.post enc Tryz.prog Tryz.f9 false true false false) := by
  refine lifted_of_walkL (C := Tryz.checked) (tb := 4) own started (by kernel_rfl) Tryz.func9
    (ChangeSpec.witness_shaped (enc := enc) (C := Tryz.checked) (os := os) (X := fun w _ => laidMetH Tryz.prog Rows.fnElemBackRow.laid w) false (World.laidAll Tryz.prog os Rows.fnElemBackRow.laid) #[.slice none 0 0, .slice none 0 0] 12 (World.laidAll_os _ _ _) (World.shaped_of_ZipB (by kernel_rfl) (by kernel_rfl)) (by kernel_rfl) (by kernel_rfl) (by kernel_rfl) (fnElemBack_met os _))
    laidOut (by kernel_rfl) (by kernel_rfl) rfl (by kernel_rfl) (by kernel_rfl) (fun ds gs hd hg => ?_) (fun W base args hsz hval htr hL hSh => ?_)
  · obtain ⟨g, rfl⟩ : ∃ g, g = gs := ⟨_, rfl⟩
    match ds, hd with
    | [d0, d1], _ => first
      | (match g, hg with | [_], _ => rfl)
      | (match g, hg with | [_, _], _ => rfl)
      | (match g, hg with | [_, _, _], _ => rfl)
  · obtain ⟨a0, a1, rfl⟩ : ∃ a0 a1, args = #[a0, a1] := by
      obtain ⟨l⟩ := args
      match l, hsz with
      | [a0, a1], _ => exact ⟨a0, a1, rfl⟩
    obtain ⟨o, cap, bs, rfl, h_o⟩ := openBytes (hval 0 _ a0 rfl rfl) (htr 0 _ a0 rfl rfl)
    obtain ⟨o2, cap2, cs, rfl, h_o2⟩ := openBytes (hval 1 _ a1 rfl rfl) (htr 1 _ a1 rfl rfl)
    exact lawElemBackC_c o cap bs o2 cap2 cs W (by rw [factF_init]; exact ⟨h_o.1, h_o2.1, te_laid hL hSh (List.mem_of_getElem? (i := 2) rfl) (List.mem_of_getElem? (i := 6) rfl) (List.mem_of_getElem? (i := 7) rfl) (List.mem_of_getElem? (i := 4) rfl) (List.mem_of_getElem? (i := 5) rfl), h_o.2, h_o2.2⟩)

theorem fnElemBack_j0 : Rows.fnElemBackRow.wf (OpenSpec.ofChange Rows.fnElemBackSpec) = true := by kernel_rfl
theorem fnElemBack_j3 : (Tryz.f9.params.all (Tryz.prog.readableRec ·) && namedTie Tryz.prog Rows.fnElemBackRow.named Rows.fnElemBackSpec.vars && (Rows.fnElemBackRow.stops == []) && (Tryz.prog.stops == []) && (Rows.fnElemBackRow.knobs == []) && (Tryz.prog.stopKnobs == [])) = true := by kernel_rfl
theorem fnElemBack_j9 : (Rows.fnElemBackRow.inPlace == Tryz.prog.inPlace 9) = true := by kernel_rfl
theorem fnElemBack_j10 : (Rows.fnElemBackRow.unfollowed == Tryz.prog.unfollowed 9) = true := by kernel_rfl
theorem fnElemBack_j11 : (Rows.fnElemBackRow.recurses == Tryz.prog.recurses 9) = true := by kernel_rfl
theorem fnElemBack_j12 : (Rows.fnElemBackRow.named == Tryz.prog.varsNamed 9) = true := by kernel_rfl
theorem fnElemBack_closed : joinedFacts Tryz.prog 9 Tryz.f9 Rows.fnElemBackSpec Rows.fnElemBackRow = true :=
  joined_of fnElemBack_j0 fxLaid fxMaps fnElemBack_j3 fnElemBack_j9 fnElemBack_j10 fnElemBack_j11 fnElemBack_j12 (by kernel_rfl) (Eq.trans (by kernel_rfl) fxKeys) (by kernel_rfl) fxHeard fxEnter (Eq.trans (by rfl) fxLifts) (Eq.trans (by rfl) fxMake) (by kernel_rfl)
theorem fnElemBack_row : Rows.FnElemBackSaid :=
  OpenClaim.holds_of_wide 9 Tryz.f9 rfl rfl rfl rfl rfl rfl rfl ⟨rfl, rfl, rfl, rfl, rfl⟩ rfl rfl rfl rfl rfl (by kernel_rfl) Tryz.func9 fnElemBack_closed
    (of_decide_eq_true (by kernel_rfl)) (by unfold Func.isWrapper; first | (rw [if_pos (by decide +kernel)]; kernel_rfl) | (rw [if_neg (by decide +kernel)]; exact ⟨rfl, rfl⟩))
    (fun os started H enc _ => fnElemBack_lifted os started H enc)
theorem fnElemBack_holds : Rows.FnElemBackCardSaid :=
  Claim7.holds_tied_plain_at .later [] Rows.fnElemBackCard.laidKinds true Rows.fnElemBackCard.stood.harness Rows.fnElemBackCard.stood.looks
    fnElemBack_row (fun _ h => by cases h) (by kernel_rfl) (fun _ h => by cases h) fnElemBack_row_tie rfl ⟨rfl, rfl⟩ (by kernel_rfl) rfl
    (fun f fn hf hfn => by
      obtain rfl : f = 9 := (Option.some.inj ((show Tryz.prog.funcNamed Rows.fnElemBackRow.func = some 9 by kernel_rfl).symm.trans hf)).symm
      obtain rfl : fn = Tryz.f9 := (Option.some.inj (Tryz.func9.symm.trans hfn)).symm
      refine ⟨by kernel_rfl, fun j t ht => ?_⟩
      have hall : (Tryz.f9.params.toList.all fun t => !Tryz.prog.wantsStandIn t) = true := by kernel_rfl
      have := List.all_eq_true.1 hall t (Array.mem_toList_iff.2 (Array.mem_of_getElem? ht))
      show Tryz.prog.wantsStandIn t = false
      simpa using this)
    (by kernel_rfl)
end Go.Proofs.YtclbanhoiaieaaaGreatDoor
