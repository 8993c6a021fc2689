/-
  The program's ElemRead returns what the reference's returns, for all texts, and no two answers share memory. Conditions: none but that the listed variables hold what the program's text lays in them, which the card ties to the text.
-/
import Derived.Test.YtclbanhoiaieaaaGreatDoorUhvb
import Derived.Test.YtclbanhoiaieaaaGreatDoorUxvb
import Derived.Test.YtclbanhoiaieaaaGreatDoorTie
import Derived.Test.YtclbanhoiaieaaaGreatDoorCards
import Derived.Lay
set_option linter.unusedVariables false
set_option linter.unusedSimpArgs false
set_option maxRecDepth 100000
namespace Go.Proofs.YtclbanhoiaieaaaGreatDoor
open Go Go.Sx Go.ChangeShapes Go.WideShapes Go.ChangeAt Go.RowKit

theorem openStr {P : Program} {w : World} {r : Reach} {b0 : Nat} {t : TypeId} {v : Value} (ht : P.underlying t = some .string) (hval : Value.okWide P w r b0 t v) : ∃ s : Str, v = .string (txt s) := by
  obtain ⟨s, rfl⟩ := okWide_string ht hval
  exact ⟨s.data.toList, by cases s; simp [txt]⟩
theorem fnExactElemRead_met (os : Os) (args : Array Value) : laidMetH Tryz.prog Rows.fnExactElemReadRow.laid ((World.laidAll Tryz.prog os Rows.fnExactElemReadRow.laid).forCall (fun _ _ => 0) ⟨#[], args, []⟩).memory :=
  by rw [MakeChecks.laidMetH_plain _ _ _ (by kernel_rfl)]; exact laidMet_laidAll _ (by kernel_rfl) (by kernel_rfl)
theorem fnExactElemRead_lifted (os : Os) (started : os.Started) (H : Type) (enc : TypeId × Value → H) :
    ReturnsInHanded {} Tryz.checked os 10 .any (fun w args => (Rows.fnExactElemReadSpec.pre enc Tryz.prog Tryz.f10 [] false w args ∧ laidMetH Tryz.prog Rows.fnExactElemReadRow.laid w) ∧ sizedMet enc Tryz.prog Tryz.f10 (OpenSpec.ofChange Rows.fnExactElemReadSpec) false w args) (Rows.fnExactElemReadSpec.post enc Tryz.prog Tryz.f10 false true false false) := by
  refine lifted_of_walkL (C := Tryz.checked) (tb := 4) own started (by kernel_rfl) Tryz.func10
    (ChangeSpec.witness_shaped (enc := enc) (C := Tryz.checked) (os := os) (X := fun w _ => laidMetH Tryz.prog Rows.fnExactElemReadRow.laid w) false (World.laidAll Tryz.prog os Rows.fnExactElemReadRow.laid) #[.string ⟨#[]⟩] 12 (World.laidAll_os _ _ _) (World.shaped_of_ZipB (by kernel_rfl) (by kernel_rfl)) (by kernel_rfl) (by kernel_rfl) (by kernel_rfl) (fnExactElemRead_met os _))
    laidOut (by kernel_rfl) (by kernel_rfl) rfl (by kernel_rfl) (by kernel_rfl) (fun ds gs hd hg => ?_) (fun W base args hsz hval htr hL hSh => ?_)
  · obtain ⟨g, rfl⟩ : ∃ g, g = gs := ⟨_, rfl⟩
    match ds, hd with
    | [d0], _ => first
      | (match g, hg with | [_], _ => rfl)
      | (match g, hg with | [_, _], _ => rfl)
      | (match g, hg with | [_, _, _], _ => rfl)
  · obtain ⟨a0, rfl⟩ : ∃ a0, args = #[a0] := by
      obtain ⟨l⟩ := args
      match l, hsz with
      | [a0], _ => exact ⟨a0, rfl⟩
    obtain ⟨s, rfl⟩ := openStr (by kernel_rfl) (hval 0 _ a0 rfl rfl)
    exact lawElemReadC_c s W (by rw [factF_init]; exact te_laid hL hSh (List.mem_of_getElem? (i := 2) rfl) (List.mem_of_getElem? (i := 6) rfl) (List.mem_of_getElem? (i := 7) rfl) (List.mem_of_getElem? (i := 4) rfl) (List.mem_of_getElem? (i := 5) rfl))

theorem fnExactElemRead_j0 : Rows.fnExactElemReadRow.wf (OpenSpec.ofChange Rows.fnExactElemReadSpec) = true := by kernel_rfl
theorem fnExactElemRead_j3 : (Tryz.f10.params.all (Tryz.prog.readableRec ·) && namedTie Tryz.prog Rows.fnExactElemReadRow.named Rows.fnExactElemReadSpec.vars && (Rows.fnExactElemReadRow.stops == []) && (Tryz.prog.stops == []) && (Rows.fnExactElemReadRow.knobs == []) && (Tryz.prog.stopKnobs == [])) = true := by kernel_rfl
theorem fnExactElemRead_j9 : (Rows.fnExactElemReadRow.inPlace == Tryz.prog.inPlace 10) = true := by kernel_rfl
theorem fnExactElemRead_j10 : (Rows.fnExactElemReadRow.unfollowed == Tryz.prog.unfollowed 10) = true := by kernel_rfl
theorem fnExactElemRead_j11 : (Rows.fnExactElemReadRow.recurses == Tryz.prog.recurses 10) = true := by kernel_rfl
theorem fnExactElemRead_j12 : (Rows.fnExactElemReadRow.named == Tryz.prog.varsNamed 10) = true := by kernel_rfl
theorem fnExactElemRead_closed : joinedFacts Tryz.prog 10 Tryz.f10 Rows.fnExactElemReadSpec Rows.fnExactElemReadRow = true :=
  joined_of fnExactElemRead_j0 fxLaid fxMaps fnExactElemRead_j3 fnExactElemRead_j9 fnExactElemRead_j10 fnExactElemRead_j11 fnExactElemRead_j12 (by kernel_rfl) (Eq.trans (by kernel_rfl) fxKeys) (by kernel_rfl) fxHeard fxEnter (Eq.trans (by rfl) fxLifts) (Eq.trans (by rfl) fxMake) (by kernel_rfl)
theorem fnExactElemRead_row : Rows.FnExactElemReadSaid :=
  OpenClaim.holds_of_wide 10 Tryz.f10 rfl rfl rfl rfl rfl rfl rfl ⟨rfl, rfl, rfl, rfl, rfl⟩ rfl rfl rfl rfl rfl (by kernel_rfl) Tryz.func10 fnExactElemRead_closed
    (of_decide_eq_true (by kernel_rfl)) (by unfold Func.isWrapper; first | (rw [if_pos (by decide +kernel)]; kernel_rfl) | (rw [if_neg (by decide +kernel)]; exact ⟨rfl, rfl⟩))
    (fun os started H enc _ => fnExactElemRead_lifted os started H enc)
theorem fnExactElemRead_holds : Rows.FnExactElemReadCardSaid :=
  Claim7.holds_tied_plain_at .later [] Rows.fnExactElemReadCard.laidKinds true Rows.fnExactElemReadCard.stood.harness Rows.fnExactElemReadCard.stood.looks
    fnExactElemRead_row (fun _ h => by cases h) (by kernel_rfl) (fun _ h => by cases h) fnExactElemRead_row_tie rfl ⟨rfl, rfl⟩ (by kernel_rfl) rfl
    (fun f fn hf hfn => by
      obtain rfl : f = 10 := (Option.some.inj ((show Tryz.prog.funcNamed Rows.fnExactElemReadRow.func = some 10 by kernel_rfl).symm.trans hf)).symm
      obtain rfl : fn = Tryz.f10 := (Option.some.inj (Tryz.func10.symm.trans hfn)).symm
      refine ⟨by kernel_rfl, fun j t ht => ?_⟩
      have hall : (Tryz.f10.params.toList.all fun t => !Tryz.prog.wantsStandIn t) = true := by kernel_rfl
      have := List.all_eq_true.1 hall t (Array.mem_toList_iff.2 (Array.mem_of_getElem? ht))
      show Tryz.prog.wantsStandIn t = false
      simpa using this)
    (by kernel_rfl)
end Go.Proofs.YtclbanhoiaieaaaGreatDoor
