/-
  The program's ListText returns what the reference's returns, for all lists. Conditions: none but that the listed variables hold what the program's text lays in them, which the card ties to the text.
-/
import Derived.Test.YtmlmmaojomghdaaDoorTutu
import Derived.Test.YtmlmmaojomghdaaDoorOltu
import Derived.Test.YtmlmmaojomghdaaDoorTie
import Derived.Test.YtmlmmaojomghdaaDoorCards
set_option linter.unusedVariables false
set_option linter.unusedSimpArgs false
set_option maxRecDepth 100000
namespace Go.Proofs.YtmlmmaojomghdaaDoor
open Go Go.Sx Go.ChangeShapes Go.WideShapes Go.ChangeAt Go.RowKit

theorem fnExactListText_met (os : Os) (args : Array Value) : laidMetH Tryd.prog Rows.fnExactListTextRow.laid ((World.doorLaid Tryd.prog 400 os).forCall (fun _ _ => 0) ⟨#[], args, []⟩).memory :=
  laidMetH_of_parts3 (fuel := 8) (laidMet_of_run' 8 (by kernel_rfl) (by kernel_rfl)) (by kernel_rfl) (by kernel_rfl)
theorem fnExactListText_lifted (os : Os) (started : os.Started) (H : Type) (enc : TypeId × Value → H) :
    ReturnsInHanded {} Tryd.checked os 7 .any (fun w args => (Rows.fnExactListTextSpec.pre enc Tryd.prog Tryd.f7 [] false w args ∧ laidMetH Tryd.prog Rows.fnExactListTextRow.laid w) ∧ sizedMet enc Tryd.prog Tryd.f7 (OpenSpec.ofChange Rows.fnExactListTextSpec) false w args) (Rows.fnExactListTextSpec.post enc Tryd.prog Tryd.f7 false true false false) := by
  refine lifted_of_walkL (C := Tryd.checked) (tb := 4) own started (by kernel_rfl) Tryd.func7
    (ChangeSpec.witness_shaped (enc := enc) (C := Tryd.checked) (os := os) (X := fun w _ => laidMetH Tryd.prog Rows.fnExactListTextRow.laid w) false (World.doorLaid Tryd.prog 400 os) #[.slice none 0 0] 12 rfl (World.shaped_of_RefB (by kernel_rfl) (by kernel_rfl)) (by kernel_rfl) (by kernel_rfl) (by kernel_rfl) (fnExactListText_met os _))
    laidOut (by kernel_rfl) (by kernel_rfl) rfl (by kernel_rfl) (by kernel_rfl) (fun ds gs hd hg => ?_) (fun W base args hsz hval htr hL => ?_)
  · obtain ⟨g, rfl⟩ : ∃ g, g = gs := ⟨_, rfl⟩
    match ds, hd with
    | [d0], _ => first
      | (match g, hg with | [_], _ => rfl)
      | (match g, hg with | [_, _], _ => rfl)
      | (match g, hg with | [_, _, _], _ => rfl)
  · obtain ⟨a0, rfl⟩ : ∃ a0, args = #[a0] := by
      obtain ⟨l⟩ := args
      match l, hsz with
      | [a0], _ => exact ⟨a0, rfl⟩
    obtain ⟨o, cap, xs, rfl, h_o⟩ := openList (hval 0 _ a0 rfl rfl) (htr 0 _ a0 rfl rfl)
    exact lawListTextC_c o cap xs W (by rw [factF_init]; exact ⟨h_o.1, ⟨⟨(laid_ints (zs := Lib.pow10Tab) (ik := .u64) hL (List.mem_of_getElem? (i := 2) rfl) (t := 158) (e := 25) (k := 20) (by kernel_rfl) (by kernel_rfl) (by kernel_rfl) (by kernel_rfl) (by kernel_rfl) (by kernel_rfl)).2, laid_strs (zs := words4) hL (List.mem_of_getElem? (i := 3) rfl) (t := 112) (e := 9) (k := 4) (by kernel_rfl) (by kernel_rfl) (by kernel_rfl) (by kernel_rfl) (by kernel_rfl) (by kernel_rfl)⟩, laid_strs (zs := words17) hL (List.mem_of_getElem? (i := 4) rfl) (t := 154) (e := 9) (k := 17) (by kernel_rfl) (by kernel_rfl) (by kernel_rfl) (by kernel_rfl) (by kernel_rfl) (by kernel_rfl), laid_strs (zs := words11) hL (List.mem_of_getElem? (i := 5) rfl) (t := 76) (e := 9) (k := 11) (by kernel_rfl) (by kernel_rfl) (by kernel_rfl) (by kernel_rfl) (by kernel_rfl) (by kernel_rfl)⟩, by have := h_o.2.1; have := h_o.2.2; unfold maxLen at this; omega⟩)

theorem fnExactListText_j0 : Rows.fnExactListTextRow.wf (OpenSpec.ofChange Rows.fnExactListTextSpec) = true := by kernel_rfl
theorem fnExactListText_j3 : (Tryd.f7.params.all (Tryd.prog.readableRec ·) && namedTie Tryd.prog Rows.fnExactListTextRow.named Rows.fnExactListTextSpec.vars && (Rows.fnExactListTextRow.stops == []) && (Tryd.prog.stops == []) && (Rows.fnExactListTextRow.knobs == []) && (Tryd.prog.stopKnobs == [])) = true := by kernel_rfl
theorem fnExactListText_j9 : (Rows.fnExactListTextRow.inPlace == Tryd.prog.inPlace 7) = true := by kernel_rfl
theorem fnExactListText_j10 : (Rows.fnExactListTextRow.unfollowed == Tryd.prog.unfollowed 7) = true := by kernel_rfl
theorem fnExactListText_j11 : (Rows.fnExactListTextRow.recurses == Tryd.prog.recurses 7) = true := by kernel_rfl
theorem fnExactListText_j12 : (Rows.fnExactListTextRow.named == Tryd.prog.varsNamed 7) = true := by kernel_rfl
theorem fnExactListText_closed : joinedFacts Tryd.prog 7 Tryd.f7 Rows.fnExactListTextSpec Rows.fnExactListTextRow = true :=
  joined_of fnExactListText_j0 fxLaid fxMaps fnExactListText_j3 fnExactListText_j9 fnExactListText_j10 fnExactListText_j11 fnExactListText_j12 (by kernel_rfl) (Eq.trans (by kernel_rfl) fxKeys) (by kernel_rfl) fxHeard fxEnter (Eq.trans (by rfl) fxLifts) (Eq.trans (by rfl) fxMake) (by kernel_rfl)
theorem fnExactListText_row : Rows.FnExactListTextSaid :=
  OpenClaim.holds_of_wide 7 Tryd.f7 rfl rfl rfl rfl rfl rfl rfl ⟨rfl, rfl, rfl, rfl, rfl⟩ rfl rfl rfl rfl rfl (by kernel_rfl) Tryd.func7 fnExactListText_closed
    (of_decide_eq_true (by kernel_rfl)) (by unfold Func.isWrapper; first | (rw [if_pos (by decide +kernel)]; kernel_rfl) | (rw [if_neg (by decide +kernel)]; exact ⟨rfl, rfl⟩))
    (fun os started H enc _ => fnExactListText_lifted os started H enc)
theorem fnExactListText_holds : Rows.FnExactListTextCardSaid :=
  Claim7.holds_tied_plain_at .later [] Rows.fnExactListTextCard.laidKinds true Rows.fnExactListTextCard.stood.harness Rows.fnExactListTextCard.stood.looks
    fnExactListText_row (fun _ h => by cases h) (by kernel_rfl) (fun _ h => by cases h) fnExactListText_row_tie rfl ⟨rfl, rfl⟩ (by kernel_rfl) rfl
    (fun f fn hf hfn => by
      obtain rfl : f = 7 := (Option.some.inj ((show Tryd.prog.funcNamed Rows.fnExactListTextRow.func = some 7 by kernel_rfl).symm.trans hf)).symm
      obtain rfl : fn = Tryd.f7 := (Option.some.inj (Tryd.func7.symm.trans hfn)).symm
      refine ⟨by kernel_rfl, fun j t ht => ?_⟩
      have hall : (Tryd.f7.params.toList.all fun t => !Tryd.prog.wantsStandIn t) = true := by kernel_rfl
      have := List.all_eq_true.1 hall t (Array.mem_toList_iff.2 (Array.mem_of_getElem? ht))
      show Tryd.prog.wantsStandIn t = false
      simpa using this)
    (by kernel_rfl)
end Go.Proofs.YtmlmmaojomghdaaDoor
