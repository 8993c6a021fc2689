/-
  The program's ListLine returns what the reference's returns, for all instructions. Conditions: none but that the listed variables hold what the program's text lays in them, which the card ties to the text.
-/
import Derived.Test.YtmlmmaojomghdaaDoorTrtr
import Derived.Test.YtmlmmaojomghdaaDoorOltr
import Derived.Test.YtmlmmaojomghdaaDoorTie
import Derived.Test.YtmlmmaojomghdaaDoorCards
set_option linter.unusedVariables false
set_option linter.unusedSimpArgs false
set_option maxRecDepth 100000
namespace Go.Proofs.YtmlmmaojomghdaaDoor
open Go Go.Sx Go.ChangeShapes Go.WideShapes Go.ChangeAt Go.RowKit

theorem fnExactListLine_met (os : Os) (args : Array Value) : laidMetH Tryd.prog Rows.fnExactListLineRow.laid ((World.doorLaid Tryd.prog 400 os).forCall (fun _ _ => 0) ⟨#[], args, []⟩).memory :=
  laidMetH_of_parts3 (fuel := 8) (laidMet_of_run' 8 (by kernel_rfl) (by kernel_rfl)) (by kernel_rfl) (by kernel_rfl)
theorem fnExactListLine_lifted (os : Os) (started : os.Started) (H : Type) (enc : TypeId × Value → H) :
    ReturnsInHanded {} Tryd.checked os 6 .any (fun w args => (Rows.fnExactListLineSpec.pre enc Tryd.prog Tryd.f6 [] false w args ∧ laidMetH Tryd.prog Rows.fnExactListLineRow.laid w) ∧ sizedMet enc Tryd.prog Tryd.f6 (OpenSpec.ofChange Rows.fnExactListLineSpec) false w args) (Rows.fnExactListLineSpec.post enc Tryd.prog Tryd.f6 false true false false) := by
  refine lifted_of_walkL (C := Tryd.checked) (tb := 4) own started (by kernel_rfl) Tryd.func6
    (ChangeSpec.witness_shaped (enc := enc) (C := Tryd.checked) (os := os) (X := fun w _ => laidMetH Tryd.prog Rows.fnExactListLineRow.laid w) false (World.doorLaid Tryd.prog 400 os) #[.agg #[.int .i64 0, .int .i64 0, .slice none 0 0]] 12 rfl (World.shaped_of_RefB (by kernel_rfl) (by kernel_rfl)) (by kernel_rfl) (by kernel_rfl) (by kernel_rfl) (fnExactListLine_met os _))
    laidOut (by kernel_rfl) (by kernel_rfl) rfl (by kernel_rfl) (by kernel_rfl) (fun ds gs hd hg => ?_) (fun W base args hsz hval htr hL => ?_)
  · obtain ⟨g, rfl⟩ : ∃ g, g = gs := ⟨_, rfl⟩
    match ds, hd with
    | [d0], _ => first
      | (match g, hg with | [_], _ => rfl)
      | (match g, hg with | [_, _], _ => rfl)
      | (match g, hg with | [_, _, _], _ => rfl)
  · obtain ⟨a0, rfl⟩ : ∃ a0, args = #[a0] := by
      obtain ⟨l⟩ := args
      match l, hsz with
      | [a0], _ => exact ⟨a0, rfl⟩
    obtain ⟨code, op, o, cap, xs, rfl, h_code⟩ := openInst (hval 0 _ a0 rfl rfl) (htr 0 _ a0 rfl rfl)
    exact lawListLineC_c code op o cap xs W (by rw [factF_init]; exact ⟨h_code.1, ⟨⟨(laid_ints (zs := Lib.pow10Tab) (ik := .u64) hL (List.mem_of_getElem? (i := 2) rfl) (t := 158) (e := 25) (k := 20) (by kernel_rfl) (by kernel_rfl) (by kernel_rfl) (by kernel_rfl) (by kernel_rfl) (by kernel_rfl)).2, laid_strs (zs := words4) hL (List.mem_of_getElem? (i := 3) rfl) (t := 112) (e := 9) (k := 4) (by kernel_rfl) (by kernel_rfl) (by kernel_rfl) (by kernel_rfl) (by kernel_rfl) (by kernel_rfl)⟩, laid_strs (zs := words17) hL (List.mem_of_getElem? (i := 4) rfl) (t := 154) (e := 9) (k := 17) (by kernel_rfl) (by kernel_rfl) (by kernel_rfl) (by kernel_rfl) (by kernel_rfl) (by kernel_rfl), laid_strs (zs := words11) hL (List.mem_of_getElem? (i := 5) rfl) (t := 76) (e := 9) (k := 11) (by kernel_rfl) (by kernel_rfl) (by kernel_rfl) (by kernel_rfl) (by kernel_rfl) (by kernel_rfl)⟩, by have := h_code.2.1; have := h_code.2.2; unfold maxLen at this; omega⟩)

theorem fnExactListLine_j0 : Rows.fnExactListLineRow.wf (OpenSpec.ofChange Rows.fnExactListLineSpec) = true := by kernel_rfl
theorem fnExactListLine_j3 : (Tryd.f6.params.all (Tryd.prog.readableRec ·) && namedTie Tryd.prog Rows.fnExactListLineRow.named Rows.fnExactListLineSpec.vars && (Rows.fnExactListLineRow.stops == []) && (Tryd.prog.stops == []) && (Rows.fnExactListLineRow.knobs == []) && (Tryd.prog.stopKnobs == [])) = true := by kernel_rfl
theorem fnExactListLine_j9 : (Rows.fnExactListLineRow.inPlace == Tryd.prog.inPlace 6) = true := by kernel_rfl
theorem fnExactListLine_j10 : (Rows.fnExactListLineRow.unfollowed == Tryd.prog.unfollowed 6) = true := by kernel_rfl
theorem fnExactListLine_j11 : (Rows.fnExactListLineRow.recurses == Tryd.prog.recurses 6) = true := by kernel_rfl
theorem fnExactListLine_j12 : (Rows.fnExactListLineRow.named == Tryd.prog.varsNamed 6) = true := by kernel_rfl
theorem fnExactListLine_closed : joinedFacts Tryd.prog 6 Tryd.f6 Rows.fnExactListLineSpec Rows.fnExactListLineRow = true :=
  joined_of fnExactListLine_j0 fxLaid fxMaps fnExactListLine_j3 fnExactListLine_j9 fnExactListLine_j10 fnExactListLine_j11 fnExactListLine_j12 (by kernel_rfl) (Eq.trans (by kernel_rfl) fxKeys) (by kernel_rfl) fxHeard fxEnter (Eq.trans (by rfl) fxLifts) (Eq.trans (by rfl) fxMake) (by kernel_rfl)
theorem fnExactListLine_row : Rows.FnExactListLineSaid :=
  OpenClaim.holds_of_wide 6 Tryd.f6 rfl rfl rfl rfl rfl rfl rfl ⟨rfl, rfl, rfl, rfl, rfl⟩ rfl rfl rfl rfl rfl (by kernel_rfl) Tryd.func6 fnExactListLine_closed
    (of_decide_eq_true (by kernel_rfl)) (by unfold Func.isWrapper; first | (rw [if_pos (by decide +kernel)]; kernel_rfl) | (rw [if_neg (by decide +kernel)]; exact ⟨rfl, rfl⟩))
    (fun os started H enc _ => fnExactListLine_lifted os started H enc)
theorem fnExactListLine_holds : Rows.FnExactListLineCardSaid :=
  Claim7.holds_tied_plain_at .later [] Rows.fnExactListLineCard.laidKinds true Rows.fnExactListLineCard.stood.harness Rows.fnExactListLineCard.stood.looks
    fnExactListLine_row (fun _ h => by cases h) (by kernel_rfl) (fun _ h => by cases h) fnExactListLine_row_tie rfl ⟨rfl, rfl⟩ (by kernel_rfl) rfl
    (fun f fn hf hfn => by
      obtain rfl : f = 6 := (Option.some.inj ((show Tryd.prog.funcNamed Rows.fnExactListLineRow.func = some 6 by kernel_rfl).symm.trans hf)).symm
      obtain rfl : fn = Tryd.f6 := (Option.some.inj (Tryd.func6.symm.trans hfn)).symm
      refine ⟨by kernel_rfl, fun j t ht => ?_⟩
      have hall : (Tryd.f6.params.toList.all fun t => !Tryd.prog.wantsStandIn t) = true := by kernel_rfl
      have := List.all_eq_true.1 hall t (Array.mem_toList_iff.2 (Array.mem_of_getElem? ht))
      show Tryd.prog.wantsStandIn t = false
      simpa using this)
    (by kernel_rfl)
end Go.Proofs.YtmlmmaojomghdaaDoor
