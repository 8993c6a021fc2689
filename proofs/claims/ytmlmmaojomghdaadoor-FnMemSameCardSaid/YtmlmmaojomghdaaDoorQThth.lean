/-
  Two memories that the program calls equal have one text, and the other way about, for all codes; equality is of both sides and as the reference's. Conditions: none but that the listed variables hold what the program's text lays in them, which the card ties to the text.
-/
import Derived.Test.YtmlmmaojomghdaaDoorThth
import Derived.Test.YtmlmmaojomghdaaDoorOlth
import Derived.Test.YtmlmmaojomghdaaDoorTie
import Derived.Test.YtmlmmaojomghdaaDoorCards
set_option linter.unusedVariables false
set_option linter.unusedSimpArgs false
set_option maxRecDepth 100000
namespace Go.Proofs.YtmlmmaojomghdaaDoor
open Go Go.Sx Go.ChangeShapes Go.WideShapes Go.ChangeAt Go.RowKit

theorem fnMemSame_met (os : Os) (args : Array Value) : laidMetH Tryd.prog Rows.fnMemSameRow.laid ((World.doorLaid Tryd.prog 400 os).forCall (fun _ _ => 0) ⟨#[], args, []⟩).memory :=
  laidMetH_of_parts3 (fuel := 8) (laidMet_of_run' 8 (by kernel_rfl) (by kernel_rfl)) (by kernel_rfl) (by kernel_rfl)
theorem fnMemSame_lifted (os : Os) (started : os.Started) (H : Type) (enc : TypeId × Value → H) :
    ReturnsInHanded {} Tryd.checked os 5 .any (fun w args => (Rows.fnMemSameSpec.pre enc Tryd.prog Tryd.f5 [] false w args ∧ laidMetH Tryd.prog Rows.fnMemSameRow.laid w) ∧ sizedMet enc Tryd.prog Tryd.f5 (OpenSpec.ofChange Rows.fnMemSameSpec) false w args) (Rows.fnMemSameSpec.post enc Tryd.prog Tryd.f5 false true false false) := by
  refine lifted_of_walkL (C := Tryd.checked) (tb := 4) own started (by kernel_rfl) Tryd.func5
    (ChangeSpec.witness_shaped (enc := enc) (C := Tryd.checked) (os := os) (X := fun w _ => laidMetH Tryd.prog Rows.fnMemSameRow.laid w) false (World.doorLaid Tryd.prog 400 os) #[.slice none 0 0] 12 rfl (World.shaped_of_RefB (by kernel_rfl) (by kernel_rfl)) (by kernel_rfl) (by kernel_rfl) (by kernel_rfl) (fnMemSame_met os _))
    laidOut (by kernel_rfl) (by kernel_rfl) rfl (by kernel_rfl) (by kernel_rfl) (fun ds gs hd hg => ?_) (fun W base args hsz hval htr hL => ?_)
  · obtain ⟨g, rfl⟩ : ∃ g, g = gs := ⟨_, rfl⟩
    match ds, hd with
    | [d0], _ => first
      | (match g, hg with | [_], _ => rfl)
      | (match g, hg with | [_, _], _ => rfl)
      | (match g, hg with | [_, _, _], _ => rfl)
  · obtain ⟨a0, rfl⟩ : ∃ a0, args = #[a0] := by
      obtain ⟨l⟩ := args
      match l, hsz with
      | [a0], _ => exact ⟨a0, rfl⟩
    obtain ⟨o, cap, bs, rfl, h_o⟩ := openBytes (hval 0 _ a0 rfl rfl) (htr 0 _ a0 rfl rfl)
    exact lawMSC_c o cap bs W (by rw [factF_init]; exact ⟨h_o.1, ⟨(laid_ints (zs := Lib.pow10Tab) (ik := .u64) hL (List.mem_of_getElem? (i := 2) rfl) (t := 158) (e := 25) (k := 20) (by kernel_rfl) (by kernel_rfl) (by kernel_rfl) (by kernel_rfl) (by kernel_rfl) (by kernel_rfl)).2, laid_strs (zs := words4) hL (List.mem_of_getElem? (i := 3) rfl) (t := 112) (e := 9) (k := 4) (by kernel_rfl) (by kernel_rfl) (by kernel_rfl) (by kernel_rfl) (by kernel_rfl) (by kernel_rfl)⟩, h_o.2⟩)

theorem fnMemSame_j0 : Rows.fnMemSameRow.wf (OpenSpec.ofChange Rows.fnMemSameSpec) = true := by kernel_rfl
theorem fnMemSame_j3 : (Tryd.f5.params.all (Tryd.prog.readableRec ·) && namedTie Tryd.prog Rows.fnMemSameRow.named Rows.fnMemSameSpec.vars && (Rows.fnMemSameRow.stops == []) && (Tryd.prog.stops == []) && (Rows.fnMemSameRow.knobs == []) && (Tryd.prog.stopKnobs == [])) = true := by kernel_rfl
theorem fnMemSame_j9 : (Rows.fnMemSameRow.inPlace == Tryd.prog.inPlace 5) = true := by kernel_rfl
theorem fnMemSame_j10 : (Rows.fnMemSameRow.unfollowed == Tryd.prog.unfollowed 5) = true := by kernel_rfl
theorem fnMemSame_j11 : (Rows.fnMemSameRow.recurses == Tryd.prog.recurses 5) = true := by kernel_rfl
theorem fnMemSame_j12 : (Rows.fnMemSameRow.named == Tryd.prog.varsNamed 5) = true := by kernel_rfl
theorem fnMemSame_closed : joinedFacts Tryd.prog 5 Tryd.f5 Rows.fnMemSameSpec Rows.fnMemSameRow = true :=
  joined_of fnMemSame_j0 fxLaid fxMaps fnMemSame_j3 fnMemSame_j9 fnMemSame_j10 fnMemSame_j11 fnMemSame_j12 (by kernel_rfl) (Eq.trans (by kernel_rfl) fxKeys) (by kernel_rfl) fxHeard fxEnter (Eq.trans (by rfl) fxLifts) (Eq.trans (by rfl) fxMake) (by kernel_rfl)
theorem fnMemSame_row : Rows.FnMemSameSaid :=
  OpenClaim.holds_of_wide 5 Tryd.f5 rfl rfl rfl rfl rfl rfl rfl ⟨rfl, rfl, rfl, rfl, rfl⟩ rfl rfl rfl rfl rfl (by kernel_rfl) Tryd.func5 fnMemSame_closed
    (of_decide_eq_true (by kernel_rfl)) (by unfold Func.isWrapper; first | (rw [if_pos (by decide +kernel)]; kernel_rfl) | (rw [if_neg (by decide +kernel)]; exact ⟨rfl, rfl⟩))
    (fun os started H enc _ => fnMemSame_lifted os started H enc)
theorem fnMemSame_holds : Rows.FnMemSameCardSaid :=
  Claim7.holds_tied_plain_at .later [] Rows.fnMemSameCard.laidKinds true Rows.fnMemSameCard.stood.harness Rows.fnMemSameCard.stood.looks
    fnMemSame_row (fun _ h => by cases h) (by kernel_rfl) (fun _ h => by cases h) fnMemSame_row_tie rfl ⟨rfl, rfl⟩ (by kernel_rfl) rfl
    (fun f fn hf hfn => by
      obtain rfl : f = 5 := (Option.some.inj ((show Tryd.prog.funcNamed Rows.fnMemSameRow.func = some 5 by kernel_rfl).symm.trans hf)).symm
      obtain rfl : fn = Tryd.f5 := (Option.some.inj (Tryd.func5.symm.trans hfn)).symm
      refine ⟨by kernel_rfl, fun j t ht => ?_⟩
      have hall : (Tryd.f5.params.toList.all fun t => !Tryd.prog.wantsStandIn t) = true := by kernel_rfl
      have := List.all_eq_true.1 hall t (Array.mem_toList_iff.2 (Array.mem_of_getElem? ht))
      show Tryd.prog.wantsStandIn t = false
      simpa using this)
    (by kernel_rfl)
end Go.Proofs.YtmlmmaojomghdaaDoor
