/-
  The program's MemSame returns what the reference's returns, for all arguments. Conditions: none.
-/
import Derived.Test.YtmiicjgbhkjocaaRt
import Derived.Test.YtmiicjgbhkjocaaO
set_option linter.unusedVariables false
set_option linter.unusedSimpArgs false
set_option maxRecDepth 100000
set_option maxHeartbeats 4000000
namespace Go.Proofs.Ytmiicjgbhkjocaa
open Go Go.Sx Go.ChangeShapes Go.WideShapes Go.ChangeAt Go.RowKit

theorem lawMemSameC_c (a b : M) (hpre : MOk a ∧ MOk b) (w : World) : Calls Try.prog 3 #[.agg (cells a), .agg (cells b)] w fun e w' => e = .returned (.bool true) ∧ RowKit.Below w.heap.size w w' := by
  refine (plain_of_vcs ⟨[toMemC, sMemSameC, memSameC], []⟩ hmx Try.func3 rfl (by kernel_rfl) (args := [.agg (cells a), .agg (cells b)]) (by simp [Try.ntmps3]) w (· = .bool true) 400 ?_).mono fun e w' ⟨v, h1, h2, h3⟩ => ⟨h2 ▸ h1, h3⟩
  simp (maxSteps := 4000000) -dsimp [-List.all_eq_true, -Array.all_eq_true, -Bool.exists_bool, -Bool.forall_bool, vcsE1, vcsE2, vcsE3, vcsE4, vcsE5, vcsE6, vcsE7, vcsE8, vcsE9, vcsE10, vcsE11, vcsE12, vcsE13, vcsE14, vcsE15, vcsE16, vcsE17, vcsE18, vcsE19, Sx.get, Sx.look, Sx.put, pureFn, findOrd, unF, dstOk, isFloatT, endVC, resFn, packC, newFn, storeFn, buildFn, undef, known, aggT, cellsC, Value.cells, findCon, Con.pure, Con.some, allV, partsV, partsC, fillL, Sx.exitTo, fAr, C.one, Value.oneCell', eqFn, eqFieldsFn, eqElemsFn, partFn, and_assoc, List.zipIdx, sliceFn, boundFn, AppV, CopyV, MakeSliceV, NewsV, GrowV, TextV, bytesL, notInt, typeAt, argAt, Con.read, Con.make, Con.ext, Con.rel, den, Con.extS, Con.draw, Con.step, Draws.steps, Try.f3, toMemC, sMemSameC, memSameC, hpre]
def lawMemSameC : Con Try.prog := Con.pure 3 Try.call3 (fun (i : ((M) × (M))) => match i with | (a, b) => [.agg (cells a), .agg (cells b)]) (fun (i : ((M) × (M))) => match i with | (a, b) => MOk a ∧ MOk b) (fun (i : ((M) × (M))) => match i with | (a, b) => .bool true) fun i w hp => lawMemSameC_c i.1 i.2 hp w
theorem fnExactMemSame_lifted (os : Os) (started : os.Started) (H : Type) (enc : TypeId × Value → H) :
    ReturnsInHanded {} Try.checked os 3 .any (Rows.fnExactMemSameSpec.pre6 enc Try.prog Try.f3 Rows.fnExactMemSameRow.domain false) (Rows.fnExactMemSameSpec.post enc Try.prog Try.f3 false true false false) := by
  refine lifted_of_walk (C := Try.checked) (tb := 4) own started (by kernel_rfl) Try.func3
    (ChangeSpec.witness6 (enc := enc) (C := Try.checked) false ⟨#[], #[.agg (cells zeroM), .agg (cells zeroM)], []⟩ 12 (by kernel_rfl) (by kernel_rfl) (by kernel_rfl) (by kernel_rfl))
    laidOut (by kernel_rfl) rfl rfl (by kernel_rfl) (fun ds hd => ?_) (fun W base args hsz hval htr => ?_)
  · match ds, hd with
    | [d0, d1], _ => rfl
  · obtain ⟨a0, a1, rfl⟩ : ∃ a0 a1, args = #[a0, a1] := by
      obtain ⟨l⟩ := args
      match l, hsz with
      | [a0, a1], _ => exact ⟨a0, a1, rfl⟩
    obtain ⟨m, rfl, h_m⟩ := openMem (hval 0 _ a0 rfl rfl)
    obtain ⟨n, rfl, h_n⟩ := openMem (hval 1 _ a1 rfl rfl)
    exact lawMemSameC_c m n ⟨h_m, h_n⟩ W

theorem fnExactMemSame_j0 : Rows.fnExactMemSameRow.wf (OpenSpec.ofChange Rows.fnExactMemSameSpec) = true := by kernel_rfl
theorem fnExactMemSame_j3 : (Try.f3.params.all (Try.prog.readableRec ·) && namedTie Try.prog Rows.fnExactMemSameRow.named Rows.fnExactMemSameSpec.vars && (Rows.fnExactMemSameRow.stops == []) && (Try.prog.stops == []) && (Rows.fnExactMemSameRow.knobs == []) && (Try.prog.stopKnobs == [])) = true := by kernel_rfl
theorem fnExactMemSame_j9 : (Rows.fnExactMemSameRow.inPlace == Try.prog.inPlace 3) = true := by kernel_rfl
theorem fnExactMemSame_j10 : (Rows.fnExactMemSameRow.unfollowed == Try.prog.unfollowed 3) = true := by kernel_rfl
theorem fnExactMemSame_j11 : (Rows.fnExactMemSameRow.recurses == Try.prog.recurses 3) = true := by kernel_rfl
theorem fnExactMemSame_j12 : (Rows.fnExactMemSameRow.named == Try.prog.varsNamed 3) = true := by kernel_rfl
theorem fnExactMemSame_closed : joinedFacts Try.prog 3 Try.f3 Rows.fnExactMemSameSpec Rows.fnExactMemSameRow = true :=
  joined_of fnExactMemSame_j0 fxLaid fxMaps fnExactMemSame_j3 fnExactMemSame_j9 fnExactMemSame_j10 fnExactMemSame_j11 fnExactMemSame_j12 (by kernel_rfl) (Eq.trans (by kernel_rfl) fxKeys) (by kernel_rfl) fxHeard fxEnter (Eq.trans (by rfl) fxLifts) (Eq.trans (by rfl) fxMake) (by kernel_rfl)
theorem fnExactMemSame_holds : Rows.FnExactMemSameSaid :=
  OpenClaim.holds_of_wide 3 Try.f3 rfl rfl rfl rfl rfl rfl rfl ⟨rfl, rfl, rfl, rfl, rfl⟩ rfl rfl rfl rfl rfl (by kernel_rfl) Try.func3 fnExactMemSame_closed
    (of_decide_eq_true (by kernel_rfl)) (by unfold Func.isWrapper; first | (rw [if_pos (by decide +kernel)]; kernel_rfl) | (rw [if_neg (by decide +kernel)]; exact ⟨rfl, rfl⟩))
    (fun os started H enc _ => fnExactMemSame_lifted os started H enc)
end Go.Proofs.Ytmiicjgbhkjocaa
