/-
  The law of SurePeak, walked.
-/
import Derived.Test.YtfhnbdlkiemaeaaSs
set_option linter.unusedVariables false
set_option linter.unusedSimpArgs false
set_option maxRecDepth 100000
set_option maxHeartbeats 4000000
namespace Go.Proofs.Ytfhnbdlkiemaeaa
open Go Go.Sx

theorem eqSureStateC_c (a b : Int) (w : World) : Calls Try.prog 31 #[.agg #[.int .i64 a, .int .i64 b], .agg #[.int .i64 a, .int .i64 b]] w fun e w' => e = .returned (.bool true) ∧ RowKit.Below w.heap.size w w' := by
  refine (plain_of_vcs ⟨[], []⟩ hmx Try.func31 rfl (by kernel_rfl) (args := [.agg #[.int .i64 a, .int .i64 b], .agg #[.int .i64 a, .int .i64 b]]) (by simp [Try.ntmps31]) w (· = .bool true) 400 ?_).mono fun e w' ⟨v, h1, h2, h3⟩ => ⟨h2 ▸ h1, h3⟩
  simp (maxSteps := 4000000) -dsimp [-List.all_eq_true, -Array.all_eq_true, -Bool.exists_bool, -Bool.forall_bool, vcsE1, vcsE2, vcsE3, vcsE4, vcsE5, vcsE6, vcsE7, vcsE8, vcsE9, vcsE10, vcsE11, vcsE12, vcsE13, vcsE14, vcsE15, vcsE16, vcsE17, vcsE18, vcsE19, Sx.get, Sx.look, Sx.put, pureFn, findOrd, unF, dstOk, isFloatT, endVC, resFn, packC, newFn, storeFn, buildFn, undef, known, aggT, cellsC, Value.cells, findCon, Con.pure, Con.some, allV, partsV, partsC, fillL, Sx.exitTo, fAr, C.one, Value.oneCell', eqFn, eqFieldsFn, eqElemsFn, partFn, and_assoc, List.zipIdx, sliceFn, boundFn, AppV, CopyV, MakeSliceV, NewsV, GrowV, TextV, bytesL, notInt, typeAt, argAt, Con.read, Con.make, Con.ext, Con.rel, den, Con.extS, Con.draw, Con.step, Draws.steps, Try.f31]
def eqSureStateC : Con Try.prog := Con.pure 31 Try.call31 (fun (i : ((Int) × (Int))) => match i with | (a, b) => [.agg #[.int .i64 a, .int .i64 b], .agg #[.int .i64 a, .int .i64 b]]) (fun (i : ((Int) × (Int))) => match i with | (a, b) => True) (fun (i : ((Int) × (Int))) => match i with | (a, b) => .bool true) fun i w _ => eqSureStateC_c i.1 i.2 w
end Go.Proofs.Ytfhnbdlkiemaeaa
