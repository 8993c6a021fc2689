/-
  The laws, walked.
-/
import Derived.Test.YtooiepddaclbgaaB
import Derived.Test.YtooiepddaclbgaaD
import Derived.Test.YtooiepddaclbgaaN
set_option linter.unusedVariables false
set_option linter.unusedSimpArgs false
set_option maxRecDepth 100000
set_option maxHeartbeats 4000000
namespace Go.Proofs.Ytooiepddaclbgaa
open Go Go.Sx

theorem lawMemRealC_c (m : M) (k n p : Int) (hpre : MOk m) (w : World) : Calls Try.prog 8 #[.agg (cells m), .agg #[.int .i64 k, .int .i64 n, .int .i64 p]] w fun e w' => e = .returned (.bool true) ∧ RowKit.Below w.heap.size w w' := by
  refine (plain_of_vcs ⟨[toMemC, toDevArgC, sMemRealC, memRealC, sameFloatC], []⟩ hmx Try.func8 rfl (by kernel_rfl) (args := [.agg (cells m), .agg #[.int .i64 k, .int .i64 n, .int .i64 p]]) (by simp [Try.ntmps8]) w (· = .bool true) 400 ?_).mono fun e w' ⟨v, h1, h2, h3⟩ => ⟨h2 ▸ h1, h3⟩
  simp (maxSteps := 4000000) [-List.all_eq_true, -Array.all_eq_true, -Bool.exists_bool, -Bool.forall_bool, vcs, Sx.get, Sx.look, Sx.put, pureFn, findOrd, binF, unF, dstOk, isFloatT, endVC, resFn, packC, newFn, storeFn, buildFn, undef, known, aggT, cellsC, Value.cells, findCon, Con.pure, Con.some, allV, partsV, partsC, fillL, Sx.exitTo, fAr, C.one, Value.oneCell', aggEqFn, eqFn, eqFieldsFn, eqElemsFn, partFn, and_assoc, List.zipIdx, sliceFn, boundFn, AppV, CopyV, MakeSliceV, NewsV, GrowV, TextV, bytesL, notInt, typeAt, argAt, Con.read, Con.make, Con.ext, Try.f8, toMemC, toDevArgC, sMemRealC, memRealC, sameFloatC, hpre]
  rintro v x rfl h v' y rfl h'
  have hs := memRealR_same hpre h' h
  simp [hs]
def lawMemRealC : Con Try.prog := Con.pure 8 Try.call8 (fun (i : (M) × (Int) × (Int) × (Int)) => match i with | (m, k, n, p) => [.agg (cells m), .agg #[.int .i64 k, .int .i64 n, .int .i64 p]]) (fun (i : (M) × (Int) × (Int) × (Int)) => match i with | (m, k, n, p) => MOk m) (fun (i : (M) × (Int) × (Int) × (Int)) => match i with | (m, k, n, p) => .bool true) fun i w hp => lawMemRealC_c i.1 i.2.1 i.2.2.1 i.2.2.2 hp w
end Go.Proofs.Ytooiepddaclbgaa
