/-
  The laws, walked.
-/
import Derived.Test.YtooiepddaclbgaaA
import Derived.Test.YtooiepddaclbgaaB
import Derived.Test.YtooiepddaclbgaaE
set_option linter.unusedVariables false
set_option linter.unusedSimpArgs false
set_option maxRecDepth 100000
set_option maxHeartbeats 4000000
namespace Go.Proofs.Ytooiepddaclbgaa
open Go Go.Sx

theorem lawMemBitC_c (m : M) (k n p : Int) (hpre : MOk m) (w : World) : Calls Try.prog 6 #[.agg (cells m), .agg #[.int .i64 k, .int .i64 n, .int .i64 p]] w fun e w' => e = .returned (.bool true) ∧ RowKit.Below w.heap.size w w' := by
  refine (plain_of_vcs [toMemC, toDevArgC, sMemBitC, memBitC] hmx Try.func6 rfl (by kernel_rfl) (args := [.agg (cells m), .agg #[.int .i64 k, .int .i64 n, .int .i64 p]]) (by simp [Try.ntmps6]) w (· = .bool true) 400 ?_).mono fun e w' ⟨v, h1, h2, h3⟩ => ⟨h2 ▸ h1, h3⟩
  simp [-List.all_eq_true, -Bool.exists_bool, -Bool.forall_bool, vcs, Sx.get, Sx.look, Sx.put, pureFn, binF, unF, dstOk, endVC, resFn, packC, newFn, storeFn, buildFn, undef, known, aggT, cellsC, Value.cells, findCon, Con.pure, Con.some, allV, partsV, partsC, fillL, Sx.exitTo, fAr, C.one, Value.oneCell', aggEqFn, eqFn, eqFieldsFn, eqElemsFn, partFn, and_assoc, List.zipIdx, Try.f6, toMemC, toDevArgC, sMemBitC, memBitC, hpre]
def lawMemBitC : Con Try.prog := Con.pure 6 Try.call6 (fun (i : (M) × (Int) × (Int) × (Int)) => match i with | (m, k, n, p) => [.agg (cells m), .agg #[.int .i64 k, .int .i64 n, .int .i64 p]]) (fun (i : (M) × (Int) × (Int) × (Int)) => match i with | (m, k, n, p) => MOk m) (fun (i : (M) × (Int) × (Int) × (Int)) => match i with | (m, k, n, p) => .bool true) fun i w hp => lawMemBitC_c i.1 i.2.1 i.2.2.1 i.2.2.2 hp w
theorem lawMemWholeC_c (m : M) (k n p : Int) (hpre : MOk m) (w : World) : Calls Try.prog 4 #[.agg (cells m), .agg #[.int .i64 k, .int .i64 n, .int .i64 p]] w fun e w' => e = .returned (.bool true) ∧ RowKit.Below w.heap.size w w' := by
  refine (plain_of_vcs [toMemC, toDevArgC, sMemWholeC, memWholeC] hmx Try.func4 rfl (by kernel_rfl) (args := [.agg (cells m), .agg #[.int .i64 k, .int .i64 n, .int .i64 p]]) (by simp [Try.ntmps4]) w (· = .bool true) 400 ?_).mono fun e w' ⟨v, h1, h2, h3⟩ => ⟨h2 ▸ h1, h3⟩
  simp [-List.all_eq_true, -Bool.exists_bool, -Bool.forall_bool, vcs, Sx.get, Sx.look, Sx.put, pureFn, binF, unF, dstOk, endVC, resFn, packC, newFn, storeFn, buildFn, undef, known, aggT, cellsC, Value.cells, findCon, Con.pure, Con.some, allV, partsV, partsC, fillL, Sx.exitTo, fAr, C.one, Value.oneCell', aggEqFn, eqFn, eqFieldsFn, eqElemsFn, partFn, and_assoc, List.zipIdx, Try.f4, toMemC, toDevArgC, sMemWholeC, memWholeC, hpre]
def lawMemWholeC : Con Try.prog := Con.pure 4 Try.call4 (fun (i : (M) × (Int) × (Int) × (Int)) => match i with | (m, k, n, p) => [.agg (cells m), .agg #[.int .i64 k, .int .i64 n, .int .i64 p]]) (fun (i : (M) × (Int) × (Int) × (Int)) => match i with | (m, k, n, p) => MOk m) (fun (i : (M) × (Int) × (Int) × (Int)) => match i with | (m, k, n, p) => .bool true) fun i w hp => lawMemWholeC_c i.1 i.2.1 i.2.2.1 i.2.2.2 hp w
end Go.Proofs.Ytooiepddaclbgaa
