/-
  The laws, walked.
-/
import Derived.Test.YtooiepddaclbgaaA
import Derived.Test.YtooiepddaclbgaaB
import Derived.Test.YtooiepddaclbgaaD
import Derived.Test.YtooiepddaclbgaaE
set_option linter.unusedVariables false
set_option linter.unusedSimpArgs false
set_option maxRecDepth 100000
set_option maxHeartbeats 4000000
namespace Go.Proofs.Ytooiepddaclbgaa
open Go Go.Sx

theorem lawMemPutWholeC_c (m : M) (k n p v : Int) (hpre : MOk (memPutWhole m k n v)) (w : World) : Calls Try.prog 10 #[.agg (cells m), .agg #[.int .i64 k, .int .i64 n, .int .i64 p], .int .i16 v] w fun e w' => e = .returned (.bool true) ∧ RowKit.Below w.heap.size w w' := by
  refine (plain_of_vcs ⟨[toMemC, toDevArgC, sMemPutWholeC, memPutWholeC, eqMemC], []⟩ hmx Try.func10 rfl (by kernel_rfl) (args := [.agg (cells m), .agg #[.int .i64 k, .int .i64 n, .int .i64 p], .int .i16 v]) (by simp [Try.ntmps10]) w (· = .bool true) 400 ?_).mono fun e w' ⟨v, h1, h2, h3⟩ => ⟨h2 ▸ h1, h3⟩
  simp [-List.all_eq_true, -Bool.exists_bool, -Bool.forall_bool, vcs, Sx.get, Sx.look, Sx.put, pureFn, findOrd, binF, unF, dstOk, endVC, resFn, packC, newFn, storeFn, buildFn, undef, known, aggT, cellsC, Value.cells, findCon, Con.pure, Con.some, allV, partsV, partsC, fillL, Sx.exitTo, fAr, C.one, Value.oneCell', aggEqFn, eqFn, eqFieldsFn, eqElemsFn, partFn, and_assoc, List.zipIdx, Try.f10, toMemC, toDevArgC, sMemPutWholeC, memPutWholeC, eqMemC, hpre, MSame_refl]
def lawMemPutWholeC : Con Try.prog := Con.pure 10 Try.call10 (fun (i : (M) × (Int) × (Int) × (Int) × (Int)) => match i with | (m, k, n, p, v) => [.agg (cells m), .agg #[.int .i64 k, .int .i64 n, .int .i64 p], .int .i16 v]) (fun (i : (M) × (Int) × (Int) × (Int) × (Int)) => match i with | (m, k, n, p, v) => MOk (memPutWhole m k n v)) (fun (i : (M) × (Int) × (Int) × (Int) × (Int)) => match i with | (m, k, n, p, v) => .bool true) fun i w hp => lawMemPutWholeC_c i.1 i.2.1 i.2.2.1 i.2.2.2.1 i.2.2.2.2 hp w
theorem lawMemPutRealC_c (m : M) (k n p : Int) (v : Nat) (hpre : MOk (memPutReal m k n v)) (w : World) : Calls Try.prog 9 #[.agg (cells m), .agg #[.int .i64 k, .int .i64 n, .int .i64 p], .float .f64 v] w fun e w' => e = .returned (.bool true) ∧ RowKit.Below w.heap.size w w' := by
  refine (plain_of_vcs ⟨[toMemC, toDevArgC, sMemPutRealC, memPutRealC, eqMemC], []⟩ hmx Try.func9 rfl (by kernel_rfl) (args := [.agg (cells m), .agg #[.int .i64 k, .int .i64 n, .int .i64 p], .float .f64 v]) (by simp [Try.ntmps9]) w (· = .bool true) 400 ?_).mono fun e w' ⟨v, h1, h2, h3⟩ => ⟨h2 ▸ h1, h3⟩
  simp [-List.all_eq_true, -Bool.exists_bool, -Bool.forall_bool, vcs, Sx.get, Sx.look, Sx.put, pureFn, findOrd, binF, unF, dstOk, endVC, resFn, packC, newFn, storeFn, buildFn, undef, known, aggT, cellsC, Value.cells, findCon, Con.pure, Con.some, allV, partsV, partsC, fillL, Sx.exitTo, fAr, C.one, Value.oneCell', aggEqFn, eqFn, eqFieldsFn, eqElemsFn, partFn, and_assoc, List.zipIdx, Try.f9, toMemC, toDevArgC, sMemPutRealC, memPutRealC, eqMemC, hpre, MSame_refl]
def lawMemPutRealC : Con Try.prog := Con.pure 9 Try.call9 (fun (i : (M) × (Int) × (Int) × (Int) × (Nat)) => match i with | (m, k, n, p, v) => [.agg (cells m), .agg #[.int .i64 k, .int .i64 n, .int .i64 p], .float .f64 v]) (fun (i : (M) × (Int) × (Int) × (Int) × (Nat)) => match i with | (m, k, n, p, v) => MOk (memPutReal m k n v)) (fun (i : (M) × (Int) × (Int) × (Int) × (Nat)) => match i with | (m, k, n, p, v) => .bool true) fun i w hp => lawMemPutRealC_c i.1 i.2.1 i.2.2.1 i.2.2.2.1 i.2.2.2.2 hp w
theorem lawActEndC_c (m : M) (hpre : MOk m) (w : World) : Calls Try.prog 5 #[.agg (cells m)] w fun e w' => e = .returned (.bool true) ∧ RowKit.Below w.heap.size w w' := by
  refine (plain_of_vcs ⟨[toMemC, sActEndC, actEndC, eqMemC], []⟩ hmx Try.func5 rfl (by kernel_rfl) (args := [.agg (cells m)]) (by simp [Try.ntmps5]) w (· = .bool true) 400 ?_).mono fun e w' ⟨v, h1, h2, h3⟩ => ⟨h2 ▸ h1, h3⟩
  have h : MOk { m with Ran := true } := ⟨hpre.X, hpre.Y, hpre.Mw, hpre.S, hpre.E, hpre.T, hpre.C, hpre.D, hpre.R, hpre.Time⟩
  simp [-List.all_eq_true, -Bool.exists_bool, -Bool.forall_bool, vcs, Sx.get, Sx.look, Sx.put, pureFn, findOrd, binF, unF, dstOk, endVC, resFn, packC, newFn, storeFn, buildFn, undef, known, aggT, cellsC, Value.cells, findCon, Con.pure, Con.some, allV, partsV, partsC, fillL, Sx.exitTo, fAr, C.one, Value.oneCell', aggEqFn, eqFn, eqFieldsFn, eqElemsFn, partFn, and_assoc, List.zipIdx, Try.f5, toMemC, sActEndC, actEndC, eqMemC, h, MSame_refl]
def lawActEndC : Con Try.prog := Con.pure 5 Try.call5 (fun (m : (M)) => [.agg (cells m)]) (fun (m : (M)) => MOk m) (fun (m : (M)) => .bool true) fun m w hp => lawActEndC_c m hp w
end Go.Proofs.Ytooiepddaclbgaa
