/-
  The laws, walked.
-/
import Derived.Test.YtooiepddaclbgaaA
import Derived.Test.YtooiepddaclbgaaB
import Derived.Test.YtooiepddaclbgaaD
import Derived.Test.YtooiepddaclbgaaG
set_option linter.unusedVariables false
set_option linter.unusedSimpArgs false
set_option maxRecDepth 100000
set_option maxHeartbeats 4000000
namespace Go.Proofs.Ytooiepddaclbgaa
open Go Go.Sx

@[simp] theorem len_sampleL (x t : Int) (f : Arr 4 Nat) : (sampleL x t f).length = 6 := by kernel_rfl
@[simp] theorem take_sampleL (x t : Int) (f : Arr 4 Nat) : List.take 6 (List.map C.v (sampleL x t f)) = List.map C.v (sampleL x t f) := by kernel_rfl
@[simp] theorem sampleL_inj {x t x' t' : Int} {f g : Arr 4 Nat} : sampleL x t f = sampleL x' t' g ↔ x = x' ∧ t = t' ∧ f = g := by
  constructor
  · intro h
    simp [sampleL] at h
    exact h
  · rintro ⟨rfl, rfl, rfl⟩; rfl

theorem lawMemPutC_c (m : M) (k n p : Int) (b : Bool) (hpre : MOk m) (w : World) : Calls Try.prog 11 #[.agg (cells m), .agg #[.int .i64 k, .int .i64 n, .int .i64 p], .bool b] w fun e w' => e = .returned (.bool true) ∧ RowKit.Below w.heap.size w w' := by
  refine (plain_of_vcs ⟨[toMemC, toDevArgC, sMemPutC, memPutC, eqMemC], []⟩ hmx Try.func11 rfl (by kernel_rfl) (args := [.agg (cells m), .agg #[.int .i64 k, .int .i64 n, .int .i64 p], .bool b]) (by simp [Try.ntmps11]) w (· = .bool true) 400 ?_).mono fun e w' ⟨v, h1, h2, h3⟩ => ⟨h2 ▸ h1, h3⟩
  have h := memPut_ok (k := k) (n := n) (b := b) hpre
  simp (maxSteps := 4000000) [-List.all_eq_true, -Bool.exists_bool, -Bool.forall_bool, vcs, Sx.get, Sx.look, Sx.put, pureFn, findOrd, binF, unF, dstOk, isFloatT, endVC, resFn, packC, newFn, storeFn, buildFn, undef, known, aggT, cellsC, Value.cells, findCon, Con.pure, Con.some, allV, partsV, partsC, fillL, Sx.exitTo, fAr, C.one, Value.oneCell', aggEqFn, eqFn, eqFieldsFn, eqElemsFn, partFn, and_assoc, List.zipIdx, sliceFn, boundFn, AppV, CopyV, MakeSliceV, NewsV, GrowV, TextV, bytesL, notInt, typeAt, argAt, Try.f11, toMemC, toDevArgC, sMemPutC, memPutC, eqMemC, hpre, h, MSame_refl]
def lawMemPutC : Con Try.prog := Con.pure 11 Try.call11 (fun (i : (M) × (Int) × (Int) × (Int) × (Bool)) => match i with | (m, k, n, p, b) => [.agg (cells m), .agg #[.int .i64 k, .int .i64 n, .int .i64 p], .bool b]) (fun (i : (M) × (Int) × (Int) × (Int) × (Bool)) => match i with | (m, k, n, p, b) => MOk m) (fun (i : (M) × (Int) × (Int) × (Int) × (Bool)) => match i with | (m, k, n, p, b) => .bool true) fun i w hp => lawMemPutC_c i.1 i.2.1 i.2.2.1 i.2.2.2.1 i.2.2.2.2 hp w
theorem lawActStartC_c (m : M) (x t : Int) (f : Arr 4 Nat) (hpre : MOk (actStart m x t f)) (w : World) : Calls Try.prog 7 #[.agg (cells m), .agg (sampleL x t f).toArray] w fun e w' => e = .returned (.bool true) ∧ RowKit.Below w.heap.size w w' := by
  refine (plain_of_vcs ⟨[toMemC, toSampleC, sActStartC, actStartC, eqMemC], []⟩ hmx Try.func7 rfl (by kernel_rfl) (args := [.agg (cells m), .agg (sampleL x t f).toArray]) (by simp [Try.ntmps7]) w (· = .bool true) 400 ?_).mono fun e w' ⟨v, h1, h2, h3⟩ => ⟨h2 ▸ h1, h3⟩
  simp (maxSteps := 4000000) [-List.all_eq_true, -Bool.exists_bool, -Bool.forall_bool, vcs, Sx.get, Sx.look, Sx.put, pureFn, findOrd, binF, unF, dstOk, isFloatT, endVC, resFn, packC, newFn, storeFn, buildFn, undef, known, aggT, cellsC, Value.cells, findCon, Con.pure, Con.some, allV, partsV, partsC, fillL, Sx.exitTo, fAr, C.one, Value.oneCell', aggEqFn, eqFn, eqFieldsFn, eqElemsFn, partFn, and_assoc, List.zipIdx, sliceFn, boundFn, AppV, CopyV, MakeSliceV, NewsV, GrowV, TextV, bytesL, notInt, typeAt, argAt, Try.f7, toMemC, toSampleC, sActStartC, actStartC, eqMemC, hpre, MSame_refl]
def lawActStartC : Con Try.prog := Con.pure 7 Try.call7 (fun (i : (M) × (Int) × (Int) × (Arr 4 Nat)) => match i with | (m, x, t, f) => [.agg (cells m), .agg (sampleL x t f).toArray]) (fun (i : (M) × (Int) × (Int) × (Arr 4 Nat)) => match i with | (m, x, t, f) => MOk (actStart m x t f)) (fun (i : (M) × (Int) × (Int) × (Arr 4 Nat)) => match i with | (m, x, t, f) => .bool true) fun i w hp => lawActStartC_c i.1 i.2.1 i.2.2.1 i.2.2.2 hp w
end Go.Proofs.Ytooiepddaclbgaa
