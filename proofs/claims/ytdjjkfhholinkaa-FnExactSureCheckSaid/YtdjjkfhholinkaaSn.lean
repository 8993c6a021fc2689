/-
  Contracts: what the reference knows behind an instruction.
-/
import Derived.Test.YtdjjkfhholinkaaSk
import Derived.Test.YtdjjkfhholinkaaSs
set_option linter.unusedVariables false
set_option linter.unusedSimpArgs false
set_option maxRecDepth 100000
set_option maxHeartbeats 4000000
namespace Go.Proofs.Ytdjjkfhholinkaa
open Go Go.Sx

def nxI (z c d : Int) : Int := if c = 11 then 0 else z + d
def nxBase (base : Bool) (c : Int) : Bool := c != 11 && (base || c == 10 || c == 7)
theorem sNextC_c (b f : Int) (base coil : Bool) (c : Int) (hpre : -1048576 ≤ b ∧ b ≤ 1048576 ∧ -1048576 ≤ f ∧ f ≤ 1048576) (w : World) : Calls Try.prog 58 #[.agg #[.int .i64 b, .int .i64 f, .bool base, .bool coil], .int .i64 c] w fun e w' => e = .returned (.agg #[.int .i64 (nxI b c (dB c)), .int .i64 (nxI f c (dF c)), .bool (nxBase base c), .bool (c == 10)]) ∧ RowKit.Below w.heap.size w w' := by
  refine (plain_of_vcs ⟨[], []⟩ hmx Try.func58 rfl (by kernel_rfl) (args := [.agg #[.int .i64 b, .int .i64 f, .bool base, .bool coil], .int .i64 c]) (by simp [Try.ntmps58]) w (· = .agg #[.int .i64 (nxI b c (dB c)), .int .i64 (nxI f c (dF c)), .bool (nxBase base c), .bool (c == 10)]) 400 ?_).mono fun e w' ⟨v, h1, h2, h3⟩ => ⟨h2 ▸ h1, h3⟩
  have w1 : IntKind.i64.wrap (b + 1) = b + 1 := wrap_i64 (by omega) (by omega)
  have w2 : IntKind.i64.wrap (b - 1) = b - 1 := wrap_i64 (by omega) (by omega)
  have w3 : IntKind.i64.wrap (f + 1) = f + 1 := wrap_i64 (by omega) (by omega)
  have w4 : IntKind.i64.wrap (f - 1) = f - 1 := wrap_i64 (by omega) (by omega)
  have w5 : IntKind.i64.wrap (b + -1) = b + -1 := wrap_i64 (by omega) (by omega)
  have w6 : IntKind.i64.wrap (f + -1) = f + -1 := wrap_i64 (by omega) (by omega)
  by_cases h10 : c = 10
  · subst h10
    cases base <;> simp (maxSteps := 4000000) -dsimp [-List.all_eq_true, -Array.all_eq_true, -Bool.exists_bool, -Bool.forall_bool, vcsE1, vcsE2, vcsE3, vcsE4, vcsE5, vcsE6, vcsE7, vcsE8, vcsE9, vcsE10, vcsE11, vcsE12, vcsE13, vcsE14, vcsE15, vcsE16, vcsE17, vcsE18, vcsE19, Sx.get, Sx.look, Sx.put, pureFn, findOrd, unF, dstOk, isFloatT, endVC, resFn, packC, newFn, storeFn, buildFn, undef, known, aggT, cellsC, Value.cells, findCon, Con.pure, Con.some, allV, partsV, partsC, fillL, Sx.exitTo, fAr, C.one, Value.oneCell', eqFn, eqFieldsFn, eqElemsFn, partFn, and_assoc, List.zipIdx, sliceFn, boundFn, AppV, CopyV, MakeSliceV, NewsV, GrowV, TextV, bytesL, notInt, typeAt, argAt, Con.read, Con.make, Con.ext, Con.rel, den, Con.extS, Con.draw, Con.step, Draws.steps, Try.f58, dB, dF, w1, w2, w3, w4, nxBase, nxI]
  obtain h | h | h | h | h | h | h := code_cases c
  all_goals
    cases base <;> simp (maxSteps := 4000000) -dsimp [-List.all_eq_true, -Array.all_eq_true, -Bool.exists_bool, -Bool.forall_bool, vcsE1, vcsE2, vcsE3, vcsE4, vcsE5, vcsE6, vcsE7, vcsE8, vcsE9, vcsE10, vcsE11, vcsE12, vcsE13, vcsE14, vcsE15, vcsE16, vcsE17, vcsE18, vcsE19, Sx.get, Sx.look, Sx.put, pureFn, findOrd, unF, dstOk, isFloatT, endVC, resFn, packC, newFn, storeFn, buildFn, undef, known, aggT, cellsC, Value.cells, findCon, Con.pure, Con.some, allV, partsV, partsC, fillL, Sx.exitTo, fAr, C.one, Value.oneCell', eqFn, eqFieldsFn, eqElemsFn, partFn, and_assoc, List.zipIdx, sliceFn, boundFn, AppV, CopyV, MakeSliceV, NewsV, GrowV, TextV, bytesL, notInt, typeAt, argAt, Con.read, Con.make, Con.ext, Con.rel, den, Con.extS, Con.draw, Con.step, Draws.steps, Try.f58, h, h10, dB, dF, w1, w2, w3, w4, w5, w6, nxBase, nxI, Int.sub_eq_add_neg]
  rw [beq_eq_false_iff_ne.mpr h.2.2.2.2.1, beq_eq_false_iff_ne.mpr h10]
  simp
def sNextC : Con Try.prog := Con.pure 58 Try.call58 (fun (i : ((Int) × (Int) × (Bool) × (Bool) × (Int))) => match i with | (b, f, base, coil, c) => [.agg #[.int .i64 b, .int .i64 f, .bool base, .bool coil], .int .i64 c]) (fun (i : ((Int) × (Int) × (Bool) × (Bool) × (Int))) => match i with | (b, f, base, coil, c) => -1048576 ≤ b ∧ b ≤ 1048576 ∧ -1048576 ≤ f ∧ f ≤ 1048576) (fun (i : ((Int) × (Int) × (Bool) × (Bool) × (Int))) => match i with | (b, f, base, coil, c) => .agg #[.int .i64 (nxI b c (dB c)), .int .i64 (nxI f c (dF c)), .bool (nxBase base c), .bool (c == 10)]) fun i w hp => sNextC_c i.1 i.2.1 i.2.2.1 i.2.2.2.1 i.2.2.2.2 hp w
end Go.Proofs.Ytdjjkfhholinkaa
