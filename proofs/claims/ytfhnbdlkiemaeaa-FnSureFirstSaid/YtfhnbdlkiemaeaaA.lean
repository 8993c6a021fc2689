/-
  Contracts: devices and bits of the memory.
-/
import Derived.Test.YtfhnbdlkiemaeaaP
import Derived.Test.YtfhnbdlkiemaeaaFacts
set_option linter.unusedVariables false
set_option linter.unusedSimpArgs false
set_option maxRecDepth 100000
set_option maxHeartbeats 1000000
namespace Go.Proofs.Ytfhnbdlkiemaeaa
open Go Go.Sx

theorem withinC_c (a b c : Int) (w : World) : Calls Try.prog 92 #[.int .i64 a, .int .i64 b, .int .i64 c] w fun e w' => e = .returned (.bool (decide (b ≤ a ∧ a ≤ c))) ∧ RowKit.Below w.heap.size w w' := by
  refine (plain_of_vcs ⟨[], []⟩ hmx Try.func92 rfl (by kernel_rfl) (args := [.int .i64 a, .int .i64 b, .int .i64 c]) (by simp [Try.ntmps92]) w (· = .bool (decide (b ≤ a ∧ a ≤ c))) 400 ?_).mono fun e w' ⟨v, h1, h2, h3⟩ => ⟨h2 ▸ h1, h3⟩
  simp (maxSteps := 4000000) -dsimp [-List.all_eq_true, -Array.all_eq_true, -Bool.exists_bool, -Bool.forall_bool, vcsE1, vcsE2, vcsE3, vcsE4, vcsE5, vcsE6, vcsE7, vcsE8, vcsE9, vcsE10, vcsE11, vcsE12, vcsE13, vcsE14, vcsE15, vcsE16, vcsE17, vcsE18, vcsE19, Sx.get, Sx.look, Sx.put, pureFn, findOrd, unF, dstOk, isFloatT, endVC, resFn, packC, newFn, storeFn, buildFn, undef, known, aggT, cellsC, Value.cells, findCon, Con.pure, Con.some, allV, partsV, partsC, fillL, Sx.exitTo, fAr, C.one, Value.oneCell', eqFn, eqFieldsFn, eqElemsFn, partFn, and_assoc, List.zipIdx, sliceFn, boundFn, AppV, CopyV, MakeSliceV, NewsV, GrowV, TextV, bytesL, notInt, typeAt, argAt, Con.read, Con.make, Con.ext, Con.rel, den, Con.extS, Con.draw, Con.step, Draws.steps, Try.f92]
  omega
def withinC : Con Try.prog := Con.pure 92 Try.call92 (fun (i : ((Int) × (Int) × (Int))) => match i with | (a, b, c) => [.int .i64 a, .int .i64 b, .int .i64 c]) (fun (i : ((Int) × (Int) × (Int))) => match i with | (a, b, c) => True) (fun (i : ((Int) × (Int) × (Int))) => match i with | (a, b, c) => .bool (decide (b ≤ a ∧ a ≤ c))) fun i w _ => withinC_c i.1 i.2.1 i.2.2 w
theorem isDevC_c (k : Int) (w : World) : Calls Try.prog 111 #[.int .i64 k] w fun e w' => e = .returned (.bool (decide (1 ≤ k ∧ k ≤ 10))) ∧ RowKit.Below w.heap.size w w' := by
  refine (plain_of_vcs ⟨[withinC], []⟩ hmx Try.func111 rfl (by kernel_rfl) (args := [.int .i64 k]) (by simp [Try.ntmps111]) w (· = .bool (decide (1 ≤ k ∧ k ≤ 10))) 400 ?_).mono fun e w' ⟨v, h1, h2, h3⟩ => ⟨h2 ▸ h1, h3⟩
  simp (maxSteps := 4000000) -dsimp [-List.all_eq_true, -Array.all_eq_true, -Bool.exists_bool, -Bool.forall_bool, vcsE1, vcsE2, vcsE3, vcsE4, vcsE5, vcsE6, vcsE7, vcsE8, vcsE9, vcsE10, vcsE11, vcsE12, vcsE13, vcsE14, vcsE15, vcsE16, vcsE17, vcsE18, vcsE19, Sx.get, Sx.look, Sx.put, pureFn, findOrd, unF, dstOk, isFloatT, endVC, resFn, packC, newFn, storeFn, buildFn, undef, known, aggT, cellsC, Value.cells, findCon, Con.pure, Con.some, allV, partsV, partsC, fillL, Sx.exitTo, fAr, C.one, Value.oneCell', eqFn, eqFieldsFn, eqElemsFn, partFn, and_assoc, List.zipIdx, sliceFn, boundFn, AppV, CopyV, MakeSliceV, NewsV, GrowV, TextV, bytesL, notInt, typeAt, argAt, Con.read, Con.make, Con.ext, Con.rel, den, Con.extS, Con.draw, Con.step, Draws.steps, Try.f111, withinC]
def isDevC : Con Try.prog := Con.pure 111 Try.call111 (fun (k : ((Int))) => [.int .i64 k]) (fun (k : ((Int))) => True) (fun (k : ((Int))) => .bool (decide (1 ≤ k ∧ k ≤ 10))) fun k w _ => isDevC_c k w
theorem devSizeC_c (k : Int) (w : World) : Calls Try.prog 112 #[.int .i64 k] w fun e w' => e = .returned (.int .i64 (devSize k)) ∧ RowKit.Below w.heap.size w w' := by
  refine (plain_of_vcs ⟨[isDevC], []⟩ hmx Try.func112 rfl (by kernel_rfl) (args := [.int .i64 k]) (by simp [Try.ntmps112]) w (· = .int .i64 (devSize k)) 400 ?_).mono fun e w' ⟨v, h1, h2, h3⟩ => ⟨h2 ▸ h1, h3⟩
  simp (maxSteps := 4000000) -dsimp [-List.all_eq_true, -Array.all_eq_true, -Bool.exists_bool, -Bool.forall_bool, vcsE1, vcsE2, vcsE3, vcsE4, vcsE5, vcsE6, vcsE7, vcsE8, vcsE9, vcsE10, vcsE11, vcsE12, vcsE13, vcsE14, vcsE15, vcsE16, vcsE17, vcsE18, vcsE19, Sx.get, Sx.look, Sx.put, pureFn, findOrd, unF, dstOk, isFloatT, endVC, resFn, packC, newFn, storeFn, buildFn, undef, known, aggT, cellsC, Value.cells, findCon, Con.pure, Con.some, allV, partsV, partsC, fillL, Sx.exitTo, fAr, C.one, Value.oneCell', eqFn, eqFieldsFn, eqElemsFn, partFn, and_assoc, List.zipIdx, sliceFn, boundFn, AppV, CopyV, MakeSliceV, NewsV, GrowV, TextV, bytesL, notInt, typeAt, argAt, Con.read, Con.make, Con.ext, Con.rel, den, Con.extS, Con.draw, Con.step, Draws.steps, Try.f112, isDevC]
  refine ⟨fun h => (devSize_out h).symm, fun h1 h2 => ?_⟩
  obtain ⟨h3, h4, h5⟩ := devSize_tab h1 h2
  rw [h5]
  exact ⟨⟨h3, h4⟩, rfl⟩
def devSizeC : Con Try.prog := Con.pure 112 Try.call112 (fun (k : ((Int))) => [.int .i64 k]) (fun (k : ((Int))) => True) (fun (k : ((Int))) => .int .i64 (devSize k)) fun k w _ => devSizeC_c k w
theorem sDevSizeC_c (k : Int) (w : World) : Calls Try.prog 105 #[.int .i64 k] w fun e w' => e = .returned (.int .i64 (devSize k)) ∧ RowKit.Below w.heap.size w w' := by
  refine (plain_of_vcs ⟨[], []⟩ hmx Try.func105 rfl (by kernel_rfl) (args := [.int .i64 k]) (by simp [Try.ntmps105]) w (· = .int .i64 (devSize k)) 400 ?_).mono fun e w' ⟨v, h1, h2, h3⟩ => ⟨h2 ▸ h1, h3⟩
  simp (maxSteps := 4000000) -dsimp [-List.all_eq_true, -Array.all_eq_true, -Bool.exists_bool, -Bool.forall_bool, vcsE1, vcsE2, vcsE3, vcsE4, vcsE5, vcsE6, vcsE7, vcsE8, vcsE9, vcsE10, vcsE11, vcsE12, vcsE13, vcsE14, vcsE15, vcsE16, vcsE17, vcsE18, vcsE19, Sx.get, Sx.look, Sx.put, pureFn, findOrd, unF, dstOk, isFloatT, endVC, resFn, packC, newFn, storeFn, buildFn, undef, known, aggT, cellsC, Value.cells, findCon, Con.pure, Con.some, allV, partsV, partsC, fillL, Sx.exitTo, fAr, C.one, Value.oneCell', eqFn, eqFieldsFn, eqElemsFn, partFn, and_assoc, List.zipIdx, sliceFn, boundFn, AppV, CopyV, MakeSliceV, NewsV, GrowV, TextV, bytesL, notInt, typeAt, argAt, Con.read, Con.make, Con.ext, Con.rel, den, Con.extS, Con.draw, Con.step, Draws.steps, Try.f105]
  simp +contextual [devSize]
def sDevSizeC : Con Try.prog := Con.pure 105 Try.call105 (fun (k : ((Int))) => [.int .i64 k]) (fun (k : ((Int))) => True) (fun (k : ((Int))) => .int .i64 (devSize k)) fun k w _ => sDevSizeC_c k w
end Go.Proofs.Ytfhnbdlkiemaeaa
