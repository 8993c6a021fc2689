/-
  Contracts: the mirrored memory is copied cell by cell.
-/
import Derived.Test.YtooiepddaclbgaaP
import Derived.Test.YtooiepddaclbgaaFacts
set_option linter.unusedVariables false
set_option linter.unusedSimpArgs false
set_option maxRecDepth 100000
set_option maxHeartbeats 4000000
namespace Go.Proofs.Ytooiepddaclbgaa
open Go Go.Sx

theorem toTimerC_c (b : Bool) (n : Int) (w : World) : Calls Try.prog 76 #[.agg #[.bool b, .int .u16 n]] w fun e w' => e = .returned (.agg #[.bool b, .int .u16 n]) ∧ RowKit.Below w.heap.size w w' := by
  refine (plain_of_vcs ⟨[], []⟩ hmx Try.func76 rfl (by kernel_rfl) (args := [.agg #[.bool b, .int .u16 n]]) (by simp [Try.ntmps76]) w (· = .agg #[.bool b, .int .u16 n]) 400 ?_).mono fun e w' ⟨v, h1, h2, h3⟩ => ⟨h2 ▸ h1, h3⟩
  simp (maxSteps := 4000000) [-List.all_eq_true, -Bool.exists_bool, -Bool.forall_bool, vcs, Sx.get, Sx.look, Sx.put, pureFn, findOrd, binF, unF, dstOk, isFloatT, endVC, resFn, packC, newFn, storeFn, buildFn, undef, known, aggT, cellsC, Value.cells, findCon, Con.pure, Con.some, allV, partsV, partsC, fillL, Sx.exitTo, fAr, C.one, Value.oneCell', aggEqFn, eqFn, eqFieldsFn, eqElemsFn, partFn, and_assoc, List.zipIdx, sliceFn, boundFn, AppV, CopyV, MakeSliceV, NewsV, GrowV, TextV, bytesL, notInt, typeAt, argAt, Try.f76]
def toTimerC : Con Try.prog := Con.pure 76 Try.call76 (fun (i : (Bool) × (Int)) => match i with | (b, n) => [.agg #[.bool b, .int .u16 n]]) (fun (i : (Bool) × (Int)) => match i with | (b, n) => True) (fun (i : (Bool) × (Int)) => match i with | (b, n) => .agg #[.bool b, .int .u16 n]) fun i w _ => toTimerC_c i.1 i.2 w
theorem toCounterC_c (b c : Bool) (n : Int) (w : World) : Calls Try.prog 77 #[.agg #[.bool b, .bool c, .int .u16 n]] w fun e w' => e = .returned (.agg #[.bool b, .bool c, .int .u16 n]) ∧ RowKit.Below w.heap.size w w' := by
  refine (plain_of_vcs ⟨[], []⟩ hmx Try.func77 rfl (by kernel_rfl) (args := [.agg #[.bool b, .bool c, .int .u16 n]]) (by simp [Try.ntmps77]) w (· = .agg #[.bool b, .bool c, .int .u16 n]) 400 ?_).mono fun e w' ⟨v, h1, h2, h3⟩ => ⟨h2 ▸ h1, h3⟩
  simp (maxSteps := 4000000) [-List.all_eq_true, -Bool.exists_bool, -Bool.forall_bool, vcs, Sx.get, Sx.look, Sx.put, pureFn, findOrd, binF, unF, dstOk, isFloatT, endVC, resFn, packC, newFn, storeFn, buildFn, undef, known, aggT, cellsC, Value.cells, findCon, Con.pure, Con.some, allV, partsV, partsC, fillL, Sx.exitTo, fAr, C.one, Value.oneCell', aggEqFn, eqFn, eqFieldsFn, eqElemsFn, partFn, and_assoc, List.zipIdx, sliceFn, boundFn, AppV, CopyV, MakeSliceV, NewsV, GrowV, TextV, bytesL, notInt, typeAt, argAt, Try.f77]
def toCounterC : Con Try.prog := Con.pure 77 Try.call77 (fun (i : (Bool) × (Bool) × (Int)) => match i with | (b, c, n) => [.agg #[.bool b, .bool c, .int .u16 n]]) (fun (i : (Bool) × (Bool) × (Int)) => match i with | (b, c, n) => True) (fun (i : (Bool) × (Bool) × (Int)) => match i with | (b, c, n) => .agg #[.bool b, .bool c, .int .u16 n]) fun i w _ => toCounterC_c i.1 i.2.1 i.2.2 w
theorem toTimersC_c (f : Arr 16 (Bool × Int)) (w : World) : Calls Try.prog 46 #[.agg (tL f).toArray] w fun e w' => e = .returned (.agg (tL f).toArray) ∧ RowKit.Below w.heap.size w w' := by
  refine (plain_of_vcs ⟨[toTimerC], []⟩ hmx Try.func46 rfl (by kernel_rfl) (args := [.agg (tL f).toArray]) (by simp [Try.ntmps46]) w (· = .agg (tL f).toArray) 1000 ?_).mono fun e w' ⟨v, h1, h2, h3⟩ => ⟨h2 ▸ h1, h3⟩
  rw [tL_lit]
  simp (maxSteps := 4000000) [-List.all_eq_true, -Bool.exists_bool, -Bool.forall_bool, vcs, Sx.get, Sx.look, Sx.put, pureFn, findOrd, binF, unF, dstOk, isFloatT, endVC, resFn, packC, newFn, storeFn, buildFn, undef, known, aggT, cellsC, Value.cells, findCon, Con.pure, Con.some, allV, partsV, partsC, fillL, Sx.exitTo, fAr, C.one, Value.oneCell', aggEqFn, eqFn, eqFieldsFn, eqElemsFn, partFn, and_assoc, List.zipIdx, sliceFn, boundFn, AppV, CopyV, MakeSliceV, NewsV, GrowV, TextV, bytesL, notInt, typeAt, argAt, Try.f46, toTimerC]
  intro _ _ _
  iterate 17
    refine loop_unroll (σ := ⟨[toTimerC], []⟩) (n := 1000) hmx (by kernel_rfl) ?_
    simp (maxSteps := 4000000) [-List.all_eq_true, -Bool.exists_bool, -Bool.forall_bool, vcs, Sx.get, Sx.look, Sx.put, pureFn, findOrd, binF, unF, dstOk, isFloatT, endVC, resFn, packC, newFn, storeFn, buildFn, undef, known, aggT, cellsC, Value.cells, findCon, Con.pure, Con.some, allV, partsV, partsC, fillL, Sx.exitTo, fAr, C.one, Value.oneCell', aggEqFn, eqFn, eqFieldsFn, eqElemsFn, partFn, and_assoc, List.zipIdx, sliceFn, boundFn, AppV, CopyV, MakeSliceV, NewsV, GrowV, TextV, bytesL, notInt, typeAt, argAt, Try.f46, toTimerC, IntKind.wrap, IntKind.signed, IntKind.bits]
def toTimersC : Con Try.prog := Con.pure 46 Try.call46 (fun (f : (Arr 16 (Bool × Int))) => [.agg (tL f).toArray]) (fun (f : (Arr 16 (Bool × Int))) => True) (fun (f : (Arr 16 (Bool × Int))) => .agg (tL f).toArray) fun f w _ => toTimersC_c f w
theorem toCountersC_c (f : Arr 16 (Bool × Bool × Int)) (w : World) : Calls Try.prog 47 #[.agg (cL f).toArray] w fun e w' => e = .returned (.agg (cL f).toArray) ∧ RowKit.Below w.heap.size w w' := by
  refine (plain_of_vcs ⟨[toCounterC], []⟩ hmx Try.func47 rfl (by kernel_rfl) (args := [.agg (cL f).toArray]) (by simp [Try.ntmps47]) w (· = .agg (cL f).toArray) 1000 ?_).mono fun e w' ⟨v, h1, h2, h3⟩ => ⟨h2 ▸ h1, h3⟩
  rw [cL_lit]
  simp (maxSteps := 4000000) [-List.all_eq_true, -Bool.exists_bool, -Bool.forall_bool, vcs, Sx.get, Sx.look, Sx.put, pureFn, findOrd, binF, unF, dstOk, isFloatT, endVC, resFn, packC, newFn, storeFn, buildFn, undef, known, aggT, cellsC, Value.cells, findCon, Con.pure, Con.some, allV, partsV, partsC, fillL, Sx.exitTo, fAr, C.one, Value.oneCell', aggEqFn, eqFn, eqFieldsFn, eqElemsFn, partFn, and_assoc, List.zipIdx, sliceFn, boundFn, AppV, CopyV, MakeSliceV, NewsV, GrowV, TextV, bytesL, notInt, typeAt, argAt, Try.f47, toCounterC]
  intro _ _ _
  iterate 17
    refine loop_unroll (σ := ⟨[toCounterC], []⟩) (n := 1000) hmx (by kernel_rfl) ?_
    simp (maxSteps := 4000000) [-List.all_eq_true, -Bool.exists_bool, -Bool.forall_bool, vcs, Sx.get, Sx.look, Sx.put, pureFn, findOrd, binF, unF, dstOk, isFloatT, endVC, resFn, packC, newFn, storeFn, buildFn, undef, known, aggT, cellsC, Value.cells, findCon, Con.pure, Con.some, allV, partsV, partsC, fillL, Sx.exitTo, fAr, C.one, Value.oneCell', aggEqFn, eqFn, eqFieldsFn, eqElemsFn, partFn, and_assoc, List.zipIdx, sliceFn, boundFn, AppV, CopyV, MakeSliceV, NewsV, GrowV, TextV, bytesL, notInt, typeAt, argAt, Try.f47, toCounterC, IntKind.wrap, IntKind.signed, IntKind.bits]
def toCountersC : Con Try.prog := Con.pure 47 Try.call47 (fun (f : (Arr 16 (Bool × Bool × Int))) => [.agg (cL f).toArray]) (fun (f : (Arr 16 (Bool × Bool × Int))) => True) (fun (f : (Arr 16 (Bool × Bool × Int))) => .agg (cL f).toArray) fun f w _ => toCountersC_c f w
theorem toIntsC_c (f : Arr 32 Int) (w : World) : Calls Try.prog 48 #[.agg (dL f).toArray] w fun e w' => e = .returned (.agg (dL f).toArray) ∧ RowKit.Below w.heap.size w w' := by
  refine (plain_of_vcs ⟨[], []⟩ hmx Try.func48 rfl (by kernel_rfl) (args := [.agg (dL f).toArray]) (by simp [Try.ntmps48]) w (· = .agg (dL f).toArray) 1000 ?_).mono fun e w' ⟨v, h1, h2, h3⟩ => ⟨h2 ▸ h1, h3⟩
  rw [dL_lit]
  simp (maxSteps := 4000000) [-List.all_eq_true, -Bool.exists_bool, -Bool.forall_bool, vcs, Sx.get, Sx.look, Sx.put, pureFn, findOrd, binF, unF, dstOk, isFloatT, endVC, resFn, packC, newFn, storeFn, buildFn, undef, known, aggT, cellsC, Value.cells, findCon, Con.pure, Con.some, allV, partsV, partsC, fillL, Sx.exitTo, fAr, C.one, Value.oneCell', aggEqFn, eqFn, eqFieldsFn, eqElemsFn, partFn, and_assoc, List.zipIdx, sliceFn, boundFn, AppV, CopyV, MakeSliceV, NewsV, GrowV, TextV, bytesL, notInt, typeAt, argAt, Try.f48]
  intro _ _ _
  iterate 33
    refine loop_unroll (σ := ⟨[], []⟩) (n := 1000) hmx (by kernel_rfl) ?_
    simp (maxSteps := 4000000) [-List.all_eq_true, -Bool.exists_bool, -Bool.forall_bool, vcs, Sx.get, Sx.look, Sx.put, pureFn, findOrd, binF, unF, dstOk, isFloatT, endVC, resFn, packC, newFn, storeFn, buildFn, undef, known, aggT, cellsC, Value.cells, findCon, Con.pure, Con.some, allV, partsV, partsC, fillL, Sx.exitTo, fAr, C.one, Value.oneCell', aggEqFn, eqFn, eqFieldsFn, eqElemsFn, partFn, and_assoc, List.zipIdx, sliceFn, boundFn, AppV, CopyV, MakeSliceV, NewsV, GrowV, TextV, bytesL, notInt, typeAt, argAt, Try.f48, IntKind.wrap, IntKind.signed, IntKind.bits]
def toIntsC : Con Try.prog := Con.pure 48 Try.call48 (fun (f : (Arr 32 Int)) => [.agg (dL f).toArray]) (fun (f : (Arr 32 Int)) => True) (fun (f : (Arr 32 Int)) => .agg (dL f).toArray) fun f w _ => toIntsC_c f w
theorem toRealsC_c (f : Arr 16 Nat) (w : World) : Calls Try.prog 49 #[.agg (rL f).toArray] w fun e w' => e = .returned (.agg (rL f).toArray) ∧ RowKit.Below w.heap.size w w' := by
  refine (plain_of_vcs ⟨[], []⟩ hmx Try.func49 rfl (by kernel_rfl) (args := [.agg (rL f).toArray]) (by simp [Try.ntmps49]) w (· = .agg (rL f).toArray) 1000 ?_).mono fun e w' ⟨v, h1, h2, h3⟩ => ⟨h2 ▸ h1, h3⟩
  rw [rL_lit]
  simp (maxSteps := 4000000) [-List.all_eq_true, -Bool.exists_bool, -Bool.forall_bool, vcs, Sx.get, Sx.look, Sx.put, pureFn, findOrd, binF, unF, dstOk, isFloatT, endVC, resFn, packC, newFn, storeFn, buildFn, undef, known, aggT, cellsC, Value.cells, findCon, Con.pure, Con.some, allV, partsV, partsC, fillL, Sx.exitTo, fAr, C.one, Value.oneCell', aggEqFn, eqFn, eqFieldsFn, eqElemsFn, partFn, and_assoc, List.zipIdx, sliceFn, boundFn, AppV, CopyV, MakeSliceV, NewsV, GrowV, TextV, bytesL, notInt, typeAt, argAt, Try.f49]
  intro _ _ _
  iterate 17
    refine loop_unroll (σ := ⟨[], []⟩) (n := 1000) hmx (by kernel_rfl) ?_
    simp (maxSteps := 4000000) [-List.all_eq_true, -Bool.exists_bool, -Bool.forall_bool, vcs, Sx.get, Sx.look, Sx.put, pureFn, findOrd, binF, unF, dstOk, isFloatT, endVC, resFn, packC, newFn, storeFn, buildFn, undef, known, aggT, cellsC, Value.cells, findCon, Con.pure, Con.some, allV, partsV, partsC, fillL, Sx.exitTo, fAr, C.one, Value.oneCell', aggEqFn, eqFn, eqFieldsFn, eqElemsFn, partFn, and_assoc, List.zipIdx, sliceFn, boundFn, AppV, CopyV, MakeSliceV, NewsV, GrowV, TextV, bytesL, notInt, typeAt, argAt, Try.f49, IntKind.wrap, IntKind.signed, IntKind.bits]
def toRealsC : Con Try.prog := Con.pure 49 Try.call49 (fun (f : (Arr 16 Nat)) => [.agg (rL f).toArray]) (fun (f : (Arr 16 Nat)) => True) (fun (f : (Arr 16 Nat)) => .agg (rL f).toArray) fun f w _ => toRealsC_c f w
theorem toMemC_c (m : M) (w : World) : Calls Try.prog 16 #[.agg (cells m)] w fun e w' => e = .returned (.agg (cells m)) ∧ RowKit.Below w.heap.size w w' := by
  refine (plain_of_vcs ⟨[toTimersC, toCountersC, toIntsC, toRealsC], []⟩ hmx Try.func16 rfl (by kernel_rfl) (args := [.agg (cells m)]) (by simp [Try.ntmps16]) w (· = .agg (cells m)) 1000 ?_).mono fun e w' ⟨v, h1, h2, h3⟩ => ⟨h2 ▸ h1, h3⟩
  simp (maxSteps := 4000000) [-List.all_eq_true, -Bool.exists_bool, -Bool.forall_bool, vcs, Sx.get, Sx.look, Sx.put, pureFn, findOrd, binF, unF, dstOk, isFloatT, endVC, resFn, packC, newFn, storeFn, buildFn, undef, known, aggT, cellsC, Value.cells, findCon, Con.pure, Con.some, allV, partsV, partsC, fillL, Sx.exitTo, fAr, C.one, Value.oneCell', aggEqFn, eqFn, eqFieldsFn, eqElemsFn, partFn, and_assoc, List.zipIdx, sliceFn, boundFn, AppV, CopyV, MakeSliceV, NewsV, GrowV, TextV, bytesL, notInt, typeAt, argAt, Try.f16, toTimersC, toCountersC, toIntsC, toRealsC]
def toMemC : Con Try.prog := Con.pure 16 Try.call16 (fun (m : (M)) => [.agg (cells m)]) (fun (m : (M)) => True) (fun (m : (M)) => .agg (cells m)) fun m w _ => toMemC_c m w
theorem toDevArgC_c (k n p : Int) (w : World) : Calls Try.prog 19 #[.agg #[.int .i64 k, .int .i64 n, .int .i64 p]] w fun e w' => e = .returned (.agg #[.int .i64 k, .int .i64 n, .int .i64 p]) ∧ RowKit.Below w.heap.size w w' := by
  refine (plain_of_vcs ⟨[], []⟩ hmx Try.func19 rfl (by kernel_rfl) (args := [.agg #[.int .i64 k, .int .i64 n, .int .i64 p]]) (by simp [Try.ntmps19]) w (· = .agg #[.int .i64 k, .int .i64 n, .int .i64 p]) 1000 ?_).mono fun e w' ⟨v, h1, h2, h3⟩ => ⟨h2 ▸ h1, h3⟩
  simp (maxSteps := 4000000) [-List.all_eq_true, -Bool.exists_bool, -Bool.forall_bool, vcs, Sx.get, Sx.look, Sx.put, pureFn, findOrd, binF, unF, dstOk, isFloatT, endVC, resFn, packC, newFn, storeFn, buildFn, undef, known, aggT, cellsC, Value.cells, findCon, Con.pure, Con.some, allV, partsV, partsC, fillL, Sx.exitTo, fAr, C.one, Value.oneCell', aggEqFn, eqFn, eqFieldsFn, eqElemsFn, partFn, and_assoc, List.zipIdx, sliceFn, boundFn, AppV, CopyV, MakeSliceV, NewsV, GrowV, TextV, bytesL, notInt, typeAt, argAt, Try.f19]
def toDevArgC : Con Try.prog := Con.pure 19 Try.call19 (fun (i : (Int) × (Int) × (Int)) => match i with | (k, n, p) => [.agg #[.int .i64 k, .int .i64 n, .int .i64 p]]) (fun (i : (Int) × (Int) × (Int)) => match i with | (k, n, p) => True) (fun (i : (Int) × (Int) × (Int)) => match i with | (k, n, p) => .agg #[.int .i64 k, .int .i64 n, .int .i64 p]) fun i w _ => toDevArgC_c i.1 i.2.1 i.2.2 w
end Go.Proofs.Ytooiepddaclbgaa
