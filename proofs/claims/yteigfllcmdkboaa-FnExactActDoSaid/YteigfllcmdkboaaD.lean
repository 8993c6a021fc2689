/-
  Contracts: two memories are compared.
-/
import Derived.Test.YteigfllcmdkboaaP
import Derived.Test.YteigfllcmdkboaaF
import Derived.Test.YteigfllcmdkboaaFacts
set_option linter.unusedVariables false
set_option linter.unusedSimpArgs false
set_option maxRecDepth 100000
set_option maxHeartbeats 4000000
namespace Go.Proofs.Yteigfllcmdkboaa
open Go Go.Sx

theorem fmt64 : FloatKind.f64.format = dbl := rfl

theorem sameFloatC_c (a b : Nat) (hpre : sameF a b ∧ a < 18446744073709551616) (w : World) : Calls Try.prog 114 #[.float .f64 a, .float .f64 b] w fun e w' => e = .returned (.bool true) ∧ RowKit.Below w.heap.size w w' := by
  refine (plain_of_vcs ⟨[], []⟩ hmx Try.func114 rfl (by kernel_rfl) (args := [.float .f64 a, .float .f64 b]) (by simp [Try.ntmps114]) w (· = .bool true) 400 ?_).mono fun e w' ⟨v, h1, h2, h3⟩ => ⟨h2 ▸ h1, h3⟩
  obtain ⟨h, hb⟩ := hpre
  rcases h with ⟨rfl, hn⟩ | ⟨ha, hb'⟩
  · have e := ord_self a
    rw [hn] at e
    by_cases hz : dbl.order a 0 = some .eq
    · obtain rfl | rfl := (ord_zero hb).1 hz
      · simp (maxSteps := 4000000) -dsimp [-List.all_eq_true, -Array.all_eq_true, -Bool.exists_bool, -Bool.forall_bool, vcs, Sx.get, Sx.look, Sx.put, pureFn, findOrd, binF, unF, dstOk, isFloatT, endVC, resFn, packC, newFn, storeFn, buildFn, undef, known, aggT, cellsC, Value.cells, findCon, Con.pure, Con.some, allV, partsV, partsC, fillL, Sx.exitTo, fAr, C.one, Value.oneCell', aggEqFn, eqFn, eqFieldsFn, eqElemsFn, partFn, and_assoc, List.zipIdx, sliceFn, boundFn, AppV, CopyV, MakeSliceV, NewsV, GrowV, TextV, bytesL, notInt, typeAt, argAt, Con.read, Con.make, Con.ext, Con.rel, den, Con.extS, Try.f114, fmt64, e, hz, fRes, div_one_pos, ord_inf_pos]
      · simp (maxSteps := 4000000) -dsimp [-List.all_eq_true, -Array.all_eq_true, -Bool.exists_bool, -Bool.forall_bool, vcs, Sx.get, Sx.look, Sx.put, pureFn, findOrd, binF, unF, dstOk, isFloatT, endVC, resFn, packC, newFn, storeFn, buildFn, undef, known, aggT, cellsC, Value.cells, findCon, Con.pure, Con.some, allV, partsV, partsC, fillL, Sx.exitTo, fAr, C.one, Value.oneCell', aggEqFn, eqFn, eqFieldsFn, eqElemsFn, partFn, and_assoc, List.zipIdx, sliceFn, boundFn, AppV, CopyV, MakeSliceV, NewsV, GrowV, TextV, bytesL, notInt, typeAt, argAt, Con.read, Con.make, Con.ext, Con.rel, den, Con.extS, Try.f114, fmt64, e, hz, fRes, div_one_neg, ord_inf_neg]
    · simp (maxSteps := 4000000) -dsimp [-List.all_eq_true, -Array.all_eq_true, -Bool.exists_bool, -Bool.forall_bool, vcs, Sx.get, Sx.look, Sx.put, pureFn, findOrd, binF, unF, dstOk, isFloatT, endVC, resFn, packC, newFn, storeFn, buildFn, undef, known, aggT, cellsC, Value.cells, findCon, Con.pure, Con.some, allV, partsV, partsC, fillL, Sx.exitTo, fAr, C.one, Value.oneCell', aggEqFn, eqFn, eqFieldsFn, eqElemsFn, partFn, and_assoc, List.zipIdx, sliceFn, boundFn, AppV, CopyV, MakeSliceV, NewsV, GrowV, TextV, bytesL, notInt, typeAt, argAt, Con.read, Con.make, Con.ext, Con.rel, den, Con.extS, Try.f114, fmt64, e, hz]
  · have e1 := ord_self a
    have e2 := ord_self b
    rw [ha] at e1
    rw [hb'] at e2
    simp (maxSteps := 4000000) -dsimp [-List.all_eq_true, -Array.all_eq_true, -Bool.exists_bool, -Bool.forall_bool, vcs, Sx.get, Sx.look, Sx.put, pureFn, findOrd, binF, unF, dstOk, isFloatT, endVC, resFn, packC, newFn, storeFn, buildFn, undef, known, aggT, cellsC, Value.cells, findCon, Con.pure, Con.some, allV, partsV, partsC, fillL, Sx.exitTo, fAr, C.one, Value.oneCell', aggEqFn, eqFn, eqFieldsFn, eqElemsFn, partFn, and_assoc, List.zipIdx, sliceFn, boundFn, AppV, CopyV, MakeSliceV, NewsV, GrowV, TextV, bytesL, notInt, typeAt, argAt, Con.read, Con.make, Con.ext, Con.rel, den, Con.extS, Try.f114, fmt64, e1, e2]
def sameFloatC : Con Try.prog := Con.pure 114 Try.call114 (fun (i : (Nat) × (Nat)) => match i with | (a, b) => [.float .f64 a, .float .f64 b]) (fun (i : (Nat) × (Nat)) => match i with | (a, b) => sameF a b ∧ a < 18446744073709551616) (fun (i : (Nat) × (Nat)) => match i with | (a, b) => .bool true) fun i w hp => sameFloatC_c i.1 i.2 hp w
theorem eqTimerC_c (b : Bool) (n : Int) (w : World) : Calls Try.prog 112 #[.agg #[.bool b, .int .u16 n], .agg #[.bool b, .int .u16 n]] w fun e w' => e = .returned (.bool true) ∧ RowKit.Below w.heap.size w w' := by
  refine (plain_of_vcs ⟨[], []⟩ hmx Try.func112 rfl (by kernel_rfl) (args := [.agg #[.bool b, .int .u16 n], .agg #[.bool b, .int .u16 n]]) (by simp [Try.ntmps112]) w (· = .bool true) 400 ?_).mono fun e w' ⟨v, h1, h2, h3⟩ => ⟨h2 ▸ h1, h3⟩
  simp (maxSteps := 4000000) -dsimp [-List.all_eq_true, -Array.all_eq_true, -Bool.exists_bool, -Bool.forall_bool, vcs, Sx.get, Sx.look, Sx.put, pureFn, findOrd, binF, unF, dstOk, isFloatT, endVC, resFn, packC, newFn, storeFn, buildFn, undef, known, aggT, cellsC, Value.cells, findCon, Con.pure, Con.some, allV, partsV, partsC, fillL, Sx.exitTo, fAr, C.one, Value.oneCell', aggEqFn, eqFn, eqFieldsFn, eqElemsFn, partFn, and_assoc, List.zipIdx, sliceFn, boundFn, AppV, CopyV, MakeSliceV, NewsV, GrowV, TextV, bytesL, notInt, typeAt, argAt, Con.read, Con.make, Con.ext, Con.rel, den, Con.extS, Try.f112]
def eqTimerC : Con Try.prog := Con.pure 112 Try.call112 (fun (i : (Bool) × (Int)) => match i with | (b, n) => [.agg #[.bool b, .int .u16 n], .agg #[.bool b, .int .u16 n]]) (fun (i : (Bool) × (Int)) => match i with | (b, n) => True) (fun (i : (Bool) × (Int)) => match i with | (b, n) => .bool true) fun i w _ => eqTimerC_c i.1 i.2 w
theorem eqCounterC_c (b c : Bool) (n : Int) (w : World) : Calls Try.prog 113 #[.agg #[.bool b, .bool c, .int .u16 n], .agg #[.bool b, .bool c, .int .u16 n]] w fun e w' => e = .returned (.bool true) ∧ RowKit.Below w.heap.size w w' := by
  refine (plain_of_vcs ⟨[], []⟩ hmx Try.func113 rfl (by kernel_rfl) (args := [.agg #[.bool b, .bool c, .int .u16 n], .agg #[.bool b, .bool c, .int .u16 n]]) (by simp [Try.ntmps113]) w (· = .bool true) 400 ?_).mono fun e w' ⟨v, h1, h2, h3⟩ => ⟨h2 ▸ h1, h3⟩
  simp (maxSteps := 4000000) -dsimp [-List.all_eq_true, -Array.all_eq_true, -Bool.exists_bool, -Bool.forall_bool, vcs, Sx.get, Sx.look, Sx.put, pureFn, findOrd, binF, unF, dstOk, isFloatT, endVC, resFn, packC, newFn, storeFn, buildFn, undef, known, aggT, cellsC, Value.cells, findCon, Con.pure, Con.some, allV, partsV, partsC, fillL, Sx.exitTo, fAr, C.one, Value.oneCell', aggEqFn, eqFn, eqFieldsFn, eqElemsFn, partFn, and_assoc, List.zipIdx, sliceFn, boundFn, AppV, CopyV, MakeSliceV, NewsV, GrowV, TextV, bytesL, notInt, typeAt, argAt, Con.read, Con.make, Con.ext, Con.rel, den, Con.extS, Try.f113]
def eqCounterC : Con Try.prog := Con.pure 113 Try.call113 (fun (i : (Bool) × (Bool) × (Int)) => match i with | (b, c, n) => [.agg #[.bool b, .bool c, .int .u16 n], .agg #[.bool b, .bool c, .int .u16 n]]) (fun (i : (Bool) × (Bool) × (Int)) => match i with | (b, c, n) => True) (fun (i : (Bool) × (Bool) × (Int)) => match i with | (b, c, n) => .bool true) fun i w _ => eqCounterC_c i.1 i.2.1 i.2.2 w
theorem eqTimersC_c (f : Arr 16 (Bool × Int)) (w : World) : Calls Try.prog 71 #[.agg (tL f).toArray, .agg (tL f).toArray] w fun e w' => e = .returned (.bool true) ∧ RowKit.Below w.heap.size w w' := by
  refine (plain_of_vcs ⟨[eqTimerC], []⟩ hmx Try.func71 rfl (by kernel_rfl) (args := [.agg (tL f).toArray, .agg (tL f).toArray]) (by simp [Try.ntmps71]) w (· = .bool true) 1000 ?_).mono fun e w' ⟨v, h1, h2, h3⟩ => ⟨h2 ▸ h1, h3⟩
  rw [tL_lit]
  simp (maxSteps := 4000000) -dsimp [-List.all_eq_true, -Array.all_eq_true, -Bool.exists_bool, -Bool.forall_bool, vcs, Sx.get, Sx.look, Sx.put, pureFn, findOrd, binF, unF, dstOk, isFloatT, endVC, resFn, packC, newFn, storeFn, buildFn, undef, known, aggT, cellsC, Value.cells, findCon, Con.pure, Con.some, allV, partsV, partsC, fillL, Sx.exitTo, fAr, C.one, Value.oneCell', aggEqFn, eqFn, eqFieldsFn, eqElemsFn, partFn, and_assoc, List.zipIdx, sliceFn, boundFn, AppV, CopyV, MakeSliceV, NewsV, GrowV, TextV, bytesL, notInt, typeAt, argAt, Con.read, Con.make, Con.ext, Con.rel, den, Con.extS, Try.f71, eqTimerC]
  intro _ _
  iterate 17
    refine loop_unroll (σ := ⟨[eqTimerC], []⟩) (n := 1000) hmx (by kernel_rfl) ?_
    simp (maxSteps := 4000000) -dsimp [-List.all_eq_true, -Array.all_eq_true, -Bool.exists_bool, -Bool.forall_bool, vcs, Sx.get, Sx.look, Sx.put, pureFn, findOrd, binF, unF, dstOk, isFloatT, endVC, resFn, packC, newFn, storeFn, buildFn, undef, known, aggT, cellsC, Value.cells, findCon, Con.pure, Con.some, allV, partsV, partsC, fillL, Sx.exitTo, fAr, C.one, Value.oneCell', aggEqFn, eqFn, eqFieldsFn, eqElemsFn, partFn, and_assoc, List.zipIdx, sliceFn, boundFn, AppV, CopyV, MakeSliceV, NewsV, GrowV, TextV, bytesL, notInt, typeAt, argAt, Con.read, Con.make, Con.ext, Con.rel, den, Con.extS, Try.f71, eqTimerC, IntKind.wrap, IntKind.signed, IntKind.bits]
def eqTimersC : Con Try.prog := Con.pure 71 Try.call71 (fun (f : (Arr 16 (Bool × Int))) => [.agg (tL f).toArray, .agg (tL f).toArray]) (fun (f : (Arr 16 (Bool × Int))) => True) (fun (f : (Arr 16 (Bool × Int))) => .bool true) fun f w _ => eqTimersC_c f w
theorem eqCountersC_c (f : Arr 16 (Bool × Bool × Int)) (w : World) : Calls Try.prog 72 #[.agg (cL f).toArray, .agg (cL f).toArray] w fun e w' => e = .returned (.bool true) ∧ RowKit.Below w.heap.size w w' := by
  refine (plain_of_vcs ⟨[eqCounterC], []⟩ hmx Try.func72 rfl (by kernel_rfl) (args := [.agg (cL f).toArray, .agg (cL f).toArray]) (by simp [Try.ntmps72]) w (· = .bool true) 1000 ?_).mono fun e w' ⟨v, h1, h2, h3⟩ => ⟨h2 ▸ h1, h3⟩
  rw [cL_lit]
  simp (maxSteps := 4000000) -dsimp [-List.all_eq_true, -Array.all_eq_true, -Bool.exists_bool, -Bool.forall_bool, vcs, Sx.get, Sx.look, Sx.put, pureFn, findOrd, binF, unF, dstOk, isFloatT, endVC, resFn, packC, newFn, storeFn, buildFn, undef, known, aggT, cellsC, Value.cells, findCon, Con.pure, Con.some, allV, partsV, partsC, fillL, Sx.exitTo, fAr, C.one, Value.oneCell', aggEqFn, eqFn, eqFieldsFn, eqElemsFn, partFn, and_assoc, List.zipIdx, sliceFn, boundFn, AppV, CopyV, MakeSliceV, NewsV, GrowV, TextV, bytesL, notInt, typeAt, argAt, Con.read, Con.make, Con.ext, Con.rel, den, Con.extS, Try.f72, eqCounterC]
  intro _ _
  iterate 17
    refine loop_unroll (σ := ⟨[eqCounterC], []⟩) (n := 1000) hmx (by kernel_rfl) ?_
    simp (maxSteps := 4000000) -dsimp [-List.all_eq_true, -Array.all_eq_true, -Bool.exists_bool, -Bool.forall_bool, vcs, Sx.get, Sx.look, Sx.put, pureFn, findOrd, binF, unF, dstOk, isFloatT, endVC, resFn, packC, newFn, storeFn, buildFn, undef, known, aggT, cellsC, Value.cells, findCon, Con.pure, Con.some, allV, partsV, partsC, fillL, Sx.exitTo, fAr, C.one, Value.oneCell', aggEqFn, eqFn, eqFieldsFn, eqElemsFn, partFn, and_assoc, List.zipIdx, sliceFn, boundFn, AppV, CopyV, MakeSliceV, NewsV, GrowV, TextV, bytesL, notInt, typeAt, argAt, Con.read, Con.make, Con.ext, Con.rel, den, Con.extS, Try.f72, eqCounterC, IntKind.wrap, IntKind.signed, IntKind.bits]
def eqCountersC : Con Try.prog := Con.pure 72 Try.call72 (fun (f : (Arr 16 (Bool × Bool × Int))) => [.agg (cL f).toArray, .agg (cL f).toArray]) (fun (f : (Arr 16 (Bool × Bool × Int))) => True) (fun (f : (Arr 16 (Bool × Bool × Int))) => .bool true) fun f w _ => eqCountersC_c f w
theorem eqIntsC_c (f : Arr 32 Int) (w : World) : Calls Try.prog 73 #[.agg (dL f).toArray, .agg (dL f).toArray] w fun e w' => e = .returned (.bool true) ∧ RowKit.Below w.heap.size w w' := by
  refine (plain_of_vcs ⟨[], []⟩ hmx Try.func73 rfl (by kernel_rfl) (args := [.agg (dL f).toArray, .agg (dL f).toArray]) (by simp [Try.ntmps73]) w (· = .bool true) 1000 ?_).mono fun e w' ⟨v, h1, h2, h3⟩ => ⟨h2 ▸ h1, h3⟩
  rw [dL_lit]
  simp (maxSteps := 4000000) -dsimp [-List.all_eq_true, -Array.all_eq_true, -Bool.exists_bool, -Bool.forall_bool, vcs, Sx.get, Sx.look, Sx.put, pureFn, findOrd, binF, unF, dstOk, isFloatT, endVC, resFn, packC, newFn, storeFn, buildFn, undef, known, aggT, cellsC, Value.cells, findCon, Con.pure, Con.some, allV, partsV, partsC, fillL, Sx.exitTo, fAr, C.one, Value.oneCell', aggEqFn, eqFn, eqFieldsFn, eqElemsFn, partFn, and_assoc, List.zipIdx, sliceFn, boundFn, AppV, CopyV, MakeSliceV, NewsV, GrowV, TextV, bytesL, notInt, typeAt, argAt, Con.read, Con.make, Con.ext, Con.rel, den, Con.extS, Try.f73]
  intro _ _
  iterate 33
    refine loop_unroll (σ := ⟨[], []⟩) (n := 1000) hmx (by kernel_rfl) ?_
    simp (maxSteps := 4000000) -dsimp [-List.all_eq_true, -Array.all_eq_true, -Bool.exists_bool, -Bool.forall_bool, vcs, Sx.get, Sx.look, Sx.put, pureFn, findOrd, binF, unF, dstOk, isFloatT, endVC, resFn, packC, newFn, storeFn, buildFn, undef, known, aggT, cellsC, Value.cells, findCon, Con.pure, Con.some, allV, partsV, partsC, fillL, Sx.exitTo, fAr, C.one, Value.oneCell', aggEqFn, eqFn, eqFieldsFn, eqElemsFn, partFn, and_assoc, List.zipIdx, sliceFn, boundFn, AppV, CopyV, MakeSliceV, NewsV, GrowV, TextV, bytesL, notInt, typeAt, argAt, Con.read, Con.make, Con.ext, Con.rel, den, Con.extS, Try.f73, IntKind.wrap, IntKind.signed, IntKind.bits]
def eqIntsC : Con Try.prog := Con.pure 73 Try.call73 (fun (f : (Arr 32 Int)) => [.agg (dL f).toArray, .agg (dL f).toArray]) (fun (f : (Arr 32 Int)) => True) (fun (f : (Arr 32 Int)) => .bool true) fun f w _ => eqIntsC_c f w
theorem eqRealsC_c (f : Arr 16 Nat) (g : Arr 16 Nat) (hpre : (∀ k, k < 16 → sameF (f k) (g k)) ∧ (∀ k, k < 16 → f k < 18446744073709551616)) (w : World) : Calls Try.prog 74 #[.agg (rL f).toArray, .agg (rL g).toArray] w fun e w' => e = .returned (.bool true) ∧ RowKit.Below w.heap.size w w' := by
  refine (plain_of_vcs ⟨[sameFloatC], []⟩ hmx Try.func74 rfl (by kernel_rfl) (args := [.agg (rL f).toArray, .agg (rL g).toArray]) (by simp [Try.ntmps74]) w (· = .bool true) 1000 ?_).mono fun e w' ⟨v, h1, h2, h3⟩ => ⟨h2 ▸ h1, h3⟩
  obtain ⟨h1, h2⟩ := hpre
  rw [rL_lit, rL_lit]
  simp (maxSteps := 4000000) -dsimp [-List.all_eq_true, -Array.all_eq_true, -Bool.exists_bool, -Bool.forall_bool, vcs, Sx.get, Sx.look, Sx.put, pureFn, findOrd, binF, unF, dstOk, isFloatT, endVC, resFn, packC, newFn, storeFn, buildFn, undef, known, aggT, cellsC, Value.cells, findCon, Con.pure, Con.some, allV, partsV, partsC, fillL, Sx.exitTo, fAr, C.one, Value.oneCell', aggEqFn, eqFn, eqFieldsFn, eqElemsFn, partFn, and_assoc, List.zipIdx, sliceFn, boundFn, AppV, CopyV, MakeSliceV, NewsV, GrowV, TextV, bytesL, notInt, typeAt, argAt, Con.read, Con.make, Con.ext, Con.rel, den, Con.extS, Try.f74, sameFloatC]
  intro _ _
  iterate 17
    refine loop_unroll (σ := ⟨[sameFloatC], []⟩) (n := 1000) hmx (by kernel_rfl) ?_
    simp (maxSteps := 4000000) -dsimp [-List.all_eq_true, -Array.all_eq_true, -Bool.exists_bool, -Bool.forall_bool, vcs, Sx.get, Sx.look, Sx.put, pureFn, findOrd, binF, unF, dstOk, isFloatT, endVC, resFn, packC, newFn, storeFn, buildFn, undef, known, aggT, cellsC, Value.cells, findCon, Con.pure, Con.some, allV, partsV, partsC, fillL, Sx.exitTo, fAr, C.one, Value.oneCell', aggEqFn, eqFn, eqFieldsFn, eqElemsFn, partFn, and_assoc, List.zipIdx, sliceFn, boundFn, AppV, CopyV, MakeSliceV, NewsV, GrowV, TextV, bytesL, notInt, typeAt, argAt, Con.read, Con.make, Con.ext, Con.rel, den, Con.extS, Try.f74, sameFloatC, IntKind.wrap, IntKind.signed, IntKind.bits, h1, h2]
def eqRealsC : Con Try.prog := Con.pure 74 Try.call74 (fun (i : (Arr 16 Nat) × (Arr 16 Nat)) => match i with | (f, g) => [.agg (rL f).toArray, .agg (rL g).toArray]) (fun (i : (Arr 16 Nat) × (Arr 16 Nat)) => match i with | (f, g) => (∀ k, k < 16 → sameF (f k) (g k)) ∧ (∀ k, k < 16 → f k < 18446744073709551616)) (fun (i : (Arr 16 Nat) × (Arr 16 Nat)) => match i with | (f, g) => .bool true) fun i w hp => eqRealsC_c i.1 i.2 hp w
theorem eqMemC_c (a b : M) (hpre : MSame a b ∧ MOk a) (w : World) : Calls Try.prog 22 #[.agg (cells a), .agg (cells b)] w fun e w' => e = .returned (.bool true) ∧ RowKit.Below w.heap.size w w' := by
  refine (plain_of_vcs ⟨[eqTimersC, eqCountersC, eqIntsC, eqRealsC], []⟩ hmx Try.func22 rfl (by kernel_rfl) (args := [.agg (cells a), .agg (cells b)]) (by simp [Try.ntmps22]) w (· = .bool true) 1000 ?_).mono fun e w' ⟨v, h1, h2, h3⟩ => ⟨h2 ▸ h1, h3⟩
  obtain ⟨h, ho⟩ := hpre
  have hR := ho.R
  simp (maxSteps := 4000000) -dsimp [-List.all_eq_true, -Array.all_eq_true, -Bool.exists_bool, -Bool.forall_bool, vcs, Sx.get, Sx.look, Sx.put, pureFn, findOrd, binF, unF, dstOk, isFloatT, endVC, resFn, packC, newFn, storeFn, buildFn, undef, known, aggT, cellsC, Value.cells, findCon, Con.pure, Con.some, allV, partsV, partsC, fillL, Sx.exitTo, fAr, C.one, Value.oneCell', aggEqFn, eqFn, eqFieldsFn, eqElemsFn, partFn, and_assoc, List.zipIdx, sliceFn, boundFn, AppV, CopyV, MakeSliceV, NewsV, GrowV, TextV, bytesL, notInt, typeAt, argAt, Con.read, Con.make, Con.ext, Con.rel, den, Con.extS, Try.f22, eqTimersC, eqCountersC, eqIntsC, eqRealsC, h.X, h.Y, h.Mw, h.S, h.E, h.T, h.C, h.D, h.Time, h.Ran, h.Fault]
  exact ⟨h.R, hR⟩
def eqMemC : Con Try.prog := Con.pure 22 Try.call22 (fun (i : (M) × (M)) => match i with | (a, b) => [.agg (cells a), .agg (cells b)]) (fun (i : (M) × (M)) => match i with | (a, b) => MSame a b ∧ MOk a) (fun (i : (M) × (M)) => match i with | (a, b) => .bool true) fun i w hp => eqMemC_c i.1 i.2 hp w
end Go.Proofs.Yteigfllcmdkboaa
