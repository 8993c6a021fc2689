/-
  The program's MachStep returns what the reference's returns, for all arguments. Conditions: none.
-/
import Derived.Test.YtmiicjgbhkjocaaGreatMy
import Derived.Test.YtmiicjgbhkjocaaGreatD
import Derived.Test.YtmiicjgbhkjocaaGreatIc
import Derived.Test.YtmiicjgbhkjocaaGreatO
import Derived.Test.YtmiicjgbhkjocaaGreatMs
set_option linter.unusedVariables false
set_option linter.unusedSimpArgs false
set_option maxRecDepth 100000
set_option maxHeartbeats 4000000
namespace Go.Proofs.YtmiicjgbhkjocaaGreat
open Go Go.Sx

theorem toBitStackC_c (b n : Int) (w : World) : Calls Tryz.prog 82 #[.agg #[.int .u16 b, .int .i64 n]] w fun e w' => e = .returned (.agg #[.int .u16 b, .int .i64 n]) ∧ RowKit.Below w.heap.size w w' := by
  refine (plain_of_vcs ⟨[], []⟩ hmx Tryz.func82 rfl (by kernel_rfl) (args := [.agg #[.int .u16 b, .int .i64 n]]) (by simp [Tryz.ntmps82]) w (· = .agg #[.int .u16 b, .int .i64 n]) 400 ?_).mono fun e w' ⟨v, h1, h2, h3⟩ => ⟨h2 ▸ h1, h3⟩
  simp (maxSteps := 4000000) -dsimp [-List.all_eq_true, -Array.all_eq_true, -Bool.exists_bool, -Bool.forall_bool, vcsE1, vcsE2, vcsE3, vcsE4, vcsE5, vcsE6, vcsE7, vcsE8, vcsE9, vcsE10, vcsE11, vcsE12, vcsE13, vcsE14, vcsE15, vcsE16, vcsE17, vcsE18, vcsE19, Sx.get, Sx.look, Sx.put, pureFn, findOrd, unF, dstOk, isFloatT, endVC, resFn, packC, newFn, storeFn, buildFn, undef, known, aggT, cellsC, Value.cells, findCon, Con.pure, Con.some, allV, partsV, partsC, fillL, Sx.exitTo, fAr, C.one, Value.oneCell', eqFn, eqFieldsFn, eqElemsFn, partFn, and_assoc, List.zipIdx, sliceFn, boundFn, AppV, CopyV, MakeSliceV, NewsV, GrowV, TextV, bytesL, notInt, typeAt, argAt, Con.read, Con.make, Con.ext, Con.rel, den, Con.extS, Con.draw, Con.step, Draws.steps, Tryz.f82]
def toBitStackC : Con Tryz.prog := Con.pure 82 Tryz.call82 (fun (i : ((Int) × (Int))) => match i with | (b, n) => [.agg #[.int .u16 b, .int .i64 n]]) (fun (i : ((Int) × (Int))) => match i with | (b, n) => True) (fun (i : ((Int) × (Int))) => match i with | (b, n) => .agg #[.int .u16 b, .int .i64 n]) fun i w _ => toBitStackC_c i.1 i.2 w
theorem toBitForkC_c (b n : Int) (w : World) : Calls Tryz.prog 83 #[.agg #[.int .u8 b, .int .i64 n]] w fun e w' => e = .returned (.agg #[.int .u8 b, .int .i64 n]) ∧ RowKit.Below w.heap.size w w' := by
  refine (plain_of_vcs ⟨[], []⟩ hmx Tryz.func83 rfl (by kernel_rfl) (args := [.agg #[.int .u8 b, .int .i64 n]]) (by simp [Tryz.ntmps83]) w (· = .agg #[.int .u8 b, .int .i64 n]) 400 ?_).mono fun e w' ⟨v, h1, h2, h3⟩ => ⟨h2 ▸ h1, h3⟩
  simp (maxSteps := 4000000) -dsimp [-List.all_eq_true, -Array.all_eq_true, -Bool.exists_bool, -Bool.forall_bool, vcsE1, vcsE2, vcsE3, vcsE4, vcsE5, vcsE6, vcsE7, vcsE8, vcsE9, vcsE10, vcsE11, vcsE12, vcsE13, vcsE14, vcsE15, vcsE16, vcsE17, vcsE18, vcsE19, Sx.get, Sx.look, Sx.put, pureFn, findOrd, unF, dstOk, isFloatT, endVC, resFn, packC, newFn, storeFn, buildFn, undef, known, aggT, cellsC, Value.cells, findCon, Con.pure, Con.some, allV, partsV, partsC, fillL, Sx.exitTo, fAr, C.one, Value.oneCell', eqFn, eqFieldsFn, eqElemsFn, partFn, and_assoc, List.zipIdx, sliceFn, boundFn, AppV, CopyV, MakeSliceV, NewsV, GrowV, TextV, bytesL, notInt, typeAt, argAt, Con.read, Con.make, Con.ext, Con.rel, den, Con.extS, Con.draw, Con.step, Draws.steps, Tryz.f83]
def toBitForkC : Con Tryz.prog := Con.pure 83 Tryz.call83 (fun (i : ((Int) × (Int))) => match i with | (b, n) => [.agg #[.int .u8 b, .int .i64 n]]) (fun (i : ((Int) × (Int))) => match i with | (b, n) => True) (fun (i : ((Int) × (Int))) => match i with | (b, n) => .agg #[.int .u8 b, .int .i64 n]) fun i w _ => toBitForkC_c i.1 i.2 w
theorem toMachStateC_c (t : MS) (w : World) : Calls Tryz.prog 26 #[.agg (stA t)] w fun e w' => e = .returned (.agg (stA t)) ∧ RowKit.Below w.heap.size w w' := by
  refine (plain_of_vcs ⟨[toMemC, toBitStackC, toBitForkC], []⟩ hmx Tryz.func26 rfl (by kernel_rfl) (args := [.agg (stA t)]) (by simp [Tryz.ntmps26]) w (· = .agg (stA t)) 400 ?_).mono fun e w' ⟨v, h1, h2, h3⟩ => ⟨h2 ▸ h1, h3⟩
  simp (maxSteps := 4000000) -dsimp [-List.all_eq_true, -Array.all_eq_true, -Bool.exists_bool, -Bool.forall_bool, vcsE1, vcsE2, vcsE3, vcsE4, vcsE5, vcsE6, vcsE7, vcsE8, vcsE9, vcsE10, vcsE11, vcsE12, vcsE13, vcsE14, vcsE15, vcsE16, vcsE17, vcsE18, vcsE19, Sx.get, Sx.look, Sx.put, pureFn, findOrd, unF, dstOk, isFloatT, endVC, resFn, packC, newFn, storeFn, buildFn, undef, known, aggT, cellsC, Value.cells, findCon, Con.pure, Con.some, allV, partsV, partsC, fillL, Sx.exitTo, fAr, C.one, Value.oneCell', eqFn, eqFieldsFn, eqElemsFn, partFn, and_assoc, List.zipIdx, sliceFn, boundFn, AppV, CopyV, MakeSliceV, NewsV, GrowV, TextV, bytesL, notInt, typeAt, argAt, Con.read, Con.make, Con.ext, Con.rel, den, Con.extS, Con.draw, Con.step, Draws.steps, Tryz.f26, toMemC, toBitStackC, toBitForkC, -Sx.splice_two, st_put, st_putS, st_putF, zero_st, bootN]
def toMachStateC : Con Tryz.prog := Con.pure 26 Tryz.call26 (fun (t : ((MS))) => [.agg (stA t)]) (fun (t : ((MS))) => True) (fun (t : ((MS))) => .agg (stA t)) fun t w _ => toMachStateC_c t w
theorem eqBitStackC_c (b n : Int) (w : World) : Calls Tryz.prog 85 #[.agg #[.int .u16 b, .int .i64 n], .agg #[.int .u16 b, .int .i64 n]] w fun e w' => e = .returned (.bool true) ∧ RowKit.Below w.heap.size w w' := by
  refine (plain_of_vcs ⟨[], []⟩ hmx Tryz.func85 rfl (by kernel_rfl) (args := [.agg #[.int .u16 b, .int .i64 n], .agg #[.int .u16 b, .int .i64 n]]) (by simp [Tryz.ntmps85]) w (· = .bool true) 400 ?_).mono fun e w' ⟨v, h1, h2, h3⟩ => ⟨h2 ▸ h1, h3⟩
  simp (maxSteps := 4000000) -dsimp [-List.all_eq_true, -Array.all_eq_true, -Bool.exists_bool, -Bool.forall_bool, vcsE1, vcsE2, vcsE3, vcsE4, vcsE5, vcsE6, vcsE7, vcsE8, vcsE9, vcsE10, vcsE11, vcsE12, vcsE13, vcsE14, vcsE15, vcsE16, vcsE17, vcsE18, vcsE19, Sx.get, Sx.look, Sx.put, pureFn, findOrd, unF, dstOk, isFloatT, endVC, resFn, packC, newFn, storeFn, buildFn, undef, known, aggT, cellsC, Value.cells, findCon, Con.pure, Con.some, allV, partsV, partsC, fillL, Sx.exitTo, fAr, C.one, Value.oneCell', eqFn, eqFieldsFn, eqElemsFn, partFn, and_assoc, List.zipIdx, sliceFn, boundFn, AppV, CopyV, MakeSliceV, NewsV, GrowV, TextV, bytesL, notInt, typeAt, argAt, Con.read, Con.make, Con.ext, Con.rel, den, Con.extS, Con.draw, Con.step, Draws.steps, Tryz.f85]
def eqBitStackC : Con Tryz.prog := Con.pure 85 Tryz.call85 (fun (i : ((Int) × (Int))) => match i with | (b, n) => [.agg #[.int .u16 b, .int .i64 n], .agg #[.int .u16 b, .int .i64 n]]) (fun (i : ((Int) × (Int))) => match i with | (b, n) => True) (fun (i : ((Int) × (Int))) => match i with | (b, n) => .bool true) fun i w _ => eqBitStackC_c i.1 i.2 w
theorem eqBitForkC_c (b n : Int) (w : World) : Calls Tryz.prog 86 #[.agg #[.int .u8 b, .int .i64 n], .agg #[.int .u8 b, .int .i64 n]] w fun e w' => e = .returned (.bool true) ∧ RowKit.Below w.heap.size w w' := by
  refine (plain_of_vcs ⟨[], []⟩ hmx Tryz.func86 rfl (by kernel_rfl) (args := [.agg #[.int .u8 b, .int .i64 n], .agg #[.int .u8 b, .int .i64 n]]) (by simp [Tryz.ntmps86]) w (· = .bool true) 400 ?_).mono fun e w' ⟨v, h1, h2, h3⟩ => ⟨h2 ▸ h1, h3⟩
  simp (maxSteps := 4000000) -dsimp [-List.all_eq_true, -Array.all_eq_true, -Bool.exists_bool, -Bool.forall_bool, vcsE1, vcsE2, vcsE3, vcsE4, vcsE5, vcsE6, vcsE7, vcsE8, vcsE9, vcsE10, vcsE11, vcsE12, vcsE13, vcsE14, vcsE15, vcsE16, vcsE17, vcsE18, vcsE19, Sx.get, Sx.look, Sx.put, pureFn, findOrd, unF, dstOk, isFloatT, endVC, resFn, packC, newFn, storeFn, buildFn, undef, known, aggT, cellsC, Value.cells, findCon, Con.pure, Con.some, allV, partsV, partsC, fillL, Sx.exitTo, fAr, C.one, Value.oneCell', eqFn, eqFieldsFn, eqElemsFn, partFn, and_assoc, List.zipIdx, sliceFn, boundFn, AppV, CopyV, MakeSliceV, NewsV, GrowV, TextV, bytesL, notInt, typeAt, argAt, Con.read, Con.make, Con.ext, Con.rel, den, Con.extS, Con.draw, Con.step, Draws.steps, Tryz.f86]
def eqBitForkC : Con Tryz.prog := Con.pure 86 Tryz.call86 (fun (i : ((Int) × (Int))) => match i with | (b, n) => [.agg #[.int .u8 b, .int .i64 n], .agg #[.int .u8 b, .int .i64 n]]) (fun (i : ((Int) × (Int))) => match i with | (b, n) => True) (fun (i : ((Int) × (Int))) => match i with | (b, n) => .bool true) fun i w _ => eqBitForkC_c i.1 i.2 w
theorem eqMachStateC_c (t u : MS) (hpre : MSt t u ∧ MSOk t) (w : World) : Calls Tryz.prog 28 #[.agg (stA t), .agg (stA u)] w fun e w' => e = .returned (.bool true) ∧ RowKit.Below w.heap.size w w' := by
  refine (plain_of_vcs ⟨[eqMemC, eqBitStackC, eqBitForkC], []⟩ hmx Tryz.func28 rfl (by kernel_rfl) (args := [.agg (stA t), .agg (stA u)]) (by simp [Tryz.ntmps28]) w (· = .bool true) 400 ?_).mono fun e w' ⟨v, h1, h2, h3⟩ => ⟨h2 ▸ h1, h3⟩
  obtain ⟨⟨hm, hs, hf⟩, ho⟩ := hpre
  have hmo := ho.m
  simp (maxSteps := 4000000) -dsimp [-List.all_eq_true, -Array.all_eq_true, -Bool.exists_bool, -Bool.forall_bool, vcsE1, vcsE2, vcsE3, vcsE4, vcsE5, vcsE6, vcsE7, vcsE8, vcsE9, vcsE10, vcsE11, vcsE12, vcsE13, vcsE14, vcsE15, vcsE16, vcsE17, vcsE18, vcsE19, Sx.get, Sx.look, Sx.put, pureFn, findOrd, unF, dstOk, isFloatT, endVC, resFn, packC, newFn, storeFn, buildFn, undef, known, aggT, cellsC, Value.cells, findCon, Con.pure, Con.some, allV, partsV, partsC, fillL, Sx.exitTo, fAr, C.one, Value.oneCell', eqFn, eqFieldsFn, eqElemsFn, partFn, and_assoc, List.zipIdx, sliceFn, boundFn, AppV, CopyV, MakeSliceV, NewsV, GrowV, TextV, bytesL, notInt, typeAt, argAt, Con.read, Con.make, Con.ext, Con.rel, den, Con.extS, Con.draw, Con.step, Draws.steps, Tryz.f28, eqMemC, eqBitStackC, eqBitForkC, hm, hs, hf, hmo]
def eqMachStateC : Con Tryz.prog := Con.pure 28 Tryz.call28 (fun (i : ((MS) × (MS))) => match i with | (t, u) => [.agg (stA t), .agg (stA u)]) (fun (i : ((MS) × (MS))) => match i with | (t, u) => MSt t u ∧ MSOk t) (fun (i : ((MS) × (MS))) => match i with | (t, u) => .bool true) fun i w hp => eqMachStateC_c i.1 i.2 hp w
theorem lawMachStepC_c (t : MS) (code op : Int) (o : Option Addr) (cap : Nat) (xs : List Dev) (dt : Int) (w : World) (hpre : RdD (factF ⟨w, [], w, []⟩) o xs ∧ MSOk t ∧ 0 ≤ dt ∧ dt < 65536 ∧ xs.length ≤ 9223372036854775807) : Calls Tryz.prog 5 #[.agg (stA t), .agg #[.int .i64 code, .int .i64 op, .slice o xs.length cap], .int .u16 dt] w fun e w' => e = .returned (.bool true) ∧ RowKit.Below w.heap.size w w' := by
  refine (plain_of_vcs ⟨[szInstC, toMachStateC, toInstC, sMachStepC, machStepC, eqMachStateC, eqInstC], [(5, [(0, false), (1, false), (2, false), (4, false), (3, false), (5, false), (6, false), (7, false)]), (10, [(0, false), (1, false), (2, false), (0, true), (3, false), (4, false)])]⟩ hmx Tryz.func5 rfl (by kernel_rfl) (args := [.agg (stA t), .agg #[.int .i64 code, .int .i64 op, .slice o xs.length cap], .int .u16 dt]) (by simp [Tryz.ntmps5]) w (· = .bool true) 400 ?_).mono fun e w' ⟨v, h1, h2, h3⟩ => ⟨h2 ▸ h1, h3⟩
  obtain ⟨h, hm, hd1, hd2, hl⟩ := hpre
  by_cases hs : xs.length ≤ 1048576
  · have hs1 : ¬ (1048576 : Int) < xs.length := by omega
    have hs2 : ¬ (1048576 - xs.length : Int) < 0 := by omega
    have hs3 : (xs.length : Int) ≤ 1048576 := by omega
    simp (maxSteps := 4000000) -dsimp [-List.all_eq_true, -Array.all_eq_true, -Bool.exists_bool, -Bool.forall_bool, vcsE1, vcsE2, vcsE3, vcsE4, vcsE5, vcsE6, vcsE7, vcsE8, vcsE9, vcsE10, vcsE11, vcsE12, vcsE13, vcsE14, vcsE15, vcsE16, vcsE17, vcsE18, vcsE19, Sx.get, Sx.look, Sx.put, pureFn, findOrd, unF, dstOk, isFloatT, endVC, resFn, packC, newFn, storeFn, buildFn, undef, known, aggT, cellsC, Value.cells, findCon, Con.pure, Con.some, allV, partsV, partsC, fillL, Sx.exitTo, fAr, C.one, Value.oneCell', eqFn, eqFieldsFn, eqElemsFn, partFn, and_assoc, List.zipIdx, sliceFn, boundFn, AppV, CopyV, MakeSliceV, NewsV, GrowV, TextV, bytesL, notInt, typeAt, argAt, Con.read, Con.make, Con.ext, Con.rel, den, Con.extS, Con.draw, Con.step, Draws.steps, Tryz.f5, szInstC, toMachStateC, toInstC, sMachStepC, machStepC, eqMachStateC, eqInstC, hs1, hs2, hs3, hl]
    intro b b1
    refine ⟨(code, op, o, cap, xs), rfl, ⟨h.mono (sub_now _ _), hs⟩, ?_⟩
    rintro cx1 v hle1 hv
    obtain ⟨o1, cap1, rfl, g1, _, _⟩ := hv.ex
    simp (maxSteps := 4000000) -dsimp [-List.all_eq_true, -Array.all_eq_true, -Bool.exists_bool, -Bool.forall_bool, vcsE1, vcsE2, vcsE3, vcsE4, vcsE5, vcsE6, vcsE7, vcsE8, vcsE9, vcsE10, vcsE11, vcsE12, vcsE13, vcsE14, vcsE15, vcsE16, vcsE17, vcsE18, vcsE19, Sx.get, Sx.look, Sx.put, pureFn, findOrd, unF, dstOk, isFloatT, endVC, resFn, packC, newFn, storeFn, buildFn, undef, known, aggT, cellsC, Value.cells, findCon, Con.pure, Con.some, allV, partsV, partsC, fillL, Sx.exitTo, fAr, C.one, Value.oneCell', eqFn, eqFieldsFn, eqElemsFn, partFn, and_assoc, List.zipIdx, sliceFn, boundFn, AppV, CopyV, MakeSliceV, NewsV, GrowV, TextV, bytesL, notInt, typeAt, argAt, Con.read, Con.make, Con.ext, Con.rel, den, Con.extS, Con.draw, Con.step, Draws.steps, Tryz.f5, szInstC, toMachStateC, toInstC, sMachStepC, machStepC, eqMachStateC, eqInstC]
    refine ⟨(t, code, op, o1, cap1, xs, dt), rfl, ⟨g1.mono ((sub_new _).trans (sub_now _ _)), hm, hd1, hd2⟩, fun v hv => ?_⟩
    obtain ⟨t1, rfl, s1, k1⟩ := hv.ex
    simp (maxSteps := 4000000) -dsimp [-List.all_eq_true, -Array.all_eq_true, -Bool.exists_bool, -Bool.forall_bool, vcsE1, vcsE2, vcsE3, vcsE4, vcsE5, vcsE6, vcsE7, vcsE8, vcsE9, vcsE10, vcsE11, vcsE12, vcsE13, vcsE14, vcsE15, vcsE16, vcsE17, vcsE18, vcsE19, Sx.get, Sx.look, Sx.put, pureFn, findOrd, unF, dstOk, isFloatT, endVC, resFn, packC, newFn, storeFn, buildFn, undef, known, aggT, cellsC, Value.cells, findCon, Con.pure, Con.some, allV, partsV, partsC, fillL, Sx.exitTo, fAr, C.one, Value.oneCell', eqFn, eqFieldsFn, eqElemsFn, partFn, and_assoc, List.zipIdx, sliceFn, boundFn, AppV, CopyV, MakeSliceV, NewsV, GrowV, TextV, bytesL, notInt, typeAt, argAt, Con.read, Con.make, Con.ext, Con.rel, den, Con.extS, Con.draw, Con.step, Draws.steps, Tryz.f5, szInstC, toMachStateC, toInstC, sMachStepC, machStepC, eqMachStateC, eqInstC, zero_st]
    intro b2
    refine ⟨(code, op, o, cap, xs), rfl, ⟨h.mono (hle1.fact.trans (sub_now _ _)), hs⟩, ?_⟩
    rintro cx2 v hle2 hv
    obtain ⟨o2, cap2, rfl, g2, _, _⟩ := hv.ex
    simp (maxSteps := 4000000) -dsimp [-List.all_eq_true, -Array.all_eq_true, -Bool.exists_bool, -Bool.forall_bool, vcsE1, vcsE2, vcsE3, vcsE4, vcsE5, vcsE6, vcsE7, vcsE8, vcsE9, vcsE10, vcsE11, vcsE12, vcsE13, vcsE14, vcsE15, vcsE16, vcsE17, vcsE18, vcsE19, Sx.get, Sx.look, Sx.put, pureFn, findOrd, unF, dstOk, isFloatT, endVC, resFn, packC, newFn, storeFn, buildFn, undef, known, aggT, cellsC, Value.cells, findCon, Con.pure, Con.some, allV, partsV, partsC, fillL, Sx.exitTo, fAr, C.one, Value.oneCell', eqFn, eqFieldsFn, eqElemsFn, partFn, and_assoc, List.zipIdx, sliceFn, boundFn, AppV, CopyV, MakeSliceV, NewsV, GrowV, TextV, bytesL, notInt, typeAt, argAt, Con.read, Con.make, Con.ext, Con.rel, den, Con.extS, Con.draw, Con.step, Draws.steps, Tryz.f5, szInstC, toMachStateC, toInstC, sMachStepC, machStepC, eqMachStateC, eqInstC, zero_st]
    intro b3
    refine ⟨(t, code, op, o2, cap2, xs, dt), rfl, ⟨g2.mono ((sub_new _).trans (sub_now _ _)), hm, hd1, hd2⟩, fun v hv => ?_⟩
    obtain ⟨t2, rfl, s2, k2⟩ := hv.ex
    simp (maxSteps := 4000000) -dsimp [-List.all_eq_true, -Array.all_eq_true, -Bool.exists_bool, -Bool.forall_bool, vcsE1, vcsE2, vcsE3, vcsE4, vcsE5, vcsE6, vcsE7, vcsE8, vcsE9, vcsE10, vcsE11, vcsE12, vcsE13, vcsE14, vcsE15, vcsE16, vcsE17, vcsE18, vcsE19, Sx.get, Sx.look, Sx.put, pureFn, findOrd, unF, dstOk, isFloatT, endVC, resFn, packC, newFn, storeFn, buildFn, undef, known, aggT, cellsC, Value.cells, findCon, Con.pure, Con.some, allV, partsV, partsC, fillL, Sx.exitTo, fAr, C.one, Value.oneCell', eqFn, eqFieldsFn, eqElemsFn, partFn, and_assoc, List.zipIdx, sliceFn, boundFn, AppV, CopyV, MakeSliceV, NewsV, GrowV, TextV, bytesL, notInt, typeAt, argAt, Con.read, Con.make, Con.ext, Con.rel, den, Con.extS, Con.draw, Con.step, Draws.steps, Tryz.f5, szInstC, toMachStateC, toInstC, sMachStepC, machStepC, eqMachStateC, eqInstC, zero_st, s2.trans s1.symm, k2]
    intro b4
    refine ⟨(code, op, o, cap, xs), rfl, ⟨h.mono (hle1.fact.trans (hle2.fact.trans (sub_now _ _))), hs⟩, ?_⟩
    rintro cx3 v hle3 hv
    obtain ⟨o3, cap3, rfl, g3, _, _⟩ := hv.ex
    simp (maxSteps := 4000000) -dsimp [-List.all_eq_true, -Array.all_eq_true, -Bool.exists_bool, -Bool.forall_bool, vcsE1, vcsE2, vcsE3, vcsE4, vcsE5, vcsE6, vcsE7, vcsE8, vcsE9, vcsE10, vcsE11, vcsE12, vcsE13, vcsE14, vcsE15, vcsE16, vcsE17, vcsE18, vcsE19, Sx.get, Sx.look, Sx.put, pureFn, findOrd, unF, dstOk, isFloatT, endVC, resFn, packC, newFn, storeFn, buildFn, undef, known, aggT, cellsC, Value.cells, findCon, Con.pure, Con.some, allV, partsV, partsC, fillL, Sx.exitTo, fAr, C.one, Value.oneCell', eqFn, eqFieldsFn, eqElemsFn, partFn, and_assoc, List.zipIdx, sliceFn, boundFn, AppV, CopyV, MakeSliceV, NewsV, GrowV, TextV, bytesL, notInt, typeAt, argAt, Con.read, Con.make, Con.ext, Con.rel, den, Con.extS, Con.draw, Con.step, Draws.steps, Tryz.f5, szInstC, toMachStateC, toInstC, sMachStepC, machStepC, eqMachStateC, eqInstC]
    refine (eqInstC_rw ⟨(g2.mono (sub_new _)).mono (hle3.fact.trans (sub_now _ _)), g3.mono ((sub_new _).trans (sub_now _ _)), hs⟩).mpr ?_
    have hw := (hle1.trans (hle2.trans hle3)).w0
    have hg := (hle1.trans (hle2.trans hle3)).g0
    simp (maxSteps := 4000000) -dsimp [-List.all_eq_true, -Array.all_eq_true, -Bool.exists_bool, -Bool.forall_bool, vcsE1, vcsE2, vcsE3, vcsE4, vcsE5, vcsE6, vcsE7, vcsE8, vcsE9, vcsE10, vcsE11, vcsE12, vcsE13, vcsE14, vcsE15, vcsE16, vcsE17, vcsE18, vcsE19, Sx.get, Sx.look, Sx.put, pureFn, findOrd, unF, dstOk, isFloatT, endVC, resFn, packC, newFn, storeFn, buildFn, undef, known, aggT, cellsC, Value.cells, findCon, Con.pure, Con.some, allV, partsV, partsC, fillL, Sx.exitTo, fAr, C.one, Value.oneCell', eqFn, eqFieldsFn, eqElemsFn, partFn, and_assoc, List.zipIdx, sliceFn, boundFn, AppV, CopyV, MakeSliceV, NewsV, GrowV, TextV, bytesL, notInt, typeAt, argAt, Con.read, Con.make, Con.ext, Con.rel, den, Con.extS, Con.draw, Con.step, Draws.steps, Tryz.f5, szInstC, toMachStateC, toInstC, sMachStepC, machStepC, eqMachStateC, eqInstC, hw, hg]
  · have hs1 : (1048576 : Int) < xs.length := by omega
    simp (maxSteps := 4000000) -dsimp [-List.all_eq_true, -Array.all_eq_true, -Bool.exists_bool, -Bool.forall_bool, vcsE1, vcsE2, vcsE3, vcsE4, vcsE5, vcsE6, vcsE7, vcsE8, vcsE9, vcsE10, vcsE11, vcsE12, vcsE13, vcsE14, vcsE15, vcsE16, vcsE17, vcsE18, vcsE19, Sx.get, Sx.look, Sx.put, pureFn, findOrd, unF, dstOk, isFloatT, endVC, resFn, packC, newFn, storeFn, buildFn, undef, known, aggT, cellsC, Value.cells, findCon, Con.pure, Con.some, allV, partsV, partsC, fillL, Sx.exitTo, fAr, C.one, Value.oneCell', eqFn, eqFieldsFn, eqElemsFn, partFn, and_assoc, List.zipIdx, sliceFn, boundFn, AppV, CopyV, MakeSliceV, NewsV, GrowV, TextV, bytesL, notInt, typeAt, argAt, Con.read, Con.make, Con.ext, Con.rel, den, Con.extS, Con.draw, Con.step, Draws.steps, Tryz.f5, szInstC, toMachStateC, toInstC, sMachStepC, machStepC, eqMachStateC, eqInstC, hs1, hl]
def lawMachStepC_S : Reads Tryz.prog 5 where
  ι := ((MS) × (Int) × (Int) × (Option Addr) × (Nat) × (List Dev) × (Int))
  A := fun (i : ((MS) × (Int) × (Int) × (Option Addr) × (Nat) × (List Dev) × (Int))) => match i with | (t, code, op, o, cap, xs, dt) => [.agg (stA t), .agg #[.int .i64 code, .int .i64 op, .slice o xs.length cap], .int .u16 dt]
  pre := fun (i : ((MS) × (Int) × (Int) × (Option Addr) × (Nat) × (List Dev) × (Int))) (F : Facts) => match i with | (t, code, op, o, cap, xs, dt) => RdD F o xs ∧ MSOk t ∧ 0 ≤ dt ∧ dt < 65536 ∧ xs.length ≤ 9223372036854775807
  res := fun (i : ((MS) × (Int) × (Int) × (Option Addr) × (Nat) × (List Dev) × (Int))) => match i with | (t, code, op, o, cap, xs, dt) => .bool true
  mono := by
    intro i F G hs h
    first | exact h | exact h.mono hs | exact ⟨h.1.mono hs, h.2⟩ | exact ⟨h.1.mono hs, h.2.1.mono hs, h.2.2⟩ | exact ⟨h.1.mono hs, h.2.1.mono hs⟩
  uniq := by
    rintro ⟨t, code, op, o, cap, xs, dt⟩ ⟨t', code', op', o', cap', xs', dt'⟩ F hA h h'
    simp at hA
    (try simp only [Int.natCast_inj] at hA)
    obtain rfl : xs = xs' := RdD.uniq h.1 h'.1 (by simp_all) (by simp_all)
    simp_all
  enter := Tryz.call5
  h := fun i w hp => lawMachStepC_c i.1 i.2.1 i.2.2.1 i.2.2.2.1 i.2.2.2.2.1 i.2.2.2.2.2.1 i.2.2.2.2.2.2 w (by rw [factF_init]; exact hp)
def lawMachStepC : Con Tryz.prog := Con.read lawMachStepC_S
theorem lawMachStepC_rw {t : MS} {code op : Int} {o : Option Addr} {cap : Nat} {xs : List Dev} {dt : Int} {d : Nat} {cx : Cx} {mem : List Blk} {K : C → Prop} (hpre : RdD (nowF cx mem) o xs ∧ MSOk t ∧ 0 ≤ dt ∧ dt < 65536 ∧ xs.length ≤ 9223372036854775807) : ReadV d lawMachStepC_S cx [.v (.agg (stA t)), .v (.agg #[.int .i64 code, .int .i64 op, .slice o xs.length cap]), .v (.int .u16 dt)] mem K = K (.v (.bool true)) := lawMachStepC_S.eq (t, code, op, o, cap, xs, dt) rfl hpre
end Go.Proofs.YtmiicjgbhkjocaaGreat
namespace Go.Proofs.YtmiicjgbhkjocaaGreat
open Go Go.Sx Go.ChangeShapes Go.WideShapes Go.ChangeAt Go.RowKit

def stK : List CK := memK ++ [.int .u16, .int .i64, .int .u8, .int .i64]
theorem memK_len : memK.length = 136 := by kernel_rfl
theorem state_open {cs : List Value} (hl : cs.length = stK.length) (h : ∀ (i : Nat) (c : CK), stK[i]? = some c → ∃ x, cs[i]? = some x ∧ c.typed x) : ∃ t, cs = stL t ∧ MSOk t := by
  have hl' : cs.length = 140 := hl
  obtain ⟨m, e1, hm⟩ := mem_open (cs := cs.take 136) (by rw [List.length_take, hl', memK_len]; rfl) (fun i c hi => by
    have hlt : i < 136 := by have := (List.getElem?_eq_some_iff.1 hi).1; rw [memK_len] at this; exact this
    obtain ⟨x, h1, h2⟩ := h i c (by unfold stK; rw [List.getElem?_append_left (by rw [memK_len]; exact hlt)]; exact hi)
    exact ⟨x, by rw [List.getElem?_take, if_pos hlt]; exact h1, h2⟩)
  obtain ⟨v0, g0, a, rfl, ha⟩ := h 136 (.int .u16) (by kernel_rfl)
  obtain ⟨v1, g1, b, rfl, hb⟩ := h 137 (.int .i64) (by kernel_rfl)
  obtain ⟨v2, g2, c, rfl, hc⟩ := h 138 (.int .u8) (by kernel_rfl)
  obtain ⟨v3, g3, d, rfl, hd⟩ := h 139 (.int .i64) (by kernel_rfl)
  have e2 : cs.drop 136 = [.int .u16 a, .int .i64 b, .int .u8 c, .int .i64 d] := by
    apply List.ext_getElem?
    intro i
    rw [List.getElem?_drop]
    match i with
    | 0 => exact g0
    | 1 => exact g1
    | 2 => exact g2
    | 3 => exact g3
    | i + 4 => rw [List.getElem?_eq_none (by omega)]; rfl
  simp [IntKind.min, IntKind.max, IntKind.signed, IntKind.bits] at ha hc
  refine ⟨⟨m, (a, b), (c, d)⟩, ?_, hm, ⟨by simp only; omega, by simp only; omega⟩, ⟨by simp only; omega, by simp only; omega⟩⟩
  rw [← List.take_append_drop 136 cs, e1, e2]
  rfl
theorem openState {w : World} {r : Reach} {base : Nat} {v : Value} (h : Value.okWide Tryz.prog w r base 80 v) : ∃ t, v = .agg (stA t) ∧ MSOk t := by
  obtain ⟨cs, rfl, hl, hc⟩ := open_cells (ks := stK) (by kernel_rfl) (by kernel_rfl) (by kernel_rfl) h
  obtain ⟨t, rfl, ht⟩ := state_open hl hc
  exact ⟨t, rfl, ht⟩
end Go.Proofs.YtmiicjgbhkjocaaGreat
namespace Go.Proofs.YtmiicjgbhkjocaaGreat
open Go Go.Sx Go.ChangeShapes Go.WideShapes Go.ChangeAt Go.RowKit

theorem fnExactMachStep_lifted (os : Os) (started : os.Started) (H : Type) (enc : TypeId × Value → H) :
    ReturnsInHanded {} Tryz.checked os 5 .any (Rows.fnExactMachStepSpec.pre6 enc Tryz.prog Tryz.f5 Rows.fnExactMachStepRow.domain false) (Rows.fnExactMachStepSpec.post enc Tryz.prog Tryz.f5 false true false false) := by
  refine lifted_of_walk (C := Tryz.checked) (tb := 4) own started (by kernel_rfl) Tryz.func5
    (ChangeSpec.witness6 (enc := enc) (C := Tryz.checked) false ⟨#[], #[.agg (stA (bootN zeroM)), .agg #[.int .i64 0, .int .i64 0, .slice none 0 0], .int .u16 0], []⟩ 12 (by kernel_rfl) (by kernel_rfl) (by kernel_rfl) (by kernel_rfl))
    laidOut (by kernel_rfl) rfl rfl (by kernel_rfl) (fun ds hd => ?_) (fun W base args hsz hval htr => ?_)
  · match ds, hd with
    | [d0, d1, d2], _ => rfl
  · obtain ⟨a0, a1, a2, rfl⟩ : ∃ a0 a1 a2, args = #[a0, a1, a2] := by
      obtain ⟨l⟩ := args
      match l, hsz with
      | [a0, a1, a2], _ => exact ⟨a0, a1, a2, rfl⟩
    obtain ⟨t, rfl, h_t⟩ := openState (hval 0 _ a0 rfl rfl)
    obtain ⟨code, op, o, cap, xs, rfl, h_code⟩ := openInst (hval 1 _ a1 rfl rfl) (htr 1 _ a1 rfl rfl)
    obtain ⟨dt, rfl, h_dt⟩ := openInt (k := .u16) (by kernel_rfl) (hval 2 _ a2 rfl rfl)
    exact lawMachStepC_c t code op o cap xs dt W (by rw [factF_init]; exact ⟨h_code.1, h_t, by simp [IntKind.min, IntKind.max, IntKind.signed, IntKind.bits] at h_dt; omega, by simp [IntKind.min, IntKind.max, IntKind.signed, IntKind.bits] at h_dt; omega, by have := h_code.2.1; have := h_code.2.2; unfold maxLen at this; omega⟩)

theorem fnExactMachStep_j0 : Rows.fnExactMachStepRow.wf (OpenSpec.ofChange Rows.fnExactMachStepSpec) = true := by kernel_rfl
theorem fnExactMachStep_j3 : (Tryz.f5.params.all (Tryz.prog.readableRec ·) && namedTie Tryz.prog Rows.fnExactMachStepRow.named Rows.fnExactMachStepSpec.vars && (Rows.fnExactMachStepRow.stops == []) && (Tryz.prog.stops == []) && (Rows.fnExactMachStepRow.knobs == []) && (Tryz.prog.stopKnobs == [])) = true := by kernel_rfl
theorem fnExactMachStep_j9 : (Rows.fnExactMachStepRow.inPlace == Tryz.prog.inPlace 5) = true := by kernel_rfl
theorem fnExactMachStep_j10 : (Rows.fnExactMachStepRow.unfollowed == Tryz.prog.unfollowed 5) = true := by kernel_rfl
theorem fnExactMachStep_j11 : (Rows.fnExactMachStepRow.recurses == Tryz.prog.recurses 5) = true := by kernel_rfl
theorem fnExactMachStep_j12 : (Rows.fnExactMachStepRow.named == Tryz.prog.varsNamed 5) = true := by kernel_rfl
theorem fnExactMachStep_closed : joinedFacts Tryz.prog 5 Tryz.f5 Rows.fnExactMachStepSpec Rows.fnExactMachStepRow = true :=
  joined_of fnExactMachStep_j0 fxLaid fxMaps fnExactMachStep_j3 fnExactMachStep_j9 fnExactMachStep_j10 fnExactMachStep_j11 fnExactMachStep_j12 (by kernel_rfl) (Eq.trans (by kernel_rfl) fxKeys) (by kernel_rfl) fxHeard fxEnter (Eq.trans (by rfl) fxLifts) (Eq.trans (by rfl) fxMake) (by kernel_rfl)
theorem fnExactMachStep_holds : Rows.FnExactMachStepSaid :=
  OpenClaim.holds_of_wide 5 Tryz.f5 rfl rfl rfl rfl rfl rfl rfl ⟨rfl, rfl, rfl, rfl, rfl⟩ rfl rfl rfl rfl rfl (by kernel_rfl) Tryz.func5 fnExactMachStep_closed
    (of_decide_eq_true (by kernel_rfl)) (by unfold Func.isWrapper; first | (rw [if_pos (by decide +kernel)]; kernel_rfl) | (rw [if_neg (by decide +kernel)]; exact ⟨rfl, rfl⟩))
    (fun os started H enc _ => fnExactMachStep_lifted os started H enc)
end Go.Proofs.YtmiicjgbhkjocaaGreat
