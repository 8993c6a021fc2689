/-
  Contracts: what coils do, by the reference.
-/
import Derived.Test.YtmiicjgbhkjocaaGreatDs
import Derived.Test.YtmiicjgbhkjocaaGreatDt
import Derived.Test.YtmiicjgbhkjocaaGreatDv
set_option linter.unusedVariables false
set_option linter.unusedSimpArgs false
set_option maxRecDepth 100000
set_option maxHeartbeats 4000000
namespace Go.Proofs.YtmiicjgbhkjocaaGreat
open Go Go.Sx






theorem sRealCalcC_c (op : Int) (a b : Nat) (w : World) : Calls Tryz.prog 249 #[.int .i64 op, .float .f64 a, .float .f64 b] w fun e w' => ∃ v, e = .returned v ∧ (fun v => ∃ r, v = .float .f64 r ∧ sameF r (realCalcF op a b) ∧ r < 18446744073709551616) v ∧ RowKit.Below w.heap.size w w' := by
  refine plain_of_vcs ⟨[l3NanC], []⟩ hmx Tryz.func249 rfl (by kernel_rfl) (args := [.int .i64 op, .float .f64 a, .float .f64 b]) (by simp [Tryz.ntmps249]) w (fun v => ∃ r, v = .float .f64 r ∧ sameF r (realCalcF op a b) ∧ r < 18446744073709551616) 400 ?_
  by_cases h1 : op = 1
  · subst h1
    simp (maxSteps := 4000000) -dsimp [-List.all_eq_true, -Array.all_eq_true, -Bool.exists_bool, -Bool.forall_bool, vcsE1, vcsE2, vcsE3, vcsE4, vcsE5, vcsE6, vcsE7, vcsE8, vcsE9, vcsE10, vcsE11, vcsE12, vcsE13, vcsE14, vcsE15, vcsE16, vcsE17, vcsE18, vcsE19, Sx.get, Sx.look, Sx.put, pureFn, findOrd, unF, dstOk, isFloatT, endVC, resFn, packC, newFn, storeFn, buildFn, undef, known, aggT, cellsC, Value.cells, findCon, Con.pure, Con.some, allV, partsV, partsC, fillL, Sx.exitTo, fAr, C.one, Value.oneCell', eqFn, eqFieldsFn, eqElemsFn, partFn, and_assoc, List.zipIdx, sliceFn, boundFn, AppV, CopyV, MakeSliceV, NewsV, GrowV, TextV, bytesL, notInt, typeAt, argAt, Con.read, Con.make, Con.ext, Con.rel, den, Con.extS, Con.draw, Con.step, Draws.steps, Tryz.f249, l3NanC, realCalcF, fmt64x]
    exact fun r hr => ⟨fRes_F hr, arith_lt.1 hr⟩
  by_cases h2 : op = 2
  · subst h2
    simp (maxSteps := 4000000) -dsimp [-List.all_eq_true, -Array.all_eq_true, -Bool.exists_bool, -Bool.forall_bool, vcsE1, vcsE2, vcsE3, vcsE4, vcsE5, vcsE6, vcsE7, vcsE8, vcsE9, vcsE10, vcsE11, vcsE12, vcsE13, vcsE14, vcsE15, vcsE16, vcsE17, vcsE18, vcsE19, Sx.get, Sx.look, Sx.put, pureFn, findOrd, unF, dstOk, isFloatT, endVC, resFn, packC, newFn, storeFn, buildFn, undef, known, aggT, cellsC, Value.cells, findCon, Con.pure, Con.some, allV, partsV, partsC, fillL, Sx.exitTo, fAr, C.one, Value.oneCell', eqFn, eqFieldsFn, eqElemsFn, partFn, and_assoc, List.zipIdx, sliceFn, boundFn, AppV, CopyV, MakeSliceV, NewsV, GrowV, TextV, bytesL, notInt, typeAt, argAt, Con.read, Con.make, Con.ext, Con.rel, den, Con.extS, Con.draw, Con.step, Draws.steps, Tryz.f249, l3NanC, realCalcF, fmt64x]
    exact fun r hr => ⟨fRes_F hr, arith_lt.2.1 hr⟩
  by_cases h3 : op = 3
  · subst h3
    simp (maxSteps := 4000000) -dsimp [-List.all_eq_true, -Array.all_eq_true, -Bool.exists_bool, -Bool.forall_bool, vcsE1, vcsE2, vcsE3, vcsE4, vcsE5, vcsE6, vcsE7, vcsE8, vcsE9, vcsE10, vcsE11, vcsE12, vcsE13, vcsE14, vcsE15, vcsE16, vcsE17, vcsE18, vcsE19, Sx.get, Sx.look, Sx.put, pureFn, findOrd, unF, dstOk, isFloatT, endVC, resFn, packC, newFn, storeFn, buildFn, undef, known, aggT, cellsC, Value.cells, findCon, Con.pure, Con.some, allV, partsV, partsC, fillL, Sx.exitTo, fAr, C.one, Value.oneCell', eqFn, eqFieldsFn, eqElemsFn, partFn, and_assoc, List.zipIdx, sliceFn, boundFn, AppV, CopyV, MakeSliceV, NewsV, GrowV, TextV, bytesL, notInt, typeAt, argAt, Con.read, Con.make, Con.ext, Con.rel, den, Con.extS, Con.draw, Con.step, Draws.steps, Tryz.f249, l3NanC, realCalcF, fmt64x]
    exact fun r hr => ⟨fRes_F hr, arith_lt.2.2.1 hr⟩
  by_cases h4 : op = 4
  · subst h4
    simp (maxSteps := 4000000) -dsimp [-List.all_eq_true, -Array.all_eq_true, -Bool.exists_bool, -Bool.forall_bool, vcsE1, vcsE2, vcsE3, vcsE4, vcsE5, vcsE6, vcsE7, vcsE8, vcsE9, vcsE10, vcsE11, vcsE12, vcsE13, vcsE14, vcsE15, vcsE16, vcsE17, vcsE18, vcsE19, Sx.get, Sx.look, Sx.put, pureFn, findOrd, unF, dstOk, isFloatT, endVC, resFn, packC, newFn, storeFn, buildFn, undef, known, aggT, cellsC, Value.cells, findCon, Con.pure, Con.some, allV, partsV, partsC, fillL, Sx.exitTo, fAr, C.one, Value.oneCell', eqFn, eqFieldsFn, eqElemsFn, partFn, and_assoc, List.zipIdx, sliceFn, boundFn, AppV, CopyV, MakeSliceV, NewsV, GrowV, TextV, bytesL, notInt, typeAt, argAt, Con.read, Con.make, Con.ext, Con.rel, den, Con.extS, Con.draw, Con.step, Draws.steps, Tryz.f249, l3NanC, realCalcF, fmt64x]
    exact fun r hr => ⟨fRes_F hr, arith_lt.2.2.2 hr⟩
  · simp (maxSteps := 4000000) -dsimp [-List.all_eq_true, -Array.all_eq_true, -Bool.exists_bool, -Bool.forall_bool, vcsE1, vcsE2, vcsE3, vcsE4, vcsE5, vcsE6, vcsE7, vcsE8, vcsE9, vcsE10, vcsE11, vcsE12, vcsE13, vcsE14, vcsE15, vcsE16, vcsE17, vcsE18, vcsE19, Sx.get, Sx.look, Sx.put, pureFn, findOrd, unF, dstOk, isFloatT, endVC, resFn, packC, newFn, storeFn, buildFn, undef, known, aggT, cellsC, Value.cells, findCon, Con.pure, Con.some, allV, partsV, partsC, fillL, Sx.exitTo, fAr, C.one, Value.oneCell', eqFn, eqFieldsFn, eqElemsFn, partFn, and_assoc, List.zipIdx, sliceFn, boundFn, AppV, CopyV, MakeSliceV, NewsV, GrowV, TextV, bytesL, notInt, typeAt, argAt, Con.read, Con.make, Con.ext, Con.rel, den, Con.extS, Con.draw, Con.step, Draws.steps, Tryz.f249, l3NanC, realCalcF, h1, h2, h3, h4]
    rintro v r rfl hn hl
    exact ⟨r, rfl, sameF_nan hn nan_q.1, hl⟩
def sRealCalcC : Con Tryz.prog := Con.some 249 Tryz.call249 (fun (i : ((Int) × (Nat) × (Nat))) => match i with | (op, a, b) => [.int .i64 op, .float .f64 a, .float .f64 b]) (fun (i : ((Int) × (Nat) × (Nat))) => match i with | (op, a, b) => True) (fun (i : ((Int) × (Nat) × (Nat))) => match i with | (op, a, b) => fun v => ∃ r, v = .float .f64 r ∧ sameF r (realCalcF op a b) ∧ r < 18446744073709551616) fun i w _ => sRealCalcC_c i.1 i.2.1 i.2.2 w
theorem sWholeCalcC_c (op a b : Int) (hpre : (-32768 ≤ a ∧ a ≤ 32767) ∧ (-32768 ≤ b ∧ b ≤ 32767)) (w : World) : Calls Tryz.prog 250 #[.int .i64 op, .int .i16 a, .int .i16 b] w fun e w' => e = .returned (.tuple #[.int .i16 (wholeCalc op a b).1, .bool (wholeCalc op a b).2]) ∧ RowKit.Below w.heap.size w w' := by
  refine (plain_of_vcs ⟨[l3WrapC], []⟩ hmx Tryz.func250 rfl (by kernel_rfl) (args := [.int .i64 op, .int .i16 a, .int .i16 b]) (by simp [Tryz.ntmps250]) w (· = .tuple #[.int .i16 (wholeCalc op a b).1, .bool (wholeCalc op a b).2]) 400 ?_).mono fun e w' ⟨v, h1, h2, h3⟩ => ⟨h2 ▸ h1, h3⟩
  obtain ⟨ha, hb⟩ := hpre
  have e1 : IntKind.i64.wrap a = a := wrap_i64 (by omega) (by omega)
  have e2 : IntKind.i64.wrap b = b := wrap_i64 (by omega) (by omega)
  have e3 : IntKind.i64.wrap (a + b) = a + b := wrap_i64 (by omega) (by omega)
  have e4 : IntKind.i64.wrap (a - b) = a - b := wrap_i64 (by omega) (by omega)
  have mb := mul_bd ha hb
  have e5 : IntKind.i64.wrap (a * b) = a * b := wrap_i64 (by omega) (by omega)
  by_cases h1 : op = 1
  · subst h1
    simp (maxSteps := 4000000) -dsimp [-List.all_eq_true, -Array.all_eq_true, -Bool.exists_bool, -Bool.forall_bool, vcsE1, vcsE2, vcsE3, vcsE4, vcsE5, vcsE6, vcsE7, vcsE8, vcsE9, vcsE10, vcsE11, vcsE12, vcsE13, vcsE14, vcsE15, vcsE16, vcsE17, vcsE18, vcsE19, Sx.get, Sx.look, Sx.put, pureFn, findOrd, unF, dstOk, isFloatT, endVC, resFn, packC, newFn, storeFn, buildFn, undef, known, aggT, cellsC, Value.cells, findCon, Con.pure, Con.some, allV, partsV, partsC, fillL, Sx.exitTo, fAr, C.one, Value.oneCell', eqFn, eqFieldsFn, eqElemsFn, partFn, and_assoc, List.zipIdx, sliceFn, boundFn, AppV, CopyV, MakeSliceV, NewsV, GrowV, TextV, bytesL, notInt, typeAt, argAt, Con.read, Con.make, Con.ext, Con.rel, den, Con.extS, Con.draw, Con.step, Draws.steps, Tryz.f250, l3WrapC, wholeCalc, e1, e2, e3]
  by_cases h2 : op = 2
  · subst h2
    simp (maxSteps := 4000000) -dsimp [-List.all_eq_true, -Array.all_eq_true, -Bool.exists_bool, -Bool.forall_bool, vcsE1, vcsE2, vcsE3, vcsE4, vcsE5, vcsE6, vcsE7, vcsE8, vcsE9, vcsE10, vcsE11, vcsE12, vcsE13, vcsE14, vcsE15, vcsE16, vcsE17, vcsE18, vcsE19, Sx.get, Sx.look, Sx.put, pureFn, findOrd, unF, dstOk, isFloatT, endVC, resFn, packC, newFn, storeFn, buildFn, undef, known, aggT, cellsC, Value.cells, findCon, Con.pure, Con.some, allV, partsV, partsC, fillL, Sx.exitTo, fAr, C.one, Value.oneCell', eqFn, eqFieldsFn, eqElemsFn, partFn, and_assoc, List.zipIdx, sliceFn, boundFn, AppV, CopyV, MakeSliceV, NewsV, GrowV, TextV, bytesL, notInt, typeAt, argAt, Con.read, Con.make, Con.ext, Con.rel, den, Con.extS, Con.draw, Con.step, Draws.steps, Tryz.f250, l3WrapC, wholeCalc, e1, e2, e4]
  by_cases h3 : op = 3
  · subst h3
    simp (maxSteps := 4000000) -dsimp [-List.all_eq_true, -Array.all_eq_true, -Bool.exists_bool, -Bool.forall_bool, vcsE1, vcsE2, vcsE3, vcsE4, vcsE5, vcsE6, vcsE7, vcsE8, vcsE9, vcsE10, vcsE11, vcsE12, vcsE13, vcsE14, vcsE15, vcsE16, vcsE17, vcsE18, vcsE19, Sx.get, Sx.look, Sx.put, pureFn, findOrd, unF, dstOk, isFloatT, endVC, resFn, packC, newFn, storeFn, buildFn, undef, known, aggT, cellsC, Value.cells, findCon, Con.pure, Con.some, allV, partsV, partsC, fillL, Sx.exitTo, fAr, C.one, Value.oneCell', eqFn, eqFieldsFn, eqElemsFn, partFn, and_assoc, List.zipIdx, sliceFn, boundFn, AppV, CopyV, MakeSliceV, NewsV, GrowV, TextV, bytesL, notInt, typeAt, argAt, Con.read, Con.make, Con.ext, Con.rel, den, Con.extS, Con.draw, Con.step, Draws.steps, Tryz.f250, l3WrapC, wholeCalc, e1, e2, e5]
  by_cases hz : b = 0
  · have e0 : IntKind.i64.wrap 0 = 0 := by decide
    simp (maxSteps := 4000000) -dsimp [-List.all_eq_true, -Array.all_eq_true, -Bool.exists_bool, -Bool.forall_bool, vcsE1, vcsE2, vcsE3, vcsE4, vcsE5, vcsE6, vcsE7, vcsE8, vcsE9, vcsE10, vcsE11, vcsE12, vcsE13, vcsE14, vcsE15, vcsE16, vcsE17, vcsE18, vcsE19, Sx.get, Sx.look, Sx.put, pureFn, findOrd, unF, dstOk, isFloatT, endVC, resFn, packC, newFn, storeFn, buildFn, undef, known, aggT, cellsC, Value.cells, findCon, Con.pure, Con.some, allV, partsV, partsC, fillL, Sx.exitTo, fAr, C.one, Value.oneCell', eqFn, eqFieldsFn, eqElemsFn, partFn, and_assoc, List.zipIdx, sliceFn, boundFn, AppV, CopyV, MakeSliceV, NewsV, GrowV, TextV, bytesL, notInt, typeAt, argAt, Con.read, Con.make, Con.ext, Con.rel, den, Con.extS, Con.draw, Con.step, Draws.steps, Tryz.f250, l3WrapC, wholeCalc, h1, h2, h3, hz, e1, e2, e0]
  have tb := tdiv_bd ha hz
  have e6 : IntKind.i64.wrap (a.tdiv b) = a.tdiv b := wrap_i64 (by omega) (by omega)
  have rb := tmod_bd (b := b) ha
  have e7 : IntKind.i16.wrap (a.tmod b) = a.tmod b := wrap_i16 (by omega) (by omega)
  by_cases h4 : op = 4
  · subst h4
    simp (maxSteps := 4000000) -dsimp [-List.all_eq_true, -Array.all_eq_true, -Bool.exists_bool, -Bool.forall_bool, vcsE1, vcsE2, vcsE3, vcsE4, vcsE5, vcsE6, vcsE7, vcsE8, vcsE9, vcsE10, vcsE11, vcsE12, vcsE13, vcsE14, vcsE15, vcsE16, vcsE17, vcsE18, vcsE19, Sx.get, Sx.look, Sx.put, pureFn, findOrd, unF, dstOk, isFloatT, endVC, resFn, packC, newFn, storeFn, buildFn, undef, known, aggT, cellsC, Value.cells, findCon, Con.pure, Con.some, allV, partsV, partsC, fillL, Sx.exitTo, fAr, C.one, Value.oneCell', eqFn, eqFieldsFn, eqElemsFn, partFn, and_assoc, List.zipIdx, sliceFn, boundFn, AppV, CopyV, MakeSliceV, NewsV, GrowV, TextV, bytesL, notInt, typeAt, argAt, Con.read, Con.make, Con.ext, Con.rel, den, Con.extS, Con.draw, Con.step, Draws.steps, Tryz.f250, l3WrapC, wholeCalc, hz, e1, e2, e6]
  by_cases h5 : op = 5
  · subst h5
    simp (maxSteps := 4000000) -dsimp [-List.all_eq_true, -Array.all_eq_true, -Bool.exists_bool, -Bool.forall_bool, vcsE1, vcsE2, vcsE3, vcsE4, vcsE5, vcsE6, vcsE7, vcsE8, vcsE9, vcsE10, vcsE11, vcsE12, vcsE13, vcsE14, vcsE15, vcsE16, vcsE17, vcsE18, vcsE19, Sx.get, Sx.look, Sx.put, pureFn, findOrd, unF, dstOk, isFloatT, endVC, resFn, packC, newFn, storeFn, buildFn, undef, known, aggT, cellsC, Value.cells, findCon, Con.pure, Con.some, allV, partsV, partsC, fillL, Sx.exitTo, fAr, C.one, Value.oneCell', eqFn, eqFieldsFn, eqElemsFn, partFn, and_assoc, List.zipIdx, sliceFn, boundFn, AppV, CopyV, MakeSliceV, NewsV, GrowV, TextV, bytesL, notInt, typeAt, argAt, Con.read, Con.make, Con.ext, Con.rel, den, Con.extS, Con.draw, Con.step, Draws.steps, Tryz.f250, l3WrapC, wholeCalc, hz, e1, e2, e7]
  · simp (maxSteps := 4000000) -dsimp [-List.all_eq_true, -Array.all_eq_true, -Bool.exists_bool, -Bool.forall_bool, vcsE1, vcsE2, vcsE3, vcsE4, vcsE5, vcsE6, vcsE7, vcsE8, vcsE9, vcsE10, vcsE11, vcsE12, vcsE13, vcsE14, vcsE15, vcsE16, vcsE17, vcsE18, vcsE19, Sx.get, Sx.look, Sx.put, pureFn, findOrd, unF, dstOk, isFloatT, endVC, resFn, packC, newFn, storeFn, buildFn, undef, known, aggT, cellsC, Value.cells, findCon, Con.pure, Con.some, allV, partsV, partsC, fillL, Sx.exitTo, fAr, C.one, Value.oneCell', eqFn, eqFieldsFn, eqElemsFn, partFn, and_assoc, List.zipIdx, sliceFn, boundFn, AppV, CopyV, MakeSliceV, NewsV, GrowV, TextV, bytesL, notInt, typeAt, argAt, Con.read, Con.make, Con.ext, Con.rel, den, Con.extS, Con.draw, Con.step, Draws.steps, Tryz.f250, l3WrapC, wholeCalc, h1, h2, h3, hz, h4, h5, e1, e2]
def sWholeCalcC : Con Tryz.prog := Con.pure 250 Tryz.call250 (fun (i : ((Int) × (Int) × (Int))) => match i with | (op, a, b) => [.int .i64 op, .int .i16 a, .int .i16 b]) (fun (i : ((Int) × (Int) × (Int))) => match i with | (op, a, b) => (-32768 ≤ a ∧ a ≤ 32767) ∧ (-32768 ≤ b ∧ b ≤ 32767)) (fun (i : ((Int) × (Int) × (Int))) => match i with | (op, a, b) => .tuple #[.int .i16 (wholeCalc op a b).1, .bool (wholeCalc op a b).2]) fun i w hp => sWholeCalcC_c i.1 i.2.1 i.2.2 hp w
theorem sCalcC_c (m : M) (op : Int) (o : Option Addr) (cap : Nat) (xs : List Dev) (w : World) (hpre : RdD (factF ⟨w, [], w, []⟩) o xs ∧ MOk m ∧ 30 ≤ op ∧ op ≤ 37) : Calls Tryz.prog 210 #[.agg (cells m), .agg #[.int .i64 op, .slice o xs.length cap]] w fun e w' => ∃ v, e = .returned v ∧ (fun v => IsMem v (whenM m op (argD xs 0) (argD xs 1) (argD xs 2))) v ∧ RowKit.Below w.heap.size w w' := by
  refine plain_of_vcs ⟨[sArgC, sMemWholeC, sMemRealC, sMemPutRealC, sMemPutWholeC, sRealWholeC, sRealCalcC, sWholeCalcC], [(14, [(0, false), (1, false), (2, false), (3, false), (4, false), (0, true), (1, true), (5, false), (6, false)]), (18, [(0, false), (1, false), (2, false), (3, false), (4, false), (6, false), (7, false), (5, false), (0, true), (1, true), (6, true), (7, true), (8, false), (0, true), (1, true), (9, false), (0, true), (1, true), (10, false), (11, false)])]⟩ hmx Tryz.func210 rfl (by kernel_rfl) (args := [.agg (cells m), .agg #[.int .i64 op, .slice o xs.length cap]]) (by simp [Tryz.ntmps210]) w (fun v => IsMem v (whenM m op (argD xs 0) (argD xs 1) (argD xs 2))) 400 ?_
  obtain ⟨h, hm, ho1, ho2⟩ := hpre
  have a0 := fun d mem K => sArgC_rw (op := op) (cap := cap) (d := d) (cx := ⟨w, [], w, []⟩) (mem := mem) (K := K) (j := 0) ⟨h.mono (sub_now _ _), by decide⟩
  have a1 := fun d mem K => sArgC_rw (op := op) (cap := cap) (d := d) (cx := ⟨w, [], w, []⟩) (mem := mem) (K := K) (j := 1) ⟨h.mono (sub_now _ _), by decide⟩
  have a2 := fun d mem K => sArgC_rw (op := op) (cap := cap) (d := d) (cx := ⟨w, [], w, []⟩) (mem := mem) (K := K) (j := 2) ⟨h.mono (sub_now _ _), by decide⟩
  have t2 : Int.toNat 2 = 2 := rfl
  simp only [Int.toNat_zero, Int.toNat_one, t2] at a0 a1 a2
  generalize argD xs 0 = a at *
  generalize argD xs 1 = b at *
  generalize argD xs 2 = c at *
  have hw := fun k n => memWhole_bd (k := k) (n := n) hm
  have w1 : IntKind.i64.wrap (op - 31) = op - 31 := wrap_i64 (by omega) (by omega)
  have w2 : IntKind.i64.wrap (op - 31 + 1) = op - 30 := by rw [wrap_i64 (by omega) (by omega)]; omega
  by_cases h36 : op = 36
  · subst h36
    have hb := hw b.k b.n
    simp (maxSteps := 4000000) -dsimp [-List.all_eq_true, -Array.all_eq_true, -Bool.exists_bool, -Bool.forall_bool, vcsE1, vcsE2, vcsE3, vcsE4, vcsE5, vcsE6, vcsE7, vcsE8, vcsE9, vcsE10, vcsE11, vcsE12, vcsE13, vcsE14, vcsE15, vcsE16, vcsE17, vcsE18, vcsE19, Sx.get, Sx.look, Sx.put, pureFn, findOrd, unF, dstOk, isFloatT, endVC, resFn, packC, newFn, storeFn, buildFn, undef, known, aggT, cellsC, Value.cells, findCon, Con.pure, Con.some, allV, partsV, partsC, fillL, Sx.exitTo, fAr, C.one, Value.oneCell', eqFn, eqFieldsFn, eqElemsFn, partFn, and_assoc, List.zipIdx, sliceFn, boundFn, AppV, CopyV, MakeSliceV, NewsV, GrowV, TextV, bytesL, notInt, typeAt, argAt, Con.read, Con.make, Con.ext, Con.rel, den, Con.extS, Con.draw, Con.step, Draws.steps, Tryz.f210, sArgC, sMemWholeC, sMemRealC, sMemPutRealC, sMemPutWholeC, sRealWholeC, sRealCalcC, sWholeCalcC, hm, a0, a1, a2, w1, w2, whenM]
    exact isMem_self (MOk_putReal hm (nearest_lt (by omega)))
  by_cases h37 : op = 37
  · subst h37
    simp (maxSteps := 4000000) -dsimp [-List.all_eq_true, -Array.all_eq_true, -Bool.exists_bool, -Bool.forall_bool, vcsE1, vcsE2, vcsE3, vcsE4, vcsE5, vcsE6, vcsE7, vcsE8, vcsE9, vcsE10, vcsE11, vcsE12, vcsE13, vcsE14, vcsE15, vcsE16, vcsE17, vcsE18, vcsE19, Sx.get, Sx.look, Sx.put, pureFn, findOrd, unF, dstOk, isFloatT, endVC, resFn, packC, newFn, storeFn, buildFn, undef, known, aggT, cellsC, Value.cells, findCon, Con.pure, Con.some, allV, partsV, partsC, fillL, Sx.exitTo, fAr, C.one, Value.oneCell', eqFn, eqFieldsFn, eqElemsFn, partFn, and_assoc, List.zipIdx, sliceFn, boundFn, AppV, CopyV, MakeSliceV, NewsV, GrowV, TextV, bytesL, notInt, typeAt, argAt, Con.read, Con.make, Con.ext, Con.rel, den, Con.extS, Con.draw, Con.step, Draws.steps, Tryz.f210, sArgC, sMemWholeC, sMemRealC, sMemPutRealC, sMemPutWholeC, sRealWholeC, sRealCalcC, sWholeCalcC, hm, a0, a1, a2, w1, w2, whenM]
    rintro v x rfl hx
    have hs := realWhole_same (memRealR_F hm hx)
    have rb := realWhole_bd (memRealF m b.k b.n b.p)
    refine ⟨x, rfl, ?_⟩
    rw [hs]
    exact ⟨fun hr => by rw [if_pos hr]; exact isMem_self (MOk_putWhole hm (i16_mm rb)), fun hr => by rw [if_neg (by simp [hr])]; exact isMem_self (fault_ok hm)⟩
  by_cases h30 : op = 30
  · subst h30
    by_cases h10 : a.k = 10
    · simp (maxSteps := 4000000) -dsimp [-List.all_eq_true, -Array.all_eq_true, -Bool.exists_bool, -Bool.forall_bool, vcsE1, vcsE2, vcsE3, vcsE4, vcsE5, vcsE6, vcsE7, vcsE8, vcsE9, vcsE10, vcsE11, vcsE12, vcsE13, vcsE14, vcsE15, vcsE16, vcsE17, vcsE18, vcsE19, Sx.get, Sx.look, Sx.put, pureFn, findOrd, unF, dstOk, isFloatT, endVC, resFn, packC, newFn, storeFn, buildFn, undef, known, aggT, cellsC, Value.cells, findCon, Con.pure, Con.some, allV, partsV, partsC, fillL, Sx.exitTo, fAr, C.one, Value.oneCell', eqFn, eqFieldsFn, eqElemsFn, partFn, and_assoc, List.zipIdx, sliceFn, boundFn, AppV, CopyV, MakeSliceV, NewsV, GrowV, TextV, bytesL, notInt, typeAt, argAt, Con.read, Con.make, Con.ext, Con.rel, den, Con.extS, Con.draw, Con.step, Draws.steps, Tryz.f210, sArgC, sMemWholeC, sMemRealC, sMemPutRealC, sMemPutWholeC, sRealWholeC, sRealCalcC, sWholeCalcC, hm, a0, a1, a2, w1, w2, whenM, h10]
      rintro v x rfl hx
      exact ⟨x, rfl, _, rfl, putReal_same (memRealR_F hm hx), MOk_putReal hm (memRealR_same hm hx hx).2⟩
    · simp (maxSteps := 4000000) -dsimp [-List.all_eq_true, -Array.all_eq_true, -Bool.exists_bool, -Bool.forall_bool, vcsE1, vcsE2, vcsE3, vcsE4, vcsE5, vcsE6, vcsE7, vcsE8, vcsE9, vcsE10, vcsE11, vcsE12, vcsE13, vcsE14, vcsE15, vcsE16, vcsE17, vcsE18, vcsE19, Sx.get, Sx.look, Sx.put, pureFn, findOrd, unF, dstOk, isFloatT, endVC, resFn, packC, newFn, storeFn, buildFn, undef, known, aggT, cellsC, Value.cells, findCon, Con.pure, Con.some, allV, partsV, partsC, fillL, Sx.exitTo, fAr, C.one, Value.oneCell', eqFn, eqFieldsFn, eqElemsFn, partFn, and_assoc, List.zipIdx, sliceFn, boundFn, AppV, CopyV, MakeSliceV, NewsV, GrowV, TextV, bytesL, notInt, typeAt, argAt, Con.read, Con.make, Con.ext, Con.rel, den, Con.extS, Con.draw, Con.step, Draws.steps, Tryz.f210, sArgC, sMemWholeC, sMemRealC, sMemPutRealC, sMemPutWholeC, sRealWholeC, sRealCalcC, sWholeCalcC, hm, a0, a1, a2, w1, w2, whenM, h10]
      exact isMem_self (MOk_putWhole hm (i16_mm (hw _ _)))
  have h31 : 31 ≤ op ∧ op ≤ 35 := by omega
  have n22 : ¬ op = 22 := by omega
  have n23 : ¬ op = 23 := by omega
  have n25 : ¬ op = 25 := by omega
  by_cases h10 : a.k = 10
  · simp (maxSteps := 4000000) -dsimp [-List.all_eq_true, -Array.all_eq_true, -Bool.exists_bool, -Bool.forall_bool, vcsE1, vcsE2, vcsE3, vcsE4, vcsE5, vcsE6, vcsE7, vcsE8, vcsE9, vcsE10, vcsE11, vcsE12, vcsE13, vcsE14, vcsE15, vcsE16, vcsE17, vcsE18, vcsE19, Sx.get, Sx.look, Sx.put, pureFn, findOrd, unF, dstOk, isFloatT, endVC, resFn, packC, newFn, storeFn, buildFn, undef, known, aggT, cellsC, Value.cells, findCon, Con.pure, Con.some, allV, partsV, partsC, fillL, Sx.exitTo, fAr, C.one, Value.oneCell', eqFn, eqFieldsFn, eqElemsFn, partFn, and_assoc, List.zipIdx, sliceFn, boundFn, AppV, CopyV, MakeSliceV, NewsV, GrowV, TextV, bytesL, notInt, typeAt, argAt, Con.read, Con.make, Con.ext, Con.rel, den, Con.extS, Con.draw, Con.step, Draws.steps, Tryz.f210, sArgC, sMemWholeC, sMemRealC, sMemPutRealC, sMemPutWholeC, sRealWholeC, sRealCalcC, sWholeCalcC, hm, a0, a1, a2, w1, w2, whenM, h10, h36, h37, h30, h31, n22, n23, n25, calcM]
    rintro v x rfl hx v' y rfl hy
    refine ⟨x, rfl, y, rfl, ?_⟩
    rintro v r rfl hs hl
    refine ⟨r, rfl, _, rfl, putReal_same ?_, MOk_putReal hm hl⟩
    rw [← realCalcF_same (memRealR_F hm hx) (memRealR_F hm hy)]
    exact hs
  · have hb := hw b.k b.n
    have hc := hw c.k c.n
    have bd := fun op => wholeCalc_bd (op := op) (b := memWhole m c.k c.n) hb
    cases hr : (wholeCalc (op - 30) (memWhole m b.k b.n) (memWhole m c.k c.n)).2
    · simp (maxSteps := 4000000) -dsimp [-List.all_eq_true, -Array.all_eq_true, -Bool.exists_bool, -Bool.forall_bool, vcsE1, vcsE2, vcsE3, vcsE4, vcsE5, vcsE6, vcsE7, vcsE8, vcsE9, vcsE10, vcsE11, vcsE12, vcsE13, vcsE14, vcsE15, vcsE16, vcsE17, vcsE18, vcsE19, Sx.get, Sx.look, Sx.put, pureFn, findOrd, unF, dstOk, isFloatT, endVC, resFn, packC, newFn, storeFn, buildFn, undef, known, aggT, cellsC, Value.cells, findCon, Con.pure, Con.some, allV, partsV, partsC, fillL, Sx.exitTo, fAr, C.one, Value.oneCell', eqFn, eqFieldsFn, eqElemsFn, partFn, and_assoc, List.zipIdx, sliceFn, boundFn, AppV, CopyV, MakeSliceV, NewsV, GrowV, TextV, bytesL, notInt, typeAt, argAt, Con.read, Con.make, Con.ext, Con.rel, den, Con.extS, Con.draw, Con.step, Draws.steps, Tryz.f210, sArgC, sMemWholeC, sMemRealC, sMemPutRealC, sMemPutWholeC, sRealWholeC, sRealCalcC, sWholeCalcC, hm, a0, a1, a2, w1, w2, whenM, h10, h36, h37, h30, h31, n22, n23, n25, calcM, hb, hc, hr]
      exact isMem_self (fault_ok hm)
    · simp (maxSteps := 4000000) -dsimp [-List.all_eq_true, -Array.all_eq_true, -Bool.exists_bool, -Bool.forall_bool, vcsE1, vcsE2, vcsE3, vcsE4, vcsE5, vcsE6, vcsE7, vcsE8, vcsE9, vcsE10, vcsE11, vcsE12, vcsE13, vcsE14, vcsE15, vcsE16, vcsE17, vcsE18, vcsE19, Sx.get, Sx.look, Sx.put, pureFn, findOrd, unF, dstOk, isFloatT, endVC, resFn, packC, newFn, storeFn, buildFn, undef, known, aggT, cellsC, Value.cells, findCon, Con.pure, Con.some, allV, partsV, partsC, fillL, Sx.exitTo, fAr, C.one, Value.oneCell', eqFn, eqFieldsFn, eqElemsFn, partFn, and_assoc, List.zipIdx, sliceFn, boundFn, AppV, CopyV, MakeSliceV, NewsV, GrowV, TextV, bytesL, notInt, typeAt, argAt, Con.read, Con.make, Con.ext, Con.rel, den, Con.extS, Con.draw, Con.step, Draws.steps, Tryz.f210, sArgC, sMemWholeC, sMemRealC, sMemPutRealC, sMemPutWholeC, sRealWholeC, sRealCalcC, sWholeCalcC, hm, a0, a1, a2, w1, w2, whenM, h10, h36, h37, h30, h31, n22, n23, n25, calcM, hb, hc, hr]
      exact isMem_self (MOk_putWhole hm (i16_mm (bd _)))
def sCalcC_S : Rels Tryz.prog 210 where
  ι := ((M) × (Int) × (Option Addr) × (Nat) × (List Dev))
  A := fun (i : ((M) × (Int) × (Option Addr) × (Nat) × (List Dev))) => match i with | (m, op, o, cap, xs) => [.agg (cells m), .agg #[.int .i64 op, .slice o xs.length cap]]
  pre := fun (i : ((M) × (Int) × (Option Addr) × (Nat) × (List Dev))) (F : Facts) => match i with | (m, op, o, cap, xs) => RdD F o xs ∧ MOk m ∧ 30 ≤ op ∧ op ≤ 37
  post := fun (i : ((M) × (Int) × (Option Addr) × (Nat) × (List Dev))) => match i with | (m, op, o, cap, xs) => fun v => IsMem v (whenM m op (argD xs 0) (argD xs 1) (argD xs 2))
  mono := by
    intro i F G hs h
    first | exact h | exact h.mono hs | exact ⟨h.1.mono hs, h.2⟩ | exact ⟨h.1.mono hs, h.2.1.mono hs, h.2.2⟩ | exact ⟨h.1.mono hs, h.2.1.mono hs⟩
  enter := Tryz.call210
  h := fun i w hp => sCalcC_c i.1 i.2.1 i.2.2.1 i.2.2.2.1 i.2.2.2.2 w (by rw [factF_init]; exact hp)
def sCalcC : Con Tryz.prog := Con.rel sCalcC_S
end Go.Proofs.YtmiicjgbhkjocaaGreat
