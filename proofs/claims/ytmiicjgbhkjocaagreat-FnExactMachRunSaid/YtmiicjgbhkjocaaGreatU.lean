/-
  Contracts: what contacts ask, by the reference; the law of ActTest walked.
-/
import Derived.Test.YtmiicjgbhkjocaaGreatT
import Derived.Test.YtmiicjgbhkjocaaGreatD
set_option linter.unusedVariables false
set_option linter.unusedSimpArgs false
set_option maxRecDepth 100000
set_option maxHeartbeats 4000000
namespace Go.Proofs.YtmiicjgbhkjocaaGreat
open Go Go.Sx

theorem sArgC_c (op : Int) (o : Option Addr) (cap : Nat) (xs : List Dev) (j : Int) (w : World) (hpre : RdD (factF ⟨w, [], w, []⟩) o xs ∧ 0 ≤ j) : Calls Tryz.prog 149 #[.agg #[.int .i64 op, .slice o xs.length cap], .int .i64 j] w fun e w' => e = .returned (.agg #[.int .i64 (argD xs j.toNat).k, .int .i64 (argD xs j.toNat).n, .int .i64 (argD xs j.toNat).p]) ∧ RowKit.Below w.heap.size w w' := by
  refine (plain_of_vcs ⟨[], []⟩ hmx Tryz.func149 rfl (by kernel_rfl) (args := [.agg #[.int .i64 op, .slice o xs.length cap], .int .i64 j]) (by simp [Tryz.ntmps149]) w (· = .agg #[.int .i64 (argD xs j.toNat).k, .int .i64 (argD xs j.toNat).n, .int .i64 (argD xs j.toNat).p]) 400 ?_).mono fun e w' ⟨v, h1, h2, h3⟩ => ⟨h2 ▸ h1, h3⟩
  obtain ⟨hpre, hj⟩ := hpre
  obtain ⟨j, rfl⟩ := Int.eq_ofNat_of_zero_le hj
  by_cases hlt : j < xs.length
  · obtain ⟨d, hd⟩ : ∃ d, xs[j]? = some d := ⟨xs[j], by simp [hlt]⟩
    have n2 := hpre.there hlt
    have n3 : j < xs.length ↔ True := by simp [hlt]
    have n4 : argD xs j = d := by simp [argD, hd]
    clear hlt
    simp (maxSteps := 4000000) -dsimp [-List.all_eq_true, -Array.all_eq_true, -Bool.exists_bool, -Bool.forall_bool, vcsE1, vcsE2, vcsE3, vcsE4, vcsE5, vcsE6, vcsE7, vcsE8, vcsE9, vcsE10, vcsE11, vcsE12, vcsE13, vcsE14, vcsE15, vcsE16, vcsE17, vcsE18, vcsE19, Sx.get, Sx.look, Sx.put, pureFn, findOrd, unF, dstOk, isFloatT, endVC, resFn, packC, newFn, storeFn, buildFn, undef, known, aggT, cellsC, Value.cells, findCon, Con.pure, Con.some, allV, partsV, partsC, fillL, Sx.exitTo, fAr, C.one, Value.oneCell', eqFn, eqFieldsFn, eqElemsFn, partFn, and_assoc, List.zipIdx, sliceFn, boundFn, AppV, CopyV, MakeSliceV, NewsV, GrowV, TextV, bytesL, notInt, typeAt, argAt, Con.read, Con.make, Con.ext, Con.rel, den, Con.extS, Con.draw, Con.step, Draws.steps, Tryz.f149, n2, n3, hd, hpre.ld _ _ hd, n4]
  · have e : argD xs j = default := by simp [argD, List.getElem?_eq_none (show xs.length ≤ j by omega)]
    have n1 : ¬ j < xs.length := hlt
    simp (maxSteps := 4000000) -dsimp [-List.all_eq_true, -Array.all_eq_true, -Bool.exists_bool, -Bool.forall_bool, vcsE1, vcsE2, vcsE3, vcsE4, vcsE5, vcsE6, vcsE7, vcsE8, vcsE9, vcsE10, vcsE11, vcsE12, vcsE13, vcsE14, vcsE15, vcsE16, vcsE17, vcsE18, vcsE19, Sx.get, Sx.look, Sx.put, pureFn, findOrd, unF, dstOk, isFloatT, endVC, resFn, packC, newFn, storeFn, buildFn, undef, known, aggT, cellsC, Value.cells, findCon, Con.pure, Con.some, allV, partsV, partsC, fillL, Sx.exitTo, fAr, C.one, Value.oneCell', eqFn, eqFieldsFn, eqElemsFn, partFn, and_assoc, List.zipIdx, sliceFn, boundFn, AppV, CopyV, MakeSliceV, NewsV, GrowV, TextV, bytesL, notInt, typeAt, argAt, Con.read, Con.make, Con.ext, Con.rel, den, Con.extS, Con.draw, Con.step, Draws.steps, Tryz.f149, n1, e, default, instInhabitedDev]
def sArgC_S : Reads Tryz.prog 149 where
  ι := ((Int) × (Option Addr) × (Nat) × (List Dev) × (Int))
  A := fun (i : ((Int) × (Option Addr) × (Nat) × (List Dev) × (Int))) => match i with | (op, o, cap, xs, j) => [.agg #[.int .i64 op, .slice o xs.length cap], .int .i64 j]
  pre := fun (i : ((Int) × (Option Addr) × (Nat) × (List Dev) × (Int))) (F : Facts) => match i with | (op, o, cap, xs, j) => RdD F o xs ∧ 0 ≤ j
  res := fun (i : ((Int) × (Option Addr) × (Nat) × (List Dev) × (Int))) => match i with | (op, o, cap, xs, j) => .agg #[.int .i64 (argD xs j.toNat).k, .int .i64 (argD xs j.toNat).n, .int .i64 (argD xs j.toNat).p]
  mono := by
    intro i F G hs h
    first | exact h | exact h.mono hs | exact ⟨h.1.mono hs, h.2⟩ | exact ⟨h.1.mono hs, h.2.1.mono hs, h.2.2⟩ | exact ⟨h.1.mono hs, h.2.1.mono hs⟩
  uniq := by
    rintro ⟨op, o, cap, xs, j⟩ ⟨op', o', cap', xs', j'⟩ F hA h h'
    simp at hA
    (try simp only [Int.natCast_inj] at hA)
    obtain rfl : xs = xs' := RdD.uniq h.1 h'.1 (by simp_all) (by simp_all)
    simp_all
  enter := Tryz.call149
  h := fun i w hp => sArgC_c i.1 i.2.1 i.2.2.1 i.2.2.2.1 i.2.2.2.2 w (by rw [factF_init]; exact hp)
def sArgC : Con Tryz.prog := Con.read sArgC_S
theorem sArgC_rw {op : Int} {o : Option Addr} {cap : Nat} {xs : List Dev} {j : Int} {d : Nat} {cx : Cx} {mem : List Blk} {K : C → Prop} (hpre : RdD (nowF cx mem) o xs ∧ 0 ≤ j) : ReadV d sArgC_S cx [.v (.agg #[.int .i64 op, .slice o xs.length cap]), .v (.int .i64 j)] mem K = K (.v (.agg #[.int .i64 (argD xs j.toNat).k, .int .i64 (argD xs j.toNat).n, .int .i64 (argD xs j.toNat).p])) := sArgC_S.eq (op, o, cap, xs, j) rfl hpre
theorem sIsRealC_c (k n p : Int) (w : World) : Calls Tryz.prog 152 #[.agg #[.int .i64 k, .int .i64 n, .int .i64 p]] w fun e w' => e = .returned (.bool (isRealK k)) ∧ RowKit.Below w.heap.size w w' := by
  refine (plain_of_vcs ⟨[], []⟩ hmx Tryz.func152 rfl (by kernel_rfl) (args := [.agg #[.int .i64 k, .int .i64 n, .int .i64 p]]) (by simp [Tryz.ntmps152]) w (· = .bool (isRealK k)) 400 ?_).mono fun e w' ⟨v, h1, h2, h3⟩ => ⟨h2 ▸ h1, h3⟩
  simp (maxSteps := 4000000) -dsimp [-List.all_eq_true, -Array.all_eq_true, -Bool.exists_bool, -Bool.forall_bool, vcsE1, vcsE2, vcsE3, vcsE4, vcsE5, vcsE6, vcsE7, vcsE8, vcsE9, vcsE10, vcsE11, vcsE12, vcsE13, vcsE14, vcsE15, vcsE16, vcsE17, vcsE18, vcsE19, Sx.get, Sx.look, Sx.put, pureFn, findOrd, unF, dstOk, isFloatT, endVC, resFn, packC, newFn, storeFn, buildFn, undef, known, aggT, cellsC, Value.cells, findCon, Con.pure, Con.some, allV, partsV, partsC, fillL, Sx.exitTo, fAr, C.one, Value.oneCell', eqFn, eqFieldsFn, eqElemsFn, partFn, and_assoc, List.zipIdx, sliceFn, boundFn, AppV, CopyV, MakeSliceV, NewsV, GrowV, TextV, bytesL, notInt, typeAt, argAt, Con.read, Con.make, Con.ext, Con.rel, den, Con.extS, Con.draw, Con.step, Draws.steps, Tryz.f152, isRealK]
  simp +contextual
  intro _ _; cases h : decide (k = 13) <;> simp_all
def sIsRealC : Con Tryz.prog := Con.pure 152 Tryz.call152 (fun (i : ((Int) × (Int) × (Int))) => match i with | (k, n, p) => [.agg #[.int .i64 k, .int .i64 n, .int .i64 p]]) (fun (i : ((Int) × (Int) × (Int))) => match i with | (k, n, p) => True) (fun (i : ((Int) × (Int) × (Int))) => match i with | (k, n, p) => .bool (isRealK k)) fun i w _ => sIsRealC_c i.1 i.2.1 i.2.2 w
theorem sActTestC_c (m : M) (op : Int) (o : Option Addr) (cap : Nat) (xs : List Dev) (w : World) (hpre : RdD (factF ⟨w, [], w, []⟩) o xs ∧ MOk m) : Calls Tryz.prog 73 #[.agg (cells m), .agg #[.int .i64 op, .slice o xs.length cap]] w fun e w' => e = .returned (.tuple #[.agg (cells (testM m op (argD xs 0) (argD xs 1))), .bool (testB m op (argD xs 0) (argD xs 1))]) ∧ RowKit.Below w.heap.size w w' := by
  refine (plain_of_vcs ⟨[sArgC, sMemBitC, sMemPutC, sIsRealC, sMemRealC, sRealCmpC, sMemWholeC, sWholeCmpC], [(17, [(0, false), (1, false), (2, false), (3, false), (4, false), (5, false), (6, false), (8, false), (9, false), (7, false), (0, true), (2, true), (8, true), (9, true), (10, false), (0, true), (2, true), (11, false), (12, false), (13, false)])]⟩ hmx Tryz.func73 rfl (by kernel_rfl) (args := [.agg (cells m), .agg #[.int .i64 op, .slice o xs.length cap]]) (by simp [Tryz.ntmps73]) w (· = .tuple #[.agg (cells (testM m op (argD xs 0) (argD xs 1))), .bool (testB m op (argD xs 0) (argD xs 1))]) 400 ?_).mono fun e w' ⟨v, h1, h2, h3⟩ => ⟨h2 ▸ h1, h3⟩
  obtain ⟨h, hm⟩ := hpre
  have a0 := fun d mem K => sArgC_rw (op := op) (cap := cap) (d := d) (cx := ⟨w, [], w, []⟩) (mem := mem) (K := K) (j := 0) ⟨h.mono (sub_now _ _), by decide⟩
  have a1 := fun d mem K => sArgC_rw (op := op) (cap := cap) (d := d) (cx := ⟨w, [], w, []⟩) (mem := mem) (K := K) (j := 1) ⟨h.mono (sub_now _ _), by decide⟩
  simp only [Int.toNat_zero, Int.toNat_one] at a0 a1
  generalize argD xs 0 = a at *
  generalize argD xs 1 = b at *
  by_cases h1 : op = 1
  · subst h1
    simp (maxSteps := 4000000) -dsimp [-List.all_eq_true, -Array.all_eq_true, -Bool.exists_bool, -Bool.forall_bool, vcsE1, vcsE2, vcsE3, vcsE4, vcsE5, vcsE6, vcsE7, vcsE8, vcsE9, vcsE10, vcsE11, vcsE12, vcsE13, vcsE14, vcsE15, vcsE16, vcsE17, vcsE18, vcsE19, Sx.get, Sx.look, Sx.put, pureFn, findOrd, unF, dstOk, isFloatT, endVC, resFn, packC, newFn, storeFn, buildFn, undef, known, aggT, cellsC, Value.cells, findCon, Con.pure, Con.some, allV, partsV, partsC, fillL, Sx.exitTo, fAr, C.one, Value.oneCell', eqFn, eqFieldsFn, eqElemsFn, partFn, and_assoc, List.zipIdx, sliceFn, boundFn, AppV, CopyV, MakeSliceV, NewsV, GrowV, TextV, bytesL, notInt, typeAt, argAt, Con.read, Con.make, Con.ext, Con.rel, den, Con.extS, Con.draw, Con.step, Draws.steps, Tryz.f73, sArgC, sMemBitC, sMemPutC, sIsRealC, sMemRealC, sRealCmpC, sMemWholeC, sWholeCmpC, hm, a0, a1, testM, testB]
  by_cases h2 : op = 2
  · subst h2
    simp (maxSteps := 4000000) -dsimp [-List.all_eq_true, -Array.all_eq_true, -Bool.exists_bool, -Bool.forall_bool, vcsE1, vcsE2, vcsE3, vcsE4, vcsE5, vcsE6, vcsE7, vcsE8, vcsE9, vcsE10, vcsE11, vcsE12, vcsE13, vcsE14, vcsE15, vcsE16, vcsE17, vcsE18, vcsE19, Sx.get, Sx.look, Sx.put, pureFn, findOrd, unF, dstOk, isFloatT, endVC, resFn, packC, newFn, storeFn, buildFn, undef, known, aggT, cellsC, Value.cells, findCon, Con.pure, Con.some, allV, partsV, partsC, fillL, Sx.exitTo, fAr, C.one, Value.oneCell', eqFn, eqFieldsFn, eqElemsFn, partFn, and_assoc, List.zipIdx, sliceFn, boundFn, AppV, CopyV, MakeSliceV, NewsV, GrowV, TextV, bytesL, notInt, typeAt, argAt, Con.read, Con.make, Con.ext, Con.rel, den, Con.extS, Con.draw, Con.step, Draws.steps, Tryz.f73, sArgC, sMemBitC, sMemPutC, sIsRealC, sMemRealC, sRealCmpC, sMemWholeC, sWholeCmpC, hm, a0, a1, testM, testB]
  by_cases h3 : op = 3
  · subst h3
    by_cases hb : b.k = 5
    · simp (maxSteps := 4000000) -dsimp [-List.all_eq_true, -Array.all_eq_true, -Bool.exists_bool, -Bool.forall_bool, vcsE1, vcsE2, vcsE3, vcsE4, vcsE5, vcsE6, vcsE7, vcsE8, vcsE9, vcsE10, vcsE11, vcsE12, vcsE13, vcsE14, vcsE15, vcsE16, vcsE17, vcsE18, vcsE19, Sx.get, Sx.look, Sx.put, pureFn, findOrd, unF, dstOk, isFloatT, endVC, resFn, packC, newFn, storeFn, buildFn, undef, known, aggT, cellsC, Value.cells, findCon, Con.pure, Con.some, allV, partsV, partsC, fillL, Sx.exitTo, fAr, C.one, Value.oneCell', eqFn, eqFieldsFn, eqElemsFn, partFn, and_assoc, List.zipIdx, sliceFn, boundFn, AppV, CopyV, MakeSliceV, NewsV, GrowV, TextV, bytesL, notInt, typeAt, argAt, Con.read, Con.make, Con.ext, Con.rel, den, Con.extS, Con.draw, Con.step, Draws.steps, Tryz.f73, sArgC, sMemBitC, sMemPutC, sIsRealC, sMemRealC, sRealCmpC, sMemWholeC, sWholeCmpC, hm, a0, a1, testM, testB, wasB, keepM, hb]
      clear a0 a1 h hm
      generalize memBit m a.k a.n = x
      generalize memBit m 5 b.n = y
      cases x <;> cases y <;> simp <;> try simp +contextual
    · simp (maxSteps := 4000000) -dsimp [-List.all_eq_true, -Array.all_eq_true, -Bool.exists_bool, -Bool.forall_bool, vcsE1, vcsE2, vcsE3, vcsE4, vcsE5, vcsE6, vcsE7, vcsE8, vcsE9, vcsE10, vcsE11, vcsE12, vcsE13, vcsE14, vcsE15, vcsE16, vcsE17, vcsE18, vcsE19, Sx.get, Sx.look, Sx.put, pureFn, findOrd, unF, dstOk, isFloatT, endVC, resFn, packC, newFn, storeFn, buildFn, undef, known, aggT, cellsC, Value.cells, findCon, Con.pure, Con.some, allV, partsV, partsC, fillL, Sx.exitTo, fAr, C.one, Value.oneCell', eqFn, eqFieldsFn, eqElemsFn, partFn, and_assoc, List.zipIdx, sliceFn, boundFn, AppV, CopyV, MakeSliceV, NewsV, GrowV, TextV, bytesL, notInt, typeAt, argAt, Con.read, Con.make, Con.ext, Con.rel, den, Con.extS, Con.draw, Con.step, Draws.steps, Tryz.f73, sArgC, sMemBitC, sMemPutC, sIsRealC, sMemRealC, sRealCmpC, sMemWholeC, sWholeCmpC, hm, a0, a1, testM, testB, wasB, keepM, hb]
  by_cases h4 : op = 4
  · subst h4
    by_cases hb : b.k = 5
    · simp (maxSteps := 4000000) -dsimp [-List.all_eq_true, -Array.all_eq_true, -Bool.exists_bool, -Bool.forall_bool, vcsE1, vcsE2, vcsE3, vcsE4, vcsE5, vcsE6, vcsE7, vcsE8, vcsE9, vcsE10, vcsE11, vcsE12, vcsE13, vcsE14, vcsE15, vcsE16, vcsE17, vcsE18, vcsE19, Sx.get, Sx.look, Sx.put, pureFn, findOrd, unF, dstOk, isFloatT, endVC, resFn, packC, newFn, storeFn, buildFn, undef, known, aggT, cellsC, Value.cells, findCon, Con.pure, Con.some, allV, partsV, partsC, fillL, Sx.exitTo, fAr, C.one, Value.oneCell', eqFn, eqFieldsFn, eqElemsFn, partFn, and_assoc, List.zipIdx, sliceFn, boundFn, AppV, CopyV, MakeSliceV, NewsV, GrowV, TextV, bytesL, notInt, typeAt, argAt, Con.read, Con.make, Con.ext, Con.rel, den, Con.extS, Con.draw, Con.step, Draws.steps, Tryz.f73, sArgC, sMemBitC, sMemPutC, sIsRealC, sMemRealC, sRealCmpC, sMemWholeC, sWholeCmpC, hm, a0, a1, testM, testB, wasB, keepM, hb]
      clear a0 a1 h hm
      generalize memBit m a.k a.n = x
      generalize memBit m 5 b.n = y
      cases x <;> cases y <;> simp <;> try simp +contextual
    · simp (maxSteps := 4000000) -dsimp [-List.all_eq_true, -Array.all_eq_true, -Bool.exists_bool, -Bool.forall_bool, vcsE1, vcsE2, vcsE3, vcsE4, vcsE5, vcsE6, vcsE7, vcsE8, vcsE9, vcsE10, vcsE11, vcsE12, vcsE13, vcsE14, vcsE15, vcsE16, vcsE17, vcsE18, vcsE19, Sx.get, Sx.look, Sx.put, pureFn, findOrd, unF, dstOk, isFloatT, endVC, resFn, packC, newFn, storeFn, buildFn, undef, known, aggT, cellsC, Value.cells, findCon, Con.pure, Con.some, allV, partsV, partsC, fillL, Sx.exitTo, fAr, C.one, Value.oneCell', eqFn, eqFieldsFn, eqElemsFn, partFn, and_assoc, List.zipIdx, sliceFn, boundFn, AppV, CopyV, MakeSliceV, NewsV, GrowV, TextV, bytesL, notInt, typeAt, argAt, Con.read, Con.make, Con.ext, Con.rel, den, Con.extS, Con.draw, Con.step, Draws.steps, Tryz.f73, sArgC, sMemBitC, sMemPutC, sIsRealC, sMemRealC, sRealCmpC, sMemWholeC, sWholeCmpC, hm, a0, a1, testM, testB, wasB, keepM, hb]
  by_cases h5 : 5 ≤ op ∧ op ≤ 10
  · have e1 : IntKind.i64.wrap (op - 5) = op - 5 := wrap_i64 (by omega) (by omega)
    have e2 : IntKind.i64.wrap (op - 5 + 1) = op - 4 := by rw [wrap_i64 (by omega) (by omega)]; omega
    by_cases hr : isRealK a.k = true
    · simp (maxSteps := 4000000) -dsimp [-List.all_eq_true, -Array.all_eq_true, -Bool.exists_bool, -Bool.forall_bool, vcsE1, vcsE2, vcsE3, vcsE4, vcsE5, vcsE6, vcsE7, vcsE8, vcsE9, vcsE10, vcsE11, vcsE12, vcsE13, vcsE14, vcsE15, vcsE16, vcsE17, vcsE18, vcsE19, Sx.get, Sx.look, Sx.put, pureFn, findOrd, unF, dstOk, isFloatT, endVC, resFn, packC, newFn, storeFn, buildFn, undef, known, aggT, cellsC, Value.cells, findCon, Con.pure, Con.some, allV, partsV, partsC, fillL, Sx.exitTo, fAr, C.one, Value.oneCell', eqFn, eqFieldsFn, eqElemsFn, partFn, and_assoc, List.zipIdx, sliceFn, boundFn, AppV, CopyV, MakeSliceV, NewsV, GrowV, TextV, bytesL, notInt, typeAt, argAt, Con.read, Con.make, Con.ext, Con.rel, den, Con.extS, Con.draw, Con.step, Draws.steps, Tryz.f73, sArgC, sMemBitC, sMemPutC, sIsRealC, sMemRealC, sRealCmpC, sMemWholeC, sWholeCmpC, hm, a0, a1, testM, testB, h1, h2, h3, h4, h5, numB, hr, e1, e2]
      clear a0 a1
      rintro v x rfl h1 v' y rfl h2
      exact ⟨x, rfl, y, rfl, realCmp_sameF (memRealR_F hm h1) (memRealR_F hm h2)⟩
    · simp (maxSteps := 4000000) -dsimp [-List.all_eq_true, -Array.all_eq_true, -Bool.exists_bool, -Bool.forall_bool, vcsE1, vcsE2, vcsE3, vcsE4, vcsE5, vcsE6, vcsE7, vcsE8, vcsE9, vcsE10, vcsE11, vcsE12, vcsE13, vcsE14, vcsE15, vcsE16, vcsE17, vcsE18, vcsE19, Sx.get, Sx.look, Sx.put, pureFn, findOrd, unF, dstOk, isFloatT, endVC, resFn, packC, newFn, storeFn, buildFn, undef, known, aggT, cellsC, Value.cells, findCon, Con.pure, Con.some, allV, partsV, partsC, fillL, Sx.exitTo, fAr, C.one, Value.oneCell', eqFn, eqFieldsFn, eqElemsFn, partFn, and_assoc, List.zipIdx, sliceFn, boundFn, AppV, CopyV, MakeSliceV, NewsV, GrowV, TextV, bytesL, notInt, typeAt, argAt, Con.read, Con.make, Con.ext, Con.rel, den, Con.extS, Con.draw, Con.step, Draws.steps, Tryz.f73, sArgC, sMemBitC, sMemPutC, sIsRealC, sMemRealC, sRealCmpC, sMemWholeC, sWholeCmpC, hm, a0, a1, testM, testB, h1, h2, h3, h4, h5, numB, hr, e1, e2]
  · simp (maxSteps := 4000000) -dsimp [-List.all_eq_true, -Array.all_eq_true, -Bool.exists_bool, -Bool.forall_bool, vcsE1, vcsE2, vcsE3, vcsE4, vcsE5, vcsE6, vcsE7, vcsE8, vcsE9, vcsE10, vcsE11, vcsE12, vcsE13, vcsE14, vcsE15, vcsE16, vcsE17, vcsE18, vcsE19, Sx.get, Sx.look, Sx.put, pureFn, findOrd, unF, dstOk, isFloatT, endVC, resFn, packC, newFn, storeFn, buildFn, undef, known, aggT, cellsC, Value.cells, findCon, Con.pure, Con.some, allV, partsV, partsC, fillL, Sx.exitTo, fAr, C.one, Value.oneCell', eqFn, eqFieldsFn, eqElemsFn, partFn, and_assoc, List.zipIdx, sliceFn, boundFn, AppV, CopyV, MakeSliceV, NewsV, GrowV, TextV, bytesL, notInt, typeAt, argAt, Con.read, Con.make, Con.ext, Con.rel, den, Con.extS, Con.draw, Con.step, Draws.steps, Tryz.f73, sArgC, sMemBitC, sMemPutC, sIsRealC, sMemRealC, sRealCmpC, sMemWholeC, sWholeCmpC, hm, a0, a1, h1, h2, h3, h4, h5, testM, testB]
    intro _ _; omega
def sActTestC_S : Reads Tryz.prog 73 where
  ι := ((M) × (Int) × (Option Addr) × (Nat) × (List Dev))
  A := fun (i : ((M) × (Int) × (Option Addr) × (Nat) × (List Dev))) => match i with | (m, op, o, cap, xs) => [.agg (cells m), .agg #[.int .i64 op, .slice o xs.length cap]]
  pre := fun (i : ((M) × (Int) × (Option Addr) × (Nat) × (List Dev))) (F : Facts) => match i with | (m, op, o, cap, xs) => RdD F o xs ∧ MOk m
  res := fun (i : ((M) × (Int) × (Option Addr) × (Nat) × (List Dev))) => match i with | (m, op, o, cap, xs) => .tuple #[.agg (cells (testM m op (argD xs 0) (argD xs 1))), .bool (testB m op (argD xs 0) (argD xs 1))]
  mono := by
    intro i F G hs h
    first | exact h | exact h.mono hs | exact ⟨h.1.mono hs, h.2⟩ | exact ⟨h.1.mono hs, h.2.1.mono hs, h.2.2⟩ | exact ⟨h.1.mono hs, h.2.1.mono hs⟩
  uniq := by
    rintro ⟨m, op, o, cap, xs⟩ ⟨m', op', o', cap', xs'⟩ F hA h h'
    simp at hA
    (try simp only [Int.natCast_inj] at hA)
    obtain rfl : xs = xs' := RdD.uniq h.1 h'.1 (by simp_all) (by simp_all)
    simp_all
  enter := Tryz.call73
  h := fun i w hp => sActTestC_c i.1 i.2.1 i.2.2.1 i.2.2.2.1 i.2.2.2.2 w (by rw [factF_init]; exact hp)
def sActTestC : Con Tryz.prog := Con.read sActTestC_S
theorem sActTestC_rw {m : M} {op : Int} {o : Option Addr} {cap : Nat} {xs : List Dev} {d : Nat} {cx : Cx} {mem : List Blk} {K : C → Prop} (hpre : RdD (nowF cx mem) o xs ∧ MOk m) : ReadV d sActTestC_S cx [.v (.agg (cells m)), .v (.agg #[.int .i64 op, .slice o xs.length cap])] mem K = K (.v (.tuple #[.agg (cells (testM m op (argD xs 0) (argD xs 1))), .bool (testB m op (argD xs 0) (argD xs 1))])) := sActTestC_S.eq (m, op, o, cap, xs) rfl hpre
end Go.Proofs.YtmiicjgbhkjocaaGreat
