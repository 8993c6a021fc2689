/-
  Contracts: what contacts ask.
-/
import Derived.Test.YtmiicjgbhkjocaaGreatJ
import Derived.Test.YtmiicjgbhkjocaaGreatK
import Derived.Test.YtmiicjgbhkjocaaGreatKi
set_option linter.unusedVariables false
set_option linter.unusedSimpArgs false
set_option maxRecDepth 100000
set_option maxHeartbeats 4000000
namespace Go.Proofs.YtmiicjgbhkjocaaGreat
open Go Go.Sx

theorem argC_c (op : Int) (o : Option Addr) (cap : Nat) (xs : List Dev) (j : Int) (w : World) (hpre : RdD (factF ⟨w, [], w, []⟩) o xs ∧ 0 ≤ j) : Calls Tryz.prog 126 #[.agg #[.int .i64 op, .slice o xs.length cap], .int .i64 j] w fun e w' => e = .returned (.agg #[.int .i64 (argD xs j.toNat).k, .int .i64 (argD xs j.toNat).n, .int .i64 (argD xs j.toNat).p]) ∧ RowKit.Below w.heap.size w w' := by
  refine (plain_of_vcs ⟨[], []⟩ hmx Tryz.func126 rfl (by kernel_rfl) (args := [.agg #[.int .i64 op, .slice o xs.length cap], .int .i64 j]) (by simp [Tryz.ntmps126]) w (· = .agg #[.int .i64 (argD xs j.toNat).k, .int .i64 (argD xs j.toNat).n, .int .i64 (argD xs j.toNat).p]) 400 ?_).mono fun e w' ⟨v, h1, h2, h3⟩ => ⟨h2 ▸ h1, h3⟩
  obtain ⟨hpre, hj⟩ := hpre
  obtain ⟨j, rfl⟩ := Int.eq_ofNat_of_zero_le hj
  by_cases hlt : j < xs.length
  · obtain ⟨d, hd⟩ : ∃ d, xs[j]? = some d := ⟨xs[j], by simp [hlt]⟩
    have n1 : ¬ xs.length ≤ j := by omega
    have n2 := hpre.there hlt
    have n3 : j < xs.length ↔ True := by simp [hlt]
    have n4 : argD xs j = d := by simp [argD, hd]
    clear hlt
    simp (maxSteps := 4000000) -dsimp [-List.all_eq_true, -Array.all_eq_true, -Bool.exists_bool, -Bool.forall_bool, vcsE1, vcsE2, vcsE3, vcsE4, vcsE5, vcsE6, vcsE7, vcsE8, vcsE9, vcsE10, vcsE11, vcsE12, vcsE13, vcsE14, vcsE15, vcsE16, vcsE17, vcsE18, vcsE19, Sx.get, Sx.look, Sx.put, pureFn, findOrd, unF, dstOk, isFloatT, endVC, resFn, packC, newFn, storeFn, buildFn, undef, known, aggT, cellsC, Value.cells, findCon, Con.pure, Con.some, allV, partsV, partsC, fillL, Sx.exitTo, fAr, C.one, Value.oneCell', eqFn, eqFieldsFn, eqElemsFn, partFn, and_assoc, List.zipIdx, sliceFn, boundFn, AppV, CopyV, MakeSliceV, NewsV, GrowV, TextV, bytesL, notInt, typeAt, argAt, Con.read, Con.make, Con.ext, Con.rel, den, Con.extS, Con.draw, Con.step, Draws.steps, Tryz.f126, n1, n2, n3, hd, hpre.ld _ _ hd, n4]
  · have e : argD xs j = default := by simp [argD, List.getElem?_eq_none (show xs.length ≤ j by omega)]
    have n1 : xs.length ≤ j := by omega
    simp (maxSteps := 4000000) -dsimp [-List.all_eq_true, -Array.all_eq_true, -Bool.exists_bool, -Bool.forall_bool, vcsE1, vcsE2, vcsE3, vcsE4, vcsE5, vcsE6, vcsE7, vcsE8, vcsE9, vcsE10, vcsE11, vcsE12, vcsE13, vcsE14, vcsE15, vcsE16, vcsE17, vcsE18, vcsE19, Sx.get, Sx.look, Sx.put, pureFn, findOrd, unF, dstOk, isFloatT, endVC, resFn, packC, newFn, storeFn, buildFn, undef, known, aggT, cellsC, Value.cells, findCon, Con.pure, Con.some, allV, partsV, partsC, fillL, Sx.exitTo, fAr, C.one, Value.oneCell', eqFn, eqFieldsFn, eqElemsFn, partFn, and_assoc, List.zipIdx, sliceFn, boundFn, AppV, CopyV, MakeSliceV, NewsV, GrowV, TextV, bytesL, notInt, typeAt, argAt, Con.read, Con.make, Con.ext, Con.rel, den, Con.extS, Con.draw, Con.step, Draws.steps, Tryz.f126, n1, e, default, instInhabitedDev]
def argC_S : Reads Tryz.prog 126 where
  ι := ((Int) × (Option Addr) × (Nat) × (List Dev) × (Int))
  A := fun (i : ((Int) × (Option Addr) × (Nat) × (List Dev) × (Int))) => match i with | (op, o, cap, xs, j) => [.agg #[.int .i64 op, .slice o xs.length cap], .int .i64 j]
  pre := fun (i : ((Int) × (Option Addr) × (Nat) × (List Dev) × (Int))) (F : Facts) => match i with | (op, o, cap, xs, j) => RdD F o xs ∧ 0 ≤ j
  res := fun (i : ((Int) × (Option Addr) × (Nat) × (List Dev) × (Int))) => match i with | (op, o, cap, xs, j) => .agg #[.int .i64 (argD xs j.toNat).k, .int .i64 (argD xs j.toNat).n, .int .i64 (argD xs j.toNat).p]
  mono := by
    intro i F G hs h
    first | exact h | exact h.mono hs | exact ⟨h.1.mono hs, h.2⟩ | exact ⟨h.1.mono hs, h.2.1.mono hs, h.2.2⟩ | exact ⟨h.1.mono hs, h.2.1.mono hs⟩
  uniq := by
    rintro ⟨op, o, cap, xs, j⟩ ⟨op', o', cap', xs', j'⟩ F hA h h'
    simp at hA
    (try simp only [Int.natCast_inj] at hA)
    obtain rfl : xs = xs' := RdD.uniq h.1 h'.1 (by simp_all) (by simp_all)
    simp_all
  enter := Tryz.call126
  h := fun i w hp => argC_c i.1 i.2.1 i.2.2.1 i.2.2.2.1 i.2.2.2.2 w (by rw [factF_init]; exact hp)
def argC : Con Tryz.prog := Con.read argC_S
theorem argC_rw {op : Int} {o : Option Addr} {cap : Nat} {xs : List Dev} {j : Int} {d : Nat} {cx : Cx} {mem : List Blk} {K : C → Prop} (hpre : RdD (nowF cx mem) o xs ∧ 0 ≤ j) : ReadV d argC_S cx [.v (.agg #[.int .i64 op, .slice o xs.length cap]), .v (.int .i64 j)] mem K = K (.v (.agg #[.int .i64 (argD xs j.toNat).k, .int .i64 (argD xs j.toNat).n, .int .i64 (argD xs j.toNat).p])) := argC_S.eq (op, o, cap, xs, j) rfl hpre
theorem actTestC_c (m : M) (op : Int) (o : Option Addr) (cap : Nat) (xs : List Dev) (w : World) (hpre : RdD (factF ⟨w, [], w, []⟩) o xs ∧ MOk m) : Calls Tryz.prog 63 #[.agg (cells m), .agg #[.int .i64 op, .slice o xs.length cap]] w fun e w' => e = .returned (.tuple #[.agg (cells (testM m op (argD xs 0) (argD xs 1))), .bool (testB m op (argD xs 0) (argD xs 1))]) ∧ RowKit.Below w.heap.size w w' := by
  refine (plain_of_vcs ⟨[argC, memBitC, wasC, keepC, withinC, isKindC, memRealC, realCmpC, memWholeC, wholeCmpC], []⟩ hmx Tryz.func63 rfl (by kernel_rfl) (args := [.agg (cells m), .agg #[.int .i64 op, .slice o xs.length cap]]) (by simp [Tryz.ntmps63]) w (· = .tuple #[.agg (cells (testM m op (argD xs 0) (argD xs 1))), .bool (testB m op (argD xs 0) (argD xs 1))]) 400 ?_).mono fun e w' ⟨v, h1, h2, h3⟩ => ⟨h2 ▸ h1, h3⟩
  obtain ⟨h, hm⟩ := hpre
  have a0 := fun d mem K => argC_rw (op := op) (cap := cap) (d := d) (cx := ⟨w, [], w, []⟩) (mem := mem) (K := K) (j := 0) ⟨h.mono (sub_now _ _), by decide⟩
  have a1 := fun d mem K => argC_rw (op := op) (cap := cap) (d := d) (cx := ⟨w, [], w, []⟩) (mem := mem) (K := K) (j := 1) ⟨h.mono (sub_now _ _), by decide⟩
  simp only [Int.toNat_zero, Int.toNat_one] at a0 a1
  generalize argD xs 0 = a at *
  generalize argD xs 1 = b at *
  by_cases h1 : op = 1
  · subst h1
    simp (maxSteps := 4000000) -dsimp [-List.all_eq_true, -Array.all_eq_true, -Bool.exists_bool, -Bool.forall_bool, vcsE1, vcsE2, vcsE3, vcsE4, vcsE5, vcsE6, vcsE7, vcsE8, vcsE9, vcsE10, vcsE11, vcsE12, vcsE13, vcsE14, vcsE15, vcsE16, vcsE17, vcsE18, vcsE19, Sx.get, Sx.look, Sx.put, pureFn, findOrd, unF, dstOk, isFloatT, endVC, resFn, packC, newFn, storeFn, buildFn, undef, known, aggT, cellsC, Value.cells, findCon, Con.pure, Con.some, allV, partsV, partsC, fillL, Sx.exitTo, fAr, C.one, Value.oneCell', eqFn, eqFieldsFn, eqElemsFn, partFn, and_assoc, List.zipIdx, sliceFn, boundFn, AppV, CopyV, MakeSliceV, NewsV, GrowV, TextV, bytesL, notInt, typeAt, argAt, Con.read, Con.make, Con.ext, Con.rel, den, Con.extS, Con.draw, Con.step, Draws.steps, Tryz.f63, argC, memBitC, wasC, keepC, withinC, isKindC, memRealC, realCmpC, memWholeC, wholeCmpC, hm, a0, a1, testM, testB]
  by_cases h2 : op = 2
  · subst h2
    simp (maxSteps := 4000000) -dsimp [-List.all_eq_true, -Array.all_eq_true, -Bool.exists_bool, -Bool.forall_bool, vcsE1, vcsE2, vcsE3, vcsE4, vcsE5, vcsE6, vcsE7, vcsE8, vcsE9, vcsE10, vcsE11, vcsE12, vcsE13, vcsE14, vcsE15, vcsE16, vcsE17, vcsE18, vcsE19, Sx.get, Sx.look, Sx.put, pureFn, findOrd, unF, dstOk, isFloatT, endVC, resFn, packC, newFn, storeFn, buildFn, undef, known, aggT, cellsC, Value.cells, findCon, Con.pure, Con.some, allV, partsV, partsC, fillL, Sx.exitTo, fAr, C.one, Value.oneCell', eqFn, eqFieldsFn, eqElemsFn, partFn, and_assoc, List.zipIdx, sliceFn, boundFn, AppV, CopyV, MakeSliceV, NewsV, GrowV, TextV, bytesL, notInt, typeAt, argAt, Con.read, Con.make, Con.ext, Con.rel, den, Con.extS, Con.draw, Con.step, Draws.steps, Tryz.f63, argC, memBitC, wasC, keepC, withinC, isKindC, memRealC, realCmpC, memWholeC, wholeCmpC, hm, a0, a1, testM, testB]
  by_cases h3 : op = 3
  · subst h3
    simp (maxSteps := 4000000) -dsimp [-List.all_eq_true, -Array.all_eq_true, -Bool.exists_bool, -Bool.forall_bool, vcsE1, vcsE2, vcsE3, vcsE4, vcsE5, vcsE6, vcsE7, vcsE8, vcsE9, vcsE10, vcsE11, vcsE12, vcsE13, vcsE14, vcsE15, vcsE16, vcsE17, vcsE18, vcsE19, Sx.get, Sx.look, Sx.put, pureFn, findOrd, unF, dstOk, isFloatT, endVC, resFn, packC, newFn, storeFn, buildFn, undef, known, aggT, cellsC, Value.cells, findCon, Con.pure, Con.some, allV, partsV, partsC, fillL, Sx.exitTo, fAr, C.one, Value.oneCell', eqFn, eqFieldsFn, eqElemsFn, partFn, and_assoc, List.zipIdx, sliceFn, boundFn, AppV, CopyV, MakeSliceV, NewsV, GrowV, TextV, bytesL, notInt, typeAt, argAt, Con.read, Con.make, Con.ext, Con.rel, den, Con.extS, Con.draw, Con.step, Draws.steps, Tryz.f63, argC, memBitC, wasC, keepC, withinC, isKindC, memRealC, realCmpC, memWholeC, wholeCmpC, hm, a0, a1, testM, testB, wasB, keepM]
    clear a0 a1 h hm
    generalize memBit m a.k a.n = x
    generalize memBit m b.k b.n = y
    cases x <;> cases y <;> simp <;> try simp +contextual
  by_cases h4 : op = 4
  · subst h4
    simp (maxSteps := 4000000) -dsimp [-List.all_eq_true, -Array.all_eq_true, -Bool.exists_bool, -Bool.forall_bool, vcsE1, vcsE2, vcsE3, vcsE4, vcsE5, vcsE6, vcsE7, vcsE8, vcsE9, vcsE10, vcsE11, vcsE12, vcsE13, vcsE14, vcsE15, vcsE16, vcsE17, vcsE18, vcsE19, Sx.get, Sx.look, Sx.put, pureFn, findOrd, unF, dstOk, isFloatT, endVC, resFn, packC, newFn, storeFn, buildFn, undef, known, aggT, cellsC, Value.cells, findCon, Con.pure, Con.some, allV, partsV, partsC, fillL, Sx.exitTo, fAr, C.one, Value.oneCell', eqFn, eqFieldsFn, eqElemsFn, partFn, and_assoc, List.zipIdx, sliceFn, boundFn, AppV, CopyV, MakeSliceV, NewsV, GrowV, TextV, bytesL, notInt, typeAt, argAt, Con.read, Con.make, Con.ext, Con.rel, den, Con.extS, Con.draw, Con.step, Draws.steps, Tryz.f63, argC, memBitC, wasC, keepC, withinC, isKindC, memRealC, realCmpC, memWholeC, wholeCmpC, hm, a0, a1, testM, testB, wasB, keepM]
    clear a0 a1 h hm
    generalize memBit m a.k a.n = x
    generalize memBit m b.k b.n = y
    cases x <;> cases y <;> simp <;> try simp +contextual
  by_cases h5 : 5 ≤ op ∧ op ≤ 10
  · have e1 : IntKind.i64.wrap (op - 5) = op - 5 := wrap_i64 (by omega) (by omega)
    have e2 : IntKind.i64.wrap (op - 5 + 1) = op - 4 := by rw [wrap_i64 (by omega) (by omega)]; omega
    have bw := fun k n => memWhole_bd (k := k) (n := n) hm
    simp (maxSteps := 4000000) -dsimp [-List.all_eq_true, -Array.all_eq_true, -Bool.exists_bool, -Bool.forall_bool, vcsE1, vcsE2, vcsE3, vcsE4, vcsE5, vcsE6, vcsE7, vcsE8, vcsE9, vcsE10, vcsE11, vcsE12, vcsE13, vcsE14, vcsE15, vcsE16, vcsE17, vcsE18, vcsE19, Sx.get, Sx.look, Sx.put, pureFn, findOrd, unF, dstOk, isFloatT, endVC, resFn, packC, newFn, storeFn, buildFn, undef, known, aggT, cellsC, Value.cells, findCon, Con.pure, Con.some, allV, partsV, partsC, fillL, Sx.exitTo, fAr, C.one, Value.oneCell', eqFn, eqFieldsFn, eqElemsFn, partFn, and_assoc, List.zipIdx, sliceFn, boundFn, AppV, CopyV, MakeSliceV, NewsV, GrowV, TextV, bytesL, notInt, typeAt, argAt, Con.read, Con.make, Con.ext, Con.rel, den, Con.extS, Con.draw, Con.step, Draws.steps, Tryz.f63, argC, memBitC, wasC, keepC, withinC, isKindC, memRealC, realCmpC, memWholeC, wholeCmpC, hm, a0, a1, h1, h2, h3, h4, h5, e1, e2]
    clear a0 a1
    intro _ _ _ _ _
    refine ⟨fun cx' p hle hlit => ?_, fun h => by omega⟩
    refine (isKindC_rw (ks := [10, 12, 13]) (cap := 3) ⟨(hlit.ints [10, 12, 13] rfl).mono ((sub_new cx').trans (sub_now cx' _)), by decide⟩).mpr ?_
    have hw := hle.w0
    have hg := hle.g0
    clear hlit
    by_cases hr : isRealK a.k = true
    · have hr' : a.k = 10 ∨ a.k = 12 ∨ a.k = 13 := by simpa [isRealK] using hr
      simp (maxSteps := 4000000) -dsimp [-List.all_eq_true, -Array.all_eq_true, -Bool.exists_bool, -Bool.forall_bool, vcsE1, vcsE2, vcsE3, vcsE4, vcsE5, vcsE6, vcsE7, vcsE8, vcsE9, vcsE10, vcsE11, vcsE12, vcsE13, vcsE14, vcsE15, vcsE16, vcsE17, vcsE18, vcsE19, Sx.get, Sx.look, Sx.put, pureFn, findOrd, unF, dstOk, isFloatT, endVC, resFn, packC, newFn, storeFn, buildFn, undef, known, aggT, cellsC, Value.cells, findCon, Con.pure, Con.some, allV, partsV, partsC, fillL, Sx.exitTo, fAr, C.one, Value.oneCell', eqFn, eqFieldsFn, eqElemsFn, partFn, and_assoc, List.zipIdx, sliceFn, boundFn, AppV, CopyV, MakeSliceV, NewsV, GrowV, TextV, bytesL, notInt, typeAt, argAt, Con.read, Con.make, Con.ext, Con.rel, den, Con.extS, Con.draw, Con.step, Draws.steps, Tryz.f63, argC, memBitC, wasC, keepC, withinC, isKindC, memRealC, realCmpC, memWholeC, wholeCmpC, hm, hr', hw, hg, testM, testB, h1, h2, h3, h4, h5, numB, hr]
    · have hr' : ¬ (a.k = 10 ∨ a.k = 12 ∨ a.k = 13) := by simpa [isRealK] using hr
      have b1 := bw a.k a.n
      have b2 := bw b.k b.n
      simp (maxSteps := 4000000) -dsimp [-List.all_eq_true, -Array.all_eq_true, -Bool.exists_bool, -Bool.forall_bool, vcsE1, vcsE2, vcsE3, vcsE4, vcsE5, vcsE6, vcsE7, vcsE8, vcsE9, vcsE10, vcsE11, vcsE12, vcsE13, vcsE14, vcsE15, vcsE16, vcsE17, vcsE18, vcsE19, Sx.get, Sx.look, Sx.put, pureFn, findOrd, unF, dstOk, isFloatT, endVC, resFn, packC, newFn, storeFn, buildFn, undef, known, aggT, cellsC, Value.cells, findCon, Con.pure, Con.some, allV, partsV, partsC, fillL, Sx.exitTo, fAr, C.one, Value.oneCell', eqFn, eqFieldsFn, eqElemsFn, partFn, and_assoc, List.zipIdx, sliceFn, boundFn, AppV, CopyV, MakeSliceV, NewsV, GrowV, TextV, bytesL, notInt, typeAt, argAt, Con.read, Con.make, Con.ext, Con.rel, den, Con.extS, Con.draw, Con.step, Draws.steps, Tryz.f63, argC, memBitC, wasC, keepC, withinC, isKindC, memRealC, realCmpC, memWholeC, wholeCmpC, hm, hr', hw, hg, testM, testB, h1, h2, h3, h4, h5, numB, hr]
      omega
  · simp (maxSteps := 4000000) -dsimp [-List.all_eq_true, -Array.all_eq_true, -Bool.exists_bool, -Bool.forall_bool, vcsE1, vcsE2, vcsE3, vcsE4, vcsE5, vcsE6, vcsE7, vcsE8, vcsE9, vcsE10, vcsE11, vcsE12, vcsE13, vcsE14, vcsE15, vcsE16, vcsE17, vcsE18, vcsE19, Sx.get, Sx.look, Sx.put, pureFn, findOrd, unF, dstOk, isFloatT, endVC, resFn, packC, newFn, storeFn, buildFn, undef, known, aggT, cellsC, Value.cells, findCon, Con.pure, Con.some, allV, partsV, partsC, fillL, Sx.exitTo, fAr, C.one, Value.oneCell', eqFn, eqFieldsFn, eqElemsFn, partFn, and_assoc, List.zipIdx, sliceFn, boundFn, AppV, CopyV, MakeSliceV, NewsV, GrowV, TextV, bytesL, notInt, typeAt, argAt, Con.read, Con.make, Con.ext, Con.rel, den, Con.extS, Con.draw, Con.step, Draws.steps, Tryz.f63, argC, memBitC, wasC, keepC, withinC, isKindC, memRealC, realCmpC, memWholeC, wholeCmpC, hm, a0, a1, h1, h2, h3, h4, h5, testM, testB]
    intro _ _ _ _ _ _ _; omega
def actTestC_S : Reads Tryz.prog 63 where
  ι := ((M) × (Int) × (Option Addr) × (Nat) × (List Dev))
  A := fun (i : ((M) × (Int) × (Option Addr) × (Nat) × (List Dev))) => match i with | (m, op, o, cap, xs) => [.agg (cells m), .agg #[.int .i64 op, .slice o xs.length cap]]
  pre := fun (i : ((M) × (Int) × (Option Addr) × (Nat) × (List Dev))) (F : Facts) => match i with | (m, op, o, cap, xs) => RdD F o xs ∧ MOk m
  res := fun (i : ((M) × (Int) × (Option Addr) × (Nat) × (List Dev))) => match i with | (m, op, o, cap, xs) => .tuple #[.agg (cells (testM m op (argD xs 0) (argD xs 1))), .bool (testB m op (argD xs 0) (argD xs 1))]
  mono := by
    intro i F G hs h
    first | exact h | exact h.mono hs | exact ⟨h.1.mono hs, h.2⟩ | exact ⟨h.1.mono hs, h.2.1.mono hs, h.2.2⟩ | exact ⟨h.1.mono hs, h.2.1.mono hs⟩
  uniq := by
    rintro ⟨m, op, o, cap, xs⟩ ⟨m', op', o', cap', xs'⟩ F hA h h'
    simp at hA
    (try simp only [Int.natCast_inj] at hA)
    obtain rfl : xs = xs' := RdD.uniq h.1 h'.1 (by simp_all) (by simp_all)
    simp_all
  enter := Tryz.call63
  h := fun i w hp => actTestC_c i.1 i.2.1 i.2.2.1 i.2.2.2.1 i.2.2.2.2 w (by rw [factF_init]; exact hp)
def actTestC : Con Tryz.prog := Con.read actTestC_S
theorem actTestC_rw {m : M} {op : Int} {o : Option Addr} {cap : Nat} {xs : List Dev} {d : Nat} {cx : Cx} {mem : List Blk} {K : C → Prop} (hpre : RdD (nowF cx mem) o xs ∧ MOk m) : ReadV d actTestC_S cx [.v (.agg (cells m)), .v (.agg #[.int .i64 op, .slice o xs.length cap])] mem K = K (.v (.tuple #[.agg (cells (testM m op (argD xs 0) (argD xs 1))), .bool (testB m op (argD xs 0) (argD xs 1))])) := actTestC_S.eq (m, op, o, cap, xs) rfl hpre
end Go.Proofs.YtmiicjgbhkjocaaGreat
