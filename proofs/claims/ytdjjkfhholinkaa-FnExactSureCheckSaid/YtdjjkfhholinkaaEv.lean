/-
  Contracts: which coils and instructions are ok, by the reference: the whole of them.
-/
import Derived.Test.YtdjjkfhholinkaaEu
set_option linter.unusedVariables false
set_option linter.unusedSimpArgs false
set_option maxRecDepth 100000
set_option maxHeartbeats 4000000
namespace Go.Proofs.Ytdjjkfhholinkaa
open Go Go.Sx

theorem sCoilC_c (op : Int) (o : Option Addr) (cap : Nat) (xs : List Dev) (w : World) (hpre : RdD (factF ⟨w, [], w, []⟩) o xs ∧ xs.length ≤ 1048576) : Calls Try.prog 50 #[.agg #[.int .i64 op, .slice o xs.length cap]] w fun e w' => e = .returned (.bool (coilOk op xs)) ∧ RowKit.Below w.heap.size w w' := by
  refine (plain_of_vcs ⟨[sArityC, l4KindC, sIsWhlC, sIsRlC, l4CalcC], []⟩ hmx Try.func50 rfl (by kernel_rfl) (args := [.agg #[.int .i64 op, .slice o xs.length cap]]) (by simp [Try.ntmps50]) w (· = .bool (coilOk op xs)) 400 ?_).mono fun e w' ⟨v, h1, h2, h3⟩ => ⟨h2 ▸ h1, h3⟩
  obtain ⟨h, hl⟩ := hpre
  have e := coilOk_eq op xs
  by_cases h1 : 21 ≤ op ∧ op ≤ 37
  · by_cases hq : (xs.length : Int) = arity op
    · simp only [h1, hq, decide_true, Bool.true_and, and_self] at e
      obtain rfl | rfl | rfl | rfl | rfl | rfl | rfl | rfl | rfl | rfl | rfl | rfl | rfl | rfl | rfl | rfl | rfl : op = 21 ∨ op = 22 ∨ op = 23 ∨ op = 25 ∨ op = 24 ∨ op = 26 ∨ op = 27 ∨ op = 28 ∨ op = 29 ∨ op = 30 ∨ op = 36 ∨ op = 37 ∨ op = 31 ∨ op = 32 ∨ op = 33 ∨ op = 34 ∨ op = 35 := by omega
      · obtain ⟨⟨ak, an, ap⟩, rfl⟩ := list_one (by rw [hq]; rfl)
        have a0 := h.at0 (x := ⟨ak, an, ap⟩) rfl
        have iwa : isWhl ⟨ak, an, ap⟩ = true → devOk ak an ap = true := isWhl_ok
        have ira : isRl ⟨ak, an, ap⟩ = true → devOk ak an ap = true := isRl_ok
        rw [e]
        simp (maxSteps := 4000000) -dsimp [-List.all_eq_true, -Array.all_eq_true, -Bool.exists_bool, -Bool.forall_bool, vcsE1, vcsE2, vcsE3, vcsE4, vcsE5, vcsE6, vcsE7, vcsE8, vcsE9, vcsE10, vcsE11, vcsE12, vcsE13, vcsE14, vcsE15, vcsE16, vcsE17, vcsE18, vcsE19, Sx.get, Sx.look, Sx.put, pureFn, findOrd, unF, dstOk, isFloatT, endVC, resFn, packC, newFn, storeFn, buildFn, undef, known, aggT, cellsC, Value.cells, findCon, Con.pure, Con.some, allV, partsV, partsC, fillL, Sx.exitTo, fAr, C.one, Value.oneCell', eqFn, eqFieldsFn, eqElemsFn, partFn, and_assoc, List.zipIdx, sliceFn, boundFn, AppV, CopyV, MakeSliceV, NewsV, GrowV, TextV, bytesL, notInt, typeAt, argAt, Con.read, Con.make, Con.ext, Con.rel, den, Con.extS, Con.draw, Con.step, Draws.steps, Try.f50, sArityC, l4KindC, sIsWhlC, sIsRlC, l4CalcC, a0.there, a0.all, coilB, xD, arity, dOk, pOk]
        all_goals (clear e h hl hq; grind)
      · obtain ⟨⟨ak, an, ap⟩, rfl⟩ := list_one (by rw [hq]; rfl)
        have a0 := h.at0 (x := ⟨ak, an, ap⟩) rfl
        have iwa : isWhl ⟨ak, an, ap⟩ = true → devOk ak an ap = true := isWhl_ok
        have ira : isRl ⟨ak, an, ap⟩ = true → devOk ak an ap = true := isRl_ok
        rw [e]
        simp (maxSteps := 4000000) -dsimp [-List.all_eq_true, -Array.all_eq_true, -Bool.exists_bool, -Bool.forall_bool, vcsE1, vcsE2, vcsE3, vcsE4, vcsE5, vcsE6, vcsE7, vcsE8, vcsE9, vcsE10, vcsE11, vcsE12, vcsE13, vcsE14, vcsE15, vcsE16, vcsE17, vcsE18, vcsE19, Sx.get, Sx.look, Sx.put, pureFn, findOrd, unF, dstOk, isFloatT, endVC, resFn, packC, newFn, storeFn, buildFn, undef, known, aggT, cellsC, Value.cells, findCon, Con.pure, Con.some, allV, partsV, partsC, fillL, Sx.exitTo, fAr, C.one, Value.oneCell', eqFn, eqFieldsFn, eqElemsFn, partFn, and_assoc, List.zipIdx, sliceFn, boundFn, AppV, CopyV, MakeSliceV, NewsV, GrowV, TextV, bytesL, notInt, typeAt, argAt, Con.read, Con.make, Con.ext, Con.rel, den, Con.extS, Con.draw, Con.step, Draws.steps, Try.f50, sArityC, l4KindC, sIsWhlC, sIsRlC, l4CalcC, a0.there, a0.all, coilB, xD, arity, dOk, pOk]
        all_goals (clear e h hl hq; grind)
      · obtain ⟨⟨ak, an, ap⟩, rfl⟩ := list_one (by rw [hq]; rfl)
        have a0 := h.at0 (x := ⟨ak, an, ap⟩) rfl
        have iwa : isWhl ⟨ak, an, ap⟩ = true → devOk ak an ap = true := isWhl_ok
        have ira : isRl ⟨ak, an, ap⟩ = true → devOk ak an ap = true := isRl_ok
        rw [e]
        simp (maxSteps := 4000000) -dsimp [-List.all_eq_true, -Array.all_eq_true, -Bool.exists_bool, -Bool.forall_bool, vcsE1, vcsE2, vcsE3, vcsE4, vcsE5, vcsE6, vcsE7, vcsE8, vcsE9, vcsE10, vcsE11, vcsE12, vcsE13, vcsE14, vcsE15, vcsE16, vcsE17, vcsE18, vcsE19, Sx.get, Sx.look, Sx.put, pureFn, findOrd, unF, dstOk, isFloatT, endVC, resFn, packC, newFn, storeFn, buildFn, undef, known, aggT, cellsC, Value.cells, findCon, Con.pure, Con.some, allV, partsV, partsC, fillL, Sx.exitTo, fAr, C.one, Value.oneCell', eqFn, eqFieldsFn, eqElemsFn, partFn, and_assoc, List.zipIdx, sliceFn, boundFn, AppV, CopyV, MakeSliceV, NewsV, GrowV, TextV, bytesL, notInt, typeAt, argAt, Con.read, Con.make, Con.ext, Con.rel, den, Con.extS, Con.draw, Con.step, Draws.steps, Try.f50, sArityC, l4KindC, sIsWhlC, sIsRlC, l4CalcC, a0.there, a0.all, coilB, xD, arity, dOk, pOk]
        all_goals (clear e h hl hq; grind)
      · obtain ⟨⟨ak, an, ap⟩, rfl⟩ := list_one (by rw [hq]; rfl)
        have a0 := h.at0 (x := ⟨ak, an, ap⟩) rfl
        have iwa : isWhl ⟨ak, an, ap⟩ = true → devOk ak an ap = true := isWhl_ok
        have ira : isRl ⟨ak, an, ap⟩ = true → devOk ak an ap = true := isRl_ok
        rw [e]
        simp (maxSteps := 4000000) -dsimp [-List.all_eq_true, -Array.all_eq_true, -Bool.exists_bool, -Bool.forall_bool, vcsE1, vcsE2, vcsE3, vcsE4, vcsE5, vcsE6, vcsE7, vcsE8, vcsE9, vcsE10, vcsE11, vcsE12, vcsE13, vcsE14, vcsE15, vcsE16, vcsE17, vcsE18, vcsE19, Sx.get, Sx.look, Sx.put, pureFn, findOrd, unF, dstOk, isFloatT, endVC, resFn, packC, newFn, storeFn, buildFn, undef, known, aggT, cellsC, Value.cells, findCon, Con.pure, Con.some, allV, partsV, partsC, fillL, Sx.exitTo, fAr, C.one, Value.oneCell', eqFn, eqFieldsFn, eqElemsFn, partFn, and_assoc, List.zipIdx, sliceFn, boundFn, AppV, CopyV, MakeSliceV, NewsV, GrowV, TextV, bytesL, notInt, typeAt, argAt, Con.read, Con.make, Con.ext, Con.rel, den, Con.extS, Con.draw, Con.step, Draws.steps, Try.f50, sArityC, l4KindC, sIsWhlC, sIsRlC, l4CalcC, a0.there, a0.all, coilB, xD, arity, dOk, pOk]
        all_goals (clear e h hl hq; grind)
      · obtain ⟨⟨ak, an, ap⟩, ⟨bk, bn, bp⟩, rfl⟩ := list_two (by rw [hq]; rfl)
        have a0 := h.at0 (x := ⟨ak, an, ap⟩) rfl
        have a1 := h.at1 (x := ⟨bk, bn, bp⟩) rfl
        have iwa : isWhl ⟨ak, an, ap⟩ = true → devOk ak an ap = true := isWhl_ok
        have ira : isRl ⟨ak, an, ap⟩ = true → devOk ak an ap = true := isRl_ok
        have iwb : isWhl ⟨bk, bn, bp⟩ = true → devOk bk bn bp = true := isWhl_ok
        have irb : isRl ⟨bk, bn, bp⟩ = true → devOk bk bn bp = true := isRl_ok
        rw [e]
        simp (maxSteps := 4000000) -dsimp [-List.all_eq_true, -Array.all_eq_true, -Bool.exists_bool, -Bool.forall_bool, vcsE1, vcsE2, vcsE3, vcsE4, vcsE5, vcsE6, vcsE7, vcsE8, vcsE9, vcsE10, vcsE11, vcsE12, vcsE13, vcsE14, vcsE15, vcsE16, vcsE17, vcsE18, vcsE19, Sx.get, Sx.look, Sx.put, pureFn, findOrd, unF, dstOk, isFloatT, endVC, resFn, packC, newFn, storeFn, buildFn, undef, known, aggT, cellsC, Value.cells, findCon, Con.pure, Con.some, allV, partsV, partsC, fillL, Sx.exitTo, fAr, C.one, Value.oneCell', eqFn, eqFieldsFn, eqElemsFn, partFn, and_assoc, List.zipIdx, sliceFn, boundFn, AppV, CopyV, MakeSliceV, NewsV, GrowV, TextV, bytesL, notInt, typeAt, argAt, Con.read, Con.make, Con.ext, Con.rel, den, Con.extS, Con.draw, Con.step, Draws.steps, Try.f50, sArityC, l4KindC, sIsWhlC, sIsRlC, l4CalcC, a0.there, a0.all, a1.there, a1.all, a1.k, a1.n, coilB, xD, arity, dOk, pOk]
        all_goals (clear e h hl hq; grind)
      · obtain ⟨⟨ak, an, ap⟩, ⟨bk, bn, bp⟩, rfl⟩ := list_two (by rw [hq]; rfl)
        have a0 := h.at0 (x := ⟨ak, an, ap⟩) rfl
        have a1 := h.at1 (x := ⟨bk, bn, bp⟩) rfl
        have iwa : isWhl ⟨ak, an, ap⟩ = true → devOk ak an ap = true := isWhl_ok
        have ira : isRl ⟨ak, an, ap⟩ = true → devOk ak an ap = true := isRl_ok
        have iwb : isWhl ⟨bk, bn, bp⟩ = true → devOk bk bn bp = true := isWhl_ok
        have irb : isRl ⟨bk, bn, bp⟩ = true → devOk bk bn bp = true := isRl_ok
        rw [e]
        simp (maxSteps := 4000000) -dsimp [-List.all_eq_true, -Array.all_eq_true, -Bool.exists_bool, -Bool.forall_bool, vcsE1, vcsE2, vcsE3, vcsE4, vcsE5, vcsE6, vcsE7, vcsE8, vcsE9, vcsE10, vcsE11, vcsE12, vcsE13, vcsE14, vcsE15, vcsE16, vcsE17, vcsE18, vcsE19, Sx.get, Sx.look, Sx.put, pureFn, findOrd, unF, dstOk, isFloatT, endVC, resFn, packC, newFn, storeFn, buildFn, undef, known, aggT, cellsC, Value.cells, findCon, Con.pure, Con.some, allV, partsV, partsC, fillL, Sx.exitTo, fAr, C.one, Value.oneCell', eqFn, eqFieldsFn, eqElemsFn, partFn, and_assoc, List.zipIdx, sliceFn, boundFn, AppV, CopyV, MakeSliceV, NewsV, GrowV, TextV, bytesL, notInt, typeAt, argAt, Con.read, Con.make, Con.ext, Con.rel, den, Con.extS, Con.draw, Con.step, Draws.steps, Try.f50, sArityC, l4KindC, sIsWhlC, sIsRlC, l4CalcC, a0.there, a0.all, a1.there, a1.all, a1.k, a1.n, coilB, xD, arity, dOk, pOk]
        all_goals (clear e h hl hq; grind)
      · obtain ⟨⟨ak, an, ap⟩, ⟨bk, bn, bp⟩, rfl⟩ := list_two (by rw [hq]; rfl)
        have a0 := h.at0 (x := ⟨ak, an, ap⟩) rfl
        have a1 := h.at1 (x := ⟨bk, bn, bp⟩) rfl
        have iwa : isWhl ⟨ak, an, ap⟩ = true → devOk ak an ap = true := isWhl_ok
        have ira : isRl ⟨ak, an, ap⟩ = true → devOk ak an ap = true := isRl_ok
        have iwb : isWhl ⟨bk, bn, bp⟩ = true → devOk bk bn bp = true := isWhl_ok
        have irb : isRl ⟨bk, bn, bp⟩ = true → devOk bk bn bp = true := isRl_ok
        rw [e]
        simp (maxSteps := 4000000) -dsimp [-List.all_eq_true, -Array.all_eq_true, -Bool.exists_bool, -Bool.forall_bool, vcsE1, vcsE2, vcsE3, vcsE4, vcsE5, vcsE6, vcsE7, vcsE8, vcsE9, vcsE10, vcsE11, vcsE12, vcsE13, vcsE14, vcsE15, vcsE16, vcsE17, vcsE18, vcsE19, Sx.get, Sx.look, Sx.put, pureFn, findOrd, unF, dstOk, isFloatT, endVC, resFn, packC, newFn, storeFn, buildFn, undef, known, aggT, cellsC, Value.cells, findCon, Con.pure, Con.some, allV, partsV, partsC, fillL, Sx.exitTo, fAr, C.one, Value.oneCell', eqFn, eqFieldsFn, eqElemsFn, partFn, and_assoc, List.zipIdx, sliceFn, boundFn, AppV, CopyV, MakeSliceV, NewsV, GrowV, TextV, bytesL, notInt, typeAt, argAt, Con.read, Con.make, Con.ext, Con.rel, den, Con.extS, Con.draw, Con.step, Draws.steps, Try.f50, sArityC, l4KindC, sIsWhlC, sIsRlC, l4CalcC, a0.there, a0.all, a1.there, a1.all, a1.k, a1.n, coilB, xD, arity, dOk, pOk]
        all_goals (clear e h hl hq; grind)
      · obtain ⟨⟨ak, an, ap⟩, ⟨bk, bn, bp⟩, rfl⟩ := list_two (by rw [hq]; rfl)
        have a0 := h.at0 (x := ⟨ak, an, ap⟩) rfl
        have a1 := h.at1 (x := ⟨bk, bn, bp⟩) rfl
        have iwa : isWhl ⟨ak, an, ap⟩ = true → devOk ak an ap = true := isWhl_ok
        have ira : isRl ⟨ak, an, ap⟩ = true → devOk ak an ap = true := isRl_ok
        have iwb : isWhl ⟨bk, bn, bp⟩ = true → devOk bk bn bp = true := isWhl_ok
        have irb : isRl ⟨bk, bn, bp⟩ = true → devOk bk bn bp = true := isRl_ok
        rw [e]
        simp (maxSteps := 4000000) -dsimp [-List.all_eq_true, -Array.all_eq_true, -Bool.exists_bool, -Bool.forall_bool, vcsE1, vcsE2, vcsE3, vcsE4, vcsE5, vcsE6, vcsE7, vcsE8, vcsE9, vcsE10, vcsE11, vcsE12, vcsE13, vcsE14, vcsE15, vcsE16, vcsE17, vcsE18, vcsE19, Sx.get, Sx.look, Sx.put, pureFn, findOrd, unF, dstOk, isFloatT, endVC, resFn, packC, newFn, storeFn, buildFn, undef, known, aggT, cellsC, Value.cells, findCon, Con.pure, Con.some, allV, partsV, partsC, fillL, Sx.exitTo, fAr, C.one, Value.oneCell', eqFn, eqFieldsFn, eqElemsFn, partFn, and_assoc, List.zipIdx, sliceFn, boundFn, AppV, CopyV, MakeSliceV, NewsV, GrowV, TextV, bytesL, notInt, typeAt, argAt, Con.read, Con.make, Con.ext, Con.rel, den, Con.extS, Con.draw, Con.step, Draws.steps, Try.f50, sArityC, l4KindC, sIsWhlC, sIsRlC, l4CalcC, a0.there, a0.all, a1.there, a1.all, a1.k, a1.n, coilB, xD, arity, dOk, pOk]
        all_goals (clear e h hl hq; grind)
      · obtain ⟨⟨ak, an, ap⟩, ⟨bk, bn, bp⟩, rfl⟩ := list_two (by rw [hq]; rfl)
        have a0 := h.at0 (x := ⟨ak, an, ap⟩) rfl
        have a1 := h.at1 (x := ⟨bk, bn, bp⟩) rfl
        have iwa : isWhl ⟨ak, an, ap⟩ = true → devOk ak an ap = true := isWhl_ok
        have ira : isRl ⟨ak, an, ap⟩ = true → devOk ak an ap = true := isRl_ok
        have iwb : isWhl ⟨bk, bn, bp⟩ = true → devOk bk bn bp = true := isWhl_ok
        have irb : isRl ⟨bk, bn, bp⟩ = true → devOk bk bn bp = true := isRl_ok
        rw [e]
        simp (maxSteps := 4000000) -dsimp [-List.all_eq_true, -Array.all_eq_true, -Bool.exists_bool, -Bool.forall_bool, vcsE1, vcsE2, vcsE3, vcsE4, vcsE5, vcsE6, vcsE7, vcsE8, vcsE9, vcsE10, vcsE11, vcsE12, vcsE13, vcsE14, vcsE15, vcsE16, vcsE17, vcsE18, vcsE19, Sx.get, Sx.look, Sx.put, pureFn, findOrd, unF, dstOk, isFloatT, endVC, resFn, packC, newFn, storeFn, buildFn, undef, known, aggT, cellsC, Value.cells, findCon, Con.pure, Con.some, allV, partsV, partsC, fillL, Sx.exitTo, fAr, C.one, Value.oneCell', eqFn, eqFieldsFn, eqElemsFn, partFn, and_assoc, List.zipIdx, sliceFn, boundFn, AppV, CopyV, MakeSliceV, NewsV, GrowV, TextV, bytesL, notInt, typeAt, argAt, Con.read, Con.make, Con.ext, Con.rel, den, Con.extS, Con.draw, Con.step, Draws.steps, Try.f50, sArityC, l4KindC, sIsWhlC, sIsRlC, l4CalcC, a0.there, a0.all, a1.there, a1.all, a1.k, a1.n, coilB, xD, arity, dOk, pOk]
        all_goals (clear e h hl hq; grind)
      · obtain ⟨⟨ak, an, ap⟩, ⟨bk, bn, bp⟩, rfl⟩ := list_two (by rw [hq]; rfl)
        have a0 := h.at0 (x := ⟨ak, an, ap⟩) rfl
        have a1 := h.at1 (x := ⟨bk, bn, bp⟩) rfl
        have y := fun d mem K => l4CalcC_rw (op := 30) (cap := cap) (d := d) (cx := ⟨w, [], w, []⟩) (mem := mem) (K := K) ⟨h.mono (sub_now _ _), by simp, by simp⟩
        simp only [List.length_cons, List.length_nil, Nat.zero_add, Nat.reduceAdd] at y
        have iwa : isWhl ⟨ak, an, ap⟩ = true → devOk ak an ap = true := isWhl_ok
        have ira : isRl ⟨ak, an, ap⟩ = true → devOk ak an ap = true := isRl_ok
        have iwb : isWhl ⟨bk, bn, bp⟩ = true → devOk bk bn bp = true := isWhl_ok
        have irb : isRl ⟨bk, bn, bp⟩ = true → devOk bk bn bp = true := isRl_ok
        rw [e]
        simp (maxSteps := 4000000) -dsimp [-List.all_eq_true, -Array.all_eq_true, -Bool.exists_bool, -Bool.forall_bool, vcsE1, vcsE2, vcsE3, vcsE4, vcsE5, vcsE6, vcsE7, vcsE8, vcsE9, vcsE10, vcsE11, vcsE12, vcsE13, vcsE14, vcsE15, vcsE16, vcsE17, vcsE18, vcsE19, Sx.get, Sx.look, Sx.put, pureFn, findOrd, unF, dstOk, isFloatT, endVC, resFn, packC, newFn, storeFn, buildFn, undef, known, aggT, cellsC, Value.cells, findCon, Con.pure, Con.some, allV, partsV, partsC, fillL, Sx.exitTo, fAr, C.one, Value.oneCell', eqFn, eqFieldsFn, eqElemsFn, partFn, and_assoc, List.zipIdx, sliceFn, boundFn, AppV, CopyV, MakeSliceV, NewsV, GrowV, TextV, bytesL, notInt, typeAt, argAt, Con.read, Con.make, Con.ext, Con.rel, den, Con.extS, Con.draw, Con.step, Draws.steps, Try.f50, sArityC, l4KindC, sIsWhlC, sIsRlC, l4CalcC, a0.there, a0.all, a1.there, a1.all, a1.k, a1.n, y, calcB, calcG, coilB, xD, arity, dOk, pOk]
        all_goals (clear e h hl hq; grind)
      · obtain ⟨⟨ak, an, ap⟩, ⟨bk, bn, bp⟩, rfl⟩ := list_two (by rw [hq]; rfl)
        have a0 := h.at0 (x := ⟨ak, an, ap⟩) rfl
        have a1 := h.at1 (x := ⟨bk, bn, bp⟩) rfl
        have iwa : isWhl ⟨ak, an, ap⟩ = true → devOk ak an ap = true := isWhl_ok
        have ira : isRl ⟨ak, an, ap⟩ = true → devOk ak an ap = true := isRl_ok
        have iwb : isWhl ⟨bk, bn, bp⟩ = true → devOk bk bn bp = true := isWhl_ok
        have irb : isRl ⟨bk, bn, bp⟩ = true → devOk bk bn bp = true := isRl_ok
        rw [e]
        simp (maxSteps := 4000000) -dsimp [-List.all_eq_true, -Array.all_eq_true, -Bool.exists_bool, -Bool.forall_bool, vcsE1, vcsE2, vcsE3, vcsE4, vcsE5, vcsE6, vcsE7, vcsE8, vcsE9, vcsE10, vcsE11, vcsE12, vcsE13, vcsE14, vcsE15, vcsE16, vcsE17, vcsE18, vcsE19, Sx.get, Sx.look, Sx.put, pureFn, findOrd, unF, dstOk, isFloatT, endVC, resFn, packC, newFn, storeFn, buildFn, undef, known, aggT, cellsC, Value.cells, findCon, Con.pure, Con.some, allV, partsV, partsC, fillL, Sx.exitTo, fAr, C.one, Value.oneCell', eqFn, eqFieldsFn, eqElemsFn, partFn, and_assoc, List.zipIdx, sliceFn, boundFn, AppV, CopyV, MakeSliceV, NewsV, GrowV, TextV, bytesL, notInt, typeAt, argAt, Con.read, Con.make, Con.ext, Con.rel, den, Con.extS, Con.draw, Con.step, Draws.steps, Try.f50, sArityC, l4KindC, sIsWhlC, sIsRlC, l4CalcC, a0.there, a0.all, a1.there, a1.all, a1.k, a1.n, coilB, xD, arity, dOk, pOk]
        all_goals (clear e h hl hq; grind)
      · obtain ⟨⟨ak, an, ap⟩, ⟨bk, bn, bp⟩, rfl⟩ := list_two (by rw [hq]; rfl)
        have a0 := h.at0 (x := ⟨ak, an, ap⟩) rfl
        have a1 := h.at1 (x := ⟨bk, bn, bp⟩) rfl
        have iwa : isWhl ⟨ak, an, ap⟩ = true → devOk ak an ap = true := isWhl_ok
        have ira : isRl ⟨ak, an, ap⟩ = true → devOk ak an ap = true := isRl_ok
        have iwb : isWhl ⟨bk, bn, bp⟩ = true → devOk bk bn bp = true := isWhl_ok
        have irb : isRl ⟨bk, bn, bp⟩ = true → devOk bk bn bp = true := isRl_ok
        rw [e]
        simp (maxSteps := 4000000) -dsimp [-List.all_eq_true, -Array.all_eq_true, -Bool.exists_bool, -Bool.forall_bool, vcsE1, vcsE2, vcsE3, vcsE4, vcsE5, vcsE6, vcsE7, vcsE8, vcsE9, vcsE10, vcsE11, vcsE12, vcsE13, vcsE14, vcsE15, vcsE16, vcsE17, vcsE18, vcsE19, Sx.get, Sx.look, Sx.put, pureFn, findOrd, unF, dstOk, isFloatT, endVC, resFn, packC, newFn, storeFn, buildFn, undef, known, aggT, cellsC, Value.cells, findCon, Con.pure, Con.some, allV, partsV, partsC, fillL, Sx.exitTo, fAr, C.one, Value.oneCell', eqFn, eqFieldsFn, eqElemsFn, partFn, and_assoc, List.zipIdx, sliceFn, boundFn, AppV, CopyV, MakeSliceV, NewsV, GrowV, TextV, bytesL, notInt, typeAt, argAt, Con.read, Con.make, Con.ext, Con.rel, den, Con.extS, Con.draw, Con.step, Draws.steps, Try.f50, sArityC, l4KindC, sIsWhlC, sIsRlC, l4CalcC, a0.there, a0.all, a1.there, a1.all, a1.k, a1.n, coilB, xD, arity, dOk, pOk]
        all_goals (clear e h hl hq; grind)
      · obtain ⟨⟨ak, an, ap⟩, ⟨bk, bn, bp⟩, ⟨ck, cn, cp⟩, rfl⟩ := list_three (by rw [hq]; rfl)
        have a0 := h.at0 (x := ⟨ak, an, ap⟩) rfl
        have a1 := h.at1 (x := ⟨bk, bn, bp⟩) rfl
        have a2 := h.at2 (x := ⟨ck, cn, cp⟩) rfl
        have y := fun d mem K => l4CalcC_rw (op := 31) (cap := cap) (d := d) (cx := ⟨w, [], w, []⟩) (mem := mem) (K := K) ⟨h.mono (sub_now _ _), by simp, by simp⟩
        simp only [List.length_cons, List.length_nil, Nat.zero_add, Nat.reduceAdd] at y
        have iwa : isWhl ⟨ak, an, ap⟩ = true → devOk ak an ap = true := isWhl_ok
        have ira : isRl ⟨ak, an, ap⟩ = true → devOk ak an ap = true := isRl_ok
        have iwb : isWhl ⟨bk, bn, bp⟩ = true → devOk bk bn bp = true := isWhl_ok
        have irb : isRl ⟨bk, bn, bp⟩ = true → devOk bk bn bp = true := isRl_ok
        have iwc : isWhl ⟨ck, cn, cp⟩ = true → devOk ck cn cp = true := isWhl_ok
        have irc : isRl ⟨ck, cn, cp⟩ = true → devOk ck cn cp = true := isRl_ok
        rw [e]
        simp (maxSteps := 4000000) -dsimp [-List.all_eq_true, -Array.all_eq_true, -Bool.exists_bool, -Bool.forall_bool, vcsE1, vcsE2, vcsE3, vcsE4, vcsE5, vcsE6, vcsE7, vcsE8, vcsE9, vcsE10, vcsE11, vcsE12, vcsE13, vcsE14, vcsE15, vcsE16, vcsE17, vcsE18, vcsE19, Sx.get, Sx.look, Sx.put, pureFn, findOrd, unF, dstOk, isFloatT, endVC, resFn, packC, newFn, storeFn, buildFn, undef, known, aggT, cellsC, Value.cells, findCon, Con.pure, Con.some, allV, partsV, partsC, fillL, Sx.exitTo, fAr, C.one, Value.oneCell', eqFn, eqFieldsFn, eqElemsFn, partFn, and_assoc, List.zipIdx, sliceFn, boundFn, AppV, CopyV, MakeSliceV, NewsV, GrowV, TextV, bytesL, notInt, typeAt, argAt, Con.read, Con.make, Con.ext, Con.rel, den, Con.extS, Con.draw, Con.step, Draws.steps, Try.f50, sArityC, l4KindC, sIsWhlC, sIsRlC, l4CalcC, a0.there, a0.all, a1.there, a1.all, a1.k, a1.n, a2.there, a2.all, a2.k, a2.n, y, calcB, calcG, coilB, xD, arity, dOk, pOk]
        all_goals (clear e h hl hq; grind)
      · obtain ⟨⟨ak, an, ap⟩, ⟨bk, bn, bp⟩, ⟨ck, cn, cp⟩, rfl⟩ := list_three (by rw [hq]; rfl)
        have a0 := h.at0 (x := ⟨ak, an, ap⟩) rfl
        have a1 := h.at1 (x := ⟨bk, bn, bp⟩) rfl
        have a2 := h.at2 (x := ⟨ck, cn, cp⟩) rfl
        have y := fun d mem K => l4CalcC_rw (op := 32) (cap := cap) (d := d) (cx := ⟨w, [], w, []⟩) (mem := mem) (K := K) ⟨h.mono (sub_now _ _), by simp, by simp⟩
        simp only [List.length_cons, List.length_nil, Nat.zero_add, Nat.reduceAdd] at y
        have iwa : isWhl ⟨ak, an, ap⟩ = true → devOk ak an ap = true := isWhl_ok
        have ira : isRl ⟨ak, an, ap⟩ = true → devOk ak an ap = true := isRl_ok
        have iwb : isWhl ⟨bk, bn, bp⟩ = true → devOk bk bn bp = true := isWhl_ok
        have irb : isRl ⟨bk, bn, bp⟩ = true → devOk bk bn bp = true := isRl_ok
        have iwc : isWhl ⟨ck, cn, cp⟩ = true → devOk ck cn cp = true := isWhl_ok
        have irc : isRl ⟨ck, cn, cp⟩ = true → devOk ck cn cp = true := isRl_ok
        rw [e]
        simp (maxSteps := 4000000) -dsimp [-List.all_eq_true, -Array.all_eq_true, -Bool.exists_bool, -Bool.forall_bool, vcsE1, vcsE2, vcsE3, vcsE4, vcsE5, vcsE6, vcsE7, vcsE8, vcsE9, vcsE10, vcsE11, vcsE12, vcsE13, vcsE14, vcsE15, vcsE16, vcsE17, vcsE18, vcsE19, Sx.get, Sx.look, Sx.put, pureFn, findOrd, unF, dstOk, isFloatT, endVC, resFn, packC, newFn, storeFn, buildFn, undef, known, aggT, cellsC, Value.cells, findCon, Con.pure, Con.some, allV, partsV, partsC, fillL, Sx.exitTo, fAr, C.one, Value.oneCell', eqFn, eqFieldsFn, eqElemsFn, partFn, and_assoc, List.zipIdx, sliceFn, boundFn, AppV, CopyV, MakeSliceV, NewsV, GrowV, TextV, bytesL, notInt, typeAt, argAt, Con.read, Con.make, Con.ext, Con.rel, den, Con.extS, Con.draw, Con.step, Draws.steps, Try.f50, sArityC, l4KindC, sIsWhlC, sIsRlC, l4CalcC, a0.there, a0.all, a1.there, a1.all, a1.k, a1.n, a2.there, a2.all, a2.k, a2.n, y, calcB, calcG, coilB, xD, arity, dOk, pOk]
        all_goals (clear e h hl hq; grind)
      · obtain ⟨⟨ak, an, ap⟩, ⟨bk, bn, bp⟩, ⟨ck, cn, cp⟩, rfl⟩ := list_three (by rw [hq]; rfl)
        have a0 := h.at0 (x := ⟨ak, an, ap⟩) rfl
        have a1 := h.at1 (x := ⟨bk, bn, bp⟩) rfl
        have a2 := h.at2 (x := ⟨ck, cn, cp⟩) rfl
        have y := fun d mem K => l4CalcC_rw (op := 33) (cap := cap) (d := d) (cx := ⟨w, [], w, []⟩) (mem := mem) (K := K) ⟨h.mono (sub_now _ _), by simp, by simp⟩
        simp only [List.length_cons, List.length_nil, Nat.zero_add, Nat.reduceAdd] at y
        have iwa : isWhl ⟨ak, an, ap⟩ = true → devOk ak an ap = true := isWhl_ok
        have ira : isRl ⟨ak, an, ap⟩ = true → devOk ak an ap = true := isRl_ok
        have iwb : isWhl ⟨bk, bn, bp⟩ = true → devOk bk bn bp = true := isWhl_ok
        have irb : isRl ⟨bk, bn, bp⟩ = true → devOk bk bn bp = true := isRl_ok
        have iwc : isWhl ⟨ck, cn, cp⟩ = true → devOk ck cn cp = true := isWhl_ok
        have irc : isRl ⟨ck, cn, cp⟩ = true → devOk ck cn cp = true := isRl_ok
        rw [e]
        simp (maxSteps := 4000000) -dsimp [-List.all_eq_true, -Array.all_eq_true, -Bool.exists_bool, -Bool.forall_bool, vcsE1, vcsE2, vcsE3, vcsE4, vcsE5, vcsE6, vcsE7, vcsE8, vcsE9, vcsE10, vcsE11, vcsE12, vcsE13, vcsE14, vcsE15, vcsE16, vcsE17, vcsE18, vcsE19, Sx.get, Sx.look, Sx.put, pureFn, findOrd, unF, dstOk, isFloatT, endVC, resFn, packC, newFn, storeFn, buildFn, undef, known, aggT, cellsC, Value.cells, findCon, Con.pure, Con.some, allV, partsV, partsC, fillL, Sx.exitTo, fAr, C.one, Value.oneCell', eqFn, eqFieldsFn, eqElemsFn, partFn, and_assoc, List.zipIdx, sliceFn, boundFn, AppV, CopyV, MakeSliceV, NewsV, GrowV, TextV, bytesL, notInt, typeAt, argAt, Con.read, Con.make, Con.ext, Con.rel, den, Con.extS, Con.draw, Con.step, Draws.steps, Try.f50, sArityC, l4KindC, sIsWhlC, sIsRlC, l4CalcC, a0.there, a0.all, a1.there, a1.all, a1.k, a1.n, a2.there, a2.all, a2.k, a2.n, y, calcB, calcG, coilB, xD, arity, dOk, pOk]
        all_goals (clear e h hl hq; grind)
      · obtain ⟨⟨ak, an, ap⟩, ⟨bk, bn, bp⟩, ⟨ck, cn, cp⟩, rfl⟩ := list_three (by rw [hq]; rfl)
        have a0 := h.at0 (x := ⟨ak, an, ap⟩) rfl
        have a1 := h.at1 (x := ⟨bk, bn, bp⟩) rfl
        have a2 := h.at2 (x := ⟨ck, cn, cp⟩) rfl
        have y := fun d mem K => l4CalcC_rw (op := 34) (cap := cap) (d := d) (cx := ⟨w, [], w, []⟩) (mem := mem) (K := K) ⟨h.mono (sub_now _ _), by simp, by simp⟩
        simp only [List.length_cons, List.length_nil, Nat.zero_add, Nat.reduceAdd] at y
        have iwa : isWhl ⟨ak, an, ap⟩ = true → devOk ak an ap = true := isWhl_ok
        have ira : isRl ⟨ak, an, ap⟩ = true → devOk ak an ap = true := isRl_ok
        have iwb : isWhl ⟨bk, bn, bp⟩ = true → devOk bk bn bp = true := isWhl_ok
        have irb : isRl ⟨bk, bn, bp⟩ = true → devOk bk bn bp = true := isRl_ok
        have iwc : isWhl ⟨ck, cn, cp⟩ = true → devOk ck cn cp = true := isWhl_ok
        have irc : isRl ⟨ck, cn, cp⟩ = true → devOk ck cn cp = true := isRl_ok
        rw [e]
        simp (maxSteps := 4000000) -dsimp [-List.all_eq_true, -Array.all_eq_true, -Bool.exists_bool, -Bool.forall_bool, vcsE1, vcsE2, vcsE3, vcsE4, vcsE5, vcsE6, vcsE7, vcsE8, vcsE9, vcsE10, vcsE11, vcsE12, vcsE13, vcsE14, vcsE15, vcsE16, vcsE17, vcsE18, vcsE19, Sx.get, Sx.look, Sx.put, pureFn, findOrd, unF, dstOk, isFloatT, endVC, resFn, packC, newFn, storeFn, buildFn, undef, known, aggT, cellsC, Value.cells, findCon, Con.pure, Con.some, allV, partsV, partsC, fillL, Sx.exitTo, fAr, C.one, Value.oneCell', eqFn, eqFieldsFn, eqElemsFn, partFn, and_assoc, List.zipIdx, sliceFn, boundFn, AppV, CopyV, MakeSliceV, NewsV, GrowV, TextV, bytesL, notInt, typeAt, argAt, Con.read, Con.make, Con.ext, Con.rel, den, Con.extS, Con.draw, Con.step, Draws.steps, Try.f50, sArityC, l4KindC, sIsWhlC, sIsRlC, l4CalcC, a0.there, a0.all, a1.there, a1.all, a1.k, a1.n, a2.there, a2.all, a2.k, a2.n, y, calcB, calcG, coilB, xD, arity, dOk, pOk]
        all_goals (clear e h hl hq; grind)
      · obtain ⟨⟨ak, an, ap⟩, ⟨bk, bn, bp⟩, ⟨ck, cn, cp⟩, rfl⟩ := list_three (by rw [hq]; rfl)
        have a0 := h.at0 (x := ⟨ak, an, ap⟩) rfl
        have a1 := h.at1 (x := ⟨bk, bn, bp⟩) rfl
        have a2 := h.at2 (x := ⟨ck, cn, cp⟩) rfl
        have y := fun d mem K => l4CalcC_rw (op := 35) (cap := cap) (d := d) (cx := ⟨w, [], w, []⟩) (mem := mem) (K := K) ⟨h.mono (sub_now _ _), by simp, by simp⟩
        simp only [List.length_cons, List.length_nil, Nat.zero_add, Nat.reduceAdd] at y
        have iwa : isWhl ⟨ak, an, ap⟩ = true → devOk ak an ap = true := isWhl_ok
        have ira : isRl ⟨ak, an, ap⟩ = true → devOk ak an ap = true := isRl_ok
        have iwb : isWhl ⟨bk, bn, bp⟩ = true → devOk bk bn bp = true := isWhl_ok
        have irb : isRl ⟨bk, bn, bp⟩ = true → devOk bk bn bp = true := isRl_ok
        have iwc : isWhl ⟨ck, cn, cp⟩ = true → devOk ck cn cp = true := isWhl_ok
        have irc : isRl ⟨ck, cn, cp⟩ = true → devOk ck cn cp = true := isRl_ok
        rw [e]
        simp (maxSteps := 4000000) -dsimp [-List.all_eq_true, -Array.all_eq_true, -Bool.exists_bool, -Bool.forall_bool, vcsE1, vcsE2, vcsE3, vcsE4, vcsE5, vcsE6, vcsE7, vcsE8, vcsE9, vcsE10, vcsE11, vcsE12, vcsE13, vcsE14, vcsE15, vcsE16, vcsE17, vcsE18, vcsE19, Sx.get, Sx.look, Sx.put, pureFn, findOrd, unF, dstOk, isFloatT, endVC, resFn, packC, newFn, storeFn, buildFn, undef, known, aggT, cellsC, Value.cells, findCon, Con.pure, Con.some, allV, partsV, partsC, fillL, Sx.exitTo, fAr, C.one, Value.oneCell', eqFn, eqFieldsFn, eqElemsFn, partFn, and_assoc, List.zipIdx, sliceFn, boundFn, AppV, CopyV, MakeSliceV, NewsV, GrowV, TextV, bytesL, notInt, typeAt, argAt, Con.read, Con.make, Con.ext, Con.rel, den, Con.extS, Con.draw, Con.step, Draws.steps, Try.f50, sArityC, l4KindC, sIsWhlC, sIsRlC, l4CalcC, a0.there, a0.all, a1.there, a1.all, a1.k, a1.n, a2.there, a2.all, a2.k, a2.n, y, calcB, calcG, coilB, xD, arity, dOk, pOk]
        all_goals (clear e h hl hq; grind)
    · have hq' : ¬ arity op = xs.length := fun h => hq h.symm
      simp only [hq, decide_false, Bool.false_and, Bool.and_false] at e
      simp (maxSteps := 4000000) -dsimp [-List.all_eq_true, -Array.all_eq_true, -Bool.exists_bool, -Bool.forall_bool, vcsE1, vcsE2, vcsE3, vcsE4, vcsE5, vcsE6, vcsE7, vcsE8, vcsE9, vcsE10, vcsE11, vcsE12, vcsE13, vcsE14, vcsE15, vcsE16, vcsE17, vcsE18, vcsE19, Sx.get, Sx.look, Sx.put, pureFn, findOrd, unF, dstOk, isFloatT, endVC, resFn, packC, newFn, storeFn, buildFn, undef, known, aggT, cellsC, Value.cells, findCon, Con.pure, Con.some, allV, partsV, partsC, fillL, Sx.exitTo, fAr, C.one, Value.oneCell', eqFn, eqFieldsFn, eqElemsFn, partFn, and_assoc, List.zipIdx, sliceFn, boundFn, AppV, CopyV, MakeSliceV, NewsV, GrowV, TextV, bytesL, notInt, typeAt, argAt, Con.read, Con.make, Con.ext, Con.rel, den, Con.extS, Con.draw, Con.step, Draws.steps, Try.f50, sArityC, l4KindC, sIsWhlC, sIsRlC, l4CalcC, e, h1, hq, hq']
  · simp only [h1, decide_false, Bool.false_and] at e
    by_cases h2 : 21 ≤ op
    · have h3 : ¬ op ≤ 37 := by omega
      have h4 : 37 < op := by omega
      simp (maxSteps := 4000000) -dsimp [-List.all_eq_true, -Array.all_eq_true, -Bool.exists_bool, -Bool.forall_bool, vcsE1, vcsE2, vcsE3, vcsE4, vcsE5, vcsE6, vcsE7, vcsE8, vcsE9, vcsE10, vcsE11, vcsE12, vcsE13, vcsE14, vcsE15, vcsE16, vcsE17, vcsE18, vcsE19, Sx.get, Sx.look, Sx.put, pureFn, findOrd, unF, dstOk, isFloatT, endVC, resFn, packC, newFn, storeFn, buildFn, undef, known, aggT, cellsC, Value.cells, findCon, Con.pure, Con.some, allV, partsV, partsC, fillL, Sx.exitTo, fAr, C.one, Value.oneCell', eqFn, eqFieldsFn, eqElemsFn, partFn, and_assoc, List.zipIdx, sliceFn, boundFn, AppV, CopyV, MakeSliceV, NewsV, GrowV, TextV, bytesL, notInt, typeAt, argAt, Con.read, Con.make, Con.ext, Con.rel, den, Con.extS, Con.draw, Con.step, Draws.steps, Try.f50, sArityC, l4KindC, sIsWhlC, sIsRlC, l4CalcC, e, h2, h3, h4]
    · have h3 : op < 21 := by omega
      simp (maxSteps := 4000000) -dsimp [-List.all_eq_true, -Array.all_eq_true, -Bool.exists_bool, -Bool.forall_bool, vcsE1, vcsE2, vcsE3, vcsE4, vcsE5, vcsE6, vcsE7, vcsE8, vcsE9, vcsE10, vcsE11, vcsE12, vcsE13, vcsE14, vcsE15, vcsE16, vcsE17, vcsE18, vcsE19, Sx.get, Sx.look, Sx.put, pureFn, findOrd, unF, dstOk, isFloatT, endVC, resFn, packC, newFn, storeFn, buildFn, undef, known, aggT, cellsC, Value.cells, findCon, Con.pure, Con.some, allV, partsV, partsC, fillL, Sx.exitTo, fAr, C.one, Value.oneCell', eqFn, eqFieldsFn, eqElemsFn, partFn, and_assoc, List.zipIdx, sliceFn, boundFn, AppV, CopyV, MakeSliceV, NewsV, GrowV, TextV, bytesL, notInt, typeAt, argAt, Con.read, Con.make, Con.ext, Con.rel, den, Con.extS, Con.draw, Con.step, Draws.steps, Try.f50, sArityC, l4KindC, sIsWhlC, sIsRlC, l4CalcC, e, h2, h3]
def sCoilC_S : Reads Try.prog 50 where
  ι := ((Int) × (Option Addr) × (Nat) × (List Dev))
  A := fun (i : ((Int) × (Option Addr) × (Nat) × (List Dev))) => match i with | (op, o, cap, xs) => [.agg #[.int .i64 op, .slice o xs.length cap]]
  pre := fun (i : ((Int) × (Option Addr) × (Nat) × (List Dev))) (F : Facts) => match i with | (op, o, cap, xs) => RdD F o xs ∧ xs.length ≤ 1048576
  res := fun (i : ((Int) × (Option Addr) × (Nat) × (List Dev))) => match i with | (op, o, cap, xs) => .bool (coilOk op xs)
  mono := by
    intro i F G hs h
    first | exact h | exact h.mono hs | exact ⟨h.1.mono hs, h.2⟩ | exact ⟨h.1.mono hs, h.2.1.mono hs, h.2.2⟩ | exact ⟨h.1.mono hs, h.2.1.mono hs⟩
  uniq := by
    rintro ⟨op, o, cap, xs⟩ ⟨op', o', cap', xs'⟩ F hA h h'
    simp at hA
    (try simp only [Int.natCast_inj] at hA)
    obtain rfl : xs = xs' := RdD.uniq h.1 h'.1 (by simp_all) (by simp_all)
    simp_all
  enter := Try.call50
  h := fun i w hp => sCoilC_c i.1 i.2.1 i.2.2.1 i.2.2.2 w (by rw [factF_init]; exact hp)
def sCoilC : Con Try.prog := Con.read sCoilC_S
theorem sCoilC_rw {op : Int} {o : Option Addr} {cap : Nat} {xs : List Dev} {d : Nat} {cx : Cx} {mem : List Blk} {K : C → Prop} (hpre : RdD (nowF cx mem) o xs ∧ xs.length ≤ 1048576) : ReadV d sCoilC_S cx [.v (.agg #[.int .i64 op, .slice o xs.length cap])] mem K = K (.v (.bool (coilOk op xs))) := sCoilC_S.eq (op, o, cap, xs) rfl hpre
end Go.Proofs.Ytdjjkfhholinkaa
