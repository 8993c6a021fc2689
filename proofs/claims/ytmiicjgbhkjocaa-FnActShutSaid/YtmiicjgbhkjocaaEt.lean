/-
  Contracts: which contacts, coils and instructions are ok, by the reference: the whole of them.
-/
import Derived.Test.YtmiicjgbhkjocaaEs
set_option linter.unusedVariables false
set_option linter.unusedSimpArgs false
set_option maxRecDepth 100000
set_option maxHeartbeats 4000000
namespace Go.Proofs.Ytmiicjgbhkjocaa
open Go Go.Sx

theorem isBit_ok {d : Dev} (h : isBit d = true) : dOk d = true := by unfold isBit at h; simp at h; exact h.2
theorem isWhl_ok {d : Dev} (h : isWhl d = true) : dOk d = true := by unfold isWhl at h; simp at h; exact h.2
theorem isRl_ok {d : Dev} (h : isRl d = true) : dOk d = true := by unfold isRl at h; simp at h; exact h.2
theorem sConC_c (op : Int) (o : Option Addr) (cap : Nat) (xs : List Dev) (w : World) (hpre : RdD (factF ⟨w, [], w, []⟩) o xs ∧ xs.length ≤ 1048576) : Calls Try.prog 42 #[.agg #[.int .i64 op, .slice o xs.length cap]] w fun e w' => e = .returned (.bool (conOk op xs)) ∧ RowKit.Below w.heap.size w w' := by
  refine (plain_of_vcs ⟨[sArityC, sIsBitC, sIsWhlC, sIsRlC, sDevOkC], []⟩ hmx Try.func42 rfl (by kernel_rfl) (args := [.agg #[.int .i64 op, .slice o xs.length cap]]) (by simp [Try.ntmps42]) w (· = .bool (conOk op xs)) 400 ?_).mono fun e w' ⟨v, h1, h2, h3⟩ => ⟨h2 ▸ h1, h3⟩
  obtain ⟨h, hl⟩ := hpre
  have e := conOk_eq op xs
  by_cases h1 : 1 ≤ op ∧ op ≤ 10
  · by_cases hq : (xs.length : Int) = arity op
    · simp only [h1, hq, decide_true, Bool.true_and, and_self] at e
      obtain rfl | rfl | rfl | rfl | h5 : op = 1 ∨ op = 2 ∨ op = 3 ∨ op = 4 ∨ 5 ≤ op := by omega
      · obtain ⟨⟨ak, an, ap⟩, rfl⟩ := list_one (by rw [hq]; rfl)
        have a0 := h.at0 (x := ⟨ak, an, ap⟩) rfl
        have i1 := @isBit_ok ⟨ak, an, ap⟩
        simp (maxSteps := 4000000) -dsimp [-List.all_eq_true, -Array.all_eq_true, -Bool.exists_bool, -Bool.forall_bool, vcsE1, vcsE2, vcsE3, vcsE4, vcsE5, vcsE6, vcsE7, vcsE8, vcsE9, vcsE10, vcsE11, vcsE12, vcsE13, vcsE14, vcsE15, vcsE16, vcsE17, vcsE18, vcsE19, Sx.get, Sx.look, Sx.put, pureFn, findOrd, unF, dstOk, isFloatT, endVC, resFn, packC, newFn, storeFn, buildFn, undef, known, aggT, cellsC, Value.cells, findCon, Con.pure, Con.some, allV, partsV, partsC, fillL, Sx.exitTo, fAr, C.one, Value.oneCell', eqFn, eqFieldsFn, eqElemsFn, partFn, and_assoc, List.zipIdx, sliceFn, boundFn, AppV, CopyV, MakeSliceV, NewsV, GrowV, TextV, bytesL, notInt, typeAt, argAt, Con.read, Con.make, Con.ext, Con.rel, den, Con.extS, Con.draw, Con.step, Draws.steps, Try.f42, sArityC, sIsBitC, sIsWhlC, sIsRlC, sDevOkC, e, a0.there, a0.all, conB, xD, arity]
        simpa using i1
      · obtain ⟨⟨ak, an, ap⟩, rfl⟩ := list_one (by rw [hq]; rfl)
        have a0 := h.at0 (x := ⟨ak, an, ap⟩) rfl
        have i1 := @isBit_ok ⟨ak, an, ap⟩
        simp (maxSteps := 4000000) -dsimp [-List.all_eq_true, -Array.all_eq_true, -Bool.exists_bool, -Bool.forall_bool, vcsE1, vcsE2, vcsE3, vcsE4, vcsE5, vcsE6, vcsE7, vcsE8, vcsE9, vcsE10, vcsE11, vcsE12, vcsE13, vcsE14, vcsE15, vcsE16, vcsE17, vcsE18, vcsE19, Sx.get, Sx.look, Sx.put, pureFn, findOrd, unF, dstOk, isFloatT, endVC, resFn, packC, newFn, storeFn, buildFn, undef, known, aggT, cellsC, Value.cells, findCon, Con.pure, Con.some, allV, partsV, partsC, fillL, Sx.exitTo, fAr, C.one, Value.oneCell', eqFn, eqFieldsFn, eqElemsFn, partFn, and_assoc, List.zipIdx, sliceFn, boundFn, AppV, CopyV, MakeSliceV, NewsV, GrowV, TextV, bytesL, notInt, typeAt, argAt, Con.read, Con.make, Con.ext, Con.rel, den, Con.extS, Con.draw, Con.step, Draws.steps, Try.f42, sArityC, sIsBitC, sIsWhlC, sIsRlC, sDevOkC, e, a0.there, a0.all, conB, xD, arity]
        simpa using i1
      · obtain ⟨⟨ak, an, ap⟩, ⟨bk, bn, bp⟩, rfl⟩ := list_two (by rw [hq]; rfl)
        have a0 := h.at0 (x := ⟨ak, an, ap⟩) rfl
        have a1 := h.at1 (x := ⟨bk, bn, bp⟩) rfl
        have i1 := @isBit_ok ⟨ak, an, ap⟩
        have d2 : dOk ⟨bk, bn, bp⟩ = devOk bk bn bp := rfl
        rw [e]
        simp (maxSteps := 4000000) -dsimp [-List.all_eq_true, -Array.all_eq_true, -Bool.exists_bool, -Bool.forall_bool, vcsE1, vcsE2, vcsE3, vcsE4, vcsE5, vcsE6, vcsE7, vcsE8, vcsE9, vcsE10, vcsE11, vcsE12, vcsE13, vcsE14, vcsE15, vcsE16, vcsE17, vcsE18, vcsE19, Sx.get, Sx.look, Sx.put, pureFn, findOrd, unF, dstOk, isFloatT, endVC, resFn, packC, newFn, storeFn, buildFn, undef, known, aggT, cellsC, Value.cells, findCon, Con.pure, Con.some, allV, partsV, partsC, fillL, Sx.exitTo, fAr, C.one, Value.oneCell', eqFn, eqFieldsFn, eqElemsFn, partFn, and_assoc, List.zipIdx, sliceFn, boundFn, AppV, CopyV, MakeSliceV, NewsV, GrowV, TextV, bytesL, notInt, typeAt, argAt, Con.read, Con.make, Con.ext, Con.rel, den, Con.extS, Con.draw, Con.step, Draws.steps, Try.f42, sArityC, sIsBitC, sIsWhlC, sIsRlC, sDevOkC, a0.there, a0.all, a1.there, a1.all, a1.k, conB, xD, arity, d2]
        generalize isBit ⟨ak, an, ap⟩ = u at *
        generalize dOk ⟨ak, an, ap⟩ = u1 at *
        generalize devOk bk bn bp = u2 at *
        clear e
        cases u <;> cases u1 <;> cases u2 <;> simp_all
        exact Bool.eq_iff_iff.mpr (by simp)
      · obtain ⟨⟨ak, an, ap⟩, ⟨bk, bn, bp⟩, rfl⟩ := list_two (by rw [hq]; rfl)
        have a0 := h.at0 (x := ⟨ak, an, ap⟩) rfl
        have a1 := h.at1 (x := ⟨bk, bn, bp⟩) rfl
        have i1 := @isBit_ok ⟨ak, an, ap⟩
        have d2 : dOk ⟨bk, bn, bp⟩ = devOk bk bn bp := rfl
        rw [e]
        simp (maxSteps := 4000000) -dsimp [-List.all_eq_true, -Array.all_eq_true, -Bool.exists_bool, -Bool.forall_bool, vcsE1, vcsE2, vcsE3, vcsE4, vcsE5, vcsE6, vcsE7, vcsE8, vcsE9, vcsE10, vcsE11, vcsE12, vcsE13, vcsE14, vcsE15, vcsE16, vcsE17, vcsE18, vcsE19, Sx.get, Sx.look, Sx.put, pureFn, findOrd, unF, dstOk, isFloatT, endVC, resFn, packC, newFn, storeFn, buildFn, undef, known, aggT, cellsC, Value.cells, findCon, Con.pure, Con.some, allV, partsV, partsC, fillL, Sx.exitTo, fAr, C.one, Value.oneCell', eqFn, eqFieldsFn, eqElemsFn, partFn, and_assoc, List.zipIdx, sliceFn, boundFn, AppV, CopyV, MakeSliceV, NewsV, GrowV, TextV, bytesL, notInt, typeAt, argAt, Con.read, Con.make, Con.ext, Con.rel, den, Con.extS, Con.draw, Con.step, Draws.steps, Try.f42, sArityC, sIsBitC, sIsWhlC, sIsRlC, sDevOkC, a0.there, a0.all, a1.there, a1.all, a1.k, conB, xD, arity, d2]
        generalize isBit ⟨ak, an, ap⟩ = u at *
        generalize dOk ⟨ak, an, ap⟩ = u1 at *
        generalize devOk bk bn bp = u2 at *
        clear e
        cases u <;> cases u1 <;> cases u2 <;> simp_all
        exact Bool.eq_iff_iff.mpr (by simp)
      · obtain ⟨⟨ak, an, ap⟩, ⟨bk, bn, bp⟩, rfl⟩ := list_two (by rw [hq]; unfold arity; rw [if_neg (by omega), if_neg (by omega), if_pos (by omega)])
        have a0 := h.at0 (x := ⟨ak, an, ap⟩) rfl
        have a1 := h.at1 (x := ⟨bk, bn, bp⟩) rfl
        have i1 := @isWhl_ok ⟨ak, an, ap⟩
        have i2 := @isWhl_ok ⟨bk, bn, bp⟩
        have i3 := @isRl_ok ⟨ak, an, ap⟩
        have i4 := @isRl_ok ⟨bk, bn, bp⟩
        have n1 : ¬ op < 1 ∧ ¬ 10 < op ∧ ¬ op ≤ 2 ∧ ¬ op ≤ 4 := by omega
        have hq2 : arity op = 2 := by rw [← hq]; rfl
        rw [e]
        simp (maxSteps := 4000000) -dsimp [-List.all_eq_true, -Array.all_eq_true, -Bool.exists_bool, -Bool.forall_bool, vcsE1, vcsE2, vcsE3, vcsE4, vcsE5, vcsE6, vcsE7, vcsE8, vcsE9, vcsE10, vcsE11, vcsE12, vcsE13, vcsE14, vcsE15, vcsE16, vcsE17, vcsE18, vcsE19, Sx.get, Sx.look, Sx.put, pureFn, findOrd, unF, dstOk, isFloatT, endVC, resFn, packC, newFn, storeFn, buildFn, undef, known, aggT, cellsC, Value.cells, findCon, Con.pure, Con.some, allV, partsV, partsC, fillL, Sx.exitTo, fAr, C.one, Value.oneCell', eqFn, eqFieldsFn, eqElemsFn, partFn, and_assoc, List.zipIdx, sliceFn, boundFn, AppV, CopyV, MakeSliceV, NewsV, GrowV, TextV, bytesL, notInt, typeAt, argAt, Con.read, Con.make, Con.ext, Con.rel, den, Con.extS, Con.draw, Con.step, Draws.steps, Try.f42, sArityC, sIsBitC, sIsWhlC, sIsRlC, sDevOkC, a0.there, a0.all, a1.there, a1.all, conB, xD, hq2, n1, bothB]
        clear e
        generalize isWhl ⟨ak, an, ap⟩ = u1 at *
        generalize isWhl ⟨bk, bn, bp⟩ = u2 at *
        generalize isRl ⟨ak, an, ap⟩ = u3 at *
        generalize isRl ⟨bk, bn, bp⟩ = u4 at *
        generalize dOk ⟨ak, an, ap⟩ = u5 at *
        generalize dOk ⟨bk, bn, bp⟩ = u6 at *
        cases u1 <;> cases u2 <;> cases u3 <;> cases u4 <;> cases u5 <;> cases u6 <;> simp_all
    · have hq' : ¬ arity op = xs.length := fun h => hq h.symm
      simp only [hq, decide_false, Bool.false_and, Bool.and_false] at e
      simp (maxSteps := 4000000) -dsimp [-List.all_eq_true, -Array.all_eq_true, -Bool.exists_bool, -Bool.forall_bool, vcsE1, vcsE2, vcsE3, vcsE4, vcsE5, vcsE6, vcsE7, vcsE8, vcsE9, vcsE10, vcsE11, vcsE12, vcsE13, vcsE14, vcsE15, vcsE16, vcsE17, vcsE18, vcsE19, Sx.get, Sx.look, Sx.put, pureFn, findOrd, unF, dstOk, isFloatT, endVC, resFn, packC, newFn, storeFn, buildFn, undef, known, aggT, cellsC, Value.cells, findCon, Con.pure, Con.some, allV, partsV, partsC, fillL, Sx.exitTo, fAr, C.one, Value.oneCell', eqFn, eqFieldsFn, eqElemsFn, partFn, and_assoc, List.zipIdx, sliceFn, boundFn, AppV, CopyV, MakeSliceV, NewsV, GrowV, TextV, bytesL, notInt, typeAt, argAt, Con.read, Con.make, Con.ext, Con.rel, den, Con.extS, Con.draw, Con.step, Draws.steps, Try.f42, sArityC, sIsBitC, sIsWhlC, sIsRlC, sDevOkC, e, h1, hq, hq']
  · simp only [h1, decide_false, Bool.false_and] at e
    by_cases h2 : 1 ≤ op
    · have h3 : ¬ op ≤ 10 := by omega
      have h4 : 10 < op := by omega
      simp (maxSteps := 4000000) -dsimp [-List.all_eq_true, -Array.all_eq_true, -Bool.exists_bool, -Bool.forall_bool, vcsE1, vcsE2, vcsE3, vcsE4, vcsE5, vcsE6, vcsE7, vcsE8, vcsE9, vcsE10, vcsE11, vcsE12, vcsE13, vcsE14, vcsE15, vcsE16, vcsE17, vcsE18, vcsE19, Sx.get, Sx.look, Sx.put, pureFn, findOrd, unF, dstOk, isFloatT, endVC, resFn, packC, newFn, storeFn, buildFn, undef, known, aggT, cellsC, Value.cells, findCon, Con.pure, Con.some, allV, partsV, partsC, fillL, Sx.exitTo, fAr, C.one, Value.oneCell', eqFn, eqFieldsFn, eqElemsFn, partFn, and_assoc, List.zipIdx, sliceFn, boundFn, AppV, CopyV, MakeSliceV, NewsV, GrowV, TextV, bytesL, notInt, typeAt, argAt, Con.read, Con.make, Con.ext, Con.rel, den, Con.extS, Con.draw, Con.step, Draws.steps, Try.f42, sArityC, sIsBitC, sIsWhlC, sIsRlC, sDevOkC, e, h2, h3, h4]
    · have h3 : op < 1 := by omega
      simp (maxSteps := 4000000) -dsimp [-List.all_eq_true, -Array.all_eq_true, -Bool.exists_bool, -Bool.forall_bool, vcsE1, vcsE2, vcsE3, vcsE4, vcsE5, vcsE6, vcsE7, vcsE8, vcsE9, vcsE10, vcsE11, vcsE12, vcsE13, vcsE14, vcsE15, vcsE16, vcsE17, vcsE18, vcsE19, Sx.get, Sx.look, Sx.put, pureFn, findOrd, unF, dstOk, isFloatT, endVC, resFn, packC, newFn, storeFn, buildFn, undef, known, aggT, cellsC, Value.cells, findCon, Con.pure, Con.some, allV, partsV, partsC, fillL, Sx.exitTo, fAr, C.one, Value.oneCell', eqFn, eqFieldsFn, eqElemsFn, partFn, and_assoc, List.zipIdx, sliceFn, boundFn, AppV, CopyV, MakeSliceV, NewsV, GrowV, TextV, bytesL, notInt, typeAt, argAt, Con.read, Con.make, Con.ext, Con.rel, den, Con.extS, Con.draw, Con.step, Draws.steps, Try.f42, sArityC, sIsBitC, sIsWhlC, sIsRlC, sDevOkC, e, h2, h3]
def sConC_S : Reads Try.prog 42 where
  ι := ((Int) × (Option Addr) × (Nat) × (List Dev))
  A := fun (i : ((Int) × (Option Addr) × (Nat) × (List Dev))) => match i with | (op, o, cap, xs) => [.agg #[.int .i64 op, .slice o xs.length cap]]
  pre := fun (i : ((Int) × (Option Addr) × (Nat) × (List Dev))) (F : Facts) => match i with | (op, o, cap, xs) => RdD F o xs ∧ xs.length ≤ 1048576
  res := fun (i : ((Int) × (Option Addr) × (Nat) × (List Dev))) => match i with | (op, o, cap, xs) => .bool (conOk op xs)
  mono := by
    intro i F G hs h
    first | exact h | exact h.mono hs | exact ⟨h.1.mono hs, h.2⟩ | exact ⟨h.1.mono hs, h.2.1.mono hs, h.2.2⟩ | exact ⟨h.1.mono hs, h.2.1.mono hs⟩
  uniq := by
    rintro ⟨op, o, cap, xs⟩ ⟨op', o', cap', xs'⟩ F hA h h'
    simp at hA
    (try simp only [Int.natCast_inj] at hA)
    obtain rfl : xs = xs' := RdD.uniq h.1 h'.1 (by simp_all) (by simp_all)
    simp_all
  enter := Try.call42
  h := fun i w hp => sConC_c i.1 i.2.1 i.2.2.1 i.2.2.2 w (by rw [factF_init]; exact hp)
def sConC : Con Try.prog := Con.read sConC_S
theorem sConC_rw {op : Int} {o : Option Addr} {cap : Nat} {xs : List Dev} {d : Nat} {cx : Cx} {mem : List Blk} {K : C → Prop} (hpre : RdD (nowF cx mem) o xs ∧ xs.length ≤ 1048576) : ReadV d sConC_S cx [.v (.agg #[.int .i64 op, .slice o xs.length cap])] mem K = K (.v (.bool (conOk op xs))) := sConC_S.eq (op, o, cap, xs) rfl hpre
end Go.Proofs.Ytmiicjgbhkjocaa
