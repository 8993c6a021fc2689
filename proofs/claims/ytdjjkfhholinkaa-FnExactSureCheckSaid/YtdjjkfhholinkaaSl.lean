/-
  The law of SurePeak, walked.
-/
import Derived.Test.YtdjjkfhholinkaaSi
import Derived.Test.YtdjjkfhholinkaaSs
set_option linter.unusedVariables false
set_option linter.unusedSimpArgs false
set_option maxRecDepth 100000
set_option maxHeartbeats 4000000
namespace Go.Proofs.Ytdjjkfhholinkaa
open Go Go.Sx

theorem eqSureStateC_c (a b : Int) (w : World) : Calls Try.prog 20 #[.agg #[.int .i64 a, .int .i64 b], .agg #[.int .i64 a, .int .i64 b]] w fun e w' => e = .returned (.bool true) ∧ RowKit.Below w.heap.size w w' := by
  refine (plain_of_vcs ⟨[], []⟩ hmx Try.func20 rfl (by kernel_rfl) (args := [.agg #[.int .i64 a, .int .i64 b], .agg #[.int .i64 a, .int .i64 b]]) (by simp [Try.ntmps20]) w (· = .bool true) 400 ?_).mono fun e w' ⟨v, h1, h2, h3⟩ => ⟨h2 ▸ h1, h3⟩
  simp (maxSteps := 4000000) -dsimp [-List.all_eq_true, -Array.all_eq_true, -Bool.exists_bool, -Bool.forall_bool, vcsE1, vcsE2, vcsE3, vcsE4, vcsE5, vcsE6, vcsE7, vcsE8, vcsE9, vcsE10, vcsE11, vcsE12, vcsE13, vcsE14, vcsE15, vcsE16, vcsE17, vcsE18, vcsE19, Sx.get, Sx.look, Sx.put, pureFn, findOrd, unF, dstOk, isFloatT, endVC, resFn, packC, newFn, storeFn, buildFn, undef, known, aggT, cellsC, Value.cells, findCon, Con.pure, Con.some, allV, partsV, partsC, fillL, Sx.exitTo, fAr, C.one, Value.oneCell', eqFn, eqFieldsFn, eqElemsFn, partFn, and_assoc, List.zipIdx, sliceFn, boundFn, AppV, CopyV, MakeSliceV, NewsV, GrowV, TextV, bytesL, notInt, typeAt, argAt, Con.read, Con.make, Con.ext, Con.rel, den, Con.extS, Con.draw, Con.step, Draws.steps, Try.f20]
def eqSureStateC : Con Try.prog := Con.pure 20 Try.call20 (fun (i : ((Int) × (Int))) => match i with | (a, b) => [.agg #[.int .i64 a, .int .i64 b], .agg #[.int .i64 a, .int .i64 b]]) (fun (i : ((Int) × (Int))) => match i with | (a, b) => True) (fun (i : ((Int) × (Int))) => match i with | (a, b) => .bool true) fun i w _ => eqSureStateC_c i.1 i.2 w
theorem lawSurePeakC_c (o : Option Addr) (cap : Nat) (xs : List Ins) (w : World) (hpre : RdN (factF ⟨w, [], w, []⟩) o xs ∧ xs.length ≤ 9223372036854775807) : Calls Try.prog 4 #[.slice o xs.length cap] w fun e w' => e = .returned (.bool true) ∧ RowKit.Below w.heap.size w w' := by
  refine (plain_of_vcs ⟨[szInstSC, toInstSC, sSurePeakC, surePeakC, eqSureStateC, eqInstSC], []⟩ hmx Try.func4 rfl (by kernel_rfl) (args := [.slice o xs.length cap]) (by simp [Try.ntmps4]) w (· = .bool true) 400 ?_).mono fun e w' ⟨v, h1, h2, h3⟩ => ⟨h2 ▸ h1, h3⟩
  obtain ⟨h, hl⟩ := hpre
  have z1 := fun d mem K => szInstSC_rw (cap := cap) (d := d) (cx := ⟨w, [], w, []⟩) (mem := mem) (K := K) (left := 1048576) ⟨h.mono (sub_now _ _), by decide, by decide, hl⟩
  by_cases hs : 0 ≤ szS xs 1048576
  · obtain ⟨hx1, hx2⟩ := szS_ok (by decide) hs
    have hs1 : ¬ szS xs 1048576 < 0 := by omega
    simp (maxSteps := 4000000) -dsimp [-List.all_eq_true, -Array.all_eq_true, -Bool.exists_bool, -Bool.forall_bool, vcsE1, vcsE2, vcsE3, vcsE4, vcsE5, vcsE6, vcsE7, vcsE8, vcsE9, vcsE10, vcsE11, vcsE12, vcsE13, vcsE14, vcsE15, vcsE16, vcsE17, vcsE18, vcsE19, Sx.get, Sx.look, Sx.put, pureFn, findOrd, unF, dstOk, isFloatT, endVC, resFn, packC, newFn, storeFn, buildFn, undef, known, aggT, cellsC, Value.cells, findCon, Con.pure, Con.some, allV, partsV, partsC, fillL, Sx.exitTo, fAr, C.one, Value.oneCell', eqFn, eqFieldsFn, eqElemsFn, partFn, and_assoc, List.zipIdx, sliceFn, boundFn, AppV, CopyV, MakeSliceV, NewsV, GrowV, TextV, bytesL, notInt, typeAt, argAt, Con.read, Con.make, Con.ext, Con.rel, den, Con.extS, Con.draw, Con.step, Draws.steps, Try.f4, szInstSC, toInstSC, sSurePeakC, surePeakC, eqSureStateC, eqInstSC, z1, hs1]
    refine ⟨(o, cap, xs), rfl, ⟨h.mono (sub_now _ _), hx1, hx2⟩, ?_⟩
    rintro cx1 v hle1 hv
    obtain ⟨o1, cap1, rfl, a1, _, _⟩ := hv.ex
    simp (maxSteps := 4000000) -dsimp [-List.all_eq_true, -Array.all_eq_true, -Bool.exists_bool, -Bool.forall_bool, vcsE1, vcsE2, vcsE3, vcsE4, vcsE5, vcsE6, vcsE7, vcsE8, vcsE9, vcsE10, vcsE11, vcsE12, vcsE13, vcsE14, vcsE15, vcsE16, vcsE17, vcsE18, vcsE19, Sx.get, Sx.look, Sx.put, pureFn, findOrd, unF, dstOk, isFloatT, endVC, resFn, packC, newFn, storeFn, buildFn, undef, known, aggT, cellsC, Value.cells, findCon, Con.pure, Con.some, allV, partsV, partsC, fillL, Sx.exitTo, fAr, C.one, Value.oneCell', eqFn, eqFieldsFn, eqElemsFn, partFn, and_assoc, List.zipIdx, sliceFn, boundFn, AppV, CopyV, MakeSliceV, NewsV, GrowV, TextV, bytesL, notInt, typeAt, argAt, Con.read, Con.make, Con.ext, Con.rel, den, Con.extS, Con.draw, Con.step, Draws.steps, Try.f4, szInstSC, toInstSC, sSurePeakC, surePeakC, eqSureStateC, eqInstSC]
    refine (sSurePeakC_rw ⟨a1.mono ((sub_new _).trans (sub_now _ _)), hx1⟩).mpr ?_
    simp (maxSteps := 4000000) -dsimp [-List.all_eq_true, -Array.all_eq_true, -Bool.exists_bool, -Bool.forall_bool, vcsE1, vcsE2, vcsE3, vcsE4, vcsE5, vcsE6, vcsE7, vcsE8, vcsE9, vcsE10, vcsE11, vcsE12, vcsE13, vcsE14, vcsE15, vcsE16, vcsE17, vcsE18, vcsE19, Sx.get, Sx.look, Sx.put, pureFn, findOrd, unF, dstOk, isFloatT, endVC, resFn, packC, newFn, storeFn, buildFn, undef, known, aggT, cellsC, Value.cells, findCon, Con.pure, Con.some, allV, partsV, partsC, fillL, Sx.exitTo, fAr, C.one, Value.oneCell', eqFn, eqFieldsFn, eqElemsFn, partFn, and_assoc, List.zipIdx, sliceFn, boundFn, AppV, CopyV, MakeSliceV, NewsV, GrowV, TextV, bytesL, notInt, typeAt, argAt, Con.read, Con.make, Con.ext, Con.rel, den, Con.extS, Con.draw, Con.step, Draws.steps, Try.f4, szInstSC, toInstSC, sSurePeakC, surePeakC, eqSureStateC, eqInstSC]
    intro b
    refine ⟨(o, cap, xs), rfl, ⟨h.mono (hle1.fact.trans (sub_now _ _)), hx1, hx2⟩, ?_⟩
    rintro cx2 v hle2 hv
    obtain ⟨o2, cap2, rfl, a2, _, _⟩ := hv.ex
    simp (maxSteps := 4000000) -dsimp [-List.all_eq_true, -Array.all_eq_true, -Bool.exists_bool, -Bool.forall_bool, vcsE1, vcsE2, vcsE3, vcsE4, vcsE5, vcsE6, vcsE7, vcsE8, vcsE9, vcsE10, vcsE11, vcsE12, vcsE13, vcsE14, vcsE15, vcsE16, vcsE17, vcsE18, vcsE19, Sx.get, Sx.look, Sx.put, pureFn, findOrd, unF, dstOk, isFloatT, endVC, resFn, packC, newFn, storeFn, buildFn, undef, known, aggT, cellsC, Value.cells, findCon, Con.pure, Con.some, allV, partsV, partsC, fillL, Sx.exitTo, fAr, C.one, Value.oneCell', eqFn, eqFieldsFn, eqElemsFn, partFn, and_assoc, List.zipIdx, sliceFn, boundFn, AppV, CopyV, MakeSliceV, NewsV, GrowV, TextV, bytesL, notInt, typeAt, argAt, Con.read, Con.make, Con.ext, Con.rel, den, Con.extS, Con.draw, Con.step, Draws.steps, Try.f4, szInstSC, toInstSC, sSurePeakC, surePeakC, eqSureStateC, eqInstSC]
    refine (surePeakC_rw ⟨a2.mono ((sub_new _).trans (sub_now _ _)), hx1⟩).mpr ?_
    simp (maxSteps := 4000000) -dsimp [-List.all_eq_true, -Array.all_eq_true, -Bool.exists_bool, -Bool.forall_bool, vcsE1, vcsE2, vcsE3, vcsE4, vcsE5, vcsE6, vcsE7, vcsE8, vcsE9, vcsE10, vcsE11, vcsE12, vcsE13, vcsE14, vcsE15, vcsE16, vcsE17, vcsE18, vcsE19, Sx.get, Sx.look, Sx.put, pureFn, findOrd, unF, dstOk, isFloatT, endVC, resFn, packC, newFn, storeFn, buildFn, undef, known, aggT, cellsC, Value.cells, findCon, Con.pure, Con.some, allV, partsV, partsC, fillL, Sx.exitTo, fAr, C.one, Value.oneCell', eqFn, eqFieldsFn, eqElemsFn, partFn, and_assoc, List.zipIdx, sliceFn, boundFn, AppV, CopyV, MakeSliceV, NewsV, GrowV, TextV, bytesL, notInt, typeAt, argAt, Con.read, Con.make, Con.ext, Con.rel, den, Con.extS, Con.draw, Con.step, Draws.steps, Try.f4, szInstSC, toInstSC, sSurePeakC, surePeakC, eqSureStateC, eqInstSC]
    intro b2
    have l2 := hle1.trans hle2
    refine ⟨(o, cap, xs), rfl, ⟨h.mono (l2.fact.trans (sub_now _ _)), hx1, hx2⟩, ?_⟩
    rintro cx3 v hle3 hv
    obtain ⟨o3, cap3, rfl, a3, _, _⟩ := hv.ex
    simp (maxSteps := 4000000) -dsimp [-List.all_eq_true, -Array.all_eq_true, -Bool.exists_bool, -Bool.forall_bool, vcsE1, vcsE2, vcsE3, vcsE4, vcsE5, vcsE6, vcsE7, vcsE8, vcsE9, vcsE10, vcsE11, vcsE12, vcsE13, vcsE14, vcsE15, vcsE16, vcsE17, vcsE18, vcsE19, Sx.get, Sx.look, Sx.put, pureFn, findOrd, unF, dstOk, isFloatT, endVC, resFn, packC, newFn, storeFn, buildFn, undef, known, aggT, cellsC, Value.cells, findCon, Con.pure, Con.some, allV, partsV, partsC, fillL, Sx.exitTo, fAr, C.one, Value.oneCell', eqFn, eqFieldsFn, eqElemsFn, partFn, and_assoc, List.zipIdx, sliceFn, boundFn, AppV, CopyV, MakeSliceV, NewsV, GrowV, TextV, bytesL, notInt, typeAt, argAt, Con.read, Con.make, Con.ext, Con.rel, den, Con.extS, Con.draw, Con.step, Draws.steps, Try.f4, szInstSC, toInstSC, sSurePeakC, surePeakC, eqSureStateC, eqInstSC]
    refine (eqInstSC_rw ⟨a2.mono ((sub_new _).trans (hle3.fact.trans (sub_now _ _))), a3.mono ((sub_new _).trans (sub_now _ _)), hx1, hx2⟩).mpr ?_
    have hw := (l2.trans hle3).w0
    have hg := (l2.trans hle3).g0
    simp (maxSteps := 4000000) -dsimp [-List.all_eq_true, -Array.all_eq_true, -Bool.exists_bool, -Bool.forall_bool, vcsE1, vcsE2, vcsE3, vcsE4, vcsE5, vcsE6, vcsE7, vcsE8, vcsE9, vcsE10, vcsE11, vcsE12, vcsE13, vcsE14, vcsE15, vcsE16, vcsE17, vcsE18, vcsE19, Sx.get, Sx.look, Sx.put, pureFn, findOrd, unF, dstOk, isFloatT, endVC, resFn, packC, newFn, storeFn, buildFn, undef, known, aggT, cellsC, Value.cells, findCon, Con.pure, Con.some, allV, partsV, partsC, fillL, Sx.exitTo, fAr, C.one, Value.oneCell', eqFn, eqFieldsFn, eqElemsFn, partFn, and_assoc, List.zipIdx, sliceFn, boundFn, AppV, CopyV, MakeSliceV, NewsV, GrowV, TextV, bytesL, notInt, typeAt, argAt, Con.read, Con.make, Con.ext, Con.rel, den, Con.extS, Con.draw, Con.step, Draws.steps, Try.f4, szInstSC, toInstSC, sSurePeakC, surePeakC, eqSureStateC, eqInstSC, hw, hg]
  · have hs1 : szS xs 1048576 < 0 := by omega
    simp (maxSteps := 4000000) -dsimp [-List.all_eq_true, -Array.all_eq_true, -Bool.exists_bool, -Bool.forall_bool, vcsE1, vcsE2, vcsE3, vcsE4, vcsE5, vcsE6, vcsE7, vcsE8, vcsE9, vcsE10, vcsE11, vcsE12, vcsE13, vcsE14, vcsE15, vcsE16, vcsE17, vcsE18, vcsE19, Sx.get, Sx.look, Sx.put, pureFn, findOrd, unF, dstOk, isFloatT, endVC, resFn, packC, newFn, storeFn, buildFn, undef, known, aggT, cellsC, Value.cells, findCon, Con.pure, Con.some, allV, partsV, partsC, fillL, Sx.exitTo, fAr, C.one, Value.oneCell', eqFn, eqFieldsFn, eqElemsFn, partFn, and_assoc, List.zipIdx, sliceFn, boundFn, AppV, CopyV, MakeSliceV, NewsV, GrowV, TextV, bytesL, notInt, typeAt, argAt, Con.read, Con.make, Con.ext, Con.rel, den, Con.extS, Con.draw, Con.step, Draws.steps, Try.f4, szInstSC, toInstSC, sSurePeakC, surePeakC, eqSureStateC, eqInstSC, z1, hs1]
def lawSurePeakC_S : Reads Try.prog 4 where
  ι := ((Option Addr) × (Nat) × (List Ins))
  A := fun (i : ((Option Addr) × (Nat) × (List Ins))) => match i with | (o, cap, xs) => [.slice o xs.length cap]
  pre := fun (i : ((Option Addr) × (Nat) × (List Ins))) (F : Facts) => match i with | (o, cap, xs) => RdN F o xs ∧ xs.length ≤ 9223372036854775807
  res := fun (i : ((Option Addr) × (Nat) × (List Ins))) => match i with | (o, cap, xs) => .bool true
  mono := by
    intro i F G hs h
    first | exact h | exact h.mono hs | exact ⟨h.1.mono hs, h.2⟩ | exact ⟨h.1.mono hs, h.2.1.mono hs, h.2.2⟩ | exact ⟨h.1.mono hs, h.2.1.mono hs⟩
  uniq := by
    rintro ⟨o, cap, xs⟩ ⟨o', cap', xs'⟩ F hA h h'
    simp at hA
    (try simp only [Int.natCast_inj] at hA)
    obtain rfl : xs = xs' := RdN.uniq h.1 h'.1 (by simp_all) (by simp_all)
    simp_all
  enter := Try.call4
  h := fun i w hp => lawSurePeakC_c i.1 i.2.1 i.2.2 w (by rw [factF_init]; exact hp)
def lawSurePeakC : Con Try.prog := Con.read lawSurePeakC_S
theorem lawSurePeakC_rw {o : Option Addr} {cap : Nat} {xs : List Ins} {d : Nat} {cx : Cx} {mem : List Blk} {K : C → Prop} (hpre : RdN (nowF cx mem) o xs ∧ xs.length ≤ 9223372036854775807) : ReadV d lawSurePeakC_S cx [.v (.slice o xs.length cap)] mem K = K (.v (.bool true)) := lawSurePeakC_S.eq (o, cap, xs) rfl hpre
end Go.Proofs.Ytdjjkfhholinkaa
