/-
  The program's MachRun returns what the reference's returns, for all arguments. Conditions: none.
-/
import Derived.Test.YtmiicjgbhkjocaaGreatMr
import Derived.Test.YtmiicjgbhkjocaaGreatD
import Derived.Test.YtmiicjgbhkjocaaGreatIl
import Derived.Test.YtmiicjgbhkjocaaGreatOs
set_option linter.unusedVariables false
set_option linter.unusedSimpArgs false
set_option maxRecDepth 100000
set_option maxHeartbeats 4000000
namespace Go.Proofs.YtmiicjgbhkjocaaGreat
open Go Go.Sx Go.ChangeShapes Go.WideShapes Go.ChangeAt Go.RowKit

theorem lawMachRunC_c (o : Option Addr) (cap : Nat) (xs : List Ins) (m : M) (p : Option Addr) (q : Nat) (ss : List Smp) (w : World) (hpre : RdN (factF ⟨w, [], w, []⟩) o xs ∧ RdSm (factF ⟨w, [], w, []⟩) p ss ∧ MOk m ∧ (∀ s ∈ ss, SmpOk s) ∧ xs.length ≤ 9223372036854775807 ∧ ss.length ≤ 9223372036854775807) : Calls Tryz.prog 9 #[.slice o xs.length cap, .agg (cells m), .slice p ss.length q] w fun e w' => e = .returned (.bool true) ∧ RowKit.Below w.heap.size w w' := by
  refine (plain_of_vcs ⟨[szInstSC, szSmC, toInstSC, toMemC, toSmSC, sMachRunC, machRunC, eqMemC, eqInstSC, eqSmSC], [(8, [(0, false), (2, false), (4, false), (1, false), (2, true), (3, false), (5, false), (6, false), (7, false), (8, false)])]⟩ hmx Tryz.func9 rfl (by kernel_rfl) (args := [.slice o xs.length cap, .agg (cells m), .slice p ss.length q]) (by simp [Tryz.ntmps9]) w (· = .bool true) 400 ?_).mono fun e w' ⟨v, h1, h2, h3⟩ => ⟨h2 ▸ h1, h3⟩
  obtain ⟨h, g, hm, hsm, hl, hl2⟩ := hpre
  have z1 := fun d mem K => szInstSC_rw (cap := cap) (d := d) (cx := ⟨w, [], w, []⟩) (mem := mem) (K := K) (left := 1048576) ⟨h.mono (sub_now _ _), by decide, by decide, hl⟩
  by_cases hs : 0 ≤ szS xs 1048576
  · obtain ⟨hx1, hx2⟩ := szS_ok (by decide) hs
    have hs1 : ¬ szS xs 1048576 < 0 := by omega
    have hsl := szS_le (xs := xs) (l := 1048576) (by decide)
    by_cases hb : szS xs 1048576 < ss.length
    · simp (maxSteps := 4000000) -dsimp [-List.all_eq_true, -Array.all_eq_true, -Bool.exists_bool, -Bool.forall_bool, vcsE1, vcsE2, vcsE3, vcsE4, vcsE5, vcsE6, vcsE7, vcsE8, vcsE9, vcsE10, vcsE11, vcsE12, vcsE13, vcsE14, vcsE15, vcsE16, vcsE17, vcsE18, vcsE19, Sx.get, Sx.look, Sx.put, pureFn, findOrd, unF, dstOk, isFloatT, endVC, resFn, packC, newFn, storeFn, buildFn, undef, known, aggT, cellsC, Value.cells, findCon, Con.pure, Con.some, allV, partsV, partsC, fillL, Sx.exitTo, fAr, C.one, Value.oneCell', eqFn, eqFieldsFn, eqElemsFn, partFn, and_assoc, List.zipIdx, sliceFn, boundFn, AppV, CopyV, MakeSliceV, NewsV, GrowV, TextV, bytesL, notInt, typeAt, argAt, Con.read, Con.make, Con.ext, Con.rel, den, Con.extS, Con.draw, Con.step, Draws.steps, Tryz.f9, szInstSC, szSmC, toInstSC, toMemC, toSmSC, sMachRunC, machRunC, eqMemC, eqInstSC, eqSmSC, z1, hs1, hs, hsl, hl2, hb]
    · have hb1 : ¬ szS xs 1048576 - (ss.length : Int) < 0 := by omega
      have hy : ss.length ≤ 1048576 := by omega
      simp (maxSteps := 4000000) -dsimp [-List.all_eq_true, -Array.all_eq_true, -Bool.exists_bool, -Bool.forall_bool, vcsE1, vcsE2, vcsE3, vcsE4, vcsE5, vcsE6, vcsE7, vcsE8, vcsE9, vcsE10, vcsE11, vcsE12, vcsE13, vcsE14, vcsE15, vcsE16, vcsE17, vcsE18, vcsE19, Sx.get, Sx.look, Sx.put, pureFn, findOrd, unF, dstOk, isFloatT, endVC, resFn, packC, newFn, storeFn, buildFn, undef, known, aggT, cellsC, Value.cells, findCon, Con.pure, Con.some, allV, partsV, partsC, fillL, Sx.exitTo, fAr, C.one, Value.oneCell', eqFn, eqFieldsFn, eqElemsFn, partFn, and_assoc, List.zipIdx, sliceFn, boundFn, AppV, CopyV, MakeSliceV, NewsV, GrowV, TextV, bytesL, notInt, typeAt, argAt, Con.read, Con.make, Con.ext, Con.rel, den, Con.extS, Con.draw, Con.step, Draws.steps, Tryz.f9, szInstSC, szSmC, toInstSC, toMemC, toSmSC, sMachRunC, machRunC, eqMemC, eqInstSC, eqSmSC, z1, hs1, hs, hsl, hl2, hb, hb1]
      intro b b1
      refine ⟨(o, cap, xs), rfl, ⟨h.mono (sub_now _ _), hx1, hx2⟩, ?_⟩
      rintro cx1 v hle1 hv
      obtain ⟨o1, cap1, rfl, a1, _, _⟩ := hv.ex
      simp (maxSteps := 4000000) -dsimp [-List.all_eq_true, -Array.all_eq_true, -Bool.exists_bool, -Bool.forall_bool, vcsE1, vcsE2, vcsE3, vcsE4, vcsE5, vcsE6, vcsE7, vcsE8, vcsE9, vcsE10, vcsE11, vcsE12, vcsE13, vcsE14, vcsE15, vcsE16, vcsE17, vcsE18, vcsE19, Sx.get, Sx.look, Sx.put, pureFn, findOrd, unF, dstOk, isFloatT, endVC, resFn, packC, newFn, storeFn, buildFn, undef, known, aggT, cellsC, Value.cells, findCon, Con.pure, Con.some, allV, partsV, partsC, fillL, Sx.exitTo, fAr, C.one, Value.oneCell', eqFn, eqFieldsFn, eqElemsFn, partFn, and_assoc, List.zipIdx, sliceFn, boundFn, AppV, CopyV, MakeSliceV, NewsV, GrowV, TextV, bytesL, notInt, typeAt, argAt, Con.read, Con.make, Con.ext, Con.rel, den, Con.extS, Con.draw, Con.step, Draws.steps, Tryz.f9, szInstSC, szSmC, toInstSC, toMemC, toSmSC, sMachRunC, machRunC, eqMemC, eqInstSC, eqSmSC]
      refine ⟨(p, q, ss), rfl, ⟨g.mono (hle1.fact.trans (sub_now _ _)), hy⟩, ?_⟩
      rintro cx2 v hle2 hv
      obtain ⟨p1, q1, rfl, c1, _, _⟩ := hv.ex
      simp (maxSteps := 4000000) -dsimp [-List.all_eq_true, -Array.all_eq_true, -Bool.exists_bool, -Bool.forall_bool, vcsE1, vcsE2, vcsE3, vcsE4, vcsE5, vcsE6, vcsE7, vcsE8, vcsE9, vcsE10, vcsE11, vcsE12, vcsE13, vcsE14, vcsE15, vcsE16, vcsE17, vcsE18, vcsE19, Sx.get, Sx.look, Sx.put, pureFn, findOrd, unF, dstOk, isFloatT, endVC, resFn, packC, newFn, storeFn, buildFn, undef, known, aggT, cellsC, Value.cells, findCon, Con.pure, Con.some, allV, partsV, partsC, fillL, Sx.exitTo, fAr, C.one, Value.oneCell', eqFn, eqFieldsFn, eqElemsFn, partFn, and_assoc, List.zipIdx, sliceFn, boundFn, AppV, CopyV, MakeSliceV, NewsV, GrowV, TextV, bytesL, notInt, typeAt, argAt, Con.read, Con.make, Con.ext, Con.rel, den, Con.extS, Con.draw, Con.step, Draws.steps, Tryz.f9, szInstSC, szSmC, toInstSC, toMemC, toSmSC, sMachRunC, machRunC, eqMemC, eqInstSC, eqSmSC]
      refine ⟨(o1, cap1, xs, m, p1, q1, ss), rfl, ⟨a1.mono ((sub_new _).trans (hle2.fact.trans (sub_now _ _))), c1.mono ((sub_new _).trans (sub_now _ _)), hm, hsm, hx1, hy⟩, fun v hv => ?_⟩
      obtain ⟨m1, rfl, s1, k1⟩ := hv.ex
      simp (maxSteps := 4000000) -dsimp [-List.all_eq_true, -Array.all_eq_true, -Bool.exists_bool, -Bool.forall_bool, vcsE1, vcsE2, vcsE3, vcsE4, vcsE5, vcsE6, vcsE7, vcsE8, vcsE9, vcsE10, vcsE11, vcsE12, vcsE13, vcsE14, vcsE15, vcsE16, vcsE17, vcsE18, vcsE19, Sx.get, Sx.look, Sx.put, pureFn, findOrd, unF, dstOk, isFloatT, endVC, resFn, packC, newFn, storeFn, buildFn, undef, known, aggT, cellsC, Value.cells, findCon, Con.pure, Con.some, allV, partsV, partsC, fillL, Sx.exitTo, fAr, C.one, Value.oneCell', eqFn, eqFieldsFn, eqElemsFn, partFn, and_assoc, List.zipIdx, sliceFn, boundFn, AppV, CopyV, MakeSliceV, NewsV, GrowV, TextV, bytesL, notInt, typeAt, argAt, Con.read, Con.make, Con.ext, Con.rel, den, Con.extS, Con.draw, Con.step, Draws.steps, Tryz.f9, szInstSC, szSmC, toInstSC, toMemC, toSmSC, sMachRunC, machRunC, eqMemC, eqInstSC, eqSmSC]
      intro b2
      refine ⟨(o, cap, xs), rfl, ⟨h.mono ((hle1.trans hle2).fact.trans (sub_now _ _)), hx1, hx2⟩, ?_⟩
      rintro cx3 v hle3 hv
      obtain ⟨o2, cap2, rfl, a2, _, _⟩ := hv.ex
      simp (maxSteps := 4000000) -dsimp [-List.all_eq_true, -Array.all_eq_true, -Bool.exists_bool, -Bool.forall_bool, vcsE1, vcsE2, vcsE3, vcsE4, vcsE5, vcsE6, vcsE7, vcsE8, vcsE9, vcsE10, vcsE11, vcsE12, vcsE13, vcsE14, vcsE15, vcsE16, vcsE17, vcsE18, vcsE19, Sx.get, Sx.look, Sx.put, pureFn, findOrd, unF, dstOk, isFloatT, endVC, resFn, packC, newFn, storeFn, buildFn, undef, known, aggT, cellsC, Value.cells, findCon, Con.pure, Con.some, allV, partsV, partsC, fillL, Sx.exitTo, fAr, C.one, Value.oneCell', eqFn, eqFieldsFn, eqElemsFn, partFn, and_assoc, List.zipIdx, sliceFn, boundFn, AppV, CopyV, MakeSliceV, NewsV, GrowV, TextV, bytesL, notInt, typeAt, argAt, Con.read, Con.make, Con.ext, Con.rel, den, Con.extS, Con.draw, Con.step, Draws.steps, Tryz.f9, szInstSC, szSmC, toInstSC, toMemC, toSmSC, sMachRunC, machRunC, eqMemC, eqInstSC, eqSmSC]
      refine ⟨(p, q, ss), rfl, ⟨g.mono (((hle1.trans hle2).trans hle3).fact.trans (sub_now _ _)), hy⟩, ?_⟩
      rintro cx4 v hle4 hv
      obtain ⟨p2, q2, rfl, c2, _, _⟩ := hv.ex
      simp (maxSteps := 4000000) -dsimp [-List.all_eq_true, -Array.all_eq_true, -Bool.exists_bool, -Bool.forall_bool, vcsE1, vcsE2, vcsE3, vcsE4, vcsE5, vcsE6, vcsE7, vcsE8, vcsE9, vcsE10, vcsE11, vcsE12, vcsE13, vcsE14, vcsE15, vcsE16, vcsE17, vcsE18, vcsE19, Sx.get, Sx.look, Sx.put, pureFn, findOrd, unF, dstOk, isFloatT, endVC, resFn, packC, newFn, storeFn, buildFn, undef, known, aggT, cellsC, Value.cells, findCon, Con.pure, Con.some, allV, partsV, partsC, fillL, Sx.exitTo, fAr, C.one, Value.oneCell', eqFn, eqFieldsFn, eqElemsFn, partFn, and_assoc, List.zipIdx, sliceFn, boundFn, AppV, CopyV, MakeSliceV, NewsV, GrowV, TextV, bytesL, notInt, typeAt, argAt, Con.read, Con.make, Con.ext, Con.rel, den, Con.extS, Con.draw, Con.step, Draws.steps, Tryz.f9, szInstSC, szSmC, toInstSC, toMemC, toSmSC, sMachRunC, machRunC, eqMemC, eqInstSC, eqSmSC]
      refine ⟨(o2, cap2, xs, m, p2, q2, ss), rfl, ⟨a2.mono ((sub_new _).trans (hle4.fact.trans (sub_now _ _))), c2.mono ((sub_new _).trans (sub_now _ _)), hm, hsm, hx1, hy⟩, fun v hv => ?_⟩
      obtain ⟨m2, rfl, s2, k2⟩ := hv.ex
      simp (maxSteps := 4000000) -dsimp [-List.all_eq_true, -Array.all_eq_true, -Bool.exists_bool, -Bool.forall_bool, vcsE1, vcsE2, vcsE3, vcsE4, vcsE5, vcsE6, vcsE7, vcsE8, vcsE9, vcsE10, vcsE11, vcsE12, vcsE13, vcsE14, vcsE15, vcsE16, vcsE17, vcsE18, vcsE19, Sx.get, Sx.look, Sx.put, pureFn, findOrd, unF, dstOk, isFloatT, endVC, resFn, packC, newFn, storeFn, buildFn, undef, known, aggT, cellsC, Value.cells, findCon, Con.pure, Con.some, allV, partsV, partsC, fillL, Sx.exitTo, fAr, C.one, Value.oneCell', eqFn, eqFieldsFn, eqElemsFn, partFn, and_assoc, List.zipIdx, sliceFn, boundFn, AppV, CopyV, MakeSliceV, NewsV, GrowV, TextV, bytesL, notInt, typeAt, argAt, Con.read, Con.make, Con.ext, Con.rel, den, Con.extS, Con.draw, Con.step, Draws.steps, Tryz.f9, szInstSC, szSmC, toInstSC, toMemC, toSmSC, sMachRunC, machRunC, eqMemC, eqInstSC, eqSmSC, s2.trans s1.symm, k2]
      intro b3
      have l4 := ((hle1.trans hle2).trans hle3).trans hle4
      refine ⟨(o, cap, xs), rfl, ⟨h.mono (l4.fact.trans (sub_now _ _)), hx1, hx2⟩, ?_⟩
      rintro cx5 v hle5 hv
      obtain ⟨o3, cap3, rfl, a3, _, _⟩ := hv.ex
      simp (maxSteps := 4000000) -dsimp [-List.all_eq_true, -Array.all_eq_true, -Bool.exists_bool, -Bool.forall_bool, vcsE1, vcsE2, vcsE3, vcsE4, vcsE5, vcsE6, vcsE7, vcsE8, vcsE9, vcsE10, vcsE11, vcsE12, vcsE13, vcsE14, vcsE15, vcsE16, vcsE17, vcsE18, vcsE19, Sx.get, Sx.look, Sx.put, pureFn, findOrd, unF, dstOk, isFloatT, endVC, resFn, packC, newFn, storeFn, buildFn, undef, known, aggT, cellsC, Value.cells, findCon, Con.pure, Con.some, allV, partsV, partsC, fillL, Sx.exitTo, fAr, C.one, Value.oneCell', eqFn, eqFieldsFn, eqElemsFn, partFn, and_assoc, List.zipIdx, sliceFn, boundFn, AppV, CopyV, MakeSliceV, NewsV, GrowV, TextV, bytesL, notInt, typeAt, argAt, Con.read, Con.make, Con.ext, Con.rel, den, Con.extS, Con.draw, Con.step, Draws.steps, Tryz.f9, szInstSC, szSmC, toInstSC, toMemC, toSmSC, sMachRunC, machRunC, eqMemC, eqInstSC, eqSmSC]
      refine (eqInstSC_rw ⟨a2.mono ((sub_new _).trans ((hle4.trans hle5).fact.trans (sub_now _ _))), a3.mono ((sub_new _).trans (sub_now _ _)), hx1, hx2⟩).mpr ?_
      have l5 := l4.trans hle5
      simp (maxSteps := 4000000) -dsimp [-List.all_eq_true, -Array.all_eq_true, -Bool.exists_bool, -Bool.forall_bool, vcsE1, vcsE2, vcsE3, vcsE4, vcsE5, vcsE6, vcsE7, vcsE8, vcsE9, vcsE10, vcsE11, vcsE12, vcsE13, vcsE14, vcsE15, vcsE16, vcsE17, vcsE18, vcsE19, Sx.get, Sx.look, Sx.put, pureFn, findOrd, unF, dstOk, isFloatT, endVC, resFn, packC, newFn, storeFn, buildFn, undef, known, aggT, cellsC, Value.cells, findCon, Con.pure, Con.some, allV, partsV, partsC, fillL, Sx.exitTo, fAr, C.one, Value.oneCell', eqFn, eqFieldsFn, eqElemsFn, partFn, and_assoc, List.zipIdx, sliceFn, boundFn, AppV, CopyV, MakeSliceV, NewsV, GrowV, TextV, bytesL, notInt, typeAt, argAt, Con.read, Con.make, Con.ext, Con.rel, den, Con.extS, Con.draw, Con.step, Draws.steps, Tryz.f9, szInstSC, szSmC, toInstSC, toMemC, toSmSC, sMachRunC, machRunC, eqMemC, eqInstSC, eqSmSC]
      refine ⟨(p, q, ss), rfl, ⟨g.mono (l5.fact.trans (sub_now _ _)), hy⟩, ?_⟩
      rintro cx6 v hle6 hv
      obtain ⟨p3, q3, rfl, c3, _, _⟩ := hv.ex
      simp (maxSteps := 4000000) -dsimp [-List.all_eq_true, -Array.all_eq_true, -Bool.exists_bool, -Bool.forall_bool, vcsE1, vcsE2, vcsE3, vcsE4, vcsE5, vcsE6, vcsE7, vcsE8, vcsE9, vcsE10, vcsE11, vcsE12, vcsE13, vcsE14, vcsE15, vcsE16, vcsE17, vcsE18, vcsE19, Sx.get, Sx.look, Sx.put, pureFn, findOrd, unF, dstOk, isFloatT, endVC, resFn, packC, newFn, storeFn, buildFn, undef, known, aggT, cellsC, Value.cells, findCon, Con.pure, Con.some, allV, partsV, partsC, fillL, Sx.exitTo, fAr, C.one, Value.oneCell', eqFn, eqFieldsFn, eqElemsFn, partFn, and_assoc, List.zipIdx, sliceFn, boundFn, AppV, CopyV, MakeSliceV, NewsV, GrowV, TextV, bytesL, notInt, typeAt, argAt, Con.read, Con.make, Con.ext, Con.rel, den, Con.extS, Con.draw, Con.step, Draws.steps, Tryz.f9, szInstSC, szSmC, toInstSC, toMemC, toSmSC, sMachRunC, machRunC, eqMemC, eqInstSC, eqSmSC]
      refine (eqSmSC_rw ⟨c2.mono ((sub_new _).trans ((hle5.trans hle6).fact.trans (sub_now _ _))), c3.mono ((sub_new _).trans (sub_now _ _)), hsm, hy⟩).mpr ?_
      have hw := (l5.trans hle6).w0
      have hg := (l5.trans hle6).g0
      simp (maxSteps := 4000000) -dsimp [-List.all_eq_true, -Array.all_eq_true, -Bool.exists_bool, -Bool.forall_bool, vcsE1, vcsE2, vcsE3, vcsE4, vcsE5, vcsE6, vcsE7, vcsE8, vcsE9, vcsE10, vcsE11, vcsE12, vcsE13, vcsE14, vcsE15, vcsE16, vcsE17, vcsE18, vcsE19, Sx.get, Sx.look, Sx.put, pureFn, findOrd, unF, dstOk, isFloatT, endVC, resFn, packC, newFn, storeFn, buildFn, undef, known, aggT, cellsC, Value.cells, findCon, Con.pure, Con.some, allV, partsV, partsC, fillL, Sx.exitTo, fAr, C.one, Value.oneCell', eqFn, eqFieldsFn, eqElemsFn, partFn, and_assoc, List.zipIdx, sliceFn, boundFn, AppV, CopyV, MakeSliceV, NewsV, GrowV, TextV, bytesL, notInt, typeAt, argAt, Con.read, Con.make, Con.ext, Con.rel, den, Con.extS, Con.draw, Con.step, Draws.steps, Tryz.f9, szInstSC, szSmC, toInstSC, toMemC, toSmSC, sMachRunC, machRunC, eqMemC, eqInstSC, eqSmSC, hw, hg]
  · have hs1 : szS xs 1048576 < 0 := by omega
    simp (maxSteps := 4000000) -dsimp [-List.all_eq_true, -Array.all_eq_true, -Bool.exists_bool, -Bool.forall_bool, vcsE1, vcsE2, vcsE3, vcsE4, vcsE5, vcsE6, vcsE7, vcsE8, vcsE9, vcsE10, vcsE11, vcsE12, vcsE13, vcsE14, vcsE15, vcsE16, vcsE17, vcsE18, vcsE19, Sx.get, Sx.look, Sx.put, pureFn, findOrd, unF, dstOk, isFloatT, endVC, resFn, packC, newFn, storeFn, buildFn, undef, known, aggT, cellsC, Value.cells, findCon, Con.pure, Con.some, allV, partsV, partsC, fillL, Sx.exitTo, fAr, C.one, Value.oneCell', eqFn, eqFieldsFn, eqElemsFn, partFn, and_assoc, List.zipIdx, sliceFn, boundFn, AppV, CopyV, MakeSliceV, NewsV, GrowV, TextV, bytesL, notInt, typeAt, argAt, Con.read, Con.make, Con.ext, Con.rel, den, Con.extS, Con.draw, Con.step, Draws.steps, Tryz.f9, szInstSC, szSmC, toInstSC, toMemC, toSmSC, sMachRunC, machRunC, eqMemC, eqInstSC, eqSmSC, z1, hs1]
def lawMachRunC_S : Reads Tryz.prog 9 where
  ι := ((Option Addr) × (Nat) × (List Ins) × (M) × (Option Addr) × (Nat) × (List Smp))
  A := fun (i : ((Option Addr) × (Nat) × (List Ins) × (M) × (Option Addr) × (Nat) × (List Smp))) => match i with | (o, cap, xs, m, p, q, ss) => [.slice o xs.length cap, .agg (cells m), .slice p ss.length q]
  pre := fun (i : ((Option Addr) × (Nat) × (List Ins) × (M) × (Option Addr) × (Nat) × (List Smp))) (F : Facts) => match i with | (o, cap, xs, m, p, q, ss) => RdN F o xs ∧ RdSm F p ss ∧ MOk m ∧ (∀ s ∈ ss, SmpOk s) ∧ xs.length ≤ 9223372036854775807 ∧ ss.length ≤ 9223372036854775807
  res := fun (i : ((Option Addr) × (Nat) × (List Ins) × (M) × (Option Addr) × (Nat) × (List Smp))) => match i with | (o, cap, xs, m, p, q, ss) => .bool true
  mono := by
    intro i F G hs h
    first | exact h | exact h.mono hs | exact ⟨h.1.mono hs, h.2⟩ | exact ⟨h.1.mono hs, h.2.1.mono hs, h.2.2⟩ | exact ⟨h.1.mono hs, h.2.1.mono hs⟩
  uniq := by
    rintro ⟨o, cap, xs, m, p, q, ss⟩ ⟨o', cap', xs', m', p', q', ss'⟩ F hA h h'
    simp at hA
    (try simp only [Int.natCast_inj] at hA)
    obtain rfl : xs = xs' := RdN.uniq h.1 h'.1 (by simp_all) (by simp_all)
    obtain rfl : ss = ss' := RdSm.uniq h.2.1 h'.2.1 (by simp_all) (by simp_all)
    simp_all
  enter := Tryz.call9
  h := fun i w hp => lawMachRunC_c i.1 i.2.1 i.2.2.1 i.2.2.2.1 i.2.2.2.2.1 i.2.2.2.2.2.1 i.2.2.2.2.2.2 w (by rw [factF_init]; exact hp)
def lawMachRunC : Con Tryz.prog := Con.read lawMachRunC_S
theorem lawMachRunC_rw {o : Option Addr} {cap : Nat} {xs : List Ins} {m : M} {p : Option Addr} {q : Nat} {ss : List Smp} {d : Nat} {cx : Cx} {mem : List Blk} {K : C → Prop} (hpre : RdN (nowF cx mem) o xs ∧ RdSm (nowF cx mem) p ss ∧ MOk m ∧ (∀ s ∈ ss, SmpOk s) ∧ xs.length ≤ 9223372036854775807 ∧ ss.length ≤ 9223372036854775807) : ReadV d lawMachRunC_S cx [.v (.slice o xs.length cap), .v (.agg (cells m)), .v (.slice p ss.length q)] mem K = K (.v (.bool true)) := lawMachRunC_S.eq (o, cap, xs, m, p, q, ss) rfl hpre
theorem fnExactMachRun_lifted (os : Os) (started : os.Started) (H : Type) (enc : TypeId × Value → H) :
    ReturnsInHanded {} Tryz.checked os 9 .any (Rows.fnExactMachRunSpec.pre6 enc Tryz.prog Tryz.f9 Rows.fnExactMachRunRow.domain false) (Rows.fnExactMachRunSpec.post enc Tryz.prog Tryz.f9 false true false false) := by
  refine lifted_of_walk (C := Tryz.checked) (tb := 4) own started (by kernel_rfl) Tryz.func9
    (ChangeSpec.witness6 (enc := enc) (C := Tryz.checked) false ⟨#[], #[.slice none 0 0, .agg (cells zeroM), .slice none 0 0], []⟩ 12 (by kernel_rfl) (by kernel_rfl) (by kernel_rfl) (by kernel_rfl))
    laidOut (by kernel_rfl) rfl rfl (by kernel_rfl) (fun ds hd => ?_) (fun W base args hsz hval htr => ?_)
  · match ds, hd with
    | [d0, d1, d2], _ => rfl
  · obtain ⟨a0, a1, a2, rfl⟩ : ∃ a0 a1 a2, args = #[a0, a1, a2] := by
      obtain ⟨l⟩ := args
      match l, hsz with
      | [a0, a1, a2], _ => exact ⟨a0, a1, a2, rfl⟩
    obtain ⟨o, cap, xs, rfl, h_o⟩ := openList (hval 0 _ a0 rfl rfl) (htr 0 _ a0 rfl rfl)
    obtain ⟨m, rfl, h_m⟩ := openMem (hval 1 _ a1 rfl rfl)
    obtain ⟨p, q, ss, rfl, h_p⟩ := openSamples (hval 2 _ a2 rfl rfl) (htr 2 _ a2 rfl rfl)
    exact lawMachRunC_c o cap xs m p q ss W (by rw [factF_init]; exact ⟨h_o.1, h_p.1, h_m, h_p.2.1, by have := h_o.2.1; have := h_o.2.2; unfold maxLen at this; omega, by have := h_p.2.2.1; have := h_p.2.2.2; unfold maxLen at this; omega⟩)

theorem fnExactMachRun_j0 : Rows.fnExactMachRunRow.wf (OpenSpec.ofChange Rows.fnExactMachRunSpec) = true := by kernel_rfl
theorem fnExactMachRun_j3 : (Tryz.f9.params.all (Tryz.prog.readableRec ·) && namedTie Tryz.prog Rows.fnExactMachRunRow.named Rows.fnExactMachRunSpec.vars && (Rows.fnExactMachRunRow.stops == []) && (Tryz.prog.stops == []) && (Rows.fnExactMachRunRow.knobs == []) && (Tryz.prog.stopKnobs == [])) = true := by kernel_rfl
theorem fnExactMachRun_j9 : (Rows.fnExactMachRunRow.inPlace == Tryz.prog.inPlace 9) = true := by kernel_rfl
theorem fnExactMachRun_j10 : (Rows.fnExactMachRunRow.unfollowed == Tryz.prog.unfollowed 9) = true := by kernel_rfl
theorem fnExactMachRun_j11 : (Rows.fnExactMachRunRow.recurses == Tryz.prog.recurses 9) = true := by kernel_rfl
theorem fnExactMachRun_j12 : (Rows.fnExactMachRunRow.named == Tryz.prog.varsNamed 9) = true := by kernel_rfl
theorem fnExactMachRun_closed : joinedFacts Tryz.prog 9 Tryz.f9 Rows.fnExactMachRunSpec Rows.fnExactMachRunRow = true :=
  joined_of fnExactMachRun_j0 fxLaid fxMaps fnExactMachRun_j3 fnExactMachRun_j9 fnExactMachRun_j10 fnExactMachRun_j11 fnExactMachRun_j12 (by kernel_rfl) (Eq.trans (by kernel_rfl) fxKeys) (by kernel_rfl) fxHeard fxEnter (Eq.trans (by rfl) fxLifts) (Eq.trans (by rfl) fxMake) (by kernel_rfl)
theorem fnExactMachRun_holds : Rows.FnExactMachRunSaid :=
  OpenClaim.holds_of_wide 9 Tryz.f9 rfl rfl rfl rfl rfl rfl rfl ⟨rfl, rfl, rfl, rfl, rfl⟩ rfl rfl rfl rfl rfl (by kernel_rfl) Tryz.func9 fnExactMachRun_closed
    (of_decide_eq_true (by kernel_rfl)) (by unfold Func.isWrapper; first | (rw [if_pos (by decide +kernel)]; kernel_rfl) | (rw [if_neg (by decide +kernel)]; exact ⟨rfl, rfl⟩))
    (fun os started H enc _ => fnExactMachRun_lifted os started H enc)
end Go.Proofs.YtmiicjgbhkjocaaGreat
