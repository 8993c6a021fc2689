/-
  The law of ActDo, walked.
-/
import Derived.Test.YteigfllcmdkboaaDw
import Derived.Test.YteigfllcmdkboaaDr
import Derived.Test.YteigfllcmdkboaaD
set_option linter.unusedVariables false
set_option linter.unusedSimpArgs false
set_option maxRecDepth 100000
set_option maxHeartbeats 4000000
namespace Go.Proofs.Yteigfllcmdkboaa
open Go Go.Sx








theorem lawActDoC_c (m : M) (op : Int) (o : Option Addr) (cap : Nat) (xs : List Dev) (cur : Bool) (dt : Int) (w : World) (hpre : RdD (factF ⟨w, [], w, []⟩) o xs ∧ MOk m ∧ 0 ≤ dt ∧ dt < 65536 ∧ xs.length ≤ 9223372036854775807) : Calls Try.prog 9 #[.agg (cells m), .agg #[.int .i64 op, .slice o xs.length cap], .bool cur, .int .u16 dt] w fun e w' => e = .returned (.bool true) ∧ RowKit.Below w.heap.size w w' := by
  refine (plain_of_vcs ⟨[szElemC, toMemC, toElemC, sActDoC, actDoC, eqMemC, eqElemC], [(5, [(0, false), (1, false), (2, false), (4, false), (5, false), (3, false), (6, false), (7, false), (8, false)]), (10, [(0, false), (1, false), (2, false), (0, true), (3, false), (4, false)])]⟩ hmx Try.func9 rfl (by kernel_rfl) (args := [.agg (cells m), .agg #[.int .i64 op, .slice o xs.length cap], .bool cur, .int .u16 dt]) (by simp [Try.ntmps9]) w (· = .bool true) 400 ?_).mono fun e w' ⟨v, h1, h2, h3⟩ => ⟨h2 ▸ h1, h3⟩
  obtain ⟨h, hm, hd1, hd2, hl⟩ := hpre
  by_cases hs : xs.length ≤ 1048576
  · have hs1 : ¬ (1048576 : Int) < xs.length := by omega
    have hs2 : (xs.length : Int) ≤ 1048576 := by omega
    simp (maxSteps := 4000000) -dsimp [-List.all_eq_true, -Array.all_eq_true, -Bool.exists_bool, -Bool.forall_bool, vcs, Sx.get, Sx.look, Sx.put, pureFn, findOrd, binF, unF, dstOk, isFloatT, endVC, resFn, packC, newFn, storeFn, buildFn, undef, known, aggT, cellsC, Value.cells, findCon, Con.pure, Con.some, allV, partsV, partsC, fillL, Sx.exitTo, fAr, C.one, Value.oneCell', aggEqFn, eqFn, eqFieldsFn, eqElemsFn, partFn, and_assoc, List.zipIdx, sliceFn, boundFn, AppV, CopyV, MakeSliceV, NewsV, GrowV, TextV, bytesL, notInt, typeAt, argAt, Con.read, Con.make, Con.ext, Con.rel, den, Con.extS, Try.f9, szElemC, toMemC, toElemC, sActDoC, actDoC, eqMemC, eqElemC, hs1, hs2, hl]
    intro b b1
    refine ⟨(op, o, cap, xs), rfl, ⟨h.mono (sub_now _ _), hs⟩, ?_⟩
    rintro cx1 v hle1 hv
    obtain ⟨o1, cap1, rfl, g1, _, _⟩ := hv.ex
    simp (maxSteps := 4000000) -dsimp [-List.all_eq_true, -Array.all_eq_true, -Bool.exists_bool, -Bool.forall_bool, vcs, Sx.get, Sx.look, Sx.put, pureFn, findOrd, binF, unF, dstOk, isFloatT, endVC, resFn, packC, newFn, storeFn, buildFn, undef, known, aggT, cellsC, Value.cells, findCon, Con.pure, Con.some, allV, partsV, partsC, fillL, Sx.exitTo, fAr, C.one, Value.oneCell', aggEqFn, eqFn, eqFieldsFn, eqElemsFn, partFn, and_assoc, List.zipIdx, sliceFn, boundFn, AppV, CopyV, MakeSliceV, NewsV, GrowV, TextV, bytesL, notInt, typeAt, argAt, Con.read, Con.make, Con.ext, Con.rel, den, Con.extS, Try.f9, szElemC, toMemC, toElemC, sActDoC, actDoC, eqMemC, eqElemC]
    refine ⟨(m, op, o1, cap1, xs, cur, dt), rfl, ⟨g1.mono ((sub_new _).trans (sub_now _ _)), hm, hd1, hd2⟩, fun v hv => ?_⟩
    obtain ⟨m1, rfl, s1, k1⟩ := hv.ex
    simp (maxSteps := 4000000) -dsimp [-List.all_eq_true, -Array.all_eq_true, -Bool.exists_bool, -Bool.forall_bool, vcs, Sx.get, Sx.look, Sx.put, pureFn, findOrd, binF, unF, dstOk, isFloatT, endVC, resFn, packC, newFn, storeFn, buildFn, undef, known, aggT, cellsC, Value.cells, findCon, Con.pure, Con.some, allV, partsV, partsC, fillL, Sx.exitTo, fAr, C.one, Value.oneCell', aggEqFn, eqFn, eqFieldsFn, eqElemsFn, partFn, and_assoc, List.zipIdx, sliceFn, boundFn, AppV, CopyV, MakeSliceV, NewsV, GrowV, TextV, bytesL, notInt, typeAt, argAt, Con.read, Con.make, Con.ext, Con.rel, den, Con.extS, Try.f9, szElemC, toMemC, toElemC, sActDoC, actDoC, eqMemC, eqElemC]
    intro b2
    refine ⟨(op, o, cap, xs), rfl, ⟨h.mono (hle1.fact.trans (sub_now _ _)), hs⟩, ?_⟩
    rintro cx2 v hle2 hv
    obtain ⟨o2, cap2, rfl, g2, _, _⟩ := hv.ex
    simp (maxSteps := 4000000) -dsimp [-List.all_eq_true, -Array.all_eq_true, -Bool.exists_bool, -Bool.forall_bool, vcs, Sx.get, Sx.look, Sx.put, pureFn, findOrd, binF, unF, dstOk, isFloatT, endVC, resFn, packC, newFn, storeFn, buildFn, undef, known, aggT, cellsC, Value.cells, findCon, Con.pure, Con.some, allV, partsV, partsC, fillL, Sx.exitTo, fAr, C.one, Value.oneCell', aggEqFn, eqFn, eqFieldsFn, eqElemsFn, partFn, and_assoc, List.zipIdx, sliceFn, boundFn, AppV, CopyV, MakeSliceV, NewsV, GrowV, TextV, bytesL, notInt, typeAt, argAt, Con.read, Con.make, Con.ext, Con.rel, den, Con.extS, Try.f9, szElemC, toMemC, toElemC, sActDoC, actDoC, eqMemC, eqElemC]
    intro b3
    refine ⟨(m, op, o2, cap2, xs, cur, dt), rfl, ⟨g2.mono ((sub_new _).trans (sub_now _ _)), hm, hd1, hd2⟩, fun v hv => ?_⟩
    obtain ⟨m2, rfl, s2, k2⟩ := hv.ex
    simp (maxSteps := 4000000) -dsimp [-List.all_eq_true, -Array.all_eq_true, -Bool.exists_bool, -Bool.forall_bool, vcs, Sx.get, Sx.look, Sx.put, pureFn, findOrd, binF, unF, dstOk, isFloatT, endVC, resFn, packC, newFn, storeFn, buildFn, undef, known, aggT, cellsC, Value.cells, findCon, Con.pure, Con.some, allV, partsV, partsC, fillL, Sx.exitTo, fAr, C.one, Value.oneCell', aggEqFn, eqFn, eqFieldsFn, eqElemsFn, partFn, and_assoc, List.zipIdx, sliceFn, boundFn, AppV, CopyV, MakeSliceV, NewsV, GrowV, TextV, bytesL, notInt, typeAt, argAt, Con.read, Con.make, Con.ext, Con.rel, den, Con.extS, Try.f9, szElemC, toMemC, toElemC, sActDoC, actDoC, eqMemC, eqElemC, s2.trans s1.symm, k2]
    intro b4
    refine ⟨(op, o, cap, xs), rfl, ⟨h.mono (hle1.fact.trans (hle2.fact.trans (sub_now _ _))), hs⟩, ?_⟩
    rintro cx3 v hle3 hv
    obtain ⟨o3, cap3, rfl, g3, _, _⟩ := hv.ex
    simp (maxSteps := 4000000) -dsimp [-List.all_eq_true, -Array.all_eq_true, -Bool.exists_bool, -Bool.forall_bool, vcs, Sx.get, Sx.look, Sx.put, pureFn, findOrd, binF, unF, dstOk, isFloatT, endVC, resFn, packC, newFn, storeFn, buildFn, undef, known, aggT, cellsC, Value.cells, findCon, Con.pure, Con.some, allV, partsV, partsC, fillL, Sx.exitTo, fAr, C.one, Value.oneCell', aggEqFn, eqFn, eqFieldsFn, eqElemsFn, partFn, and_assoc, List.zipIdx, sliceFn, boundFn, AppV, CopyV, MakeSliceV, NewsV, GrowV, TextV, bytesL, notInt, typeAt, argAt, Con.read, Con.make, Con.ext, Con.rel, den, Con.extS, Try.f9, szElemC, toMemC, toElemC, sActDoC, actDoC, eqMemC, eqElemC]
    refine (eqElemC_rw ⟨(g2.mono (sub_new _)).mono (hle3.fact.trans (sub_now _ _)), g3.mono ((sub_new _).trans (sub_now _ _)), hs⟩).mpr ?_
    have hw := (hle1.trans (hle2.trans hle3)).w0
    have hg := (hle1.trans (hle2.trans hle3)).g0
    simp (maxSteps := 4000000) -dsimp [-List.all_eq_true, -Array.all_eq_true, -Bool.exists_bool, -Bool.forall_bool, vcs, Sx.get, Sx.look, Sx.put, pureFn, findOrd, binF, unF, dstOk, isFloatT, endVC, resFn, packC, newFn, storeFn, buildFn, undef, known, aggT, cellsC, Value.cells, findCon, Con.pure, Con.some, allV, partsV, partsC, fillL, Sx.exitTo, fAr, C.one, Value.oneCell', aggEqFn, eqFn, eqFieldsFn, eqElemsFn, partFn, and_assoc, List.zipIdx, sliceFn, boundFn, AppV, CopyV, MakeSliceV, NewsV, GrowV, TextV, bytesL, notInt, typeAt, argAt, Con.read, Con.make, Con.ext, Con.rel, den, Con.extS, Try.f9, szElemC, toMemC, toElemC, sActDoC, actDoC, eqMemC, eqElemC, hw, hg]
  · have hs1 : (1048576 : Int) < xs.length := by omega
    simp (maxSteps := 4000000) -dsimp [-List.all_eq_true, -Array.all_eq_true, -Bool.exists_bool, -Bool.forall_bool, vcs, Sx.get, Sx.look, Sx.put, pureFn, findOrd, binF, unF, dstOk, isFloatT, endVC, resFn, packC, newFn, storeFn, buildFn, undef, known, aggT, cellsC, Value.cells, findCon, Con.pure, Con.some, allV, partsV, partsC, fillL, Sx.exitTo, fAr, C.one, Value.oneCell', aggEqFn, eqFn, eqFieldsFn, eqElemsFn, partFn, and_assoc, List.zipIdx, sliceFn, boundFn, AppV, CopyV, MakeSliceV, NewsV, GrowV, TextV, bytesL, notInt, typeAt, argAt, Con.read, Con.make, Con.ext, Con.rel, den, Con.extS, Try.f9, szElemC, toMemC, toElemC, sActDoC, actDoC, eqMemC, eqElemC, hs1, hl]
def lawActDoC_S : Reads Try.prog 9 where
  ι := (M) × (Int) × (Option Addr) × (Nat) × (List Dev) × (Bool) × (Int)
  A := fun (i : (M) × (Int) × (Option Addr) × (Nat) × (List Dev) × (Bool) × (Int)) => match i with | (m, op, o, cap, xs, cur, dt) => [.agg (cells m), .agg #[.int .i64 op, .slice o xs.length cap], .bool cur, .int .u16 dt]
  pre := fun (i : (M) × (Int) × (Option Addr) × (Nat) × (List Dev) × (Bool) × (Int)) (F : Facts) => match i with | (m, op, o, cap, xs, cur, dt) => RdD F o xs ∧ MOk m ∧ 0 ≤ dt ∧ dt < 65536 ∧ xs.length ≤ 9223372036854775807
  res := fun (i : (M) × (Int) × (Option Addr) × (Nat) × (List Dev) × (Bool) × (Int)) => match i with | (m, op, o, cap, xs, cur, dt) => .bool true
  mono := by
    intro i F G hs h
    first | exact h.mono hs | exact ⟨h.1.mono hs, h.2⟩ | exact ⟨h.1.mono hs, h.2.1.mono hs, h.2.2⟩ | exact ⟨h.1.mono hs, h.2.1.mono hs⟩
  uniq := by
    rintro ⟨m, op, o, cap, xs, cur, dt⟩ ⟨m', op', o', cap', xs', cur', dt'⟩ F hA h h'
    simp at hA
    (try simp only [Int.natCast_inj] at hA)
    obtain rfl : xs = xs' := RdD.uniq h.1 h'.1 (by simp_all) (by simp_all)
    simp_all
  enter := Try.call9
  h := fun i w hp => lawActDoC_c i.1 i.2.1 i.2.2.1 i.2.2.2.1 i.2.2.2.2.1 i.2.2.2.2.2.1 i.2.2.2.2.2.2 w (by rw [factF_init]; exact hp)
def lawActDoC : Con Try.prog := Con.read lawActDoC_S
theorem lawActDoC_rw {m : M} {op : Int} {o : Option Addr} {cap : Nat} {xs : List Dev} {cur : Bool} {dt : Int} {d : Nat} {cx : Cx} {mem : List Blk} {K : C → Prop} (hpre : RdD (nowF cx mem) o xs ∧ MOk m ∧ 0 ≤ dt ∧ dt < 65536 ∧ xs.length ≤ 9223372036854775807) : ReadV d lawActDoC_S cx [.v (.agg (cells m)), .v (.agg #[.int .i64 op, .slice o xs.length cap]), .v (.bool cur), .v (.int .u16 dt)] mem K = K (.v (.bool true)) := lawActDoC_S.eq (m, op, o, cap, xs, cur, dt) rfl hpre
end Go.Proofs.Yteigfllcmdkboaa
