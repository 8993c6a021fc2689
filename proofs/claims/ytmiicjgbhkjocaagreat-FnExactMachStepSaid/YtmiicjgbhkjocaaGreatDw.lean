/-
  Contracts: what coils do, by the reference.
-/
import Derived.Test.YtmiicjgbhkjocaaGreatDu
set_option linter.unusedVariables false
set_option linter.unusedSimpArgs false
set_option maxRecDepth 100000
set_option maxHeartbeats 4000000
namespace Go.Proofs.YtmiicjgbhkjocaaGreat
open Go Go.Sx







theorem sWhenC_c (m : M) (op : Int) (o : Option Addr) (cap : Nat) (xs : List Dev) (w : World) (hpre : RdD (factF ⟨w, [], w, []⟩) o xs ∧ MOk m) : Calls Tryz.prog 165 #[.agg (cells m), .agg #[.int .i64 op, .slice o xs.length cap]] w fun e w' => ∃ v, e = .returned v ∧ (fun v => IsMem v (whenM m op (argD xs 0) (argD xs 1) (argD xs 2))) v ∧ RowKit.Below w.heap.size w w' := by
  refine plain_of_vcs ⟨[sArgC, sNotEC, sResetC, sStepC, sCalcC], []⟩ hmx Tryz.func165 rfl (by kernel_rfl) (args := [.agg (cells m), .agg #[.int .i64 op, .slice o xs.length cap]]) (by simp [Tryz.ntmps165]) w (fun v => IsMem v (whenM m op (argD xs 0) (argD xs 1) (argD xs 2))) 400 ?_
  obtain ⟨h, hm⟩ := hpre
  have a0 := fun d mem K => sArgC_rw (op := op) (cap := cap) (d := d) (cx := ⟨w, [], w, []⟩) (mem := mem) (K := K) (j := 0) ⟨h.mono (sub_now _ _), by decide⟩
  have a1 := fun d mem K => sArgC_rw (op := op) (cap := cap) (d := d) (cx := ⟨w, [], w, []⟩) (mem := mem) (K := K) (j := 1) ⟨h.mono (sub_now _ _), by decide⟩
  simp only [Int.toNat_zero, Int.toNat_one] at a0 a1
  by_cases h22 : op = 22
  · subst h22
    simp (maxSteps := 4000000) -dsimp [-List.all_eq_true, -Array.all_eq_true, -Bool.exists_bool, -Bool.forall_bool, vcsE1, vcsE2, vcsE3, vcsE4, vcsE5, vcsE6, vcsE7, vcsE8, vcsE9, vcsE10, vcsE11, vcsE12, vcsE13, vcsE14, vcsE15, vcsE16, vcsE17, vcsE18, vcsE19, Sx.get, Sx.look, Sx.put, pureFn, findOrd, unF, dstOk, isFloatT, endVC, resFn, packC, newFn, storeFn, buildFn, undef, known, aggT, cellsC, Value.cells, findCon, Con.pure, Con.some, allV, partsV, partsC, fillL, Sx.exitTo, fAr, C.one, Value.oneCell', eqFn, eqFieldsFn, eqElemsFn, partFn, and_assoc, List.zipIdx, sliceFn, boundFn, AppV, CopyV, MakeSliceV, NewsV, GrowV, TextV, bytesL, notInt, typeAt, argAt, Con.read, Con.make, Con.ext, Con.rel, den, Con.extS, Con.draw, Con.step, Draws.steps, Tryz.f165, sArgC, sNotEC, sResetC, sStepC, sCalcC, hm, a0, a1, whenM]
    exact isMem_self (putBM_ok hm)
  by_cases h23 : op = 23
  · subst h23
    simp (maxSteps := 4000000) -dsimp [-List.all_eq_true, -Array.all_eq_true, -Bool.exists_bool, -Bool.forall_bool, vcsE1, vcsE2, vcsE3, vcsE4, vcsE5, vcsE6, vcsE7, vcsE8, vcsE9, vcsE10, vcsE11, vcsE12, vcsE13, vcsE14, vcsE15, vcsE16, vcsE17, vcsE18, vcsE19, Sx.get, Sx.look, Sx.put, pureFn, findOrd, unF, dstOk, isFloatT, endVC, resFn, packC, newFn, storeFn, buildFn, undef, known, aggT, cellsC, Value.cells, findCon, Con.pure, Con.some, allV, partsV, partsC, fillL, Sx.exitTo, fAr, C.one, Value.oneCell', eqFn, eqFieldsFn, eqElemsFn, partFn, and_assoc, List.zipIdx, sliceFn, boundFn, AppV, CopyV, MakeSliceV, NewsV, GrowV, TextV, bytesL, notInt, typeAt, argAt, Con.read, Con.make, Con.ext, Con.rel, den, Con.extS, Con.draw, Con.step, Draws.steps, Tryz.f165, sArgC, sNotEC, sResetC, sStepC, sCalcC, hm, a0, a1, whenM]
    exact isMem_self (resetM_ok hm)
  by_cases h25 : op = 25
  · subst h25
    simp (maxSteps := 4000000) -dsimp [-List.all_eq_true, -Array.all_eq_true, -Bool.exists_bool, -Bool.forall_bool, vcsE1, vcsE2, vcsE3, vcsE4, vcsE5, vcsE6, vcsE7, vcsE8, vcsE9, vcsE10, vcsE11, vcsE12, vcsE13, vcsE14, vcsE15, vcsE16, vcsE17, vcsE18, vcsE19, Sx.get, Sx.look, Sx.put, pureFn, findOrd, unF, dstOk, isFloatT, endVC, resFn, packC, newFn, storeFn, buildFn, undef, known, aggT, cellsC, Value.cells, findCon, Con.pure, Con.some, allV, partsV, partsC, fillL, Sx.exitTo, fAr, C.one, Value.oneCell', eqFn, eqFieldsFn, eqElemsFn, partFn, and_assoc, List.zipIdx, sliceFn, boundFn, AppV, CopyV, MakeSliceV, NewsV, GrowV, TextV, bytesL, notInt, typeAt, argAt, Con.read, Con.make, Con.ext, Con.rel, den, Con.extS, Con.draw, Con.step, Draws.steps, Tryz.f165, sArgC, sNotEC, sResetC, sStepC, sCalcC, hm, a0, a1, whenM]
    refine isMem_self ?_
    split
    · exact stepM_ok hm
    · exact hm
  by_cases h30 : 30 ≤ op
  · by_cases h37 : op ≤ 37
    · simp (maxSteps := 4000000) -dsimp [-List.all_eq_true, -Array.all_eq_true, -Bool.exists_bool, -Bool.forall_bool, vcsE1, vcsE2, vcsE3, vcsE4, vcsE5, vcsE6, vcsE7, vcsE8, vcsE9, vcsE10, vcsE11, vcsE12, vcsE13, vcsE14, vcsE15, vcsE16, vcsE17, vcsE18, vcsE19, Sx.get, Sx.look, Sx.put, pureFn, findOrd, unF, dstOk, isFloatT, endVC, resFn, packC, newFn, storeFn, buildFn, undef, known, aggT, cellsC, Value.cells, findCon, Con.pure, Con.some, allV, partsV, partsC, fillL, Sx.exitTo, fAr, C.one, Value.oneCell', eqFn, eqFieldsFn, eqElemsFn, partFn, and_assoc, List.zipIdx, sliceFn, boundFn, AppV, CopyV, MakeSliceV, NewsV, GrowV, TextV, bytesL, notInt, typeAt, argAt, Con.read, Con.make, Con.ext, Con.rel, den, Con.extS, Con.draw, Con.step, Draws.steps, Tryz.f165, sArgC, sNotEC, sResetC, sStepC, sCalcC, hm, a0, a1, h22, h23, h25, h30, h37]
      intro b b1 b2
      refine ⟨(m, op, o, cap, xs), rfl, ⟨h.mono (sub_now _ _), hm, h30, h37⟩, fun v hv => ?_⟩
      obtain ⟨m', rfl, s1, s2⟩ := hv.ex
      simp (maxSteps := 4000000) -dsimp [-List.all_eq_true, -Array.all_eq_true, -Bool.exists_bool, -Bool.forall_bool, vcsE1, vcsE2, vcsE3, vcsE4, vcsE5, vcsE6, vcsE7, vcsE8, vcsE9, vcsE10, vcsE11, vcsE12, vcsE13, vcsE14, vcsE15, vcsE16, vcsE17, vcsE18, vcsE19, Sx.get, Sx.look, Sx.put, pureFn, findOrd, unF, dstOk, isFloatT, endVC, resFn, packC, newFn, storeFn, buildFn, undef, known, aggT, cellsC, Value.cells, findCon, Con.pure, Con.some, allV, partsV, partsC, fillL, Sx.exitTo, fAr, C.one, Value.oneCell', eqFn, eqFieldsFn, eqElemsFn, partFn, and_assoc, List.zipIdx, sliceFn, boundFn, AppV, CopyV, MakeSliceV, NewsV, GrowV, TextV, bytesL, notInt, typeAt, argAt, Con.read, Con.make, Con.ext, Con.rel, den, Con.extS, Con.draw, Con.step, Draws.steps, Tryz.f165, sArgC, sNotEC, sResetC, sStepC, sCalcC]
      exact ⟨_, rfl, s1, s2⟩
    · have n31 : ¬ (31 ≤ op ∧ op ≤ 35) := by omega
      have n30 : ¬ op = 30 := by omega
      have n36 : ¬ op = 36 := by omega
      have n37 : ¬ op = 37 := by omega
      simp (maxSteps := 4000000) -dsimp [-List.all_eq_true, -Array.all_eq_true, -Bool.exists_bool, -Bool.forall_bool, vcsE1, vcsE2, vcsE3, vcsE4, vcsE5, vcsE6, vcsE7, vcsE8, vcsE9, vcsE10, vcsE11, vcsE12, vcsE13, vcsE14, vcsE15, vcsE16, vcsE17, vcsE18, vcsE19, Sx.get, Sx.look, Sx.put, pureFn, findOrd, unF, dstOk, isFloatT, endVC, resFn, packC, newFn, storeFn, buildFn, undef, known, aggT, cellsC, Value.cells, findCon, Con.pure, Con.some, allV, partsV, partsC, fillL, Sx.exitTo, fAr, C.one, Value.oneCell', eqFn, eqFieldsFn, eqElemsFn, partFn, and_assoc, List.zipIdx, sliceFn, boundFn, AppV, CopyV, MakeSliceV, NewsV, GrowV, TextV, bytesL, notInt, typeAt, argAt, Con.read, Con.make, Con.ext, Con.rel, den, Con.extS, Con.draw, Con.step, Draws.steps, Tryz.f165, sArgC, sNotEC, sResetC, sStepC, sCalcC, hm, a0, a1, h22, h23, h25, h30, h37, whenM, n31, n30, n36, n37]
      first | exact isMem_self hm | exact fun _ => isMem_self hm | exact fun _ _ => isMem_self hm
  · have n31 : ¬ (31 ≤ op ∧ op ≤ 35) := by omega
    have n30 : ¬ op = 30 := by omega
    have n36 : ¬ op = 36 := by omega
    have n37 : ¬ op = 37 := by omega
    simp (maxSteps := 4000000) -dsimp [-List.all_eq_true, -Array.all_eq_true, -Bool.exists_bool, -Bool.forall_bool, vcsE1, vcsE2, vcsE3, vcsE4, vcsE5, vcsE6, vcsE7, vcsE8, vcsE9, vcsE10, vcsE11, vcsE12, vcsE13, vcsE14, vcsE15, vcsE16, vcsE17, vcsE18, vcsE19, Sx.get, Sx.look, Sx.put, pureFn, findOrd, unF, dstOk, isFloatT, endVC, resFn, packC, newFn, storeFn, buildFn, undef, known, aggT, cellsC, Value.cells, findCon, Con.pure, Con.some, allV, partsV, partsC, fillL, Sx.exitTo, fAr, C.one, Value.oneCell', eqFn, eqFieldsFn, eqElemsFn, partFn, and_assoc, List.zipIdx, sliceFn, boundFn, AppV, CopyV, MakeSliceV, NewsV, GrowV, TextV, bytesL, notInt, typeAt, argAt, Con.read, Con.make, Con.ext, Con.rel, den, Con.extS, Con.draw, Con.step, Draws.steps, Tryz.f165, sArgC, sNotEC, sResetC, sStepC, sCalcC, hm, a0, a1, h22, h23, h25, h30, whenM, n31, n30, n36, n37]
    first | exact isMem_self hm | exact fun _ => isMem_self hm | exact fun _ _ => isMem_self hm
def sWhenC_S : Rels Tryz.prog 165 where
  ι := ((M) × (Int) × (Option Addr) × (Nat) × (List Dev))
  A := fun (i : ((M) × (Int) × (Option Addr) × (Nat) × (List Dev))) => match i with | (m, op, o, cap, xs) => [.agg (cells m), .agg #[.int .i64 op, .slice o xs.length cap]]
  pre := fun (i : ((M) × (Int) × (Option Addr) × (Nat) × (List Dev))) (F : Facts) => match i with | (m, op, o, cap, xs) => RdD F o xs ∧ MOk m
  post := fun (i : ((M) × (Int) × (Option Addr) × (Nat) × (List Dev))) => match i with | (m, op, o, cap, xs) => fun v => IsMem v (whenM m op (argD xs 0) (argD xs 1) (argD xs 2))
  mono := by
    intro i F G hs h
    first | exact h | exact h.mono hs | exact ⟨h.1.mono hs, h.2⟩ | exact ⟨h.1.mono hs, h.2.1.mono hs, h.2.2⟩ | exact ⟨h.1.mono hs, h.2.1.mono hs⟩
  enter := Tryz.call165
  h := fun i w hp => sWhenC_c i.1 i.2.1 i.2.2.1 i.2.2.2.1 i.2.2.2.2 w (by rw [factF_init]; exact hp)
def sWhenC : Con Tryz.prog := Con.rel sWhenC_S
theorem sActDoC_c (m : M) (op : Int) (o : Option Addr) (cap : Nat) (xs : List Dev) (cur : Bool) (dt : Int) (w : World) (hpre : RdD (factF ⟨w, [], w, []⟩) o xs ∧ MOk m ∧ 0 ≤ dt ∧ dt < 65536) : Calls Tryz.prog 81 #[.agg (cells m), .agg #[.int .i64 op, .slice o xs.length cap], .bool cur, .int .u16 dt] w fun e w' => ∃ v, e = .returned v ∧ (fun r => IsMem r (doM m op (argD xs 0) (argD xs 1) (argD xs 2) cur dt)) v ∧ RowKit.Below w.heap.size w w' := by
  refine plain_of_vcs ⟨[sArgC, sNotEC, sMemBitC, sMemPutC, sTimeC, sCountC, sWhenC], []⟩ hmx Tryz.func81 rfl (by kernel_rfl) (args := [.agg (cells m), .agg #[.int .i64 op, .slice o xs.length cap], .bool cur, .int .u16 dt]) (by simp [Tryz.ntmps81]) w (fun r => IsMem r (doM m op (argD xs 0) (argD xs 1) (argD xs 2) cur dt)) 400 ?_
  obtain ⟨h, hm, hd1, hd2⟩ := hpre
  have a0 := fun d mem K => sArgC_rw (op := op) (cap := cap) (d := d) (cx := ⟨w, [], w, []⟩) (mem := mem) (K := K) (j := 0) ⟨h.mono (sub_now _ _), by decide⟩
  have a1 := fun d mem K => sArgC_rw (op := op) (cap := cap) (d := d) (cx := ⟨w, [], w, []⟩) (mem := mem) (K := K) (j := 1) ⟨h.mono (sub_now _ _), by decide⟩
  simp only [Int.toNat_zero, Int.toNat_one] at a0 a1
  have pb := preset_bd (b := argD xs 1) hm
  by_cases h21 : op = 21
  · subst h21
    simp (maxSteps := 4000000) -dsimp [-List.all_eq_true, -Array.all_eq_true, -Bool.exists_bool, -Bool.forall_bool, vcsE1, vcsE2, vcsE3, vcsE4, vcsE5, vcsE6, vcsE7, vcsE8, vcsE9, vcsE10, vcsE11, vcsE12, vcsE13, vcsE14, vcsE15, vcsE16, vcsE17, vcsE18, vcsE19, Sx.get, Sx.look, Sx.put, pureFn, findOrd, unF, dstOk, isFloatT, endVC, resFn, packC, newFn, storeFn, buildFn, undef, known, aggT, cellsC, Value.cells, findCon, Con.pure, Con.some, allV, partsV, partsC, fillL, Sx.exitTo, fAr, C.one, Value.oneCell', eqFn, eqFieldsFn, eqElemsFn, partFn, and_assoc, List.zipIdx, sliceFn, boundFn, AppV, CopyV, MakeSliceV, NewsV, GrowV, TextV, bytesL, notInt, typeAt, argAt, Con.read, Con.make, Con.ext, Con.rel, den, Con.extS, Con.draw, Con.step, Draws.steps, Tryz.f81, sArgC, sNotEC, sMemBitC, sMemPutC, sTimeC, sCountC, sWhenC, hm, a0, a1, doM]
    exact isMem_self (putBM_ok hm)
  by_cases h24 : op = 24
  · subst h24
    have hk1 := fun v => putBM_ok (a := argD xs 0) (v := v) hm
    have eb : ∀ v, putBM m ⟨(argD xs 0).k, (argD xs 0).n, (argD xs 0).p⟩ v = putBM m (argD xs 0) v := fun _ => rfl
    by_cases h5 : (argD xs 1).k = 5
    · cases cur
      · simp (maxSteps := 4000000) -dsimp [-List.all_eq_true, -Array.all_eq_true, -Bool.exists_bool, -Bool.forall_bool, vcsE1, vcsE2, vcsE3, vcsE4, vcsE5, vcsE6, vcsE7, vcsE8, vcsE9, vcsE10, vcsE11, vcsE12, vcsE13, vcsE14, vcsE15, vcsE16, vcsE17, vcsE18, vcsE19, Sx.get, Sx.look, Sx.put, pureFn, findOrd, unF, dstOk, isFloatT, endVC, resFn, packC, newFn, storeFn, buildFn, undef, known, aggT, cellsC, Value.cells, findCon, Con.pure, Con.some, allV, partsV, partsC, fillL, Sx.exitTo, fAr, C.one, Value.oneCell', eqFn, eqFieldsFn, eqElemsFn, partFn, and_assoc, List.zipIdx, sliceFn, boundFn, AppV, CopyV, MakeSliceV, NewsV, GrowV, TextV, bytesL, notInt, typeAt, argAt, Con.read, Con.make, Con.ext, Con.rel, den, Con.extS, Con.draw, Con.step, Draws.steps, Tryz.f81, sArgC, sNotEC, sMemBitC, sMemPutC, sTimeC, sCountC, sWhenC, hm, a0, a1, doM, h5, eb, hk1, keepM]
        exact isMem_self (memPut_ok (hk1 _))
      · cases hmb : memBit m 5 (argD xs 1).n
        · simp (maxSteps := 4000000) -dsimp [-List.all_eq_true, -Array.all_eq_true, -Bool.exists_bool, -Bool.forall_bool, vcsE1, vcsE2, vcsE3, vcsE4, vcsE5, vcsE6, vcsE7, vcsE8, vcsE9, vcsE10, vcsE11, vcsE12, vcsE13, vcsE14, vcsE15, vcsE16, vcsE17, vcsE18, vcsE19, Sx.get, Sx.look, Sx.put, pureFn, findOrd, unF, dstOk, isFloatT, endVC, resFn, packC, newFn, storeFn, buildFn, undef, known, aggT, cellsC, Value.cells, findCon, Con.pure, Con.some, allV, partsV, partsC, fillL, Sx.exitTo, fAr, C.one, Value.oneCell', eqFn, eqFieldsFn, eqElemsFn, partFn, and_assoc, List.zipIdx, sliceFn, boundFn, AppV, CopyV, MakeSliceV, NewsV, GrowV, TextV, bytesL, notInt, typeAt, argAt, Con.read, Con.make, Con.ext, Con.rel, den, Con.extS, Con.draw, Con.step, Draws.steps, Tryz.f81, sArgC, sNotEC, sMemBitC, sMemPutC, sTimeC, sCountC, sWhenC, hm, a0, a1, doM, h5, eb, hk1, hmb, keepM, wasB]
          exact isMem_self (memPut_ok (hk1 _))
        · simp (maxSteps := 4000000) -dsimp [-List.all_eq_true, -Array.all_eq_true, -Bool.exists_bool, -Bool.forall_bool, vcsE1, vcsE2, vcsE3, vcsE4, vcsE5, vcsE6, vcsE7, vcsE8, vcsE9, vcsE10, vcsE11, vcsE12, vcsE13, vcsE14, vcsE15, vcsE16, vcsE17, vcsE18, vcsE19, Sx.get, Sx.look, Sx.put, pureFn, findOrd, unF, dstOk, isFloatT, endVC, resFn, packC, newFn, storeFn, buildFn, undef, known, aggT, cellsC, Value.cells, findCon, Con.pure, Con.some, allV, partsV, partsC, fillL, Sx.exitTo, fAr, C.one, Value.oneCell', eqFn, eqFieldsFn, eqElemsFn, partFn, and_assoc, List.zipIdx, sliceFn, boundFn, AppV, CopyV, MakeSliceV, NewsV, GrowV, TextV, bytesL, notInt, typeAt, argAt, Con.read, Con.make, Con.ext, Con.rel, den, Con.extS, Con.draw, Con.step, Draws.steps, Tryz.f81, sArgC, sNotEC, sMemBitC, sMemPutC, sTimeC, sCountC, sWhenC, hm, a0, a1, doM, h5, eb, hk1, hmb, keepM, wasB]
          exact isMem_self (memPut_ok (hk1 _))
    · cases cur
      · simp (maxSteps := 4000000) -dsimp [-List.all_eq_true, -Array.all_eq_true, -Bool.exists_bool, -Bool.forall_bool, vcsE1, vcsE2, vcsE3, vcsE4, vcsE5, vcsE6, vcsE7, vcsE8, vcsE9, vcsE10, vcsE11, vcsE12, vcsE13, vcsE14, vcsE15, vcsE16, vcsE17, vcsE18, vcsE19, Sx.get, Sx.look, Sx.put, pureFn, findOrd, unF, dstOk, isFloatT, endVC, resFn, packC, newFn, storeFn, buildFn, undef, known, aggT, cellsC, Value.cells, findCon, Con.pure, Con.some, allV, partsV, partsC, fillL, Sx.exitTo, fAr, C.one, Value.oneCell', eqFn, eqFieldsFn, eqElemsFn, partFn, and_assoc, List.zipIdx, sliceFn, boundFn, AppV, CopyV, MakeSliceV, NewsV, GrowV, TextV, bytesL, notInt, typeAt, argAt, Con.read, Con.make, Con.ext, Con.rel, den, Con.extS, Con.draw, Con.step, Draws.steps, Tryz.f81, sArgC, sNotEC, sMemBitC, sMemPutC, sTimeC, sCountC, sWhenC, hm, a0, a1, doM, h5, eb, hk1, keepM, wasB]
        exact isMem_self (hk1 _)
      · simp (maxSteps := 4000000) -dsimp [-List.all_eq_true, -Array.all_eq_true, -Bool.exists_bool, -Bool.forall_bool, vcsE1, vcsE2, vcsE3, vcsE4, vcsE5, vcsE6, vcsE7, vcsE8, vcsE9, vcsE10, vcsE11, vcsE12, vcsE13, vcsE14, vcsE15, vcsE16, vcsE17, vcsE18, vcsE19, Sx.get, Sx.look, Sx.put, pureFn, findOrd, unF, dstOk, isFloatT, endVC, resFn, packC, newFn, storeFn, buildFn, undef, known, aggT, cellsC, Value.cells, findCon, Con.pure, Con.some, allV, partsV, partsC, fillL, Sx.exitTo, fAr, C.one, Value.oneCell', eqFn, eqFieldsFn, eqElemsFn, partFn, and_assoc, List.zipIdx, sliceFn, boundFn, AppV, CopyV, MakeSliceV, NewsV, GrowV, TextV, bytesL, notInt, typeAt, argAt, Con.read, Con.make, Con.ext, Con.rel, den, Con.extS, Con.draw, Con.step, Draws.steps, Tryz.f81, sArgC, sNotEC, sMemBitC, sMemPutC, sTimeC, sCountC, sWhenC, hm, a0, a1, doM, h5, eb, hk1, keepM, wasB]
        exact isMem_self (hk1 _)
  by_cases h29 : op = 29
  · subst h29
    simp (maxSteps := 4000000) -dsimp [-List.all_eq_true, -Array.all_eq_true, -Bool.exists_bool, -Bool.forall_bool, vcsE1, vcsE2, vcsE3, vcsE4, vcsE5, vcsE6, vcsE7, vcsE8, vcsE9, vcsE10, vcsE11, vcsE12, vcsE13, vcsE14, vcsE15, vcsE16, vcsE17, vcsE18, vcsE19, Sx.get, Sx.look, Sx.put, pureFn, findOrd, unF, dstOk, isFloatT, endVC, resFn, packC, newFn, storeFn, buildFn, undef, known, aggT, cellsC, Value.cells, findCon, Con.pure, Con.some, allV, partsV, partsC, fillL, Sx.exitTo, fAr, C.one, Value.oneCell', eqFn, eqFieldsFn, eqElemsFn, partFn, and_assoc, List.zipIdx, sliceFn, boundFn, AppV, CopyV, MakeSliceV, NewsV, GrowV, TextV, bytesL, notInt, typeAt, argAt, Con.read, Con.make, Con.ext, Con.rel, den, Con.extS, Con.draw, Con.step, Draws.steps, Tryz.f81, sArgC, sNotEC, sMemBitC, sMemPutC, sTimeC, sCountC, sWhenC, hm, a0, a1, doM]
    intro b b1 b2
    refine (sCountC_rw ⟨h.mono (sub_now _ _), hm⟩).mpr ?_
    simp (maxSteps := 4000000) -dsimp [-List.all_eq_true, -Array.all_eq_true, -Bool.exists_bool, -Bool.forall_bool, vcsE1, vcsE2, vcsE3, vcsE4, vcsE5, vcsE6, vcsE7, vcsE8, vcsE9, vcsE10, vcsE11, vcsE12, vcsE13, vcsE14, vcsE15, vcsE16, vcsE17, vcsE18, vcsE19, Sx.get, Sx.look, Sx.put, pureFn, findOrd, unF, dstOk, isFloatT, endVC, resFn, packC, newFn, storeFn, buildFn, undef, known, aggT, cellsC, Value.cells, findCon, Con.pure, Con.some, allV, partsV, partsC, fillL, Sx.exitTo, fAr, C.one, Value.oneCell', eqFn, eqFieldsFn, eqElemsFn, partFn, and_assoc, List.zipIdx, sliceFn, boundFn, AppV, CopyV, MakeSliceV, NewsV, GrowV, TextV, bytesL, notInt, typeAt, argAt, Con.read, Con.make, Con.ext, Con.rel, den, Con.extS, Con.draw, Con.step, Draws.steps, Tryz.f81, sArgC, sNotEC, sMemBitC, sMemPutC, sTimeC, sCountC, sWhenC]
    exact isMem_self (counterM_ok hm)
  by_cases h26 : op = 26 ∨ op = 27 ∨ op = 28
  · have hsv := h26
    rcases h26 with rfl | rfl | rfl
    all_goals
      simp (maxSteps := 4000000) -dsimp [-List.all_eq_true, -Array.all_eq_true, -Bool.exists_bool, -Bool.forall_bool, vcsE1, vcsE2, vcsE3, vcsE4, vcsE5, vcsE6, vcsE7, vcsE8, vcsE9, vcsE10, vcsE11, vcsE12, vcsE13, vcsE14, vcsE15, vcsE16, vcsE17, vcsE18, vcsE19, Sx.get, Sx.look, Sx.put, pureFn, findOrd, unF, dstOk, isFloatT, endVC, resFn, packC, newFn, storeFn, buildFn, undef, known, aggT, cellsC, Value.cells, findCon, Con.pure, Con.some, allV, partsV, partsC, fillL, Sx.exitTo, fAr, C.one, Value.oneCell', eqFn, eqFieldsFn, eqElemsFn, partFn, and_assoc, List.zipIdx, sliceFn, boundFn, AppV, CopyV, MakeSliceV, NewsV, GrowV, TextV, bytesL, notInt, typeAt, argAt, Con.read, Con.make, Con.ext, Con.rel, den, Con.extS, Con.draw, Con.step, Draws.steps, Tryz.f81, sArgC, sNotEC, sMemBitC, sMemPutC, sTimeC, sCountC, sWhenC, hm, a0, a1, doM]
      intro b b1 b2
      refine (sTimeC_rw ⟨h.mono (sub_now _ _), hm, hd1, hd2, hsv⟩).mpr ?_
      simp (maxSteps := 4000000) -dsimp [-List.all_eq_true, -Array.all_eq_true, -Bool.exists_bool, -Bool.forall_bool, vcsE1, vcsE2, vcsE3, vcsE4, vcsE5, vcsE6, vcsE7, vcsE8, vcsE9, vcsE10, vcsE11, vcsE12, vcsE13, vcsE14, vcsE15, vcsE16, vcsE17, vcsE18, vcsE19, Sx.get, Sx.look, Sx.put, pureFn, findOrd, unF, dstOk, isFloatT, endVC, resFn, packC, newFn, storeFn, buildFn, undef, known, aggT, cellsC, Value.cells, findCon, Con.pure, Con.some, allV, partsV, partsC, fillL, Sx.exitTo, fAr, C.one, Value.oneCell', eqFn, eqFieldsFn, eqElemsFn, partFn, and_assoc, List.zipIdx, sliceFn, boundFn, AppV, CopyV, MakeSliceV, NewsV, GrowV, TextV, bytesL, notInt, typeAt, argAt, Con.read, Con.make, Con.ext, Con.rel, den, Con.extS, Con.draw, Con.step, Draws.steps, Tryz.f81, sArgC, sNotEC, sMemBitC, sMemPutC, sTimeC, sCountC, sWhenC]
      exact isMem_self (timerM_ok hm hd1 pb)
  have n26 : ¬ op = 26 := fun h => h26 (Or.inl h)
  have n27 : ¬ op = 27 := fun h => h26 (Or.inr (Or.inl h))
  have n28 : ¬ op = 28 := fun h => h26 (Or.inr (Or.inr h))
  clear h26
  cases cur
  · simp (maxSteps := 4000000) -dsimp [-List.all_eq_true, -Array.all_eq_true, -Bool.exists_bool, -Bool.forall_bool, vcsE1, vcsE2, vcsE3, vcsE4, vcsE5, vcsE6, vcsE7, vcsE8, vcsE9, vcsE10, vcsE11, vcsE12, vcsE13, vcsE14, vcsE15, vcsE16, vcsE17, vcsE18, vcsE19, Sx.get, Sx.look, Sx.put, pureFn, findOrd, unF, dstOk, isFloatT, endVC, resFn, packC, newFn, storeFn, buildFn, undef, known, aggT, cellsC, Value.cells, findCon, Con.pure, Con.some, allV, partsV, partsC, fillL, Sx.exitTo, fAr, C.one, Value.oneCell', eqFn, eqFieldsFn, eqElemsFn, partFn, and_assoc, List.zipIdx, sliceFn, boundFn, AppV, CopyV, MakeSliceV, NewsV, GrowV, TextV, bytesL, notInt, typeAt, argAt, Con.read, Con.make, Con.ext, Con.rel, den, Con.extS, Con.draw, Con.step, Draws.steps, Tryz.f81, sArgC, sNotEC, sMemBitC, sMemPutC, sTimeC, sCountC, sWhenC, hm, a0, a1, doM, h21, h24, h29, n26, n27, n28]
    exact isMem_self hm
  · simp (maxSteps := 4000000) -dsimp [-List.all_eq_true, -Array.all_eq_true, -Bool.exists_bool, -Bool.forall_bool, vcsE1, vcsE2, vcsE3, vcsE4, vcsE5, vcsE6, vcsE7, vcsE8, vcsE9, vcsE10, vcsE11, vcsE12, vcsE13, vcsE14, vcsE15, vcsE16, vcsE17, vcsE18, vcsE19, Sx.get, Sx.look, Sx.put, pureFn, findOrd, unF, dstOk, isFloatT, endVC, resFn, packC, newFn, storeFn, buildFn, undef, known, aggT, cellsC, Value.cells, findCon, Con.pure, Con.some, allV, partsV, partsC, fillL, Sx.exitTo, fAr, C.one, Value.oneCell', eqFn, eqFieldsFn, eqElemsFn, partFn, and_assoc, List.zipIdx, sliceFn, boundFn, AppV, CopyV, MakeSliceV, NewsV, GrowV, TextV, bytesL, notInt, typeAt, argAt, Con.read, Con.make, Con.ext, Con.rel, den, Con.extS, Con.draw, Con.step, Draws.steps, Tryz.f81, sArgC, sNotEC, sMemBitC, sMemPutC, sTimeC, sCountC, sWhenC, hm, a0, a1, doM, h21, h24, h29, n26, n27, n28]
    intro b b1 b2
    refine ⟨(m, op, o, cap, xs), rfl, ⟨h.mono (sub_now _ _), hm⟩, fun v hv => ?_⟩
    obtain ⟨m', rfl, s1, s2⟩ := hv.ex
    simp (maxSteps := 4000000) -dsimp [-List.all_eq_true, -Array.all_eq_true, -Bool.exists_bool, -Bool.forall_bool, vcsE1, vcsE2, vcsE3, vcsE4, vcsE5, vcsE6, vcsE7, vcsE8, vcsE9, vcsE10, vcsE11, vcsE12, vcsE13, vcsE14, vcsE15, vcsE16, vcsE17, vcsE18, vcsE19, Sx.get, Sx.look, Sx.put, pureFn, findOrd, unF, dstOk, isFloatT, endVC, resFn, packC, newFn, storeFn, buildFn, undef, known, aggT, cellsC, Value.cells, findCon, Con.pure, Con.some, allV, partsV, partsC, fillL, Sx.exitTo, fAr, C.one, Value.oneCell', eqFn, eqFieldsFn, eqElemsFn, partFn, and_assoc, List.zipIdx, sliceFn, boundFn, AppV, CopyV, MakeSliceV, NewsV, GrowV, TextV, bytesL, notInt, typeAt, argAt, Con.read, Con.make, Con.ext, Con.rel, den, Con.extS, Con.draw, Con.step, Draws.steps, Tryz.f81, sArgC, sNotEC, sMemBitC, sMemPutC, sTimeC, sCountC, sWhenC]
    have e : doM m op (argD xs 0) (argD xs 1) (argD xs 2) true dt = whenM m op (argD xs 0) (argD xs 1) (argD xs 2) := by simp [doM, h21, h24, h29, n26, n27, n28]
    try rw [e]
    exact ⟨_, rfl, s1, s2⟩
def sActDoC_S : Rels Tryz.prog 81 where
  ι := ((M) × (Int) × (Option Addr) × (Nat) × (List Dev) × (Bool) × (Int))
  A := fun (i : ((M) × (Int) × (Option Addr) × (Nat) × (List Dev) × (Bool) × (Int))) => match i with | (m, op, o, cap, xs, cur, dt) => [.agg (cells m), .agg #[.int .i64 op, .slice o xs.length cap], .bool cur, .int .u16 dt]
  pre := fun (i : ((M) × (Int) × (Option Addr) × (Nat) × (List Dev) × (Bool) × (Int))) (F : Facts) => match i with | (m, op, o, cap, xs, cur, dt) => RdD F o xs ∧ MOk m ∧ 0 ≤ dt ∧ dt < 65536
  post := fun (i : ((M) × (Int) × (Option Addr) × (Nat) × (List Dev) × (Bool) × (Int))) => match i with | (m, op, o, cap, xs, cur, dt) => fun r => IsMem r (doM m op (argD xs 0) (argD xs 1) (argD xs 2) cur dt)
  mono := by
    intro i F G hs h
    first | exact h | exact h.mono hs | exact ⟨h.1.mono hs, h.2⟩ | exact ⟨h.1.mono hs, h.2.1.mono hs, h.2.2⟩ | exact ⟨h.1.mono hs, h.2.1.mono hs⟩
  enter := Tryz.call81
  h := fun i w hp => sActDoC_c i.1 i.2.1 i.2.2.1 i.2.2.2.1 i.2.2.2.2.1 i.2.2.2.2.2.1 i.2.2.2.2.2.2 w (by rw [factF_init]; exact hp)
def sActDoC : Con Tryz.prog := Con.rel sActDoC_S
end Go.Proofs.YtmiicjgbhkjocaaGreat
