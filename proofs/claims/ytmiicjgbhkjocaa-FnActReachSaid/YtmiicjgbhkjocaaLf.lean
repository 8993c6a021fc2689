/-
  The law of coils, walked.
-/
import Derived.Test.YtmiicjgbhkjocaaGk
import Derived.Test.YtmiicjgbhkjocaaRt
import Derived.Test.YtmiicjgbhkjocaaDr
import Derived.Test.YtmiicjgbhkjocaaDw
import Derived.Test.YtmiicjgbhkjocaaEv
set_option linter.unusedVariables false
set_option linter.unusedSimpArgs false
set_option maxRecDepth 100000
set_option maxHeartbeats 4000000
namespace Go.Proofs.Ytmiicjgbhkjocaa
open Go Go.Sx

theorem butE_ok {m f : M} (h : MOk m) (op : Int) (b : Dev) : MOk (butE m f op b) := by
  unfold butE; split
  · exact memPut_ok h
  · exact h
theorem butN_ok {m f : M} (h : MOk m) (hf : MOk f) (op : Int) (a b : Dev) : MOk (butN m f op a b) := by
  unfold butN
  refine butE_ok ?_ op b
  unfold butS
  split
  · exact butG_ok _ _ (memPut_ok (butK_ok h hf a)) 8
  · exact memPut_ok (butK_ok h hf a)
theorem lawAReachC_c (o : Option Addr) (cap : Nat) (bs : List Int) (w : World) (hpre : RdB (factF ⟨w, [], w, []⟩) o bs ∧ ((∀ b ∈ bs, 0 ≤ b ∧ b < 256) ∧ bs.length ≤ cap ∧ cap ≤ maxLen)) : Calls Try.prog 11 #[.slice o bs.length cap] w fun e w' => e = .returned (.bool true) ∧ RowKit.Below w.heap.size w w' := by
  refine (plain_of_vcs ⟨[drawActDoC, actDoC, sActDoC, sMemSameC, memSameC, sCoilC, waButC], [(5, [(0, false), (1, false), (2, false), (3, false), (4, false), (5, false), (0, true), (6, false), (7, false)])]⟩ hmx Try.func11 rfl (by kernel_rfl) (args := [.slice o bs.length cap]) (by simp [Try.ntmps11]) w (· = .bool true) 400 ?_).mono fun e w' ⟨v, h1, h2, h3⟩ => ⟨h2 ▸ h1, h3⟩
  obtain ⟨h, hb⟩ := hpre
  by_cases hs : bs.length ≤ 1048576
  · have hs1 : ¬ (1048576 : Int) < bs.length := by omega
    simp (maxSteps := 4000000) -dsimp [-List.all_eq_true, -Array.all_eq_true, -Bool.exists_bool, -Bool.forall_bool, vcsE1, vcsE2, vcsE3, vcsE4, vcsE5, vcsE6, vcsE7, vcsE8, vcsE9, vcsE10, vcsE11, vcsE12, vcsE13, vcsE14, vcsE15, vcsE16, vcsE17, vcsE18, vcsE19, Sx.get, Sx.look, Sx.put, pureFn, findOrd, unF, dstOk, isFloatT, endVC, resFn, packC, newFn, storeFn, buildFn, undef, known, aggT, cellsC, Value.cells, findCon, Con.pure, Con.some, allV, partsV, partsC, fillL, Sx.exitTo, fAr, C.one, Value.oneCell', eqFn, eqFieldsFn, eqElemsFn, partFn, and_assoc, List.zipIdx, sliceFn, boundFn, AppV, CopyV, MakeSliceV, NewsV, GrowV, TextV, bytesL, notInt, typeAt, argAt, Con.read, Con.make, Con.ext, Con.rel, den, Con.extS, Con.draw, Con.step, Draws.steps, Try.f11, drawActDoC, actDoC, sActDoC, sMemSameC, memSameC, sCoilC, waButC, hs1, Con.gen]
    refine drawActDoC_at ⟨h, hb⟩ ?_
    rintro cx1 c mem1 ⟨hle1, rfl, m, op, o1, cap1, xs, v, dt, rfl, hm, hd, hxl, hd1, hd2⟩
    have hw := hle1.w0
    have hg := hle1.g0
    have t3 := fun (d : Nat) (mem : List Blk) (K : C → Prop) => sCoilC_rw (d := d) (cx := cx1) (mem := mem) (K := K) (op := op) (o := o1) (cap := cap1) (xs := xs) ⟨hd.mono (sub_now _ _), by omega⟩
    simp (maxSteps := 4000000) -dsimp [-List.all_eq_true, -Array.all_eq_true, -Bool.exists_bool, -Bool.forall_bool, vcsE1, vcsE2, vcsE3, vcsE4, vcsE5, vcsE6, vcsE7, vcsE8, vcsE9, vcsE10, vcsE11, vcsE12, vcsE13, vcsE14, vcsE15, vcsE16, vcsE17, vcsE18, vcsE19, Sx.get, Sx.look, Sx.put, pureFn, findOrd, unF, dstOk, isFloatT, endVC, resFn, packC, newFn, storeFn, buildFn, undef, known, aggT, cellsC, Value.cells, findCon, Con.pure, Con.some, allV, partsV, partsC, fillL, Sx.exitTo, fAr, C.one, Value.oneCell', eqFn, eqFieldsFn, eqElemsFn, partFn, and_assoc, List.zipIdx, sliceFn, boundFn, AppV, CopyV, MakeSliceV, NewsV, GrowV, TextV, bytesL, notInt, typeAt, argAt, Con.read, Con.make, Con.ext, Con.rel, den, Con.extS, Con.draw, Con.step, Draws.steps, Try.f11, drawActDoC, actDoC, sActDoC, sMemSameC, memSameC, sCoilC, waButC]
    intro b1 b2
    refine ⟨(m, op, o1, cap1, xs, v, dt), rfl, ⟨hd.mono (sub_now _ _), hm, hd1, hd2⟩, fun r hr => ?_⟩
    obtain ⟨m1, rfl, s1, k1⟩ := hr.ex
    simp (maxSteps := 4000000) -dsimp [-List.all_eq_true, -Array.all_eq_true, -Bool.exists_bool, -Bool.forall_bool, vcsE1, vcsE2, vcsE3, vcsE4, vcsE5, vcsE6, vcsE7, vcsE8, vcsE9, vcsE10, vcsE11, vcsE12, vcsE13, vcsE14, vcsE15, vcsE16, vcsE17, vcsE18, vcsE19, Sx.get, Sx.look, Sx.put, pureFn, findOrd, unF, dstOk, isFloatT, endVC, resFn, packC, newFn, storeFn, buildFn, undef, known, aggT, cellsC, Value.cells, findCon, Con.pure, Con.some, allV, partsV, partsC, fillL, Sx.exitTo, fAr, C.one, Value.oneCell', eqFn, eqFieldsFn, eqElemsFn, partFn, and_assoc, List.zipIdx, sliceFn, boundFn, AppV, CopyV, MakeSliceV, NewsV, GrowV, TextV, bytesL, notInt, typeAt, argAt, Con.read, Con.make, Con.ext, Con.rel, den, Con.extS, Con.draw, Con.step, Draws.steps, Try.f11, drawActDoC, actDoC, sActDoC, sMemSameC, memSameC, sCoilC, waButC]
    intro b3
    refine ⟨(m, op, o1, cap1, xs, v, dt), rfl, ⟨hd.mono (sub_now _ _), hm, hd1, hd2⟩, fun r hr => ?_⟩
    obtain ⟨m2, rfl, s2, k2⟩ := hr.ex
    have e12 : msB m1 m2 = true := msB_iff.2 (s1.trans s2.symm)
    cases hc : coilOk op xs
    · simp (maxSteps := 4000000) -dsimp [-List.all_eq_true, -Array.all_eq_true, -Bool.exists_bool, -Bool.forall_bool, vcsE1, vcsE2, vcsE3, vcsE4, vcsE5, vcsE6, vcsE7, vcsE8, vcsE9, vcsE10, vcsE11, vcsE12, vcsE13, vcsE14, vcsE15, vcsE16, vcsE17, vcsE18, vcsE19, Sx.get, Sx.look, Sx.put, pureFn, findOrd, unF, dstOk, isFloatT, endVC, resFn, packC, newFn, storeFn, buildFn, undef, known, aggT, cellsC, Value.cells, findCon, Con.pure, Con.some, allV, partsV, partsC, fillL, Sx.exitTo, fAr, C.one, Value.oneCell', eqFn, eqFieldsFn, eqElemsFn, partFn, and_assoc, List.zipIdx, sliceFn, boundFn, AppV, CopyV, MakeSliceV, NewsV, GrowV, TextV, bytesL, notInt, typeAt, argAt, Con.read, Con.make, Con.ext, Con.rel, den, Con.extS, Con.draw, Con.step, Draws.steps, Try.f11, drawActDoC, actDoC, sActDoC, sMemSameC, memSameC, sCoilC, waButC, k1, k2, e12, t3, hc, hw, hg]
    · have hbd := but_do hm hc v dt
      have hbs := butN_same s1 m op (argD xs 0) (argD xs 1)
      rw [hbd] at hbs
      have e3 : msB (butN m1 m op (argD xs 0) (argD xs 1)) m = true := msB_iff.2 hbs
      have t4 := fun (d : Nat) (mem : List Blk) (K : C → Prop) => waButC_rw (d := d) (cx := cx1) (mem := mem) (K := K) (m := m1) (f := m) (op := op) (o := o1) (cap := cap1) (xs := xs) ⟨hd.mono (sub_now _ _), k1, hm, hc⟩
      cases v
      · by_cases hop : op = 22 ∨ op = 23 ∨ op = 25 ∨ 30 ≤ op
        · rw [do_off hop] at s1
          have e4 : msB m1 m = true := msB_iff.2 s1
          simp (maxSteps := 4000000) -dsimp [-List.all_eq_true, -Array.all_eq_true, -Bool.exists_bool, -Bool.forall_bool, vcsE1, vcsE2, vcsE3, vcsE4, vcsE5, vcsE6, vcsE7, vcsE8, vcsE9, vcsE10, vcsE11, vcsE12, vcsE13, vcsE14, vcsE15, vcsE16, vcsE17, vcsE18, vcsE19, Sx.get, Sx.look, Sx.put, pureFn, findOrd, unF, dstOk, isFloatT, endVC, resFn, packC, newFn, storeFn, buildFn, undef, known, aggT, cellsC, Value.cells, findCon, Con.pure, Con.some, allV, partsV, partsC, fillL, Sx.exitTo, fAr, C.one, Value.oneCell', eqFn, eqFieldsFn, eqElemsFn, partFn, and_assoc, List.zipIdx, sliceFn, boundFn, AppV, CopyV, MakeSliceV, NewsV, GrowV, TextV, bytesL, notInt, typeAt, argAt, Con.read, Con.make, Con.ext, Con.rel, den, Con.extS, Con.draw, Con.step, Draws.steps, Try.f11, drawActDoC, actDoC, sActDoC, sMemSameC, memSameC, sCoilC, waButC, k1, k2, e12, t3, t4, hc, hw, hg, e3, e4]
        · have n1 : ¬ op = 22 ∧ ¬ op = 23 ∧ ¬ op = 25 ∧ ¬ 30 ≤ op := by omega
          simp (maxSteps := 4000000) -dsimp [-List.all_eq_true, -Array.all_eq_true, -Bool.exists_bool, -Bool.forall_bool, vcsE1, vcsE2, vcsE3, vcsE4, vcsE5, vcsE6, vcsE7, vcsE8, vcsE9, vcsE10, vcsE11, vcsE12, vcsE13, vcsE14, vcsE15, vcsE16, vcsE17, vcsE18, vcsE19, Sx.get, Sx.look, Sx.put, pureFn, findOrd, unF, dstOk, isFloatT, endVC, resFn, packC, newFn, storeFn, buildFn, undef, known, aggT, cellsC, Value.cells, findCon, Con.pure, Con.some, allV, partsV, partsC, fillL, Sx.exitTo, fAr, C.one, Value.oneCell', eqFn, eqFieldsFn, eqElemsFn, partFn, and_assoc, List.zipIdx, sliceFn, boundFn, AppV, CopyV, MakeSliceV, NewsV, GrowV, TextV, bytesL, notInt, typeAt, argAt, Con.read, Con.make, Con.ext, Con.rel, den, Con.extS, Con.draw, Con.step, Draws.steps, Try.f11, drawActDoC, actDoC, sActDoC, sMemSameC, memSameC, sCoilC, waButC, k1, k2, e12, t3, t4, hc, hw, hg, e3, n1]
      · simp (maxSteps := 4000000) -dsimp [-List.all_eq_true, -Array.all_eq_true, -Bool.exists_bool, -Bool.forall_bool, vcsE1, vcsE2, vcsE3, vcsE4, vcsE5, vcsE6, vcsE7, vcsE8, vcsE9, vcsE10, vcsE11, vcsE12, vcsE13, vcsE14, vcsE15, vcsE16, vcsE17, vcsE18, vcsE19, Sx.get, Sx.look, Sx.put, pureFn, findOrd, unF, dstOk, isFloatT, endVC, resFn, packC, newFn, storeFn, buildFn, undef, known, aggT, cellsC, Value.cells, findCon, Con.pure, Con.some, allV, partsV, partsC, fillL, Sx.exitTo, fAr, C.one, Value.oneCell', eqFn, eqFieldsFn, eqElemsFn, partFn, and_assoc, List.zipIdx, sliceFn, boundFn, AppV, CopyV, MakeSliceV, NewsV, GrowV, TextV, bytesL, notInt, typeAt, argAt, Con.read, Con.make, Con.ext, Con.rel, den, Con.extS, Con.draw, Con.step, Draws.steps, Try.f11, drawActDoC, actDoC, sActDoC, sMemSameC, memSameC, sCoilC, waButC, k1, k2, e12, t3, t4, hc, hw, hg, e3]
  · have hs1 : (1048576 : Int) < bs.length := by omega
    simp (maxSteps := 4000000) -dsimp [-List.all_eq_true, -Array.all_eq_true, -Bool.exists_bool, -Bool.forall_bool, vcsE1, vcsE2, vcsE3, vcsE4, vcsE5, vcsE6, vcsE7, vcsE8, vcsE9, vcsE10, vcsE11, vcsE12, vcsE13, vcsE14, vcsE15, vcsE16, vcsE17, vcsE18, vcsE19, Sx.get, Sx.look, Sx.put, pureFn, findOrd, unF, dstOk, isFloatT, endVC, resFn, packC, newFn, storeFn, buildFn, undef, known, aggT, cellsC, Value.cells, findCon, Con.pure, Con.some, allV, partsV, partsC, fillL, Sx.exitTo, fAr, C.one, Value.oneCell', eqFn, eqFieldsFn, eqElemsFn, partFn, and_assoc, List.zipIdx, sliceFn, boundFn, AppV, CopyV, MakeSliceV, NewsV, GrowV, TextV, bytesL, notInt, typeAt, argAt, Con.read, Con.make, Con.ext, Con.rel, den, Con.extS, Con.draw, Con.step, Draws.steps, Try.f11, drawActDoC, actDoC, sActDoC, sMemSameC, memSameC, sCoilC, waButC, hs1]
def lawAReachC_S : Reads Try.prog 11 where
  ι := ((Option Addr) × (Nat) × (List Int))
  A := fun (i : ((Option Addr) × (Nat) × (List Int))) => match i with | (o, cap, bs) => [.slice o bs.length cap]
  pre := fun (i : ((Option Addr) × (Nat) × (List Int))) (F : Facts) => match i with | (o, cap, bs) => RdB F o bs ∧ ((∀ b ∈ bs, 0 ≤ b ∧ b < 256) ∧ bs.length ≤ cap ∧ cap ≤ maxLen)
  res := fun (i : ((Option Addr) × (Nat) × (List Int))) => match i with | (o, cap, bs) => .bool true
  mono := by
    intro i F G hs h
    first | exact h | exact h.mono hs | exact ⟨h.1.mono hs, h.2⟩ | exact ⟨h.1.mono hs, h.2.1.mono hs, h.2.2⟩ | exact ⟨h.1.mono hs, h.2.1.mono hs⟩
  uniq := by
    rintro ⟨o, cap, bs⟩ ⟨o', cap', bs'⟩ F hA h h'
    simp at hA
    (try simp only [Int.natCast_inj] at hA)
    obtain rfl : bs = bs' := RdB.uniq h.1 h'.1 (by simp_all) (by simp_all)
    simp_all
  enter := Try.call11
  h := fun i w hp => lawAReachC_c i.1 i.2.1 i.2.2 w (by rw [factF_init]; exact hp)
def lawAReachC : Con Try.prog := Con.read lawAReachC_S
theorem lawAReachC_rw {o : Option Addr} {cap : Nat} {bs : List Int} {d : Nat} {cx : Cx} {mem : List Blk} {K : C → Prop} (hpre : RdB (nowF cx mem) o bs ∧ ((∀ b ∈ bs, 0 ≤ b ∧ b < 256) ∧ bs.length ≤ cap ∧ cap ≤ maxLen)) : ReadV d lawAReachC_S cx [.v (.slice o bs.length cap)] mem K = K (.v (.bool true)) := lawAReachC_S.eq (o, cap, bs) rfl hpre
end Go.Proofs.Ytmiicjgbhkjocaa
