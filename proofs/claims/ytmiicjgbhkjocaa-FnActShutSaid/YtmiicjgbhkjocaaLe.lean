/-
  The law of contacts, walked.
-/
import Derived.Test.YtmiicjgbhkjocaaGl
import Derived.Test.YtmiicjgbhkjocaaSm
import Derived.Test.YtmiicjgbhkjocaaU
import Derived.Test.YtmiicjgbhkjocaaT
import Derived.Test.YtmiicjgbhkjocaaEt
set_option linter.unusedVariables false
set_option linter.unusedSimpArgs false
set_option maxRecDepth 100000
set_option maxHeartbeats 4000000
namespace Go.Proofs.Ytmiicjgbhkjocaa
open Go Go.Sx

theorem conOk_parts {op : Int} {xs : List Dev} (h : conOk op xs = true) : (1 ≤ op ∧ op ≤ 10) ∧ (xs.length : Int) = arity op ∧ conB op xs = true := by
  unfold conOk at h
  simp only [Bool.and_eq_true, decide_eq_true_eq] at h
  exact ⟨⟨h.1.1.1, h.1.1.2.1⟩, h.1.1.2.2, h.2⟩
theorem lawAShutC_c (o : Option Addr) (cap : Nat) (bs : List Int) (w : World) (hpre : RdB (factF ⟨w, [], w, []⟩) o bs ∧ ((∀ b ∈ bs, 0 ≤ b ∧ b < 256) ∧ bs.length ≤ cap ∧ cap ≤ maxLen)) : Calls Try.prog 10 #[.slice o bs.length cap] w fun e w' => e = .returned (.bool true) ∧ RowKit.Below w.heap.size w w' := by
  refine (plain_of_vcs ⟨[drawActTestC, actTestC, sActTestC, sConC, sMemBitC, memBitC, memPutC, memSameC], [(17, [(0, false), (1, false), (2, false), (3, false), (4, false), (5, true), (5, false), (6, false), (7, false), (8, false), (9, false), (10, false), (11, false), (12, false), (13, false)]), (18, [(0, false), (1, false), (2, false), (3, false), (4, false), (5, true), (5, false), (6, false), (7, false), (8, false), (9, false), (10, false), (11, false), (12, false), (13, false)])]⟩ hmx Try.func10 rfl (by kernel_rfl) (args := [.slice o bs.length cap]) (by simp [Try.ntmps10]) w (· = .bool true) 400 ?_).mono fun e w' ⟨v, h1, h2, h3⟩ => ⟨h2 ▸ h1, h3⟩
  obtain ⟨h, hb⟩ := hpre
  by_cases hs : bs.length ≤ 1048576
  · have hs1 : ¬ (1048576 : Int) < bs.length := by omega
    simp (maxSteps := 4000000) -dsimp [-List.all_eq_true, -Array.all_eq_true, -Bool.exists_bool, -Bool.forall_bool, vcsE1, vcsE2, vcsE3, vcsE4, vcsE5, vcsE6, vcsE7, vcsE8, vcsE9, vcsE10, vcsE11, vcsE12, vcsE13, vcsE14, vcsE15, vcsE16, vcsE17, vcsE18, vcsE19, Sx.get, Sx.look, Sx.put, pureFn, findOrd, unF, dstOk, isFloatT, endVC, resFn, packC, newFn, storeFn, buildFn, undef, known, aggT, cellsC, Value.cells, findCon, Con.pure, Con.some, allV, partsV, partsC, fillL, Sx.exitTo, fAr, C.one, Value.oneCell', eqFn, eqFieldsFn, eqElemsFn, partFn, and_assoc, List.zipIdx, sliceFn, boundFn, AppV, CopyV, MakeSliceV, NewsV, GrowV, TextV, bytesL, notInt, typeAt, argAt, Con.read, Con.make, Con.ext, Con.rel, den, Con.extS, Con.draw, Con.step, Draws.steps, Try.f10, drawActTestC, actTestC, sActTestC, sConC, sMemBitC, memBitC, memPutC, memSameC, hs1, Con.gen]
    refine drawActTestC_at ⟨h, hb⟩ ?_
    rintro cx1 c mem1 ⟨hle1, rfl, m, op, o1, cap1, xs, rfl, hm, hd, hxl⟩
    have hw := hle1.w0
    have hg := hle1.g0
    have t1 := fun (d : Nat) (mem : List Blk) (K : C → Prop) => actTestC_rw (d := d) (cx := cx1) (mem := mem) (K := K) (m := m) (op := op) (o := o1) (cap := cap1) (xs := xs) ⟨hd.mono (sub_now _ _), hm⟩
    have t2 := fun (d : Nat) (mem : List Blk) (K : C → Prop) => sActTestC_rw (d := d) (cx := cx1) (mem := mem) (K := K) (m := m) (op := op) (o := o1) (cap := cap1) (xs := xs) ⟨hd.mono (sub_now _ _), hm⟩
    have t3 := fun (d : Nat) (mem : List Blk) (K : C → Prop) => sConC_rw (d := d) (cx := cx1) (mem := mem) (K := K) (op := op) (o := o1) (cap := cap1) (xs := xs) ⟨hd.mono (sub_now _ _), by omega⟩
    have hself := msB_self m
    cases hc : conOk op xs
    · simp (maxSteps := 4000000) -dsimp [-List.all_eq_true, -Array.all_eq_true, -Bool.exists_bool, -Bool.forall_bool, vcsE1, vcsE2, vcsE3, vcsE4, vcsE5, vcsE6, vcsE7, vcsE8, vcsE9, vcsE10, vcsE11, vcsE12, vcsE13, vcsE14, vcsE15, vcsE16, vcsE17, vcsE18, vcsE19, Sx.get, Sx.look, Sx.put, pureFn, findOrd, unF, dstOk, isFloatT, endVC, resFn, packC, newFn, storeFn, buildFn, undef, known, aggT, cellsC, Value.cells, findCon, Con.pure, Con.some, allV, partsV, partsC, fillL, Sx.exitTo, fAr, C.one, Value.oneCell', eqFn, eqFieldsFn, eqElemsFn, partFn, and_assoc, List.zipIdx, sliceFn, boundFn, AppV, CopyV, MakeSliceV, NewsV, GrowV, TextV, bytesL, notInt, typeAt, argAt, Con.read, Con.make, Con.ext, Con.rel, den, Con.extS, Con.draw, Con.step, Draws.steps, Try.f10, drawActTestC, actTestC, sActTestC, sConC, sMemBitC, memBitC, memPutC, memSameC, t1, t2, t3, hc, hw, hg]
    obtain ⟨hop, hlen, hcb⟩ := conOk_parts hc
    by_cases h34 : op = 3 ∨ op = 4
    · have ha2 : arity op = 2 := by unfold arity; rcases h34 with rfl | rfl <;> decide
      obtain ⟨x, y, rfl⟩ := list_two (hlen.trans ha2)
      have hy5 : y.k = 5 := by
        unfold conB at hcb
        rw [if_neg (by omega), if_pos (by omega)] at hcb
        simp only [Bool.and_eq_true, decide_eq_true_eq] at hcb
        exact hcb.2
      have d0 := hd.at0 (x := x) rfl
      have d1 := hd.at1 (x := y) rfl
      have a0 : argD [x, y] 0 = x := rfl
      have a1 : argD [x, y] 1 = y := rfl
      have em : testM m op x y = memPut m 5 y.n (memBit m x.k x.n) := by
        unfold testM keepM
        rw [if_pos h34, if_pos hy5, hy5]
      have hp5 : isPutK 5 := by simp [isPutK]
      have hbit := memBit_self (n := y.n) (b := memBit m x.k x.n) hm hp5
      have hback := memPut_back (n := y.n) (b := memBit m x.k x.n) hm hp5
      have hpo := memPut_ok (k := 5) (n := y.n) (b := memBit m x.k x.n) hm
      simp only [List.length_cons, List.length_nil, Nat.reduceAdd] at t1 t2 t3
      rcases h34 with rfl | rfl
      · simp (maxSteps := 4000000) -dsimp [-List.all_eq_true, -Array.all_eq_true, -Bool.exists_bool, -Bool.forall_bool, vcsE1, vcsE2, vcsE3, vcsE4, vcsE5, vcsE6, vcsE7, vcsE8, vcsE9, vcsE10, vcsE11, vcsE12, vcsE13, vcsE14, vcsE15, vcsE16, vcsE17, vcsE18, vcsE19, Sx.get, Sx.look, Sx.put, pureFn, findOrd, unF, dstOk, isFloatT, endVC, resFn, packC, newFn, storeFn, buildFn, undef, known, aggT, cellsC, Value.cells, findCon, Con.pure, Con.some, allV, partsV, partsC, fillL, Sx.exitTo, fAr, C.one, Value.oneCell', eqFn, eqFieldsFn, eqElemsFn, partFn, and_assoc, List.zipIdx, sliceFn, boundFn, AppV, CopyV, MakeSliceV, NewsV, GrowV, TextV, bytesL, notInt, typeAt, argAt, Con.read, Con.make, Con.ext, Con.rel, den, Con.extS, Con.draw, Con.step, Draws.steps, Try.f10, drawActTestC, actTestC, sActTestC, sConC, sMemBitC, memBitC, memPutC, memSameC, t1, t2, t3, hc, a0, a1, em, hm, hpo, d0.there, d0.all, d1.there, d1.all, hy5, hbit, hback, hself, hw, hg]
      · simp (maxSteps := 4000000) -dsimp [-List.all_eq_true, -Array.all_eq_true, -Bool.exists_bool, -Bool.forall_bool, vcsE1, vcsE2, vcsE3, vcsE4, vcsE5, vcsE6, vcsE7, vcsE8, vcsE9, vcsE10, vcsE11, vcsE12, vcsE13, vcsE14, vcsE15, vcsE16, vcsE17, vcsE18, vcsE19, Sx.get, Sx.look, Sx.put, pureFn, findOrd, unF, dstOk, isFloatT, endVC, resFn, packC, newFn, storeFn, buildFn, undef, known, aggT, cellsC, Value.cells, findCon, Con.pure, Con.some, allV, partsV, partsC, fillL, Sx.exitTo, fAr, C.one, Value.oneCell', eqFn, eqFieldsFn, eqElemsFn, partFn, and_assoc, List.zipIdx, sliceFn, boundFn, AppV, CopyV, MakeSliceV, NewsV, GrowV, TextV, bytesL, notInt, typeAt, argAt, Con.read, Con.make, Con.ext, Con.rel, den, Con.extS, Con.draw, Con.step, Draws.steps, Try.f10, drawActTestC, actTestC, sActTestC, sConC, sMemBitC, memBitC, memPutC, memSameC, t1, t2, t3, hc, a0, a1, em, hm, hpo, d0.there, d0.all, d1.there, d1.all, hy5, hbit, hback, hself, hw, hg]
    · have n3 : ¬ op = 3 := fun e => h34 (Or.inl e)
      have n4 : ¬ op = 4 := fun e => h34 (Or.inr e)
      have em : testM m op (argD xs 0) (argD xs 1) = m := by unfold testM; rw [if_neg h34]
      by_cases h2 : 2 < op
      · simp (maxSteps := 4000000) -dsimp [-List.all_eq_true, -Array.all_eq_true, -Bool.exists_bool, -Bool.forall_bool, vcsE1, vcsE2, vcsE3, vcsE4, vcsE5, vcsE6, vcsE7, vcsE8, vcsE9, vcsE10, vcsE11, vcsE12, vcsE13, vcsE14, vcsE15, vcsE16, vcsE17, vcsE18, vcsE19, Sx.get, Sx.look, Sx.put, pureFn, findOrd, unF, dstOk, isFloatT, endVC, resFn, packC, newFn, storeFn, buildFn, undef, known, aggT, cellsC, Value.cells, findCon, Con.pure, Con.some, allV, partsV, partsC, fillL, Sx.exitTo, fAr, C.one, Value.oneCell', eqFn, eqFieldsFn, eqElemsFn, partFn, and_assoc, List.zipIdx, sliceFn, boundFn, AppV, CopyV, MakeSliceV, NewsV, GrowV, TextV, bytesL, notInt, typeAt, argAt, Con.read, Con.make, Con.ext, Con.rel, den, Con.extS, Con.draw, Con.step, Draws.steps, Try.f10, drawActTestC, actTestC, sActTestC, sConC, sMemBitC, memBitC, memPutC, memSameC, t1, t2, t3, hc, em, hm, n3, n4, h2, hself, hw, hg]
      · have ha1 : arity op = 1 := by
          unfold arity
          rw [if_pos (by omega)]
        obtain ⟨x, rfl⟩ := list_one (hlen.trans ha1)
        have d0 := hd.at0 (x := x) rfl
        simp only [List.length_cons, List.length_nil, Nat.reduceAdd] at t1 t2 t3
        simp (maxSteps := 4000000) -dsimp [-List.all_eq_true, -Array.all_eq_true, -Bool.exists_bool, -Bool.forall_bool, vcsE1, vcsE2, vcsE3, vcsE4, vcsE5, vcsE6, vcsE7, vcsE8, vcsE9, vcsE10, vcsE11, vcsE12, vcsE13, vcsE14, vcsE15, vcsE16, vcsE17, vcsE18, vcsE19, Sx.get, Sx.look, Sx.put, pureFn, findOrd, unF, dstOk, isFloatT, endVC, resFn, packC, newFn, storeFn, buildFn, undef, known, aggT, cellsC, Value.cells, findCon, Con.pure, Con.some, allV, partsV, partsC, fillL, Sx.exitTo, fAr, C.one, Value.oneCell', eqFn, eqFieldsFn, eqElemsFn, partFn, and_assoc, List.zipIdx, sliceFn, boundFn, AppV, CopyV, MakeSliceV, NewsV, GrowV, TextV, bytesL, notInt, typeAt, argAt, Con.read, Con.make, Con.ext, Con.rel, den, Con.extS, Con.draw, Con.step, Draws.steps, Try.f10, drawActTestC, actTestC, sActTestC, sConC, sMemBitC, memBitC, memPutC, memSameC, t1, t2, t3, hc, em, hm, n3, n4, h2, hself, d0.there, d0.all]
        intro b1 b2 b3 b4 cx2 q1 hle2 hl2
        have g1 : RdD (factF cx2) q1 [x] := (hl2.devs [x] rfl).mono (sub_new cx2)
        have d2 := (hd.mono hle2.fact).at0 (x := x) rfl
        refine (actTestC_rw (m := m) (op := 1) (o := q1) (cap := 1) (xs := [x]) ⟨g1.mono (sub_now _ _), hm⟩).mpr ?_
        have m1 : testM m 1 (argD [x] 0) (argD [x] 1) = m := rfl
        have v1 : testB m 1 (argD [x] 0) (argD [x] 1) = memBit m x.k x.n := rfl
        simp (maxSteps := 4000000) -dsimp [-List.all_eq_true, -Array.all_eq_true, -Bool.exists_bool, -Bool.forall_bool, vcsE1, vcsE2, vcsE3, vcsE4, vcsE5, vcsE6, vcsE7, vcsE8, vcsE9, vcsE10, vcsE11, vcsE12, vcsE13, vcsE14, vcsE15, vcsE16, vcsE17, vcsE18, vcsE19, Sx.get, Sx.look, Sx.put, pureFn, findOrd, unF, dstOk, isFloatT, endVC, resFn, packC, newFn, storeFn, buildFn, undef, known, aggT, cellsC, Value.cells, findCon, Con.pure, Con.some, allV, partsV, partsC, fillL, Sx.exitTo, fAr, C.one, Value.oneCell', eqFn, eqFieldsFn, eqElemsFn, partFn, and_assoc, List.zipIdx, sliceFn, boundFn, AppV, CopyV, MakeSliceV, NewsV, GrowV, TextV, bytesL, notInt, typeAt, argAt, Con.read, Con.make, Con.ext, Con.rel, den, Con.extS, Con.draw, Con.step, Draws.steps, Try.f10, drawActTestC, actTestC, sActTestC, sConC, sMemBitC, memBitC, memPutC, memSameC, m1, v1, d2.there, d2.all]
        intro b5 cx3 q2 hle3 hl3
        have g2 : RdD (factF cx3) q2 [x] := (hl3.devs [x] rfl).mono (sub_new cx3)
        refine (actTestC_rw (m := m) (op := 2) (o := q2) (cap := 1) (xs := [x]) ⟨g2.mono (sub_now _ _), hm⟩).mpr ?_
        have m2 : testM m 2 (argD [x] 0) (argD [x] 1) = m := rfl
        have v2 : testB m 2 (argD [x] 0) (argD [x] 1) = !memBit m x.k x.n := rfl
        have hw3 := (hle1.trans (hle2.trans hle3)).w0
        have hg3 := (hle1.trans (hle2.trans hle3)).g0
        cases hmb : memBit m x.k x.n
        · rw [hmb] at v2
          simp (maxSteps := 4000000) -dsimp [-List.all_eq_true, -Array.all_eq_true, -Bool.exists_bool, -Bool.forall_bool, vcsE1, vcsE2, vcsE3, vcsE4, vcsE5, vcsE6, vcsE7, vcsE8, vcsE9, vcsE10, vcsE11, vcsE12, vcsE13, vcsE14, vcsE15, vcsE16, vcsE17, vcsE18, vcsE19, Sx.get, Sx.look, Sx.put, pureFn, findOrd, unF, dstOk, isFloatT, endVC, resFn, packC, newFn, storeFn, buildFn, undef, known, aggT, cellsC, Value.cells, findCon, Con.pure, Con.some, allV, partsV, partsC, fillL, Sx.exitTo, fAr, C.one, Value.oneCell', eqFn, eqFieldsFn, eqElemsFn, partFn, and_assoc, List.zipIdx, sliceFn, boundFn, AppV, CopyV, MakeSliceV, NewsV, GrowV, TextV, bytesL, notInt, typeAt, argAt, Con.read, Con.make, Con.ext, Con.rel, den, Con.extS, Con.draw, Con.step, Draws.steps, Try.f10, drawActTestC, actTestC, sActTestC, sConC, sMemBitC, memBitC, memPutC, memSameC, m2, v2, hw3, hg3]
        · rw [hmb] at v2
          simp (maxSteps := 4000000) -dsimp [-List.all_eq_true, -Array.all_eq_true, -Bool.exists_bool, -Bool.forall_bool, vcsE1, vcsE2, vcsE3, vcsE4, vcsE5, vcsE6, vcsE7, vcsE8, vcsE9, vcsE10, vcsE11, vcsE12, vcsE13, vcsE14, vcsE15, vcsE16, vcsE17, vcsE18, vcsE19, Sx.get, Sx.look, Sx.put, pureFn, findOrd, unF, dstOk, isFloatT, endVC, resFn, packC, newFn, storeFn, buildFn, undef, known, aggT, cellsC, Value.cells, findCon, Con.pure, Con.some, allV, partsV, partsC, fillL, Sx.exitTo, fAr, C.one, Value.oneCell', eqFn, eqFieldsFn, eqElemsFn, partFn, and_assoc, List.zipIdx, sliceFn, boundFn, AppV, CopyV, MakeSliceV, NewsV, GrowV, TextV, bytesL, notInt, typeAt, argAt, Con.read, Con.make, Con.ext, Con.rel, den, Con.extS, Con.draw, Con.step, Draws.steps, Try.f10, drawActTestC, actTestC, sActTestC, sConC, sMemBitC, memBitC, memPutC, memSameC, m2, v2, hw3, hg3]
  · have hs1 : (1048576 : Int) < bs.length := by omega
    simp (maxSteps := 4000000) -dsimp [-List.all_eq_true, -Array.all_eq_true, -Bool.exists_bool, -Bool.forall_bool, vcsE1, vcsE2, vcsE3, vcsE4, vcsE5, vcsE6, vcsE7, vcsE8, vcsE9, vcsE10, vcsE11, vcsE12, vcsE13, vcsE14, vcsE15, vcsE16, vcsE17, vcsE18, vcsE19, Sx.get, Sx.look, Sx.put, pureFn, findOrd, unF, dstOk, isFloatT, endVC, resFn, packC, newFn, storeFn, buildFn, undef, known, aggT, cellsC, Value.cells, findCon, Con.pure, Con.some, allV, partsV, partsC, fillL, Sx.exitTo, fAr, C.one, Value.oneCell', eqFn, eqFieldsFn, eqElemsFn, partFn, and_assoc, List.zipIdx, sliceFn, boundFn, AppV, CopyV, MakeSliceV, NewsV, GrowV, TextV, bytesL, notInt, typeAt, argAt, Con.read, Con.make, Con.ext, Con.rel, den, Con.extS, Con.draw, Con.step, Draws.steps, Try.f10, drawActTestC, actTestC, sActTestC, sConC, sMemBitC, memBitC, memPutC, memSameC, hs1]
def lawAShutC_S : Reads Try.prog 10 where
  ι := ((Option Addr) × (Nat) × (List Int))
  A := fun (i : ((Option Addr) × (Nat) × (List Int))) => match i with | (o, cap, bs) => [.slice o bs.length cap]
  pre := fun (i : ((Option Addr) × (Nat) × (List Int))) (F : Facts) => match i with | (o, cap, bs) => RdB F o bs ∧ ((∀ b ∈ bs, 0 ≤ b ∧ b < 256) ∧ bs.length ≤ cap ∧ cap ≤ maxLen)
  res := fun (i : ((Option Addr) × (Nat) × (List Int))) => match i with | (o, cap, bs) => .bool true
  mono := by
    intro i F G hs h
    first | exact h | exact h.mono hs | exact ⟨h.1.mono hs, h.2⟩ | exact ⟨h.1.mono hs, h.2.1.mono hs, h.2.2⟩ | exact ⟨h.1.mono hs, h.2.1.mono hs⟩
  uniq := by
    rintro ⟨o, cap, bs⟩ ⟨o', cap', bs'⟩ F hA h h'
    simp at hA
    (try simp only [Int.natCast_inj] at hA)
    obtain rfl : bs = bs' := RdB.uniq h.1 h'.1 (by simp_all) (by simp_all)
    simp_all
  enter := Try.call10
  h := fun i w hp => lawAShutC_c i.1 i.2.1 i.2.2 w (by rw [factF_init]; exact hp)
def lawAShutC : Con Try.prog := Con.read lawAShutC_S
theorem lawAShutC_rw {o : Option Addr} {cap : Nat} {bs : List Int} {d : Nat} {cx : Cx} {mem : List Blk} {K : C → Prop} (hpre : RdB (nowF cx mem) o bs ∧ ((∀ b ∈ bs, 0 ≤ b ∧ b < 256) ∧ bs.length ≤ cap ∧ cap ≤ maxLen)) : ReadV d lawAShutC_S cx [.v (.slice o bs.length cap)] mem K = K (.v (.bool true)) := lawAShutC_S.eq (o, cap, bs) rfl hpre
end Go.Proofs.Ytmiicjgbhkjocaa
