/-
  The laws of memories, walked.
-/
import Derived.Test.YtmiicjgbhkjocaaGk
import Derived.Test.YtmiicjgbhkjocaaSm
import Derived.Test.YtmiicjgbhkjocaaG
import Derived.Test.YtmiicjgbhkjocaaH
import Derived.Test.YtmiicjgbhkjocaaE
set_option linter.unusedVariables false
set_option linter.unusedSimpArgs false
set_option maxRecDepth 100000
set_option maxHeartbeats 4000000
namespace Go.Proofs.Ytmiicjgbhkjocaa
open Go Go.Sx

theorem devOk_zero {k n p : Int} (hk : isPutK k) (h : devOk k n p = true) : p = 0 := by
  unfold devOk at h
  rw [decide_eq_true_eq] at h
  rcases hk with rfl | rfl | rfl | rfl <;> omega
theorem lawMPutC_c (o : Option Addr) (cap : Nat) (bs : List Int) (o2 : Option Addr) (cap2 : Nat) (bs2 : List Int) (w : World) (hpre : RdB (factF ⟨w, [], w, []⟩) o bs ∧ RdB (factF ⟨w, [], w, []⟩) o2 bs2 ∧ ((∀ b ∈ bs, 0 ≤ b ∧ b < 256) ∧ bs.length ≤ cap ∧ cap ≤ maxLen) ∧ (∀ b ∈ bs2, 0 ≤ b ∧ b < 256) ∧ bs2.length ≤ cap2 ∧ cap2 ≤ maxLen) : Calls Try.prog 5 #[.slice o bs.length cap, .slice o2 bs2.length cap2] w fun e w' => e = .returned (.bool true) ∧ RowKit.Below w.heap.size w w' := by
  refine (plain_of_vcs ⟨[drawMemPutC, drawMemBitC, memBitC, memPutC, memWholeC, memSameC, sDevOkC], []⟩ hmx Try.func5 rfl (by kernel_rfl) (args := [.slice o bs.length cap, .slice o2 bs2.length cap2]) (by simp [Try.ntmps5]) w (· = .bool true) 400 ?_).mono fun e w' ⟨v, h1, h2, h3⟩ => ⟨h2 ▸ h1, h3⟩
  obtain ⟨h, h', hb, hb'⟩ := hpre
  by_cases hs : bs.length ≤ 1048576 ∧ bs2.length ≤ 1048576
  · have hs1 : ¬ (1048576 : Int) < bs.length := by omega
    have hs2 : ¬ (1048576 : Int) < bs2.length := by omega
    simp (maxSteps := 4000000) -dsimp [-List.all_eq_true, -Array.all_eq_true, -Bool.exists_bool, -Bool.forall_bool, vcsE1, vcsE2, vcsE3, vcsE4, vcsE5, vcsE6, vcsE7, vcsE8, vcsE9, vcsE10, vcsE11, vcsE12, vcsE13, vcsE14, vcsE15, vcsE16, vcsE17, vcsE18, vcsE19, Sx.get, Sx.look, Sx.put, pureFn, findOrd, unF, dstOk, isFloatT, endVC, resFn, packC, newFn, storeFn, buildFn, undef, known, aggT, cellsC, Value.cells, findCon, Con.pure, Con.some, allV, partsV, partsC, fillL, Sx.exitTo, fAr, C.one, Value.oneCell', eqFn, eqFieldsFn, eqElemsFn, partFn, and_assoc, List.zipIdx, sliceFn, boundFn, AppV, CopyV, MakeSliceV, NewsV, GrowV, TextV, bytesL, notInt, typeAt, argAt, Con.read, Con.make, Con.ext, Con.rel, den, Con.extS, Con.draw, Con.step, Draws.steps, Try.f5, drawMemPutC, drawMemBitC, memBitC, memPutC, memWholeC, memSameC, sDevOkC, hs1, hs2]
    refine ⟨(o, cap, bs), rfl, ⟨h.mono (sub_now _ _), hb⟩, fun v hv => ?_⟩
    obtain ⟨m, k, n, q, b, rfl, hm⟩ := hv
    have hself := msB_self m
    have hp := memPut_ok (k := k) (n := n) (b := b) hm
    by_cases hk : k < 2 ∨ 5 < k
    · have hno := memPut_no (m := m) (n := n) (b := b) (k := k) (by unfold isPutK; omega)
      simp (maxSteps := 4000000) -dsimp [-List.all_eq_true, -Array.all_eq_true, -Bool.exists_bool, -Bool.forall_bool, vcsE1, vcsE2, vcsE3, vcsE4, vcsE5, vcsE6, vcsE7, vcsE8, vcsE9, vcsE10, vcsE11, vcsE12, vcsE13, vcsE14, vcsE15, vcsE16, vcsE17, vcsE18, vcsE19, Sx.get, Sx.look, Sx.put, pureFn, findOrd, unF, dstOk, isFloatT, endVC, resFn, packC, newFn, storeFn, buildFn, undef, known, aggT, cellsC, Value.cells, findCon, Con.pure, Con.some, allV, partsV, partsC, fillL, Sx.exitTo, fAr, C.one, Value.oneCell', eqFn, eqFieldsFn, eqElemsFn, partFn, and_assoc, List.zipIdx, sliceFn, boundFn, AppV, CopyV, MakeSliceV, NewsV, GrowV, TextV, bytesL, notInt, typeAt, argAt, Con.read, Con.make, Con.ext, Con.rel, den, Con.extS, Con.draw, Con.step, Draws.steps, Try.f5, drawMemPutC, drawMemBitC, memBitC, memPutC, memWholeC, memSameC, sDevOkC, hm, hp, hk, hno, hself]
      intro b1 b2 b3 g1 g2; omega
    · have hkp : isPutK k := by unfold isPutK; omega
      have hk1 : ¬ k < 2 := by omega
      have hk2 : ¬ 5 < k := by omega
      have hback := memPut_back (n := n) (b := b) hm hkp
      have hbit := memBit_self (n := n) (b := b) hm hkp
      simp (maxSteps := 4000000) -dsimp [-List.all_eq_true, -Array.all_eq_true, -Bool.exists_bool, -Bool.forall_bool, vcsE1, vcsE2, vcsE3, vcsE4, vcsE5, vcsE6, vcsE7, vcsE8, vcsE9, vcsE10, vcsE11, vcsE12, vcsE13, vcsE14, vcsE15, vcsE16, vcsE17, vcsE18, vcsE19, Sx.get, Sx.look, Sx.put, pureFn, findOrd, unF, dstOk, isFloatT, endVC, resFn, packC, newFn, storeFn, buildFn, undef, known, aggT, cellsC, Value.cells, findCon, Con.pure, Con.some, allV, partsV, partsC, fillL, Sx.exitTo, fAr, C.one, Value.oneCell', eqFn, eqFieldsFn, eqElemsFn, partFn, and_assoc, List.zipIdx, sliceFn, boundFn, AppV, CopyV, MakeSliceV, NewsV, GrowV, TextV, bytesL, notInt, typeAt, argAt, Con.read, Con.make, Con.ext, Con.rel, den, Con.extS, Con.draw, Con.step, Draws.steps, Try.f5, drawMemPutC, drawMemBitC, memBitC, memPutC, memWholeC, memSameC, sDevOkC, hm, hp, hk1, hk2, hself, hback, hbit]
      intro b1 b2 b3
      refine ⟨(o2, cap2, bs2), rfl, ⟨h'.mono (sub_now _ _), hb'⟩, fun v hv => ?_⟩
      obtain ⟨m', k', n', q', rfl, -⟩ := hv
      have hwh := fun k' n' => memWhole_put (m := m) (k := k) (n := n) (k' := k') (n' := n') (b := b)
      have hoth := fun a c d => memBit_other (k := k) (n := n) (p := q) (k' := k') (n' := n') (p' := q') (b := b) hm hkp a c d
      simp (maxSteps := 4000000) -dsimp [-List.all_eq_true, -Array.all_eq_true, -Bool.exists_bool, -Bool.forall_bool, vcsE1, vcsE2, vcsE3, vcsE4, vcsE5, vcsE6, vcsE7, vcsE8, vcsE9, vcsE10, vcsE11, vcsE12, vcsE13, vcsE14, vcsE15, vcsE16, vcsE17, vcsE18, vcsE19, Sx.get, Sx.look, Sx.put, pureFn, findOrd, unF, dstOk, isFloatT, endVC, resFn, packC, newFn, storeFn, buildFn, undef, known, aggT, cellsC, Value.cells, findCon, Con.pure, Con.some, allV, partsV, partsC, fillL, Sx.exitTo, fAr, C.one, Value.oneCell', eqFn, eqFieldsFn, eqElemsFn, partFn, and_assoc, List.zipIdx, sliceFn, boundFn, AppV, CopyV, MakeSliceV, NewsV, GrowV, TextV, bytesL, notInt, typeAt, argAt, Con.read, Con.make, Con.ext, Con.rel, den, Con.extS, Con.draw, Con.step, Draws.steps, Try.f5, drawMemPutC, drawMemBitC, memBitC, memPutC, memWholeC, memSameC, sDevOkC, hm, hp]
      cases hd : devOk k n q
      · simp (maxSteps := 4000000) -dsimp [-List.all_eq_true, -Array.all_eq_true, -Bool.exists_bool, -Bool.forall_bool, vcsE1, vcsE2, vcsE3, vcsE4, vcsE5, vcsE6, vcsE7, vcsE8, vcsE9, vcsE10, vcsE11, vcsE12, vcsE13, vcsE14, vcsE15, vcsE16, vcsE17, vcsE18, vcsE19, Sx.get, Sx.look, Sx.put, pureFn, findOrd, unF, dstOk, isFloatT, endVC, resFn, packC, newFn, storeFn, buildFn, undef, known, aggT, cellsC, Value.cells, findCon, Con.pure, Con.some, allV, partsV, partsC, fillL, Sx.exitTo, fAr, C.one, Value.oneCell', eqFn, eqFieldsFn, eqElemsFn, partFn, and_assoc, List.zipIdx, sliceFn, boundFn, AppV, CopyV, MakeSliceV, NewsV, GrowV, TextV, bytesL, notInt, typeAt, argAt, Con.read, Con.make, Con.ext, Con.rel, den, Con.extS, Con.draw, Con.step, Draws.steps, Try.f5, drawMemPutC, drawMemBitC, memBitC, memPutC, memWholeC, memSameC, sDevOkC, hd, hm, hp, hwh, hself, hback, hbit]
      cases hd' : devOk k' n' q'
      · simp (maxSteps := 4000000) -dsimp [-List.all_eq_true, -Array.all_eq_true, -Bool.exists_bool, -Bool.forall_bool, vcsE1, vcsE2, vcsE3, vcsE4, vcsE5, vcsE6, vcsE7, vcsE8, vcsE9, vcsE10, vcsE11, vcsE12, vcsE13, vcsE14, vcsE15, vcsE16, vcsE17, vcsE18, vcsE19, Sx.get, Sx.look, Sx.put, pureFn, findOrd, unF, dstOk, isFloatT, endVC, resFn, packC, newFn, storeFn, buildFn, undef, known, aggT, cellsC, Value.cells, findCon, Con.pure, Con.some, allV, partsV, partsC, fillL, Sx.exitTo, fAr, C.one, Value.oneCell', eqFn, eqFieldsFn, eqElemsFn, partFn, and_assoc, List.zipIdx, sliceFn, boundFn, AppV, CopyV, MakeSliceV, NewsV, GrowV, TextV, bytesL, notInt, typeAt, argAt, Con.read, Con.make, Con.ext, Con.rel, den, Con.extS, Con.draw, Con.step, Draws.steps, Try.f5, drawMemPutC, drawMemBitC, memBitC, memPutC, memWholeC, memSameC, sDevOkC, hd, hd', hm, hp, hwh, hself, hback, hbit]
      have hoth := hoth hd hd'
      by_cases e : k' = k ∧ n' = n ∧ q' = q
      · obtain ⟨rfl, rfl, rfl⟩ := e
        simp (maxSteps := 4000000) -dsimp [-List.all_eq_true, -Array.all_eq_true, -Bool.exists_bool, -Bool.forall_bool, vcsE1, vcsE2, vcsE3, vcsE4, vcsE5, vcsE6, vcsE7, vcsE8, vcsE9, vcsE10, vcsE11, vcsE12, vcsE13, vcsE14, vcsE15, vcsE16, vcsE17, vcsE18, vcsE19, Sx.get, Sx.look, Sx.put, pureFn, findOrd, unF, dstOk, isFloatT, endVC, resFn, packC, newFn, storeFn, buildFn, undef, known, aggT, cellsC, Value.cells, findCon, Con.pure, Con.some, allV, partsV, partsC, fillL, Sx.exitTo, fAr, C.one, Value.oneCell', eqFn, eqFieldsFn, eqElemsFn, partFn, and_assoc, List.zipIdx, sliceFn, boundFn, AppV, CopyV, MakeSliceV, NewsV, GrowV, TextV, bytesL, notInt, typeAt, argAt, Con.read, Con.make, Con.ext, Con.rel, den, Con.extS, Con.draw, Con.step, Draws.steps, Try.f5, drawMemPutC, drawMemBitC, memBitC, memPutC, memWholeC, memSameC, sDevOkC, hd, hd', hm, hp, hwh, hself, hback, hbit]
      · have hoth := hoth e
        by_cases e1 : k' = k <;> by_cases e2 : n' = n <;> by_cases e3 : q' = q
        · omega
        · have q1 := devOk_zero hkp hd
          have q2 := devOk_zero (by rw [e1]; exact hkp) hd'
          omega
        all_goals
          (try simp only [e1, e2] at hoth)
          simp (maxSteps := 4000000) -dsimp [-List.all_eq_true, -Array.all_eq_true, -Bool.exists_bool, -Bool.forall_bool, vcsE1, vcsE2, vcsE3, vcsE4, vcsE5, vcsE6, vcsE7, vcsE8, vcsE9, vcsE10, vcsE11, vcsE12, vcsE13, vcsE14, vcsE15, vcsE16, vcsE17, vcsE18, vcsE19, Sx.get, Sx.look, Sx.put, pureFn, findOrd, unF, dstOk, isFloatT, endVC, resFn, packC, newFn, storeFn, buildFn, undef, known, aggT, cellsC, Value.cells, findCon, Con.pure, Con.some, allV, partsV, partsC, fillL, Sx.exitTo, fAr, C.one, Value.oneCell', eqFn, eqFieldsFn, eqElemsFn, partFn, and_assoc, List.zipIdx, sliceFn, boundFn, AppV, CopyV, MakeSliceV, NewsV, GrowV, TextV, bytesL, notInt, typeAt, argAt, Con.read, Con.make, Con.ext, Con.rel, den, Con.extS, Con.draw, Con.step, Draws.steps, Try.f5, drawMemPutC, drawMemBitC, memBitC, memPutC, memWholeC, memSameC, sDevOkC, hd, hd', hm, hp, hwh, hself, hback, hbit, hoth, e1, e2, e3]
  · by_cases hs1 : (1048576 : Int) < bs.length
    · simp (maxSteps := 4000000) -dsimp [-List.all_eq_true, -Array.all_eq_true, -Bool.exists_bool, -Bool.forall_bool, vcsE1, vcsE2, vcsE3, vcsE4, vcsE5, vcsE6, vcsE7, vcsE8, vcsE9, vcsE10, vcsE11, vcsE12, vcsE13, vcsE14, vcsE15, vcsE16, vcsE17, vcsE18, vcsE19, Sx.get, Sx.look, Sx.put, pureFn, findOrd, unF, dstOk, isFloatT, endVC, resFn, packC, newFn, storeFn, buildFn, undef, known, aggT, cellsC, Value.cells, findCon, Con.pure, Con.some, allV, partsV, partsC, fillL, Sx.exitTo, fAr, C.one, Value.oneCell', eqFn, eqFieldsFn, eqElemsFn, partFn, and_assoc, List.zipIdx, sliceFn, boundFn, AppV, CopyV, MakeSliceV, NewsV, GrowV, TextV, bytesL, notInt, typeAt, argAt, Con.read, Con.make, Con.ext, Con.rel, den, Con.extS, Con.draw, Con.step, Draws.steps, Try.f5, drawMemPutC, drawMemBitC, memBitC, memPutC, memWholeC, memSameC, sDevOkC, hs1]
    · have hs2 : (1048576 : Int) < bs2.length := by omega
      simp (maxSteps := 4000000) -dsimp [-List.all_eq_true, -Array.all_eq_true, -Bool.exists_bool, -Bool.forall_bool, vcsE1, vcsE2, vcsE3, vcsE4, vcsE5, vcsE6, vcsE7, vcsE8, vcsE9, vcsE10, vcsE11, vcsE12, vcsE13, vcsE14, vcsE15, vcsE16, vcsE17, vcsE18, vcsE19, Sx.get, Sx.look, Sx.put, pureFn, findOrd, unF, dstOk, isFloatT, endVC, resFn, packC, newFn, storeFn, buildFn, undef, known, aggT, cellsC, Value.cells, findCon, Con.pure, Con.some, allV, partsV, partsC, fillL, Sx.exitTo, fAr, C.one, Value.oneCell', eqFn, eqFieldsFn, eqElemsFn, partFn, and_assoc, List.zipIdx, sliceFn, boundFn, AppV, CopyV, MakeSliceV, NewsV, GrowV, TextV, bytesL, notInt, typeAt, argAt, Con.read, Con.make, Con.ext, Con.rel, den, Con.extS, Con.draw, Con.step, Draws.steps, Try.f5, drawMemPutC, drawMemBitC, memBitC, memPutC, memWholeC, memSameC, sDevOkC, hs1, hs2]
def lawMPutC_S : Reads Try.prog 5 where
  ι := ((Option Addr) × (Nat) × (List Int) × (Option Addr) × (Nat) × (List Int))
  A := fun (i : ((Option Addr) × (Nat) × (List Int) × (Option Addr) × (Nat) × (List Int))) => match i with | (o, cap, bs, o2, cap2, bs2) => [.slice o bs.length cap, .slice o2 bs2.length cap2]
  pre := fun (i : ((Option Addr) × (Nat) × (List Int) × (Option Addr) × (Nat) × (List Int))) (F : Facts) => match i with | (o, cap, bs, o2, cap2, bs2) => RdB F o bs ∧ RdB F o2 bs2 ∧ ((∀ b ∈ bs, 0 ≤ b ∧ b < 256) ∧ bs.length ≤ cap ∧ cap ≤ maxLen) ∧ (∀ b ∈ bs2, 0 ≤ b ∧ b < 256) ∧ bs2.length ≤ cap2 ∧ cap2 ≤ maxLen
  res := fun (i : ((Option Addr) × (Nat) × (List Int) × (Option Addr) × (Nat) × (List Int))) => match i with | (o, cap, bs, o2, cap2, bs2) => .bool true
  mono := by
    intro i F G hs h
    first | exact h | exact h.mono hs | exact ⟨h.1.mono hs, h.2⟩ | exact ⟨h.1.mono hs, h.2.1.mono hs, h.2.2⟩ | exact ⟨h.1.mono hs, h.2.1.mono hs⟩
  uniq := by
    rintro ⟨o, cap, bs, o2, cap2, bs2⟩ ⟨o', cap', bs', o2', cap2', bs2'⟩ F hA h h'
    simp at hA
    (try simp only [Int.natCast_inj] at hA)
    obtain rfl : bs = bs' := RdB.uniq h.1 h'.1 (by simp_all) (by simp_all)
    obtain rfl : bs2 = bs2' := RdB.uniq h.2.1 h'.2.1 (by simp_all) (by simp_all)
    simp_all
  enter := Try.call5
  h := fun i w hp => lawMPutC_c i.1 i.2.1 i.2.2.1 i.2.2.2.1 i.2.2.2.2.1 i.2.2.2.2.2 w (by rw [factF_init]; exact hp)
def lawMPutC : Con Try.prog := Con.read lawMPutC_S
theorem lawMPutC_rw {o : Option Addr} {cap : Nat} {bs : List Int} {o2 : Option Addr} {cap2 : Nat} {bs2 : List Int} {d : Nat} {cx : Cx} {mem : List Blk} {K : C → Prop} (hpre : RdB (nowF cx mem) o bs ∧ RdB (nowF cx mem) o2 bs2 ∧ ((∀ b ∈ bs, 0 ≤ b ∧ b < 256) ∧ bs.length ≤ cap ∧ cap ≤ maxLen) ∧ (∀ b ∈ bs2, 0 ≤ b ∧ b < 256) ∧ bs2.length ≤ cap2 ∧ cap2 ≤ maxLen) : ReadV d lawMPutC_S cx [.v (.slice o bs.length cap), .v (.slice o2 bs2.length cap2)] mem K = K (.v (.bool true)) := lawMPutC_S.eq (o, cap, bs, o2, cap2, bs2) rfl hpre
end Go.Proofs.Ytmiicjgbhkjocaa
