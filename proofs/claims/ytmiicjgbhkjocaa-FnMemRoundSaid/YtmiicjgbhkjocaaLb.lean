/-
  The laws of numbers in memories, walked.
-/
import Derived.Test.YtmiicjgbhkjocaaLa
set_option linter.unusedVariables false
set_option linter.unusedSimpArgs false
set_option maxRecDepth 100000
set_option maxHeartbeats 4000000
namespace Go.Proofs.Ytmiicjgbhkjocaa
open Go Go.Sx

theorem wrSameC_c (a b : Nat) (hpre : sameF a b ∧ a < 18446744073709551616) (w : World) : Calls Try.prog 27 #[.float .f64 a, .float .f64 b] w fun e w' => e = .returned (.bool true) ∧ RowKit.Below w.heap.size w w' := by
  refine (plain_of_vcs ⟨[], []⟩ hmx Try.func27 rfl (by kernel_rfl) (args := [.float .f64 a, .float .f64 b]) (by simp [Try.ntmps27]) w (· = .bool true) 400 ?_).mono fun e w' ⟨v, h1, h2, h3⟩ => ⟨h2 ▸ h1, h3⟩
  obtain ⟨h, hb⟩ := hpre
  rcases h with ⟨rfl, hn⟩ | ⟨ha, hb'⟩
  · have e := ord_self a
    rw [hn] at e
    by_cases hz : dbl.order a 0 = some .eq
    · obtain rfl | rfl := (ord_zero hb).1 hz
      · simp (maxSteps := 4000000) -dsimp [-List.all_eq_true, -Array.all_eq_true, -Bool.exists_bool, -Bool.forall_bool, vcsE1, vcsE2, vcsE3, vcsE4, vcsE5, vcsE6, vcsE7, vcsE8, vcsE9, vcsE10, vcsE11, vcsE12, vcsE13, vcsE14, vcsE15, vcsE16, vcsE17, vcsE18, vcsE19, Sx.get, Sx.look, Sx.put, pureFn, findOrd, unF, dstOk, isFloatT, endVC, resFn, packC, newFn, storeFn, buildFn, undef, known, aggT, cellsC, Value.cells, findCon, Con.pure, Con.some, allV, partsV, partsC, fillL, Sx.exitTo, fAr, C.one, Value.oneCell', eqFn, eqFieldsFn, eqElemsFn, partFn, and_assoc, List.zipIdx, sliceFn, boundFn, AppV, CopyV, MakeSliceV, NewsV, GrowV, TextV, bytesL, notInt, typeAt, argAt, Con.read, Con.make, Con.ext, Con.rel, den, Con.extS, Con.draw, Con.step, Draws.steps, Try.f27, fmt64, e, hz, fRes, div_one_pos, ord_inf_pos]
      · simp (maxSteps := 4000000) -dsimp [-List.all_eq_true, -Array.all_eq_true, -Bool.exists_bool, -Bool.forall_bool, vcsE1, vcsE2, vcsE3, vcsE4, vcsE5, vcsE6, vcsE7, vcsE8, vcsE9, vcsE10, vcsE11, vcsE12, vcsE13, vcsE14, vcsE15, vcsE16, vcsE17, vcsE18, vcsE19, Sx.get, Sx.look, Sx.put, pureFn, findOrd, unF, dstOk, isFloatT, endVC, resFn, packC, newFn, storeFn, buildFn, undef, known, aggT, cellsC, Value.cells, findCon, Con.pure, Con.some, allV, partsV, partsC, fillL, Sx.exitTo, fAr, C.one, Value.oneCell', eqFn, eqFieldsFn, eqElemsFn, partFn, and_assoc, List.zipIdx, sliceFn, boundFn, AppV, CopyV, MakeSliceV, NewsV, GrowV, TextV, bytesL, notInt, typeAt, argAt, Con.read, Con.make, Con.ext, Con.rel, den, Con.extS, Con.draw, Con.step, Draws.steps, Try.f27, fmt64, e, hz, fRes, div_one_neg, ord_inf_neg]
    · simp (maxSteps := 4000000) -dsimp [-List.all_eq_true, -Array.all_eq_true, -Bool.exists_bool, -Bool.forall_bool, vcsE1, vcsE2, vcsE3, vcsE4, vcsE5, vcsE6, vcsE7, vcsE8, vcsE9, vcsE10, vcsE11, vcsE12, vcsE13, vcsE14, vcsE15, vcsE16, vcsE17, vcsE18, vcsE19, Sx.get, Sx.look, Sx.put, pureFn, findOrd, unF, dstOk, isFloatT, endVC, resFn, packC, newFn, storeFn, buildFn, undef, known, aggT, cellsC, Value.cells, findCon, Con.pure, Con.some, allV, partsV, partsC, fillL, Sx.exitTo, fAr, C.one, Value.oneCell', eqFn, eqFieldsFn, eqElemsFn, partFn, and_assoc, List.zipIdx, sliceFn, boundFn, AppV, CopyV, MakeSliceV, NewsV, GrowV, TextV, bytesL, notInt, typeAt, argAt, Con.read, Con.make, Con.ext, Con.rel, den, Con.extS, Con.draw, Con.step, Draws.steps, Try.f27, fmt64, e, hz]
  · have e1 := ord_self a
    have e2 := ord_self b
    rw [ha] at e1
    rw [hb'] at e2
    simp (maxSteps := 4000000) -dsimp [-List.all_eq_true, -Array.all_eq_true, -Bool.exists_bool, -Bool.forall_bool, vcsE1, vcsE2, vcsE3, vcsE4, vcsE5, vcsE6, vcsE7, vcsE8, vcsE9, vcsE10, vcsE11, vcsE12, vcsE13, vcsE14, vcsE15, vcsE16, vcsE17, vcsE18, vcsE19, Sx.get, Sx.look, Sx.put, pureFn, findOrd, unF, dstOk, isFloatT, endVC, resFn, packC, newFn, storeFn, buildFn, undef, known, aggT, cellsC, Value.cells, findCon, Con.pure, Con.some, allV, partsV, partsC, fillL, Sx.exitTo, fAr, C.one, Value.oneCell', eqFn, eqFieldsFn, eqElemsFn, partFn, and_assoc, List.zipIdx, sliceFn, boundFn, AppV, CopyV, MakeSliceV, NewsV, GrowV, TextV, bytesL, notInt, typeAt, argAt, Con.read, Con.make, Con.ext, Con.rel, den, Con.extS, Con.draw, Con.step, Draws.steps, Try.f27, fmt64, e1, e2]
def wrSameC : Con Try.prog := Con.pure 27 Try.call27 (fun (i : ((Nat) × (Nat))) => match i with | (a, b) => [.float .f64 a, .float .f64 b]) (fun (i : ((Nat) × (Nat))) => match i with | (a, b) => sameF a b ∧ a < 18446744073709551616) (fun (i : ((Nat) × (Nat))) => match i with | (a, b) => .bool true) fun i w hp => wrSameC_c i.1 i.2 hp w
theorem lawMPutNC_c (o : Option Addr) (cap : Nat) (bs : List Int) (o2 : Option Addr) (cap2 : Nat) (bs2 : List Int) (w : World) (hpre : RdB (factF ⟨w, [], w, []⟩) o bs ∧ RdB (factF ⟨w, [], w, []⟩) o2 bs2 ∧ ((∀ b ∈ bs, 0 ≤ b ∧ b < 256) ∧ bs.length ≤ cap ∧ cap ≤ maxLen) ∧ (∀ b ∈ bs2, 0 ≤ b ∧ b < 256) ∧ bs2.length ≤ cap2 ∧ cap2 ≤ maxLen) : Calls Try.prog 4 #[.slice o bs.length cap, .slice o2 bs2.length cap2] w fun e w' => e = .returned (.bool true) ∧ RowKit.Below w.heap.size w w' := by
  refine (plain_of_vcs ⟨[drawMemPutWholeC, drawMemPutRealC, memWholeC, memPutWholeC, memRealC, memPutRealC, memSameC, wrSameC], []⟩ hmx Try.func4 rfl (by kernel_rfl) (args := [.slice o bs.length cap, .slice o2 bs2.length cap2]) (by simp [Try.ntmps4]) w (· = .bool true) 400 ?_).mono fun e w' ⟨v, h1, h2, h3⟩ => ⟨h2 ▸ h1, h3⟩
  obtain ⟨h, h', hb, hb'⟩ := hpre
  by_cases hs : bs.length ≤ 1048576 ∧ bs2.length ≤ 1048576
  · have hs1 : ¬ (1048576 : Int) < bs.length := by omega
    have hs2 : ¬ (1048576 : Int) < bs2.length := by omega
    simp (maxSteps := 4000000) -dsimp [-List.all_eq_true, -Array.all_eq_true, -Bool.exists_bool, -Bool.forall_bool, vcsE1, vcsE2, vcsE3, vcsE4, vcsE5, vcsE6, vcsE7, vcsE8, vcsE9, vcsE10, vcsE11, vcsE12, vcsE13, vcsE14, vcsE15, vcsE16, vcsE17, vcsE18, vcsE19, Sx.get, Sx.look, Sx.put, pureFn, findOrd, unF, dstOk, isFloatT, endVC, resFn, packC, newFn, storeFn, buildFn, undef, known, aggT, cellsC, Value.cells, findCon, Con.pure, Con.some, allV, partsV, partsC, fillL, Sx.exitTo, fAr, C.one, Value.oneCell', eqFn, eqFieldsFn, eqElemsFn, partFn, and_assoc, List.zipIdx, sliceFn, boundFn, AppV, CopyV, MakeSliceV, NewsV, GrowV, TextV, bytesL, notInt, typeAt, argAt, Con.read, Con.make, Con.ext, Con.rel, den, Con.extS, Con.draw, Con.step, Draws.steps, Try.f4, drawMemPutWholeC, drawMemPutRealC, memWholeC, memPutWholeC, memRealC, memPutRealC, memSameC, wrSameC, hs1, hs2]
    refine ⟨(o, cap, bs), rfl, ⟨h.mono (sub_now _ _), hb⟩, fun v hv => ?_⟩
    obtain ⟨m, k, n, q, x, rfl, hm, x1, x2⟩ := hv
    simp (maxSteps := 4000000) -dsimp [-List.all_eq_true, -Array.all_eq_true, -Bool.exists_bool, -Bool.forall_bool, vcsE1, vcsE2, vcsE3, vcsE4, vcsE5, vcsE6, vcsE7, vcsE8, vcsE9, vcsE10, vcsE11, vcsE12, vcsE13, vcsE14, vcsE15, vcsE16, vcsE17, vcsE18, vcsE19, Sx.get, Sx.look, Sx.put, pureFn, findOrd, unF, dstOk, isFloatT, endVC, resFn, packC, newFn, storeFn, buildFn, undef, known, aggT, cellsC, Value.cells, findCon, Con.pure, Con.some, allV, partsV, partsC, fillL, Sx.exitTo, fAr, C.one, Value.oneCell', eqFn, eqFieldsFn, eqElemsFn, partFn, and_assoc, List.zipIdx, sliceFn, boundFn, AppV, CopyV, MakeSliceV, NewsV, GrowV, TextV, bytesL, notInt, typeAt, argAt, Con.read, Con.make, Con.ext, Con.rel, den, Con.extS, Con.draw, Con.step, Draws.steps, Try.f4, drawMemPutWholeC, drawMemPutRealC, memWholeC, memPutWholeC, memRealC, memPutRealC, memSameC, wrSameC]
    intro b1 b2
    refine ⟨(o2, cap2, bs2), rfl, ⟨h'.mono (sub_now _ _), hb'⟩, fun v hv => ?_⟩
    obtain ⟨m', k', n', q', y, rfl, hm', y1⟩ := hv
    have hself := msB_self m
    have hself' := msB_self m'
    have hp := MOk_putWhole (k := k) (n := n) (v := x) hm (by simp [IntKind.min, IntKind.max, IntKind.signed, IntKind.bits]; omega)
    have hsm := sameF_refl y
    by_cases h9 : k = 9
    · subst h9
      have w1 := memWhole_self (m := m) (n := n) (v := x)
      have w2 := memPutWhole_back (m := m) (n := n) (v := x)
      by_cases h10 : k' = 10
      · subst h10
        have r1 := memReal_self (m := m') (n := n') (p := q') (v := y)
        have r2 := memPutReal_back (m := m') (n := n') (p := q') (v := y)
        simp (maxSteps := 4000000) -dsimp [-List.all_eq_true, -Array.all_eq_true, -Bool.exists_bool, -Bool.forall_bool, vcsE1, vcsE2, vcsE3, vcsE4, vcsE5, vcsE6, vcsE7, vcsE8, vcsE9, vcsE10, vcsE11, vcsE12, vcsE13, vcsE14, vcsE15, vcsE16, vcsE17, vcsE18, vcsE19, Sx.get, Sx.look, Sx.put, pureFn, findOrd, unF, dstOk, isFloatT, endVC, resFn, packC, newFn, storeFn, buildFn, undef, known, aggT, cellsC, Value.cells, findCon, Con.pure, Con.some, allV, partsV, partsC, fillL, Sx.exitTo, fAr, C.one, Value.oneCell', eqFn, eqFieldsFn, eqElemsFn, partFn, and_assoc, List.zipIdx, sliceFn, boundFn, AppV, CopyV, MakeSliceV, NewsV, GrowV, TextV, bytesL, notInt, typeAt, argAt, Con.read, Con.make, Con.ext, Con.rel, den, Con.extS, Con.draw, Con.step, Draws.steps, Try.f4, drawMemPutWholeC, drawMemPutRealC, memWholeC, memPutWholeC, memRealC, memPutRealC, memSameC, wrSameC, hm, hp, hm', w1, w2, r1, r2, hself, hself', hsm, y1]
      · have r1 := memPutReal_no (m := m') (n := n') (v := y) h10
        simp (maxSteps := 4000000) -dsimp [-List.all_eq_true, -Array.all_eq_true, -Bool.exists_bool, -Bool.forall_bool, vcsE1, vcsE2, vcsE3, vcsE4, vcsE5, vcsE6, vcsE7, vcsE8, vcsE9, vcsE10, vcsE11, vcsE12, vcsE13, vcsE14, vcsE15, vcsE16, vcsE17, vcsE18, vcsE19, Sx.get, Sx.look, Sx.put, pureFn, findOrd, unF, dstOk, isFloatT, endVC, resFn, packC, newFn, storeFn, buildFn, undef, known, aggT, cellsC, Value.cells, findCon, Con.pure, Con.some, allV, partsV, partsC, fillL, Sx.exitTo, fAr, C.one, Value.oneCell', eqFn, eqFieldsFn, eqElemsFn, partFn, and_assoc, List.zipIdx, sliceFn, boundFn, AppV, CopyV, MakeSliceV, NewsV, GrowV, TextV, bytesL, notInt, typeAt, argAt, Con.read, Con.make, Con.ext, Con.rel, den, Con.extS, Con.draw, Con.step, Draws.steps, Try.f4, drawMemPutWholeC, drawMemPutRealC, memWholeC, memPutWholeC, memRealC, memPutRealC, memSameC, wrSameC, hm, hp, hm', w1, w2, r1, h10, hself, hself']
    · have w1 := memPutWhole_no (m := m) (n := n) (v := x) h9
      by_cases h10 : k' = 10
      · subst h10
        have r1 := memReal_self (m := m') (n := n') (p := q') (v := y)
        have r2 := memPutReal_back (m := m') (n := n') (p := q') (v := y)
        simp (maxSteps := 4000000) -dsimp [-List.all_eq_true, -Array.all_eq_true, -Bool.exists_bool, -Bool.forall_bool, vcsE1, vcsE2, vcsE3, vcsE4, vcsE5, vcsE6, vcsE7, vcsE8, vcsE9, vcsE10, vcsE11, vcsE12, vcsE13, vcsE14, vcsE15, vcsE16, vcsE17, vcsE18, vcsE19, Sx.get, Sx.look, Sx.put, pureFn, findOrd, unF, dstOk, isFloatT, endVC, resFn, packC, newFn, storeFn, buildFn, undef, known, aggT, cellsC, Value.cells, findCon, Con.pure, Con.some, allV, partsV, partsC, fillL, Sx.exitTo, fAr, C.one, Value.oneCell', eqFn, eqFieldsFn, eqElemsFn, partFn, and_assoc, List.zipIdx, sliceFn, boundFn, AppV, CopyV, MakeSliceV, NewsV, GrowV, TextV, bytesL, notInt, typeAt, argAt, Con.read, Con.make, Con.ext, Con.rel, den, Con.extS, Con.draw, Con.step, Draws.steps, Try.f4, drawMemPutWholeC, drawMemPutRealC, memWholeC, memPutWholeC, memRealC, memPutRealC, memSameC, wrSameC, hm, hp, hm', w1, h9, r1, r2, hself, hself', hsm, y1]
      · have r1 := memPutReal_no (m := m') (n := n') (v := y) h10
        simp (maxSteps := 4000000) -dsimp [-List.all_eq_true, -Array.all_eq_true, -Bool.exists_bool, -Bool.forall_bool, vcsE1, vcsE2, vcsE3, vcsE4, vcsE5, vcsE6, vcsE7, vcsE8, vcsE9, vcsE10, vcsE11, vcsE12, vcsE13, vcsE14, vcsE15, vcsE16, vcsE17, vcsE18, vcsE19, Sx.get, Sx.look, Sx.put, pureFn, findOrd, unF, dstOk, isFloatT, endVC, resFn, packC, newFn, storeFn, buildFn, undef, known, aggT, cellsC, Value.cells, findCon, Con.pure, Con.some, allV, partsV, partsC, fillL, Sx.exitTo, fAr, C.one, Value.oneCell', eqFn, eqFieldsFn, eqElemsFn, partFn, and_assoc, List.zipIdx, sliceFn, boundFn, AppV, CopyV, MakeSliceV, NewsV, GrowV, TextV, bytesL, notInt, typeAt, argAt, Con.read, Con.make, Con.ext, Con.rel, den, Con.extS, Con.draw, Con.step, Draws.steps, Try.f4, drawMemPutWholeC, drawMemPutRealC, memWholeC, memPutWholeC, memRealC, memPutRealC, memSameC, wrSameC, hm, hp, hm', w1, h9, r1, h10, hself, hself']
  · by_cases hs1 : (1048576 : Int) < bs.length
    · simp (maxSteps := 4000000) -dsimp [-List.all_eq_true, -Array.all_eq_true, -Bool.exists_bool, -Bool.forall_bool, vcsE1, vcsE2, vcsE3, vcsE4, vcsE5, vcsE6, vcsE7, vcsE8, vcsE9, vcsE10, vcsE11, vcsE12, vcsE13, vcsE14, vcsE15, vcsE16, vcsE17, vcsE18, vcsE19, Sx.get, Sx.look, Sx.put, pureFn, findOrd, unF, dstOk, isFloatT, endVC, resFn, packC, newFn, storeFn, buildFn, undef, known, aggT, cellsC, Value.cells, findCon, Con.pure, Con.some, allV, partsV, partsC, fillL, Sx.exitTo, fAr, C.one, Value.oneCell', eqFn, eqFieldsFn, eqElemsFn, partFn, and_assoc, List.zipIdx, sliceFn, boundFn, AppV, CopyV, MakeSliceV, NewsV, GrowV, TextV, bytesL, notInt, typeAt, argAt, Con.read, Con.make, Con.ext, Con.rel, den, Con.extS, Con.draw, Con.step, Draws.steps, Try.f4, drawMemPutWholeC, drawMemPutRealC, memWholeC, memPutWholeC, memRealC, memPutRealC, memSameC, wrSameC, hs1]
    · have hs2 : (1048576 : Int) < bs2.length := by omega
      simp (maxSteps := 4000000) -dsimp [-List.all_eq_true, -Array.all_eq_true, -Bool.exists_bool, -Bool.forall_bool, vcsE1, vcsE2, vcsE3, vcsE4, vcsE5, vcsE6, vcsE7, vcsE8, vcsE9, vcsE10, vcsE11, vcsE12, vcsE13, vcsE14, vcsE15, vcsE16, vcsE17, vcsE18, vcsE19, Sx.get, Sx.look, Sx.put, pureFn, findOrd, unF, dstOk, isFloatT, endVC, resFn, packC, newFn, storeFn, buildFn, undef, known, aggT, cellsC, Value.cells, findCon, Con.pure, Con.some, allV, partsV, partsC, fillL, Sx.exitTo, fAr, C.one, Value.oneCell', eqFn, eqFieldsFn, eqElemsFn, partFn, and_assoc, List.zipIdx, sliceFn, boundFn, AppV, CopyV, MakeSliceV, NewsV, GrowV, TextV, bytesL, notInt, typeAt, argAt, Con.read, Con.make, Con.ext, Con.rel, den, Con.extS, Con.draw, Con.step, Draws.steps, Try.f4, drawMemPutWholeC, drawMemPutRealC, memWholeC, memPutWholeC, memRealC, memPutRealC, memSameC, wrSameC, hs1, hs2]
def lawMPutNC_S : Reads Try.prog 4 where
  ι := ((Option Addr) × (Nat) × (List Int) × (Option Addr) × (Nat) × (List Int))
  A := fun (i : ((Option Addr) × (Nat) × (List Int) × (Option Addr) × (Nat) × (List Int))) => match i with | (o, cap, bs, o2, cap2, bs2) => [.slice o bs.length cap, .slice o2 bs2.length cap2]
  pre := fun (i : ((Option Addr) × (Nat) × (List Int) × (Option Addr) × (Nat) × (List Int))) (F : Facts) => match i with | (o, cap, bs, o2, cap2, bs2) => RdB F o bs ∧ RdB F o2 bs2 ∧ ((∀ b ∈ bs, 0 ≤ b ∧ b < 256) ∧ bs.length ≤ cap ∧ cap ≤ maxLen) ∧ (∀ b ∈ bs2, 0 ≤ b ∧ b < 256) ∧ bs2.length ≤ cap2 ∧ cap2 ≤ maxLen
  res := fun (i : ((Option Addr) × (Nat) × (List Int) × (Option Addr) × (Nat) × (List Int))) => match i with | (o, cap, bs, o2, cap2, bs2) => .bool true
  mono := by
    intro i F G hs h
    first | exact h | exact h.mono hs | exact ⟨h.1.mono hs, h.2⟩ | exact ⟨h.1.mono hs, h.2.1.mono hs, h.2.2⟩ | exact ⟨h.1.mono hs, h.2.1.mono hs⟩
  uniq := by
    rintro ⟨o, cap, bs, o2, cap2, bs2⟩ ⟨o', cap', bs', o2', cap2', bs2'⟩ F hA h h'
    simp at hA
    (try simp only [Int.natCast_inj] at hA)
    obtain rfl : bs = bs' := RdB.uniq h.1 h'.1 (by simp_all) (by simp_all)
    obtain rfl : bs2 = bs2' := RdB.uniq h.2.1 h'.2.1 (by simp_all) (by simp_all)
    simp_all
  enter := Try.call4
  h := fun i w hp => lawMPutNC_c i.1 i.2.1 i.2.2.1 i.2.2.2.1 i.2.2.2.2.1 i.2.2.2.2.2 w (by rw [factF_init]; exact hp)
def lawMPutNC : Con Try.prog := Con.read lawMPutNC_S
theorem lawMPutNC_rw {o : Option Addr} {cap : Nat} {bs : List Int} {o2 : Option Addr} {cap2 : Nat} {bs2 : List Int} {d : Nat} {cx : Cx} {mem : List Blk} {K : C → Prop} (hpre : RdB (nowF cx mem) o bs ∧ RdB (nowF cx mem) o2 bs2 ∧ ((∀ b ∈ bs, 0 ≤ b ∧ b < 256) ∧ bs.length ≤ cap ∧ cap ≤ maxLen) ∧ (∀ b ∈ bs2, 0 ≤ b ∧ b < 256) ∧ bs2.length ≤ cap2 ∧ cap2 ≤ maxLen) : ReadV d lawMPutNC_S cx [.v (.slice o bs.length cap), .v (.slice o2 bs2.length cap2)] mem K = K (.v (.bool true)) := lawMPutNC_S.eq (o, cap, bs, o2, cap2, bs2) rfl hpre
end Go.Proofs.Ytmiicjgbhkjocaa
