/-
  Contracts: which contacts are ok, by the program.
-/
import Derived.Test.YtdjjkfhholinkaaEj
set_option linter.unusedVariables false
set_option linter.unusedSimpArgs false
set_option maxRecDepth 100000
set_option maxHeartbeats 4000000
namespace Go.Proofs.Ytdjjkfhholinkaa
open Go Go.Sx

theorem iConC_c (op : Int) (o : Option Addr) (cap : Nat) (xs : List Dev) (w : World) (hpre : RdD (factF ⟨w, [], w, []⟩) o xs ∧ xs.length ≤ 1048576) : Calls Try.prog 53 #[.agg #[.int .i64 op, .slice o xs.length cap]] w fun e w' => e = .returned (.bool (conOk op xs)) ∧ RowKit.Below w.heap.size w w' := by
  refine (plain_of_vcs ⟨[isConOpC, argsOkC, isBitC, bothOfC], []⟩ hmx Try.func53 rfl (by kernel_rfl) (args := [.agg #[.int .i64 op, .slice o xs.length cap]]) (by simp [Try.ntmps53]) w (· = .bool (conOk op xs)) 400 ?_).mono fun e w' ⟨v, h1, h2, h3⟩ => ⟨h2 ▸ h1, h3⟩
  obtain ⟨h, hl⟩ := hpre
  have z := fun d mem K => argsOkC_rw (op := op) (cap := cap) (d := d) (cx := ⟨w, [], w, []⟩) (mem := mem) (K := K) ⟨h.mono (sub_now _ _), hl⟩
  have y := fun d mem K => bothOfC_rw (cap := cap) (d := d) (cx := ⟨w, [], w, []⟩) (mem := mem) (K := K) ⟨h.mono (sub_now _ _), hl⟩
  have e := conOk_eq op xs
  generalize hq : (decide ((xs.length : Int) = arity op) && xs.all dOk) = q at z e
  by_cases h1 : 1 ≤ op ∧ op ≤ 10
  · cases q
    · simp only [Bool.and_false, Bool.false_and] at e
      simp (maxSteps := 4000000) -dsimp [-List.all_eq_true, -Array.all_eq_true, -Bool.exists_bool, -Bool.forall_bool, vcsE1, vcsE2, vcsE3, vcsE4, vcsE5, vcsE6, vcsE7, vcsE8, vcsE9, vcsE10, vcsE11, vcsE12, vcsE13, vcsE14, vcsE15, vcsE16, vcsE17, vcsE18, vcsE19, Sx.get, Sx.look, Sx.put, pureFn, findOrd, unF, dstOk, isFloatT, endVC, resFn, packC, newFn, storeFn, buildFn, undef, known, aggT, cellsC, Value.cells, findCon, Con.pure, Con.some, allV, partsV, partsC, fillL, Sx.exitTo, fAr, C.one, Value.oneCell', eqFn, eqFieldsFn, eqElemsFn, partFn, and_assoc, List.zipIdx, sliceFn, boundFn, AppV, CopyV, MakeSliceV, NewsV, GrowV, TextV, bytesL, notInt, typeAt, argAt, Con.read, Con.make, Con.ext, Con.rel, den, Con.extS, Con.draw, Con.step, Draws.steps, Try.f53, isConOpC, argsOkC, isBitC, bothOfC, z, e, h1]
    · simp only [h1, Bool.and_true, decide_true, Bool.true_and, and_self] at e
      simp only [Bool.and_eq_true, decide_eq_true_eq] at hq
      obtain rfl | rfl | rfl | rfl | h5 : op = 1 ∨ op = 2 ∨ op = 3 ∨ op = 4 ∨ 5 ≤ op := by omega
      · obtain ⟨a, rfl⟩ := list_one (by rw [hq.1]; rfl)
        have a0 := h.at0 (x := a) rfl
        simp only [List.length_cons, List.length_nil, Nat.zero_add, Nat.reduceAdd] at z
        simp (maxSteps := 4000000) -dsimp [-List.all_eq_true, -Array.all_eq_true, -Bool.exists_bool, -Bool.forall_bool, vcsE1, vcsE2, vcsE3, vcsE4, vcsE5, vcsE6, vcsE7, vcsE8, vcsE9, vcsE10, vcsE11, vcsE12, vcsE13, vcsE14, vcsE15, vcsE16, vcsE17, vcsE18, vcsE19, Sx.get, Sx.look, Sx.put, pureFn, findOrd, unF, dstOk, isFloatT, endVC, resFn, packC, newFn, storeFn, buildFn, undef, known, aggT, cellsC, Value.cells, findCon, Con.pure, Con.some, allV, partsV, partsC, fillL, Sx.exitTo, fAr, C.one, Value.oneCell', eqFn, eqFieldsFn, eqElemsFn, partFn, and_assoc, List.zipIdx, sliceFn, boundFn, AppV, CopyV, MakeSliceV, NewsV, GrowV, TextV, bytesL, notInt, typeAt, argAt, Con.read, Con.make, Con.ext, Con.rel, den, Con.extS, Con.draw, Con.step, Draws.steps, Try.f53, isConOpC, argsOkC, isBitC, bothOfC, z, e, a0.there, a0.all, conB, xD]
      · obtain ⟨a, rfl⟩ := list_one (by rw [hq.1]; rfl)
        have a0 := h.at0 (x := a) rfl
        simp only [List.length_cons, List.length_nil, Nat.zero_add, Nat.reduceAdd] at z
        simp (maxSteps := 4000000) -dsimp [-List.all_eq_true, -Array.all_eq_true, -Bool.exists_bool, -Bool.forall_bool, vcsE1, vcsE2, vcsE3, vcsE4, vcsE5, vcsE6, vcsE7, vcsE8, vcsE9, vcsE10, vcsE11, vcsE12, vcsE13, vcsE14, vcsE15, vcsE16, vcsE17, vcsE18, vcsE19, Sx.get, Sx.look, Sx.put, pureFn, findOrd, unF, dstOk, isFloatT, endVC, resFn, packC, newFn, storeFn, buildFn, undef, known, aggT, cellsC, Value.cells, findCon, Con.pure, Con.some, allV, partsV, partsC, fillL, Sx.exitTo, fAr, C.one, Value.oneCell', eqFn, eqFieldsFn, eqElemsFn, partFn, and_assoc, List.zipIdx, sliceFn, boundFn, AppV, CopyV, MakeSliceV, NewsV, GrowV, TextV, bytesL, notInt, typeAt, argAt, Con.read, Con.make, Con.ext, Con.rel, den, Con.extS, Con.draw, Con.step, Draws.steps, Try.f53, isConOpC, argsOkC, isBitC, bothOfC, z, e, a0.there, a0.all, conB, xD]
      · obtain ⟨a, b, rfl⟩ := list_two (by rw [hq.1]; rfl)
        have a0 := h.at0 (x := a) rfl
        have a1 := h.at1 (x := b) rfl
        simp only [List.length_cons, List.length_nil, Nat.zero_add, Nat.reduceAdd] at z
        simp (maxSteps := 4000000) -dsimp [-List.all_eq_true, -Array.all_eq_true, -Bool.exists_bool, -Bool.forall_bool, vcsE1, vcsE2, vcsE3, vcsE4, vcsE5, vcsE6, vcsE7, vcsE8, vcsE9, vcsE10, vcsE11, vcsE12, vcsE13, vcsE14, vcsE15, vcsE16, vcsE17, vcsE18, vcsE19, Sx.get, Sx.look, Sx.put, pureFn, findOrd, unF, dstOk, isFloatT, endVC, resFn, packC, newFn, storeFn, buildFn, undef, known, aggT, cellsC, Value.cells, findCon, Con.pure, Con.some, allV, partsV, partsC, fillL, Sx.exitTo, fAr, C.one, Value.oneCell', eqFn, eqFieldsFn, eqElemsFn, partFn, and_assoc, List.zipIdx, sliceFn, boundFn, AppV, CopyV, MakeSliceV, NewsV, GrowV, TextV, bytesL, notInt, typeAt, argAt, Con.read, Con.make, Con.ext, Con.rel, den, Con.extS, Con.draw, Con.step, Draws.steps, Try.f53, isConOpC, argsOkC, isBitC, bothOfC, z, e, a0.there, a0.all, a1.there, a1.k, conB, xD]
        refine ⟨fun hb => ?_, fun hb hb' => absurd (hb'.symm.trans hb) (by simp)⟩
        rw [show isBit a = true from hb, Bool.true_and]; exact Bool.eq_iff_iff.mpr (by simp)
      · obtain ⟨a, b, rfl⟩ := list_two (by rw [hq.1]; rfl)
        have a0 := h.at0 (x := a) rfl
        have a1 := h.at1 (x := b) rfl
        simp only [List.length_cons, List.length_nil, Nat.zero_add, Nat.reduceAdd] at z
        simp (maxSteps := 4000000) -dsimp [-List.all_eq_true, -Array.all_eq_true, -Bool.exists_bool, -Bool.forall_bool, vcsE1, vcsE2, vcsE3, vcsE4, vcsE5, vcsE6, vcsE7, vcsE8, vcsE9, vcsE10, vcsE11, vcsE12, vcsE13, vcsE14, vcsE15, vcsE16, vcsE17, vcsE18, vcsE19, Sx.get, Sx.look, Sx.put, pureFn, findOrd, unF, dstOk, isFloatT, endVC, resFn, packC, newFn, storeFn, buildFn, undef, known, aggT, cellsC, Value.cells, findCon, Con.pure, Con.some, allV, partsV, partsC, fillL, Sx.exitTo, fAr, C.one, Value.oneCell', eqFn, eqFieldsFn, eqElemsFn, partFn, and_assoc, List.zipIdx, sliceFn, boundFn, AppV, CopyV, MakeSliceV, NewsV, GrowV, TextV, bytesL, notInt, typeAt, argAt, Con.read, Con.make, Con.ext, Con.rel, den, Con.extS, Con.draw, Con.step, Draws.steps, Try.f53, isConOpC, argsOkC, isBitC, bothOfC, z, e, a0.there, a0.all, a1.there, a1.k, conB, xD]
        refine ⟨fun hb => ?_, fun hb hb' => absurd (hb'.symm.trans hb) (by simp)⟩
        rw [show isBit a = true from hb, Bool.true_and]; exact Bool.eq_iff_iff.mpr (by simp)
      · have n1 : op ≠ 1 ∧ op ≠ 2 ∧ op ≠ 3 ∧ op ≠ 4 ∧ ¬ op ≤ 2 ∧ ¬ op ≤ 4 := by omega
        simp (maxSteps := 4000000) -dsimp [-List.all_eq_true, -Array.all_eq_true, -Bool.exists_bool, -Bool.forall_bool, vcsE1, vcsE2, vcsE3, vcsE4, vcsE5, vcsE6, vcsE7, vcsE8, vcsE9, vcsE10, vcsE11, vcsE12, vcsE13, vcsE14, vcsE15, vcsE16, vcsE17, vcsE18, vcsE19, Sx.get, Sx.look, Sx.put, pureFn, findOrd, unF, dstOk, isFloatT, endVC, resFn, packC, newFn, storeFn, buildFn, undef, known, aggT, cellsC, Value.cells, findCon, Con.pure, Con.some, allV, partsV, partsC, fillL, Sx.exitTo, fAr, C.one, Value.oneCell', eqFn, eqFieldsFn, eqElemsFn, partFn, and_assoc, List.zipIdx, sliceFn, boundFn, AppV, CopyV, MakeSliceV, NewsV, GrowV, TextV, bytesL, notInt, typeAt, argAt, Con.read, Con.make, Con.ext, Con.rel, den, Con.extS, Con.draw, Con.step, Draws.steps, Try.f53, isConOpC, argsOkC, isBitC, bothOfC, z, y, e, n1, h1, conB]
        exact fun h6 => by omega
  · simp only [h1, decide_false, Bool.false_and] at e
    by_cases h2 : 1 ≤ op
    · have h3 : ¬ op ≤ 10 := by omega
      simp (maxSteps := 4000000) -dsimp [-List.all_eq_true, -Array.all_eq_true, -Bool.exists_bool, -Bool.forall_bool, vcsE1, vcsE2, vcsE3, vcsE4, vcsE5, vcsE6, vcsE7, vcsE8, vcsE9, vcsE10, vcsE11, vcsE12, vcsE13, vcsE14, vcsE15, vcsE16, vcsE17, vcsE18, vcsE19, Sx.get, Sx.look, Sx.put, pureFn, findOrd, unF, dstOk, isFloatT, endVC, resFn, packC, newFn, storeFn, buildFn, undef, known, aggT, cellsC, Value.cells, findCon, Con.pure, Con.some, allV, partsV, partsC, fillL, Sx.exitTo, fAr, C.one, Value.oneCell', eqFn, eqFieldsFn, eqElemsFn, partFn, and_assoc, List.zipIdx, sliceFn, boundFn, AppV, CopyV, MakeSliceV, NewsV, GrowV, TextV, bytesL, notInt, typeAt, argAt, Con.read, Con.make, Con.ext, Con.rel, den, Con.extS, Con.draw, Con.step, Draws.steps, Try.f53, isConOpC, argsOkC, isBitC, bothOfC, z, e, h2, h3]
    · simp (maxSteps := 4000000) -dsimp [-List.all_eq_true, -Array.all_eq_true, -Bool.exists_bool, -Bool.forall_bool, vcsE1, vcsE2, vcsE3, vcsE4, vcsE5, vcsE6, vcsE7, vcsE8, vcsE9, vcsE10, vcsE11, vcsE12, vcsE13, vcsE14, vcsE15, vcsE16, vcsE17, vcsE18, vcsE19, Sx.get, Sx.look, Sx.put, pureFn, findOrd, unF, dstOk, isFloatT, endVC, resFn, packC, newFn, storeFn, buildFn, undef, known, aggT, cellsC, Value.cells, findCon, Con.pure, Con.some, allV, partsV, partsC, fillL, Sx.exitTo, fAr, C.one, Value.oneCell', eqFn, eqFieldsFn, eqElemsFn, partFn, and_assoc, List.zipIdx, sliceFn, boundFn, AppV, CopyV, MakeSliceV, NewsV, GrowV, TextV, bytesL, notInt, typeAt, argAt, Con.read, Con.make, Con.ext, Con.rel, den, Con.extS, Con.draw, Con.step, Draws.steps, Try.f53, isConOpC, argsOkC, isBitC, bothOfC, z, e, h2]
def iConC_S : Reads Try.prog 53 where
  ι := ((Int) × (Option Addr) × (Nat) × (List Dev))
  A := fun (i : ((Int) × (Option Addr) × (Nat) × (List Dev))) => match i with | (op, o, cap, xs) => [.agg #[.int .i64 op, .slice o xs.length cap]]
  pre := fun (i : ((Int) × (Option Addr) × (Nat) × (List Dev))) (F : Facts) => match i with | (op, o, cap, xs) => RdD F o xs ∧ xs.length ≤ 1048576
  res := fun (i : ((Int) × (Option Addr) × (Nat) × (List Dev))) => match i with | (op, o, cap, xs) => .bool (conOk op xs)
  mono := by
    intro i F G hs h
    first | exact h | exact h.mono hs | exact ⟨h.1.mono hs, h.2⟩ | exact ⟨h.1.mono hs, h.2.1.mono hs, h.2.2⟩ | exact ⟨h.1.mono hs, h.2.1.mono hs⟩
  uniq := by
    rintro ⟨op, o, cap, xs⟩ ⟨op', o', cap', xs'⟩ F hA h h'
    simp at hA
    (try simp only [Int.natCast_inj] at hA)
    obtain rfl : xs = xs' := RdD.uniq h.1 h'.1 (by simp_all) (by simp_all)
    simp_all
  enter := Try.call53
  h := fun i w hp => iConC_c i.1 i.2.1 i.2.2.1 i.2.2.2 w (by rw [factF_init]; exact hp)
def iConC : Con Try.prog := Con.read iConC_S
theorem iConC_rw {op : Int} {o : Option Addr} {cap : Nat} {xs : List Dev} {d : Nat} {cx : Cx} {mem : List Blk} {K : C → Prop} (hpre : RdD (nowF cx mem) o xs ∧ xs.length ≤ 1048576) : ReadV d iConC_S cx [.v (.agg #[.int .i64 op, .slice o xs.length cap])] mem K = K (.v (.bool (conOk op xs))) := iConC_S.eq (op, o, cap, xs) rfl hpre
theorem isPresetC_c (k n p : Int) (w : World) : Calls Try.prog 87 #[.agg #[.int .i64 k, .int .i64 n, .int .i64 p]] w fun e w' => e = .returned (.bool (pOk ⟨k, n, p⟩)) ∧ RowKit.Below w.heap.size w w' := by
  refine (plain_of_vcs ⟨[], []⟩ hmx Try.func87 rfl (by kernel_rfl) (args := [.agg #[.int .i64 k, .int .i64 n, .int .i64 p]]) (by simp [Try.ntmps87]) w (· = .bool (pOk ⟨k, n, p⟩)) 400 ?_).mono fun e w' ⟨v, h1, h2, h3⟩ => ⟨h2 ▸ h1, h3⟩
  simp (maxSteps := 4000000) -dsimp [-List.all_eq_true, -Array.all_eq_true, -Bool.exists_bool, -Bool.forall_bool, vcsE1, vcsE2, vcsE3, vcsE4, vcsE5, vcsE6, vcsE7, vcsE8, vcsE9, vcsE10, vcsE11, vcsE12, vcsE13, vcsE14, vcsE15, vcsE16, vcsE17, vcsE18, vcsE19, Sx.get, Sx.look, Sx.put, pureFn, findOrd, unF, dstOk, isFloatT, endVC, resFn, packC, newFn, storeFn, buildFn, undef, known, aggT, cellsC, Value.cells, findCon, Con.pure, Con.some, allV, partsV, partsC, fillL, Sx.exitTo, fAr, C.one, Value.oneCell', eqFn, eqFieldsFn, eqElemsFn, partFn, and_assoc, List.zipIdx, sliceFn, boundFn, AppV, CopyV, MakeSliceV, NewsV, GrowV, TextV, bytesL, notInt, typeAt, argAt, Con.read, Con.make, Con.ext, Con.rel, den, Con.extS, Con.draw, Con.step, Draws.steps, Try.f87, pOk]
  exact ⟨fun a _ => a, fun a b => absurd b a⟩
def isPresetC : Con Try.prog := Con.pure 87 Try.call87 (fun (i : ((Int) × (Int) × (Int))) => match i with | (k, n, p) => [.agg #[.int .i64 k, .int .i64 n, .int .i64 p]]) (fun (i : ((Int) × (Int) × (Int))) => match i with | (k, n, p) => True) (fun (i : ((Int) × (Int) × (Int))) => match i with | (k, n, p) => .bool (pOk ⟨k, n, p⟩)) fun i w _ => isPresetC_c i.1 i.2.1 i.2.2 w
end Go.Proofs.Ytdjjkfhholinkaa
