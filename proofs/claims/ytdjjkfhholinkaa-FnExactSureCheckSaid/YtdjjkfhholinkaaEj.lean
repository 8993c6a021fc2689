/-
  Contracts: which contacts, coils and instructions are ok, by the program: the whole of them.
-/
import Derived.Test.YtdjjkfhholinkaaEi
set_option linter.unusedVariables false
set_option linter.unusedSimpArgs false
set_option maxRecDepth 100000
set_option maxHeartbeats 4000000
namespace Go.Proofs.Ytdjjkfhholinkaa
open Go Go.Sx

theorem any_ok (xs : List Dev) : xs.any (badF 101) = !xs.all dOk := by
  induction xs with
  | nil => rfl
  | cons x r ih => rw [List.any_cons, List.all_cons, ih, Bool.not_and]; rfl
theorem any_whl (xs : List Dev) : xs.any (badF 82) = !xs.all isWhl := by
  induction xs with
  | nil => rfl
  | cons x r ih => rw [List.any_cons, List.all_cons, ih, Bool.not_and]; rfl
theorem any_rl (xs : List Dev) : xs.any (badF 84) = !xs.all isRl := by
  induction xs with
  | nil => rfl
  | cons x r ih => rw [List.any_cons, List.all_cons, ih, Bool.not_and]; rfl
theorem all_snoc {g : Dev → Bool} {xs : List Dev} {i : Nat} {x : Dev} (hx : xs[i]? = some x) : (xs.take (i + 1)).all g = ((xs.take i).all g && g x) := by
  rw [List.take_add_one, hx, List.all_append]; simp

def wS (xs : List Dev) (i : Nat) : Bool := (xs.take i).all isWhl
def rS (xs : List Dev) (i : Nat) : Bool := (xs.take i).all isRl
theorem bothB_eq (xs : List Dev) : bothB xs = (wS xs xs.length || rS xs xs.length) := by unfold bothB wS rS; rw [List.take_length]
theorem argsOkC_c (op : Int) (o : Option Addr) (cap : Nat) (xs : List Dev) (w : World) (hpre : RdD (factF ⟨w, [], w, []⟩) o xs ∧ xs.length ≤ 1048576) : Calls Try.prog 77 #[.agg #[.int .i64 op, .slice o xs.length cap]] w fun e w' => e = .returned (.bool (decide ((xs.length : Int) = arity op) && xs.all dOk)) ∧ RowKit.Below w.heap.size w w' := by
  refine (plain_of_vcs ⟨[arityC, containsFuncC], []⟩ hmx Try.func77 rfl (by kernel_rfl) (args := [.agg #[.int .i64 op, .slice o xs.length cap]]) (by simp [Try.ntmps77]) w (· = .bool (decide ((xs.length : Int) = arity op) && xs.all dOk)) 400 ?_).mono fun e w' ⟨v, h1, h2, h3⟩ => ⟨h2 ▸ h1, h3⟩
  obtain ⟨h, hl⟩ := hpre
  have z := fun d mem K => containsFuncC_rw (cap := cap) (d := d) (cx := ⟨w, [], w, []⟩) (mem := mem) (K := K) (f := 101) ⟨h.mono (sub_now _ _), hl, Or.inl rfl⟩
  by_cases ha : (xs.length : Int) = arity op
  · simp (maxSteps := 4000000) -dsimp [-List.all_eq_true, -Array.all_eq_true, -Bool.exists_bool, -Bool.forall_bool, vcsE1, vcsE2, vcsE3, vcsE4, vcsE5, vcsE6, vcsE7, vcsE8, vcsE9, vcsE10, vcsE11, vcsE12, vcsE13, vcsE14, vcsE15, vcsE16, vcsE17, vcsE18, vcsE19, Sx.get, Sx.look, Sx.put, pureFn, findOrd, unF, dstOk, isFloatT, endVC, resFn, packC, newFn, storeFn, buildFn, undef, known, aggT, cellsC, Value.cells, findCon, Con.pure, Con.some, allV, partsV, partsC, fillL, Sx.exitTo, fAr, C.one, Value.oneCell', eqFn, eqFieldsFn, eqElemsFn, partFn, and_assoc, List.zipIdx, sliceFn, boundFn, AppV, CopyV, MakeSliceV, NewsV, GrowV, TextV, bytesL, notInt, typeAt, argAt, Con.read, Con.make, Con.ext, Con.rel, den, Con.extS, Con.draw, Con.step, Draws.steps, Try.f77, arityC, containsFuncC, z, ha, any_ok]
  · simp (maxSteps := 4000000) -dsimp [-List.all_eq_true, -Array.all_eq_true, -Bool.exists_bool, -Bool.forall_bool, vcsE1, vcsE2, vcsE3, vcsE4, vcsE5, vcsE6, vcsE7, vcsE8, vcsE9, vcsE10, vcsE11, vcsE12, vcsE13, vcsE14, vcsE15, vcsE16, vcsE17, vcsE18, vcsE19, Sx.get, Sx.look, Sx.put, pureFn, findOrd, unF, dstOk, isFloatT, endVC, resFn, packC, newFn, storeFn, buildFn, undef, known, aggT, cellsC, Value.cells, findCon, Con.pure, Con.some, allV, partsV, partsC, fillL, Sx.exitTo, fAr, C.one, Value.oneCell', eqFn, eqFieldsFn, eqElemsFn, partFn, and_assoc, List.zipIdx, sliceFn, boundFn, AppV, CopyV, MakeSliceV, NewsV, GrowV, TextV, bytesL, notInt, typeAt, argAt, Con.read, Con.make, Con.ext, Con.rel, den, Con.extS, Con.draw, Con.step, Draws.steps, Try.f77, arityC, containsFuncC, z, ha, any_ok]
def argsOkC_S : Reads Try.prog 77 where
  ι := ((Int) × (Option Addr) × (Nat) × (List Dev))
  A := fun (i : ((Int) × (Option Addr) × (Nat) × (List Dev))) => match i with | (op, o, cap, xs) => [.agg #[.int .i64 op, .slice o xs.length cap]]
  pre := fun (i : ((Int) × (Option Addr) × (Nat) × (List Dev))) (F : Facts) => match i with | (op, o, cap, xs) => RdD F o xs ∧ xs.length ≤ 1048576
  res := fun (i : ((Int) × (Option Addr) × (Nat) × (List Dev))) => match i with | (op, o, cap, xs) => .bool (decide ((xs.length : Int) = arity op) && xs.all dOk)
  mono := by
    intro i F G hs h
    first | exact h | exact h.mono hs | exact ⟨h.1.mono hs, h.2⟩ | exact ⟨h.1.mono hs, h.2.1.mono hs, h.2.2⟩ | exact ⟨h.1.mono hs, h.2.1.mono hs⟩
  uniq := by
    rintro ⟨op, o, cap, xs⟩ ⟨op', o', cap', xs'⟩ F hA h h'
    simp at hA
    (try simp only [Int.natCast_inj] at hA)
    obtain rfl : xs = xs' := RdD.uniq h.1 h'.1 (by simp_all) (by simp_all)
    simp_all
  enter := Try.call77
  h := fun i w hp => argsOkC_c i.1 i.2.1 i.2.2.1 i.2.2.2 w (by rw [factF_init]; exact hp)
def argsOkC : Con Try.prog := Con.read argsOkC_S
theorem argsOkC_rw {op : Int} {o : Option Addr} {cap : Nat} {xs : List Dev} {d : Nat} {cx : Cx} {mem : List Blk} {K : C → Prop} (hpre : RdD (nowF cx mem) o xs ∧ xs.length ≤ 1048576) : ReadV d argsOkC_S cx [.v (.agg #[.int .i64 op, .slice o xs.length cap])] mem K = K (.v (.bool (decide ((xs.length : Int) = arity op) && xs.all dOk))) := argsOkC_S.eq (op, o, cap, xs) rfl hpre
theorem bothOfC_c (o : Option Addr) (cap : Nat) (xs : List Dev) (w : World) (hpre : RdD (factF ⟨w, [], w, []⟩) o xs ∧ xs.length ≤ 1048576) : Calls Try.prog 79 #[.slice o xs.length cap] w fun e w' => e = .returned (.bool (bothB xs)) ∧ RowKit.Below w.heap.size w w' := by
  refine (plain_of_vcs ⟨[isWhlC, isRlC], []⟩ hmx Try.func79 rfl (by kernel_rfl) (args := [.slice o xs.length cap]) (by simp [Try.ntmps79]) w (· = .bool (bothB xs)) 400 ?_).mono fun e w' ⟨v, h1, h2, h3⟩ => ⟨h2 ▸ h1, h3⟩
  obtain ⟨h, hl⟩ := hpre
  simp (maxSteps := 4000000) -dsimp [-List.all_eq_true, -Array.all_eq_true, -Bool.exists_bool, -Bool.forall_bool, vcsE1, vcsE2, vcsE3, vcsE4, vcsE5, vcsE6, vcsE7, vcsE8, vcsE9, vcsE10, vcsE11, vcsE12, vcsE13, vcsE14, vcsE15, vcsE16, vcsE17, vcsE18, vcsE19, Sx.get, Sx.look, Sx.put, pureFn, findOrd, unF, dstOk, isFloatT, endVC, resFn, packC, newFn, storeFn, buildFn, undef, known, aggT, cellsC, Value.cells, findCon, Con.pure, Con.some, allV, partsV, partsC, fillL, Sx.exitTo, fAr, C.one, Value.oneCell', eqFn, eqFieldsFn, eqElemsFn, partFn, and_assoc, List.zipIdx, sliceFn, boundFn, AppV, CopyV, MakeSliceV, NewsV, GrowV, TextV, bytesL, notInt, typeAt, argAt, Con.read, Con.make, Con.ext, Con.rel, den, Con.extS, Con.draw, Con.step, Draws.steps, Try.f79, isWhlC, isRlC]
  refine loop_inv (σ := ⟨[isWhlC, isRlC], []⟩) hmx (by kernel_rfl) (fun m cx tm mem => cx = ⟨w, [], w, []⟩ ∧ mem = [] ∧ ∃ (i : Nat) (p q : Bool), i ≤ xs.length ∧ m = xs.length - i ∧ p = wS xs i ∧ q = rS xs i ∧ Sx.look tm 9 = .v (.int .i64 i) ∧ Sx.look tm 8 = .v (.int .i64 xs.length) ∧ Sx.look tm 7 = .v (.slice o xs.length cap) ∧ Sx.look tm 3 = .v (.bool p) ∧ Sx.look tm 4 = .v (.bool q))
    xs.length ⟨rfl, rfl, 0, true, true, by omega, rfl, rfl, rfl, by simp [Sx.look], by simp [Sx.look], by simp [Sx.look], by simp [Sx.look], by simp [Sx.look]⟩ ?_
  rintro m cx tm mem ⟨rfl, rfl, i, p, q, hi, rfl, hp, hq, h9, h8, h7, h3, h4⟩
  refine ⟨300, ?_⟩
  by_cases hlt : i < xs.length
  · obtain ⟨x, hxi⟩ : ∃ x, xs[i]? = some x := ⟨xs[i], by simp [hlt]⟩
    have e1 := all_snoc (g := isWhl) hxi
    have e2 := all_snoc (g := isRl) hxi
    rw [show (xs.take i).all isWhl = p from hp.symm] at e1
    rw [show (xs.take i).all isRl = q from hq.symm] at e2
    have e1' : wS xs (i + 1) = (p && isWhl x) := e1
    have e2' : rS xs (i + 1) = (q && isRl x) := e2
    clear e1 e2
    cases p <;> cases q
    all_goals
      simp (maxSteps := 4000000) -dsimp [-List.all_eq_true, -Array.all_eq_true, -Bool.exists_bool, -Bool.forall_bool, vcsE1, vcsE2, vcsE3, vcsE4, vcsE5, vcsE6, vcsE7, vcsE8, vcsE9, vcsE10, vcsE11, vcsE12, vcsE13, vcsE14, vcsE15, vcsE16, vcsE17, vcsE18, vcsE19, Sx.get, Sx.look, Sx.put, pureFn, findOrd, unF, dstOk, isFloatT, endVC, resFn, packC, newFn, storeFn, buildFn, undef, known, aggT, cellsC, Value.cells, findCon, Con.pure, Con.some, allV, partsV, partsC, fillL, Sx.exitTo, fAr, C.one, Value.oneCell', eqFn, eqFieldsFn, eqElemsFn, partFn, and_assoc, List.zipIdx, sliceFn, boundFn, AppV, CopyV, MakeSliceV, NewsV, GrowV, TextV, bytesL, notInt, typeAt, argAt, Con.read, Con.make, Con.ext, Con.rel, den, Con.extS, Con.draw, Con.step, Draws.steps, Try.f79, isWhlC, isRlC, h9, h8, h7, h3, h4, hlt, i_succ (i := i) (by omega), h.there hlt, h.ld _ _ hxi]
      refine ⟨0, _, ?_, rfl, i + 1, by omega, rfl, by omega, ?_, ?_⟩
      · omega
      · simp [e1']
      · simp [e2']
  · obtain rfl : i = xs.length := by omega
    have e := bothB_eq xs
    rw [← hp, ← hq] at e
    simp (maxSteps := 4000000) -dsimp [-List.all_eq_true, -Array.all_eq_true, -Bool.exists_bool, -Bool.forall_bool, vcsE1, vcsE2, vcsE3, vcsE4, vcsE5, vcsE6, vcsE7, vcsE8, vcsE9, vcsE10, vcsE11, vcsE12, vcsE13, vcsE14, vcsE15, vcsE16, vcsE17, vcsE18, vcsE19, Sx.get, Sx.look, Sx.put, pureFn, findOrd, unF, dstOk, isFloatT, endVC, resFn, packC, newFn, storeFn, buildFn, undef, known, aggT, cellsC, Value.cells, findCon, Con.pure, Con.some, allV, partsV, partsC, fillL, Sx.exitTo, fAr, C.one, Value.oneCell', eqFn, eqFieldsFn, eqElemsFn, partFn, and_assoc, List.zipIdx, sliceFn, boundFn, AppV, CopyV, MakeSliceV, NewsV, GrowV, TextV, bytesL, notInt, typeAt, argAt, Con.read, Con.make, Con.ext, Con.rel, den, Con.extS, Con.draw, Con.step, Draws.steps, Try.f79, isWhlC, isRlC, h9, h8, h7, h3, h4, e]
    cases p <;> cases q <;> simp
def bothOfC_S : Reads Try.prog 79 where
  ι := ((Option Addr) × (Nat) × (List Dev))
  A := fun (i : ((Option Addr) × (Nat) × (List Dev))) => match i with | (o, cap, xs) => [.slice o xs.length cap]
  pre := fun (i : ((Option Addr) × (Nat) × (List Dev))) (F : Facts) => match i with | (o, cap, xs) => RdD F o xs ∧ xs.length ≤ 1048576
  res := fun (i : ((Option Addr) × (Nat) × (List Dev))) => match i with | (o, cap, xs) => .bool (bothB xs)
  mono := by
    intro i F G hs h
    first | exact h | exact h.mono hs | exact ⟨h.1.mono hs, h.2⟩ | exact ⟨h.1.mono hs, h.2.1.mono hs, h.2.2⟩ | exact ⟨h.1.mono hs, h.2.1.mono hs⟩
  uniq := by
    rintro ⟨o, cap, xs⟩ ⟨o', cap', xs'⟩ F hA h h'
    simp at hA
    (try simp only [Int.natCast_inj] at hA)
    obtain rfl : xs = xs' := RdD.uniq h.1 h'.1 (by simp_all) (by simp_all)
    simp_all
  enter := Try.call79
  h := fun i w hp => bothOfC_c i.1 i.2.1 i.2.2 w (by rw [factF_init]; exact hp)
def bothOfC : Con Try.prog := Con.read bothOfC_S
theorem bothOfC_rw {o : Option Addr} {cap : Nat} {xs : List Dev} {d : Nat} {cx : Cx} {mem : List Blk} {K : C → Prop} (hpre : RdD (nowF cx mem) o xs ∧ xs.length ≤ 1048576) : ReadV d bothOfC_S cx [.v (.slice o xs.length cap)] mem K = K (.v (.bool (bothB xs))) := bothOfC_S.eq (o, cap, xs) rfl hpre
end Go.Proofs.Ytdjjkfhholinkaa
