/-
  Contracts: whether two memories are one, by the program.
-/
import Derived.Test.YtmiicjgbhkjocaaN
import Derived.Test.YtmiicjgbhkjocaaMp
import Derived.Test.YtmiicjgbhkjocaaI
import Derived.Test.YtmiicjgbhkjocaaD
set_option linter.unusedVariables false
set_option linter.unusedSimpArgs false
set_option maxRecDepth 100000
set_option maxHeartbeats 4000000
namespace Go.Proofs.Ytmiicjgbhkjocaa
open Go Go.Sx

def sameFB (a b : Nat) : Bool := (isNan a && isNan b) || a == b
theorem sameFB_iff {a b : Nat} : sameFB a b = true ↔ sameF a b := by
  unfold sameFB sameF
  cases ha : isNan a <;> cases hb : isNan b <;> simp
  all_goals (rintro rfl; rw [ha] at hb; cases hb)
def memEqB (a b : M) : Bool :=
  (a.X == b.X) && ((a.Y == b.Y) && ((a.M == b.M) && ((a.S == b.S) && ((a.E == b.E) &&
    (((List.range 16).foldr (fun k q => ((a.T k).1 == (b.T k).1 && ((a.T k).2 == (b.T k).2 && true)) && q) true) &&
    (((List.range 16).foldr (fun k q => ((a.C k).1 == (b.C k).1 && ((a.C k).2.1 == (b.C k).2.1 && ((a.C k).2.2 == (b.C k).2.2 && true))) && q) true) &&
    (((List.range 32).foldr (fun k q => (a.D k == b.D k) && q) true) &&
    (((List.range 16).foldr (fun k q => Op.floatEq .f64 (a.R k) (b.R k) && q) true) &&
    ((a.Time == b.Time) && ((a.Ran == b.Ran) && ((a.Fault == b.Fault) && true)))))))))))
theorem eq_mem (a b : M) : eqFn Try.prog 12 43 (.agg (cells a)) (.agg (cells b)) = some (memEqB a b) := by kernel_rfl
theorem foldr_all (f : Nat → Bool) : ∀ (l : List Nat), l.foldr (fun k q => f k && q) true = l.all f
  | [] => rfl
  | x :: l => by rw [List.foldr_cons, List.all_cons, foldr_all f l]
def noR (m : M) : M := { m with R := Arr.zero _ _ }
theorem memEqB_iff (a b : M) : memEqB (noR a) (noR b) = true ↔ (a.X = b.X ∧ a.Y = b.Y ∧ a.M = b.M ∧ a.S = b.S ∧ a.E = b.E ∧ a.T = b.T ∧ a.C = b.C ∧ a.D = b.D ∧ a.Time = b.Time ∧ a.Ran = b.Ran ∧ a.Fault = b.Fault) := by
  have hz : (List.range 16).foldr (fun k q => Op.floatEq .f64 ((noR a).R k) ((noR b).R k) && q) true = true := by
    have : ∀ k, ((noR a).R k) = 0 ∧ ((noR b).R k) = 0 := fun k => ⟨rfl, rfl⟩
    rw [foldr_all, List.all_eq_true]
    intro k _
    rw [(this k).1, (this k).2]
    decide
  unfold memEqB
  rw [hz]
  rw [foldr_all (fun k => ((noR a).T k).1 == ((noR b).T k).1 && (((noR a).T k).2 == ((noR b).T k).2 && true)), foldr_all (fun k => ((noR a).C k).1 == ((noR b).C k).1 && (((noR a).C k).2.1 == ((noR b).C k).2.1 && (((noR a).C k).2.2 == ((noR b).C k).2.2 && true))), foldr_all (fun k => (noR a).D k == (noR b).D k)]
  simp only [Bool.and_eq_true, beq_iff_eq, List.all_eq_true, List.mem_range, Bool.and_true, and_true, true_and]
  constructor
  · rintro ⟨h1, h2, h3, h4, h5, h6, h7, h8, h9, h10, h11⟩
    exact ⟨h1, h2, h3, h4, h5, Arr.ext' fun k hk => Prod.ext (h6 k hk).1 (h6 k hk).2, Arr.ext' fun k hk => Prod.ext (h7 k hk).1 (Prod.ext (h7 k hk).2.1 (h7 k hk).2.2), Arr.ext' fun k hk => h8 k hk, h9, h10, h11⟩
  · rintro ⟨h1, h2, h3, h4, h5, h6, h7, h8, h9, h10, h11⟩
    refine ⟨h1, h2, h3, h4, h5, fun k _ => ?_, fun k _ => ?_, fun k _ => ?_, h9, h10, h11⟩
    · show (a.T k).1 = (b.T k).1 ∧ (a.T k).2 = (b.T k).2
      rw [h6]; exact ⟨rfl, rfl⟩
    · show (a.C k).1 = (b.C k).1 ∧ (a.C k).2.1 = (b.C k).2.1 ∧ (a.C k).2.2 = (b.C k).2.2
      rw [h7]; exact ⟨rfl, rfl, rfl⟩
    · show a.D k = b.D k
      rw [h8]
def msB (a b : M) : Bool := (List.range 16).all (fun k => sameFB (a.R k) (b.R k)) && memEqB (noR a) (noR b)
theorem msB_iff {a b : M} : msB a b = true ↔ MSame a b := by
  unfold msB
  rw [Bool.and_eq_true, memEqB_iff, List.all_eq_true]
  constructor
  · rintro ⟨hr, h1, h2, h3, h4, h5, h6, h7, h8, h9, h10, h11⟩
    exact ⟨h1, h2, h3, h4, h5, h6, h7, h8, fun k hk => sameFB_iff.1 (hr k (by simpa using hk)), h9, h10, h11⟩
  · rintro ⟨h1, h2, h3, h4, h5, h6, h7, h8, hr, h9, h10, h11⟩
    exact ⟨fun k hk => sameFB_iff.2 (hr k (by simpa using hk)), h1, h2, h3, h4, h5, h6, h7, h8, h9, h10, h11⟩
theorem msB_self (a : M) : msB a a = true := msB_iff.2 (MSame_refl a)
theorem zeroR (m : M) : List.take 117 (cellC m) ++ (C.v (.float .f64 0) :: C.v (.float .f64 0) :: C.v (.float .f64 0) :: C.v (.float .f64 0) :: C.v (.float .f64 0) :: C.v (.float .f64 0) :: C.v (.float .f64 0) :: C.v (.float .f64 0) :: C.v (.float .f64 0) :: C.v (.float .f64 0) :: C.v (.float .f64 0) :: C.v (.float .f64 0) :: C.v (.float .f64 0) :: C.v (.float .f64 0) :: C.v (.float .f64 0) :: C.v (.float .f64 0) :: List.drop 133 (cellC m)) = cellC (noR m) := by kernel_rfl
theorem sameRealC_c (a b : Nat) (w : World) : Calls Try.prog 74 #[.float .f64 a, .float .f64 b] w fun e w' => e = .returned (.bool (sameFB a b)) ∧ RowKit.Below w.heap.size w w' := by
  refine (plain_of_vcs ⟨[bitsC], []⟩ hmx Try.func74 rfl (by kernel_rfl) (args := [.float .f64 a, .float .f64 b]) (by simp [Try.ntmps74]) w (· = .bool (sameFB a b)) 400 ?_).mono fun e w' ⟨v, h1, h2, h3⟩ => ⟨h2 ▸ h1, h3⟩
  have e1 := ord_self a
  have e2 := ord_self b
  have e3 : ((a : Int) == (b : Int)) = (a == b) := by rw [Bool.eq_iff_iff]; simp; omega
  cases ha : isNan a <;> cases hb : isNan b
  all_goals
    rw [ha] at e1
    rw [hb] at e2
    simp (maxSteps := 4000000) -dsimp [-List.all_eq_true, -Array.all_eq_true, -Bool.exists_bool, -Bool.forall_bool, vcsE1, vcsE2, vcsE3, vcsE4, vcsE5, vcsE6, vcsE7, vcsE8, vcsE9, vcsE10, vcsE11, vcsE12, vcsE13, vcsE14, vcsE15, vcsE16, vcsE17, vcsE18, vcsE19, Sx.get, Sx.look, Sx.put, pureFn, findOrd, unF, dstOk, isFloatT, endVC, resFn, packC, newFn, storeFn, buildFn, undef, known, aggT, cellsC, Value.cells, findCon, Con.pure, Con.some, allV, partsV, partsC, fillL, Sx.exitTo, fAr, C.one, Value.oneCell', eqFn, eqFieldsFn, eqElemsFn, partFn, and_assoc, List.zipIdx, sliceFn, boundFn, AppV, CopyV, MakeSliceV, NewsV, GrowV, TextV, bytesL, notInt, typeAt, argAt, Con.read, Con.make, Con.ext, Con.rel, den, Con.extS, Con.draw, Con.step, Draws.steps, Try.f74, bitsC, fmt64, e1, e2, e3, sameFB, ha, hb]
def sameRealC : Con Try.prog := Con.pure 74 Try.call74 (fun (i : ((Nat) × (Nat))) => match i with | (a, b) => [.float .f64 a, .float .f64 b]) (fun (i : ((Nat) × (Nat))) => match i with | (a, b) => True) (fun (i : ((Nat) × (Nat))) => match i with | (a, b) => .bool (sameFB a b)) fun i w _ => sameRealC_c i.1 i.2 w
theorem memSameC_c (x y : M) (w : World) : Calls Try.prog 20 #[.agg (cells x), .agg (cells y)] w fun e w' => e = .returned (.bool (msB x y)) ∧ RowKit.Below w.heap.size w w' := by
  refine (plain_of_vcs ⟨[sameRealC], []⟩ hmx Try.func20 rfl (by kernel_rfl) (args := [.agg (cells x), .agg (cells y)]) (by simp [Try.ntmps20]) w (· = .bool (msB x y)) 400 ?_).mono fun e w' ⟨v, h1, h2, h3⟩ => ⟨h2 ▸ h1, h3⟩
  simp (maxSteps := 4000000) -dsimp [-List.all_eq_true, -Array.all_eq_true, -Bool.exists_bool, -Bool.forall_bool, vcsE1, vcsE2, vcsE3, vcsE4, vcsE5, vcsE6, vcsE7, vcsE8, vcsE9, vcsE10, vcsE11, vcsE12, vcsE13, vcsE14, vcsE15, vcsE16, vcsE17, vcsE18, vcsE19, Sx.get, Sx.look, Sx.put, pureFn, findOrd, unF, dstOk, isFloatT, endVC, resFn, packC, newFn, storeFn, buildFn, undef, known, aggT, cellsC, Value.cells, findCon, Con.pure, Con.some, allV, partsV, partsC, fillL, Sx.exitTo, fAr, C.one, Value.oneCell', eqFn, eqFieldsFn, eqElemsFn, partFn, and_assoc, List.zipIdx, sliceFn, boundFn, AppV, CopyV, MakeSliceV, NewsV, GrowV, TextV, bytesL, notInt, typeAt, argAt, Con.read, Con.make, Con.ext, Con.rel, den, Con.extS, Con.draw, Con.step, Draws.steps, Try.f20, sameRealC]
  intro b1 b2
  refine loop_inv (σ := ⟨[sameRealC], []⟩) hmx (by kernel_rfl) (fun q cx tm mem => cx = ⟨w, [], w, []⟩ ∧ ∃ (i : Nat), i ≤ 16 ∧ q = 16 - i ∧ (∀ k, k < i → sameFB (x.R k) (y.R k) = true) ∧ mem = [⟨b1, cellC x, 43⟩, ⟨b2, cellC y, 43⟩] ∧ Sx.look tm 6 = .v (.int .i64 i) ∧ Sx.look tm 2 = .p 0 b1 0 ∧ Sx.look tm 3 = .p 1 b2 0)
    16 ⟨rfl, 0, by omega, rfl, by omega, rfl, by simp [Sx.look], by simp [Sx.look], by simp [Sx.look]⟩ ?_
  rintro q cx tm mem ⟨rfl, i, hi, rfl, hk, rfl, h6, h2, h3⟩
  refine ⟨400, ?_⟩
  by_cases hlt : i < 16
  · have hlt' : (i : Int) < 16 := by omega
    have g1 := get_R x i hlt
    have g2 := get_R y i hlt
    have f1 := fun h => (List.getElem_eq_iff (h := h)).2 g1
    have f2 := fun h => (List.getElem_eq_iff (h := h)).2 g2
    have ob : 117 + i < 136 := by omega
    cases hs : sameFB (x.R i) (y.R i)
    · have e : msB x y = false := by
        unfold msB
        rw [Bool.and_eq_false_iff]
        left
        rw [List.all_eq_false]
        exact ⟨i, by simpa using hlt, by simp [hs]⟩
      simp (maxSteps := 4000000) -dsimp [-List.all_eq_true, -Array.all_eq_true, -Bool.exists_bool, -Bool.forall_bool, vcsE1, vcsE2, vcsE3, vcsE4, vcsE5, vcsE6, vcsE7, vcsE8, vcsE9, vcsE10, vcsE11, vcsE12, vcsE13, vcsE14, vcsE15, vcsE16, vcsE17, vcsE18, vcsE19, Sx.get, Sx.look, Sx.put, pureFn, findOrd, unF, dstOk, isFloatT, endVC, resFn, packC, newFn, storeFn, buildFn, undef, known, aggT, cellsC, Value.cells, findCon, Con.pure, Con.some, allV, partsV, partsC, fillL, Sx.exitTo, fAr, C.one, Value.oneCell', eqFn, eqFieldsFn, eqElemsFn, partFn, and_assoc, List.zipIdx, sliceFn, boundFn, AppV, CopyV, MakeSliceV, NewsV, GrowV, TextV, bytesL, notInt, typeAt, argAt, Con.read, Con.make, Con.ext, Con.rel, den, Con.extS, Con.draw, Con.step, Draws.steps, Try.f20, sameRealC, h6, h2, h3, hlt', g1, g2, f1, f2, ob, hs, e]
    · simp (maxSteps := 4000000) -dsimp [-List.all_eq_true, -Array.all_eq_true, -Bool.exists_bool, -Bool.forall_bool, vcsE1, vcsE2, vcsE3, vcsE4, vcsE5, vcsE6, vcsE7, vcsE8, vcsE9, vcsE10, vcsE11, vcsE12, vcsE13, vcsE14, vcsE15, vcsE16, vcsE17, vcsE18, vcsE19, Sx.get, Sx.look, Sx.put, pureFn, findOrd, unF, dstOk, isFloatT, endVC, resFn, packC, newFn, storeFn, buildFn, undef, known, aggT, cellsC, Value.cells, findCon, Con.pure, Con.some, allV, partsV, partsC, fillL, Sx.exitTo, fAr, C.one, Value.oneCell', eqFn, eqFieldsFn, eqElemsFn, partFn, and_assoc, List.zipIdx, sliceFn, boundFn, AppV, CopyV, MakeSliceV, NewsV, GrowV, TextV, bytesL, notInt, typeAt, argAt, Con.read, Con.make, Con.ext, Con.rel, den, Con.extS, Con.draw, Con.step, Draws.steps, Try.f20, sameRealC, h6, h2, h3, hlt', g1, g2, f1, f2, ob, hs, i_succ (i := i) (by omega)]
      exact ⟨2, 16 - (i + 1), by omega, i + 1, by omega, rfl, fun k hkk => if h : k = i then by rw [h]; exact hs else hk k (by omega), rfl, by omega⟩
  · have hlt' : ¬ (i : Int) < 16 := by omega
    have hr : (List.range 16).all (fun k => sameFB (x.R k) (y.R k)) = true := List.all_eq_true.2 fun k hkk => hk k (by have := List.mem_range.1 hkk; omega)
    have e : msB x y = memEqB (noR x) (noR y) := by unfold msB; rw [hr]; rfl
    have e2 := eq_mem (noR x) (noR y)
    rw [e]
    simp (maxSteps := 4000000) -dsimp [-List.all_eq_true, -Array.all_eq_true, -Bool.exists_bool, -Bool.forall_bool, vcsE1, vcsE2, vcsE3, vcsE4, vcsE5, vcsE6, vcsE7, vcsE8, vcsE9, vcsE10, vcsE11, vcsE12, vcsE13, vcsE14, vcsE15, vcsE16, vcsE17, vcsE18, vcsE19, Sx.get, Sx.look, Sx.put, pureFn, findOrd, unF, dstOk, isFloatT, endVC, resFn, packC, newFn, storeFn, buildFn, undef, known, aggT, cellsC, Value.cells, findCon, Con.pure, Con.some, allV, partsV, partsC, fillL, Sx.exitTo, fAr, C.one, Value.oneCell', eqFn, eqFieldsFn, eqElemsFn, partFn, and_assoc, List.zipIdx, sliceFn, boundFn, AppV, CopyV, MakeSliceV, NewsV, GrowV, TextV, bytesL, notInt, typeAt, argAt, Con.read, Con.make, Con.ext, Con.rel, den, Con.extS, Con.draw, Con.step, Draws.steps, Try.f20, sameRealC, h6, h2, h3, hlt', zeroR, -eqFn, e2]
def memSameC : Con Try.prog := Con.pure 20 Try.call20 (fun (i : ((M) × (M))) => match i with | (x, y) => [.agg (cells x), .agg (cells y)]) (fun (i : ((M) × (M))) => match i with | (x, y) => True) (fun (i : ((M) × (M))) => match i with | (x, y) => .bool (msB x y)) fun i w _ => memSameC_c i.1 i.2 w
end Go.Proofs.Ytmiicjgbhkjocaa
