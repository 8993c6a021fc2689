/-
  Contracts: which coils and instructions are ok, by the reference.
-/
import Derived.Test.YtdjjkfhholinkaaEt
set_option linter.unusedVariables false
set_option linter.unusedSimpArgs false
set_option maxRecDepth 100000
set_option maxHeartbeats 4000000
namespace Go.Proofs.Ytdjjkfhholinkaa
open Go Go.Sx

def calcG (a : Dev) (d : Dev) : Bool := if a.k = 9 then isWhl d else isRl d
def calcB (op : Int) (a : Dev) (r : List Dev) : Bool := dOk a && decide (a.k = 9 ∨ a.k = 10) && r.all (calcG a) && decide (a.k = 9 ∨ op ≠ 35)
theorem all_drop1 {g : Dev → Bool} {xs : List Dev} {i : Nat} {x : Dev} (hx : xs[i]? = some x) : (xs.drop i).all g = (g x && (xs.drop (i + 1)).all g) := by
  have hi := (List.getElem?_eq_some_iff.1 hx).1
  rw [List.drop_eq_getElem_cons hi, List.all_cons, (List.getElem?_eq_some_iff.1 hx).2]
theorem l4CalcC_c (op : Int) (o : Option Addr) (cap : Nat) (xs : List Dev) (w : World) (hpre : RdD (factF ⟨w, [], w, []⟩) o xs ∧ 0 < xs.length ∧ xs.length ≤ 1048576) : Calls Try.prog 73 #[.agg #[.int .i64 op, .slice o xs.length cap]] w fun e w' => e = .returned (.bool (calcB op (xD xs 0) (xs.drop 1))) ∧ RowKit.Below w.heap.size w w' := by
  refine (plain_of_vcs ⟨[l4KindC, sIsWhlC, sIsRlC], []⟩ hmx Try.func73 rfl (by kernel_rfl) (args := [.agg #[.int .i64 op, .slice o xs.length cap]]) (by simp [Try.ntmps73]) w (· = .bool (calcB op (xD xs 0) (xs.drop 1))) 400 ?_).mono fun e w' ⟨v, h1, h2, h3⟩ => ⟨h2 ▸ h1, h3⟩
  obtain ⟨h, h0, hl⟩ := hpre
  obtain ⟨⟨ak, an, ap⟩, hx0⟩ : ∃ a, xs[0]? = some a := ⟨xs[0], by simp [h0]⟩
  have a0 := h.at0 hx0
  have ex : xD xs 0 = ⟨ak, an, ap⟩ := by unfold xD; rw [List.getD_eq_getElem?_getD, hx0]; rfl
  rw [ex]
  have dk : dOk ⟨ak, an, ap⟩ = devOk ak an ap := rfl
  by_cases hk : devOk ak an ap = true ∧ (ak = 9 ∨ ak = 10)
  · obtain ⟨hd, hk⟩ := hk
    have hg : ∀ d : Dev, calcG ⟨ak, an, ap⟩ d = if ak = 9 then isWhl d else isRl d := fun d => rfl
    have e : calcB op ⟨ak, an, ap⟩ (xs.drop 1) = ((xs.drop 1).all (calcG ⟨ak, an, ap⟩) && decide (ak = 9 ∨ op ≠ 35)) := by
      unfold calcB; rw [dk, hd]; simp only [hk, decide_true, Bool.true_and]
    rw [e]
    obtain rfl | rfl := hk
    · simp (maxSteps := 4000000) -dsimp [-List.all_eq_true, -Array.all_eq_true, -Bool.exists_bool, -Bool.forall_bool, vcsE1, vcsE2, vcsE3, vcsE4, vcsE5, vcsE6, vcsE7, vcsE8, vcsE9, vcsE10, vcsE11, vcsE12, vcsE13, vcsE14, vcsE15, vcsE16, vcsE17, vcsE18, vcsE19, Sx.get, Sx.look, Sx.put, pureFn, findOrd, unF, dstOk, isFloatT, endVC, resFn, packC, newFn, storeFn, buildFn, undef, known, aggT, cellsC, Value.cells, findCon, Con.pure, Con.some, allV, partsV, partsC, fillL, Sx.exitTo, fAr, C.one, Value.oneCell', eqFn, eqFieldsFn, eqElemsFn, partFn, and_assoc, List.zipIdx, sliceFn, boundFn, AppV, CopyV, MakeSliceV, NewsV, GrowV, TextV, bytesL, notInt, typeAt, argAt, Con.read, Con.make, Con.ext, Con.rel, den, Con.extS, Con.draw, Con.step, Draws.steps, Try.f73, l4KindC, sIsWhlC, sIsRlC, a0.there, a0.all, a0.k, hd, h0]
      intro b
      have eq0 : xs.tail.all (calcG ⟨9, an, ap⟩) = (xs.drop 1).all (calcG ⟨9, an, ap⟩) := by rw [List.drop_one]
      generalize xs.tail.all (calcG ⟨9, an, ap⟩) = q0 at *
      refine loop_inv (σ := ⟨[l4KindC, sIsWhlC, sIsRlC], []⟩) hmx (by kernel_rfl) (fun q cx tm mem => cx = ⟨w, [], w, []⟩ ∧ mem = [⟨b, [.v (.int .i64 op), .v (.slice o xs.length cap)], 47⟩] ∧ ∃ i : Nat, 1 ≤ i ∧ i ≤ xs.length ∧ q = xs.length - i ∧ q0 = (xs.drop i).all (calcG ⟨9, an, ap⟩) ∧ Sx.look tm 4 = .v (.int .i64 i) ∧ Sx.look tm 3 = .v (.bool true) ∧ Sx.look tm 1 = .p 0 b 0)
        (xs.length - 1) ⟨rfl, rfl, 1, by omega, by omega, rfl, eq0, by simp [Sx.look], by simp [Sx.look], by simp [Sx.look]⟩ ?_
      rintro q cx tm mem ⟨rfl, rfl, i, hi1, hi, rfl, hq0, j4, j3, j1⟩
      refine ⟨400, ?_⟩
      by_cases hlt : i < xs.length
      · obtain ⟨x, hx⟩ : ∃ x, xs[i]? = some x := ⟨xs[i], by simp [hlt]⟩
        have ed := all_drop1 (g := calcG ⟨9, an, ap⟩) hx
        rw [hg] at ed
        cases hb : isWhl x
        · simp only [hb, Bool.false_and, Bool.true_and, if_true, if_false, reduceIte, Int.reduceEq] at ed
          rw [ed] at hq0
          have hb' : isWhl ⟨x.k, x.n, x.p⟩ = false := hb
          simp (maxSteps := 4000000) -dsimp [-List.all_eq_true, -Array.all_eq_true, -Bool.exists_bool, -Bool.forall_bool, vcsE1, vcsE2, vcsE3, vcsE4, vcsE5, vcsE6, vcsE7, vcsE8, vcsE9, vcsE10, vcsE11, vcsE12, vcsE13, vcsE14, vcsE15, vcsE16, vcsE17, vcsE18, vcsE19, Sx.get, Sx.look, Sx.put, pureFn, findOrd, unF, dstOk, isFloatT, endVC, resFn, packC, newFn, storeFn, buildFn, undef, known, aggT, cellsC, Value.cells, findCon, Con.pure, Con.some, allV, partsV, partsC, fillL, Sx.exitTo, fAr, C.one, Value.oneCell', eqFn, eqFieldsFn, eqElemsFn, partFn, and_assoc, List.zipIdx, sliceFn, boundFn, AppV, CopyV, MakeSliceV, NewsV, GrowV, TextV, bytesL, notInt, typeAt, argAt, Con.read, Con.make, Con.ext, Con.rel, den, Con.extS, Con.draw, Con.step, Draws.steps, Try.f73, l4KindC, sIsWhlC, sIsRlC, j4, j3, j1, hlt, h.there hlt, h.ld _ _ hx, hb', hb, hq0]
        · simp only [hb, Bool.false_and, Bool.true_and, if_true, if_false, reduceIte, Int.reduceEq] at ed
          rw [ed] at hq0
          have hb' : isWhl ⟨x.k, x.n, x.p⟩ = true := hb
          simp (maxSteps := 4000000) -dsimp [-List.all_eq_true, -Array.all_eq_true, -Bool.exists_bool, -Bool.forall_bool, vcsE1, vcsE2, vcsE3, vcsE4, vcsE5, vcsE6, vcsE7, vcsE8, vcsE9, vcsE10, vcsE11, vcsE12, vcsE13, vcsE14, vcsE15, vcsE16, vcsE17, vcsE18, vcsE19, Sx.get, Sx.look, Sx.put, pureFn, findOrd, unF, dstOk, isFloatT, endVC, resFn, packC, newFn, storeFn, buildFn, undef, known, aggT, cellsC, Value.cells, findCon, Con.pure, Con.some, allV, partsV, partsC, fillL, Sx.exitTo, fAr, C.one, Value.oneCell', eqFn, eqFieldsFn, eqElemsFn, partFn, and_assoc, List.zipIdx, sliceFn, boundFn, AppV, CopyV, MakeSliceV, NewsV, GrowV, TextV, bytesL, notInt, typeAt, argAt, Con.read, Con.make, Con.ext, Con.rel, den, Con.extS, Con.draw, Con.step, Draws.steps, Try.f73, l4KindC, sIsWhlC, sIsRlC, j4, j3, j1, hlt, h.there hlt, h.ld _ _ hx, hb', hb, i_succ (i := i) (by omega)]
          exact ⟨1, _, by omega, rfl, i + 1, by omega, by omega, rfl, hq0, by omega⟩
      · obtain rfl : i = xs.length := by omega
        simp at hq0
        simp (maxSteps := 4000000) -dsimp [-List.all_eq_true, -Array.all_eq_true, -Bool.exists_bool, -Bool.forall_bool, vcsE1, vcsE2, vcsE3, vcsE4, vcsE5, vcsE6, vcsE7, vcsE8, vcsE9, vcsE10, vcsE11, vcsE12, vcsE13, vcsE14, vcsE15, vcsE16, vcsE17, vcsE18, vcsE19, Sx.get, Sx.look, Sx.put, pureFn, findOrd, unF, dstOk, isFloatT, endVC, resFn, packC, newFn, storeFn, buildFn, undef, known, aggT, cellsC, Value.cells, findCon, Con.pure, Con.some, allV, partsV, partsC, fillL, Sx.exitTo, fAr, C.one, Value.oneCell', eqFn, eqFieldsFn, eqElemsFn, partFn, and_assoc, List.zipIdx, sliceFn, boundFn, AppV, CopyV, MakeSliceV, NewsV, GrowV, TextV, bytesL, notInt, typeAt, argAt, Con.read, Con.make, Con.ext, Con.rel, den, Con.extS, Con.draw, Con.step, Draws.steps, Try.f73, l4KindC, sIsWhlC, sIsRlC, j4, j3, j1, hq0]
    · simp (maxSteps := 4000000) -dsimp [-List.all_eq_true, -Array.all_eq_true, -Bool.exists_bool, -Bool.forall_bool, vcsE1, vcsE2, vcsE3, vcsE4, vcsE5, vcsE6, vcsE7, vcsE8, vcsE9, vcsE10, vcsE11, vcsE12, vcsE13, vcsE14, vcsE15, vcsE16, vcsE17, vcsE18, vcsE19, Sx.get, Sx.look, Sx.put, pureFn, findOrd, unF, dstOk, isFloatT, endVC, resFn, packC, newFn, storeFn, buildFn, undef, known, aggT, cellsC, Value.cells, findCon, Con.pure, Con.some, allV, partsV, partsC, fillL, Sx.exitTo, fAr, C.one, Value.oneCell', eqFn, eqFieldsFn, eqElemsFn, partFn, and_assoc, List.zipIdx, sliceFn, boundFn, AppV, CopyV, MakeSliceV, NewsV, GrowV, TextV, bytesL, notInt, typeAt, argAt, Con.read, Con.make, Con.ext, Con.rel, den, Con.extS, Con.draw, Con.step, Draws.steps, Try.f73, l4KindC, sIsWhlC, sIsRlC, a0.there, a0.all, a0.k, hd, h0]
      intro b
      have eq0 : xs.tail.all (calcG ⟨10, an, ap⟩) = (xs.drop 1).all (calcG ⟨10, an, ap⟩) := by rw [List.drop_one]
      generalize xs.tail.all (calcG ⟨10, an, ap⟩) = q0 at *
      refine loop_inv (σ := ⟨[l4KindC, sIsWhlC, sIsRlC], []⟩) hmx (by kernel_rfl) (fun q cx tm mem => cx = ⟨w, [], w, []⟩ ∧ mem = [⟨b, [.v (.int .i64 op), .v (.slice o xs.length cap)], 47⟩] ∧ ∃ i : Nat, 1 ≤ i ∧ i ≤ xs.length ∧ q = xs.length - i ∧ q0 = (xs.drop i).all (calcG ⟨10, an, ap⟩) ∧ Sx.look tm 4 = .v (.int .i64 i) ∧ Sx.look tm 3 = .v (.bool false) ∧ Sx.look tm 1 = .p 0 b 0)
        (xs.length - 1) ⟨rfl, rfl, 1, by omega, by omega, rfl, eq0, by simp [Sx.look], by simp [Sx.look], by simp [Sx.look]⟩ ?_
      rintro q cx tm mem ⟨rfl, rfl, i, hi1, hi, rfl, hq0, j4, j3, j1⟩
      refine ⟨400, ?_⟩
      by_cases hlt : i < xs.length
      · obtain ⟨x, hx⟩ : ∃ x, xs[i]? = some x := ⟨xs[i], by simp [hlt]⟩
        have ed := all_drop1 (g := calcG ⟨10, an, ap⟩) hx
        rw [hg] at ed
        cases hb : isRl x
        · simp only [hb, Bool.false_and, Bool.true_and, if_true, if_false, reduceIte, Int.reduceEq] at ed
          rw [ed] at hq0
          have hb' : isRl ⟨x.k, x.n, x.p⟩ = false := hb
          simp (maxSteps := 4000000) -dsimp [-List.all_eq_true, -Array.all_eq_true, -Bool.exists_bool, -Bool.forall_bool, vcsE1, vcsE2, vcsE3, vcsE4, vcsE5, vcsE6, vcsE7, vcsE8, vcsE9, vcsE10, vcsE11, vcsE12, vcsE13, vcsE14, vcsE15, vcsE16, vcsE17, vcsE18, vcsE19, Sx.get, Sx.look, Sx.put, pureFn, findOrd, unF, dstOk, isFloatT, endVC, resFn, packC, newFn, storeFn, buildFn, undef, known, aggT, cellsC, Value.cells, findCon, Con.pure, Con.some, allV, partsV, partsC, fillL, Sx.exitTo, fAr, C.one, Value.oneCell', eqFn, eqFieldsFn, eqElemsFn, partFn, and_assoc, List.zipIdx, sliceFn, boundFn, AppV, CopyV, MakeSliceV, NewsV, GrowV, TextV, bytesL, notInt, typeAt, argAt, Con.read, Con.make, Con.ext, Con.rel, den, Con.extS, Con.draw, Con.step, Draws.steps, Try.f73, l4KindC, sIsWhlC, sIsRlC, j4, j3, j1, hlt, h.there hlt, h.ld _ _ hx, hb', hb, hq0]
        · simp only [hb, Bool.false_and, Bool.true_and, if_true, if_false, reduceIte, Int.reduceEq] at ed
          rw [ed] at hq0
          have hb' : isRl ⟨x.k, x.n, x.p⟩ = true := hb
          simp (maxSteps := 4000000) -dsimp [-List.all_eq_true, -Array.all_eq_true, -Bool.exists_bool, -Bool.forall_bool, vcsE1, vcsE2, vcsE3, vcsE4, vcsE5, vcsE6, vcsE7, vcsE8, vcsE9, vcsE10, vcsE11, vcsE12, vcsE13, vcsE14, vcsE15, vcsE16, vcsE17, vcsE18, vcsE19, Sx.get, Sx.look, Sx.put, pureFn, findOrd, unF, dstOk, isFloatT, endVC, resFn, packC, newFn, storeFn, buildFn, undef, known, aggT, cellsC, Value.cells, findCon, Con.pure, Con.some, allV, partsV, partsC, fillL, Sx.exitTo, fAr, C.one, Value.oneCell', eqFn, eqFieldsFn, eqElemsFn, partFn, and_assoc, List.zipIdx, sliceFn, boundFn, AppV, CopyV, MakeSliceV, NewsV, GrowV, TextV, bytesL, notInt, typeAt, argAt, Con.read, Con.make, Con.ext, Con.rel, den, Con.extS, Con.draw, Con.step, Draws.steps, Try.f73, l4KindC, sIsWhlC, sIsRlC, j4, j3, j1, hlt, h.there hlt, h.ld _ _ hx, hb', hb, i_succ (i := i) (by omega)]
          exact ⟨1, _, by omega, rfl, i + 1, by omega, by omega, rfl, hq0, by omega⟩
      · obtain rfl : i = xs.length := by omega
        simp at hq0
        simp (maxSteps := 4000000) -dsimp [-List.all_eq_true, -Array.all_eq_true, -Bool.exists_bool, -Bool.forall_bool, vcsE1, vcsE2, vcsE3, vcsE4, vcsE5, vcsE6, vcsE7, vcsE8, vcsE9, vcsE10, vcsE11, vcsE12, vcsE13, vcsE14, vcsE15, vcsE16, vcsE17, vcsE18, vcsE19, Sx.get, Sx.look, Sx.put, pureFn, findOrd, unF, dstOk, isFloatT, endVC, resFn, packC, newFn, storeFn, buildFn, undef, known, aggT, cellsC, Value.cells, findCon, Con.pure, Con.some, allV, partsV, partsC, fillL, Sx.exitTo, fAr, C.one, Value.oneCell', eqFn, eqFieldsFn, eqElemsFn, partFn, and_assoc, List.zipIdx, sliceFn, boundFn, AppV, CopyV, MakeSliceV, NewsV, GrowV, TextV, bytesL, notInt, typeAt, argAt, Con.read, Con.make, Con.ext, Con.rel, den, Con.extS, Con.draw, Con.step, Draws.steps, Try.f73, l4KindC, sIsWhlC, sIsRlC, j4, j3, j1, hq0]
        rfl
  · have e : calcB op ⟨ak, an, ap⟩ (xs.drop 1) = false := by
      unfold calcB; rw [dk]
      cases hd : devOk ak an ap
      · simp
      · have : ¬ (ak = 9 ∨ ak = 10) := fun h => hk ⟨hd, h⟩
        simp [this]
    rw [e]
    cases hd : devOk ak an ap
    · simp (maxSteps := 4000000) -dsimp [-List.all_eq_true, -Array.all_eq_true, -Bool.exists_bool, -Bool.forall_bool, vcsE1, vcsE2, vcsE3, vcsE4, vcsE5, vcsE6, vcsE7, vcsE8, vcsE9, vcsE10, vcsE11, vcsE12, vcsE13, vcsE14, vcsE15, vcsE16, vcsE17, vcsE18, vcsE19, Sx.get, Sx.look, Sx.put, pureFn, findOrd, unF, dstOk, isFloatT, endVC, resFn, packC, newFn, storeFn, buildFn, undef, known, aggT, cellsC, Value.cells, findCon, Con.pure, Con.some, allV, partsV, partsC, fillL, Sx.exitTo, fAr, C.one, Value.oneCell', eqFn, eqFieldsFn, eqElemsFn, partFn, and_assoc, List.zipIdx, sliceFn, boundFn, AppV, CopyV, MakeSliceV, NewsV, GrowV, TextV, bytesL, notInt, typeAt, argAt, Con.read, Con.make, Con.ext, Con.rel, den, Con.extS, Con.draw, Con.step, Draws.steps, Try.f73, l4KindC, sIsWhlC, sIsRlC, a0.there, a0.all, a0.k, hd, h0]
    · have n1 : ¬ ak = 9 ∧ ¬ ak = 10 := ⟨fun h => hk ⟨hd, Or.inl h⟩, fun h => hk ⟨hd, Or.inr h⟩⟩
      simp (maxSteps := 4000000) -dsimp [-List.all_eq_true, -Array.all_eq_true, -Bool.exists_bool, -Bool.forall_bool, vcsE1, vcsE2, vcsE3, vcsE4, vcsE5, vcsE6, vcsE7, vcsE8, vcsE9, vcsE10, vcsE11, vcsE12, vcsE13, vcsE14, vcsE15, vcsE16, vcsE17, vcsE18, vcsE19, Sx.get, Sx.look, Sx.put, pureFn, findOrd, unF, dstOk, isFloatT, endVC, resFn, packC, newFn, storeFn, buildFn, undef, known, aggT, cellsC, Value.cells, findCon, Con.pure, Con.some, allV, partsV, partsC, fillL, Sx.exitTo, fAr, C.one, Value.oneCell', eqFn, eqFieldsFn, eqElemsFn, partFn, and_assoc, List.zipIdx, sliceFn, boundFn, AppV, CopyV, MakeSliceV, NewsV, GrowV, TextV, bytesL, notInt, typeAt, argAt, Con.read, Con.make, Con.ext, Con.rel, den, Con.extS, Con.draw, Con.step, Draws.steps, Try.f73, l4KindC, sIsWhlC, sIsRlC, a0.there, a0.all, a0.k, hd, h0, n1]
def l4CalcC_S : Reads Try.prog 73 where
  ι := ((Int) × (Option Addr) × (Nat) × (List Dev))
  A := fun (i : ((Int) × (Option Addr) × (Nat) × (List Dev))) => match i with | (op, o, cap, xs) => [.agg #[.int .i64 op, .slice o xs.length cap]]
  pre := fun (i : ((Int) × (Option Addr) × (Nat) × (List Dev))) (F : Facts) => match i with | (op, o, cap, xs) => RdD F o xs ∧ 0 < xs.length ∧ xs.length ≤ 1048576
  res := fun (i : ((Int) × (Option Addr) × (Nat) × (List Dev))) => match i with | (op, o, cap, xs) => .bool (calcB op (xD xs 0) (xs.drop 1))
  mono := by
    intro i F G hs h
    first | exact h | exact h.mono hs | exact ⟨h.1.mono hs, h.2⟩ | exact ⟨h.1.mono hs, h.2.1.mono hs, h.2.2⟩ | exact ⟨h.1.mono hs, h.2.1.mono hs⟩
  uniq := by
    rintro ⟨op, o, cap, xs⟩ ⟨op', o', cap', xs'⟩ F hA h h'
    simp at hA
    (try simp only [Int.natCast_inj] at hA)
    obtain rfl : xs = xs' := RdD.uniq h.1 h'.1 (by simp_all) (by simp_all)
    simp_all
  enter := Try.call73
  h := fun i w hp => l4CalcC_c i.1 i.2.1 i.2.2.1 i.2.2.2 w (by rw [factF_init]; exact hp)
def l4CalcC : Con Try.prog := Con.read l4CalcC_S
theorem l4CalcC_rw {op : Int} {o : Option Addr} {cap : Nat} {xs : List Dev} {d : Nat} {cx : Cx} {mem : List Blk} {K : C → Prop} (hpre : RdD (nowF cx mem) o xs ∧ 0 < xs.length ∧ xs.length ≤ 1048576) : ReadV d l4CalcC_S cx [.v (.agg #[.int .i64 op, .slice o xs.length cap])] mem K = K (.v (.bool (calcB op (xD xs 0) (xs.drop 1)))) := l4CalcC_S.eq (op, o, cap, xs) rfl hpre
end Go.Proofs.Ytdjjkfhholinkaa
