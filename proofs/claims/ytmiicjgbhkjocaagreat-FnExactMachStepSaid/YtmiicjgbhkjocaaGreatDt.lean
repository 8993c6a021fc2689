/-
  Contracts: what coils do, by the reference.
-/
import Derived.Test.YtmiicjgbhkjocaaGreatDq
import Derived.Test.YtmiicjgbhkjocaaGreatU
set_option linter.unusedVariables false
set_option linter.unusedSimpArgs false
set_option maxRecDepth 100000
set_option maxHeartbeats 4000000
namespace Go.Proofs.YtmiicjgbhkjocaaGreat
open Go Go.Sx






theorem sResetC_c (m : M) (k n p : Int) (hpre : MOk m) (w : World) : Calls Tryz.prog 208 #[.agg (cells m), .agg #[.int .i64 k, .int .i64 n, .int .i64 p]] w fun e w' => e = .returned (.agg (cells (resetM m k n))) ∧ RowKit.Below w.heap.size w w' := by
  refine (plain_of_vcs ⟨[l5AtC, sMemPutC], []⟩ hmx Tryz.func208 rfl (by kernel_rfl) (args := [.agg (cells m), .agg #[.int .i64 k, .int .i64 n, .int .i64 p]]) (by simp [Tryz.ntmps208]) w (· = .agg (cells (resetM m k n))) 400 ?_).mono fun e w' ⟨v, h1, h2, h3⟩ => ⟨h2 ▸ h1, h3⟩
  have hb := (place_bd k n).1
  obtain ⟨l1, l2, l3, l4, l5, l6, l7, l8, l9, l10⟩ := place_lt n
  by_cases h7 : k = 7
  · subst h7
    have hj : (place 7 n).toNat < 16 := by omega
    have s2 := fun m b x => set_TT m b x _ hj
    have ob1 : 5 + (place 7 n).toNat * 2 ≤ 134 := by omega
    simp (maxSteps := 4000000) -dsimp [-List.all_eq_true, -Array.all_eq_true, -Bool.exists_bool, -Bool.forall_bool, vcsE1, vcsE2, vcsE3, vcsE4, vcsE5, vcsE6, vcsE7, vcsE8, vcsE9, vcsE10, vcsE11, vcsE12, vcsE13, vcsE14, vcsE15, vcsE16, vcsE17, vcsE18, vcsE19, Sx.get, Sx.look, Sx.put, pureFn, findOrd, unF, dstOk, isFloatT, endVC, resFn, packC, newFn, storeFn, buildFn, undef, known, aggT, cellsC, Value.cells, findCon, Con.pure, Con.some, allV, partsV, partsC, fillL, Sx.exitTo, fAr, C.one, Value.oneCell', eqFn, eqFieldsFn, eqElemsFn, partFn, and_assoc, List.zipIdx, sliceFn, boundFn, AppV, CopyV, MakeSliceV, NewsV, GrowV, TextV, bytesL, notInt, typeAt, argAt, Con.read, Con.make, Con.ext, Con.rel, den, Con.extS, Con.draw, Con.step, Draws.steps, Tryz.f208, l5AtC, sMemPutC, -Sx.splice_two, resetM, hb, l7, s2, ob1]
  by_cases h8 : k = 8
  · subst h8
    have hj : (place 8 n).toNat < 16 := by omega
    have g1 := fun m => get_C1 m _ hj
    have s2 := fun m b c x => set_CC m b c x _ hj
    have ob1 : 37 + (place 8 n).toNat * 3 ≤ 133 := by omega
    simp (maxSteps := 4000000) -dsimp [-List.all_eq_true, -Array.all_eq_true, -Bool.exists_bool, -Bool.forall_bool, vcsE1, vcsE2, vcsE3, vcsE4, vcsE5, vcsE6, vcsE7, vcsE8, vcsE9, vcsE10, vcsE11, vcsE12, vcsE13, vcsE14, vcsE15, vcsE16, vcsE17, vcsE18, vcsE19, Sx.get, Sx.look, Sx.put, pureFn, findOrd, unF, dstOk, isFloatT, endVC, resFn, packC, newFn, storeFn, buildFn, undef, known, aggT, cellsC, Value.cells, findCon, Con.pure, Con.some, allV, partsV, partsC, fillL, Sx.exitTo, fAr, C.one, Value.oneCell', eqFn, eqFieldsFn, eqElemsFn, partFn, and_assoc, List.zipIdx, sliceFn, boundFn, AppV, CopyV, MakeSliceV, NewsV, GrowV, TextV, bytesL, notInt, typeAt, argAt, Con.read, Con.make, Con.ext, Con.rel, den, Con.extS, Con.draw, Con.step, Draws.steps, Tryz.f208, l5AtC, sMemPutC, -Sx.splice_two, resetM, hb, l8, g1, s2, ob1]
  by_cases h5 : k = 5
  · simp (maxSteps := 4000000) -dsimp [-List.all_eq_true, -Array.all_eq_true, -Bool.exists_bool, -Bool.forall_bool, vcsE1, vcsE2, vcsE3, vcsE4, vcsE5, vcsE6, vcsE7, vcsE8, vcsE9, vcsE10, vcsE11, vcsE12, vcsE13, vcsE14, vcsE15, vcsE16, vcsE17, vcsE18, vcsE19, Sx.get, Sx.look, Sx.put, pureFn, findOrd, unF, dstOk, isFloatT, endVC, resFn, packC, newFn, storeFn, buildFn, undef, known, aggT, cellsC, Value.cells, findCon, Con.pure, Con.some, allV, partsV, partsC, fillL, Sx.exitTo, fAr, C.one, Value.oneCell', eqFn, eqFieldsFn, eqElemsFn, partFn, and_assoc, List.zipIdx, sliceFn, boundFn, AppV, CopyV, MakeSliceV, NewsV, GrowV, TextV, bytesL, notInt, typeAt, argAt, Con.read, Con.make, Con.ext, Con.rel, den, Con.extS, Con.draw, Con.step, Draws.steps, Tryz.f208, l5AtC, sMemPutC, resetM, h7, h8, hpre, h5]
  · simp (maxSteps := 4000000) -dsimp [-List.all_eq_true, -Array.all_eq_true, -Bool.exists_bool, -Bool.forall_bool, vcsE1, vcsE2, vcsE3, vcsE4, vcsE5, vcsE6, vcsE7, vcsE8, vcsE9, vcsE10, vcsE11, vcsE12, vcsE13, vcsE14, vcsE15, vcsE16, vcsE17, vcsE18, vcsE19, Sx.get, Sx.look, Sx.put, pureFn, findOrd, unF, dstOk, isFloatT, endVC, resFn, packC, newFn, storeFn, buildFn, undef, known, aggT, cellsC, Value.cells, findCon, Con.pure, Con.some, allV, partsV, partsC, fillL, Sx.exitTo, fAr, C.one, Value.oneCell', eqFn, eqFieldsFn, eqElemsFn, partFn, and_assoc, List.zipIdx, sliceFn, boundFn, AppV, CopyV, MakeSliceV, NewsV, GrowV, TextV, bytesL, notInt, typeAt, argAt, Con.read, Con.make, Con.ext, Con.rel, den, Con.extS, Con.draw, Con.step, Draws.steps, Tryz.f208, l5AtC, sMemPutC, resetM, h7, h8, hpre, h5]
def sResetC : Con Tryz.prog := Con.pure 208 Tryz.call208 (fun (i : ((M) × (Int) × (Int) × (Int))) => match i with | (m, k, n, p) => [.agg (cells m), .agg #[.int .i64 k, .int .i64 n, .int .i64 p]]) (fun (i : ((M) × (Int) × (Int) × (Int))) => match i with | (m, k, n, p) => MOk m) (fun (i : ((M) × (Int) × (Int) × (Int))) => match i with | (m, k, n, p) => .agg (cells (resetM m k n))) fun i w hp => sResetC_c i.1 i.2.1 i.2.2.1 i.2.2.2 hp w
theorem sStepC_c (m : M) (k n p : Int) (hpre : MOk m) (w : World) : Calls Tryz.prog 209 #[.agg (cells m), .agg #[.int .i64 k, .int .i64 n, .int .i64 p]] w fun e w' => e = .returned (.agg (cells (if k = 4 then stepM m n else m))) ∧ RowKit.Below w.heap.size w w' := by
  refine (plain_of_vcs ⟨[l5AtC, sMemPutC], []⟩ hmx Tryz.func209 rfl (by kernel_rfl) (args := [.agg (cells m), .agg #[.int .i64 k, .int .i64 n, .int .i64 p]]) (by simp [Tryz.ntmps209]) w (· = .agg (cells (if k = 4 then stepM m n else m))) 400 ?_).mono fun e w' ⟨v, h1, h2, h3⟩ => ⟨h2 ▸ h1, h3⟩
  by_cases h4 : k = 4
  · subst h4
    have hp4 := (place_bd 4 n).1
    have hl4 := (place_lt n).2.2.2.1
    obtain ⟨g, hg⟩ : ∃ g : Nat, (g : Int) = place 4 n / 8 := ⟨(place 4 n / 8).toNat, by omega⟩
    have hg1 : g ≤ 1 := by omega
    have e1 : IntKind.i64.wrap (IntKind.i64.wrap ((place 4 n).tdiv 8) * 8) = 8 * (g : Int) := by
      rw [Int.tdiv_eq_ediv_of_nonneg hp4, wrap_i64 (x := place 4 n / 8) (by omega) (by omega), wrap_i64 (by omega) (by omega)]; omega
    simp (maxSteps := 4000000) -dsimp [-List.all_eq_true, -Array.all_eq_true, -Bool.exists_bool, -Bool.forall_bool, vcsE1, vcsE2, vcsE3, vcsE4, vcsE5, vcsE6, vcsE7, vcsE8, vcsE9, vcsE10, vcsE11, vcsE12, vcsE13, vcsE14, vcsE15, vcsE16, vcsE17, vcsE18, vcsE19, Sx.get, Sx.look, Sx.put, pureFn, findOrd, unF, dstOk, isFloatT, endVC, resFn, packC, newFn, storeFn, buildFn, undef, known, aggT, cellsC, Value.cells, findCon, Con.pure, Con.some, allV, partsV, partsC, fillL, Sx.exitTo, fAr, C.one, Value.oneCell', eqFn, eqFieldsFn, eqElemsFn, partFn, and_assoc, List.zipIdx, sliceFn, boundFn, AppV, CopyV, MakeSliceV, NewsV, GrowV, TextV, bytesL, notInt, typeAt, argAt, Con.read, Con.make, Con.ext, Con.rel, den, Con.extS, Con.draw, Con.step, Draws.steps, Tryz.f209, l5AtC, sMemPutC, e1]
    intro b b1 b2
    refine loop_inv (σ := ⟨[l5AtC, sMemPutC], []⟩) hmx (by kernel_rfl) (fun q cx tm mem => cx = ⟨w, [], w, []⟩ ∧ ∃ i : Nat, i ≤ 8 ∧ q = 8 - i ∧ mem = [⟨b, cellC { m with S := putN m.S g i }, 38⟩, ⟨b1, [.v (.int .i64 4), .v (.int .i64 n), .v (.int .i64 p)], 181⟩, ⟨b2, cellC zeroM, 38⟩] ∧ Sx.look tm 6 = .v (.int .i64 i) ∧ Sx.look tm 5 = .v (.int .i64 (8 * (g : Int))) ∧ Sx.look tm 2 = .p 0 b 0 ∧ Sx.look tm 3 = .p 1 b1 0 ∧ Sx.look tm 4 = .p 2 b2 0)
      8 ⟨rfl, 0, by omega, rfl, rfl, by simp [Sx.look], by simp [Sx.look], by simp [Sx.look], by simp [Sx.look], by simp [Sx.look]⟩ ?_
    rintro q cx tm mem ⟨rfl, i, hi, rfl, rfl, h6, h5, h2, h3, h4'⟩
    refine ⟨300, ?_⟩
    have hbd := putN_bd hpre.S hg1 i hi
    have hok := setS_ok hpre hbd
    by_cases hlt : i < 8
    · have e2 : IntKind.i64.wrap (8 * (g : Int) + i) = 8 * (g : Int) + i := wrap_i64 (by omega) (by omega)
      have e3 : place 4 (8 * (g : Int) + i) = 8 * (g : Int) + i := by
        have : ring 4 = 16 := by decide
        unfold place; rw [this]; simp; omega
      have e4 : (8 * (g : Int) + i).toNat = 8 * g + i := by omega
      have e5 : putBit (putN m.S g i) (8 * g + i) false = putN m.S g (i + 1) := rfl
      have hlt' : (i : Int) < 8 := by omega
      simp (maxSteps := 4000000) -dsimp [-List.all_eq_true, -Array.all_eq_true, -Bool.exists_bool, -Bool.forall_bool, vcsE1, vcsE2, vcsE3, vcsE4, vcsE5, vcsE6, vcsE7, vcsE8, vcsE9, vcsE10, vcsE11, vcsE12, vcsE13, vcsE14, vcsE15, vcsE16, vcsE17, vcsE18, vcsE19, Sx.get, Sx.look, Sx.put, pureFn, findOrd, unF, dstOk, isFloatT, endVC, resFn, packC, newFn, storeFn, buildFn, undef, known, aggT, cellsC, Value.cells, findCon, Con.pure, Con.some, allV, partsV, partsC, fillL, Sx.exitTo, fAr, C.one, Value.oneCell', eqFn, eqFieldsFn, eqElemsFn, partFn, and_assoc, List.zipIdx, sliceFn, boundFn, AppV, CopyV, MakeSliceV, NewsV, GrowV, TextV, bytesL, notInt, typeAt, argAt, Con.read, Con.make, Con.ext, Con.rel, den, Con.extS, Con.draw, Con.step, Draws.steps, Tryz.f209, l5AtC, sMemPutC, h6, h5, h2, h3, h4', hlt', e2, e3, e4, e5, hok, memPut, i_succ (i := i) (by omega)]
      exact ⟨3, 8 - (i + 1), by omega, i + 1, by omega, rfl, rfl, by omega⟩
    · obtain rfl : i = 8 := by omega
      have e6 := putN_clr hpre.S hg1
      simp (maxSteps := 4000000) -dsimp [-List.all_eq_true, -Array.all_eq_true, -Bool.exists_bool, -Bool.forall_bool, vcsE1, vcsE2, vcsE3, vcsE4, vcsE5, vcsE6, vcsE7, vcsE8, vcsE9, vcsE10, vcsE11, vcsE12, vcsE13, vcsE14, vcsE15, vcsE16, vcsE17, vcsE18, vcsE19, Sx.get, Sx.look, Sx.put, pureFn, findOrd, unF, dstOk, isFloatT, endVC, resFn, packC, newFn, storeFn, buildFn, undef, known, aggT, cellsC, Value.cells, findCon, Con.pure, Con.some, allV, partsV, partsC, fillL, Sx.exitTo, fAr, C.one, Value.oneCell', eqFn, eqFieldsFn, eqElemsFn, partFn, and_assoc, List.zipIdx, sliceFn, boundFn, AppV, CopyV, MakeSliceV, NewsV, GrowV, TextV, bytesL, notInt, typeAt, argAt, Con.read, Con.make, Con.ext, Con.rel, den, Con.extS, Con.draw, Con.step, Draws.steps, Tryz.f209, l5AtC, sMemPutC, h6, h5, h2, h3, h4', hok]
      rw [e6, hg]
      rfl
  · simp (maxSteps := 4000000) -dsimp [-List.all_eq_true, -Array.all_eq_true, -Bool.exists_bool, -Bool.forall_bool, vcsE1, vcsE2, vcsE3, vcsE4, vcsE5, vcsE6, vcsE7, vcsE8, vcsE9, vcsE10, vcsE11, vcsE12, vcsE13, vcsE14, vcsE15, vcsE16, vcsE17, vcsE18, vcsE19, Sx.get, Sx.look, Sx.put, pureFn, findOrd, unF, dstOk, isFloatT, endVC, resFn, packC, newFn, storeFn, buildFn, undef, known, aggT, cellsC, Value.cells, findCon, Con.pure, Con.some, allV, partsV, partsC, fillL, Sx.exitTo, fAr, C.one, Value.oneCell', eqFn, eqFieldsFn, eqElemsFn, partFn, and_assoc, List.zipIdx, sliceFn, boundFn, AppV, CopyV, MakeSliceV, NewsV, GrowV, TextV, bytesL, notInt, typeAt, argAt, Con.read, Con.make, Con.ext, Con.rel, den, Con.extS, Con.draw, Con.step, Draws.steps, Tryz.f209, l5AtC, sMemPutC, h4]
def sStepC : Con Tryz.prog := Con.pure 209 Tryz.call209 (fun (i : ((M) × (Int) × (Int) × (Int))) => match i with | (m, k, n, p) => [.agg (cells m), .agg #[.int .i64 k, .int .i64 n, .int .i64 p]]) (fun (i : ((M) × (Int) × (Int) × (Int))) => match i with | (m, k, n, p) => MOk m) (fun (i : ((M) × (Int) × (Int) × (Int))) => match i with | (m, k, n, p) => .agg (cells (if k = 4 then stepM m n else m))) fun i w hp => sStepC_c i.1 i.2.1 i.2.2.1 i.2.2.2 hp w
end Go.Proofs.YtmiicjgbhkjocaaGreat
