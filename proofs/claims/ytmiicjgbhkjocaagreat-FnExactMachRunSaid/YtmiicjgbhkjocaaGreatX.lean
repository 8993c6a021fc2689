/-
  Contracts: real numbers cut to whole ones; what coils reckon.
-/
import Derived.Test.YtmiicjgbhkjocaaGreatT
import Derived.Test.YtmiicjgbhkjocaaGreatRw
import Derived.Laws.Externs
set_option linter.unusedVariables false
set_option linter.unusedSimpArgs false
set_option maxRecDepth 100000
set_option maxHeartbeats 4000000
namespace Go.Proofs.YtmiicjgbhkjocaaGreat
open Go Go.Sx

theorem toIntegral_eq (n : String) (way : Ieee.Toward) (x : Nat) : Extern.MathFloor.toIntegral n way #[.float .f64 x] = (match FloatKind.f64.decode x with
    | .nan s t =>
      if FloatKind.f64.format.quiet t = t then pure (.float .f64 x) else do
      let kept ← choose (.extern "math.Floor,Ceil,Trunc,RoundToEven.signallingNaN kept" 2)
      pure (.float .f64 (if kept == 1 then x else FloatKind.f64.encode (.nan s (FloatKind.f64.format.quiet t))))
    | d => pure (.float .f64 (FloatKind.f64.encode (d.integral way)))) := rfl
theorem nan_quiet (s : Bool) (t : Nat) : isNan (FloatKind.f64.encode (.nan s (FloatKind.f64.format.quiet t))) = true := by
  obtain ⟨c1, c2, c3, c4⟩ := consts
  have e : FloatKind.f64.encode (.nan s (FloatKind.f64.format.quiet t)) = dbl.word s (dbl.infRung + dbl.quiet t % dbl.binade) := rfl
  rw [e, isNan_iff, decide_eq_true_eq, c2, c3]
  have hq : dbl.quiet t % 4503599627370496 ≠ 0 := by
    intro h
    have h1 : (dbl.quiet t % 2 ^ 52).testBit 51 = true := by
      rw [Nat.testBit_mod_two_pow]
      unfold Ieee.Format.quiet
      have : dbl.fractionBits - 1 = 51 := rfl
      rw [this, Nat.testBit_or, Nat.testBit_two_pow]
      simp
    have e2 : (2 : Nat) ^ 52 = 4503599627370496 := rfl
    rw [e2, h] at h1
    simp at h1
  have hl : dbl.quiet t % 4503599627370496 < 4503599627370496 := Nat.mod_lt _ (by decide)
  generalize dbl.quiet t % 4503599627370496 = q at *
  unfold Ieee.Format.word
  rw [c1]
  cases s <;> simp <;> omega
theorem trunc_run (x : Nat) (w : World) : ∃ v n, (callFunc 243 #[.float .f64 x]).run Tryz.prog w = .ok (.value v) { w with drawn := n } ∧ ∃ c, v = .float .f64 c ∧ cutR x c := by
  rw [run_callFunc_extern (e := Extern.MathFloor.toIntegral "math.archTrunc" .zero) Tryz.func243 (by kernel_rfl) (by kernel_rfl) (by kernel_rfl) (by kernel_rfl), toIntegral_eq]
  have ed : FloatKind.f64.decode x = dbl.read x := rfl
  rw [ed]
  cases hr : dbl.read x with
  | number s m i => exact ⟨_, w.drawn, rfl, _, rfl, by unfold cutR; rw [hr]; simp only [integral_num]; rfl⟩
  | infinity s => exact ⟨_, w.drawn, rfl, _, rfl, by unfold cutR; rw [hr]; rfl⟩
  | nan s t =>
    simp only
    have hx : isNan x = true := by unfold isNan; rw [hr]; rfl
    by_cases h : FloatKind.f64.format.quiet t = t
    · rw [if_pos h]
      exact ⟨_, w.drawn, rfl, x, rfl, by unfold cutR; rw [hr]; exact hx⟩
    · rw [if_neg h]
      obtain ⟨k, w', h1, ⟨n, rfl⟩, _⟩ := Sx.run_choose (P := Tryz.prog) (Question.extern "math.Floor,Ceil,Trunc,RoundToEven.signallingNaN kept" 2) w
      refine ⟨_, n, by rw [Sem.run_bind, h1]; rfl, _, rfl, ?_⟩
      unfold cutR
      rw [hr]
      simp only
      split
      · exact hx
      · exact nan_quiet s t
def truncC0 : Con Tryz.prog := Con.extS 243 (fun x : Nat => [.float .f64 x]) (fun _ => True) (fun x v => ∃ c, v = .float .f64 c ∧ cutR x c) fun x w _ => trunc_run x w
theorem truncC_c (x : Nat) (w : World) : Calls Tryz.prog 197 #[.float .f64 x] w fun e w' => ∃ v, e = .returned v ∧ (fun v => ∃ c, v = .float .f64 c ∧ cutR x c) v ∧ RowKit.Below w.heap.size w w' := by
  refine plain_of_vcs ⟨[truncC0], []⟩ hmx Tryz.func197 rfl (by kernel_rfl) (args := [.float .f64 x]) (by simp [Tryz.ntmps197]) w (fun v => ∃ c, v = .float .f64 c ∧ cutR x c) 400 ?_
  simp (maxSteps := 4000000) -dsimp [-List.all_eq_true, -Array.all_eq_true, -Bool.exists_bool, -Bool.forall_bool, vcsE1, vcsE2, vcsE3, vcsE4, vcsE5, vcsE6, vcsE7, vcsE8, vcsE9, vcsE10, vcsE11, vcsE12, vcsE13, vcsE14, vcsE15, vcsE16, vcsE17, vcsE18, vcsE19, Sx.get, Sx.look, Sx.put, pureFn, findOrd, unF, dstOk, isFloatT, endVC, resFn, packC, newFn, storeFn, buildFn, undef, known, aggT, cellsC, Value.cells, findCon, Con.pure, Con.some, allV, partsV, partsC, fillL, Sx.exitTo, fAr, C.one, Value.oneCell', eqFn, eqFieldsFn, eqElemsFn, partFn, and_assoc, List.zipIdx, sliceFn, boundFn, AppV, CopyV, MakeSliceV, NewsV, GrowV, TextV, bytesL, notInt, typeAt, argAt, Con.read, Con.make, Con.ext, Con.rel, den, Con.extS, Con.draw, Con.step, Draws.steps, Tryz.f197, truncC0]
  rintro v c rfl hc
  exact ⟨c, rfl, hc⟩
def truncC : Con Tryz.prog := Con.some 197 Tryz.call197 (fun (x : ((Nat))) => [.float .f64 x]) (fun (x : ((Nat))) => True) (fun (x : ((Nat))) => fun v => ∃ c, v = .float .f64 c ∧ cutR x c) fun x w _ => truncC_c x w
theorem fmt64x : FloatKind.f64.format = dbl := rfl
theorem realWholeC_c (x : Nat) (w : World) : Calls Tryz.prog 147 #[.float .f64 x] w fun e w' => e = .returned (.tuple #[.int .i16 (realWhole x).1, .bool (realWhole x).2]) ∧ RowKit.Below w.heap.size w w' := by
  refine (plain_of_vcs ⟨[truncC], []⟩ hmx Tryz.func147 rfl (by kernel_rfl) (args := [.float .f64 x]) (by simp [Tryz.ntmps147]) w (· = .tuple #[.int .i16 (realWhole x).1, .bool (realWhole x).2]) 400 ?_).mono fun e w' ⟨v, h1, h2, h3⟩ => ⟨h2 ▸ h1, h3⟩
  simp (maxSteps := 4000000) -dsimp [-List.all_eq_true, -Array.all_eq_true, -Bool.exists_bool, -Bool.forall_bool, vcsE1, vcsE2, vcsE3, vcsE4, vcsE5, vcsE6, vcsE7, vcsE8, vcsE9, vcsE10, vcsE11, vcsE12, vcsE13, vcsE14, vcsE15, vcsE16, vcsE17, vcsE18, vcsE19, Sx.get, Sx.look, Sx.put, pureFn, findOrd, unF, dstOk, isFloatT, endVC, resFn, packC, newFn, storeFn, buildFn, undef, known, aggT, cellsC, Value.cells, findCon, Con.pure, Con.some, allV, partsV, partsC, fillL, Sx.exitTo, fAr, C.one, Value.oneCell', eqFn, eqFieldsFn, eqElemsFn, partFn, and_assoc, List.zipIdx, sliceFn, boundFn, AppV, CopyV, MakeSliceV, NewsV, GrowV, TextV, bytesL, notInt, typeAt, argAt, Con.read, Con.make, Con.ext, Con.rel, den, Con.extS, Con.draw, Con.step, Draws.steps, Tryz.f147, truncC]
  rintro v c rfl hc
  have hb := cut_inB hc
  unfold inB at hb
  cases hw : (realWhole x).2
  · have h0 := realWhole_no hw
    rw [hw] at hb
    simp (maxSteps := 4000000) -dsimp [-List.all_eq_true, -Array.all_eq_true, -Bool.exists_bool, -Bool.forall_bool, vcsE1, vcsE2, vcsE3, vcsE4, vcsE5, vcsE6, vcsE7, vcsE8, vcsE9, vcsE10, vcsE11, vcsE12, vcsE13, vcsE14, vcsE15, vcsE16, vcsE17, vcsE18, vcsE19, Sx.get, Sx.look, Sx.put, pureFn, findOrd, unF, dstOk, isFloatT, endVC, resFn, packC, newFn, storeFn, buildFn, undef, known, aggT, cellsC, Value.cells, findCon, Con.pure, Con.some, allV, partsV, partsC, fillL, Sx.exitTo, fAr, C.one, Value.oneCell', eqFn, eqFieldsFn, eqElemsFn, partFn, and_assoc, List.zipIdx, sliceFn, boundFn, AppV, CopyV, MakeSliceV, NewsV, GrowV, TextV, bytesL, notInt, typeAt, argAt, Con.read, Con.make, Con.ext, Con.rel, den, Con.extS, Con.draw, Con.step, Draws.steps, Tryz.f147, truncC, fmt64x, h0]
    intro a b
    exfalso
    by_cases b1 : dbl.order c 4674736138332667904 = some .lt
    · rcases a with a | a <;> simp [a, b1] at hb
    · rcases a with a | a <;> simp [a, b b1] at hb
  · have h1 := fun r => cut_int (r := r) hc hw
    rw [hw] at hb
    simp at hb
    obtain ⟨a, b⟩ := hb
    simp (maxSteps := 4000000) -dsimp [-List.all_eq_true, -Array.all_eq_true, -Bool.exists_bool, -Bool.forall_bool, vcsE1, vcsE2, vcsE3, vcsE4, vcsE5, vcsE6, vcsE7, vcsE8, vcsE9, vcsE10, vcsE11, vcsE12, vcsE13, vcsE14, vcsE15, vcsE16, vcsE17, vcsE18, vcsE19, Sx.get, Sx.look, Sx.put, pureFn, findOrd, unF, dstOk, isFloatT, endVC, resFn, packC, newFn, storeFn, buildFn, undef, known, aggT, cellsC, Value.cells, findCon, Con.pure, Con.some, allV, partsV, partsC, fillL, Sx.exitTo, fAr, C.one, Value.oneCell', eqFn, eqFieldsFn, eqElemsFn, partFn, and_assoc, List.zipIdx, sliceFn, boundFn, AppV, CopyV, MakeSliceV, NewsV, GrowV, TextV, bytesL, notInt, typeAt, argAt, Con.read, Con.make, Con.ext, Con.rel, den, Con.extS, Con.draw, Con.step, Draws.steps, Tryz.f147, truncC, fmt64x]
    exact ⟨fun _ => ⟨fun h => b.resolve_left h, fun _ => h1⟩, fun h => a.resolve_left h⟩
def realWholeC : Con Tryz.prog := Con.pure 147 Tryz.call147 (fun (x : ((Nat))) => [.float .f64 x]) (fun (x : ((Nat))) => True) (fun (x : ((Nat))) => .tuple #[.int .i16 (realWhole x).1, .bool (realWhole x).2]) fun x w _ => realWholeC_c x w
theorem sRealWholeC_c (x : Nat) (w : World) : Calls Tryz.prog 247 #[.float .f64 x] w fun e w' => e = .returned (.tuple #[.int .i16 (realWhole x).1, .bool (realWhole x).2]) ∧ RowKit.Below w.heap.size w w' := by
  refine (plain_of_vcs ⟨[], []⟩ hmx Tryz.func247 rfl (by kernel_rfl) (args := [.float .f64 x]) (by simp [Tryz.ntmps247]) w (· = .tuple #[.int .i16 (realWhole x).1, .bool (realWhole x).2]) 400 ?_).mono fun e w' ⟨v, h1, h2, h3⟩ => ⟨h2 ▸ h1, h3⟩
  have hb := spec_whole x
  cases hw : (realWhole x).2
  · have h0 := realWhole_no hw
    rw [hw] at hb
    simp (maxSteps := 4000000) -dsimp [-List.all_eq_true, -Array.all_eq_true, -Bool.exists_bool, -Bool.forall_bool, vcsE1, vcsE2, vcsE3, vcsE4, vcsE5, vcsE6, vcsE7, vcsE8, vcsE9, vcsE10, vcsE11, vcsE12, vcsE13, vcsE14, vcsE15, vcsE16, vcsE17, vcsE18, vcsE19, Sx.get, Sx.look, Sx.put, pureFn, findOrd, unF, dstOk, isFloatT, endVC, resFn, packC, newFn, storeFn, buildFn, undef, known, aggT, cellsC, Value.cells, findCon, Con.pure, Con.some, allV, partsV, partsC, fillL, Sx.exitTo, fAr, C.one, Value.oneCell', eqFn, eqFieldsFn, eqElemsFn, partFn, and_assoc, List.zipIdx, sliceFn, boundFn, AppV, CopyV, MakeSliceV, NewsV, GrowV, TextV, bytesL, notInt, typeAt, argAt, Con.read, Con.make, Con.ext, Con.rel, den, Con.extS, Con.draw, Con.step, Draws.steps, Tryz.f247, fmt64x, h0]
    intro h1 h2
    simp [h1, h2] at hb
  · have h1 := fun r => spec_int (r := r) hw
    rw [hw] at hb
    simp at hb
    simp (maxSteps := 4000000) -dsimp [-List.all_eq_true, -Array.all_eq_true, -Bool.exists_bool, -Bool.forall_bool, vcsE1, vcsE2, vcsE3, vcsE4, vcsE5, vcsE6, vcsE7, vcsE8, vcsE9, vcsE10, vcsE11, vcsE12, vcsE13, vcsE14, vcsE15, vcsE16, vcsE17, vcsE18, vcsE19, Sx.get, Sx.look, Sx.put, pureFn, findOrd, unF, dstOk, isFloatT, endVC, resFn, packC, newFn, storeFn, buildFn, undef, known, aggT, cellsC, Value.cells, findCon, Con.pure, Con.some, allV, partsV, partsC, fillL, Sx.exitTo, fAr, C.one, Value.oneCell', eqFn, eqFieldsFn, eqElemsFn, partFn, and_assoc, List.zipIdx, sliceFn, boundFn, AppV, CopyV, MakeSliceV, NewsV, GrowV, TextV, bytesL, notInt, typeAt, argAt, Con.read, Con.make, Con.ext, Con.rel, den, Con.extS, Con.draw, Con.step, Draws.steps, Tryz.f247, fmt64x, hb]
    exact h1
def sRealWholeC : Con Tryz.prog := Con.pure 247 Tryz.call247 (fun (x : ((Nat))) => [.float .f64 x]) (fun (x : ((Nat))) => True) (fun (x : ((Nat))) => .tuple #[.int .i16 (realWhole x).1, .bool (realWhole x).2]) fun x w _ => sRealWholeC_c x w
end Go.Proofs.YtmiicjgbhkjocaaGreat
