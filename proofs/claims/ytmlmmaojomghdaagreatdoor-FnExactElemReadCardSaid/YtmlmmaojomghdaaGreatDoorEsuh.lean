/-
  Contracts: which contacts, coils and instructions are ok, by the reference.
-/
import Derived.Test.YtmlmmaojomghdaaGreatDoorInuh
import Derived.Test.YtmlmmaojomghdaaGreatDoorHuh
import Derived.Test.YtmlmmaojomghdaaGreatDoorIuh
set_option linter.unusedVariables false
set_option linter.unusedSimpArgs false
set_option maxRecDepth 100000
set_option maxHeartbeats 4000000
namespace Go.Proofs.YtmlmmaojomghdaaGreatDoor
open Go Go.Sx
attribute [local simp] Sx.vcsE1 Sx.vcsE2 Sx.vcsE3 Sx.vcsE4 Sx.vcsE5 Sx.vcsE6 Sx.vcsE7 Sx.vcsE8 Sx.vcsE9 Sx.vcsE10 Sx.vcsE11 Sx.vcsE12 Sx.vcsE13 Sx.vcsE14 Sx.vcsE15 Sx.vcsE16 Sx.vcsE17 Sx.vcsE18 Sx.vcsE19 Sx.get Sx.look Sx.put Sx.pureFn Sx.findOrd Sx.unF Sx.dstOk Sx.isFloatT Sx.endVC Sx.resFn Sx.packC Sx.newFn Sx.storeFn Sx.buildFn Sx.known Sx.aggT Sx.cellsC Sx.findCon Sx.allV Sx.partsV Sx.partsC Sx.fillL Sx.exitTo Sx.fAr Sx.eqFn Sx.eqFieldsFn Sx.eqElemsFn Sx.partFn Sx.sliceFn Sx.boundFn Sx.AppV Sx.CopyV Sx.MakeSliceV Sx.NewsV Sx.GrowV Sx.TextV Sx.bytesL Sx.notInt Sx.typeAt Sx.argAt Sx.den Go.undef Go.Value.cells Go.Value.oneCell' Sx.Con.pure Sx.Con.some Sx.Con.read Sx.Con.make Sx.Con.ext Sx.Con.rel Sx.Con.extS Sx.Con.draw Sx.Con.step Sx.C.one Sx.Draws.steps

theorem ok_pos {k n p : Int} (h : devOk k n p = true) : 1 ≤ k ∧ k ≤ 13 := by
  rw [devOk_iff] at h; omega
theorem sIsBitC_c (k n p : Int) (w : World) : Calls Tryz.prog 178 #[.agg #[.int .i64 k, .int .i64 n, .int .i64 p]] w fun e w' => e = .returned (.bool (isBit ⟨k, n, p⟩)) ∧ RowKit.Below w.heap.size w w' := by
  refine (plain_of_vcs ⟨[sDevOkC], []⟩ hmx Tryz.func178 rfl (by kernel_rfl) (args := [.agg #[.int .i64 k, .int .i64 n, .int .i64 p]]) (by simp [Tryz.ntmps178]) w (· = .bool (isBit ⟨k, n, p⟩)) 400 ?_).mono fun e w' ⟨v, h1, h2, h3⟩ => ⟨h2 ▸ h1, h3⟩
  have hp := ok_pos (k := k) (n := n) (p := p)
  cases hd : devOk k n p
  · simp (maxSteps := 4000000) -dsimp [-List.all_eq_true, -Array.all_eq_true, -Bool.exists_bool, -Bool.forall_bool, and_assoc, List.zipIdx, Tryz.f178, sDevOkC, isBit, dOk, hd]
  · obtain rfl | rfl | rfl | rfl | rfl | rfl | rfl | rfl | rfl | rfl | rfl | rfl | rfl : k = 1 ∨ k = 2 ∨ k = 3 ∨ k = 4 ∨ k = 5 ∨ k = 6 ∨ k = 7 ∨ k = 8 ∨ k = 9 ∨ k = 10 ∨ k = 11 ∨ k = 12 ∨ k = 13 := by have := ok_pos hd; omega
    all_goals simp (maxSteps := 4000000) -dsimp [-List.all_eq_true, -Array.all_eq_true, -Bool.exists_bool, -Bool.forall_bool, and_assoc, List.zipIdx, Tryz.f178, sDevOkC, isBit, dOk, hd]
def sIsBitC : Con Tryz.prog := Con.pure 178 Tryz.call178 (fun (i : ((Int) × (Int) × (Int))) => match i with | (k, n, p) => [.agg #[.int .i64 k, .int .i64 n, .int .i64 p]]) (fun (i : ((Int) × (Int) × (Int))) => match i with | (k, n, p) => True) (fun (i : ((Int) × (Int) × (Int))) => match i with | (k, n, p) => .bool (isBit ⟨k, n, p⟩)) fun i w _ => sIsBitC_c i.1 i.2.1 i.2.2 w
theorem sIsWhlC_c (k n p : Int) (w : World) : Calls Tryz.prog 171 #[.agg #[.int .i64 k, .int .i64 n, .int .i64 p]] w fun e w' => e = .returned (.bool (isWhl ⟨k, n, p⟩)) ∧ RowKit.Below w.heap.size w w' := by
  refine (plain_of_vcs ⟨[sDevOkC], []⟩ hmx Tryz.func171 rfl (by kernel_rfl) (args := [.agg #[.int .i64 k, .int .i64 n, .int .i64 p]]) (by simp [Tryz.ntmps171]) w (· = .bool (isWhl ⟨k, n, p⟩)) 400 ?_).mono fun e w' ⟨v, h1, h2, h3⟩ => ⟨h2 ▸ h1, h3⟩
  cases hd : devOk k n p
  · simp (maxSteps := 4000000) -dsimp [-List.all_eq_true, -Array.all_eq_true, -Bool.exists_bool, -Bool.forall_bool, and_assoc, List.zipIdx, Tryz.f171, sDevOkC, isWhl, dOk, hd]
  · obtain rfl | rfl | rfl | rfl | rfl | rfl | rfl | rfl | rfl | rfl | rfl | rfl | rfl : k = 1 ∨ k = 2 ∨ k = 3 ∨ k = 4 ∨ k = 5 ∨ k = 6 ∨ k = 7 ∨ k = 8 ∨ k = 9 ∨ k = 10 ∨ k = 11 ∨ k = 12 ∨ k = 13 := by have := ok_pos hd; omega
    all_goals simp (maxSteps := 4000000) -dsimp [-List.all_eq_true, -Array.all_eq_true, -Bool.exists_bool, -Bool.forall_bool, and_assoc, List.zipIdx, Tryz.f171, sDevOkC, isWhl, dOk, hd]
def sIsWhlC : Con Tryz.prog := Con.pure 171 Tryz.call171 (fun (i : ((Int) × (Int) × (Int))) => match i with | (k, n, p) => [.agg #[.int .i64 k, .int .i64 n, .int .i64 p]]) (fun (i : ((Int) × (Int) × (Int))) => match i with | (k, n, p) => True) (fun (i : ((Int) × (Int) × (Int))) => match i with | (k, n, p) => .bool (isWhl ⟨k, n, p⟩)) fun i w _ => sIsWhlC_c i.1 i.2.1 i.2.2 w
theorem sIsRlC_c (k n p : Int) (w : World) : Calls Tryz.prog 172 #[.agg #[.int .i64 k, .int .i64 n, .int .i64 p]] w fun e w' => e = .returned (.bool (isRl ⟨k, n, p⟩)) ∧ RowKit.Below w.heap.size w w' := by
  refine (plain_of_vcs ⟨[sDevOkC], []⟩ hmx Tryz.func172 rfl (by kernel_rfl) (args := [.agg #[.int .i64 k, .int .i64 n, .int .i64 p]]) (by simp [Tryz.ntmps172]) w (· = .bool (isRl ⟨k, n, p⟩)) 400 ?_).mono fun e w' ⟨v, h1, h2, h3⟩ => ⟨h2 ▸ h1, h3⟩
  cases hd : devOk k n p
  · simp (maxSteps := 4000000) -dsimp [-List.all_eq_true, -Array.all_eq_true, -Bool.exists_bool, -Bool.forall_bool, and_assoc, List.zipIdx, Tryz.f172, sDevOkC, isRl, dOk, hd]
  · obtain rfl | rfl | rfl | rfl | rfl | rfl | rfl | rfl | rfl | rfl | rfl | rfl | rfl : k = 1 ∨ k = 2 ∨ k = 3 ∨ k = 4 ∨ k = 5 ∨ k = 6 ∨ k = 7 ∨ k = 8 ∨ k = 9 ∨ k = 10 ∨ k = 11 ∨ k = 12 ∨ k = 13 := by have := ok_pos hd; omega
    all_goals simp (maxSteps := 4000000) -dsimp [-List.all_eq_true, -Array.all_eq_true, -Bool.exists_bool, -Bool.forall_bool, and_assoc, List.zipIdx, Tryz.f172, sDevOkC, isRl, dOk, hd]
def sIsRlC : Con Tryz.prog := Con.pure 172 Tryz.call172 (fun (i : ((Int) × (Int) × (Int))) => match i with | (k, n, p) => [.agg #[.int .i64 k, .int .i64 n, .int .i64 p]]) (fun (i : ((Int) × (Int) × (Int))) => match i with | (k, n, p) => True) (fun (i : ((Int) × (Int) × (Int))) => match i with | (k, n, p) => .bool (isRl ⟨k, n, p⟩)) fun i w _ => sIsRlC_c i.1 i.2.1 i.2.2 w
theorem sArityC_c (op : Int) (w : World) : Calls Tryz.prog 169 #[.int .i64 op] w fun e w' => e = .returned (.int .i64 (arity op)) ∧ RowKit.Below w.heap.size w w' := by
  refine (plain_of_vcs ⟨[], []⟩ hmx Tryz.func169 rfl (by kernel_rfl) (args := [.int .i64 op]) (by simp [Tryz.ntmps169]) w (· = .int .i64 (arity op)) 400 ?_).mono fun e w' ⟨v, h1, h2, h3⟩ => ⟨h2 ▸ h1, h3⟩
  by_cases h : (1 ≤ op ∧ op ≤ 10) ∨ (21 ≤ op ∧ op ≤ 37)
  · obtain rfl | rfl | rfl | rfl | rfl | rfl | rfl | rfl | rfl | rfl | rfl | rfl | rfl | rfl | rfl | rfl | rfl | rfl | rfl | rfl | rfl | rfl | rfl | rfl | rfl | rfl | rfl : op = 1 ∨ op = 2 ∨ op = 3 ∨ op = 4 ∨ op = 5 ∨ op = 6 ∨ op = 7 ∨ op = 8 ∨ op = 9 ∨ op = 10 ∨ op = 21 ∨ op = 22 ∨ op = 23 ∨ op = 24 ∨ op = 25 ∨ op = 26 ∨ op = 27 ∨ op = 28 ∨ op = 29 ∨ op = 30 ∨ op = 31 ∨ op = 32 ∨ op = 33 ∨ op = 34 ∨ op = 35 ∨ op = 36 ∨ op = 37 := by omega
    all_goals simp (maxSteps := 4000000) -dsimp [-List.all_eq_true, -Array.all_eq_true, -Bool.exists_bool, -Bool.forall_bool, and_assoc, List.zipIdx, Tryz.f169, arity]
  · have e : arity op = 0 := by unfold arity; rw [if_neg (by omega), if_neg (by omega), if_neg (by omega)]
    have n : op ≠ 1 ∧ op ≠ 2 ∧ op ≠ 21 ∧ op ≠ 22 ∧ op ≠ 23 ∧ op ≠ 25 ∧ op ≠ 31 ∧ op ≠ 32 ∧ op ≠ 33 ∧ op ≠ 34 ∧ op ≠ 35 := by omega
    simp (maxSteps := 4000000) -dsimp [-List.all_eq_true, -Array.all_eq_true, -Bool.exists_bool, -Bool.forall_bool, and_assoc, List.zipIdx, Tryz.f169, e, n]
    try omega
def sArityC : Con Tryz.prog := Con.pure 169 Tryz.call169 (fun (op : ((Int))) => [.int .i64 op]) (fun (op : ((Int))) => True) (fun (op : ((Int))) => .int .i64 (arity op)) fun op w _ => sArityC_c op w
theorem l4KindC_c (k n p c d : Int) (w : World) : Calls Tryz.prog 170 #[.agg #[.int .i64 k, .int .i64 n, .int .i64 p], .int .i64 c, .int .i64 d] w fun e w' => e = .returned (.bool (devOk k n p && decide (k = c ∨ k = d))) ∧ RowKit.Below w.heap.size w w' := by
  refine (plain_of_vcs ⟨[sDevOkC], []⟩ hmx Tryz.func170 rfl (by kernel_rfl) (args := [.agg #[.int .i64 k, .int .i64 n, .int .i64 p], .int .i64 c, .int .i64 d]) (by simp [Tryz.ntmps170]) w (· = .bool (devOk k n p && decide (k = c ∨ k = d))) 400 ?_).mono fun e w' ⟨v, h1, h2, h3⟩ => ⟨h2 ▸ h1, h3⟩
  cases hd : devOk k n p
  · simp (maxSteps := 4000000) -dsimp [-List.all_eq_true, -Array.all_eq_true, -Bool.exists_bool, -Bool.forall_bool, and_assoc, List.zipIdx, Tryz.f170, sDevOkC, hd]
  · by_cases h1 : k = c
    · subst h1; simp (maxSteps := 4000000) -dsimp [-List.all_eq_true, -Array.all_eq_true, -Bool.exists_bool, -Bool.forall_bool, and_assoc, List.zipIdx, Tryz.f170, sDevOkC, hd]
    · by_cases h2 : k = d
      · subst h2; simp (maxSteps := 4000000) -dsimp [-List.all_eq_true, -Array.all_eq_true, -Bool.exists_bool, -Bool.forall_bool, and_assoc, List.zipIdx, Tryz.f170, sDevOkC, hd, h1]
      · simp (maxSteps := 4000000) -dsimp [-List.all_eq_true, -Array.all_eq_true, -Bool.exists_bool, -Bool.forall_bool, and_assoc, List.zipIdx, Tryz.f170, sDevOkC, hd, h1, h2]
def l4KindC : Con Tryz.prog := Con.pure 170 Tryz.call170 (fun (i : ((Int) × (Int) × (Int) × (Int) × (Int))) => match i with | (k, n, p, c, d) => [.agg #[.int .i64 k, .int .i64 n, .int .i64 p], .int .i64 c, .int .i64 d]) (fun (i : ((Int) × (Int) × (Int) × (Int) × (Int))) => match i with | (k, n, p, c, d) => True) (fun (i : ((Int) × (Int) × (Int) × (Int) × (Int))) => match i with | (k, n, p, c, d) => .bool (devOk k n p && decide (k = c ∨ k = d))) fun i w _ => l4KindC_c i.1 i.2.1 i.2.2.1 i.2.2.2.1 i.2.2.2.2 w
end Go.Proofs.YtmlmmaojomghdaaGreatDoor
