/-
  Contracts: which operands are ok; the real numbers of operands.
-/
import Derived.Test.YtclbanhoiaieaaaGreatDoorAva
set_option linter.unusedVariables false
set_option linter.unusedSimpArgs false
set_option maxRecDepth 100000
set_option maxHeartbeats 4000000
namespace Go.Proofs.YtclbanhoiaieaaaGreatDoor
open Go Go.Sx
attribute [local simp] Sx.vcsE1 Sx.vcsE2 Sx.vcsE3 Sx.vcsE4 Sx.vcsE5 Sx.vcsE6 Sx.vcsE7 Sx.vcsE8 Sx.vcsE9 Sx.vcsE10 Sx.vcsE11 Sx.vcsE12 Sx.vcsE13 Sx.vcsE14 Sx.vcsE15 Sx.vcsE16 Sx.vcsE17 Sx.vcsE18 Sx.vcsE19 Sx.get Sx.look Sx.put Sx.pureFn Sx.findOrd Sx.unF Sx.dstOk Sx.isFloatT Sx.endVC Sx.resFn Sx.packC Sx.newFn Sx.storeFn Sx.buildFn Sx.known Sx.aggT Sx.cellsC Sx.findCon Sx.allV Sx.partsV Sx.partsC Sx.fillL Sx.exitTo Sx.fAr Sx.eqFn Sx.eqFieldsFn Sx.eqElemsFn Sx.partFn Sx.sliceFn Sx.boundFn Sx.AppV Sx.CopyV Sx.MakeSliceV Sx.NewsV Sx.GrowV Sx.TextV Sx.bytesL Sx.notInt Sx.typeAt Sx.argAt Sx.den Go.undef Go.Value.cells Go.Value.oneCell' Sx.Con.pure Sx.Con.some Sx.Con.read Sx.Con.make Sx.Con.ext Sx.Con.rel Sx.Con.extS Sx.Con.draw Sx.Con.step Sx.C.one Sx.Draws.steps

theorem devSize_bd (k : Int) : 0 ≤ devSize k ∧ devSize k ≤ 64 := by
  unfold devSize; (repeat' split) <;> omega
theorem wrap_size (k : Int) : IntKind.i64.wrap (devSize k - 1) = devSize k - 1 := by
  have := devSize_bd k
  exact wrap_i64 (by omega) (by omega)

theorem devOk_iff (k n p : Int) : devOk k n p = true ↔ ((1 ≤ k ∧ k ≤ 10 ∧ 0 ≤ n ∧ n < devSize k ∧ p = 0) ∨ (k = 11 ∧ -32768 ≤ n ∧ n ≤ 32767 ∧ p = 0) ∨
    (k = 12 ∧ -999999999 ≤ n ∧ n ≤ 999999999 ∧ 1 ≤ p ∧ p ≤ 6 ∧ (p = 1 ∨ n.tmod 10 ≠ 0)) ∨ (k = 13 ∧ 0 ≤ n ∧ n ≤ 3 ∧ p = 0)) := by unfold devOk; exact decide_eq_true_iff

theorem devOkC_c (k n p : Int) (w : World) : Calls Tryz.prog 149 #[.agg #[.int .i64 k, .int .i64 n, .int .i64 p]] w fun e w' => e = .returned (.bool (devOk k n p)) ∧ RowKit.Below w.heap.size w w' := by
  refine (plain_of_vcs ⟨[isDevC, withinC, devSizeC], []⟩ hmx Tryz.func149 rfl (by kernel_rfl) (args := [.agg #[.int .i64 k, .int .i64 n, .int .i64 p]]) (by simp [Tryz.ntmps149]) w (· = .bool (devOk k n p)) 400 ?_).mono fun e w' ⟨v, h1, h2, h3⟩ => ⟨h2 ▸ h1, h3⟩
  have e := wrap_size k
  have hb := devSize_bd k
  have key := devOk_iff k n p
  simp (maxSteps := 4000000) -dsimp [-List.all_eq_true, -Array.all_eq_true, -Bool.exists_bool, -Bool.forall_bool, and_assoc, List.zipIdx, Tryz.f149, isDevC, withinC, devSizeC, e]
  generalize devOk k n p = d at *
  generalize n.tmod 10 = t at *
  generalize devSize k = z at *
  cases d <;> simp at key ⊢ <;> omega
def devOkC : Con Tryz.prog := Con.pure 149 Tryz.call149 (fun (i : ((Int) × (Int) × (Int))) => match i with | (k, n, p) => [.agg #[.int .i64 k, .int .i64 n, .int .i64 p]]) (fun (i : ((Int) × (Int) × (Int))) => match i with | (k, n, p) => True) (fun (i : ((Int) × (Int) × (Int))) => match i with | (k, n, p) => .bool (devOk k n p)) fun i w _ => devOkC_c i.1 i.2.1 i.2.2 w
theorem sDevOkC_c (k n p : Int) (w : World) : Calls Tryz.prog 166 #[.agg #[.int .i64 k, .int .i64 n, .int .i64 p]] w fun e w' => e = .returned (.bool (devOk k n p)) ∧ RowKit.Below w.heap.size w w' := by
  refine (plain_of_vcs ⟨[sDevSizeC], []⟩ hmx Tryz.func166 rfl (by kernel_rfl) (args := [.agg #[.int .i64 k, .int .i64 n, .int .i64 p]]) (by simp [Tryz.ntmps166]) w (· = .bool (devOk k n p)) 400 ?_).mono fun e w' ⟨v, h1, h2, h3⟩ => ⟨h2 ▸ h1, h3⟩
  have hb := devSize_bd k
  have key := devOk_iff k n p
  by_cases h1 : k = 11
  · subst h1
    simp (maxSteps := 4000000) -dsimp [-List.all_eq_true, -Array.all_eq_true, -Bool.exists_bool, -Bool.forall_bool, and_assoc, List.zipIdx, Tryz.f166, sDevSizeC]
    generalize devOk 11 n p = d at *
    cases d <;> simp at key ⊢ <;> omega
  by_cases h2 : k = 12
  · subst h2
    simp (maxSteps := 4000000) -dsimp [-List.all_eq_true, -Array.all_eq_true, -Bool.exists_bool, -Bool.forall_bool, and_assoc, List.zipIdx, Tryz.f166, sDevSizeC]
    generalize devOk 12 n p = d at *
    generalize n.tmod 10 = t at *
    cases d <;> simp at key ⊢ <;> omega
  by_cases h3 : k = 13
  · subst h3
    simp (maxSteps := 4000000) -dsimp [-List.all_eq_true, -Array.all_eq_true, -Bool.exists_bool, -Bool.forall_bool, and_assoc, List.zipIdx, Tryz.f166, sDevSizeC]
    generalize devOk 13 n p = d at *
    cases d <;> simp at key ⊢ <;> omega
  · have h4 : ¬ (1 ≤ k ∧ k ≤ 10) → devSize k = 0 := fun h => devSize_out (by omega)
    simp only [h1, h2, h3, false_and, or_false] at key
    simp (maxSteps := 4000000) -dsimp [-List.all_eq_true, -Array.all_eq_true, -Bool.exists_bool, -Bool.forall_bool, and_assoc, List.zipIdx, Tryz.f166, sDevSizeC, h1, h2, h3]
    generalize devOk k n p = d at *
    generalize devSize k = z at *
    cases d <;> simp at key ⊢ <;> omega
def sDevOkC : Con Tryz.prog := Con.pure 166 Tryz.call166 (fun (i : ((Int) × (Int) × (Int))) => match i with | (k, n, p) => [.agg #[.int .i64 k, .int .i64 n, .int .i64 p]]) (fun (i : ((Int) × (Int) × (Int))) => match i with | (k, n, p) => True) (fun (i : ((Int) × (Int) × (Int))) => match i with | (k, n, p) => .bool (devOk k n p)) fun i w _ => sDevOkC_c i.1 i.2.1 i.2.2 w
end Go.Proofs.YtclbanhoiaieaaaGreatDoor
