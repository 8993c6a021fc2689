/-
  Contracts: bits are put into the memory; real numbers of operands; a scan begins.
-/
import Derived.Test.YtclbanhoiaieaaaGreatDoorPva
import Derived.Test.YtclbanhoiaieaaaGreatDoorFactsva
set_option linter.unusedVariables false
set_option linter.unusedSimpArgs false
set_option maxRecDepth 100000
set_option maxHeartbeats 1000000
set_option maxHeartbeats 4000000
namespace Go.Proofs.YtclbanhoiaieaaaGreatDoor
open Go Go.Sx
attribute [local simp] Sx.vcsE1 Sx.vcsE2 Sx.vcsE3 Sx.vcsE4 Sx.vcsE5 Sx.vcsE6 Sx.vcsE7 Sx.vcsE8 Sx.vcsE9 Sx.vcsE10 Sx.vcsE11 Sx.vcsE12 Sx.vcsE13 Sx.vcsE14 Sx.vcsE15 Sx.vcsE16 Sx.vcsE17 Sx.vcsE18 Sx.vcsE19 Sx.get Sx.look Sx.put Sx.pureFn Sx.findOrd Sx.unF Sx.dstOk Sx.isFloatT Sx.endVC Sx.resFn Sx.packC Sx.newFn Sx.storeFn Sx.buildFn Sx.known Sx.aggT Sx.cellsC Sx.findCon Sx.allV Sx.partsV Sx.partsC Sx.fillL Sx.exitTo Sx.fAr Sx.eqFn Sx.eqFieldsFn Sx.eqElemsFn Sx.partFn Sx.sliceFn Sx.boundFn Sx.AppV Sx.CopyV Sx.MakeSliceV Sx.NewsV Sx.GrowV Sx.TextV Sx.bytesL Sx.notInt Sx.typeAt Sx.argAt Sx.den Go.undef Go.Value.cells Go.Value.oneCell' Sx.Con.pure Sx.Con.some Sx.Con.read Sx.Con.make Sx.Con.ext Sx.Con.rel Sx.Con.extS Sx.Con.draw Sx.Con.step Sx.C.one Sx.Draws.steps

theorem withinC_c (a b c : Int) (w : World) : Calls Tryz.prog 133 #[.int .i64 a, .int .i64 b, .int .i64 c] w fun e w' => e = .returned (.bool (decide (b ≤ a ∧ a ≤ c))) ∧ RowKit.Below w.heap.size w w' := by
  refine (plain_of_vcs ⟨[], []⟩ hmx Tryz.func133 rfl (by kernel_rfl) (args := [.int .i64 a, .int .i64 b, .int .i64 c]) (by simp [Tryz.ntmps133]) w (· = .bool (decide (b ≤ a ∧ a ≤ c))) 400 ?_).mono fun e w' ⟨v, h1, h2, h3⟩ => ⟨h2 ▸ h1, h3⟩
  simp (maxSteps := 4000000) -dsimp [-List.all_eq_true, -Array.all_eq_true, -Bool.exists_bool, -Bool.forall_bool, and_assoc, List.zipIdx, Tryz.f133]
  omega
def withinC : Con Tryz.prog := Con.pure 133 Tryz.call133 (fun (i : ((Int) × (Int) × (Int))) => match i with | (a, b, c) => [.int .i64 a, .int .i64 b, .int .i64 c]) (fun (i : ((Int) × (Int) × (Int))) => match i with | (a, b, c) => True) (fun (i : ((Int) × (Int) × (Int))) => match i with | (a, b, c) => .bool (decide (b ≤ a ∧ a ≤ c))) fun i w _ => withinC_c i.1 i.2.1 i.2.2 w
theorem isDevC_c (k : Int) (w : World) : Calls Tryz.prog 146 #[.int .i64 k] w fun e w' => e = .returned (.bool (decide (1 ≤ k ∧ k ≤ 10))) ∧ RowKit.Below w.heap.size w w' := by
  refine (plain_of_vcs ⟨[withinC], []⟩ hmx Tryz.func146 rfl (by kernel_rfl) (args := [.int .i64 k]) (by simp [Tryz.ntmps146]) w (· = .bool (decide (1 ≤ k ∧ k ≤ 10))) 400 ?_).mono fun e w' ⟨v, h1, h2, h3⟩ => ⟨h2 ▸ h1, h3⟩
  simp (maxSteps := 4000000) -dsimp [-List.all_eq_true, -Array.all_eq_true, -Bool.exists_bool, -Bool.forall_bool, and_assoc, List.zipIdx, Tryz.f146, withinC]
def isDevC : Con Tryz.prog := Con.pure 146 Tryz.call146 (fun (k : ((Int))) => [.int .i64 k]) (fun (k : ((Int))) => True) (fun (k : ((Int))) => .bool (decide (1 ≤ k ∧ k ≤ 10))) fun k w _ => isDevC_c k w
theorem devSizeC_c (k : Int) (w : World) : Calls Tryz.prog 60 #[.int .i64 k] w fun e w' => e = .returned (.int .i64 (devSize k)) ∧ RowKit.Below w.heap.size w w' := by
  refine (plain_of_vcs ⟨[isDevC], []⟩ hmx Tryz.func60 rfl (by kernel_rfl) (args := [.int .i64 k]) (by simp [Tryz.ntmps60]) w (· = .int .i64 (devSize k)) 400 ?_).mono fun e w' ⟨v, h1, h2, h3⟩ => ⟨h2 ▸ h1, h3⟩
  simp (maxSteps := 4000000) -dsimp [-List.all_eq_true, -Array.all_eq_true, -Bool.exists_bool, -Bool.forall_bool, and_assoc, List.zipIdx, Tryz.f60, isDevC]
  refine ⟨fun h => (devSize_out h).symm, fun h1 h2 => ?_⟩
  obtain ⟨h3, h4, h5⟩ := devSize_tab h1 h2
  rw [h5]
  exact ⟨⟨h3, h4⟩, rfl⟩
def devSizeC : Con Tryz.prog := Con.pure 60 Tryz.call60 (fun (k : ((Int))) => [.int .i64 k]) (fun (k : ((Int))) => True) (fun (k : ((Int))) => .int .i64 (devSize k)) fun k w _ => devSizeC_c k w
theorem sDevSizeC_c (k : Int) (w : World) : Calls Tryz.prog 189 #[.int .i64 k] w fun e w' => e = .returned (.int .i64 (devSize k)) ∧ RowKit.Below w.heap.size w w' := by
  refine (plain_of_vcs ⟨[], []⟩ hmx Tryz.func189 rfl (by kernel_rfl) (args := [.int .i64 k]) (by simp [Tryz.ntmps189]) w (· = .int .i64 (devSize k)) 400 ?_).mono fun e w' ⟨v, h1, h2, h3⟩ => ⟨h2 ▸ h1, h3⟩
  simp (maxSteps := 4000000) -dsimp [-List.all_eq_true, -Array.all_eq_true, -Bool.exists_bool, -Bool.forall_bool, and_assoc, List.zipIdx, Tryz.f189]
  simp +contextual [devSize]
def sDevSizeC : Con Tryz.prog := Con.pure 189 Tryz.call189 (fun (k : ((Int))) => [.int .i64 k]) (fun (k : ((Int))) => True) (fun (k : ((Int))) => .int .i64 (devSize k)) fun k w _ => sDevSizeC_c k w

end Go.Proofs.YtclbanhoiaieaaaGreatDoor
