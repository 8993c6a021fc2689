/-
  Contracts: operands of a contact or coil are copied, counted and compared.
-/
import Derived.Test.YtmlmmaojomghdaaDoorPtt
import Derived.Test.YtmlmmaojomghdaaDoorFactstt
import Derived.Test.YtmlmmaojomghdaaDoorIntt
import Derived.Test.YtmlmmaojomghdaaDoorVtt
set_option linter.unusedVariables false
set_option linter.unusedSimpArgs false
set_option maxRecDepth 100000
set_option maxHeartbeats 4000000
namespace Go.Proofs.YtmlmmaojomghdaaDoor
open Go Go.Sx
attribute [local simp] Sx.vcsE1 Sx.vcsE2 Sx.vcsE3 Sx.vcsE4 Sx.vcsE5 Sx.vcsE6 Sx.vcsE7 Sx.vcsE8 Sx.vcsE9 Sx.vcsE10 Sx.vcsE11 Sx.vcsE12 Sx.vcsE13 Sx.vcsE14 Sx.vcsE15 Sx.vcsE16 Sx.vcsE17 Sx.vcsE18 Sx.vcsE19 Sx.get Sx.look Sx.put Sx.pureFn Sx.findOrd Sx.unF Sx.dstOk Sx.isFloatT Sx.endVC Sx.resFn Sx.packC Sx.newFn Sx.storeFn Sx.buildFn Sx.known Sx.aggT Sx.cellsC Sx.findCon Sx.allV Sx.partsV Sx.partsC Sx.fillL Sx.exitTo Sx.fAr Sx.eqFn Sx.eqFieldsFn Sx.eqElemsFn Sx.partFn Sx.sliceFn Sx.boundFn Sx.AppV Sx.CopyV Sx.MakeSliceV Sx.NewsV Sx.GrowV Sx.TextV Sx.bytesL Sx.notInt Sx.typeAt Sx.argAt Sx.den Go.undef Go.Value.cells Go.Value.oneCell' Sx.Con.pure Sx.Con.some Sx.Con.read Sx.Con.make Sx.Con.ext Sx.Con.rel Sx.Con.extS Sx.Con.draw Sx.Con.step Sx.C.one Sx.Draws.steps

theorem toTimerC_c (b : Bool) (n : Int) (w : World) : Calls Tryd.prog 65 #[.agg #[.bool b, .int .u16 n]] w fun e w' => e = .returned (.agg #[.bool b, .int .u16 n]) ∧ RowKit.Below w.heap.size w w' := by
  refine (plain_of_vcs ⟨[], []⟩ hmx Tryd.func65 rfl (by kernel_rfl) (args := [.agg #[.bool b, .int .u16 n]]) (by simp [Tryd.ntmps65]) w (· = .agg #[.bool b, .int .u16 n]) 400 ?_).mono fun e w' ⟨v, h1, h2, h3⟩ => ⟨h2 ▸ h1, h3⟩
  simp (maxSteps := 4000000) -dsimp [-List.all_eq_true, -Array.all_eq_true, -Bool.exists_bool, -Bool.forall_bool, and_assoc, List.zipIdx, Tryd.f65]
def toTimerC : Con Tryd.prog := Con.pure 65 Tryd.call65 (fun (i : ((Bool) × (Int))) => match i with | (b, n) => [.agg #[.bool b, .int .u16 n]]) (fun (i : ((Bool) × (Int))) => match i with | (b, n) => True) (fun (i : ((Bool) × (Int))) => match i with | (b, n) => .agg #[.bool b, .int .u16 n]) fun i w _ => toTimerC_c i.1 i.2 w
theorem toCounterC_c (b c : Bool) (n : Int) (w : World) : Calls Tryd.prog 66 #[.agg #[.bool b, .bool c, .int .u16 n]] w fun e w' => e = .returned (.agg #[.bool b, .bool c, .int .u16 n]) ∧ RowKit.Below w.heap.size w w' := by
  refine (plain_of_vcs ⟨[], []⟩ hmx Tryd.func66 rfl (by kernel_rfl) (args := [.agg #[.bool b, .bool c, .int .u16 n]]) (by simp [Tryd.ntmps66]) w (· = .agg #[.bool b, .bool c, .int .u16 n]) 400 ?_).mono fun e w' ⟨v, h1, h2, h3⟩ => ⟨h2 ▸ h1, h3⟩
  simp (maxSteps := 4000000) -dsimp [-List.all_eq_true, -Array.all_eq_true, -Bool.exists_bool, -Bool.forall_bool, and_assoc, List.zipIdx, Tryd.f66]
def toCounterC : Con Tryd.prog := Con.pure 66 Tryd.call66 (fun (i : ((Bool) × (Bool) × (Int))) => match i with | (b, c, n) => [.agg #[.bool b, .bool c, .int .u16 n]]) (fun (i : ((Bool) × (Bool) × (Int))) => match i with | (b, c, n) => True) (fun (i : ((Bool) × (Bool) × (Int))) => match i with | (b, c, n) => .agg #[.bool b, .bool c, .int .u16 n]) fun i w _ => toCounterC_c i.1 i.2.1 i.2.2 w
theorem toTimersC_c (f : Arr 16 (Bool × Int)) (w : World) : Calls Tryd.prog 32 #[.agg (tL f).toArray] w fun e w' => e = .returned (.agg (tL f).toArray) ∧ RowKit.Below w.heap.size w w' := by
  refine (plain_of_vcs ⟨[toTimerC], []⟩ hmx Tryd.func32 rfl (by kernel_rfl) (args := [.agg (tL f).toArray]) (by simp [Tryd.ntmps32]) w (· = .agg (tL f).toArray) 1000 ?_).mono fun e w' ⟨v, h1, h2, h3⟩ => ⟨h2 ▸ h1, h3⟩
  rw [tL_lit]
  simp (maxSteps := 4000000) -dsimp [-List.all_eq_true, -Array.all_eq_true, -Bool.exists_bool, -Bool.forall_bool, and_assoc, List.zipIdx, Tryd.f32, toTimerC]
  intro _ _ _
  iterate 17
    refine loop_unroll (σ := ⟨[toTimerC], []⟩) (n := 1000) hmx (by kernel_rfl) ?_
    simp (maxSteps := 4000000) -dsimp [-List.all_eq_true, -Array.all_eq_true, -Bool.exists_bool, -Bool.forall_bool, and_assoc, List.zipIdx, Tryd.f32, toTimerC, IntKind.wrap, IntKind.signed, IntKind.bits]
def toTimersC : Con Tryd.prog := Con.pure 32 Tryd.call32 (fun (f : ((Arr 16 (Bool × Int)))) => [.agg (tL f).toArray]) (fun (f : ((Arr 16 (Bool × Int)))) => True) (fun (f : ((Arr 16 (Bool × Int)))) => .agg (tL f).toArray) fun f w _ => toTimersC_c f w
theorem toCountersC_c (f : Arr 16 (Bool × Bool × Int)) (w : World) : Calls Tryd.prog 33 #[.agg (cL f).toArray] w fun e w' => e = .returned (.agg (cL f).toArray) ∧ RowKit.Below w.heap.size w w' := by
  refine (plain_of_vcs ⟨[toCounterC], []⟩ hmx Tryd.func33 rfl (by kernel_rfl) (args := [.agg (cL f).toArray]) (by simp [Tryd.ntmps33]) w (· = .agg (cL f).toArray) 1000 ?_).mono fun e w' ⟨v, h1, h2, h3⟩ => ⟨h2 ▸ h1, h3⟩
  rw [cL_lit]
  simp (maxSteps := 4000000) -dsimp [-List.all_eq_true, -Array.all_eq_true, -Bool.exists_bool, -Bool.forall_bool, and_assoc, List.zipIdx, Tryd.f33, toCounterC]
  intro _ _ _
  iterate 17
    refine loop_unroll (σ := ⟨[toCounterC], []⟩) (n := 1000) hmx (by kernel_rfl) ?_
    simp (maxSteps := 4000000) -dsimp [-List.all_eq_true, -Array.all_eq_true, -Bool.exists_bool, -Bool.forall_bool, and_assoc, List.zipIdx, Tryd.f33, toCounterC, IntKind.wrap, IntKind.signed, IntKind.bits]
def toCountersC : Con Tryd.prog := Con.pure 33 Tryd.call33 (fun (f : ((Arr 16 (Bool × Bool × Int)))) => [.agg (cL f).toArray]) (fun (f : ((Arr 16 (Bool × Bool × Int)))) => True) (fun (f : ((Arr 16 (Bool × Bool × Int)))) => .agg (cL f).toArray) fun f w _ => toCountersC_c f w
theorem toIntsC_c (f : Arr 32 Int) (w : World) : Calls Tryd.prog 34 #[.agg (dL f).toArray] w fun e w' => e = .returned (.agg (dL f).toArray) ∧ RowKit.Below w.heap.size w w' := by
  refine (plain_of_vcs ⟨[], []⟩ hmx Tryd.func34 rfl (by kernel_rfl) (args := [.agg (dL f).toArray]) (by simp [Tryd.ntmps34]) w (· = .agg (dL f).toArray) 1000 ?_).mono fun e w' ⟨v, h1, h2, h3⟩ => ⟨h2 ▸ h1, h3⟩
  rw [dL_lit]
  simp (maxSteps := 4000000) -dsimp [-List.all_eq_true, -Array.all_eq_true, -Bool.exists_bool, -Bool.forall_bool, and_assoc, List.zipIdx, Tryd.f34]
  intro _ _ _
  iterate 33
    refine loop_unroll (σ := ⟨[], []⟩) (n := 1000) hmx (by kernel_rfl) ?_
    simp (maxSteps := 4000000) -dsimp [-List.all_eq_true, -Array.all_eq_true, -Bool.exists_bool, -Bool.forall_bool, and_assoc, List.zipIdx, Tryd.f34, IntKind.wrap, IntKind.signed, IntKind.bits]
def toIntsC : Con Tryd.prog := Con.pure 34 Tryd.call34 (fun (f : ((Arr 32 Int))) => [.agg (dL f).toArray]) (fun (f : ((Arr 32 Int))) => True) (fun (f : ((Arr 32 Int))) => .agg (dL f).toArray) fun f w _ => toIntsC_c f w
theorem toRealsC_c (f : Arr 16 Nat) (w : World) : Calls Tryd.prog 35 #[.agg (rL f).toArray] w fun e w' => e = .returned (.agg (rL f).toArray) ∧ RowKit.Below w.heap.size w w' := by
  refine (plain_of_vcs ⟨[], []⟩ hmx Tryd.func35 rfl (by kernel_rfl) (args := [.agg (rL f).toArray]) (by simp [Tryd.ntmps35]) w (· = .agg (rL f).toArray) 1000 ?_).mono fun e w' ⟨v, h1, h2, h3⟩ => ⟨h2 ▸ h1, h3⟩
  rw [rL_lit]
  simp (maxSteps := 4000000) -dsimp [-List.all_eq_true, -Array.all_eq_true, -Bool.exists_bool, -Bool.forall_bool, and_assoc, List.zipIdx, Tryd.f35]
  intro _ _ _
  iterate 17
    refine loop_unroll (σ := ⟨[], []⟩) (n := 1000) hmx (by kernel_rfl) ?_
    simp (maxSteps := 4000000) -dsimp [-List.all_eq_true, -Array.all_eq_true, -Bool.exists_bool, -Bool.forall_bool, and_assoc, List.zipIdx, Tryd.f35, IntKind.wrap, IntKind.signed, IntKind.bits]
def toRealsC : Con Tryd.prog := Con.pure 35 Tryd.call35 (fun (f : ((Arr 16 Nat))) => [.agg (rL f).toArray]) (fun (f : ((Arr 16 Nat))) => True) (fun (f : ((Arr 16 Nat))) => .agg (rL f).toArray) fun f w _ => toRealsC_c f w
theorem toMemC_c (m : M) (w : World) : Calls Tryd.prog 11 #[.agg (cells m)] w fun e w' => e = .returned (.agg (cells m)) ∧ RowKit.Below w.heap.size w w' := by
  refine (plain_of_vcs ⟨[toTimersC, toCountersC, toIntsC, toRealsC], []⟩ hmx Tryd.func11 rfl (by kernel_rfl) (args := [.agg (cells m)]) (by simp [Tryd.ntmps11]) w (· = .agg (cells m)) 1000 ?_).mono fun e w' ⟨v, h1, h2, h3⟩ => ⟨h2 ▸ h1, h3⟩
  simp (maxSteps := 4000000) -dsimp [-List.all_eq_true, -Array.all_eq_true, -Bool.exists_bool, -Bool.forall_bool, and_assoc, List.zipIdx, Tryd.f11, toTimersC, toCountersC, toIntsC, toRealsC]
def toMemC : Con Tryd.prog := Con.pure 11 Tryd.call11 (fun (m : ((M))) => [.agg (cells m)]) (fun (m : ((M))) => True) (fun (m : ((M))) => .agg (cells m)) fun m w _ => toMemC_c m w

theorem i_succ {i : Nat} (h : i < 4611686018427387904) : IntKind.i64.wrap ((i : Int) + 1) = ((i + 1 : Nat) : Int) := by
  rw [wrap_i64 (by omega) (by omega)]; omega

end Go.Proofs.YtmlmmaojomghdaaDoor
