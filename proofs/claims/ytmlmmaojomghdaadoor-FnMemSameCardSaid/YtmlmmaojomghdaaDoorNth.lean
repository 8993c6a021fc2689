/-
  Contracts: the real numbers of operands.
-/
import Derived.Test.YtmlmmaojomghdaaDoorHth
import Derived.Test.YtmlmmaojomghdaaDoorKth
import Derived.Laws.Externs
set_option linter.unusedVariables false
set_option linter.unusedSimpArgs false
set_option maxRecDepth 100000
set_option maxHeartbeats 4000000
namespace Go.Proofs.YtmlmmaojomghdaaDoor
open Go Go.Sx
attribute [local simp] Sx.vcsE1 Sx.vcsE2 Sx.vcsE3 Sx.vcsE4 Sx.vcsE5 Sx.vcsE6 Sx.vcsE7 Sx.vcsE8 Sx.vcsE9 Sx.vcsE10 Sx.vcsE11 Sx.vcsE12 Sx.vcsE13 Sx.vcsE14 Sx.vcsE15 Sx.vcsE16 Sx.vcsE17 Sx.vcsE18 Sx.vcsE19 Sx.get Sx.look Sx.put Sx.pureFn Sx.findOrd Sx.unF Sx.dstOk Sx.isFloatT Sx.endVC Sx.resFn Sx.packC Sx.newFn Sx.storeFn Sx.buildFn Sx.known Sx.aggT Sx.cellsC Sx.findCon Sx.allV Sx.partsV Sx.partsC Sx.fillL Sx.exitTo Sx.fAr Sx.eqFn Sx.eqFieldsFn Sx.eqElemsFn Sx.partFn Sx.sliceFn Sx.boundFn Sx.AppV Sx.CopyV Sx.MakeSliceV Sx.NewsV Sx.GrowV Sx.TextV Sx.bytesL Sx.notInt Sx.typeAt Sx.argAt Sx.den Go.undef Go.Value.cells Go.Value.oneCell' Sx.Con.pure Sx.Con.some Sx.Con.read Sx.Con.make Sx.Con.ext Sx.Con.rel Sx.Con.extS Sx.Con.draw Sx.Con.step Sx.C.one Sx.Draws.steps

theorem bits_run (b : Nat) (w : World) : (callFunc 74 #[.float .f64 b]).run Tryd.prog w = .ok (.value (.int .u64 b)) w := by
  rw [run_callFunc_extern (e := Extern.MathFloatBits.float64bits) Tryd.func74 (by kernel_rfl) (by kernel_rfl) (by kernel_rfl) (by kernel_rfl)]
  rfl
def bitsC : Con Tryd.prog := Con.ext 74 (fun n : Nat => [.float .f64 n]) (fun _ => True) (fun n => .int .u64 n) fun n w _ => bits_run n w

theorem div_zero : FloatKind.f64.format.div 0 0 = none := by kernel_rfl
theorem div_one : FloatKind.f64.format.div 4607182418800017408 0 = some 9218868437227405312 := by kernel_rfl
theorem l3NanC_c  (w : World) : Calls Tryd.prog 82 #[] w fun e w' => ∃ v, e = .returned v ∧ (fun v => ∃ r, v = .float .f64 r ∧ isNan r = true ∧ r < 18446744073709551616) v ∧ RowKit.Below w.heap.size w w' := by
  refine plain_of_vcs ⟨[], []⟩ hmx Tryd.func82 rfl (by kernel_rfl) (args := []) (by simp [Tryd.ntmps82]) w (fun v => ∃ r, v = .float .f64 r ∧ isNan r = true ∧ r < 18446744073709551616) 400 ?_
  simp (maxSteps := 4000000) -dsimp [-List.all_eq_true, -Array.all_eq_true, -Bool.exists_bool, -Bool.forall_bool, and_assoc, List.zipIdx, Tryd.f82]
  intro r hr
  rw [div_zero] at hr
  obtain ⟨t, rfl⟩ := hr
  exact nan_cut
def l3NanC : Con Tryd.prog := Con.some 82 Tryd.call82 (fun (_u : Unit) => []) (fun (_u : Unit) => True) (fun (_u : Unit) => fun v => ∃ r, v = .float .f64 r ∧ isNan r = true ∧ r < 18446744073709551616) fun _u w _ => l3NanC_c  w
theorem l3InfC_c  (w : World) : Calls Tryd.prog 83 #[] w fun e w' => e = .returned (.float .f64 9218868437227405312) ∧ RowKit.Below w.heap.size w w' := by
  refine (plain_of_vcs ⟨[], []⟩ hmx Tryd.func83 rfl (by kernel_rfl) (args := []) (by simp [Tryd.ntmps83]) w (· = .float .f64 9218868437227405312) 400 ?_).mono fun e w' ⟨v, h1, h2, h3⟩ => ⟨h2 ▸ h1, h3⟩
  simp (maxSteps := 4000000) -dsimp [-List.all_eq_true, -Array.all_eq_true, -Bool.exists_bool, -Bool.forall_bool, and_assoc, List.zipIdx, Tryd.f83]
  intro r hr
  rw [div_one] at hr
  exact hr
def l3InfC : Con Tryd.prog := Con.pure 83 Tryd.call83 (fun (_u : Unit) => []) (fun (_u : Unit) => True) (fun (_u : Unit) => .float .f64 9218868437227405312) fun _u w _ => l3InfC_c  w
end Go.Proofs.YtmlmmaojomghdaaDoor
