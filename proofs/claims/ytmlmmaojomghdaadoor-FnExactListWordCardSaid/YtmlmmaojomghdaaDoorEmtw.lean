/-
  Contracts: which coils are ok, by the program.
-/
import Derived.Test.YtmlmmaojomghdaaDoorIntw
import Derived.Test.YtmlmmaojomghdaaDoorAtw
import Derived.Test.YtmlmmaojomghdaaDoorPtw
import Derived.Test.YtmlmmaojomghdaaDoorFactstw
import Derived.Test.YtmlmmaojomghdaaDoorVtw
set_option linter.unusedVariables false
set_option linter.unusedSimpArgs false
set_option maxRecDepth 100000
set_option maxHeartbeats 4000000
namespace Go.Proofs.YtmlmmaojomghdaaDoor
open Go Go.Sx
open List renaming all_eq_true → Y1, zipIdx → Y5
open Bool renaming exists_bool → Y3, forall_bool → Y4
attribute [local simp] Sx.vcsE1 Sx.vcsE2 Sx.vcsE3 Sx.vcsE4 Sx.vcsE5 Sx.vcsE6 Sx.vcsE7 Sx.vcsE8 Sx.vcsE9 Sx.vcsE10 Sx.vcsE11 Sx.vcsE12 Sx.vcsE13 Sx.vcsE14 Sx.vcsE15 Sx.vcsE16 Sx.vcsE17 Sx.vcsE18 Sx.vcsE19 Sx.get Sx.look Sx.put Sx.pureFn Sx.findOrd Sx.unF Sx.dstOk Sx.isFloatT Sx.endVC Sx.resFn Sx.packC Sx.newFn Sx.storeFn Sx.buildFn Sx.known Sx.aggT Sx.cellsC Sx.findCon Sx.allV Sx.partsV Sx.partsC Sx.fillL Sx.exitTo Sx.fAr Sx.eqFn Sx.eqFieldsFn Sx.eqElemsFn Sx.partFn Sx.sliceFn Sx.boundFn Sx.AppV Sx.CopyV Sx.MakeSliceV Sx.NewsV Sx.GrowV Sx.TextV Sx.bytesL Sx.notInt Sx.typeAt Sx.argAt Sx.den Go.undef Go.Value.cells Go.Value.oneCell' Sx.Con.pure Sx.Con.some Sx.Con.read Sx.Con.make Sx.Con.ext Sx.Con.rel Sx.Con.extS Sx.Con.draw Sx.Con.step Sx.C.one Sx.Draws.steps

theorem isCodeC_c (c : Int) (w : World) : Calls Tryd.prog 26 #[.int .i64 c] w fun e w' => e = .returned (.bool (decide (1 ≤ c ∧ c ≤ 11))) ∧ RowKit.Below w.heap.size w w' := by
  refine (plain_of_vcs ⟨[withinC], []⟩ hmx Tryd.func26 rfl (by kernel_rfl) (args := [.int .i64 c]) (by simp [Tryd.ntmps26]) w (· = .bool (decide (1 ≤ c ∧ c ≤ 11))) 400 ?_).mono fun e w' ⟨v, h1, h2, h3⟩ => ⟨h2 ▸ h1, h3⟩
  simp (maxSteps := 4000000) -dsimp [-Y1, -Array.all_eq_true, -Y3, -Y4, and_assoc, Y5, Tryd.f26, withinC]
def isCodeC : Con Tryd.prog := Con.pure 26 Tryd.call26 (fun (c : ((Int))) => [.int .i64 c]) (fun (c : ((Int))) => True) (fun (c : ((Int))) => .bool (decide (1 ≤ c ∧ c ≤ 11))) fun c w _ => isCodeC_c c w
end Go.Proofs.YtmlmmaojomghdaaDoor
