/-
  Contracts: which coils are ok, by the program.
-/
import Derived.Test.YtfhnbdlkiemaeaaGreatInmw
import Derived.Test.YtfhnbdlkiemaeaaGreatHmw
import Derived.Test.YtfhnbdlkiemaeaaGreatKimw
set_option linter.unusedVariables false
set_option linter.unusedSimpArgs false
set_option maxRecDepth 100000
set_option maxHeartbeats 4000000
namespace Go.Proofs.YtfhnbdlkiemaeaaGreat
open Go Go.Sx
open List renaming all_eq_true → Y1, zipIdx → Y5
open Bool renaming exists_bool → Y3, forall_bool → Y4
attribute [local simp] Go.Sx.vcsE1 Go.Sx.vcsE2 Go.Sx.vcsE3 Go.Sx.vcsE4 Go.Sx.vcsE5 Go.Sx.vcsE6 Go.Sx.vcsE7 Go.Sx.vcsE8 Go.Sx.vcsE9 Go.Sx.vcsE10 Go.Sx.vcsE11 Go.Sx.vcsE12 Go.Sx.vcsE13 Go.Sx.vcsE14 Go.Sx.vcsE15 Go.Sx.vcsE16 Go.Sx.vcsE17 Go.Sx.vcsE18 Go.Sx.vcsE19 Go.Sx.get Go.Sx.look Go.Sx.put Go.Sx.pureFn Go.Sx.findOrd Go.Sx.unF Go.Sx.dstOk Go.Sx.isFloatT Go.Sx.endVC Go.Sx.resFn Go.Sx.packC Go.Sx.newFn Go.Sx.storeFn Go.Sx.buildFn Go.Sx.known Go.Sx.aggT Go.Sx.cellsC Go.Sx.findCon Go.Sx.allV Go.Sx.partsV Go.Sx.partsC Go.Sx.fillL Go.Sx.exitTo Go.Sx.fAr Go.Sx.eqFn Go.Sx.eqFieldsFn Go.Sx.eqElemsFn Go.Sx.partFn Go.Sx.sliceFn Go.Sx.boundFn Go.Sx.AppV Go.Sx.CopyV Go.Sx.MakeSliceV Go.Sx.NewsV Go.Sx.GrowV Go.Sx.TextV Go.Sx.bytesL Go.Sx.notInt Go.Sx.typeAt Go.Sx.argAt Go.Sx.den Go.undef Go.Value.cells Go.Value.oneCell' Go.Sx.Con.pure Go.Sx.Con.some Go.Sx.Con.read Go.Sx.Con.make Go.Sx.Con.ext Go.Sx.Con.rel Go.Sx.Con.extS Go.Sx.Con.draw Go.Sx.Con.step Go.Sx.C.one Go.Sx.Draws.steps

theorem isCodeC_c (c : Int) (w : World) : Calls Tryz.prog 97 #[.int .i64 c] w fun e w' => e = .returned (.bool (decide (1 ≤ c ∧ c ≤ 11))) ∧ RowKit.Below w.heap.size w w' := by
  refine (plain_of_vcs ⟨[withinC], []⟩ hmx Tryz.func97 rfl (by kernel_rfl) (args := [.int .i64 c]) (by simp [Tryz.ntmps97]) w (· = .bool (decide (1 ≤ c ∧ c ≤ 11))) 400 ?_).mono fun e w' ⟨v, h1, h2, h3⟩ => ⟨h2 ▸ h1, h3⟩
  simp (maxSteps := 4000000) -dsimp [-Y1, -Array.all_eq_true, -Y3, -Y4, and_assoc, Y5, Tryz.f97, withinC]
def isCodeC : Con Tryz.prog := Con.pure 97 Tryz.call97 (fun (c : ((Int))) => [.int .i64 c]) (fun (c : ((Int))) => True) (fun (c : ((Int))) => .bool (decide (1 ≤ c ∧ c ≤ 11))) fun c w _ => isCodeC_c c w
end Go.Proofs.YtfhnbdlkiemaeaaGreat
