/-
  Contracts: what is wrong with an instruction, by the program and by the reference.
-/
import Derived.Test.YtfhnbdlkiemaeaaGreatInmw
import Derived.Test.YtfhnbdlkiemaeaaGreatHmw
import Derived.Test.YtfhnbdlkiemaeaaGreatImw
import Derived.Test.YtfhnbdlkiemaeaaGreatEmmw
import Derived.Test.YtfhnbdlkiemaeaaGreatIlmw
import Derived.Test.YtfhnbdlkiemaeaaGreatSvmw
set_option linter.unusedVariables false
set_option linter.unusedSimpArgs false
set_option maxRecDepth 100000
set_option maxHeartbeats 4000000
namespace Go.Proofs.YtfhnbdlkiemaeaaGreat
open Go Go.Sx
open List renaming all_eq_true → Y1, zipIdx → Y5
open Bool renaming exists_bool → Y3, forall_bool → Y4
attribute [local simp] Go.Sx.vcsE1 Go.Sx.vcsE2 Go.Sx.vcsE3 Go.Sx.vcsE4 Go.Sx.vcsE5 Go.Sx.vcsE6 Go.Sx.vcsE7 Go.Sx.vcsE8 Go.Sx.vcsE9 Go.Sx.vcsE10 Go.Sx.vcsE11 Go.Sx.vcsE12 Go.Sx.vcsE13 Go.Sx.vcsE14 Go.Sx.vcsE15 Go.Sx.vcsE16 Go.Sx.vcsE17 Go.Sx.vcsE18 Go.Sx.vcsE19 Go.Sx.get Go.Sx.look Go.Sx.put Go.Sx.pureFn Go.Sx.findOrd Go.Sx.unF Go.Sx.dstOk Go.Sx.isFloatT Go.Sx.endVC Go.Sx.resFn Go.Sx.packC Go.Sx.newFn Go.Sx.storeFn Go.Sx.buildFn Go.Sx.known Go.Sx.aggT Go.Sx.cellsC Go.Sx.findCon Go.Sx.allV Go.Sx.partsV Go.Sx.partsC Go.Sx.fillL Go.Sx.exitTo Go.Sx.fAr Go.Sx.eqFn Go.Sx.eqFieldsFn Go.Sx.eqElemsFn Go.Sx.partFn Go.Sx.sliceFn Go.Sx.boundFn Go.Sx.AppV Go.Sx.CopyV Go.Sx.MakeSliceV Go.Sx.NewsV Go.Sx.GrowV Go.Sx.TextV Go.Sx.bytesL Go.Sx.notInt Go.Sx.typeAt Go.Sx.argAt Go.Sx.den Go.undef Go.Value.cells Go.Value.oneCell' Go.Sx.Con.pure Go.Sx.Con.some Go.Sx.Con.read Go.Sx.Con.make Go.Sx.Con.ext Go.Sx.Con.rel Go.Sx.Con.extS Go.Sx.Con.draw Go.Sx.Con.step Go.Sx.C.one Go.Sx.Draws.steps

end Go.Proofs.YtfhnbdlkiemaeaaGreat
namespace Go.Proofs.YtfhnbdlkiemaeaaGreat
open Go Go.Sx
open List renaming all_eq_true → Y1, zipIdx → Y5
open Bool renaming exists_bool → Y3, forall_bool → Y4
attribute [local simp] Go.Sx.vcsE1 Go.Sx.vcsE2 Go.Sx.vcsE3 Go.Sx.vcsE4 Go.Sx.vcsE5 Go.Sx.vcsE6 Go.Sx.vcsE7 Go.Sx.vcsE8 Go.Sx.vcsE9 Go.Sx.vcsE10 Go.Sx.vcsE11 Go.Sx.vcsE12 Go.Sx.vcsE13 Go.Sx.vcsE14 Go.Sx.vcsE15 Go.Sx.vcsE16 Go.Sx.vcsE17 Go.Sx.vcsE18 Go.Sx.vcsE19 Go.Sx.get Go.Sx.look Go.Sx.put Go.Sx.pureFn Go.Sx.findOrd Go.Sx.unF Go.Sx.dstOk Go.Sx.isFloatT Go.Sx.endVC Go.Sx.resFn Go.Sx.packC Go.Sx.newFn Go.Sx.storeFn Go.Sx.buildFn Go.Sx.known Go.Sx.aggT Go.Sx.cellsC Go.Sx.findCon Go.Sx.allV Go.Sx.partsV Go.Sx.partsC Go.Sx.fillL Go.Sx.exitTo Go.Sx.fAr Go.Sx.eqFn Go.Sx.eqFieldsFn Go.Sx.eqElemsFn Go.Sx.partFn Go.Sx.sliceFn Go.Sx.boundFn Go.Sx.AppV Go.Sx.CopyV Go.Sx.MakeSliceV Go.Sx.NewsV Go.Sx.GrowV Go.Sx.TextV Go.Sx.bytesL Go.Sx.notInt Go.Sx.typeAt Go.Sx.argAt Go.Sx.den Go.undef Go.Value.cells Go.Value.oneCell' Go.Sx.Con.pure Go.Sx.Con.some Go.Sx.Con.read Go.Sx.Con.make Go.Sx.Con.ext Go.Sx.Con.rel Go.Sx.Con.extS Go.Sx.Con.draw Go.Sx.Con.step Go.Sx.C.one Go.Sx.Draws.steps

theorem needsC_c (c : Int) (w : World) : Calls Tryz.prog 98 #[.int .i64 c] w fun e w' => e = .returned (.int .i64 (needsN c)) ∧ RowKit.Below w.heap.size w w' := by
  refine (plain_of_vcs ⟨[], []⟩ hmx Tryz.func98 rfl (by kernel_rfl) (args := [.int .i64 c]) (by simp [Tryz.ntmps98]) w (· = .int .i64 (needsN c)) 400 ?_).mono fun e w' ⟨v, h1, h2, h3⟩ => ⟨h2 ▸ h1, h3⟩
  by_cases h4 : c = 4
  · subst h4; simp (maxSteps := 4000000) -dsimp [-Y1, -Array.all_eq_true, -Y3, -Y4, and_assoc, Y5, Tryz.f98, needsN]
  by_cases h5 : c = 5
  · subst h5; simp (maxSteps := 4000000) -dsimp [-Y1, -Array.all_eq_true, -Y3, -Y4, and_assoc, Y5, Tryz.f98, needsN]
  by_cases h1 : c = 1
  · subst h1; simp (maxSteps := 4000000) -dsimp [-Y1, -Array.all_eq_true, -Y3, -Y4, and_assoc, Y5, Tryz.f98, needsN]
  · simp (maxSteps := 4000000) -dsimp [-Y1, -Array.all_eq_true, -Y3, -Y4, and_assoc, Y5, Tryz.f98, needsN, h1, h4, h5]
def needsC : Con Tryz.prog := Con.pure 98 Tryz.call98 (fun (c : ((Int))) => [.int .i64 c]) (fun (c : ((Int))) => True) (fun (c : ((Int))) => .int .i64 (needsN c)) fun c w _ => needsC_c c w
theorem sNeedsC_c (c : Int) (w : World) : Calls Tryz.prog 101 #[.int .i64 c] w fun e w' => e = .returned (.int .i64 (needsN c)) ∧ RowKit.Below w.heap.size w w' := by
  refine (plain_of_vcs ⟨[], []⟩ hmx Tryz.func101 rfl (by kernel_rfl) (args := [.int .i64 c]) (by simp [Tryz.ntmps101]) w (· = .int .i64 (needsN c)) 400 ?_).mono fun e w' ⟨v, h1, h2, h3⟩ => ⟨h2 ▸ h1, h3⟩
  by_cases h4 : c = 4
  · subst h4; simp (maxSteps := 4000000) -dsimp [-Y1, -Array.all_eq_true, -Y3, -Y4, and_assoc, Y5, Tryz.f101, needsN]
  by_cases h5 : c = 5
  · subst h5; simp (maxSteps := 4000000) -dsimp [-Y1, -Array.all_eq_true, -Y3, -Y4, and_assoc, Y5, Tryz.f101, needsN]
  by_cases h1 : c = 1
  · subst h1; simp (maxSteps := 4000000) -dsimp [-Y1, -Array.all_eq_true, -Y3, -Y4, and_assoc, Y5, Tryz.f101, needsN]
  · simp (maxSteps := 4000000) -dsimp [-Y1, -Array.all_eq_true, -Y3, -Y4, and_assoc, Y5, Tryz.f101, needsN, h1, h4, h5]
def sNeedsC : Con Tryz.prog := Con.pure 101 Tryz.call101 (fun (c : ((Int))) => [.int .i64 c]) (fun (c : ((Int))) => True) (fun (c : ((Int))) => .int .i64 (needsN c)) fun c w _ => sNeedsC_c c w
end Go.Proofs.YtfhnbdlkiemaeaaGreat
