/-
  Contracts: operands of a contact or coil are copied, counted and compared.
-/
import Derived.Test.YtfhnbdlkiemaeaaGreatPpk
import Derived.Test.YtfhnbdlkiemaeaaGreatFactspk
import Derived.Test.YtfhnbdlkiemaeaaGreatKpk
set_option linter.unusedVariables false
set_option linter.unusedSimpArgs false
set_option maxRecDepth 100000
set_option maxHeartbeats 4000000
namespace Go.Proofs.YtfhnbdlkiemaeaaGreat
open Go Go.Sx
attribute [local simp] Go.Sx.vcsE1 Go.Sx.vcsE2 Go.Sx.vcsE3 Go.Sx.vcsE4 Go.Sx.vcsE5 Go.Sx.vcsE6 Go.Sx.vcsE7 Go.Sx.vcsE8 Go.Sx.vcsE9 Go.Sx.vcsE10 Go.Sx.vcsE11 Go.Sx.vcsE12 Go.Sx.vcsE13 Go.Sx.vcsE14 Go.Sx.vcsE15 Go.Sx.vcsE16 Go.Sx.vcsE17 Go.Sx.vcsE18 Go.Sx.vcsE19 Go.Sx.get Go.Sx.look Go.Sx.put Go.Sx.pureFn Go.Sx.findOrd Go.Sx.unF Go.Sx.dstOk Go.Sx.isFloatT Go.Sx.endVC Go.Sx.resFn Go.Sx.packC Go.Sx.newFn Go.Sx.storeFn Go.Sx.buildFn Go.Sx.known Go.Sx.aggT Go.Sx.cellsC Go.Sx.findCon Go.Sx.allV Go.Sx.partsV Go.Sx.partsC Go.Sx.fillL Go.Sx.exitTo Go.Sx.fAr Go.Sx.eqFn Go.Sx.eqFieldsFn Go.Sx.eqElemsFn Go.Sx.partFn Go.Sx.sliceFn Go.Sx.boundFn Go.Sx.AppV Go.Sx.CopyV Go.Sx.MakeSliceV Go.Sx.NewsV Go.Sx.GrowV Go.Sx.TextV Go.Sx.bytesL Go.Sx.notInt Go.Sx.typeAt Go.Sx.argAt Go.Sx.den Go.undef Go.Value.cells Go.Value.oneCell' Go.Sx.Con.pure Go.Sx.Con.some Go.Sx.Con.read Go.Sx.Con.make Go.Sx.Con.ext Go.Sx.Con.rel Go.Sx.Con.extS Go.Sx.Con.draw Go.Sx.Con.step Go.Sx.C.one Go.Sx.Draws.steps

end Go.Proofs.YtfhnbdlkiemaeaaGreat
namespace Go.Proofs.YtfhnbdlkiemaeaaGreat
open Go Go.Sx
attribute [local simp] Go.Sx.vcsE1 Go.Sx.vcsE2 Go.Sx.vcsE3 Go.Sx.vcsE4 Go.Sx.vcsE5 Go.Sx.vcsE6 Go.Sx.vcsE7 Go.Sx.vcsE8 Go.Sx.vcsE9 Go.Sx.vcsE10 Go.Sx.vcsE11 Go.Sx.vcsE12 Go.Sx.vcsE13 Go.Sx.vcsE14 Go.Sx.vcsE15 Go.Sx.vcsE16 Go.Sx.vcsE17 Go.Sx.vcsE18 Go.Sx.vcsE19 Go.Sx.get Go.Sx.look Go.Sx.put Go.Sx.pureFn Go.Sx.findOrd Go.Sx.unF Go.Sx.dstOk Go.Sx.isFloatT Go.Sx.endVC Go.Sx.resFn Go.Sx.packC Go.Sx.newFn Go.Sx.storeFn Go.Sx.buildFn Go.Sx.known Go.Sx.aggT Go.Sx.cellsC Go.Sx.findCon Go.Sx.allV Go.Sx.partsV Go.Sx.partsC Go.Sx.fillL Go.Sx.exitTo Go.Sx.fAr Go.Sx.eqFn Go.Sx.eqFieldsFn Go.Sx.eqElemsFn Go.Sx.partFn Go.Sx.sliceFn Go.Sx.boundFn Go.Sx.AppV Go.Sx.CopyV Go.Sx.MakeSliceV Go.Sx.NewsV Go.Sx.GrowV Go.Sx.TextV Go.Sx.bytesL Go.Sx.notInt Go.Sx.typeAt Go.Sx.argAt Go.Sx.den Go.undef Go.Value.cells Go.Value.oneCell' Go.Sx.Con.pure Go.Sx.Con.some Go.Sx.Con.read Go.Sx.Con.make Go.Sx.Con.ext Go.Sx.Con.rel Go.Sx.Con.extS Go.Sx.Con.draw Go.Sx.Con.step Go.Sx.C.one Go.Sx.Draws.steps

theorem i_succ {i : Nat} (h : i < 4611686018427387904) : IntKind.i64.wrap ((i : Int) + 1) = ((i + 1 : Nat) : Int) := by
  rw [wrap_i64 (by omega) (by omega)]; omega

end Go.Proofs.YtfhnbdlkiemaeaaGreat
