/-
  Contracts: the words of instructions, by the program (out of its table) and by the reference.
-/
import Derived.Test.YtclbanhoiaieaaaGreatDoorTavc
import Derived.Test.YtclbanhoiaieaaaGreatDoorIvc
import Derived.Test.YtclbanhoiaieaaaGreatDoorAvc
set_option linter.unusedVariables false
set_option linter.unusedSimpArgs false
set_option maxRecDepth 100000
set_option maxHeartbeats 4000000
namespace Go.Proofs.YtclbanhoiaieaaaGreatDoor
open Go Go.Sx
attribute [local simp] Sx.vcsE1 Sx.vcsE2 Sx.vcsE3 Sx.vcsE4 Sx.vcsE5 Sx.vcsE6 Sx.vcsE7 Sx.vcsE8 Sx.vcsE9 Sx.vcsE10 Sx.vcsE11 Sx.vcsE12 Sx.vcsE13 Sx.vcsE14 Sx.vcsE15 Sx.vcsE16 Sx.vcsE17 Sx.vcsE18 Sx.vcsE19 Sx.get Sx.look Sx.put Sx.pureFn Sx.findOrd Sx.unF Sx.dstOk Sx.isFloatT Sx.endVC Sx.resFn Sx.packC Sx.newFn Sx.storeFn Sx.buildFn Sx.known Sx.aggT Sx.cellsC Sx.findCon Sx.allV Sx.partsV Sx.partsC Sx.fillL Sx.exitTo Sx.fAr Sx.eqFn Sx.eqFieldsFn Sx.eqElemsFn Sx.partFn Sx.sliceFn Sx.boundFn Sx.AppV Sx.CopyV Sx.MakeSliceV Sx.NewsV Sx.GrowV Sx.TextV Sx.bytesL Sx.notInt Sx.typeAt Sx.argAt Sx.den Go.undef Go.Value.cells Go.Value.oneCell' Sx.Con.pure Sx.Con.some Sx.Con.read Sx.Con.make Sx.Con.ext Sx.Con.rel Sx.Con.extS Sx.Con.draw Sx.Con.step Sx.C.one Sx.Draws.steps

def words11 : List Str := [[108, 100], [97, 110, 100], [111, 114], [97, 110, 98], [111, 114, 98], [105, 110, 118], [109, 112, 115], [109, 114, 100], [109, 112, 112], [99, 111, 105, 108], [101, 110, 100]]
def TW (F : Facts) : Prop := RdL F (some ⟨2, 0, none⟩) (words11.map fun z => .string (txt z))
theorem TW.mono {F G : Facts} (h : TW F) (hs : Sub F G) : TW G := RdL.mono h hs
end Go.Proofs.YtclbanhoiaieaaaGreatDoor
