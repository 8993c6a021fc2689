/-
  Contracts: contacts and coils, instructions, lists as text, by the program.
-/
import Derived.Test.YtclbanhoiaieaaaGreatDoorTsvc
import Derived.Test.YtclbanhoiaieaaaGreatDoorTwvc
import Derived.Test.YtclbanhoiaieaaaGreatDoorIvc
import Derived.Test.YtclbanhoiaieaaaGreatDoorAvc
import Derived.Test.YtclbanhoiaieaaaGreatDoorTgvc
set_option linter.unusedVariables false
set_option linter.unusedSimpArgs false
set_option maxRecDepth 100000
set_option maxHeartbeats 4000000
namespace Go.Proofs.YtclbanhoiaieaaaGreatDoor
open Go Go.Sx
attribute [local simp] Sx.vcsE1 Sx.vcsE2 Sx.vcsE3 Sx.vcsE4 Sx.vcsE5 Sx.vcsE6 Sx.vcsE7 Sx.vcsE8 Sx.vcsE9 Sx.vcsE10 Sx.vcsE11 Sx.vcsE12 Sx.vcsE13 Sx.vcsE14 Sx.vcsE15 Sx.vcsE16 Sx.vcsE17 Sx.vcsE18 Sx.vcsE19 Sx.get Sx.look Sx.put Sx.pureFn Sx.findOrd Sx.unF Sx.dstOk Sx.isFloatT Sx.endVC Sx.resFn Sx.packC Sx.newFn Sx.storeFn Sx.buildFn Sx.known Sx.aggT Sx.cellsC Sx.findCon Sx.allV Sx.partsV Sx.partsC Sx.fillL Sx.exitTo Sx.fAr Sx.eqFn Sx.eqFieldsFn Sx.eqElemsFn Sx.partFn Sx.sliceFn Sx.boundFn Sx.AppV Sx.CopyV Sx.MakeSliceV Sx.NewsV Sx.GrowV Sx.TextV Sx.bytesL Sx.notInt Sx.typeAt Sx.argAt Sx.den Go.undef Go.Value.cells Go.Value.oneCell' Sx.Con.pure Sx.Con.some Sx.Con.read Sx.Con.make Sx.Con.ext Sx.Con.rel Sx.Con.extS Sx.Con.draw Sx.Con.step Sx.C.one Sx.Draws.steps

def words17 : List Str := [[111, 117, 116], [115, 101, 116], [114, 101, 115, 101, 116], [112, 117, 108, 115, 101], [115, 116, 101, 112], [116, 105, 109, 101, 114], [104, 111, 108, 100], [108, 97, 116, 101],
  [99, 111, 117, 110, 116], [109, 111, 118, 101], [97, 100, 100], [115, 117, 98], [109, 117, 108], [100, 105, 118], [114, 101, 109], [114, 101, 97, 108], [119, 104, 111, 108, 101]]
def TN (F : Facts) : Prop := RdL F (some ⟨0, 0, none⟩) (words17.map fun z => .string (txt z))
theorem TN.mono {F G : Facts} (h : TN F) (hs : Sub F G) : TN G := RdL.mono h hs


structure TC (F : Facts) : Prop where
  t : TT F
  n : TN F
theorem TC.mono {F G : Facts} (h : TC F) (hs : Sub F G) : TC G := ⟨h.t.mono hs, h.n.mono hs⟩
structure TL (F : Facts) : Prop where
  t : TT F
  n : TN F
  w : TW F
theorem TL.mono {F G : Facts} (h : TL F) (hs : Sub F G) : TL G := ⟨h.t.mono hs, h.n.mono hs, h.w.mono hs⟩
theorem TL.c {F : Facts} (h : TL F) : TC F := ⟨h.t, h.n⟩
def TB (ws : List Str) : List C := ws.map fun z => .v (.string (txt z))
theorem TB_len (ws : List Str) : (TB ws).length = ws.length := by simp [TB]
theorem TB_push (ws : List Str) (z : Str) (pad : List C) : TB ws ++ .v (.string (txt z)) :: pad = TB (ws ++ [z]) ++ pad := by simp [TB]
theorem TB_take (ws : List Str) (pad : List C) {n : Nat} (h : ws.length = n) : (TB ws ++ pad).take n = TB ws := by rw [← h, ← TB_len ws, List.take_left]
theorem TB_full {ws : List Str} {pad : List C} {cp n : Nat} (h : ws.length = n) (h1 : pad.length = cp - n) (h2 : n ≤ cp) : (TB ws ++ pad).length = cp * 1 := by rw [List.length_append, TB_len]; omega
end Go.Proofs.YtclbanhoiaieaaaGreatDoor
