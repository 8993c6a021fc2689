/-
  The law of exactness of MemRead, walked.
-/
import Derived.Test.YtclbanhoiaieaaaGreatDoorVlvc
import Derived.Test.YtclbanhoiaieaaaGreatDoorVqvc
import Derived.Test.YtclbanhoiaieaaaGreatDoorAvc
set_option linter.unusedVariables false
set_option linter.unusedSimpArgs false
set_option maxRecDepth 100000
set_option maxHeartbeats 4000000
namespace Go.Proofs.YtclbanhoiaieaaaGreatDoor
open Go Go.Sx
attribute [local simp] Sx.vcsE1 Sx.vcsE2 Sx.vcsE3 Sx.vcsE4 Sx.vcsE5 Sx.vcsE6 Sx.vcsE7 Sx.vcsE8 Sx.vcsE9 Sx.vcsE10 Sx.vcsE11 Sx.vcsE12 Sx.vcsE13 Sx.vcsE14 Sx.vcsE15 Sx.vcsE16 Sx.vcsE17 Sx.vcsE18 Sx.vcsE19 Sx.get Sx.look Sx.put Sx.pureFn Sx.findOrd Sx.unF Sx.dstOk Sx.isFloatT Sx.endVC Sx.resFn Sx.packC Sx.newFn Sx.storeFn Sx.buildFn Sx.known Sx.aggT Sx.cellsC Sx.findCon Sx.allV Sx.partsV Sx.partsC Sx.fillL Sx.exitTo Sx.fAr Sx.eqFn Sx.eqFieldsFn Sx.eqElemsFn Sx.partFn Sx.sliceFn Sx.boundFn Sx.AppV Sx.CopyV Sx.MakeSliceV Sx.NewsV Sx.GrowV Sx.TextV Sx.bytesL Sx.notInt Sx.typeAt Sx.argAt Sx.den Go.undef Go.Value.cells Go.Value.oneCell' Sx.Con.pure Sx.Con.some Sx.Con.read Sx.Con.make Sx.Con.ext Sx.Con.rel Sx.Con.extS Sx.Con.draw Sx.Con.step Sx.C.one Sx.Draws.steps

theorem lawMemReadC_c (t : Str) (w : World) (hpre : TR (factF ⟨w, [], w, []⟩) ∧ True) : Calls Tryz.prog 3 #[.string (txt t)] w fun e w' => e = .returned (.bool true) ∧ RowKit.Below w.heap.size w w' := by
  refine (plain_of_vcs ⟨[sMemReadC, iMemReadC, eqMemC], []⟩ hmx Tryz.func3 rfl (by kernel_rfl) (args := [.string (txt t)]) (by simp [Tryz.ntmps3]) w (· = .bool true) 500 ?_).mono fun e w' ⟨v, h1, h2, h3⟩ => ⟨h2 ▸ h1, h3⟩
  obtain ⟨ht, _⟩ := hpre
  by_cases hs : 1048576 < t.length
  · have hs1 : (1048576 : Int) < t.length := by omega
    simp (maxSteps := 4000000) -dsimp [-List.all_eq_true, -Array.all_eq_true, -Bool.exists_bool, -Bool.forall_bool, and_assoc, List.zipIdx, Tryz.f3, sMemReadC, iMemReadC, eqMemC, hs1]
  have hs1 : ¬ (1048576 : Int) < t.length := by omega
  have hs2 : t.length ≤ 1100000 := by omega
  simp (maxSteps := 4000000) -dsimp [-List.all_eq_true, -Array.all_eq_true, -Bool.exists_bool, -Bool.forall_bool, and_assoc, List.zipIdx, Tryz.f3, sMemReadC, iMemReadC, eqMemC, hs1, hs2]
  refine ⟨t, rfl, ⟨trivial, hs2⟩, ?_⟩
  rintro v ⟨m, ok, rfl, hA⟩
  simp (maxSteps := 4000000) -dsimp [-List.all_eq_true, -Array.all_eq_true, -Bool.exists_bool, -Bool.forall_bool, and_assoc, List.zipIdx, Tryz.f3, sMemReadC, iMemReadC, eqMemC]
  intro b0
  refine ⟨t, rfl, ⟨ht.mono (sub_now _ _), hs2⟩, ?_⟩
  rintro v ⟨m2, ok2, rfl, hB⟩
  obtain ⟨rfl, hS⟩ := hB.uniq hA
  have hO := hB.1
  simp (maxSteps := 4000000) -dsimp [-List.all_eq_true, -Array.all_eq_true, -Bool.exists_bool, -Bool.forall_bool, and_assoc, List.zipIdx, Tryz.f3, sMemReadC, iMemReadC, eqMemC, hS, hO]
end Go.Proofs.YtclbanhoiaieaaaGreatDoor
