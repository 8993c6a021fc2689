/-
  The law of a memory that is written and read, walked.
-/
import Derived.Test.YtclbanhoiaieaaaGreatDoorVlvc
import Derived.Test.YtclbanhoiaieaaaGreatDoorVqvc
import Derived.Test.YtclbanhoiaieaaaGreatDoorVtvc
set_option linter.unusedVariables false
set_option linter.unusedSimpArgs false
set_option maxRecDepth 100000
set_option maxHeartbeats 4000000
namespace Go.Proofs.YtclbanhoiaieaaaGreatDoor
open Go Go.Sx
attribute [local simp] Sx.vcsE1 Sx.vcsE2 Sx.vcsE3 Sx.vcsE4 Sx.vcsE5 Sx.vcsE6 Sx.vcsE7 Sx.vcsE8 Sx.vcsE9 Sx.vcsE10 Sx.vcsE11 Sx.vcsE12 Sx.vcsE13 Sx.vcsE14 Sx.vcsE15 Sx.vcsE16 Sx.vcsE17 Sx.vcsE18 Sx.vcsE19 Sx.get Sx.look Sx.put Sx.pureFn Sx.findOrd Sx.unF Sx.dstOk Sx.isFloatT Sx.endVC Sx.resFn Sx.packC Sx.newFn Sx.storeFn Sx.buildFn Sx.known Sx.aggT Sx.cellsC Sx.findCon Sx.allV Sx.partsV Sx.partsC Sx.fillL Sx.exitTo Sx.fAr Sx.eqFn Sx.eqFieldsFn Sx.eqElemsFn Sx.partFn Sx.sliceFn Sx.boundFn Sx.AppV Sx.CopyV Sx.MakeSliceV Sx.NewsV Sx.GrowV Sx.TextV Sx.bytesL Sx.notInt Sx.typeAt Sx.argAt Sx.den Go.undef Go.Value.cells Go.Value.oneCell' Sx.Con.pure Sx.Con.some Sx.Con.read Sx.Con.make Sx.Con.ext Sx.Con.rel Sx.Con.extS Sx.Con.draw Sx.Con.step Sx.C.one Sx.Draws.steps

theorem lawMemBackC_c (o : Option Addr) (cap : Nat) (bs : List Int) (o2 : Option Addr) (cap2 : Nat) (cs : List Int) (w : World) (hpre : RdB (factF ⟨w, [], w, []⟩) o bs ∧ RdB (factF ⟨w, [], w, []⟩) o2 cs ∧ TR (factF ⟨w, [], w, []⟩) ∧ ((∀ b ∈ bs, 0 ≤ b ∧ b < 256) ∧ bs.length ≤ cap ∧ cap ≤ maxLen) ∧ ((∀ b ∈ cs, 0 ≤ b ∧ b < 256) ∧ cs.length ≤ cap2 ∧ cap2 ≤ maxLen)) : Calls Tryz.prog 4 #[.slice o bs.length cap, .slice o2 cs.length cap2] w fun e w' => e = .returned (.bool true) ∧ RowKit.Below w.heap.size w w' := by
  refine (plain_of_vcs ⟨[drawMemTextC, iMemTextC, iMemReadC, sMemSameC, drawMemReadC, sMemReadC], []⟩ hmx Tryz.func4 rfl (by kernel_rfl) (args := [.slice o bs.length cap, .slice o2 cs.length cap2]) (by simp [Tryz.ntmps4]) w (· = .bool true) 600 ?_).mono fun e w' ⟨v, h1, h2, h3⟩ => ⟨h2 ▸ h1, h3⟩
  obtain ⟨h, h2, ht, hb, hb2⟩ := hpre
  by_cases hs : 1048576 < bs.length
  · have hs1 : (1048576 : Int) < bs.length := by omega
    simp (maxSteps := 4000000) -dsimp [-List.all_eq_true, -Array.all_eq_true, -Bool.exists_bool, -Bool.forall_bool, and_assoc, List.zipIdx, Tryz.f4, drawMemTextC, iMemTextC, iMemReadC, sMemSameC, drawMemReadC, sMemReadC, hs1]
  have hs1 : ¬ (1048576 : Int) < bs.length := by omega
  by_cases hs2 : 1048576 < cs.length
  · have hs3 : (1048576 : Int) < cs.length := by omega
    simp (maxSteps := 4000000) -dsimp [-List.all_eq_true, -Array.all_eq_true, -Bool.exists_bool, -Bool.forall_bool, and_assoc, List.zipIdx, Tryz.f4, drawMemTextC, iMemTextC, iMemReadC, sMemSameC, drawMemReadC, sMemReadC, hs1, hs3]
  have hs3 : ¬ (1048576 : Int) < cs.length := by omega
  simp (maxSteps := 4000000) -dsimp [-List.all_eq_true, -Array.all_eq_true, -Bool.exists_bool, -Bool.forall_bool, and_assoc, List.zipIdx, Tryz.f4, drawMemTextC, iMemTextC, iMemReadC, sMemSameC, drawMemReadC, sMemReadC, hs1, hs3, Con.gen]
  refine ⟨(o, cap, bs), rfl, ⟨h.mono (sub_now _ _), hb⟩, fun v hv => ?_⟩
  obtain ⟨m, rfl, hm⟩ := hv
  have t1 := fun (cx : Cx) (hle : Le ⟨w, [], w, []⟩ cx) (d : Nat) (mem : List Blk) (K : C → Prop) => iMemTextC_rw (m := m) (d := d) (cx := cx) (mem := mem) (K := K) ⟨(ht.mono (hle.fact.trans (sub_now _ _))).t, hm⟩
  have t1a := t1 _ (Le.refl _)
  have hsl := memL_short hm
  have hsl1 : ((memL m).length : Int) ≤ 6000 := by omega
  have hsl2 : ¬ (6000 : Int) < (memL m).length := by omega
  simp (maxSteps := 4000000) -dsimp [-List.all_eq_true, -Array.all_eq_true, -Bool.exists_bool, -Bool.forall_bool, and_assoc, List.zipIdx, Tryz.f4, drawMemTextC, iMemTextC, iMemReadC, sMemSameC, drawMemReadC, sMemReadC, t1a, hm, Con.gen]
  intro b0
  refine ⟨memL m, rfl, ⟨ht.mono (sub_now _ _), by omega⟩, fun v hv => ?_⟩
  obtain ⟨m2, ok2, rfl, hA⟩ := hv
  obtain ⟨rfl, hS⟩ := ReadsTo.back hm hA
  have hmo2 := hA.1
  have hq : msB m2 m = true := msB_iff.2 hS
  have hone : ∀ m : M, (cells m).all (C.one ∘ C.v) 0 136 = true := fun m => by kernel_rfl
  simp (maxSteps := 4000000) -dsimp [-List.all_eq_true, -Array.all_eq_true, -Bool.exists_bool, -Bool.forall_bool, and_assoc, List.zipIdx, Tryz.f4, drawMemTextC, iMemTextC, iMemReadC, sMemSameC, drawMemReadC, sMemReadC, hq, hm, hmo2, hsl1, hsl2, hone, Con.gen]
  intro b1
  refine drawMemReadC_at ⟨h2, hb2⟩ ?_
  rintro cx1 c mem1 ⟨hle1, rfl, t, rfl, htl⟩
  simp (maxSteps := 4000000) -dsimp [-List.all_eq_true, -Array.all_eq_true, -Bool.exists_bool, -Bool.forall_bool, and_assoc, List.zipIdx, Tryz.f4, drawMemTextC, iMemTextC, iMemReadC, sMemSameC, drawMemReadC, sMemReadC, Con.gen]
  refine ⟨t, rfl, ⟨ht.mono (hle1.fact.trans (sub_now _ _)), by omega⟩, fun v hv => ?_⟩
  obtain ⟨m3, ok3, rfl, hB⟩ := hv
  simp (maxSteps := 4000000) -dsimp [-List.all_eq_true, -Array.all_eq_true, -Bool.exists_bool, -Bool.forall_bool, and_assoc, List.zipIdx, Tryz.f4, drawMemTextC, iMemTextC, iMemReadC, sMemSameC, drawMemReadC, sMemReadC, hone, Con.gen]
  intro b2
  refine ⟨t, rfl, ⟨trivial, by omega⟩, fun v hv => ?_⟩
  obtain ⟨m4, ok4, rfl, hC⟩ := hv
  obtain ⟨rfl, hS2⟩ := hB.uniq hC
  cases ok3
  · simp (maxSteps := 4000000) -dsimp [-List.all_eq_true, -Array.all_eq_true, -Bool.exists_bool, -Bool.forall_bool, and_assoc, List.zipIdx, Tryz.f4, drawMemTextC, iMemTextC, iMemReadC, sMemSameC, drawMemReadC, sMemReadC, hone, Con.gen, hle1.w0, hle1.g0]
  · have hmo3 := hB.1
    have e3 := hB.2.1 rfl
    have t3 := fun (d : Nat) (mem : List Blk) (K : C → Prop) => iMemTextC_rw (m := m3) (d := d) (cx := cx1) (mem := mem) (K := K) ⟨(ht.mono (hle1.fact.trans (sub_now _ _))).t, hmo3⟩
    rw [e3] at t3
    simp (maxSteps := 4000000) -dsimp [-List.all_eq_true, -Array.all_eq_true, -Bool.exists_bool, -Bool.forall_bool, and_assoc, List.zipIdx, Tryz.f4, drawMemTextC, iMemTextC, iMemReadC, sMemSameC, drawMemReadC, sMemReadC, hone, t3, Con.gen, hle1.w0, hle1.g0]
end Go.Proofs.YtclbanhoiaieaaaGreatDoor
