/-
  Contracts: what the law of coils draws; a memory with what a coil may change taken from another one.
-/
import Derived.Test.YtclbanhoiaieaaaGreatDoorGeva
import Derived.Test.YtclbanhoiaieaaaGreatDoorDova
import Derived.Test.YtclbanhoiaieaaaGreatDoorHva
import Derived.Test.YtclbanhoiaieaaaGreatDoorInva
import Derived.Test.YtclbanhoiaieaaaGreatDoorVva
import Derived.Test.YtclbanhoiaieaaaGreatDoorIva
import Derived.Test.YtclbanhoiaieaaaGreatDoorSwva
import Derived.Test.YtclbanhoiaieaaaGreatDoorMcva
import Derived.Test.YtclbanhoiaieaaaGreatDoorAva
set_option linter.unusedVariables false
set_option linter.unusedSimpArgs false
set_option maxRecDepth 100000
set_option maxHeartbeats 4000000
namespace Go.Proofs.YtclbanhoiaieaaaGreatDoor
open Go Go.Sx
attribute [local simp] Sx.vcsE1 Sx.vcsE2 Sx.vcsE3 Sx.vcsE4 Sx.vcsE5 Sx.vcsE6 Sx.vcsE7 Sx.vcsE8 Sx.vcsE9 Sx.vcsE10 Sx.vcsE11 Sx.vcsE12 Sx.vcsE13 Sx.vcsE14 Sx.vcsE15 Sx.vcsE16 Sx.vcsE17 Sx.vcsE18 Sx.vcsE19 Sx.get Sx.look Sx.put Sx.pureFn Sx.findOrd Sx.unF Sx.dstOk Sx.isFloatT Sx.endVC Sx.resFn Sx.packC Sx.newFn Sx.storeFn Sx.buildFn Sx.known Sx.aggT Sx.cellsC Sx.findCon Sx.allV Sx.partsV Sx.partsC Sx.fillL Sx.exitTo Sx.fAr Sx.eqFn Sx.eqFieldsFn Sx.eqElemsFn Sx.partFn Sx.sliceFn Sx.boundFn Sx.AppV Sx.CopyV Sx.MakeSliceV Sx.NewsV Sx.GrowV Sx.TextV Sx.bytesL Sx.notInt Sx.typeAt Sx.argAt Sx.den Go.undef Go.Value.cells Go.Value.oneCell' Sx.Con.pure Sx.Con.some Sx.Con.read Sx.Con.make Sx.Con.ext Sx.Con.rel Sx.Con.extS Sx.Con.draw Sx.Con.step Sx.C.one Sx.Draws.steps



theorem open_is {cx : Cx} {mem : List Blk} {b : Nat} {o : Option Addr} {cap : Nat} {bs : List Int} (h : RdB (factF cx) o bs) (hb : ∀ b ∈ bs, 0 ≤ b ∧ b < 256) :
    (⟨mem.length, b, o, cap, bs.take 2000, 160⟩ : Rdr).Is (factF cx) (mem ++ [(⟨mem.length, b, o, cap, bs.take 2000, 160⟩ : Rdr).blk 0]) := by
  refine ⟨by simp, fun j x hx => ?_, fun x hx => hb x (List.mem_of_mem_take hx), by simp; omega⟩
  simp only [List.map_take] at hx
  rw [List.getElem?_take] at hx
  split at hx
  · exact h j x hx
  · simp at hx
theorem l10OpenC_c (o : Option Addr) (cap : Nat) (bs : List Int) (cx : Cx) (mem : List Blk) (w : World) (hpre : RdB (factF cx) o bs ∧ (∀ b ∈ bs, 0 ≤ b ∧ b < 256) ∧ bs.length ≤ cap ∧ cap ≤ maxLen) (hm : MemRel cx mem w) :
    Calls Tryz.prog 59 (([.v (.slice o bs.length cap)] : List C).map den).toArray w fun e w' => ∃ cx' c mem', e = .returned (den c) ∧ MemRel cx' mem' w' ∧ ∃ (R : Rdr) (mem0 : List Blk) (p0 : Int), c = .p R.k R.b 0 ∧ mem' = mem0.set R.k (R.blk p0) ∧ p0 = 0 ∧ R.Is (factF cx') mem0 ∧ R.ty = 160 ∧ Le cx cx' ∧ mem0.take mem.length = mem ∧ R.k = mem.length ∧ mem0.length = mem.length + 1 := by
  refine step_of_vcs ⟨[], []⟩ hmx Tryz.func59 rfl (by kernel_rfl) (args := [.v (.slice o bs.length cap)]) (by simp [Tryz.ntmps59]) hm (fun cx' c mem' => ∃ (R : Rdr) (mem0 : List Blk) (p0 : Int), c = .p R.k R.b 0 ∧ mem' = mem0.set R.k (R.blk p0) ∧ p0 = 0 ∧ R.Is (factF cx') mem0 ∧ R.ty = 160 ∧ Le cx cx' ∧ mem0.take mem.length = mem ∧ R.k = mem.length ∧ mem0.length = mem.length + 1) 400 ?_
  obtain ⟨h, hb, hc, hcm⟩ := hpre
  have hcm' : cap ≤ 9223372036854775807 := by unfold maxLen at hcm; omega
  by_cases h2 : 2000 < bs.length
  · have h2' : (2000 : Int) < bs.length := by omega
    have h3 : (2000 : Int) ≤ cap := by omega
    simp (maxSteps := 4000000) -dsimp [-List.all_eq_true, -Array.all_eq_true, -Bool.exists_bool, -Bool.forall_bool, and_assoc, List.zipIdx, Tryz.f59, h2', h3]
    intro b
    refine EndK.all ⟨⟨mem.length, b, o, cap, bs.take 2000, 160⟩, _, 0, rfl, ?_, rfl, open_is h hb, rfl, Le.refl _, by simp, rfl, by simp⟩
    simp [Rdr.blk]
    omega
  · have h2' : ¬ (2000 : Int) < bs.length := by omega
    simp (maxSteps := 4000000) -dsimp [-List.all_eq_true, -Array.all_eq_true, -Bool.exists_bool, -Bool.forall_bool, and_assoc, List.zipIdx, Tryz.f59, h2']
    intro b
    refine EndK.all ⟨⟨mem.length, b, o, cap, bs.take 2000, 160⟩, _, 0, rfl, ?_, rfl, open_is h hb, rfl, Le.refl _, by simp, rfl, by simp⟩
    simp [Rdr.blk]
    omega
def l10OpenC_S : Gens Tryz.prog 59 where
  ι := ((Option Addr) × (Nat) × (List Int))
  A := fun (i : ((Option Addr) × (Nat) × (List Int))) => match i with | (o, cap, bs) => [.v (.slice o bs.length cap)]
  pre := fun (i : ((Option Addr) × (Nat) × (List Int))) (cx : Cx) (mem : List Blk) => match i with | (o, cap, bs) => RdB (factF cx) o bs ∧ (∀ b ∈ bs, 0 ≤ b ∧ b < 256) ∧ bs.length ≤ cap ∧ cap ≤ maxLen
  post := fun (i : ((Option Addr) × (Nat) × (List Int))) (cx : Cx) (mem : List Blk) (cx' : Cx) (c : C) (mem' : List Blk) => match i with | (o, cap, bs) => ∃ (R : Rdr) (mem0 : List Blk) (p0 : Int), c = .p R.k R.b 0 ∧ mem' = mem0.set R.k (R.blk p0) ∧ p0 = 0 ∧ R.Is (factF cx') mem0 ∧ R.ty = 160 ∧ Le cx cx' ∧ mem0.take mem.length = mem ∧ R.k = mem.length ∧ mem0.length = mem.length + 1
  enter := Tryz.call59
  h := fun i cx mem w hp hm => l10OpenC_c i.1 i.2.1 i.2.2 cx mem w hp hm
def l10OpenC : Con Tryz.prog := Con.gen l10OpenC_S
theorem l10OpenC_at {o : Option Addr} {cap : Nat} {bs : List Int} {d : Nat} {cx : Cx} {mem : List Blk} {K : Cx → C → List Blk → Prop} (hpre : RdB (factF cx) o bs ∧ (∀ b ∈ bs, 0 ≤ b ∧ b < 256) ∧ bs.length ≤ cap ∧ cap ≤ maxLen) (h : ∀ cx' c mem', (∃ (R : Rdr) (mem0 : List Blk) (p0 : Int), c = .p R.k R.b 0 ∧ mem' = mem0.set R.k (R.blk p0) ∧ p0 = 0 ∧ R.Is (factF cx') mem0 ∧ R.ty = 160 ∧ Le cx cx' ∧ mem0.take mem.length = mem ∧ R.k = mem.length ∧ mem0.length = mem.length + 1) → K cx' c mem') : GenV d l10OpenC_S cx [.v (.slice o bs.length cap)] mem K := ⟨(o, cap, bs), rfl, hpre, h⟩
theorem take_get {mem0 mem : List Blk} {n : Nat} (h : mem0.take n = mem) (k : Nat) (hk : k < mem.length) : mem0[k]? = some (mem[k]'hk) := by
  subst h
  rw [List.length_take] at hk
  simp [show k < n by omega, show k < mem0.length by omega]
end Go.Proofs.YtclbanhoiaieaaaGreatDoor
namespace Go.Proofs.YtclbanhoiaieaaaGreatDoor
open Go Go.Sx

end Go.Proofs.YtclbanhoiaieaaaGreatDoor
namespace Go.Proofs.YtclbanhoiaieaaaGreatDoor
open Go Go.Sx

end Go.Proofs.YtclbanhoiaieaaaGreatDoor
