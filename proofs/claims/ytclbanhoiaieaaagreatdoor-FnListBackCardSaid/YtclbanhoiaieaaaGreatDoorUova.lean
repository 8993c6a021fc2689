/-
  Draws of lists of instructions.
-/
import Derived.Test.YtclbanhoiaieaaaGreatDoorGkva
import Derived.Test.YtclbanhoiaieaaaGreatDoorGova
set_option linter.unusedVariables false
set_option linter.unusedSimpArgs false
set_option maxRecDepth 100000
set_option maxHeartbeats 4000000
namespace Go.Proofs.YtclbanhoiaieaaaGreatDoor
open Go Go.Sx
attribute [local simp] Sx.vcsE1 Sx.vcsE2 Sx.vcsE3 Sx.vcsE4 Sx.vcsE5 Sx.vcsE6 Sx.vcsE7 Sx.vcsE8 Sx.vcsE9 Sx.vcsE10 Sx.vcsE11 Sx.vcsE12 Sx.vcsE13 Sx.vcsE14 Sx.vcsE15 Sx.vcsE16 Sx.vcsE17 Sx.vcsE18 Sx.vcsE19 Sx.get Sx.look Sx.put Sx.pureFn Sx.findOrd Sx.unF Sx.dstOk Sx.isFloatT Sx.endVC Sx.resFn Sx.packC Sx.newFn Sx.storeFn Sx.buildFn Sx.known Sx.aggT Sx.cellsC Sx.findCon Sx.allV Sx.partsV Sx.partsC Sx.fillL Sx.exitTo Sx.fAr Sx.eqFn Sx.eqFieldsFn Sx.eqElemsFn Sx.partFn Sx.sliceFn Sx.boundFn Sx.AppV Sx.CopyV Sx.MakeSliceV Sx.NewsV Sx.GrowV Sx.TextV Sx.bytesL Sx.notInt Sx.typeAt Sx.argAt Sx.den Go.undef Go.Value.cells Go.Value.oneCell' Sx.Con.pure Sx.Con.some Sx.Con.read Sx.Con.make Sx.Con.ext Sx.Con.rel Sx.Con.extS Sx.Con.draw Sx.Con.step Sx.C.one Sx.Draws.steps

theorem l7AnyLC_c  (R : Rdr) (p : Int) (cx : Cx) (mem : List Blk) (w : World) (hty : R.ty = 160) (hR : R.Is (factF cx) mem) (hp : 0 ≤ p) (hpc : p + 1100030000 ≤ 1125899906842624) (hpre : True) (hm : MemRel cx (mem.set R.k (R.blk p)) w) :
    Calls Tryz.prog 72 ((.p R.k R.b 0 :: [] : List C).map den).toArray w fun e w' => ∃ cx' x mem', e = .returned (den x) ∧ MemRel cx' mem' w' ∧ (fun cx' x mem' => ∃ v p', x = .v v ∧ mem' = mem.set R.k (R.blk p') ∧ Le cx cx' ∧ p ≤ p' ∧ p' ≤ p + 1100030000 ∧ (∃ ys, IsList (factF cx') v ys ∧ ys.length ≤ 7000 ∧ (∀ x ∈ ys, x.args.length ≤ 4))) cx' x mem' := by
  refine step_of_vcs ⟨[l7SureC, pickC, l7SpoilC], []⟩ hmx Tryz.func72 rfl (by kernel_rfl) (args := .p R.k R.b 0 :: []) (by simp [Tryz.ntmps72]) hm (fun cx' x mem' => ∃ v p', x = .v v ∧ mem' = mem.set R.k (R.blk p') ∧ Le cx cx' ∧ p ≤ p' ∧ p' ≤ p + 1100030000 ∧ (∃ ys, IsList (factF cx') v ys ∧ ys.length ≤ 7000 ∧ (∀ x ∈ ys, x.args.length ≤ 4))) 400 ?_
  have hlt := hR.lt
  simp (maxSteps := 4000000) -dsimp [-List.all_eq_true, -Array.all_eq_true, -Bool.exists_bool, -Bool.forall_bool, and_assoc, List.zipIdx, Tryz.f72, l7SureC, pickC, l7SpoilC, hlt]
  refine l7SureC_at0 hR hty (Le.refl cx) ⟨by omega, by omega⟩ trivial ?_
  rintro cx1 _ p1 hle1 - q1 q2 ⟨xs, hL, hxl, hxa⟩
  obtain ⟨o, cap, rfl, hd, g1, g2⟩ := hL.ex
  simp (maxSteps := 4000000) -dsimp [-List.all_eq_true, -Array.all_eq_true, -Bool.exists_bool, -Bool.forall_bool, and_assoc, List.zipIdx, Tryz.f72, l7SureC, pickC, l7SpoilC, hlt]
  refine pickC_at0 hR hty hle1 ⟨by omega, by omega⟩ (by omega) ?_
  rintro cx2 _ p2 hle2 hs2 q3 q4 ⟨y, rfl, y1, y2⟩
  by_cases y0 : y = 0
  · subst y0
    simp (maxSteps := 4000000) -dsimp [-List.all_eq_true, -Array.all_eq_true, -Bool.exists_bool, -Bool.forall_bool, and_assoc, List.zipIdx, Tryz.f72, l7SureC, pickC, l7SpoilC, hlt]
    refine l7SpoilC_at0 (L := 5000) (A := 3) hR hty hle2 ⟨by omega, by omega⟩ ⟨hd.mono hs2.fact, hxl, hxa, by decide, by decide, by decide⟩ ?_
    rintro cx3 _ p3 hle3 - q5 q6 ⟨ys, hL3, hyl, hya⟩
    obtain ⟨o3, cap3, rfl, hd3, g3, g4⟩ := hL3.ex
    simp (maxSteps := 4000000) -dsimp [-List.all_eq_true, -Array.all_eq_true, -Bool.exists_bool, -Bool.forall_bool, and_assoc, List.zipIdx, Tryz.f72, l7SureC, pickC, l7SpoilC, hlt]
    exact EndK.all ⟨_, _, rfl, rfl, hle3, by omega, by omega, ys, ⟨o3, cap3, rfl, hd3, g3, g4⟩, hyl, hya⟩
  · simp (maxSteps := 4000000) -dsimp [-List.all_eq_true, -Array.all_eq_true, -Bool.exists_bool, -Bool.forall_bool, and_assoc, List.zipIdx, Tryz.f72, l7SureC, pickC, l7SpoilC, hlt, y0]
    exact EndK.all ⟨_, _, rfl, rfl, hle2, by omega, by omega, xs, ⟨o, cap, rfl, hd.mono hs2.fact, g1, g2⟩, by omega, fun x hx => by have := hxa x hx; omega⟩
def l7AnyLC_S : Draws Tryz.prog 160 1100030000 72 where
  ι := Unit
  A := fun (_u : Unit) => []
  pre := fun (_u : Unit) (F : Facts) => True
  post := fun (_u : Unit) (v : Value) (F : Facts) => ∃ ys, IsList F v ys ∧ ys.length ≤ 7000 ∧ (∀ x ∈ ys, x.args.length ≤ 4)
  mono := fun _ _ _ _ _ => trivial
  enter := Tryz.call72
  h := fun _u R p cx mem w h1 h2 h3 h4 h5 h6 => l7AnyLC_c  R p cx mem w h1 h2 h3 h4 h5 h6
def l7AnyLC : Con Tryz.prog := Con.draw l7AnyLC_S
theorem l7AnyLC_at0  {d : Nat} {R : Rdr} {cx0 cx : Cx} {mem0 : List Blk} {K : Cx → C → List Blk → Prop} {p : Int} (hR : R.Is (factF cx0) mem0) (hty : R.ty = 160) (hle : Le cx0 cx) (hp : 0 ≤ p ∧ p + 1100030000 ≤ 1125899906842624) (hpre : True)
    (h : ∀ cx' v p', Le cx0 cx' → Le cx cx' → p ≤ p' → p' ≤ p + 1100030000 → (∃ ys, IsList (factF cx') v ys ∧ ys.length ≤ 7000 ∧ (∀ x ∈ ys, x.args.length ≤ 4)) → K cx' (.v v) (mem0.set R.k (R.blk p'))) :
    DrawV d l7AnyLC_S cx [.p R.k R.b 0] (mem0.set R.k (R.blk p)) K := DrawV.at0 (S := l7AnyLC_S) hR hty hle () hp hpre h
theorem drawListTextC_c (o : Option Addr) (cap : Nat) (bs : List Int) (cx : Cx) (mem : List Blk) (w : World) (hpre : RdB (factF cx) o bs ∧ (∀ b ∈ bs, 0 ≤ b ∧ b < 256) ∧ bs.length ≤ cap ∧ cap ≤ maxLen) (hm : MemRel cx mem w) :
    Calls Tryz.prog 34 (([.v (.slice o bs.length cap)] : List C).map den).toArray w fun e w' => ∃ cx' c mem', e = .returned (den c) ∧ MemRel cx' mem' w' ∧ Le cx cx' ∧ mem' = mem ∧ ∃ o1 cap1 ys, c = .v (.slice o1 (List.length ys) cap1) ∧ RdN (factF cx') o1 ys ∧ List.length ys ≤ cap1 ∧ cap1 ≤ maxLen ∧ List.length ys ≤ 7000 ∧ (∀ x ∈ ys, x.args.length ≤ 4) := by
  refine step_of_vcs ⟨[l10OpenC, l7AnyLC], []⟩ hmx Tryz.func34 rfl (by kernel_rfl) (args := [.v (.slice o bs.length cap)]) (by simp [Tryz.ntmps34]) hm (fun cx' c mem' => Le cx cx' ∧ mem' = mem ∧ ∃ o1 cap1 ys, c = .v (.slice o1 (List.length ys) cap1) ∧ RdN (factF cx') o1 ys ∧ List.length ys ≤ cap1 ∧ cap1 ≤ maxLen ∧ List.length ys ≤ 7000 ∧ (∀ x ∈ ys, x.args.length ≤ 4)) 400 ?_
  simp (maxSteps := 4000000) -dsimp [-List.all_eq_true, -Array.all_eq_true, -Bool.exists_bool, -Bool.forall_bool, and_assoc, List.zipIdx, Tryz.f34, l10OpenC, l7AnyLC, Con.gen]
  refine l10OpenC_at hpre ?_
  rintro cx1 c mem1 ⟨R, mem0, p, rfl, rfl, hp, hR, hty, hle1, h1, h2, h3⟩
  have hlt := hR.lt
  have hle := Le.refl cx1
  simp (maxSteps := 4000000) -dsimp [-List.all_eq_true, -Array.all_eq_true, -Bool.exists_bool, -Bool.forall_bool, and_assoc, List.zipIdx, Tryz.f34, l10OpenC, l7AnyLC, hlt]
  refine l7AnyLC_at0 hR hty hle ⟨by omega, by omega⟩ trivial ?_
  rintro cx2 _ p2 hle2 - c1 c2 ⟨ys, hL, hyl, hya⟩
  obtain ⟨o1, cap1, rfl, hd, g1, g2⟩ := hL.ex
  simp (maxSteps := 4000000) -dsimp [-List.all_eq_true, -Array.all_eq_true, -Bool.exists_bool, -Bool.forall_bool, and_assoc, List.zipIdx, Tryz.f34, l10OpenC, l7AnyLC, hlt]
  refine EndK.plain mem.length ⟨hle1.trans hle2, ?_, o1, cap1, ys, rfl, hd, g1, g2, hyl, hya⟩
  rw [List.take_set_of_le (by omega), h1]
def drawListTextC_S : Gens Tryz.prog 34 where
  ι := ((Option Addr) × (Nat) × (List Int))
  A := fun (i : ((Option Addr) × (Nat) × (List Int))) => match i with | (o, cap, bs) => [.v (.slice o bs.length cap)]
  pre := fun (i : ((Option Addr) × (Nat) × (List Int))) (cx : Cx) (mem : List Blk) => match i with | (o, cap, bs) => RdB (factF cx) o bs ∧ (∀ b ∈ bs, 0 ≤ b ∧ b < 256) ∧ bs.length ≤ cap ∧ cap ≤ maxLen
  post := fun (i : ((Option Addr) × (Nat) × (List Int))) (cx : Cx) (mem : List Blk) (cx' : Cx) (c : C) (mem' : List Blk) => match i with | (o, cap, bs) => Le cx cx' ∧ mem' = mem ∧ ∃ o1 cap1 ys, c = .v (.slice o1 (List.length ys) cap1) ∧ RdN (factF cx') o1 ys ∧ List.length ys ≤ cap1 ∧ cap1 ≤ maxLen ∧ List.length ys ≤ 7000 ∧ (∀ x ∈ ys, x.args.length ≤ 4)
  enter := Tryz.call34
  h := fun i cx mem w hp hm => drawListTextC_c i.1 i.2.1 i.2.2 cx mem w hp hm
def drawListTextC : Con Tryz.prog := Con.gen drawListTextC_S
theorem drawListTextC_at {o : Option Addr} {cap : Nat} {bs : List Int} {d : Nat} {cx : Cx} {mem : List Blk} {K : Cx → C → List Blk → Prop} (hpre : RdB (factF cx) o bs ∧ (∀ b ∈ bs, 0 ≤ b ∧ b < 256) ∧ bs.length ≤ cap ∧ cap ≤ maxLen) (h : ∀ cx' c mem', (Le cx cx' ∧ mem' = mem ∧ ∃ o1 cap1 ys, c = .v (.slice o1 (List.length ys) cap1) ∧ RdN (factF cx') o1 ys ∧ List.length ys ≤ cap1 ∧ cap1 ≤ maxLen ∧ List.length ys ≤ 7000 ∧ (∀ x ∈ ys, x.args.length ≤ 4)) → K cx' c mem') : GenV d drawListTextC_S cx [.v (.slice o bs.length cap)] mem K := ⟨(o, cap, bs), rfl, hpre, h⟩
end Go.Proofs.YtclbanhoiaieaaaGreatDoor
