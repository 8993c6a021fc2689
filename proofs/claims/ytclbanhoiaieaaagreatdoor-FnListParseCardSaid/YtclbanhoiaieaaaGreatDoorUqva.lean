/-
  Draws of texts of lists.
-/
import Derived.Test.YtclbanhoiaieaaaGreatDoorUrva
set_option linter.unusedVariables false
set_option linter.unusedSimpArgs false
set_option maxRecDepth 100000
set_option maxHeartbeats 4000000
namespace Go.Proofs.YtclbanhoiaieaaaGreatDoor
open Go Go.Sx
attribute [local simp] Sx.vcsE1 Sx.vcsE2 Sx.vcsE3 Sx.vcsE4 Sx.vcsE5 Sx.vcsE6 Sx.vcsE7 Sx.vcsE8 Sx.vcsE9 Sx.vcsE10 Sx.vcsE11 Sx.vcsE12 Sx.vcsE13 Sx.vcsE14 Sx.vcsE15 Sx.vcsE16 Sx.vcsE17 Sx.vcsE18 Sx.vcsE19 Sx.get Sx.look Sx.put Sx.pureFn Sx.findOrd Sx.unF Sx.dstOk Sx.isFloatT Sx.endVC Sx.resFn Sx.packC Sx.newFn Sx.storeFn Sx.buildFn Sx.known Sx.aggT Sx.cellsC Sx.findCon Sx.allV Sx.partsV Sx.partsC Sx.fillL Sx.exitTo Sx.fAr Sx.eqFn Sx.eqFieldsFn Sx.eqElemsFn Sx.partFn Sx.sliceFn Sx.boundFn Sx.AppV Sx.CopyV Sx.MakeSliceV Sx.NewsV Sx.GrowV Sx.TextV Sx.bytesL Sx.notInt Sx.typeAt Sx.argAt Sx.den Go.undef Go.Value.cells Go.Value.oneCell' Sx.Con.pure Sx.Con.some Sx.Con.read Sx.Con.make Sx.Con.ext Sx.Con.rel Sx.Con.extS Sx.Con.draw Sx.Con.step Sx.C.one Sx.Draws.steps

theorem drawListParseC_c (o : Option Addr) (cap : Nat) (bs : List Int) (cx : Cx) (mem : List Blk) (w : World) (hpre : RdB (factF cx) o bs ∧ (∀ b ∈ bs, 0 ≤ b ∧ b < 256) ∧ bs.length ≤ cap ∧ cap ≤ maxLen) (hm : MemRel cx mem w) :
    Calls Tryz.prog 18 (([.v (.slice o bs.length cap)] : List C).map den).toArray w fun e w' => ∃ cx' c mem', e = .returned (den c) ∧ MemRel cx' mem' w' ∧ Le cx cx' ∧ mem' = mem ∧ ∃ s : Str, c = .v (.string (txt s)) ∧ List.length s ≤ 700000 := by
  refine step_of_vcs ⟨[l10OpenC, l7AnyLC, sListTextC, pickC, manyC, numC, ofC], [(16, [(0, false), (1, false), (2, false), (3, false), (7, false), (8, false), (9, false), (4, false), (5, false), (6, false), (10, false), (11, false)])]⟩ hmx Tryz.func18 rfl (by kernel_rfl) (args := [.v (.slice o bs.length cap)]) (by simp [Tryz.ntmps18]) hm (fun cx' c mem' => Le cx cx' ∧ mem' = mem ∧ ∃ s : Str, c = .v (.string (txt s)) ∧ List.length s ≤ 700000) 400 ?_
  simp (maxSteps := 4000000) -dsimp [-List.all_eq_true, -Array.all_eq_true, -Bool.exists_bool, -Bool.forall_bool, and_assoc, List.zipIdx, Tryz.f18, l10OpenC, l7AnyLC, sListTextC, pickC, manyC, numC, ofC, Con.gen]
  refine l10OpenC_at hpre ?_
  rintro cx1 c mem1 ⟨R, mem0, p, rfl, rfl, hp, hR, hty, hle1, h1, h2, h3⟩
  have hlt := hR.lt
  have hle := Le.refl cx1
  have fin : ∀ {cx' : Cx} {p' : Int} {s : Str}, Le cx1 cx' → s.length ≤ 700000 →
      EndK 2 (fun cx' c mem' => Le cx cx' ∧ mem' = mem ∧ ∃ s : Str, c = .v (.string (txt s)) ∧ List.length s ≤ 700000) cx' (.v (.string (txt s))) (mem0.set R.k (R.blk p')) := by
    intro cx' p' s g1 g2
    refine EndK.plain mem.length ⟨hle1.trans g1, ?_, s, rfl, g2⟩
    rw [List.take_set_of_le (by omega), h1]
  simp (maxSteps := 4000000) -dsimp [-List.all_eq_true, -Array.all_eq_true, -Bool.exists_bool, -Bool.forall_bool, and_assoc, List.zipIdx, Tryz.f18, l10OpenC, l7AnyLC, sListTextC, pickC, manyC, numC, ofC, hlt]
  refine l7AnyLC_at0 hR hty hle ⟨by omega, by omega⟩ trivial ?_
  rintro cx2 _ p2 hle2 - c1 c2 ⟨ys, hL, hyl, hya⟩
  obtain ⟨o1, cap1, rfl, hd, g1, g2⟩ := hL.ex
  have t1 := fun (d : Nat) (mem : List Blk) (K : C → Prop) => sListTextC_rw (cap := cap1) (d := d) (cx := cx2) (mem := mem) (K := K) ⟨hd.mono (sub_now _ _), by omega, fun x hx => by have := hya x hx; omega⟩
  have hsl := list_short ys
  generalize listL ys = s at *
  simp (maxSteps := 4000000) -dsimp [-List.all_eq_true, -Array.all_eq_true, -Bool.exists_bool, -Bool.forall_bool, and_assoc, List.zipIdx, Tryz.f18, l10OpenC, l7AnyLC, sListTextC, pickC, manyC, numC, ofC, hlt, t1]
  refine pickC_at0 hR hty hle2 ⟨by omega, by omega⟩ (by omega) ?_
  rintro cx3 _ p3 hle3 l3 d1 d2 ⟨y, rfl, y0, y1⟩
  by_cases hy0 : y = 0
  · simp (maxSteps := 4000000) -dsimp [-List.all_eq_true, -Array.all_eq_true, -Bool.exists_bool, -Bool.forall_bool, and_assoc, List.zipIdx, Tryz.f18, l10OpenC, l7AnyLC, sListTextC, pickC, manyC, numC, ofC, hlt, hy0]
    refine pickC_at0 hR hty hle3 ⟨by omega, by omega⟩ (by omega) ?_
    rintro cx4 _ p4 hle4 l4 e1 e2 ⟨q, rfl, q0, q1⟩
    have hw1 : IntKind.i64.wrap (50000 - (s.length : Int)) = 50000 - s.length := wrap_i64 (by omega) (by omega)
    have hw2 : IntKind.i64.wrap (50000 - (s.length : Int) + q) = 50000 - s.length + q := wrap_i64 (by omega) (by omega)
    simp (maxSteps := 4000000) -dsimp [-List.all_eq_true, -Array.all_eq_true, -Bool.exists_bool, -Bool.forall_bool, and_assoc, List.zipIdx, Tryz.f18, l10OpenC, l7AnyLC, sListTextC, pickC, manyC, numC, ofC, hlt, hw1, hw2]
    refine ⟨[32], rfl, by decide, by omega, ?_⟩
    rintro v z rfl hz
    simp (maxSteps := 4000000) -dsimp [-List.all_eq_true, -Array.all_eq_true, -Bool.exists_bool, -Bool.forall_bool, and_assoc, List.zipIdx, Tryz.f18, l10OpenC, l7AnyLC, sListTextC, pickC, manyC, numC, ofC, hlt]
    refine ⟨by omega, ?_⟩
    exact fin hle4 (by simp; omega)
  by_cases hy1 : y = 1
  · simp (maxSteps := 4000000) -dsimp [-List.all_eq_true, -Array.all_eq_true, -Bool.exists_bool, -Bool.forall_bool, and_assoc, List.zipIdx, Tryz.f18, l10OpenC, l7AnyLC, sListTextC, pickC, manyC, numC, ofC, hlt, hy1]
    intro cx4 lit hle4 hlit
    refine numC_lit0 hR hty (hle3.trans hle4) hlit rfl rfl ⟨by omega, by omega⟩ (by decide) (by decide) ?_
    rintro cx5 _ p5 hle5 - c7 c8 ⟨x, rfl, hx⟩
    have hx2 : x ≤ 60000 := by
      have : ∀ y ∈ ([990, 999, 1000, 1001] : List Int), y ≤ 60000 := by decide
      exact this x hx
    simp (maxSteps := 4000000) -dsimp [-List.all_eq_true, -Array.all_eq_true, -Bool.exists_bool, -Bool.forall_bool, and_assoc, List.zipIdx, Tryz.f18, l10OpenC, l7AnyLC, sListTextC, pickC, manyC, numC, ofC, hlt]
    refine ⟨[105, 110, 118, 10], rfl, by decide, hx2, ?_⟩
    rintro v z rfl hz
    simp (maxSteps := 4000000) -dsimp [-List.all_eq_true, -Array.all_eq_true, -Bool.exists_bool, -Bool.forall_bool, and_assoc, List.zipIdx, Tryz.f18, l10OpenC, l7AnyLC, sListTextC, pickC, manyC, numC, ofC, hlt]
    refine ⟨by omega, ?_⟩
    exact fin hle5 (by simp; omega)
  have hy2 : ∀ z : Int, z = 2 ∨ z = 3 ∨ z = 4 → True := fun _ _ => trivial
  by_cases hy2 : y = 2 ∨ y = 3 ∨ y = 4
  · rcases hy2 with rfl | rfl | rfl
    all_goals
      simp (maxSteps := 4000000) -dsimp [-List.all_eq_true, -Array.all_eq_true, -Bool.exists_bool, -Bool.forall_bool, and_assoc, List.zipIdx, Tryz.f18, l10OpenC, l7AnyLC, sListTextC, pickC, manyC, numC, ofC, hlt]
      intro cx4 q hle4 hlit
      refine ofC_lit0 hR hty (hle3.trans hle4) hlit rfl rfl ⟨by omega, by omega⟩ ⟨by decide, by decide, by decide⟩ ?_
      rintro cx5 _ p5 hle5 - c7 c8 ⟨x, rfl, hx⟩
      simp (maxSteps := 4000000) -dsimp [-List.all_eq_true, -Array.all_eq_true, -Bool.exists_bool, -Bool.forall_bool, and_assoc, List.zipIdx, Tryz.f18, l10OpenC, l7AnyLC, sListTextC, pickC, manyC, numC, ofC, hlt, txt_eta]
      refine ⟨by omega, by omega, ?_⟩
      exact fin hle5 (by simp; omega)
  by_cases hy5 : y = 5 ∨ y = 6 ∨ y = 7
  · rcases hy5 with rfl | rfl | rfl
    all_goals
      have hw : IntKind.i64.wrap ((s.length : Int) + 1) = s.length + 1 := wrap_i64 (by omega) (by omega)
      simp (maxSteps := 4000000) -dsimp [-List.all_eq_true, -Array.all_eq_true, -Bool.exists_bool, -Bool.forall_bool, and_assoc, List.zipIdx, Tryz.f18, l10OpenC, l7AnyLC, sListTextC, pickC, manyC, numC, ofC, hlt, hw]
      refine pickC_at0 hR hty hle3 ⟨by omega, by omega⟩ (by omega) ?_
      rintro cx4 _ p4 hle4 l4 e1 e2 ⟨q, rfl, q0, q1⟩
      have hq : q ≤ s.length := by omega
      simp (maxSteps := 4000000) -dsimp [-List.all_eq_true, -Array.all_eq_true, -Bool.exists_bool, -Bool.forall_bool, and_assoc, List.zipIdx, Tryz.f18, l10OpenC, l7AnyLC, sListTextC, pickC, manyC, numC, ofC, hlt, q0, hq]
      intro cx5 lit hle5 hlit
      refine ofC_lit0 hR hty (hle4.trans hle5) hlit rfl rfl ⟨by omega, by omega⟩ ⟨by decide, by decide, by decide⟩ ?_
      rintro cx6 _ p6 hle6 - c7 c8 ⟨x, rfl, hx⟩
      simp (maxSteps := 4000000) -dsimp [-List.all_eq_true, -Array.all_eq_true, -Bool.exists_bool, -Bool.forall_bool, and_assoc, List.zipIdx, Tryz.f18, l10OpenC, l7AnyLC, sListTextC, pickC, manyC, numC, ofC, hlt, q0, hq]
      refine ⟨by omega, by omega, ?_⟩
      exact fin hle6 (by simp; omega)
  have q2 : ¬ y = 2 := fun e => hy2 (Or.inl e)
  have q3 : ¬ y = 3 := fun e => hy2 (Or.inr (Or.inl e))
  have q4 : ¬ y = 4 := fun e => hy2 (Or.inr (Or.inr e))
  have q5 : ¬ y = 5 := fun e => hy5 (Or.inl e)
  have q6 : ¬ y = 6 := fun e => hy5 (Or.inr (Or.inl e))
  have q7 : ¬ y = 7 := fun e => hy5 (Or.inr (Or.inr e))
  simp (maxSteps := 4000000) -dsimp [-List.all_eq_true, -Array.all_eq_true, -Bool.exists_bool, -Bool.forall_bool, and_assoc, List.zipIdx, Tryz.f18, l10OpenC, l7AnyLC, sListTextC, pickC, manyC, numC, ofC, hlt, hy0, hy1, q2, q3, q4, q5, q6, q7]
  exact fin hle3 (by omega)
def drawListParseC_S : Gens Tryz.prog 18 where
  ι := ((Option Addr) × (Nat) × (List Int))
  A := fun (i : ((Option Addr) × (Nat) × (List Int))) => match i with | (o, cap, bs) => [.v (.slice o bs.length cap)]
  pre := fun (i : ((Option Addr) × (Nat) × (List Int))) (cx : Cx) (mem : List Blk) => match i with | (o, cap, bs) => RdB (factF cx) o bs ∧ (∀ b ∈ bs, 0 ≤ b ∧ b < 256) ∧ bs.length ≤ cap ∧ cap ≤ maxLen
  post := fun (i : ((Option Addr) × (Nat) × (List Int))) (cx : Cx) (mem : List Blk) (cx' : Cx) (c : C) (mem' : List Blk) => match i with | (o, cap, bs) => Le cx cx' ∧ mem' = mem ∧ ∃ s : Str, c = .v (.string (txt s)) ∧ List.length s ≤ 700000
  enter := Tryz.call18
  h := fun i cx mem w hp hm => drawListParseC_c i.1 i.2.1 i.2.2 cx mem w hp hm
def drawListParseC : Con Tryz.prog := Con.gen drawListParseC_S
theorem drawListParseC_at {o : Option Addr} {cap : Nat} {bs : List Int} {d : Nat} {cx : Cx} {mem : List Blk} {K : Cx → C → List Blk → Prop} (hpre : RdB (factF cx) o bs ∧ (∀ b ∈ bs, 0 ≤ b ∧ b < 256) ∧ bs.length ≤ cap ∧ cap ≤ maxLen) (h : ∀ cx' c mem', (Le cx cx' ∧ mem' = mem ∧ ∃ s : Str, c = .v (.string (txt s)) ∧ List.length s ≤ 700000) → K cx' c mem') : GenV d drawListParseC_S cx [.v (.slice o bs.length cap)] mem K := ⟨(o, cap, bs), rfl, hpre, h⟩
end Go.Proofs.YtclbanhoiaieaaaGreatDoor
