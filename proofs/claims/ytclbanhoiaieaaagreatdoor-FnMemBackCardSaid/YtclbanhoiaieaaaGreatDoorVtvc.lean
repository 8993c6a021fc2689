/-
  Draws of a memory and of a memory's text.
-/
import Derived.Test.YtclbanhoiaieaaaGreatDoorTtvc
import Derived.Test.YtclbanhoiaieaaaGreatDoorUdvc
import Derived.Test.YtclbanhoiaieaaaGreatDoorVhvc
set_option linter.unusedVariables false
set_option linter.unusedSimpArgs false
set_option maxRecDepth 100000
set_option maxHeartbeats 4000000
namespace Go.Proofs.YtclbanhoiaieaaaGreatDoor
open Go Go.Sx
attribute [local simp] Sx.vcsE1 Sx.vcsE2 Sx.vcsE3 Sx.vcsE4 Sx.vcsE5 Sx.vcsE6 Sx.vcsE7 Sx.vcsE8 Sx.vcsE9 Sx.vcsE10 Sx.vcsE11 Sx.vcsE12 Sx.vcsE13 Sx.vcsE14 Sx.vcsE15 Sx.vcsE16 Sx.vcsE17 Sx.vcsE18 Sx.vcsE19 Sx.get Sx.look Sx.put Sx.pureFn Sx.findOrd Sx.unF Sx.dstOk Sx.isFloatT Sx.endVC Sx.resFn Sx.packC Sx.newFn Sx.storeFn Sx.buildFn Sx.known Sx.aggT Sx.cellsC Sx.findCon Sx.allV Sx.partsV Sx.partsC Sx.fillL Sx.exitTo Sx.fAr Sx.eqFn Sx.eqFieldsFn Sx.eqElemsFn Sx.partFn Sx.sliceFn Sx.boundFn Sx.AppV Sx.CopyV Sx.MakeSliceV Sx.NewsV Sx.GrowV Sx.TextV Sx.bytesL Sx.notInt Sx.typeAt Sx.argAt Sx.den Go.undef Go.Value.cells Go.Value.oneCell' Sx.Con.pure Sx.Con.some Sx.Con.read Sx.Con.make Sx.Con.ext Sx.Con.rel Sx.Con.extS Sx.Con.draw Sx.Con.step Sx.C.one Sx.Draws.steps

theorem drawMemTextC_c (o : Option Addr) (cap : Nat) (bs : List Int) (w : World) (hpre : RdB (factF ⟨w, [], w, []⟩) o bs ∧ (∀ b ∈ bs, 0 ≤ b ∧ b < 256) ∧ bs.length ≤ cap ∧ cap ≤ maxLen) : Calls Tryz.prog 14 #[.slice o bs.length cap] w fun e w' => ∃ v, e = .returned v ∧ (fun v => ∃ m, v = .agg (cells m) ∧ MOk m) v ∧ RowKit.Below w.heap.size w w' := by
  refine plain_of_vcs ⟨[l10OpenC, l5DrawC], []⟩ hmx Tryz.func14 rfl (by kernel_rfl) (args := [.slice o bs.length cap]) (by simp [Tryz.ntmps14]) w (fun v => ∃ m, v = .agg (cells m) ∧ MOk m) 400 ?_
  simp (maxSteps := 4000000) -dsimp [-List.all_eq_true, -Array.all_eq_true, -Bool.exists_bool, -Bool.forall_bool, and_assoc, List.zipIdx, Tryz.f14, l10OpenC, l5DrawC, Con.gen]
  intro b
  refine l10OpenC_at hpre ?_
  rintro cx1 c mem1 ⟨R, mem0, p, rfl, rfl, hp, hR, hty, hle1, h1, h2, h3⟩
  have hk0 := take_get h1 0 (by simp)
  simp at hk0 h2 h3
  have hj0 := (List.getElem?_eq_some_iff.1 hk0).2
  have hn0 : ¬ R.k = 0 := by omega
  have hlt := hR.lt
  have hle := Le.refl cx1
  have hw := hle1.w0
  have hg := hle1.g0
  have key : ∀ {cx' : Cx}, Le cx1 cx' → cx'.w0 = w ∧ cx'.g0 = [] := fun h => ⟨h.w0.trans hw, h.g0.trans hg⟩
  simp (maxSteps := 4000000) -dsimp [-List.all_eq_true, -Array.all_eq_true, -Bool.exists_bool, -Bool.forall_bool, and_assoc, List.zipIdx, Tryz.f14, l10OpenC, l5DrawC]
  (repeat' first
    | (with_reducible refine EndK.left ?_
       refine ⟨_, _, rfl, rfl, (by assumption), by omega, by omega, ?_⟩; skip; done)
    | (with_reducible refine EndK.all ?_
       refine ⟨_, _, rfl, rfl, (by assumption), by omega, by omega, ?_⟩; skip; done)
    | (with_reducible refine l5DrawC_at0 hR hty ?_ ?_ ?_ ?_
       · assumption
       · exact ⟨by omega, by omega⟩
       · trivial
       rintro cx' _ p' hle - hp1 hp2 ⟨dm, rfl, hdm⟩)
    | (with_reducible refine l5DrawC_at hR hty ?_ ?_ ?_ ?_
       · assumption
       · exact ⟨by omega, by omega⟩
       · trivial
       rintro cx' _ p' hle - hp1 hp2 ⟨dm, rfl, hdm⟩)
    | (with_reducible refine fun cx' q (hle' : Le _ cx') (hl : RdL _ q _) => ?_
       have hle := Le.trans (by assumption) hle'; (try simp [Sx.get, Sx.look, Sx.put, cellsC, Value.cells, den] at hl))
    | with_reducible refine And.intro ?_ ?_
    | with_reducible intro _
    | omega
    | simp (maxSteps := 4000000) -dsimp [-List.all_eq_true, -Array.all_eq_true, -Bool.exists_bool, -Bool.forall_bool, and_assoc, List.zipIdx, Tryz.f14, l10OpenC, l5DrawC, hlt, hk0, hj0, h3, hn0, List.getElem?_append, List.set_append, List.getElem?_set])
  all_goals first | exact (key (by assumption)).1 | exact (key (by assumption)).2 | exact ⟨_, rfl, by assumption⟩ | assumption
def drawMemTextC_S : Rels Tryz.prog 14 where
  ι := ((Option Addr) × (Nat) × (List Int))
  A := fun (i : ((Option Addr) × (Nat) × (List Int))) => match i with | (o, cap, bs) => [.slice o bs.length cap]
  pre := fun (i : ((Option Addr) × (Nat) × (List Int))) (F : Facts) => match i with | (o, cap, bs) => RdB F o bs ∧ (∀ b ∈ bs, 0 ≤ b ∧ b < 256) ∧ bs.length ≤ cap ∧ cap ≤ maxLen
  post := fun (i : ((Option Addr) × (Nat) × (List Int))) => match i with | (o, cap, bs) => fun v => ∃ m, v = .agg (cells m) ∧ MOk m
  mono := by
    intro i F G hs h
    first | exact h | exact h.mono hs | exact ⟨h.1.mono hs, h.2⟩ | exact ⟨h.1.mono hs, h.2.1.mono hs, h.2.2⟩ | exact ⟨h.1.mono hs, h.2.1.mono hs⟩ | exact ⟨h.1.mono hs, h.2.1.mono hs, h.2.2.1.mono hs, h.2.2.2⟩
  enter := Tryz.call14
  h := fun i w hp => drawMemTextC_c i.1 i.2.1 i.2.2 w (by rw [factF_init]; exact hp)
def drawMemTextC : Con Tryz.prog := Con.rel drawMemTextC_S
theorem drawMemReadC_c (o : Option Addr) (cap : Nat) (bs : List Int) (cx : Cx) (mem : List Blk) (w : World) (hpre : RdB (factF cx) o bs ∧ (∀ b ∈ bs, 0 ≤ b ∧ b < 256) ∧ bs.length ≤ cap ∧ cap ≤ maxLen) (hm : MemRel cx mem w) :
    Calls Tryz.prog 17 (([.v (.slice o bs.length cap)] : List C).map den).toArray w fun e w' => ∃ cx' c mem', e = .returned (den c) ∧ MemRel cx' mem' w' ∧ Le cx cx' ∧ mem' = mem ∧ ∃ s : Str, c = .v (.string (txt s)) ∧ List.length s ≤ 7000 := by
  refine step_of_vcs ⟨[l10OpenC, l5DrawC, sMemTextC, pickC, ofC], [(10, [(0, false), (1, false), (2, false), (3, false), (7, false), (8, false), (9, false), (4, false), (5, false), (6, false), (10, false), (11, false)])]⟩ hmx Tryz.func17 rfl (by kernel_rfl) (args := [.v (.slice o bs.length cap)]) (by simp [Tryz.ntmps17]) hm (fun cx' c mem' => Le cx cx' ∧ mem' = mem ∧ ∃ s : Str, c = .v (.string (txt s)) ∧ List.length s ≤ 7000) 400 ?_
  simp (maxSteps := 4000000) -dsimp [-List.all_eq_true, -Array.all_eq_true, -Bool.exists_bool, -Bool.forall_bool, and_assoc, List.zipIdx, Tryz.f17, l10OpenC, l5DrawC, sMemTextC, pickC, ofC, Con.gen]
  refine l10OpenC_at hpre ?_
  rintro cx1 c mem1 ⟨R, mem0, p, rfl, rfl, hp, hR, hty, hle1, h1, h2, h3⟩
  have hlt := hR.lt
  have hle := Le.refl cx1
  have fin : ∀ {cx' : Cx} {p' : Int} {s : Str}, Le cx1 cx' → s.length ≤ 7000 →
      EndK 2 (fun cx' c mem' => Le cx cx' ∧ mem' = mem ∧ ∃ s : Str, c = .v (.string (txt s)) ∧ List.length s ≤ 7000) cx' (.v (.string (txt s))) (mem0.set R.k (R.blk p')) := by
    intro cx' p' s g1 g2
    refine EndK.plain mem.length ⟨hle1.trans g1, ?_, s, rfl, g2⟩
    rw [List.take_set_of_le (by omega), h1]
  simp (maxSteps := 4000000) -dsimp [-List.all_eq_true, -Array.all_eq_true, -Bool.exists_bool, -Bool.forall_bool, and_assoc, List.zipIdx, Tryz.f17, l10OpenC, l5DrawC, sMemTextC, pickC, ofC, hlt]
  refine l5DrawC_at0 hR hty hle ⟨by omega, by omega⟩ trivial ?_
  rintro cx2 _ p2 hle2 - c1 c2 ⟨m, rfl, hm⟩
  have hsl := memL_short hm
  simp (maxSteps := 4000000) -dsimp [-List.all_eq_true, -Array.all_eq_true, -Bool.exists_bool, -Bool.forall_bool, and_assoc, List.zipIdx, Tryz.f17, l10OpenC, l5DrawC, sMemTextC, pickC, ofC, hlt, hm]
  generalize memL m = s at *
  refine pickC_at0 hR hty hle2 ⟨by omega, by omega⟩ (by omega) ?_
  rintro cx3 _ p3 hle3 l3 d1 d2 ⟨y, rfl, y0, y1⟩
  by_cases hy0 : y = 0
  · simp (maxSteps := 4000000) -dsimp [-List.all_eq_true, -Array.all_eq_true, -Bool.exists_bool, -Bool.forall_bool, and_assoc, List.zipIdx, Tryz.f17, l10OpenC, l5DrawC, sMemTextC, pickC, ofC, hlt, hy0]
    intro cx4 lit hle4 hlit
    refine ofC_lit0 hR hty (hle3.trans hle4) hlit rfl rfl ⟨by omega, by omega⟩ ⟨by decide, by decide, by decide⟩ ?_
    rintro cx5 _ p5 hle5 - c7 c8 ⟨x, rfl, hx⟩
    simp (maxSteps := 4000000) -dsimp [-List.all_eq_true, -Array.all_eq_true, -Bool.exists_bool, -Bool.forall_bool, and_assoc, List.zipIdx, Tryz.f17, l10OpenC, l5DrawC, sMemTextC, pickC, ofC, hlt]
    exact fin hle5 (by omega)
  by_cases hy1 : y = 1
  · simp (maxSteps := 4000000) -dsimp [-List.all_eq_true, -Array.all_eq_true, -Bool.exists_bool, -Bool.forall_bool, and_assoc, List.zipIdx, Tryz.f17, l10OpenC, l5DrawC, sMemTextC, pickC, ofC, hlt, hy1]
    intro cx4 lit hle4 hlit
    refine ofC_lit0 hR hty (hle3.trans hle4) hlit rfl rfl ⟨by omega, by omega⟩ ⟨by decide, by decide, by decide⟩ ?_
    rintro cx5 _ p5 hle5 - c7 c8 ⟨x, rfl, hx⟩
    simp (maxSteps := 4000000) -dsimp [-List.all_eq_true, -Array.all_eq_true, -Bool.exists_bool, -Bool.forall_bool, and_assoc, List.zipIdx, Tryz.f17, l10OpenC, l5DrawC, sMemTextC, pickC, ofC, hlt]
    refine ⟨by omega, ?_⟩
    exact fin hle5 (by simp; omega)
  by_cases hy2 : y = 2
  · subst hy2
    have hw : IntKind.i64.wrap ((s.length : Int) + 1) = s.length + 1 := wrap_i64 (by omega) (by omega)
    simp (maxSteps := 4000000) -dsimp [-List.all_eq_true, -Array.all_eq_true, -Bool.exists_bool, -Bool.forall_bool, and_assoc, List.zipIdx, Tryz.f17, l10OpenC, l5DrawC, sMemTextC, pickC, ofC, hlt, hw]
    refine pickC_at0 hR hty hle3 ⟨by omega, by omega⟩ (by omega) ?_
    rintro cx4 _ p4 hle4 l4 e1 e2 ⟨q, rfl, q0, q1⟩
    have hq : q ≤ s.length := by omega
    simp (maxSteps := 4000000) -dsimp [-List.all_eq_true, -Array.all_eq_true, -Bool.exists_bool, -Bool.forall_bool, and_assoc, List.zipIdx, Tryz.f17, l10OpenC, l5DrawC, sMemTextC, pickC, ofC, hlt, q0, hq]
    intro cx5 lit hle5 hlit
    refine ofC_lit0 hR hty (hle4.trans hle5) hlit rfl rfl ⟨by omega, by omega⟩ ⟨by decide, by decide, by decide⟩ ?_
    rintro cx6 _ p6 hle6 - c7 c8 ⟨x, rfl, hx⟩
    simp (maxSteps := 4000000) -dsimp [-List.all_eq_true, -Array.all_eq_true, -Bool.exists_bool, -Bool.forall_bool, and_assoc, List.zipIdx, Tryz.f17, l10OpenC, l5DrawC, sMemTextC, pickC, ofC, hlt, q0, hq]
    refine ⟨by omega, by omega, ?_⟩
    exact fin hle6 (by simp; omega)
  simp (maxSteps := 4000000) -dsimp [-List.all_eq_true, -Array.all_eq_true, -Bool.exists_bool, -Bool.forall_bool, and_assoc, List.zipIdx, Tryz.f17, l10OpenC, l5DrawC, sMemTextC, pickC, ofC, hlt, hy0, hy1, hy2]
  exact fin hle3 (by omega)
def drawMemReadC_S : Gens Tryz.prog 17 where
  ι := ((Option Addr) × (Nat) × (List Int))
  A := fun (i : ((Option Addr) × (Nat) × (List Int))) => match i with | (o, cap, bs) => [.v (.slice o bs.length cap)]
  pre := fun (i : ((Option Addr) × (Nat) × (List Int))) (cx : Cx) (mem : List Blk) => match i with | (o, cap, bs) => RdB (factF cx) o bs ∧ (∀ b ∈ bs, 0 ≤ b ∧ b < 256) ∧ bs.length ≤ cap ∧ cap ≤ maxLen
  post := fun (i : ((Option Addr) × (Nat) × (List Int))) (cx : Cx) (mem : List Blk) (cx' : Cx) (c : C) (mem' : List Blk) => match i with | (o, cap, bs) => Le cx cx' ∧ mem' = mem ∧ ∃ s : Str, c = .v (.string (txt s)) ∧ List.length s ≤ 7000
  enter := Tryz.call17
  h := fun i cx mem w hp hm => drawMemReadC_c i.1 i.2.1 i.2.2 cx mem w hp hm
def drawMemReadC : Con Tryz.prog := Con.gen drawMemReadC_S
theorem drawMemReadC_at {o : Option Addr} {cap : Nat} {bs : List Int} {d : Nat} {cx : Cx} {mem : List Blk} {K : Cx → C → List Blk → Prop} (hpre : RdB (factF cx) o bs ∧ (∀ b ∈ bs, 0 ≤ b ∧ b < 256) ∧ bs.length ≤ cap ∧ cap ≤ maxLen) (h : ∀ cx' c mem', (Le cx cx' ∧ mem' = mem ∧ ∃ s : Str, c = .v (.string (txt s)) ∧ List.length s ≤ 7000) → K cx' c mem') : GenV d drawMemReadC_S cx [.v (.slice o bs.length cap)] mem K := ⟨(o, cap, bs), rfl, hpre, h⟩
end Go.Proofs.YtclbanhoiaieaaaGreatDoor
