/-
  Draws of instructions, of two lists, and of texts of lists.
-/
import Derived.Test.YtglcclkifhjonaaGreatDoorUouw
import Derived.Test.YtglcclkifhjonaaGreatDoorTquw
import Derived.Test.YtglcclkifhjonaaGreatDoorGkuw
set_option linter.unusedVariables false
set_option linter.unusedSimpArgs false
set_option maxRecDepth 100000
set_option maxHeartbeats 4000000
namespace Go.Proofs.YtglcclkifhjonaaGreatDoor
open Go Go.Sx
attribute [local simp] Sx.vcsE1 Sx.vcsE2 Sx.vcsE3 Sx.vcsE4 Sx.vcsE5 Sx.vcsE6 Sx.vcsE7 Sx.vcsE8 Sx.vcsE9 Sx.vcsE10 Sx.vcsE11 Sx.vcsE12 Sx.vcsE13 Sx.vcsE14 Sx.vcsE15 Sx.vcsE16 Sx.vcsE17 Sx.vcsE18 Sx.vcsE19 Sx.get Sx.look Sx.put Sx.pureFn Sx.findOrd Sx.unF Sx.dstOk Sx.isFloatT Sx.endVC Sx.resFn Sx.packC Sx.newFn Sx.storeFn Sx.buildFn Sx.known Sx.aggT Sx.cellsC Sx.findCon Sx.allV Sx.partsV Sx.partsC Sx.fillL Sx.exitTo Sx.fAr Sx.eqFn Sx.eqFieldsFn Sx.eqElemsFn Sx.partFn Sx.sliceFn Sx.boundFn Sx.AppV Sx.CopyV Sx.MakeSliceV Sx.NewsV Sx.GrowV Sx.TextV Sx.bytesL Sx.notInt Sx.typeAt Sx.argAt Sx.den Go.undef Go.Value.cells Go.Value.oneCell' Sx.Con.pure Sx.Con.some Sx.Con.read Sx.Con.make Sx.Con.ext Sx.Con.rel Sx.Con.extS Sx.Con.draw Sx.Con.step Sx.C.one Sx.Draws.steps

theorem drawListLineC_c (o : Option Addr) (cap : Nat) (bs : List Int) (cx : Cx) (mem : List Blk) (w : World) (hpre : RdB (factF cx) o bs ∧ (∀ b ∈ bs, 0 ≤ b ∧ b < 256) ∧ bs.length ≤ cap ∧ cap ≤ maxLen) (hm : MemRel cx mem w) :
    Calls Tryz.prog 27 (([.v (.slice o bs.length cap)] : List C).map den).toArray w fun e w' => ∃ cx' c mem', e = .returned (den c) ∧ MemRel cx' mem' w' ∧ Le cx cx' ∧ mem' = mem ∧ ∃ code op o1 cap1 xs, c = .v (.agg #[.int .i64 code, .int .i64 op, .slice o1 (List.length xs) cap1]) ∧ RdD (factF cx') o1 xs ∧ List.length xs ≤ 4 ∧ List.length xs ≤ cap1 ∧ cap1 ≤ maxLen := by
  refine step_of_vcs ⟨[l10OpenC, l7InstC, pickC, l4AnyC], []⟩ hmx Tryz.func27 rfl (by kernel_rfl) (args := [.v (.slice o bs.length cap)]) (by simp [Tryz.ntmps27]) hm (fun cx' c mem' => Le cx cx' ∧ mem' = mem ∧ ∃ code op o1 cap1 xs, c = .v (.agg #[.int .i64 code, .int .i64 op, .slice o1 (List.length xs) cap1]) ∧ RdD (factF cx') o1 xs ∧ List.length xs ≤ 4 ∧ List.length xs ≤ cap1 ∧ cap1 ≤ maxLen) 400 ?_
  simp (maxSteps := 4000000) -dsimp [-List.all_eq_true, -Array.all_eq_true, -Bool.exists_bool, -Bool.forall_bool, and_assoc, List.zipIdx, Tryz.f27, l10OpenC, l7InstC, pickC, l4AnyC, Con.gen]
  intro b0
  refine l10OpenC_at hpre ?_
  rintro cx1 c mem1 ⟨R, mem0, p, rfl, rfl, hp, hR, hty, hle1, h1, h2, h3⟩
  have hk0 := take_get h1 mem.length (by simp)
  simp at hk0 h2 h3
  have hj0 := (List.getElem?_eq_some_iff.1 hk0).2
  have hn0 : ¬ R.k = mem.length := by omega
  have ht : mem0.take mem.length = mem := by
    have := congrArg (List.take mem.length) h1
    rw [List.take_take] at this
    simpa using this
  have hlt := hR.lt
  have a1 : mem.length < mem.length + 1 + 1 := by omega
  have hle := Le.refl cx1
  simp (maxSteps := 4000000) -dsimp [-List.all_eq_true, -Array.all_eq_true, -Bool.exists_bool, -Bool.forall_bool, and_assoc, List.zipIdx, Tryz.f27, l10OpenC, l7InstC, pickC, l4AnyC]
  refine l7InstC_at0 hR hty hle ⟨by omega, by omega⟩ trivial ?_
  rintro cx2 _ p2 hle2 - c1 c2 ⟨⟨code, op, xs⟩, ⟨⟨eo, ecap, rfl, hd, hc1, hc2⟩⟩, hxl⟩
  simp only at hd hc1 hc2 hxl
  simp (maxSteps := 4000000) -dsimp [-List.all_eq_true, -Array.all_eq_true, -Bool.exists_bool, -Bool.forall_bool, and_assoc, List.zipIdx, Tryz.f27, l10OpenC, l7InstC, pickC, l4AnyC, hlt, hk0, hj0, h3, hn0, a1, List.getElem?_append, List.set_append, List.getElem?_set]
  intro b1
  refine pickC_at hR hty hle2 ⟨by omega, by omega⟩ (by omega) ?_
  rintro cx3 _ p3 hle3 hs3 d1 d2 ⟨y, rfl, y0, y1⟩
  by_cases hy : y = 0
  · simp (maxSteps := 4000000) -dsimp [-List.all_eq_true, -Array.all_eq_true, -Bool.exists_bool, -Bool.forall_bool, and_assoc, List.zipIdx, Tryz.f27, l10OpenC, l7InstC, pickC, l4AnyC, hlt, hk0, hj0, h3, hn0, a1, List.getElem?_append, List.set_append, List.getElem?_set, hy]
    refine l4AnyC_at hR hty hle3 ⟨by omega, by omega⟩ trivial ?_
    rintro cx4 _ p4 hle4 - e1 e2 ⟨op2, ys, ⟨⟨fo, fcap, rfl, fd, fc1, fc2⟩⟩, fl⟩
    simp (maxSteps := 4000000) -dsimp [-List.all_eq_true, -Array.all_eq_true, -Bool.exists_bool, -Bool.forall_bool, and_assoc, List.zipIdx, Tryz.f27, l10OpenC, l7InstC, pickC, l4AnyC, hlt, hk0, hj0, h3, hn0, a1, List.getElem?_append, List.set_append, List.getElem?_set, hy]
    refine EndK.plain mem.length ⟨hle1.trans hle4, ?_, code, op2, fo, fcap, ys, rfl, fd, fl, fc1, fc2⟩
    rw [List.take_append_of_le_length (by simp; omega), List.take_set_of_le (by omega), List.take_set_of_le (by omega), ht]
  · simp (maxSteps := 4000000) -dsimp [-List.all_eq_true, -Array.all_eq_true, -Bool.exists_bool, -Bool.forall_bool, and_assoc, List.zipIdx, Tryz.f27, l10OpenC, l7InstC, pickC, l4AnyC, hlt, hk0, hj0, h3, hn0, a1, List.getElem?_append, List.set_append, List.getElem?_set, hy]
    refine EndK.plain mem.length ⟨hle1.trans hle3, ?_, code, op, eo, ecap, xs, rfl, hd.mono hs3.fact, by omega, hc1, hc2⟩
    rw [List.take_append_of_le_length (by simp; omega), List.take_set_of_le (by omega), List.take_set_of_le (by omega), ht]
def drawListLineC_S : Gens Tryz.prog 27 where
  ι := ((Option Addr) × (Nat) × (List Int))
  A := fun (i : ((Option Addr) × (Nat) × (List Int))) => match i with | (o, cap, bs) => [.v (.slice o bs.length cap)]
  pre := fun (i : ((Option Addr) × (Nat) × (List Int))) (cx : Cx) (mem : List Blk) => match i with | (o, cap, bs) => RdB (factF cx) o bs ∧ (∀ b ∈ bs, 0 ≤ b ∧ b < 256) ∧ bs.length ≤ cap ∧ cap ≤ maxLen
  post := fun (i : ((Option Addr) × (Nat) × (List Int))) (cx : Cx) (mem : List Blk) (cx' : Cx) (c : C) (mem' : List Blk) => match i with | (o, cap, bs) => Le cx cx' ∧ mem' = mem ∧ ∃ code op o1 cap1 xs, c = .v (.agg #[.int .i64 code, .int .i64 op, .slice o1 (List.length xs) cap1]) ∧ RdD (factF cx') o1 xs ∧ List.length xs ≤ 4 ∧ List.length xs ≤ cap1 ∧ cap1 ≤ maxLen
  enter := Tryz.call27
  h := fun i cx mem w hp hm => drawListLineC_c i.1 i.2.1 i.2.2 cx mem w hp hm
def drawListLineC : Con Tryz.prog := Con.gen drawListLineC_S
theorem drawListLineC_at {o : Option Addr} {cap : Nat} {bs : List Int} {d : Nat} {cx : Cx} {mem : List Blk} {K : Cx → C → List Blk → Prop} (hpre : RdB (factF cx) o bs ∧ (∀ b ∈ bs, 0 ≤ b ∧ b < 256) ∧ bs.length ≤ cap ∧ cap ≤ maxLen) (h : ∀ cx' c mem', (Le cx cx' ∧ mem' = mem ∧ ∃ code op o1 cap1 xs, c = .v (.agg #[.int .i64 code, .int .i64 op, .slice o1 (List.length xs) cap1]) ∧ RdD (factF cx') o1 xs ∧ List.length xs ≤ 4 ∧ List.length xs ≤ cap1 ∧ cap1 ≤ maxLen) → K cx' c mem') : GenV d drawListLineC_S cx [.v (.slice o bs.length cap)] mem K := ⟨(o, cap, bs), rfl, hpre, h⟩
theorem drawListSameC_c (o : Option Addr) (cap : Nat) (bs : List Int) (cx : Cx) (mem : List Blk) (w : World) (hpre : RdB (factF cx) o bs ∧ (∀ b ∈ bs, 0 ≤ b ∧ b < 256) ∧ bs.length ≤ cap ∧ cap ≤ maxLen) (hm : MemRel cx mem w) :
    Calls Tryz.prog 30 (([.v (.slice o bs.length cap)] : List C).map den).toArray w fun e w' => ∃ cx' c mem', e = .returned (den c) ∧ MemRel cx' mem' w' ∧ Le cx cx' ∧ mem' = mem ∧ ∃ o1 cap1 ys o2 cap2 zs, c = .v (.tuple #[.slice o1 (List.length ys) cap1, .slice o2 (List.length zs) cap2]) ∧ RdN (factF cx') o1 ys ∧ RdN (factF cx') o2 zs ∧ (List.length ys ≤ cap1 ∧ cap1 ≤ maxLen) ∧ (List.length zs ≤ cap2 ∧ cap2 ≤ maxLen) ∧ List.length ys ≤ 9000 ∧ List.length zs ≤ 9000 ∧ (∀ x ∈ ys, x.args.length ≤ 5) ∧ (∀ x ∈ zs, x.args.length ≤ 5) := by
  refine step_of_vcs ⟨[l10OpenC, l7AnyLC, pickC, l7SpoilC], []⟩ hmx Tryz.func30 rfl (by kernel_rfl) (args := [.v (.slice o bs.length cap)]) (by simp [Tryz.ntmps30]) hm (fun cx' c mem' => Le cx cx' ∧ mem' = mem ∧ ∃ o1 cap1 ys o2 cap2 zs, c = .v (.tuple #[.slice o1 (List.length ys) cap1, .slice o2 (List.length zs) cap2]) ∧ RdN (factF cx') o1 ys ∧ RdN (factF cx') o2 zs ∧ (List.length ys ≤ cap1 ∧ cap1 ≤ maxLen) ∧ (List.length zs ≤ cap2 ∧ cap2 ≤ maxLen) ∧ List.length ys ≤ 9000 ∧ List.length zs ≤ 9000 ∧ (∀ x ∈ ys, x.args.length ≤ 5) ∧ (∀ x ∈ zs, x.args.length ≤ 5)) 400 ?_
  simp (maxSteps := 4000000) -dsimp [-List.all_eq_true, -Array.all_eq_true, -Bool.exists_bool, -Bool.forall_bool, and_assoc, List.zipIdx, Tryz.f30, l10OpenC, l7AnyLC, pickC, l7SpoilC, Con.gen]
  refine l10OpenC_at hpre ?_
  rintro cx1 c mem1 ⟨R, mem0, p, rfl, rfl, hp, hR, hty, hle1, h1, h2, h3⟩
  have hlt := hR.lt
  have hle := Le.refl cx1
  simp (maxSteps := 4000000) -dsimp [-List.all_eq_true, -Array.all_eq_true, -Bool.exists_bool, -Bool.forall_bool, and_assoc, List.zipIdx, Tryz.f30, l10OpenC, l7AnyLC, pickC, l7SpoilC, hlt]
  refine l7AnyLC_at0 hR hty hle ⟨by omega, by omega⟩ trivial ?_
  rintro cx2 _ p2 hle2 - c1 c2 ⟨ys, hL, hyl, hya⟩
  obtain ⟨o1, cap1, rfl, hd, g1, g2⟩ := hL.ex
  simp (maxSteps := 4000000) -dsimp [-List.all_eq_true, -Array.all_eq_true, -Bool.exists_bool, -Bool.forall_bool, and_assoc, List.zipIdx, Tryz.f30, l10OpenC, l7AnyLC, pickC, l7SpoilC, hlt]
  refine pickC_at0 hR hty hle2 ⟨by omega, by omega⟩ (by omega) ?_
  rintro cx3 _ p3 hle3 hs3 d1 d2 ⟨y, rfl, y0, y1⟩
  have hd3 := hd.mono hs3.fact
  have hya5 : ∀ x ∈ ys, x.args.length ≤ 5 := fun x hx => by have := hya x hx; omega
  by_cases hy0 : y = 0
  · simp (maxSteps := 4000000) -dsimp [-List.all_eq_true, -Array.all_eq_true, -Bool.exists_bool, -Bool.forall_bool, and_assoc, List.zipIdx, Tryz.f30, l10OpenC, l7AnyLC, pickC, l7SpoilC, hlt, hy0]
    refine l7SpoilC_at0 (L := 7000) (A := 4) hR hty hle3 ⟨by omega, by omega⟩ ⟨hd3, hyl, hya, by decide, by decide, by decide⟩ ?_
    rintro cx4 _ p4 hle4 hs4 e1 e2 ⟨zs, hL4, hzl, hza⟩
    obtain ⟨o2, cap2, rfl, hd4, g3, g4⟩ := hL4.ex
    simp (maxSteps := 4000000) -dsimp [-List.all_eq_true, -Array.all_eq_true, -Bool.exists_bool, -Bool.forall_bool, and_assoc, List.zipIdx, Tryz.f30, l10OpenC, l7AnyLC, pickC, l7SpoilC, hlt]
    refine EndK.plain mem.length ⟨hle1.trans hle4, ?_, o1, cap1, ys, o2, cap2, zs, rfl, hd3.mono hs4.fact, hd4, ⟨g1, g2⟩, ⟨g3, g4⟩, by omega, by omega, hya5, hza⟩
    rw [List.take_set_of_le (by omega), h1]
  · obtain ⟨rows, r1, r2, r3⟩ := hd3.ex
    have hf : RdF (factF cx3) rows ys := ⟨by omega, r3⟩
    have hr3 := hf.len
    have h5 : ys.length ≤ maxLen := by unfold maxLen; omega
    have h6 : ys.length * 40 ≤ 140737488355328 := by omega
    simp (maxSteps := 4000000) -dsimp [-List.all_eq_true, -Array.all_eq_true, -Bool.exists_bool, -Bool.forall_bool, and_assoc, List.zipIdx, Tryz.f30, l10OpenC, l7AnyLC, pickC, l7SpoilC, hlt, hy0]
    intro b
    rw [RdO.sl (r1.mono (sub_now _ _)) (by decide) (by omega)]
    have h7 : rows.all ((fun x => x.all C.one) ∘ List.map C.v) = true := by simpa using one_rows hf
    unfold GrowV
    simp (maxSteps := 4000000) -dsimp [-List.all_eq_true, -Array.all_eq_true, -Bool.exists_bool, -Bool.forall_bool, and_assoc, List.zipIdx, Tryz.f30, l10OpenC, l7AnyLC, pickC, l7SpoilC, hlt, h7, h5, h6, rowsC_fold]
    intro b' cap' pad m1 m2 m3
    have e : mem0.set R.k (R.blk p3) ++ [⟨b', rowsC rows pad, 56⟩] = mem ++ ((mem0.set R.k (R.blk p3)).drop mem.length ++ [⟨b', rowsC rows pad, 56⟩]) := by
      rw [← List.append_assoc]
      congr 1
      conv => lhs; rw [← List.take_append_drop mem.length (mem0.set R.k (R.blk p3))]
      rw [List.take_set_of_le (by omega), h1]
    rw [e]
    refine EndK.facts fun cxz hlz hfz => ⟨(hle1.trans hle3).trans hlz, rfl, o1, cap1, ys, some ⟨b', 0, none⟩, cap', ys, rfl, hd3.mono hlz.fact, ?_, ⟨g1, g2⟩, ⟨m1, m2⟩, by omega, by omega, hya5, hya5⟩
    have hL := list_end (b := b') (rows := rows) (pad := pad) (fun off c hc => hfz ⟨b', rowsC rows pad, 56⟩ (by simp) off c hc) (hf.mono hlz.fact) r2 rfl m1 m2
    obtain ⟨oz, cz, ez, hz, _, _⟩ := hL.ex
    cases ez
    exact hz
def drawListSameC_S : Gens Tryz.prog 30 where
  ι := ((Option Addr) × (Nat) × (List Int))
  A := fun (i : ((Option Addr) × (Nat) × (List Int))) => match i with | (o, cap, bs) => [.v (.slice o bs.length cap)]
  pre := fun (i : ((Option Addr) × (Nat) × (List Int))) (cx : Cx) (mem : List Blk) => match i with | (o, cap, bs) => RdB (factF cx) o bs ∧ (∀ b ∈ bs, 0 ≤ b ∧ b < 256) ∧ bs.length ≤ cap ∧ cap ≤ maxLen
  post := fun (i : ((Option Addr) × (Nat) × (List Int))) (cx : Cx) (mem : List Blk) (cx' : Cx) (c : C) (mem' : List Blk) => match i with | (o, cap, bs) => Le cx cx' ∧ mem' = mem ∧ ∃ o1 cap1 ys o2 cap2 zs, c = .v (.tuple #[.slice o1 (List.length ys) cap1, .slice o2 (List.length zs) cap2]) ∧ RdN (factF cx') o1 ys ∧ RdN (factF cx') o2 zs ∧ (List.length ys ≤ cap1 ∧ cap1 ≤ maxLen) ∧ (List.length zs ≤ cap2 ∧ cap2 ≤ maxLen) ∧ List.length ys ≤ 9000 ∧ List.length zs ≤ 9000 ∧ (∀ x ∈ ys, x.args.length ≤ 5) ∧ (∀ x ∈ zs, x.args.length ≤ 5)
  enter := Tryz.call30
  h := fun i cx mem w hp hm => drawListSameC_c i.1 i.2.1 i.2.2 cx mem w hp hm
def drawListSameC : Con Tryz.prog := Con.gen drawListSameC_S
theorem drawListSameC_at {o : Option Addr} {cap : Nat} {bs : List Int} {d : Nat} {cx : Cx} {mem : List Blk} {K : Cx → C → List Blk → Prop} (hpre : RdB (factF cx) o bs ∧ (∀ b ∈ bs, 0 ≤ b ∧ b < 256) ∧ bs.length ≤ cap ∧ cap ≤ maxLen) (h : ∀ cx' c mem', (Le cx cx' ∧ mem' = mem ∧ ∃ o1 cap1 ys o2 cap2 zs, c = .v (.tuple #[.slice o1 (List.length ys) cap1, .slice o2 (List.length zs) cap2]) ∧ RdN (factF cx') o1 ys ∧ RdN (factF cx') o2 zs ∧ (List.length ys ≤ cap1 ∧ cap1 ≤ maxLen) ∧ (List.length zs ≤ cap2 ∧ cap2 ≤ maxLen) ∧ List.length ys ≤ 9000 ∧ List.length zs ≤ 9000 ∧ (∀ x ∈ ys, x.args.length ≤ 5) ∧ (∀ x ∈ zs, x.args.length ≤ 5)) → K cx' c mem') : GenV d drawListSameC_S cx [.v (.slice o bs.length cap)] mem K := ⟨(o, cap, bs), rfl, hpre, h⟩
end Go.Proofs.YtglcclkifhjonaaGreatDoor
