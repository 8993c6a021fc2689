/-
  Draws of instructions, of two lists, and of texts of lists.
-/
import Derived.Test.YtclbanhoiaieaaaGreatDoorUova
import Derived.Test.YtclbanhoiaieaaaGreatDoorUdva
set_option linter.unusedVariables false
set_option linter.unusedSimpArgs false
set_option maxRecDepth 100000
set_option maxHeartbeats 4000000
namespace Go.Proofs.YtclbanhoiaieaaaGreatDoor
open Go Go.Sx
open List renaming all_eq_true → Y1, zipIdx → Y5
open Bool renaming exists_bool → Y3, forall_bool → Y4
attribute [local simp] Sx.vcsE1 Sx.vcsE2 Sx.vcsE3 Sx.vcsE4 Sx.vcsE5 Sx.vcsE6 Sx.vcsE7 Sx.vcsE8 Sx.vcsE9 Sx.vcsE10 Sx.vcsE11 Sx.vcsE12 Sx.vcsE13 Sx.vcsE14 Sx.vcsE15 Sx.vcsE16 Sx.vcsE17 Sx.vcsE18 Sx.vcsE19 Sx.get Sx.look Sx.put Sx.pureFn Sx.findOrd Sx.unF Sx.dstOk Sx.isFloatT Sx.endVC Sx.resFn Sx.packC Sx.newFn Sx.storeFn Sx.buildFn Sx.known Sx.aggT Sx.cellsC Sx.findCon Sx.allV Sx.partsV Sx.partsC Sx.fillL Sx.exitTo Sx.fAr Sx.eqFn Sx.eqFieldsFn Sx.eqElemsFn Sx.partFn Sx.sliceFn Sx.boundFn Sx.AppV Sx.CopyV Sx.MakeSliceV Sx.NewsV Sx.GrowV Sx.TextV Sx.bytesL Sx.notInt Sx.typeAt Sx.argAt Sx.den Go.undef Go.Value.cells Go.Value.oneCell' Sx.Con.pure Sx.Con.some Sx.Con.read Sx.Con.make Sx.Con.ext Sx.Con.rel Sx.Con.extS Sx.Con.draw Sx.Con.step Sx.C.one Sx.Draws.steps

theorem drawListLineC_c (o : Option Addr) (cap : Nat) (bs : List Int) (cx : Cx) (mem : List Blk) (w : World) (hpre : RdB (factF cx) o bs ∧ (∀ b ∈ bs, 0 ≤ b ∧ b < 256) ∧ bs.length ≤ cap ∧ cap ≤ maxLen) (hm : MemRel cx mem w) :
    Calls Tryz.prog 30 (([.v (.slice o bs.length cap)] : List C).map den).toArray w fun e w' => ∃ cx' c mem', e = .returned (den c) ∧ MemRel cx' mem' w' ∧ Le cx cx' ∧ mem' = mem ∧ ∃ code op o1 cap1 xs, c = .v (.agg #[.int .i64 code, .int .i64 op, .slice o1 (List.length xs) cap1]) ∧ RdD (factF cx') o1 xs ∧ List.length xs ≤ 4 ∧ List.length xs ≤ cap1 ∧ cap1 ≤ maxLen := by
  refine step_of_vcs ⟨[l10OpenC, l7InstC, pickC, l4AnyC], []⟩ hmx Tryz.func30 rfl (by kernel_rfl) (args := [.v (.slice o bs.length cap)]) (by simp [Tryz.ntmps30]) hm (fun cx' c mem' => Le cx cx' ∧ mem' = mem ∧ ∃ code op o1 cap1 xs, c = .v (.agg #[.int .i64 code, .int .i64 op, .slice o1 (List.length xs) cap1]) ∧ RdD (factF cx') o1 xs ∧ List.length xs ≤ 4 ∧ List.length xs ≤ cap1 ∧ cap1 ≤ maxLen) 400 ?_
  simp (maxSteps := 4000000) -dsimp [-Y1, -Array.all_eq_true, -Y3, -Y4, and_assoc, Y5, Tryz.f30, l10OpenC, l7InstC, pickC, l4AnyC, Con.gen]
  intro b0
  refine l10OpenC_at hpre ?_
  rintro cx1 c mem1 ⟨R, mem0, p, rfl, rfl, hp, hR, hty, hle1, h1, h2, h3⟩
  have hk0 := take_get h1 mem.length (by simp)
  simp at hk0 h2 h3
  have hj0 := (List.getElem?_eq_some_iff.1 hk0).2
  have hn0 : ¬ R.k = mem.length := by omega
  have ht : mem0.take mem.length = mem := by
    have := congrArg (List.take mem.length) h1
    rw [List.take_take] at this
    simpa using this
  have hlt := hR.lt
  have a1 : mem.length < mem.length + 1 + 1 := by omega
  have hle := Le.refl cx1
  simp (maxSteps := 4000000) -dsimp [-Y1, -Array.all_eq_true, -Y3, -Y4, and_assoc, Y5, Tryz.f30, l10OpenC, l7InstC, pickC, l4AnyC]
  refine l7InstC_at0 hR hty hle ⟨by omega, by omega⟩ trivial ?_
  rintro cx2 _ p2 hle2 - c1 c2 ⟨⟨code, op, xs⟩, ⟨⟨eo, ecap, rfl, hd, hc1, hc2⟩⟩, hxl⟩
  simp only at hd hc1 hc2 hxl
  simp (maxSteps := 4000000) -dsimp [-Y1, -Array.all_eq_true, -Y3, -Y4, and_assoc, Y5, Tryz.f30, l10OpenC, l7InstC, pickC, l4AnyC, hlt, hk0, hj0, h3, hn0, a1, List.getElem?_append, List.set_append, List.getElem?_set]
  intro b1
  refine pickC_at hR hty hle2 ⟨by omega, by omega⟩ (by omega) ?_
  rintro cx3 _ p3 hle3 hs3 d1 d2 ⟨y, rfl, y0, y1⟩
  by_cases hy : y = 0
  · simp (maxSteps := 4000000) -dsimp [-Y1, -Array.all_eq_true, -Y3, -Y4, and_assoc, Y5, Tryz.f30, l10OpenC, l7InstC, pickC, l4AnyC, hlt, hk0, hj0, h3, hn0, a1, List.getElem?_append, List.set_append, List.getElem?_set, hy]
    refine l4AnyC_at hR hty hle3 ⟨by omega, by omega⟩ trivial ?_
    rintro cx4 _ p4 hle4 - e1 e2 ⟨op2, ys, ⟨⟨fo, fcap, rfl, fd, fc1, fc2⟩⟩, fl⟩
    simp (maxSteps := 4000000) -dsimp [-Y1, -Array.all_eq_true, -Y3, -Y4, and_assoc, Y5, Tryz.f30, l10OpenC, l7InstC, pickC, l4AnyC, hlt, hk0, hj0, h3, hn0, a1, List.getElem?_append, List.set_append, List.getElem?_set, hy]
    refine EndK.plain mem.length ⟨hle1.trans hle4, ?_, code, op2, fo, fcap, ys, rfl, fd, fl, fc1, fc2⟩
    rw [List.take_append_of_le_length (by simp; omega), List.take_set_of_le (by omega), List.take_set_of_le (by omega), ht]
  · simp (maxSteps := 4000000) -dsimp [-Y1, -Array.all_eq_true, -Y3, -Y4, and_assoc, Y5, Tryz.f30, l10OpenC, l7InstC, pickC, l4AnyC, hlt, hk0, hj0, h3, hn0, a1, List.getElem?_append, List.set_append, List.getElem?_set, hy]
    refine EndK.plain mem.length ⟨hle1.trans hle3, ?_, code, op, eo, ecap, xs, rfl, hd.mono hs3.fact, by omega, hc1, hc2⟩
    rw [List.take_append_of_le_length (by simp; omega), List.take_set_of_le (by omega), List.take_set_of_le (by omega), ht]
def drawListLineC_S : Gens Tryz.prog 30 where
  ι := ((Option Addr) × (Nat) × (List Int))
  A := fun (i : ((Option Addr) × (Nat) × (List Int))) => match i with | (o, cap, bs) => [.v (.slice o bs.length cap)]
  pre := fun (i : ((Option Addr) × (Nat) × (List Int))) (cx : Cx) (mem : List Blk) => match i with | (o, cap, bs) => RdB (factF cx) o bs ∧ (∀ b ∈ bs, 0 ≤ b ∧ b < 256) ∧ bs.length ≤ cap ∧ cap ≤ maxLen
  post := fun (i : ((Option Addr) × (Nat) × (List Int))) (cx : Cx) (mem : List Blk) (cx' : Cx) (c : C) (mem' : List Blk) => match i with | (o, cap, bs) => Le cx cx' ∧ mem' = mem ∧ ∃ code op o1 cap1 xs, c = .v (.agg #[.int .i64 code, .int .i64 op, .slice o1 (List.length xs) cap1]) ∧ RdD (factF cx') o1 xs ∧ List.length xs ≤ 4 ∧ List.length xs ≤ cap1 ∧ cap1 ≤ maxLen
  enter := Tryz.call30
  h := fun i cx mem w hp hm => drawListLineC_c i.1 i.2.1 i.2.2 cx mem w hp hm
def drawListLineC : Con Tryz.prog := Con.gen drawListLineC_S
theorem drawListLineC_at {o : Option Addr} {cap : Nat} {bs : List Int} {d : Nat} {cx : Cx} {mem : List Blk} {K : Cx → C → List Blk → Prop} (hpre : RdB (factF cx) o bs ∧ (∀ b ∈ bs, 0 ≤ b ∧ b < 256) ∧ bs.length ≤ cap ∧ cap ≤ maxLen) (h : ∀ cx' c mem', (Le cx cx' ∧ mem' = mem ∧ ∃ code op o1 cap1 xs, c = .v (.agg #[.int .i64 code, .int .i64 op, .slice o1 (List.length xs) cap1]) ∧ RdD (factF cx') o1 xs ∧ List.length xs ≤ 4 ∧ List.length xs ≤ cap1 ∧ cap1 ≤ maxLen) → K cx' c mem') : GenV d drawListLineC_S cx [.v (.slice o bs.length cap)] mem K := ⟨(o, cap, bs), rfl, hpre, h⟩
theorem drawListSameC_c (o : Option Addr) (cap : Nat) (bs : List Int) (cx : Cx) (mem : List Blk) (w : World) (hpre : RdB (factF cx) o bs ∧ (∀ b ∈ bs, 0 ≤ b ∧ b < 256) ∧ bs.length ≤ cap ∧ cap ≤ maxLen) (hm : MemRel cx mem w) :
    Calls Tryz.prog 33 (([.v (.slice o bs.length cap)] : List C).map den).toArray w fun e w' => ∃ cx' c mem', e = .returned (den c) ∧ MemRel cx' mem' w' ∧ Le cx cx' ∧ mem' = mem ∧ ∃ o1 cap1 ys o2 cap2 zs, c = .v (.tuple #[.slice o1 (List.length ys) cap1, .slice o2 (List.length zs) cap2]) ∧ RdN (factF cx') o1 ys ∧ RdN (factF cx') o2 zs ∧ (List.length ys ≤ cap1 ∧ cap1 ≤ maxLen) ∧ (List.length zs ≤ cap2 ∧ cap2 ≤ maxLen) ∧ List.length ys ≤ 9000 ∧ List.length zs ≤ 9000 ∧ (∀ x ∈ ys, x.args.length ≤ 5) ∧ (∀ x ∈ zs, x.args.length ≤ 5) := by
  refine step_of_vcs ⟨[l10OpenC, l7AnyLC, pickC, l7SpoilC], []⟩ hmx Tryz.func33 rfl (by kernel_rfl) (args := [.v (.slice o bs.length cap)]) (by simp [Tryz.ntmps33]) hm (fun cx' c mem' => Le cx cx' ∧ mem' = mem ∧ ∃ o1 cap1 ys o2 cap2 zs, c = .v (.tuple #[.slice o1 (List.length ys) cap1, .slice o2 (List.length zs) cap2]) ∧ RdN (factF cx') o1 ys ∧ RdN (factF cx') o2 zs ∧ (List.length ys ≤ cap1 ∧ cap1 ≤ maxLen) ∧ (List.length zs ≤ cap2 ∧ cap2 ≤ maxLen) ∧ List.length ys ≤ 9000 ∧ List.length zs ≤ 9000 ∧ (∀ x ∈ ys, x.args.length ≤ 5) ∧ (∀ x ∈ zs, x.args.length ≤ 5)) 400 ?_
  simp (maxSteps := 4000000) -dsimp [-Y1, -Array.all_eq_true, -Y3, -Y4, and_assoc, Y5, Tryz.f33, l10OpenC, l7AnyLC, pickC, l7SpoilC, Con.gen]
  refine l10OpenC_at hpre ?_
  rintro cx1 c mem1 ⟨R, mem0, p, rfl, rfl, hp, hR, hty, hle1, h1, h2, h3⟩
  have hlt := hR.lt
  have hle := Le.refl cx1
  simp (maxSteps := 4000000) -dsimp [-Y1, -Array.all_eq_true, -Y3, -Y4, and_assoc, Y5, Tryz.f33, l10OpenC, l7AnyLC, pickC, l7SpoilC, hlt]
  refine l7AnyLC_at0 hR hty hle ⟨by omega, by omega⟩ trivial ?_
  rintro cx2 _ p2 hle2 - c1 c2 ⟨ys, hL, hyl, hya⟩
  obtain ⟨o1, cap1, rfl, hd, g1, g2⟩ := hL.ex
  simp (maxSteps := 4000000) -dsimp [-Y1, -Array.all_eq_true, -Y3, -Y4, and_assoc, Y5, Tryz.f33, l10OpenC, l7AnyLC, pickC, l7SpoilC, hlt]
  refine pickC_at0 hR hty hle2 ⟨by omega, by omega⟩ (by omega) ?_
  rintro cx3 _ p3 hle3 hs3 d1 d2 ⟨y, rfl, y0, y1⟩
  have hd3 := hd.mono hs3.fact
  have hya5 : ∀ x ∈ ys, x.args.length ≤ 5 := fun x hx => by have := hya x hx; omega
  by_cases hy0 : y = 0
  · simp (maxSteps := 4000000) -dsimp [-Y1, -Array.all_eq_true, -Y3, -Y4, and_assoc, Y5, Tryz.f33, l10OpenC, l7AnyLC, pickC, l7SpoilC, hlt, hy0]
    refine l7SpoilC_at0 (L := 7000) (A := 4) hR hty hle3 ⟨by omega, by omega⟩ ⟨hd3, hyl, hya, by decide, by decide, by decide⟩ ?_
    rintro cx4 _ p4 hle4 hs4 e1 e2 ⟨zs, hL4, hzl, hza⟩
    obtain ⟨o2, cap2, rfl, hd4, g3, g4⟩ := hL4.ex
    simp (maxSteps := 4000000) -dsimp [-Y1, -Array.all_eq_true, -Y3, -Y4, and_assoc, Y5, Tryz.f33, l10OpenC, l7AnyLC, pickC, l7SpoilC, hlt]
    refine EndK.plain mem.length ⟨hle1.trans hle4, ?_, o1, cap1, ys, o2, cap2, zs, rfl, hd3.mono hs4.fact, hd4, ⟨g1, g2⟩, ⟨g3, g4⟩, by omega, by omega, hya5, hza⟩
    rw [List.take_set_of_le (by omega), h1]
  · obtain ⟨rows, r1, r2, r3⟩ := hd3.ex
    have hf : RdF (factF cx3) rows ys := ⟨by omega, r3⟩
    have hr3 := hf.len
    have h5 : ys.length ≤ maxLen := by unfold maxLen; omega
    have h6 : ys.length * 40 ≤ 140737488355328 := by omega
    simp (maxSteps := 4000000) -dsimp [-Y1, -Array.all_eq_true, -Y3, -Y4, and_assoc, Y5, Tryz.f33, l10OpenC, l7AnyLC, pickC, l7SpoilC, hlt, hy0]
    intro b
    rw [RdO.sl (r1.mono (sub_now _ _)) (by decide) (by omega)]
    have h7 : rows.all ((fun x => x.all C.one) ∘ List.map C.v) = true := by simpa using one_rows hf
    unfold GrowV
    simp (maxSteps := 4000000) -dsimp [-Y1, -Array.all_eq_true, -Y3, -Y4, and_assoc, Y5, Tryz.f33, l10OpenC, l7AnyLC, pickC, l7SpoilC, hlt, h7, h5, h6, rowsC_fold]
    intro b' cap' pad m1 m2 m3
    have e : mem0.set R.k (R.blk p3) ++ [⟨b', rowsC rows pad, 57⟩] = mem ++ ((mem0.set R.k (R.blk p3)).drop mem.length ++ [⟨b', rowsC rows pad, 57⟩]) := by
      rw [← List.append_assoc]
      congr 1
      conv => lhs; rw [← List.take_append_drop mem.length (mem0.set R.k (R.blk p3))]
      rw [List.take_set_of_le (by omega), h1]
    rw [e]
    refine EndK.facts fun cxz hlz hfz => ⟨(hle1.trans hle3).trans hlz, rfl, o1, cap1, ys, some ⟨b', 0, none⟩, cap', ys, rfl, hd3.mono hlz.fact, ?_, ⟨g1, g2⟩, ⟨m1, m2⟩, by omega, by omega, hya5, hya5⟩
    have hL := list_end (b := b') (rows := rows) (pad := pad) (fun off c hc => hfz ⟨b', rowsC rows pad, 57⟩ (by simp) off c hc) (hf.mono hlz.fact) r2 rfl m1 m2
    obtain ⟨oz, cz, ez, hz, _, _⟩ := hL.ex
    cases ez
    exact hz
def drawListSameC_S : Gens Tryz.prog 33 where
  ι := ((Option Addr) × (Nat) × (List Int))
  A := fun (i : ((Option Addr) × (Nat) × (List Int))) => match i with | (o, cap, bs) => [.v (.slice o bs.length cap)]
  pre := fun (i : ((Option Addr) × (Nat) × (List Int))) (cx : Cx) (mem : List Blk) => match i with | (o, cap, bs) => RdB (factF cx) o bs ∧ (∀ b ∈ bs, 0 ≤ b ∧ b < 256) ∧ bs.length ≤ cap ∧ cap ≤ maxLen
  post := fun (i : ((Option Addr) × (Nat) × (List Int))) (cx : Cx) (mem : List Blk) (cx' : Cx) (c : C) (mem' : List Blk) => match i with | (o, cap, bs) => Le cx cx' ∧ mem' = mem ∧ ∃ o1 cap1 ys o2 cap2 zs, c = .v (.tuple #[.slice o1 (List.length ys) cap1, .slice o2 (List.length zs) cap2]) ∧ RdN (factF cx') o1 ys ∧ RdN (factF cx') o2 zs ∧ (List.length ys ≤ cap1 ∧ cap1 ≤ maxLen) ∧ (List.length zs ≤ cap2 ∧ cap2 ≤ maxLen) ∧ List.length ys ≤ 9000 ∧ List.length zs ≤ 9000 ∧ (∀ x ∈ ys, x.args.length ≤ 5) ∧ (∀ x ∈ zs, x.args.length ≤ 5)
  enter := Tryz.call33
  h := fun i cx mem w hp hm => drawListSameC_c i.1 i.2.1 i.2.2 cx mem w hp hm
def drawListSameC : Con Tryz.prog := Con.gen drawListSameC_S
theorem drawListSameC_at {o : Option Addr} {cap : Nat} {bs : List Int} {d : Nat} {cx : Cx} {mem : List Blk} {K : Cx → C → List Blk → Prop} (hpre : RdB (factF cx) o bs ∧ (∀ b ∈ bs, 0 ≤ b ∧ b < 256) ∧ bs.length ≤ cap ∧ cap ≤ maxLen) (h : ∀ cx' c mem', (Le cx cx' ∧ mem' = mem ∧ ∃ o1 cap1 ys o2 cap2 zs, c = .v (.tuple #[.slice o1 (List.length ys) cap1, .slice o2 (List.length zs) cap2]) ∧ RdN (factF cx') o1 ys ∧ RdN (factF cx') o2 zs ∧ (List.length ys ≤ cap1 ∧ cap1 ≤ maxLen) ∧ (List.length zs ≤ cap2 ∧ cap2 ≤ maxLen) ∧ List.length ys ≤ 9000 ∧ List.length zs ≤ 9000 ∧ (∀ x ∈ ys, x.args.length ≤ 5) ∧ (∀ x ∈ zs, x.args.length ≤ 5)) → K cx' c mem') : GenV d drawListSameC_S cx [.v (.slice o bs.length cap)] mem K := ⟨(o, cap, bs), rfl, hpre, h⟩
theorem manyC_c (t : Str) (n : Int) (hpre : t.length ≤ 10 ∧ n ≤ 60000) (w : World) : Calls Tryz.prog 73 #[.string (txt t), .int .i64 n] w fun e w' => ∃ v, e = .returned v ∧ (fun v => ∃ z : Str, v = .string (txt z) ∧ z.length ≤ 600000) v ∧ RowKit.Below w.heap.size w w' := by
  refine plain_of_vcs ⟨[], []⟩ hmx Tryz.func73 rfl (by kernel_rfl) (args := [.string (txt t), .int .i64 n]) (by simp [Tryz.ntmps73]) w (fun v => ∃ z : Str, v = .string (txt z) ∧ z.length ≤ 600000) 300 ?_
  obtain ⟨hl, h1⟩ := hpre
  by_cases h0 : 0 ≤ n
  case' neg =>
    have hn0 : ¬ (0 : Int) < n := by omega
    simp (maxSteps := 4000000) -dsimp [-Y1, -Array.all_eq_true, -Y3, -Y4, and_assoc, Y5, Tryz.f73]
    refine loop_unroll (σ := ⟨[], []⟩) (n := 300) hmx (by kernel_rfl) ?_
    simp (maxSteps := 4000000) -dsimp [-Y1, -Array.all_eq_true, -Y3, -Y4, and_assoc, Y5, Tryz.f73, hn0]
    exact ⟨[], rfl, by simp⟩
  obtain ⟨k0, rfl⟩ : ∃ k : Nat, n = k := ⟨n.toNat, by omega⟩
  have hkl : k0 * t.length ≤ 600000 := Nat.le_trans (Nat.mul_le_mul (Nat.le_refl _) hl) (by omega)
  simp (maxSteps := 4000000) -dsimp [-Y1, -Array.all_eq_true, -Y3, -Y4, and_assoc, Y5, Tryz.f73]
  refine loop_inv (σ := ⟨[], []⟩) hmx (by kernel_rfl) (fun m cx tm mem => cx = ⟨w, [], w, []⟩ ∧ mem = [] ∧ ∃ (s z : Str), s.length ≤ 1200000 ∧ z.length + m * s.length ≤ 600000 ∧ m ≤ 60000 ∧ Sx.look tm 0 = .v (.string (txt s)) ∧ Sx.look tm 1 = .v (.int .i64 m) ∧ Sx.look tm 5 = .v (.string (txt z)))
    k0 ⟨rfl, rfl, t, [], by omega, by simpa using hkl, by omega, by simp [Sx.look], by simp [Sx.look], by simp [Sx.look, txt]⟩ ?_
  rintro m cx tm mem ⟨rfl, rfl, s, z, hs, hz, hm, j0, j1, j5⟩
  refine ⟨300, ?_⟩
  by_cases hp : 0 < m
  · have hp' : (0 : Int) < m := by omega
    have hs2 : s.length ≤ 600000 := by
      have := Nat.le_mul_of_pos_left s.length hp
      omega
    obtain ⟨P, hP | hP⟩ : ∃ P, m = 2 * P ∨ m = 2 * P + 1 := ⟨m / 2, by omega⟩
    · subst hP
      have q1 : ((2 * P : Nat) : Int).tmod 2 = 0 := by rw [Int.tmod_eq_emod_of_nonneg (by omega)]; omega
      have q2 : ((2 * P : Nat) : Int).tdiv 2 = P := by rw [Int.tdiv_eq_ediv_of_nonneg (by omega)]; omega
      have hw : IntKind.i64.wrap (P : Int) = P := wrap_i64 (by omega) (by omega)
      simp (maxSteps := 4000000) -dsimp [-Y1, -Array.all_eq_true, -Y3, -Y4, and_assoc, Y5, Tryz.f73, j0, j1, j5, hp, hp', q1, q2]
      refine ⟨fun _ => ⟨by omega, P, by omega, s ++ s, by simp; omega, z, ?_, by omega, rfl, hw, rfl⟩, fun h => by omega⟩
      have : P * (s ++ s).length = 2 * P * s.length := by rw [List.length_append, ← Nat.two_mul, Nat.mul_comm 2 P, Nat.mul_assoc]
      rw [this]; exact hz
    · subst hP
      have q1 : ((2 * P + 1 : Nat) : Int).tmod 2 = 1 := by rw [Int.tmod_eq_emod_of_nonneg (by omega)]; omega
      have q2 : ((2 * P + 1 : Nat) : Int).tdiv 2 = P := by rw [Int.tdiv_eq_ediv_of_nonneg (by omega)]; omega
      have hw : IntKind.i64.wrap (P : Int) = P := wrap_i64 (by omega) (by omega)
      have q3 : (2 * (P : Int) + 1).tmod 2 = 1 := by rw [Int.tmod_eq_emod_of_nonneg (by omega)]; omega
      have q4 : (2 * (P : Int) + 1).tdiv 2 = P := by rw [Int.tdiv_eq_ediv_of_nonneg (by omega)]; omega
      have hz2 : (2 * P + 1) * s.length = P * (s ++ s).length + s.length := by rw [List.length_append, Nat.add_mul, Nat.one_mul, ← Nat.two_mul, Nat.mul_comm 2 P, Nat.mul_assoc]
      rw [hz2] at hz
      simp (maxSteps := 4000000) -dsimp [-Y1, -Array.all_eq_true, -Y3, -Y4, and_assoc, Y5, Tryz.f73, j0, j1, j5, hp, hp', q1, q2, q3, q4]
      refine ⟨fun _ => ⟨by omega, by omega, P, by omega, s ++ s, by simp; omega, z ++ s, ?_, by omega, rfl, hw, rfl⟩, fun h => by omega⟩
      simp only [List.length_append] at hz ⊢; omega
  · obtain rfl : m = 0 := by omega
    simp (maxSteps := 4000000) -dsimp [-Y1, -Array.all_eq_true, -Y3, -Y4, and_assoc, Y5, Tryz.f73, j0, j1, j5]
    omega
def manyC : Con Tryz.prog := Con.some 73 Tryz.call73 (fun (i : ((Str) × (Int))) => match i with | (t, n) => [.string (txt t), .int .i64 n]) (fun (i : ((Str) × (Int))) => match i with | (t, n) => t.length ≤ 10 ∧ n ≤ 60000) (fun (i : ((Str) × (Int))) => match i with | (t, n) => fun v => ∃ z : Str, v = .string (txt z) ∧ z.length ≤ 600000) fun i w hp => manyC_c i.1 i.2 hp w
end Go.Proofs.YtclbanhoiaieaaaGreatDoor
