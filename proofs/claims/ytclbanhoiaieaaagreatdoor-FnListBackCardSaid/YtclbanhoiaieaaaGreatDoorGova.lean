/-
  Contracts: lists that are spoilt.
-/
import Derived.Test.YtclbanhoiaieaaaGreatDoorGhva
set_option linter.unusedVariables false
set_option linter.unusedSimpArgs false
set_option maxRecDepth 100000
set_option maxHeartbeats 4000000
namespace Go.Proofs.YtclbanhoiaieaaaGreatDoor
open Go Go.Sx
open List renaming all_eq_true → Y1, zipIdx → Y5
open Bool renaming exists_bool → Y3, forall_bool → Y4
attribute [local simp] Sx.vcsE1 Sx.vcsE2 Sx.vcsE3 Sx.vcsE4 Sx.vcsE5 Sx.vcsE6 Sx.vcsE7 Sx.vcsE8 Sx.vcsE9 Sx.vcsE10 Sx.vcsE11 Sx.vcsE12 Sx.vcsE13 Sx.vcsE14 Sx.vcsE15 Sx.vcsE16 Sx.vcsE17 Sx.vcsE18 Sx.vcsE19 Sx.get Sx.look Sx.put Sx.pureFn Sx.findOrd Sx.unF Sx.dstOk Sx.isFloatT Sx.endVC Sx.resFn Sx.packC Sx.newFn Sx.storeFn Sx.buildFn Sx.known Sx.aggT Sx.cellsC Sx.findCon Sx.allV Sx.partsV Sx.partsC Sx.fillL Sx.exitTo Sx.fAr Sx.eqFn Sx.eqFieldsFn Sx.eqElemsFn Sx.partFn Sx.sliceFn Sx.boundFn Sx.AppV Sx.CopyV Sx.MakeSliceV Sx.NewsV Sx.GrowV Sx.TextV Sx.bytesL Sx.notInt Sx.typeAt Sx.argAt Sx.den Go.undef Go.Value.cells Go.Value.oneCell' Sx.Con.pure Sx.Con.some Sx.Con.read Sx.Con.make Sx.Con.ext Sx.Con.rel Sx.Con.extS Sx.Con.draw Sx.Con.step Sx.C.one Sx.Draws.steps

theorem step_play {d : Nat} {p : Int} {K : Cx → C → List Blk → Prop} {R : Rdr} {cx0 cx1 cx : Cx} {mem0 mem : List Blk} {bp : Nat} {s : PS} (hR : R.Is (factF cx0) mem0) (hty : R.ty = 160) (hle : Le cx0 cx1) (hle2 : Le cx1 cx) (hP : Pl (factF cx) R mem0 bp s p mem)
    (hp : 0 ≤ p ∧ p + 5000 ≤ 1125899906842624) (hl : s.xs.length ≤ 80000) (hb : 0 ≤ s.bits ∧ s.bits ≤ 16) (hf : 0 ≤ s.forks ∧ s.forks ≤ 8)
    (h : ∀ cx' s' p' mem', Le cx1 cx' → Pl (factF cx') R mem0 bp s' p' mem' → p ≤ p' → p' ≤ p + 5000 → s.xs.length ≤ s'.xs.length → s'.xs.length ≤ s.xs.length + 19 → 0 ≤ s'.bits → s'.bits ≤ 16 → 0 ≤ s'.forks → s'.forks ≤ 8 → K cx' (.v (.tuple #[])) mem') :
    GenV d stepC_S cx [.p mem0.length bp 0] mem K := by
  refine stepC_at ⟨hty, hR.on (hle.trans hle2).fact (Nat.le_refl _), hP, hp.1, hp.2, hl, hb.1, hb.2, hf.1, hf.2⟩ ?_
  rintro cx' c mem' ⟨rfl, h1, s', p', h2, h3, h4, h5, h6, h7, h8, h9, h10⟩
  exact h _ _ _ _ (hle2.trans h1) h2 h3 h4 h5 h6 h7 h8 h9 h10
theorem rungC_c (R : Rdr) (mem0 : List Blk) (bp : Nat) (s : PS) (p n : Int) (cx : Cx) (mem : List Blk) (w : World) (hpre : R.ty = 160 ∧ R.Is (factF cx) mem0 ∧ Pl (factF cx) R mem0 bp s p mem ∧ 0 ≤ p ∧ p + 300000 ≤ 1125899906842624 ∧ s.xs.length ≤ 70000 ∧ s.forks = 0 ∧ 0 ≤ n ∧ n ≤ 40) (hm : MemRel cx mem w) :
    Calls Tryz.prog 218 (([.p mem0.length bp 0, .v (.int .i64 n)] : List C).map den).toArray w fun e w' => ∃ cx' c mem', e = .returned (den c) ∧ MemRel cx' mem' w' ∧ c = .v (.tuple #[]) ∧ Le cx cx' ∧ ∃ s' p', Pl (factF cx') R mem0 bp s' p' mem' ∧ p ≤ p' ∧ p' ≤ p + 300000 ∧ s.xs.length < s'.xs.length ∧ s'.xs.length ≤ s.xs.length + 1000 ∧ s'.forks = 0 := by
  refine step_of_vcs ⟨[putC, stepC, closeC], []⟩ hmx Tryz.func218 rfl (by kernel_rfl) (args := [.p mem0.length bp 0, .v (.int .i64 n)]) (by simp [Tryz.ntmps218]) hm (fun cx' c mem' => c = .v (.tuple #[]) ∧ Le cx cx' ∧ ∃ s' p', Pl (factF cx') R mem0 bp s' p' mem' ∧ p ≤ p' ∧ p' ≤ p + 300000 ∧ s.xs.length < s'.xs.length ∧ s'.xs.length ≤ s.xs.length + 1000 ∧ s'.forks = 0) 400 ?_
  obtain ⟨hty, hR, hP, hp, hpc, hl, hf0, hn0, hn1⟩ := hpre
  have hlt := hR.lt
  have hn := hP.lt
  obtain ⟨oc, hk⟩ := Play.blk hP
  have hk2 := (List.getElem?_eq_some_iff.1 hk).2
  simp (maxSteps := 4000000) -dsimp [-Y1, -Array.all_eq_true, -Y3, -Y4, and_assoc, Y5, Tryz.f218, putC, stepC, closeC, hn, hk, hk2, Con.gen]
  refine put_play hR hty (Le.refl _) (Le.refl _) (Play.upd' hP hk s.bits s.forks false s.fresh) (by omega) (by simp only; omega) ?_
  rintro cx1 x1 p1 mem1 hle1 hP1 - b1 b2
  have hl1 := hP1.lt
  obtain ⟨oc1, hk3⟩ := Play.blk hP1
  simp only at hk3
  have hk4 := (List.getElem?_eq_some_iff.1 hk3).2
  simp (maxSteps := 4000000) -dsimp [-Y1, -Array.all_eq_true, -Y3, -Y4, and_assoc, Y5, Tryz.f218, putC, stepC, closeC, hl1, hk3, hk4, Con.gen]
  refine loop_inv (σ := ⟨[putC, stepC, closeC], []⟩) hmx (by kernel_rfl) (fun q cx' tm mem' => Le cx cx' ∧ ∃ (i : Nat) (s' : PS) (p' : Int), (i : Int) ≤ n ∧ q = n.toNat - i ∧ Pl (factF cx') R mem0 bp s' p' mem' ∧ p ≤ p' ∧ p' ≤ p + 100 + 5000 * i ∧ s.xs.length < s'.xs.length ∧ s'.xs.length ≤ s.xs.length + 1 + 19 * i ∧ 0 ≤ s'.bits ∧ s'.bits ≤ 16 ∧ 0 ≤ s'.forks ∧ s'.forks ≤ 8 ∧ Sx.look tm 4 = .v (.int .i64 i) ∧ Sx.look tm 1 = .v (.int .i64 n) ∧ Sx.look tm 0 = .p mem0.length bp 0)
    n.toNat ⟨hle1, 0, _, p1, by omega, rfl, Play.upd' hP1 hk3 1 s.forks _ _, by omega, by omega, by simp, by simp, by simp only; omega, by simp only; omega, by simp only; omega, by simp only; omega, by simp [Sx.look], by simp [Sx.look], by simp [Sx.look]⟩ ?_
  rintro q cx2 tm mem2 ⟨hle2, i, s2, p2, hi, rfl, hP2, a1, a2, a3, a4, a5, a6, a7, a8, j2, j1, j0⟩
  refine ⟨400, ?_⟩
  by_cases h8 : (i : Int) < n
  · simp (maxSteps := 4000000) -dsimp [-Y1, -Array.all_eq_true, -Y3, -Y4, and_assoc, Y5, Tryz.f218, putC, stepC, closeC, j0, j1, j2, h8, Con.gen]
    refine step_play hR hty (Le.refl _) hle2 hP2 ⟨by omega, by omega⟩ (by omega) ⟨a5, a6⟩ ⟨a7, a8⟩ ?_
    rintro cx3 s3 p3 mem3 hle3 hP3 c1 c2 c3 c4 c5 c6 c7 c8
    simp (maxSteps := 4000000) -dsimp [-Y1, -Array.all_eq_true, -Y3, -Y4, and_assoc, Y5, Tryz.f218, putC, stepC, closeC, j0, j1, j2, i_succ (i := i) (by omega)]
    exact ⟨mem3.length, n.toNat - (i + 1), by omega, hle3, i + 1, by omega, rfl, s3, p3, by rw [List.take_of_length_le (by simp)]; exact hP3, by omega, by omega, by omega, by omega, c5, c6, c7, c8, rfl⟩
  · simp (maxSteps := 4000000) -dsimp [-Y1, -Array.all_eq_true, -Y3, -Y4, and_assoc, Y5, Tryz.f218, putC, stepC, closeC, j0, j1, j2, h8, Con.gen]
    refine close_play hR hty (Le.refl _) hle2 hP2 ⟨by omega, by omega⟩ (by omega) ⟨a5, a6⟩ ?_
    rintro cx4 s4 p4 mem4 hle4 hP4 d1 d2 d3 d4 d5 d6
    simp (maxSteps := 4000000) -dsimp [-Y1, -Array.all_eq_true, -Y3, -Y4, and_assoc, Y5, Tryz.f218, putC, stepC, closeC, j0, j1, j2]
    refine loop_inv (σ := ⟨[putC, stepC, closeC], []⟩) hmx (by kernel_rfl) (fun q cx' tm mem' => Le cx cx' ∧ ∃ (s' : PS) (p' : Int), q = s'.forks.toNat ∧ Pl (factF cx') R mem0 bp s' p' mem' ∧ p ≤ p' ∧ p' ≤ p + 204100 + 4200 * (8 - s'.forks) ∧ s.xs.length < s'.xs.length ∧ (s'.xs.length : Int) ≤ s.xs.length + 778 + 18 * (8 - s'.forks) ∧ 0 ≤ s'.bits ∧ s'.bits ≤ 16 ∧ 0 ≤ s'.forks ∧ s'.forks ≤ 8 ∧ Sx.look tm 0 = .p mem0.length bp 0)
      s4.forks.toNat ⟨hle4, s4, p4, rfl, hP4, by omega, by omega, by omega, by omega, by omega, by omega, by omega, by omega, by first | exact j0 | simp [Sx.look, j0]⟩ ?_
    rintro q cx5 tm5 mem5 ⟨hle5, s5, p5, rfl, hP5, e1, e2, e3, e4, e5, e6, e7, e8, j5⟩
    refine ⟨400, ?_⟩
    have hl5 := hP5.lt
    obtain ⟨oc5, hk5⟩ := Play.blk hP5
    have hk6 := (List.getElem?_eq_some_iff.1 hk5).2
    by_cases hfk : 0 < s5.forks
    · have hw := wrap_i64 (x := s5.forks - 1) (by omega) (by omega)
      simp (maxSteps := 4000000) -dsimp [-Y1, -Array.all_eq_true, -Y3, -Y4, and_assoc, Y5, Tryz.f218, putC, stepC, closeC, j5, hl5, hk5, hk6, hfk, Con.gen]
      refine put_play hR hty (Le.refl _) hle5 hP5 (by omega) (by omega) ?_
      rintro cx6 x6 p6 mem6 hle6 hP6 - f1 f2
      have hl6 := hP6.lt
      obtain ⟨oc6, hk7⟩ := Play.blk hP6
      simp only at hk7
      have hk8 := (List.getElem?_eq_some_iff.1 hk7).2
      simp (maxSteps := 4000000) -dsimp [-Y1, -Array.all_eq_true, -Y3, -Y4, and_assoc, Y5, Tryz.f218, putC, stepC, closeC, j5, hl6, hk7, hk8, hw, Con.gen]
      refine close_play hR hty (Le.refl _) hle6 (Play.upd' hP6 hk7 s5.bits (s5.forks - 1) _ _) ⟨by omega, by omega⟩ (by simp; omega) ⟨e5, e6⟩ ?_
      rintro cx7 s7 p7 mem7 hle7 hP7 g1 g2 g3 g4 g5 g6
      simp only [List.length_append, List.length_cons, List.length_nil] at g3 g4 g5 g6
      simp (maxSteps := 4000000) -dsimp [-Y1, -Array.all_eq_true, -Y3, -Y4, and_assoc, Y5, Tryz.f218, putC, stepC, closeC, j5]
      exact ⟨mem7.length, s7.forks.toNat, by omega, hle7, s7, rfl, p7, by rw [List.take_of_length_le (by simp)]; exact hP7, by omega, by omega, by omega, by omega, by omega, by omega, by omega, by omega⟩
    · simp (maxSteps := 4000000) -dsimp [-Y1, -Array.all_eq_true, -Y3, -Y4, and_assoc, Y5, Tryz.f218, putC, stepC, closeC, j5, hl5, hk5, hk6, hfk, Con.gen]
      refine put_play hR hty (Le.refl _) hle5 hP5 (by omega) (by omega) ?_
      rintro cx6 x6 p6 mem6 hle6 hP6 - f1 f2
      have hl6 := hP6.lt
      obtain ⟨oc6, hk7⟩ := Play.blk hP6
      simp only at hk7
      have hk8 := (List.getElem?_eq_some_iff.1 hk7).2
      simp (maxSteps := 4000000) -dsimp [-Y1, -Array.all_eq_true, -Y3, -Y4, and_assoc, Y5, Tryz.f218, putC, stepC, closeC, j5, hl6, hk7, hk8, Con.gen]
      exact EndK.all ⟨rfl, hle6, _, p6, Play.upd' hP6 hk7 0 s5.forks _ _, by omega, by omega, by simp; omega, by simp; omega, by simp only; omega⟩
def rungC_S : Gens Tryz.prog 218 where
  ι := ((Rdr) × (List Blk) × (Nat) × (PS) × (Int) × (Int))
  A := fun (i : ((Rdr) × (List Blk) × (Nat) × (PS) × (Int) × (Int))) => match i with | (R, mem0, bp, s, p, n) => [.p mem0.length bp 0, .v (.int .i64 n)]
  pre := fun (i : ((Rdr) × (List Blk) × (Nat) × (PS) × (Int) × (Int))) (cx : Cx) (mem : List Blk) => match i with | (R, mem0, bp, s, p, n) => R.ty = 160 ∧ R.Is (factF cx) mem0 ∧ Pl (factF cx) R mem0 bp s p mem ∧ 0 ≤ p ∧ p + 300000 ≤ 1125899906842624 ∧ s.xs.length ≤ 70000 ∧ s.forks = 0 ∧ 0 ≤ n ∧ n ≤ 40
  post := fun (i : ((Rdr) × (List Blk) × (Nat) × (PS) × (Int) × (Int))) (cx : Cx) (mem : List Blk) (cx' : Cx) (c : C) (mem' : List Blk) => match i with | (R, mem0, bp, s, p, n) => c = .v (.tuple #[]) ∧ Le cx cx' ∧ ∃ s' p', Pl (factF cx') R mem0 bp s' p' mem' ∧ p ≤ p' ∧ p' ≤ p + 300000 ∧ s.xs.length < s'.xs.length ∧ s'.xs.length ≤ s.xs.length + 1000 ∧ s'.forks = 0
  enter := Tryz.call218
  h := fun i cx mem w hp hm => rungC_c i.1 i.2.1 i.2.2.1 i.2.2.2.1 i.2.2.2.2.1 i.2.2.2.2.2 cx mem w hp hm

theorem rows_row {F : Facts} {b : Nat} {rows : List (List Value)} {pad : List C} (hr3 : ∀ r ∈ rows, r.length = 3) (h : ∀ (off : Nat) c, (rowsC rows pad)[off]? = some c → F ⟨b, off, none⟩ = some (den c)) : RdO F 3 (some ⟨b, 0, none⟩) rows := by
  intro i r hr
  refine ⟨hr3 r (List.mem_of_getElem? hr), _, rfl, fun j x hx => ?_⟩
  have hf := flat_at rows i r hr3 hr j x hx
  have hl := (List.getElem?_eq_some_iff.1 hf).1
  rw [addr_add, Nat.zero_add]
  refine h _ (.v x) ?_
  unfold rowsC
  rw [List.getElem?_append_left (by rw [List.length_map]; exact hl), List.getElem?_map, hf]
  rfl
theorem play_new {F : Facts} {R : Rdr} {mem : List Blk} {b : Nat} {p : Int} (hl : R.k < mem.length) : Pl F R mem b ⟨[], 0, 0, false, false⟩ p (mem.set R.k (R.blk p) ++ [⟨b, [.p R.k R.b 0, .v (.slice none 0 0), .v (.int .i64 0), .v (.int .i64 0), .v (.bool false), .v (.bool false)], 206⟩]) := by
  refine ⟨by simp, ?_, .v (.slice none 0 0), ?_, Or.inl ⟨rfl, rfl⟩⟩
  · rw [List.take_append_of_le_length (by simp), List.take_of_length_le (by simp)]
  · rw [List.getElem?_append_right (by simp)]
    simp [playBlk]
theorem play_end {d : Nat} {cx0 cx : Cx} {R : Rdr} {mem mem' : List Blk} {bp : Nat} {s : PS} {p0 p e : Int} {oc : C} {n : Nat} (hP : Pl (factF cx) R mem bp s p mem') (ho : OutRow 57 (factF cx) mem.length oc s.xs mem') (hle : Le cx0 cx) (h1 : p0 ≤ p) (h2 : p ≤ p0 + e) (hx : s.xs.length ≤ n) :
    EndK d (fun cx' x m => ∃ v p', x = .v v ∧ m = mem.set R.k (R.blk p') ∧ Le cx0 cx' ∧ p0 ≤ p' ∧ p' ≤ p0 + e ∧ (∃ xs, IsList (factF cx') v xs ∧ xs.length ≤ n ∧ (∀ x ∈ xs, x.args.length ≤ 3))) cx oc mem' := by
  have e : mem' = mem.set R.k (R.blk p) ++ mem'.drop mem.length := by
    rw [← hP.take, List.take_append_drop]
  rcases ho with ⟨rfl, hx0⟩ | ⟨ko, bo, cap, rows, pad, rfl, hko, hm, hf, hrl, hxc, hcm, hpad⟩
  · rw [e]
    exact EndK.left ⟨_, p, rfl, rfl, hle, h1, h2, s.xs, ⟨none, 0, by rw [hx0]; rfl, by rw [hx0]; exact RdN.nil _ _, by rw [hx0]; simp, by decide⟩, hx, hP.args⟩
  · have hb : (⟨bo, rowsC rows pad, 57⟩ : Blk) ∈ mem'.drop mem.length := List.mem_of_getElem? (i := ko - mem.length) (by rw [List.getElem?_drop, show mem.length + (ko - mem.length) = ko by omega]; exact hm)
    have hf3 := hf
    rw [e]
    refine EndK.facts fun cxz hlz hfz => ⟨_, p, rfl, rfl, hle.trans hlz, h1, h2, s.xs, ⟨some ⟨bo, 0, none⟩, cap, rfl, ⟨rows, rows_row hf.len (hfz _ hb), hrl, (hf3.mono hlz.fact).at'⟩, hxc, hcm⟩, hx, hP.args⟩
def DenEq (mem mem2 : List Blk) : Prop := ∀ (k : Nat) b, mem2[k]? = some b → ∃ b0, mem[k]? = some b0 ∧ b0.id = b.id ∧ b0.ty = b.ty ∧ b0.cells.map den = b.cells.map den
theorem denEq_refl (mem : List Blk) : DenEq mem mem := fun k b h => ⟨b, h, rfl, rfl, rfl⟩
theorem denEq_new {m : List Blk} {b1 b2 : Blk} (h1 : b1.id = b2.id) (h2 : b1.ty = b2.ty) (h3 : b1.cells.map den = b2.cells.map den) : DenEq (m ++ [b1]) (m ++ [b2]) := by
  intro k bl hk
  by_cases hl : k < m.length
  · rw [List.getElem?_append_left hl] at hk
    exact ⟨bl, by rw [List.getElem?_append_left hl]; exact hk, rfl, rfl, rfl⟩
  · rw [List.getElem?_append_right (by omega)] at hk
    rcases hq : k - m.length with _ | q
    · rw [hq] at hk
      simp at hk
      subst hk
      exact ⟨b1, by rw [List.getElem?_append_right (by omega), hq]; rfl, h1, h2, h3⟩
    · rw [hq] at hk
      simp at hk
theorem memRel_den {cx : Cx} {mem mem2 : List Blk} {w : World} (hm : MemRel cx mem w) (h : DenEq mem mem2) : MemRel cx mem2 w where
  os := hm.os
  tape := hm.tape
  output := hm.output
  frame := hm.frame
  facts := hm.facts
  le01 := hm.le01
  le1 := hm.le1
  blk k b hb := by
    obtain ⟨b0, h0, e1, e2, e3⟩ := h k b hb
    have := hm.blk k b0 h0
    rw [e1, e2, e3] at this
    exact this
  fresh b hb := by
    obtain ⟨k, hk⟩ := List.getElem?_of_mem hb
    obtain ⟨b0, h0, e1, _⟩ := h k b hk
    rw [← e1]
    exact hm.fresh b0 (List.mem_of_getElem? h0)
  low b hb hl := by
    obtain ⟨k, hk⟩ := List.getElem?_of_mem hb
    obtain ⟨b0, h0, e1, _⟩ := h k b hk
    rw [← e1] at hl ⊢
    exact hm.low b0 (List.mem_of_getElem? h0) hl
  inj i j b c hi hj he := by
    obtain ⟨b0, h0, e0, _⟩ := h i b hi
    obtain ⟨c0, g0, f0, _⟩ := h j c hj
    exact hm.inj i j b0 c0 h0 g0 (by rw [e0, f0, he])
def rungU_S : Gens Tryz.prog 218 where
  ι := (Rdr × List Blk × Nat × PS × Int × Int)
  A := rungC_S.A
  pre := fun i cx mem => ∃ mem2, DenEq mem mem2 ∧ rungC_S.pre i cx mem2
  post := fun i cx mem cx' c mem' => rungC_S.post i cx mem cx' c mem'
  enter := Tryz.call218
  h := fun i cx mem w hp hm => by
    obtain ⟨mem2, h1, h2⟩ := hp
    exact rungC_S.h i cx mem2 w h2 (memRel_den hm h1)
def rungU : Con Tryz.prog := Con.gen rungU_S
theorem rung_play {d : Nat} {n p : Int} {K : Cx → C → List Blk → Prop} {R : Rdr} {cx0 cx : Cx} {mem0 mem : List Blk} {bp : Nat} {s : PS} (hR : R.Is (factF cx0) mem0) (hty : R.ty = 160) (hle : Le cx0 cx) (hP : ∃ mem2, DenEq mem mem2 ∧ Pl (factF cx) R mem0 bp s p mem2)
    (hp : 0 ≤ p ∧ p + 300000 ≤ 1125899906842624) (hl : s.xs.length ≤ 70000) (hf : s.forks = 0) (hn : 0 ≤ n ∧ n ≤ 40)
    (h : ∀ cx' s' p' mem', Le cx0 cx' → Pl (factF cx') R mem0 bp s' p' mem' → p ≤ p' → p' ≤ p + 300000 → s.xs.length < s'.xs.length → s'.xs.length ≤ s.xs.length + 1000 → s'.forks = 0 → K cx' (.v (.tuple #[])) mem') :
    GenV d rungU_S cx [.p mem0.length bp 0, .v (.int .i64 n)] mem K := by
  obtain ⟨mem2, hd, hP⟩ := hP
  refine ⟨(R, mem0, bp, s, p, n), rfl, ⟨mem2, hd, hty, hR.on hle.fact (Nat.le_refl _), hP, hp.1, hp.2, hl, hf, hn.1, hn.2⟩, ?_⟩
  rintro cx' c mem' ⟨rfl, h1, s', p', h2, h3, h4, h5, h6, h7⟩
  exact h _ _ _ _ (hle.trans h1) h2 h3 h4 h5 h6 h7
theorem l7SureC_c  (R : Rdr) (p : Int) (cx : Cx) (mem : List Blk) (w : World) (hty : R.ty = 160) (hR : R.Is (factF cx) mem) (hp : 0 ≤ p) (hpc : p + 1100000000 ≤ 1125899906842624) (hpre : True) (hm : MemRel cx (mem.set R.k (R.blk p)) w) :
    Calls Tryz.prog 158 ((.p R.k R.b 0 :: [] : List C).map den).toArray w fun e w' => ∃ cx' x mem', e = .returned (den x) ∧ MemRel cx' mem' w' ∧ (fun cx' x mem' => ∃ v p', x = .v v ∧ mem' = mem.set R.k (R.blk p') ∧ Le cx cx' ∧ p ≤ p' ∧ p' ≤ p + 1100000000 ∧ (∃ xs, IsList (factF cx') v xs ∧ xs.length ≤ 5000 ∧ (∀ x ∈ xs, x.args.length ≤ 3))) cx' x mem' := by
  refine step_of_vcs ⟨[pickC, rungU], []⟩ hmx Tryz.func158 rfl (by kernel_rfl) (args := .p R.k R.b 0 :: []) (by simp [Tryz.ntmps158]) hm (fun cx' x mem' => ∃ v p', x = .v v ∧ mem' = mem.set R.k (R.blk p') ∧ Le cx cx' ∧ p ≤ p' ∧ p' ≤ p + 1100000000 ∧ (∃ xs, IsList (factF cx') v xs ∧ xs.length ≤ 5000 ∧ (∀ x ∈ xs, x.args.length ≤ 3))) 400 ?_
  have hlt := hR.lt
  simp (maxSteps := 4000000) -dsimp [-Y1, -Array.all_eq_true, -Y3, -Y4, and_assoc, Y5, Tryz.f158, pickC, rungU, hlt]
  intro b
  refine pickC_at hR hty (Le.refl cx) ⟨by omega, by omega⟩ (by omega) ?_
  rintro cx1 _ p1 hle1 - q1 q2 ⟨y, rfl, y0, y1⟩
  by_cases hy : y = 0
  · subst hy
    simp (maxSteps := 4000000) -dsimp [-Y1, -Array.all_eq_true, -Y3, -Y4, and_assoc, Y5, Tryz.f158, pickC, rungU, hlt]
    exact EndK.left ⟨_, p1, rfl, rfl, hle1, by omega, by omega, [], ⟨none, 0, rfl, RdN.nil _ _, by simp, by decide⟩, by simp, by simp⟩
  simp (maxSteps := 4000000) -dsimp [-Y1, -Array.all_eq_true, -Y3, -Y4, and_assoc, Y5, Tryz.f158, pickC, rungU, hlt, hy]
  refine pickC_at hR hty hle1 ⟨by omega, by omega⟩ (by omega) ?_
  rintro cx2 _ p2 hle2 - r1 r2 ⟨z, rfl, z0, z1⟩
  have hw : IntKind.i64.wrap (1 + z) = 1 + z := wrap_i64 (by omega) (by omega)
  simp (maxSteps := 4000000) -dsimp [-Y1, -Array.all_eq_true, -Y3, -Y4, and_assoc, Y5, Tryz.f158, pickC, rungU, hlt, hw]
  refine loop_inv (σ := ⟨[pickC, rungU], []⟩) hmx (by kernel_rfl) (fun q cx' tm mem' => Le cx cx' ∧ ∃ (i : Int) (s' : PS) (p' : Int), q = i.toNat ∧ 0 ≤ i ∧ i ≤ 3 ∧ ((1 ≤ i ∧ s' = ⟨[], 0, 0, false, false⟩ ∧ mem' = mem.set R.k (R.blk p') ++ [⟨b, [.v (.pointer (some ⟨R.b, 0, none⟩)), .v (.slice none 0 0), .v (.int .i64 0), .v (.int .i64 0), .v (.bool false), .v (.bool false)], 206⟩]) ∨ Pl (factF cx') R mem b s' p' mem') ∧ s'.forks = 0 ∧ p ≤ p' ∧ p' ≤ p + 2 + 300001 * (3 - i) ∧ (s'.xs.length : Int) ≤ 1000 * (3 - i) ∧ Sx.look tm 4 = .v (.int .i64 i) ∧ Sx.look tm 3 = .p mem.length b 0 ∧ Sx.look tm 0 = .p R.k R.b 0)
    (1 + z).toNat ⟨hle2, 1 + z, _, p2, rfl, by omega, by omega, Or.inl ⟨by omega, rfl, rfl⟩, rfl, by omega, by omega, by simp; omega, by simp [Sx.look], by simp [Sx.look], by simp [Sx.look]⟩ ?_
  rintro q cx3 tm mem3 ⟨hle3, i, s3, p3, rfl, i0, i1, hD, hf3, a1, a2, a3, j4, j3, j0⟩
  refine ⟨400, ?_⟩
  by_cases hi : 0 < i
  · have hw2 : IntKind.i64.wrap (i - 1) = i - 1 := wrap_i64 (by omega) (by omega)
    have fin : ∀ cx5 s5 p5 mem5, Le cx cx5 → Pl (factF cx5) R mem b s5 p5 mem5 → p3 ≤ p5 → p5 ≤ p3 + 300001 → s5.xs.length ≤ s3.xs.length + 1000 → s5.forks = 0 →
        Le cx cx5 ∧ (0 ≤ i - 1 ∧ i - 1 ≤ 3) ∧ Pl (factF cx5) R mem b s5 p5 mem5 ∧ s5.forks = 0 ∧ p ≤ p5 ∧ p5 ≤ p + 2 + 300001 * (3 - (i - 1)) ∧ (s5.xs.length : Int) ≤ 1000 * (3 - (i - 1)) := by
      intro cx5 s5 p5 mem5 h1 h2 h3 h4 h5 h6
      exact ⟨h1, ⟨by omega, by omega⟩, h2, h6, by omega, by omega, by omega⟩
    rcases hD with ⟨-, rfl, rfl⟩ | hP3
    · simp (maxSteps := 4000000) -dsimp [-Y1, -Array.all_eq_true, -Y3, -Y4, and_assoc, Y5, Tryz.f158, pickC, rungU, hlt, j4, j3, j0, hi]
      refine pickC_at hR hty hle3 ⟨by omega, by omega⟩ (by omega) ?_
      rintro cx4 _ p4 hle4 - d1 d2 ⟨v, rfl, v0, v1⟩
      simp (maxSteps := 4000000) -dsimp [-Y1, -Array.all_eq_true, -Y3, -Y4, and_assoc, Y5, Tryz.f158, pickC, rungU, hlt, j4, j3, j0, hi, Con.gen]
      refine rung_play (s := ⟨[], 0, 0, false, false⟩) (p := p4) hR hty hle4 ⟨_, denEq_new (b2 := ⟨b, [.p R.k R.b 0, .v (.slice none 0 0), .v (.int .i64 0), .v (.int .i64 0), .v (.bool false), .v (.bool false)], 206⟩) rfl rfl rfl, play_new hlt⟩ ⟨by omega, by omega⟩ (Nat.zero_le _) rfl ⟨by omega, by omega⟩ ?_
      rintro cx5 s5 p5 mem5 hle5 hP5 e1 e2 e3 e4 e5
      simp (maxSteps := 4000000) -dsimp [-Y1, -Array.all_eq_true, -Y3, -Y4, and_assoc, Y5, Tryz.f158, pickC, rungU, hlt, j4, j3, j0, hi, hw2]
      exact ⟨mem5.length, (i - 1).toNat, by omega, hle5, i - 1, rfl, by omega, by omega, s5, p5, Or.inr (by rw [List.take_of_length_le (by simp)]; exact hP5), e5, by omega, by omega, by simp at e4; omega, rfl⟩
    · simp (maxSteps := 4000000) -dsimp [-Y1, -Array.all_eq_true, -Y3, -Y4, and_assoc, Y5, Tryz.f158, pickC, rungU, hlt, j4, j3, j0, hi]
      refine pick_play hR hty hle3 hP3 (by omega) (by omega) ?_
      rintro cx4 _ p4 mem4 hle4 hP4 d1 d2 ⟨v, rfl, v0, v1⟩
      simp (maxSteps := 4000000) -dsimp [-Y1, -Array.all_eq_true, -Y3, -Y4, and_assoc, Y5, Tryz.f158, pickC, rungU, hlt, j4, j3, j0, hi, Con.gen]
      refine rung_play hR hty hle4 ⟨_, denEq_refl _, hP4⟩ ⟨by omega, by omega⟩ (by omega) hf3 ⟨by omega, by omega⟩ ?_
      rintro cx5 s5 p5 mem5 hle5 hP5 e1 e2 e3 e4 e5
      simp (maxSteps := 4000000) -dsimp [-Y1, -Array.all_eq_true, -Y3, -Y4, and_assoc, Y5, Tryz.f158, pickC, rungU, hlt, j4, j3, j0, hi, hw2]
      exact ⟨mem5.length, (i - 1).toNat, by omega, hle5, i - 1, rfl, by omega, by omega, s5, p5, Or.inr (by rw [List.take_of_length_le (by simp)]; exact hP5), e5, by omega, by omega, by omega, rfl⟩
  · have hP3 : Pl (factF cx3) R mem b s3 p3 mem3 := by
      rcases hD with ⟨h, _⟩ | h
      · omega
      · exact h
    simp (maxSteps := 4000000) -dsimp [-Y1, -Array.all_eq_true, -Y3, -Y4, and_assoc, Y5, Tryz.f158, pickC, rungU, hlt, j4, j3, j0, hi]
    refine pick_play hR hty hle3 hP3 (by omega) (by omega) ?_
    rintro cx4 _ p4 mem4 hle4 hP4 d1 d2 ⟨v, rfl, v0, v1⟩
    have hn4 := hP4.lt
    by_cases hv : v = 0
    · subst hv
      simp (maxSteps := 4000000) -dsimp [-Y1, -Array.all_eq_true, -Y3, -Y4, and_assoc, Y5, Tryz.f158, pickC, rungU, hlt, j4, j3, j0, hi]
      refine loop_inv (σ := ⟨[pickC, rungU], []⟩) hmx (by kernel_rfl) (fun q cx' tm mem' => Le cx cx' ∧ ∃ (s' : PS) (p' : Int), q = 60 - s'.xs.length ∧ Pl (factF cx') R mem b s' p' mem' ∧ s'.forks = 0 ∧ p ≤ p' ∧ p' ≤ p + 1000000 + 300001 * s'.xs.length ∧ s'.xs.length ≤ 3000 ∧ Sx.look tm 3 = .p mem.length b 0 ∧ Sx.look tm 0 = .p R.k R.b 0)
        (60 - s3.xs.length) ⟨hle4, s3, p4, rfl, hP4, hf3, by omega, by omega, by omega, by first | exact j3 | simp [Sx.look, j3], by first | exact j0 | simp [Sx.look, j0]⟩ ?_
      rintro q cx5 tm5 mem5 ⟨hle5, s5, p5, rfl, hP5, f5, b1, b2, b3, k3, k0⟩
      refine ⟨400, ?_⟩
      have hn5 := hP5.lt
      obtain ⟨oc5, hk6, ho5⟩ := hP5.ex
      unfold playBlk at hk6
      have hk7 := (List.getElem?_eq_some_iff.1 hk6).2
      have ho6 := ho5
      rcases ho6 with ⟨rfl, hx0⟩ | ⟨ko, bo, cap, rows, pad, rfl, -⟩
      · have hx1 : s5.xs.length = 0 := by rw [hx0]; rfl
        simp (maxSteps := 4000000) -dsimp [-Y1, -Array.all_eq_true, -Y3, -Y4, and_assoc, Y5, Tryz.f158, pickC, rungU, hlt, k3, k0, hn5, hk6, hk7]
        refine pick_play hR hty hle5 hP5 (by omega) (by omega) ?_
        rintro cx6 _ p6 mem6 hle6 hP6 g1 g2 ⟨u, rfl, u0, u1⟩
        simp (maxSteps := 4000000) -dsimp [-Y1, -Array.all_eq_true, -Y3, -Y4, and_assoc, Y5, Tryz.f158, pickC, rungU, hlt, k3, k0, Con.gen]
        refine rung_play hR hty hle6 ⟨_, denEq_refl _, hP6⟩ ⟨by omega, by omega⟩ (by omega) f5 ⟨by omega, by omega⟩ ?_
        rintro cx7 s7 p7 mem7 hle7 hP7 e1 e2 e3 e4 e5
        simp (maxSteps := 4000000) -dsimp [-Y1, -Array.all_eq_true, -Y3, -Y4, and_assoc, Y5, Tryz.f158, pickC, rungU, hlt, k3, k0]
        exact ⟨mem7.length, 60 - s7.xs.length, by omega, hle7, s7, rfl, p7, by rw [List.take_of_length_le (by simp)]; exact hP7, e5, by omega, by omega, by omega⟩
      · by_cases h60 : (s5.xs.length : Int) < 60
        · simp (maxSteps := 4000000) -dsimp [-Y1, -Array.all_eq_true, -Y3, -Y4, and_assoc, Y5, Tryz.f158, pickC, rungU, hlt, k3, k0, hn5, hk6, hk7, h60]
          refine pick_play hR hty hle5 hP5 (by omega) (by omega) ?_
          rintro cx6 _ p6 mem6 hle6 hP6 g1 g2 ⟨u, rfl, u0, u1⟩
          simp (maxSteps := 4000000) -dsimp [-Y1, -Array.all_eq_true, -Y3, -Y4, and_assoc, Y5, Tryz.f158, pickC, rungU, hlt, k3, k0, Con.gen]
          refine rung_play hR hty hle6 ⟨_, denEq_refl _, hP6⟩ ⟨by omega, by omega⟩ (by omega) f5 ⟨by omega, by omega⟩ ?_
          rintro cx7 s7 p7 mem7 hle7 hP7 e1 e2 e3 e4 e5
          simp (maxSteps := 4000000) -dsimp [-Y1, -Array.all_eq_true, -Y3, -Y4, and_assoc, Y5, Tryz.f158, pickC, rungU, hlt, k3, k0]
          exact ⟨mem7.length, 60 - s7.xs.length, by omega, hle7, s7, rfl, p7, by rw [List.take_of_length_le (by simp)]; exact hP7, e5, by omega, by omega, by omega⟩
        · simp (maxSteps := 4000000) -dsimp [-Y1, -Array.all_eq_true, -Y3, -Y4, and_assoc, Y5, Tryz.f158, pickC, rungU, hlt, k3, k0, hn5, hk6, hk7, h60]
          exact play_end hP5 ho5 hle5 (by omega) (by omega) (by omega)
    · obtain ⟨oc4, hk4, ho4⟩ := hP4.ex
      unfold playBlk at hk4
      have hk5 := (List.getElem?_eq_some_iff.1 hk4).2
      simp (maxSteps := 4000000) -dsimp [-Y1, -Array.all_eq_true, -Y3, -Y4, and_assoc, Y5, Tryz.f158, pickC, rungU, hlt, j4, j3, j0, hi, hv, hn4, hk4, hk5]
      exact play_end hP4 ho4 hle4 (by omega) (by omega) (by omega)
def l7SureC_S : Draws Tryz.prog 160 1100000000 158 where
  ι := Unit
  A := fun (_u : Unit) => []
  pre := fun (_u : Unit) (F : Facts) => True
  post := fun (_u : Unit) (v : Value) (F : Facts) => ∃ xs, IsList F v xs ∧ xs.length ≤ 5000 ∧ (∀ x ∈ xs, x.args.length ≤ 3)
  mono := fun _ _ _ _ _ => trivial
  enter := Tryz.call158
  h := fun _u R p cx mem w h1 h2 h3 h4 h5 h6 => l7SureC_c  R p cx mem w h1 h2 h3 h4 h5 h6
def l7SureC : Con Tryz.prog := Con.draw l7SureC_S
theorem l7SureC_at0  {d : Nat} {R : Rdr} {cx0 cx : Cx} {mem0 : List Blk} {K : Cx → C → List Blk → Prop} {p : Int} (hR : R.Is (factF cx0) mem0) (hty : R.ty = 160) (hle : Le cx0 cx) (hp : 0 ≤ p ∧ p + 1100000000 ≤ 1125899906842624) (hpre : True)
    (h : ∀ cx' v p', Le cx0 cx' → Le cx cx' → p ≤ p' → p' ≤ p + 1100000000 → (∃ xs, IsList (factF cx') v xs ∧ xs.length ≤ 5000 ∧ (∀ x ∈ xs, x.args.length ≤ 3)) → K cx' (.v v) (mem0.set R.k (R.blk p'))) :
    DrawV d l7SureC_S cx [.p R.k R.b 0] (mem0.set R.k (R.blk p)) K := DrawV.at0 (S := l7SureC_S) hR hty hle () hp hpre h

theorem rowsC_fold (rows : List (List Value)) (pad : List C) : (List.map (List.map C.v) rows).flatten ++ pad = rowsC rows pad := by simp [rowsC]
theorem one_rows {F : Facts} {rows : List (List Value)} {xs : List Ins} (hf : RdF F rows xs) : (List.flatten rows).all (C.one ∘ C.v) = true := by
  rw [List.all_eq_true]
  intro v hv
  simp only [List.mem_flatten] at hv
  obtain ⟨r, hr, hv⟩ := hv
  obtain ⟨j, hj⟩ := List.getElem?_of_mem hr
  have hjl := (List.getElem?_eq_some_iff.1 hj).1
  have := hf.le
  obtain ⟨o, c, e, _⟩ := (hf.at' j r (xs[j]'(by omega)) hj (by simp [show j < xs.length by omega])).ex
  subst e
  simp only [List.mem_cons, List.not_mem_nil, or_false] at hv
  rcases hv with rfl | rfl | rfl <;> rfl
theorem list_end {F : Facts} {b : Nat} {rows : List (List Value)} {ys : List Ins} {pad : List C} {n cap : Nat} (h : ∀ (off : Nat) c, (rowsC rows pad)[off]? = some c → F ⟨b, off, none⟩ = some (den c)) (hf : RdF F rows ys) (hr : rows.length = ys.length) (hn : n = ys.length) (h1 : n ≤ cap) (h2 : cap ≤ maxLen) :
    IsList F (.slice (some ⟨b, 0, none⟩) n cap) ys := by
  subst hn
  exact ⟨_, _, rfl, ⟨rows, rows_row hf.len h, hr, hf.at'⟩, h1, h2⟩
theorem args_one {A : Nat} {xs : List Ins} {x : Ins} (h : ∀ y ∈ xs, y.args.length ≤ A) (hx : x.args.length ≤ A) : ∀ y ∈ xs ++ [x], y.args.length ≤ A := by
  intro y hy
  rcases List.mem_append.1 hy with h1 | h1
  · exact h y h1
  · rw [List.mem_singleton] at h1; rw [h1]; omega
theorem rowsC_cut {rows : List (List Value)} {pad : List C} (n : Nat) : rowsC rows pad = rowsC (rows.take n) ((List.flatten (rows.drop n)).map C.v ++ pad) := by
  unfold rowsC
  rw [← List.append_assoc, ← List.map_append, ← List.flatten_append, List.take_append_drop]
theorem rdF_take {F : Facts} {rows : List (List Value)} {xs : List Ins} (h : RdF F rows xs) (n : Nat) (hl : rows.length = xs.length) : RdF F (rows.take n) (xs.take n) := by
  refine ⟨by simp [hl], fun j r x h1 h2 => ?_⟩
  rw [List.getElem?_take] at h1 h2
  split at h1
  · rename_i hj
    rw [if_pos hj] at h2
    exact h.at' j r x h1 h2
  · simp at h1
theorem flat_set {α : Type} {size : Nat} : ∀ (l : List (List α)) (i : Nat) r, (∀ r ∈ l, r.length = size) → l[i]? = some r → ∀ (j : Nat) x, j < size → l.flatten.set (i * size + j) x = (l.set i (r.set j x)).flatten := by
  intro l
  induction l with
  | nil => intro i r _ h; simp at h
  | cons s l ih =>
    intro i r hr h j x hj
    have hs : s.length = size := hr s (by simp)
    cases i with
    | zero =>
      simp at h
      subst h
      simp only [List.flatten_cons, List.set_cons_zero, Nat.zero_mul, Nat.zero_add]
      rw [List.set_append_left _ _ (by omega)]
    | succ i =>
      simp at h
      simp only [List.flatten_cons, List.set_cons_succ]
      rw [List.set_append_right _ _ (by rw [hs, Nat.add_mul]; omega), ← ih i r (fun r hr' => hr r (by simp [hr'])) h j x hj]
      congr 2
      rw [hs, Nat.add_mul]; omega
theorem rowsC_setc {rows : List (List Value)} {pad : List C} {i : Nat} {r : List Value} (hr3 : ∀ r ∈ rows, r.length = 3) (h : rows[i]? = some r) (j : Nat) (x : Value) (hj : j < 3) : (rowsC rows pad).set (i * 3 + j) (.v x) = rowsC (rows.set i (r.set j x)) pad := by
  have hi := (List.getElem?_eq_some_iff.1 h).1
  unfold rowsC
  rw [List.set_append_left _ _ (by rw [List.length_map, len_flat hr3]; omega), ← List.map_set, flat_set rows i r hr3 h j x hj]
theorem rdF_set {F : Facts} {rows : List (List Value)} {xs : List Ins} (h : RdF F rows xs) (hl : rows.length = xs.length) (i : Nat) {r : List Value} {x : Ins} (hr : RdR F r x) : RdF F (rows.set i r) (xs.set i x) := by
  refine ⟨by simp [hl], fun j r' x' h1 h2 => ?_⟩
  rw [List.getElem?_set] at h1 h2
  by_cases hj : i = j
  · rw [if_pos hj] at h1 h2
    split at h1
    · simp at h1
      split at h2
      · simp at h2
        subst h1 h2
        exact hr
      · simp at h2
    · simp at h1
  · rw [if_neg hj] at h1 h2
    exact h.at' j r' x' h1 h2
theorem args_set {A : Nat} {xs : List Ins} {x : Ins} {i : Nat} (h : ∀ y ∈ xs, y.args.length ≤ A) (hx : x.args.length ≤ A + 1) : ∀ y ∈ xs.set i x, y.args.length ≤ A + 1 := by
  intro y hy
  rcases List.mem_or_eq_of_mem_set hy with h1 | h1
  · have := h y h1; omega
  · rw [h1]; exact hx
theorem rowsC_split {rows : List (List Value)} {pad : List C} {i : Nat} {r : List Value} (hr3 : ∀ r ∈ rows, r.length = 3) (h : rows[i]? = some r) : ∃ A B, A.length = i * 3 ∧ rowsC rows pad = A ++ (r.map C.v ++ B) ∧ ∀ r', rowsC (rows.set i r') pad = A ++ (r'.map C.v ++ B) := by
  have hi := (List.getElem?_eq_some_iff.1 h).1
  have key : ∀ r', rowsC (rows.set i r') pad = (List.flatten (rows.take i)).map C.v ++ (r'.map C.v ++ ((List.flatten (rows.drop (i + 1))).map C.v ++ pad)) := by
    intro r'
    unfold rowsC
    rw [List.set_eq_take_append_cons_drop, if_pos hi]
    simp
  refine ⟨_, _, ?_, ?_, key⟩
  · rw [List.length_map, len_flat (size := 3) (fun r hr => hr3 r (List.mem_of_mem_take hr)), List.length_take]; omega
  · have := key r
    rw [set_self h] at this
    exact this
theorem rowsC_setr {rows : List (List Value)} {pad : List C} {i : Nat} {r : List Value} (hr3 : ∀ r ∈ rows, r.length = 3) (h : rows[i]? = some r) (a b c : Value) : List.take (i * 3) (rowsC rows pad) ++ C.v a :: C.v b :: C.v c :: List.drop (i * 3 + 3) (rowsC rows pad) = rowsC (rows.set i [a, b, c]) pad := by
  obtain ⟨A, B, h1, h2, h3⟩ := rowsC_split (pad := pad) hr3 h
  have hr := hr3 r (List.mem_of_getElem? h)
  rw [h3, h2, List.take_left' h1, ← List.append_assoc A, List.drop_left' (by rw [List.length_append, List.length_map, h1, hr])]
  simp
theorem rowsC_one {rows : List (List Value)} {pad : List C} {i : Nat} {a b c : Value} (hr3 : ∀ r ∈ rows, r.length = 3) (h : rows[i]? = some [a, b, c]) : List.take 2 (List.drop (i * 3 + 1) (rowsC rows pad)) = [C.v b, C.v c] := by
  obtain ⟨A, B, h1, h2, h3⟩ := rowsC_split (pad := pad) hr3 h
  rw [h2, show A ++ ([a, b, c].map C.v ++ B) = (A ++ [C.v a]) ++ (C.v b :: C.v c :: B) by simp, List.drop_left' (by simp [h1])]
  rfl
theorem rowsC_set1 {rows : List (List Value)} {pad : List C} {i : Nat} {a b c : Value} (hr3 : ∀ r ∈ rows, r.length = 3) (h : rows[i]? = some [a, b, c]) (b' c' : Value) : List.take (i * 3 + 1) (rowsC rows pad) ++ C.v b' :: C.v c' :: List.drop (i * 3 + 1 + 2) (rowsC rows pad) = rowsC (rows.set i [a, b', c']) pad := by
  obtain ⟨A, B, h1, h2, h3⟩ := rowsC_split (pad := pad) hr3 h
  have e1 : List.take (i * 3 + 1) (rowsC rows pad) = A ++ [C.v a] := by
    rw [h2, show A ++ ([a, b, c].map C.v ++ B) = (A ++ [C.v a]) ++ (C.v b :: C.v c :: B) by simp, List.take_left' (by simp [h1])]
  have e2 : List.drop (i * 3 + 1 + 2) (rowsC rows pad) = B := by
    rw [h2, ← List.append_assoc A, List.drop_left' (by simp [h1])]
  rw [e1, e2, h3]
  simp
theorem rowsC_at3 {rows : List (List Value)} {pad : List C} {i : Nat} {a b c : Value} (hr3 : ∀ r ∈ rows, r.length = 3) (h : rows[i]? = some [a, b, c]) : List.take 3 (List.drop (i * 3) (rowsC rows pad)) = [C.v a, C.v b, C.v c] := by
  obtain ⟨A, B, h1, h2, h3⟩ := rowsC_split (pad := pad) hr3 h
  rw [h2, List.drop_left' h1]
  rfl
theorem args_set3 {A : Nat} {xs : List Ins} {x : Ins} {i : Nat} (h : ∀ y ∈ xs, y.args.length ≤ A) (hx : x.args.length ≤ A) : ∀ y ∈ xs.set i x, y.args.length ≤ A := by
  intro y hy
  rcases List.mem_or_eq_of_mem_set hy with h1 | h1
  · exact h y h1
  · rw [h1]; exact hx
theorem rowsC_tk {rows : List (List Value)} {pad : List C} {m : Nat} (hr3 : ∀ r ∈ rows, r.length = 3) (hm : m ≤ rows.length) : List.take (m * 3) (rowsC rows pad) = (List.flatten (rows.take m)).map C.v := by
  rw [rowsC_cut m]
  exact rowsC_take (fun r hr => hr3 r (List.mem_of_mem_take hr)) (by rw [List.length_take]; congr 1; omega)
theorem rowsC_mid {rows : List (List Value)} {pad : List C} {m : Nat} (hr3 : ∀ r ∈ rows, r.length = 3) (hm : m ≤ rows.length) : List.take ((rows.length - m) * 3) (List.drop (m * 3) (rowsC rows pad)) = (List.flatten (rows.drop m)).map C.v := by
  rw [rowsC_cut m]
  unfold rowsC
  rw [List.drop_left' (by rw [List.length_map, len_flat (size := 3) (fun r hr => hr3 r (List.mem_of_mem_take hr)), List.length_take]; congr 1; omega), List.take_left' (by rw [List.length_map, len_flat (size := 3) (fun r hr => hr3 r (List.mem_of_mem_drop hr)), List.length_drop])]
theorem rdF_drop {F : Facts} {rows : List (List Value)} {xs : List Ins} (h : RdF F rows xs) (n : Nat) (hl : rows.length = xs.length) : RdF F (rows.drop n) (xs.drop n) := by
  refine ⟨by simp [hl], fun j r x h1 h2 => ?_⟩
  rw [List.getElem?_drop] at h1 h2
  exact h.at' _ r x h1 h2
theorem rdF_app {F : Facts} {r1 r2 : List (List Value)} {x1 x2 : List Ins} (h1 : RdF F r1 x1) (hl : r1.length = x1.length) (h2 : RdF F r2 x2) (hl2 : r2.length = x2.length) : RdF F (r1 ++ r2) (x1 ++ x2) := by
  refine ⟨by simp [hl, hl2], fun j r x g1 g2 => ?_⟩
  rw [List.getElem?_append] at g1 g2
  rw [hl] at g1
  split at g1
  · rename_i hj
    rw [if_pos hj] at g2
    exact h1.at' j r x g1 g2
  · rename_i hj
    rw [if_neg hj] at g2
    exact h2.at' _ r x g1 g2
theorem l7SpoilC_c (L A : Nat) (o : Option Addr) (cap : Nat) (xs : List Ins) (R : Rdr) (p : Int) (cx : Cx) (mem : List Blk) (w : World) (hty : R.ty = 160) (hR : R.Is (factF cx) mem) (hp : 0 ≤ p) (hpc : p + 10000 ≤ 1125899906842624) (hpre : RdN (factF cx) o xs ∧ xs.length ≤ L ∧ (∀ x ∈ xs, x.args.length ≤ A) ∧ L ≤ 7000 ∧ 3 ≤ A ∧ A ≤ 90) (hm : MemRel cx (mem.set R.k (R.blk p)) w) :
    Calls Tryz.prog 93 ((.p R.k R.b 0 :: [.v (.slice o xs.length cap)] : List C).map den).toArray w fun e w' => ∃ cx' x mem', e = .returned (den x) ∧ MemRel cx' mem' w' ∧ (fun cx' x mem' => ∃ v p', x = .v v ∧ mem' = mem.set R.k (R.blk p') ∧ Le cx cx' ∧ p ≤ p' ∧ p' ≤ p + 10000 ∧ (∃ ys, IsList (factF cx') v ys ∧ ys.length ≤ L + 2000 ∧ (∀ x ∈ ys, x.args.length ≤ A + 1))) cx' x mem' := by
  refine step_of_vcs ⟨[pickC, l7InstC, l4SpoilC, l4AnyC], [(10, [(1, false), (2, false), (3, false), (5, false), (9, false), (10, false), (11, false), (0, false), (4, false), (6, false), (7, false), (8, false), (12, false), (13, false)])]⟩ hmx Tryz.func93 rfl (by kernel_rfl) (args := .p R.k R.b 0 :: [.v (.slice o xs.length cap)]) (by simp [Tryz.ntmps93]) hm (fun cx' x mem' => ∃ v p', x = .v v ∧ mem' = mem.set R.k (R.blk p') ∧ Le cx cx' ∧ p ≤ p' ∧ p' ≤ p + 10000 ∧ (∃ ys, IsList (factF cx') v ys ∧ ys.length ≤ L + 2000 ∧ (∀ x ∈ ys, x.args.length ≤ A + 1))) 400 ?_
  obtain ⟨hx, hl, hxa, hL, hA, hA2⟩ := hpre
  obtain ⟨rows, g1, g2, g3⟩ := hx.ex
  have hf : RdF (factF cx) rows xs := ⟨by omega, g3⟩
  have hr3 := hf.len
  have hlt := hR.lt
  have hle := Le.refl cx
  have h2 : xs.length ≤ maxLen := by unfold maxLen; omega
  have h3 : xs.length * 40 ≤ 140737488355328 := by omega
  simp (maxSteps := 4000000) -dsimp [-Y1, -Array.all_eq_true, -Y3, -Y4, and_assoc, Y5, Tryz.f93, pickC, l7InstC, l4SpoilC, l4AnyC, hlt]
  intro b
  rw [RdO.sl (g1.mono (sub_now _ _)) (by decide) (by omega)]
  have h1 : rows.all ((fun x => x.all C.one) ∘ List.map C.v) = true := by simpa using one_rows hf
  unfold GrowV
  simp (maxSteps := 4000000) -dsimp [-Y1, -Array.all_eq_true, -Y3, -Y4, and_assoc, Y5, Tryz.f93, pickC, l7InstC, l4SpoilC, l4AnyC, hlt, h1, h2, h3, rowsC_fold]
  intro b' cap' pad c1 c2 c3
  have h4 : (rowsC rows pad).length = cap' * 3 := by rw [rowsC_len hr3, g2]; omega
  by_cases hnil : xs = []
  · refine ⟨fun _ => ?_, fun h => absurd hnil h⟩
    refine l7InstC_at hR hty hle ⟨by omega, by omega⟩ trivial ?_
    rintro cx1 _ p1 hle1 hleA q1 q2 ⟨⟨ic, iop, ixs⟩, ⟨⟨io, icap, rfl, ihd, ihc1, ihc2⟩⟩, ihl⟩
    simp (maxSteps := 4000000) -dsimp [-Y1, -Array.all_eq_true, -Y3, -Y4, and_assoc, Y5, Tryz.f93, pickC, l7InstC, l4SpoilC, l4AnyC, hlt]
    intro cx3 lit hle3 hl3
    rw [RdO.sl (size := 3) (rows := [[.int .i64 ic, .int .i64 iop, .slice io ixs.length icap]]) ((hl3.mono ((sub_new cx3).trans (sub_now _ _))).rows (by decide) (by simp) (by simp)) (by decide) (by simp)]
    unfold GrowV
    have h5 : xs.length + 1 ≤ maxLen := by unfold maxLen; omega
    have hrt := rowsC_take (pad := pad) hr3 (n := xs.length * 3) (by rw [g2])
    simp (maxSteps := 4000000) -dsimp [-Y1, -Array.all_eq_true, -Y3, -Y4, and_assoc, Y5, Tryz.f93, pickC, l7InstC, l4SpoilC, l4AnyC, hlt, h4, hrt, c1, c2, h5]
    refine ⟨by omega, fun b'' cap'' pad'' d1 d2 d3 => ?_⟩
    have hr4 : RdF (factF cx3) (rows ++ [[.int .i64 ic, .int .i64 iop, .slice io ixs.length icap]]) (xs ++ [⟨ic, iop, ixs⟩]) := RdF.push (hf.mono (hle1.trans hle3).fact) g2 (RdR.mk ⟨io, icap, rfl, ihd.mono hle3.fact, ihc1, ihc2⟩)
    refine EndK.facts fun cxz hlz hfz => ⟨_, _, rfl, rfl, (hle1.trans hle3).trans hlz, by omega, by omega, xs ++ [⟨ic, iop, ixs⟩], list_end (rows := rows ++ [[.int .i64 ic, .int .i64 iop, .slice io ixs.length icap]]) (pad := pad'') (fun off c hc => hfz _ List.mem_cons_self off c (by simpa [rowsC] using hc)) (hr4.mono hlz.fact) (by simp [g2]) (by simp) d1 d2, by simp; omega, args_one (fun x hx => by have := hxa x hx; omega) (by simp only at ihl ⊢; omega)⟩
  · refine ⟨fun h => absurd h hnil, fun _ => ?_⟩
    have hn0 : ¬ xs.length = 0 := fun h => hnil (List.length_eq_zero_iff.1 h)
    refine pickC_at hR hty hle ⟨by omega, by omega⟩ (by omega) ?_
    rintro cx1 _ p1 hle1 - q1 q2 ⟨k, rfl, k1, k2⟩
    have hk3 : k < xs.length := by omega
    obtain ⟨r, hrk⟩ : ∃ r, rows[k.toNat]? = some r := ⟨_, List.getElem?_eq_getElem (by omega)⟩
    obtain ⟨x, hxk⟩ : ∃ x, xs[k.toNat]? = some x := ⟨_, List.getElem?_eq_getElem (by omega)⟩
    obtain ⟨ro, rc, re, rd, rc1, rc2⟩ := (hf.at' _ _ _ hrk hxk).ex
    subst re
    simp (maxSteps := 4000000) -dsimp [-Y1, -Array.all_eq_true, -Y3, -Y4, and_assoc, Y5, Tryz.f93, pickC, l7InstC, l4SpoilC, l4AnyC, hlt, hn0]
    refine pickC_at hR hty hle1 ⟨by omega, by omega⟩ (by omega) ?_
    rintro cx2 _ p2 hle2 - q3 q4 ⟨y, rfl, y1, y2⟩
    by_cases e5 : y = 5
    · subst e5
      simp (maxSteps := 4000000) -dsimp [-Y1, -Array.all_eq_true, -Y3, -Y4, and_assoc, Y5, Tryz.f93, pickC, l7InstC, l4SpoilC, l4AnyC, hlt, k1, k2, hk3, h4, c1, c2]
      refine ⟨by omega, EndK.facts fun cxz hlz hfz => ⟨_, _, rfl, rfl, hle2.trans hlz, by omega, by omega, xs.take k.toNat, list_end (rows := rows.take k.toNat) (pad := (List.flatten (rows.drop k.toNat)).map C.v ++ pad) (fun off c hc => hfz _ List.mem_cons_self off c (by
        show (rowsC rows pad)[off]? = some c
        rw [rowsC_cut (rows := rows) k.toNat]; exact hc)) ((rdF_take hf k.toNat g2).mono (hle2.trans hlz).fact) (by simp [g2]) (by simp; omega) (by omega) c2, by simp; omega, fun x hx => by have := hxa x (List.mem_of_mem_take hx); omega⟩⟩
    by_cases e0 : y = 0
    · subst e0
      have hw : IntKind.i64.wrap (k + 1) = k + 1 := wrap_i64 (by omega) (by omega)
      simp (maxSteps := 4000000) -dsimp [-Y1, -Array.all_eq_true, -Y3, -Y4, and_assoc, Y5, Tryz.f93, pickC, l7InstC, l4SpoilC, l4AnyC, hlt, k1, k2, hk3, h4, c1, c2, hw]
      have ht1 := rowsC_tk (pad := pad) (m := k.toNat) hr3 (by omega)
      have ht2 : List.take ((xs.length - (k + 1).toNat) * 3) (List.drop (if (cap' : Int) = k + 1 then 0 else (k + 1).toNat * 3) (rowsC rows pad)) = (List.flatten (rows.drop (k + 1).toNat)).map C.v := by
        split
        · have e : xs.length - (k + 1).toNat = 0 := by omega
          rw [e, List.drop_eq_nil_of_le (i := (k + 1).toNat) (by omega)]; simp
        · rw [← g2]; exact rowsC_mid hr3 (by omega)
      have hfd := rdF_drop hf (k + 1).toNat g2
      have hfa := rdF_app (rdF_take hf k.toNat g2) (by simp [g2]) hfd (by simp [g2])
      rw [ht2]
      refine ⟨by omega, by omega, by omega, by split <;> omega, by rw [List.all_map]; exact one_rows hfd, by omega, by unfold maxLen; omega, by omega, fun b8 cap8 pad8 d1 d2 d3 => ?_⟩
      exact EndK.facts fun cxz hlz hfz => ⟨_, _, rfl, rfl, hle2.trans hlz, by omega, by omega, xs.take k.toNat ++ xs.drop (k + 1).toNat, list_end (rows := rows.take k.toNat ++ rows.drop (k + 1).toNat) (pad := pad8) (fun off c hc => hfz _ List.mem_cons_self off c (by
        show (List.take (k.toNat * 3) (rowsC rows pad) ++ ((List.flatten (rows.drop (k + 1).toNat)).map C.v ++ pad8))[off]? = some c
        rw [ht1, ← List.append_assoc, ← List.map_append, ← List.flatten_append]; exact hc)) (hfa.mono (hle2.trans hlz).fact) (by simp [g2]) (by simp; omega) d1 d2, by simp; omega, fun y hy => by
          have : y ∈ xs := by
            rcases List.mem_append.1 hy with h | h
            · exact List.mem_of_mem_take h
            · exact List.mem_of_mem_drop h
          have := hxa y this; omega⟩
    by_cases e3 : y = 3
    · subst e3
      simp (maxSteps := 4000000) -dsimp [-Y1, -Array.all_eq_true, -Y3, -Y4, and_assoc, Y5, Tryz.f93, pickC, l7InstC, l4SpoilC, l4AnyC, hlt, k1, k2, hk3, h4, c1, c2]
      refine pickC_at hR hty hle2 ⟨by omega, by omega⟩ (by omega) ?_
      rintro cx3 _ p3 hle3 - q5 q6 ⟨u, rfl, u1, u2⟩
      have hk4 : k.toNat * 3 + 3 ≤ cap' * 3 := by omega
      simp (maxSteps := 4000000) -dsimp [-Y1, -Array.all_eq_true, -Y3, -Y4, and_assoc, Y5, Tryz.f93, pickC, l7InstC, l4SpoilC, l4AnyC, hlt, k1, k2, hk3, h4, c1, c2, hk4]
      have hset := rowsC_setc (pad := pad) hr3 hrk 0 (.int .i64 (IntKind.i64.wrap (u - 1))) (by decide)
      rw [Nat.add_zero] at hset
      have hr4 : RdF (factF cx) (rows.set k.toNat [.int .i64 (IntKind.i64.wrap (u - 1)), .int .i64 x.op, .slice ro x.args.length rc]) (xs.set k.toNat ⟨IntKind.i64.wrap (u - 1), x.op, x.args⟩) := rdF_set hf g2 k.toNat (RdR.mk ⟨ro, rc, rfl, rd, rc1, rc2⟩)
      refine ⟨by omega, ?_⟩
      rw [hset]
      exact EndK.facts fun cxz hlz hfz => ⟨_, _, rfl, rfl, hle3.trans hlz, by omega, by omega, xs.set k.toNat ⟨IntKind.i64.wrap (u - 1), x.op, x.args⟩, list_end (hfz _ List.mem_cons_self) (hr4.mono (hle3.trans hlz).fact) (by simp [g2]) (by simp) c1 c2, by simp; omega, args_set hxa (by have := hxa x (List.mem_of_getElem? hxk); simp only; omega)⟩
    have hk4 : k.toNat * 3 + 3 ≤ cap' * 3 := by omega
    by_cases e2 : y = 2
    · subst e2
      simp (maxSteps := 4000000) -dsimp [-Y1, -Array.all_eq_true, -Y3, -Y4, and_assoc, Y5, Tryz.f93, pickC, l7InstC, l4SpoilC, l4AnyC, hlt, k1, k2, hk3, h4, c1, c2, hk4]
      refine l7InstC_at hR hty hle2 ⟨by omega, by omega⟩ trivial ?_
      rintro cx3 _ p3 hle3 hleA q5 q6 ⟨⟨ic, iop, ixs⟩, ⟨⟨io, icap, rfl, ihd, ihc1, ihc2⟩⟩, ihl⟩
      simp (maxSteps := 4000000) -dsimp [-Y1, -Array.all_eq_true, -Y3, -Y4, and_assoc, Y5, Tryz.f93, pickC, l7InstC, l4SpoilC, l4AnyC, hlt, k1, k2, hk3, h4, c1, c2, hk4]
      have hr4 : RdF (factF cx3) (rows.set k.toNat [.int .i64 ic, .int .i64 iop, .slice io ixs.length icap]) (xs.set k.toNat ⟨ic, iop, ixs⟩) := rdF_set (hf.mono hle3.fact) g2 k.toNat (RdR.mk ⟨io, icap, rfl, ihd, ihc1, ihc2⟩)
      rw [rowsC_setr hr3 hrk]
      exact EndK.facts fun cxz hlz hfz => ⟨_, _, rfl, rfl, hle3.trans hlz, by omega, by omega, xs.set k.toNat ⟨ic, iop, ixs⟩, list_end (hfz _ List.mem_cons_self) (hr4.mono hlz.fact) (by simp [g2]) (by simp) c1 c2, by simp; omega, args_set hxa (by simp only at ihl ⊢; omega)⟩
    by_cases e4 : y = 4
    · subst e4
      have hone := rowsC_one (pad := pad) hr3 hrk
      have hxl := hxa x (List.mem_of_getElem? hxk)
      simp (maxSteps := 4000000) -dsimp [-Y1, -Array.all_eq_true, -Y3, -Y4, and_assoc, Y5, Tryz.f93, pickC, l7InstC, l4SpoilC, l4AnyC, hlt, k1, k2, hk3, h4, c1, c2, hk4, hone]
      refine l4SpoilC_at hR hty hle2 ⟨by omega, by omega⟩ ⟨rd.mono hle2.fact, by omega⟩ ?_
      rintro cx3 _ p3 hle3 - q5 q6 ⟨op, ys, ⟨⟨yo, ycap, rfl, yd, yc1, yc2⟩⟩, yl⟩
      simp (maxSteps := 4000000) -dsimp [-Y1, -Array.all_eq_true, -Y3, -Y4, and_assoc, Y5, Tryz.f93, pickC, l7InstC, l4SpoilC, l4AnyC, hlt, k1, k2, hk3, h4, c1, c2, hk4, hone]
      have hr4 : RdF (factF cx3) (rows.set k.toNat [.int .i64 x.code, .int .i64 op, .slice yo ys.length ycap]) (xs.set k.toNat ⟨x.code, op, ys⟩) := rdF_set (hf.mono hle3.fact) g2 k.toNat (RdR.mk ⟨yo, ycap, rfl, yd, yc1, yc2⟩)
      rw [rowsC_set1 hr3 hrk]
      exact EndK.facts fun cxz hlz hfz => ⟨_, _, rfl, rfl, hle3.trans hlz, by omega, by omega, xs.set k.toNat ⟨x.code, op, ys⟩, list_end (hfz _ List.mem_cons_self) (hr4.mono hlz.fact) (by simp [g2]) (by simp) c1 c2, by simp; omega, args_set hxa (by simp only; omega)⟩
    by_cases e8 : 7 < y
    · have e8' : y = 8 := by omega
      subst e8'
      simp (maxSteps := 4000000) -dsimp [-Y1, -Array.all_eq_true, -Y3, -Y4, and_assoc, Y5, Tryz.f93, pickC, l7InstC, l4SpoilC, l4AnyC, hlt, k1, k2, hk3, h4, c1, c2, hk4]
      refine l4AnyC_at hR hty hle2 ⟨by omega, by omega⟩ trivial ?_
      rintro cx3 _ p3 hle3 - q5 q6 ⟨op, ys, ⟨⟨yo, ycap, rfl, yd, yc1, yc2⟩⟩, yl⟩
      simp (maxSteps := 4000000) -dsimp [-Y1, -Array.all_eq_true, -Y3, -Y4, and_assoc, Y5, Tryz.f93, pickC, l7InstC, l4SpoilC, l4AnyC, hlt, k1, k2, hk3, h4, c1, c2, hk4]
      have hr4 : RdF (factF cx3) (rows.set k.toNat [.int .i64 x.code, .int .i64 op, .slice yo ys.length ycap]) (xs.set k.toNat ⟨x.code, op, ys⟩) := rdF_set (hf.mono hle3.fact) g2 k.toNat (RdR.mk ⟨yo, ycap, rfl, yd, yc1, yc2⟩)
      rw [rowsC_set1 hr3 hrk]
      exact EndK.facts fun cxz hlz hfz => ⟨_, _, rfl, rfl, hle3.trans hlz, by omega, by omega, xs.set k.toNat ⟨x.code, op, ys⟩, list_end (hfz _ List.mem_cons_self) (hr4.mono hlz.fact) (by simp [g2]) (by simp) c1 c2, by simp; omega, args_set hxa (by simp only; omega)⟩
    by_cases e7 : y = 7
    · subst e7
      simp (maxSteps := 4000000) -dsimp [-Y1, -Array.all_eq_true, -Y3, -Y4, and_assoc, Y5, Tryz.f93, pickC, l7InstC, l4SpoilC, l4AnyC, hlt, k1, k2, hk3, h4, c1, c2, hk4]
      refine pickC_at hR hty hle2 ⟨by omega, by omega⟩ (by omega) ?_
      rintro cx3 _ p3 hle3 - q5 q6 ⟨j, rfl, j1, j2⟩
      have hj3 : j < xs.length := by omega
      have hj4 : j.toNat * 3 + 3 ≤ cap' * 3 := by omega
      obtain ⟨rj, hrj⟩ : ∃ r, rows[j.toNat]? = some r := ⟨_, List.getElem?_eq_getElem (by omega)⟩
      obtain ⟨xj, hxj⟩ : ∃ x, xs[j.toNat]? = some x := ⟨_, List.getElem?_eq_getElem (by omega)⟩
      obtain ⟨jo, jc, je, jd, jc1, jc2⟩ := (hf.at' _ _ _ hrj hxj).ex
      subst je
      have hk5 := rowsC_at3 (pad := pad) hr3 hrk
      have hj5 := rowsC_at3 (pad := pad) hr3 hrj
      have hf5 : RdF (factF cx) (rows.set k.toNat [.int .i64 xj.code, .int .i64 xj.op, .slice jo xj.args.length jc]) (xs.set k.toNat xj) := rdF_set hf g2 k.toNat (RdR.mk ⟨jo, jc, rfl, jd, jc1, jc2⟩)
      obtain ⟨r6, hr6⟩ : ∃ r, (rows.set k.toNat [.int .i64 xj.code, .int .i64 xj.op, .slice jo xj.args.length jc])[j.toNat]? = some r := ⟨_, List.getElem?_eq_getElem (by simp; omega)⟩
      have hs5 := rowsC_setr (pad := pad) hr3 hrk (.int .i64 xj.code) (.int .i64 xj.op) (.slice jo xj.args.length jc)
      have hs6 := rowsC_setr (pad := pad) hf5.len hr6 (.int .i64 x.code) (.int .i64 x.op) (.slice ro x.args.length rc)
      have h6 : (rowsC (rows.set k.toNat [.int .i64 xj.code, .int .i64 xj.op, .slice jo xj.args.length jc]) pad).length = cap' * 3 := by rw [rowsC_len hf5.len]; rw [rowsC_len hr3] at h4; simpa using h4
      have hf6 := rdF_set hf5 (by simp [g2]) j.toNat (r := [.int .i64 x.code, .int .i64 x.op, .slice ro x.args.length rc]) (x := x) (RdR.mk ⟨ro, rc, rfl, rd, rc1, rc2⟩)
      simp (maxSteps := 4000000) -dsimp [-Y1, -Array.all_eq_true, -Y3, -Y4, and_assoc, Y5, Tryz.f93, pickC, l7InstC, l4SpoilC, l4AnyC, hlt, k1, k2, hk3, h4, c1, c2, hk4, j1, hj3, hj4, hk5, hj5, hs5, hs6, h6]
      intro b9
      exact EndK.facts fun cxz hlz hfz => ⟨_, _, rfl, rfl, hle3.trans hlz, by omega, by omega, (xs.set k.toNat xj).set j.toNat x, list_end (hfz _ List.mem_cons_self) (hf6.mono (hle3.trans hlz).fact) (by simp [g2]) (by simp) c1 c2, by simp; omega, args_set (args_set3 hxa (hxa xj (List.mem_of_getElem? hxj))) (by have := hxa x (List.mem_of_getElem? hxk); omega)⟩
    by_cases e1 : y = 1
    · subst e1
      simp (maxSteps := 4000000) -dsimp [-Y1, -Array.all_eq_true, -Y3, -Y4, and_assoc, Y5, Tryz.f93, pickC, l7InstC, l4SpoilC, l4AnyC, hlt, k1, k2, hk3, h4, c1, c2, hk4]
      have ht1 := rowsC_tk (pad := pad) (m := k.toNat) hr3 (by omega)
      refine ⟨by omega, by omega, fun b9 => ⟨by omega, by rw [ht1, List.all_map]; exact one_rows (rdF_take hf k.toNat g2), by unfold maxLen; omega, by omega, fun b8 cap8 pad8 d1 d2 d3 => ?_⟩⟩
      rw [ht1, show List.map C.v (rows.take k.toNat).flatten ++ pad8 = rowsC (rows.take k.toNat) pad8 from rfl]
      refine l7InstC_at hR hty hle2 ⟨by omega, by omega⟩ trivial ?_
      rintro cx3 _ p3 hle3 hleA q5 q6 ⟨⟨ic, iop, ixs⟩, ⟨⟨io, icap, rfl, ihd, ihc1, ihc2⟩⟩, ihl⟩
      have hrk3 : ∀ r ∈ rows.take k.toNat, r.length = 3 := fun r hr => hr3 r (List.mem_of_mem_take hr)
      have hkl : (rows.take k.toNat).length = k.toNat := by rw [List.length_take]; omega
      have h9 : (rowsC (rows.take k.toNat) pad8).length = cap8 * 3 := by rw [rowsC_len hrk3, hkl]; omega
      have h10 : ∀ pad', List.take (k.toNat * 3) (rowsC (rows.take k.toNat) pad8) ++ C.v (.int .i64 ic) :: C.v (.int .i64 iop) :: C.v (.slice io ixs.length icap) :: pad' = rowsC (rows.take k.toNat ++ [[.int .i64 ic, .int .i64 iop, .slice io ixs.length icap]]) pad' := fun pad' => by
        rw [rowsC_tk hrk3 (by omega), ← rowsC_snoc, List.take_of_length_le (by omega)]; rfl
      have h11 : ∀ pad', (rowsC (rows.take k.toNat ++ [[.int .i64 ic, .int .i64 iop, .slice io ixs.length icap]]) pad').length = (k.toNat + 1) * 3 + pad'.length := fun pad' => by
        have hr5 : ∀ r ∈ rows.take k.toNat ++ [[.int .i64 ic, .int .i64 iop, .slice io ixs.length icap]], r.length = 3 := fun r hr => by
          rcases List.mem_append.1 hr with h | h
          · exact hrk3 r h
          · rw [List.mem_singleton] at h; rw [h]; rfl
        rw [rowsC_len hr5, List.length_append, hkl]; rfl
      simp (maxSteps := 4000000) -dsimp [-Y1, -Array.all_eq_true, -Y3, -Y4, and_assoc, Y5, Tryz.f93, pickC, l7InstC, l4SpoilC, l4AnyC, hlt, k1, k2, hk3, h4, c1, c2, hk4, h9, h10]
      intro cx4 lit hle4 hl4
      rw [RdO.sl (size := 3) (rows := [[.int .i64 ic, .int .i64 iop, .slice io ixs.length icap]]) ((hl4.mono ((sub_new cx4).trans (sub_now _ _))).rows (by decide) (by simp) (by simp)) (by decide) (by simp)]
      unfold GrowV
      have h5 : k.toNat + 1 ≤ maxLen := by unfold maxLen; omega
      simp (maxSteps := 4000000) -dsimp [-Y1, -Array.all_eq_true, -Y3, -Y4, and_assoc, Y5, Tryz.f93, pickC, l7InstC, l4SpoilC, l4AnyC, hlt, k1, k2, hk3, h4, c1, c2, hk4, h9, h10, h11, h5, d1, d2]
      have ht3 : List.take ((xs.length - k.toNat) * 3) (List.drop (if (cap' : Int) = k then 0 else k.toNat * 3) (rowsC rows pad)) = (List.flatten (rows.drop k.toNat)).map C.v := by
        rw [if_neg (by omega), ← g2]; exact rowsC_mid hr3 (by omega)
      have hf1 : RdF (factF cx4) (rows.take k.toNat ++ [[.int .i64 ic, .int .i64 iop, .slice io ixs.length icap]]) (xs.take k.toNat ++ [⟨ic, iop, ixs⟩]) := RdF.push ((rdF_take hf k.toNat g2).mono (hle3.trans hle4).fact) (by simp [g2]) (RdR.mk ⟨io, icap, rfl, ihd.mono hle4.fact, ihc1, ihc2⟩)
      have hfd := (rdF_drop hf k.toNat g2).mono (hle3.trans hle4).fact
      have hfa := rdF_app hf1 (by simp [g2]) hfd (by simp [g2])
      rw [ht3]
      refine ⟨by omega, fun cap9 pad9 m1 m2 m3 => ⟨by rw [if_neg (by omega)]; omega, by rw [List.all_map]; exact one_rows hfd, by omega, m1, m2, by unfold maxLen; omega, by omega, fun b7 cap7 pad7 n1 n2 n3 => ?_⟩⟩
      have ht4 : List.take ((k.toNat + 1) * 3) (rowsC (rows.take k.toNat ++ [[.int .i64 ic, .int .i64 iop, .slice io ixs.length icap]]) pad9) = (List.flatten (rows.take k.toNat ++ [[.int .i64 ic, .int .i64 iop, .slice io ixs.length icap]])).map C.v := by
        rw [rowsC_tk hf1.len (m := k.toNat + 1) (by simp; omega), List.take_of_length_le (by simp; omega)]
      exact EndK.facts fun cxz hlz hfz => ⟨_, _, rfl, rfl, (hle3.trans hle4).trans hlz, by omega, by omega, (xs.take k.toNat ++ [⟨ic, iop, ixs⟩]) ++ xs.drop k.toNat, list_end (rows := (rows.take k.toNat ++ [[.int .i64 ic, .int .i64 iop, .slice io ixs.length icap]]) ++ rows.drop k.toNat) (pad := pad7) (fun off c hc => hfz _ (List.mem_cons_of_mem _ List.mem_cons_self) off c (by
        show (List.take ((k.toNat + 1) * 3) (rowsC (rows.take k.toNat ++ [[.int .i64 ic, .int .i64 iop, .slice io ixs.length icap]]) pad9) ++ ((List.flatten (rows.drop k.toNat)).map C.v ++ pad7))[off]? = some c
        rw [ht4, ← List.append_assoc, ← List.map_append, ← List.flatten_append]; exact hc)) (hfa.mono hlz.fact) (by simp [g2]) (by simp; omega) n1 n2, by simp; omega, fun y hy => by
          rcases List.mem_append.1 hy with h | h
          · exact args_one (fun z hz => by have := hxa z (List.mem_of_mem_take hz); omega) (by simp only at ihl ⊢; omega) y h
          · have := hxa y (List.mem_of_mem_drop h); omega⟩
    · have e6 : y = 6 := by omega
      subst e6
      have hk5 := rowsC_at3 (pad := pad) hr3 hrk
      simp (maxSteps := 4000000) -dsimp [-Y1, -Array.all_eq_true, -Y3, -Y4, and_assoc, Y5, Tryz.f93, pickC, l7InstC, l4SpoilC, l4AnyC, hlt, k1, k2, hk3, h4, c1, c2, hk4, hk5]
      intro b9
      refine loop_inv (σ := ⟨[pickC, l7InstC, l4SpoilC, l4AnyC], [(10, [(1, false), (2, false), (3, false), (5, false), (9, false), (10, false), (11, false), (0, false), (4, false), (6, false), (7, false), (8, false), (12, false), (13, false)])]⟩) hmx (by kernel_rfl) (fun q cx' tm mem' => Le cx cx' ∧ ∃ (bX capX : Nat) (rs : List (List Value)) (ys : List Ins) (padX : List C) (p' : Int), q = 1001 - ys.length ∧ mem' = mem.set R.k (R.blk p') ++ [⟨bX, rowsC rs padX, 57⟩, ⟨b9, [.v (.int .i64 x.code), .v (.int .i64 x.op), .v (.slice ro x.args.length rc)], 57⟩] ∧ RdF (factF cx) rs ys ∧ rs.length = ys.length ∧ (∀ y ∈ ys, y.args.length ≤ A) ∧ ys.length ≤ capX ∧ capX ≤ maxLen ∧ (rowsC rs padX).length = capX * 3 ∧ p ≤ p' ∧ p' ≤ p + 2 + ys.length ∧ ys.length ≤ L + 1001 ∧ Sx.look tm 5 = .s mem.length bX 0 ys.length capX ∧ Sx.look tm 7 = .p (mem.length + 1) b9 0 ∧ Sx.look tm 0 = .p R.k R.b 0)
        (1001 - xs.length) ⟨hle2, b', cap', rows, xs, pad, p2, rfl, rfl, hf, g2, hxa, c1, c2, h4, by omega, by omega, by omega, by simp [Sx.look], by simp [Sx.look], by simp [Sx.look]⟩ ?_
      rintro q cx3 tm mem3 ⟨hle3, bX, capX, rs, ys, padX, p3, rfl, rfl, hfX, hrX, haX, m1, m2, m3, m4, m5, m6, j5, j7, j0⟩
      refine ⟨400, ?_⟩
      simp (maxSteps := 4000000) -dsimp [-Y1, -Array.all_eq_true, -Y3, -Y4, and_assoc, Y5, Tryz.f93, pickC, l7InstC, l4SpoilC, l4AnyC, hlt, j5, j7, j0]
      refine pickC_at hR hty hle3 ⟨by omega, by omega⟩ (by omega) ?_
      rintro cx4 _ p4 hle4 - n1 n2 ⟨v, rfl, v0, v1⟩
      have hwv : IntKind.i64.wrap (1000 + v) = 1000 + v := wrap_i64 (by omega) (by omega)
      by_cases hlen : (ys.length : Int) < 1000 + v
      · simp (maxSteps := 4000000) -dsimp [-Y1, -Array.all_eq_true, -Y3, -Y4, and_assoc, Y5, Tryz.f93, pickC, l7InstC, l4SpoilC, l4AnyC, hlt, j5, j7, j0, hwv, hlen]
        intro cx5 lit hle5 hl5
        rw [RdO.sl (size := 3) (rows := [[.int .i64 x.code, .int .i64 x.op, .slice ro x.args.length rc]]) ((hl5.mono ((sub_new cx5).trans (sub_now _ _))).rows (by decide) (by simp) (by simp)) (by decide) (by simp)]
        unfold GrowV
        have h5 : ys.length + 1 ≤ maxLen := by unfold maxLen; omega
        have hrt := rowsC_take (pad := padX) hfX.len (n := ys.length * 3) (by rw [hrX])
        simp (maxSteps := 4000000) -dsimp [-Y1, -Array.all_eq_true, -Y3, -Y4, and_assoc, Y5, Tryz.f93, pickC, l7InstC, l4SpoilC, l4AnyC, hlt, j5, j7, j0, m1, m2, m3, h5, hrt]
        refine ⟨by omega, fun b8 cap8 pad8 d1 d2 d3 => ?_⟩
        have hfp : RdF (factF cx) (rs ++ [[.int .i64 x.code, .int .i64 x.op, .slice ro x.args.length rc]]) (ys ++ [x]) := RdF.push hfX hrX (RdR.mk ⟨ro, rc, rfl, rd, rc1, rc2⟩)
        exact ⟨mem.length + 2, 1001 - (ys.length + 1), by omega, hle4.trans hle5, b8, cap8, rs ++ [[.int .i64 x.code, .int .i64 x.op, .slice ro x.args.length rc]], ys ++ [x], by simp, pad8, p4, by rw [List.take_of_length_le (by simp)]; simp [rowsC], hfp, by simp [hrX], fun y hy => by
          rcases List.mem_append.1 hy with h | h
          · exact haX y h
          · rw [List.mem_singleton] at h; rw [h]; exact hxa x (List.mem_of_getElem? hxk), by simp; omega, d2, by rw [rowsC_len hfp.len]; simp [hrX]; omega, by omega, by simp; omega, by simp; omega, rfl, by simp, rfl⟩
      · simp (maxSteps := 4000000) -dsimp [-Y1, -Array.all_eq_true, -Y3, -Y4, and_assoc, Y5, Tryz.f93, pickC, l7InstC, l4SpoilC, l4AnyC, hlt, j5, j7, j0, hwv, hlen]
        exact EndK.facts fun cxz hlz hfz => ⟨_, _, rfl, rfl, hle4.trans hlz, by omega, by omega, ys, list_end (hfz _ List.mem_cons_self) (hfX.mono (hle4.trans hlz).fact) hrX rfl m1 m2, by omega, fun y hy => by have := haX y hy; omega⟩
def l7SpoilC_S : Draws Tryz.prog 160 10000 93 where
  ι := ((Nat) × (Nat) × (Option Addr) × (Nat) × (List Ins))
  A := fun (i : ((Nat) × (Nat) × (Option Addr) × (Nat) × (List Ins))) => match i with | (L, A, o, cap, xs) => [.v (.slice o xs.length cap)]
  pre := fun (i : ((Nat) × (Nat) × (Option Addr) × (Nat) × (List Ins))) (F : Facts) => match i with | (L, A, o, cap, xs) => RdN F o xs ∧ xs.length ≤ L ∧ (∀ x ∈ xs, x.args.length ≤ A) ∧ L ≤ 7000 ∧ 3 ≤ A ∧ A ≤ 90
  post := fun (i : ((Nat) × (Nat) × (Option Addr) × (Nat) × (List Ins))) (v : Value) (F : Facts) => match i with | (L, A, o, cap, xs) => ∃ ys, IsList F v ys ∧ ys.length ≤ L + 2000 ∧ (∀ x ∈ ys, x.args.length ≤ A + 1)
  mono := by
    intro i F G hs h
    first | exact h | exact h.mono hs | exact ⟨h.1.mono hs, h.2⟩ | exact ⟨h.1.mono hs, h.2.1.mono hs, h.2.2⟩ | exact ⟨h.1.mono hs, h.2.1.mono hs⟩ | exact ⟨h.1.mono hs, h.2.1.mono hs, h.2.2.1.mono hs, h.2.2.2⟩
  enter := Tryz.call93
  h := fun i R p cx mem w h1 h2 h3 h4 h5 h6 => l7SpoilC_c i.1 i.2.1 i.2.2.1 i.2.2.2.1 i.2.2.2.2 R p cx mem w h1 h2 h3 h4 h5 h6
def l7SpoilC : Con Tryz.prog := Con.draw l7SpoilC_S
theorem l7SpoilC_at0 {L A : Nat} {o : Option Addr} {cap : Nat} {xs : List Ins} {d : Nat} {R : Rdr} {cx0 cx : Cx} {mem0 : List Blk} {K : Cx → C → List Blk → Prop} {p : Int} (hR : R.Is (factF cx0) mem0) (hty : R.ty = 160) (hle : Le cx0 cx) (hp : 0 ≤ p ∧ p + 10000 ≤ 1125899906842624) (hpre : RdN (factF cx) o xs ∧ xs.length ≤ L ∧ (∀ x ∈ xs, x.args.length ≤ A) ∧ L ≤ 7000 ∧ 3 ≤ A ∧ A ≤ 90)
    (h : ∀ cx' v p', Le cx0 cx' → Le cx cx' → p ≤ p' → p' ≤ p + 10000 → (∃ ys, IsList (factF cx') v ys ∧ ys.length ≤ L + 2000 ∧ (∀ x ∈ ys, x.args.length ≤ A + 1)) → K cx' (.v v) (mem0.set R.k (R.blk p'))) :
    DrawV d l7SpoilC_S cx [.p R.k R.b 0, .v (.slice o xs.length cap)] (mem0.set R.k (R.blk p)) K := DrawV.at0 (S := l7SpoilC_S) hR hty hle (L, A, o, cap, xs) hp hpre h
end Go.Proofs.YtclbanhoiaieaaaGreatDoor
