/-
  Contracts: what the laws of the machine draw.
-/
import Derived.Test.YtfhnbdlkiemaeaaGreatGsmt
import Derived.Test.YtfhnbdlkiemaeaaGreatGumt
import Derived.Test.YtfhnbdlkiemaeaaGreatMrmt
set_option linter.unusedVariables false
set_option linter.unusedSimpArgs false
set_option maxRecDepth 100000
set_option maxHeartbeats 4000000
namespace Go.Proofs.YtfhnbdlkiemaeaaGreat
open Go Go.Sx
open List renaming all_eq_true → Y1, zipIdx → Y5
open Bool renaming exists_bool → Y3, forall_bool → Y4
attribute [local simp] Sx.vcsE1 Sx.vcsE2 Sx.vcsE3 Sx.vcsE4 Sx.vcsE5 Sx.vcsE6 Sx.vcsE7 Sx.vcsE8 Sx.vcsE9 Sx.vcsE10 Sx.vcsE11 Sx.vcsE12 Sx.vcsE13 Sx.vcsE14 Sx.vcsE15 Sx.vcsE16 Sx.vcsE17 Sx.vcsE18 Sx.vcsE19 Sx.get Sx.look Sx.put Sx.pureFn Sx.findOrd Sx.unF Sx.dstOk Sx.isFloatT Sx.endVC Sx.resFn Sx.packC Sx.newFn Sx.storeFn Sx.buildFn Sx.known Sx.aggT Sx.cellsC Sx.findCon Sx.allV Sx.partsV Sx.partsC Sx.fillL Sx.exitTo Sx.fAr Sx.eqFn Sx.eqFieldsFn Sx.eqElemsFn Sx.partFn Sx.sliceFn Sx.boundFn Sx.AppV Sx.CopyV Sx.MakeSliceV Sx.NewsV Sx.GrowV Sx.TextV Sx.bytesL Sx.notInt Sx.typeAt Sx.argAt Sx.den Go.undef Go.Value.cells Go.Value.oneCell' Sx.Con.pure Sx.Con.some Sx.Con.read Sx.Con.make Sx.Con.ext Sx.Con.rel Sx.Con.extS Sx.Con.draw Sx.Con.step Sx.C.one Sx.Draws.steps

theorem l9ListC_c  (R : Rdr) (p : Int) (cx : Cx) (mem : List Blk) (w : World) (hty : R.ty = 152) (hR : R.Is (factF cx) mem) (hp : 0 ≤ p) (hpc : p + 1100020000 ≤ 1125899906842624) (hpre : True) (hm : MemRel cx (mem.set R.k (R.blk p)) w) :
    Calls Tryz.prog 38 ((.p R.k R.b 0 :: [] : List C).map den).toArray w fun e w' => ∃ cx' x mem', e = .returned (den x) ∧ MemRel cx' mem' w' ∧ (fun cx' x mem' => ∃ v p', x = .v v ∧ mem' = mem.set R.k (R.blk p') ∧ Le cx cx' ∧ p ≤ p' ∧ p' ≤ p + 1100020000 ∧ (∃ xs, IsList (factF cx') v xs ∧ xs.length ≤ 7000 ∧ (∀ x ∈ xs, x.args.length ≤ 4))) cx' x mem' := by
  refine step_of_vcs ⟨[pickC, l8DeepC, l7SureC, l7SpoilC], []⟩ hmx Tryz.func38 rfl (by kernel_rfl) (args := .p R.k R.b 0 :: []) (by simp [Tryz.ntmps38]) hm (fun cx' x mem' => ∃ v p', x = .v v ∧ mem' = mem.set R.k (R.blk p') ∧ Le cx cx' ∧ p ≤ p' ∧ p' ≤ p + 1100020000 ∧ (∃ xs, IsList (factF cx') v xs ∧ xs.length ≤ 7000 ∧ (∀ x ∈ xs, x.args.length ≤ 4))) 400 ?_
  have hlt := hR.lt
  have hle := Le.refl cx
  simp (maxSteps := 4000000) -dsimp [-Y1, -Array.all_eq_true, -Y3, -Y4, and_assoc, Y5, Tryz.f38, pickC, l8DeepC, l7SureC, l7SpoilC, hlt]
  refine pickC_at0 hR hty hle ⟨by omega, by omega⟩ (by omega) ?_
  rintro cx2 _ p2 hle2 l2 c1 c2 ⟨y, rfl, y0, y1⟩
  by_cases e0 : y = 0
  · subst e0
    simp (maxSteps := 4000000) -dsimp [-Y1, -Array.all_eq_true, -Y3, -Y4, and_assoc, Y5, Tryz.f38, pickC, l8DeepC, l7SureC, l7SpoilC, hlt]
    refine l8DeepC_at0 hR hty hle2 ⟨by omega, by omega⟩ trivial ?_
    rintro cx3 v p3 hle3 l3 c3 c4 ⟨xs, hx, hxl, hxa⟩
    simp (maxSteps := 4000000) -dsimp [-Y1, -Array.all_eq_true, -Y3, -Y4, and_assoc, Y5, Tryz.f38, pickC, l8DeepC, l7SureC, l7SpoilC, hlt]
    exact EndK.all ⟨_, _, rfl, rfl, hle3, by omega, by omega, xs, hx, by omega, hxa⟩
  by_cases e1 : y = 1 ∨ y = 2
  · rcases e1 with rfl | rfl
    all_goals
      simp (maxSteps := 4000000) -dsimp [-Y1, -Array.all_eq_true, -Y3, -Y4, and_assoc, Y5, Tryz.f38, pickC, l8DeepC, l7SureC, l7SpoilC, hlt]
      refine l7SureC_at0 hR hty hle2 ⟨by omega, by omega⟩ trivial ?_
      rintro cx3 _ p3 hle3 l3 c3 c4 ⟨xs, ⟨⟨xo, xcap, rfl, hxd, hxc, hxm⟩⟩, hxl, hxa⟩
      simp (maxSteps := 4000000) -dsimp [-Y1, -Array.all_eq_true, -Y3, -Y4, and_assoc, Y5, Tryz.f38, pickC, l8DeepC, l7SureC, l7SpoilC, hlt]
      refine l7SpoilC_at0 hR hty hle3 ⟨by omega, by omega⟩ ⟨hxd, hxl, hxa⟩ ?_
      rintro cx4 v p4 hle4 l4 c5 c6 ⟨ys, hy, hyl, hya⟩
      simp (maxSteps := 4000000) -dsimp [-Y1, -Array.all_eq_true, -Y3, -Y4, and_assoc, Y5, Tryz.f38, pickC, l8DeepC, l7SureC, l7SpoilC, hlt]
      exact EndK.all ⟨_, _, rfl, rfl, hle4, by omega, by omega, ys, hy, hyl, hya⟩
  · have e2 : ¬ y = 1 := fun h => e1 (Or.inl h)
    have e3 : ¬ y = 2 := fun h => e1 (Or.inr h)
    simp (maxSteps := 4000000) -dsimp [-Y1, -Array.all_eq_true, -Y3, -Y4, and_assoc, Y5, Tryz.f38, pickC, l8DeepC, l7SureC, l7SpoilC, hlt, e0, e2, e3]
    refine l7SureC_at0 hR hty hle2 ⟨by omega, by omega⟩ trivial ?_
    rintro cx3 v p3 hle3 l3 c3 c4 ⟨xs, hx, hxl, hxa⟩
    simp (maxSteps := 4000000) -dsimp [-Y1, -Array.all_eq_true, -Y3, -Y4, and_assoc, Y5, Tryz.f38, pickC, l8DeepC, l7SureC, l7SpoilC, hlt, e0, e2, e3]
    exact EndK.all ⟨_, _, rfl, rfl, hle3, by omega, by omega, xs, hx, by omega, fun x hx => by have := hxa x hx; omega⟩
def l9ListC_S : Draws Tryz.prog 152 1100020000 38 where
  ι := Unit
  A := fun (_u : Unit) => []
  pre := fun (_u : Unit) (F : Facts) => True
  post := fun (_u : Unit) (v : Value) (F : Facts) => ∃ xs, IsList F v xs ∧ xs.length ≤ 7000 ∧ (∀ x ∈ xs, x.args.length ≤ 4)
  mono := fun _ _ _ _ _ => trivial
  enter := Tryz.call38
  h := fun _u R p cx mem w h1 h2 h3 h4 h5 h6 => l9ListC_c  R p cx mem w h1 h2 h3 h4 h5 h6
def l9ListC : Con Tryz.prog := Con.draw l9ListC_S
theorem l9ListC_at0  {d : Nat} {R : Rdr} {cx0 cx : Cx} {mem0 : List Blk} {K : Cx → C → List Blk → Prop} {p : Int} (hR : R.Is (factF cx0) mem0) (hty : R.ty = 152) (hle : Le cx0 cx) (hp : 0 ≤ p ∧ p + 1100020000 ≤ 1125899906842624) (hpre : True)
    (h : ∀ cx' v p', Le cx0 cx' → Le cx cx' → p ≤ p' → p' ≤ p + 1100020000 → (∃ xs, IsList (factF cx') v xs ∧ xs.length ≤ 7000 ∧ (∀ x ∈ xs, x.args.length ≤ 4)) → K cx' (.v v) (mem0.set R.k (R.blk p'))) :
    DrawV d l9ListC_S cx [.p R.k R.b 0] (mem0.set R.k (R.blk p)) K := DrawV.at0 (S := l9ListC_S) hR hty hle () hp hpre h
theorem l9MemC_c  (R : Rdr) (p : Int) (cx : Cx) (mem : List Blk) (w : World) (hty : R.ty = 152) (hR : R.Is (factF cx) mem) (hp : 0 ≤ p) (hpc : p + 20000 ≤ 1125899906842624) (hpre : True) (hm : MemRel cx (mem.set R.k (R.blk p)) w) :
    Calls Tryz.prog 39 ((.p R.k R.b 0 :: [] : List C).map den).toArray w fun e w' => ∃ cx' x mem', e = .returned (den x) ∧ MemRel cx' mem' w' ∧ (fun cx' x mem' => ∃ v p', x = .v v ∧ mem' = mem.set R.k (R.blk p') ∧ Le cx cx' ∧ p ≤ p' ∧ p' ≤ p + 20000 ∧ (∃ m, v = .agg (cells m) ∧ MOk m)) cx' x mem' := by
  refine step_of_vcs ⟨[pickC, l5DrawC], []⟩ hmx Tryz.func39 rfl (by kernel_rfl) (args := .p R.k R.b 0 :: []) (by simp [Tryz.ntmps39]) hm (fun cx' x mem' => ∃ v p', x = .v v ∧ mem' = mem.set R.k (R.blk p') ∧ Le cx cx' ∧ p ≤ p' ∧ p' ≤ p + 20000 ∧ (∃ m, v = .agg (cells m) ∧ MOk m)) 400 ?_
  have hlt := hR.lt
  have hle := Le.refl cx
  simp (maxSteps := 4000000) -dsimp [-Y1, -Array.all_eq_true, -Y3, -Y4, and_assoc, Y5, Tryz.f39, pickC, l5DrawC, hlt]
  intro b
  refine pickC_at hR hty hle ⟨by omega, by omega⟩ (by omega) ?_
  rintro cx1 _ p1 hle1 - c1 c2 ⟨y, rfl, y0, y1⟩
  by_cases hy : y = 0
  · simp (maxSteps := 4000000) -dsimp [-Y1, -Array.all_eq_true, -Y3, -Y4, and_assoc, Y5, Tryz.f39, pickC, l5DrawC, hlt, hy, List.getElem?_append, List.set_append, List.getElem?_set]
    refine EndK.left ⟨_, p1, rfl, rfl, hle1, by omega, by omega, zeroM, rfl, zeroM_ok⟩
  simp (maxSteps := 4000000) -dsimp [-Y1, -Array.all_eq_true, -Y3, -Y4, and_assoc, Y5, Tryz.f39, pickC, l5DrawC, hlt, hy, List.getElem?_append, List.set_append, List.getElem?_set]
  refine l5DrawC_at hR hty hle1 ⟨by omega, by omega⟩ trivial ?_
  rintro cx2 _ p2 hle2 - d0 e0 ⟨m, rfl, hm⟩
  simp (maxSteps := 4000000) -dsimp [-Y1, -Array.all_eq_true, -Y3, -Y4, and_assoc, Y5, Tryz.f39, pickC, l5DrawC, hlt, hy, List.getElem?_append, List.set_append, List.getElem?_set]
  refine EndK.left ⟨_, p2, rfl, rfl, hle2, by omega, by omega, m, rfl, hm⟩
def l9MemC_S : Draws Tryz.prog 152 20000 39 where
  ι := Unit
  A := fun (_u : Unit) => []
  pre := fun (_u : Unit) (F : Facts) => True
  post := fun (_u : Unit) (v : Value) (F : Facts) => ∃ m, v = .agg (cells m) ∧ MOk m
  mono := fun _ _ _ _ _ => trivial
  enter := Tryz.call39
  h := fun _u R p cx mem w h1 h2 h3 h4 h5 h6 => l9MemC_c  R p cx mem w h1 h2 h3 h4 h5 h6
def l9MemC : Con Tryz.prog := Con.draw l9MemC_S
theorem l9MemC_at0  {d : Nat} {R : Rdr} {cx0 cx : Cx} {mem0 : List Blk} {K : Cx → C → List Blk → Prop} {p : Int} (hR : R.Is (factF cx0) mem0) (hty : R.ty = 152) (hle : Le cx0 cx) (hp : 0 ≤ p ∧ p + 20000 ≤ 1125899906842624) (hpre : True)
    (h : ∀ cx' v p', Le cx0 cx' → Le cx cx' → p ≤ p' → p' ≤ p + 20000 → (∃ m, v = .agg (cells m) ∧ MOk m) → K cx' (.v v) (mem0.set R.k (R.blk p'))) :
    DrawV d l9MemC_S cx [.p R.k R.b 0] (mem0.set R.k (R.blk p)) K := DrawV.at0 (S := l9MemC_S) hR hty hle () hp hpre h
theorem smC_set (x t : Int) (f : Arr 4 Nat) (y : Nat) : ∀ k, k < 4 → (List.map C.v (sampleL x t f)).set (2 + k) (.v (.float .f64 y)) = List.map C.v (sampleL x t (upd f k y))
  | 0, _ => by kernel_rfl
  | 1, _ => by kernel_rfl
  | 2, _ => by kernel_rfl
  | 3, _ => by kernel_rfl
  | k + 4, h => absurd h (by omega)
theorem smC_zero (x t : Int) : [C.v (.int .u32 x), .v (.int .u16 t), .v (.float .f64 0), .v (.float .f64 0), .v (.float .f64 0), .v (.float .f64 0)] = List.map C.v (sampleL x t (Arr.zero _ _)) := by kernel_rfl
theorem l6SampleC_c  (R : Rdr) (p : Int) (cx : Cx) (mem : List Blk) (w : World) (hty : R.ty = 152) (hR : R.Is (factF cx) mem) (hp : 0 ≤ p) (hpc : p + 200 ≤ 1125899906842624) (hpre : True) (hm : MemRel cx (mem.set R.k (R.blk p)) w) :
    Calls Tryz.prog 40 ((.p R.k R.b 0 :: [] : List C).map den).toArray w fun e w' => ∃ cx' x mem', e = .returned (den x) ∧ MemRel cx' mem' w' ∧ (fun cx' x mem' => ∃ v p', x = .v v ∧ mem' = mem.set R.k (R.blk p') ∧ Le cx cx' ∧ p ≤ p' ∧ p' ≤ p + 200 ∧ (∃ s : Smp, v = .agg (sampleL s.x s.dt s.f).toArray ∧ SmpOk s)) cx' x mem' := by
  refine step_of_vcs ⟨[pickC, numC, wordC, l3RealC], []⟩ hmx Tryz.func40 rfl (by kernel_rfl) (args := .p R.k R.b 0 :: []) (by simp [Tryz.ntmps40]) hm (fun cx' x mem' => ∃ v p', x = .v v ∧ mem' = mem.set R.k (R.blk p') ∧ Le cx cx' ∧ p ≤ p' ∧ p' ≤ p + 200 ∧ (∃ s : Smp, v = .agg (sampleL s.x s.dt s.f).toArray ∧ SmpOk s)) 400 ?_
  have hlt := hR.lt
  have hle := Le.refl cx
  simp (maxSteps := 4000000) -dsimp [-Y1, -Array.all_eq_true, -Y3, -Y4, and_assoc, Y5, Tryz.f40, pickC, numC, wordC, l3RealC, hlt]
  intro b
  refine pickC_at hR hty hle ⟨by omega, by omega⟩ (by omega) ?_
  rintro cx1 _ p1 hle1 - c1 c2 ⟨y, rfl, y0, y1⟩
  simp (maxSteps := 4000000) -dsimp [-Y1, -Array.all_eq_true, -Y3, -Y4, and_assoc, Y5, Tryz.f40, pickC, numC, wordC, l3RealC, hlt, List.getElem?_append, List.set_append, List.getElem?_set]
  intro cx2 lq hle2 hl2
  refine numC_lit hR hty (hle1.trans hle2) hl2 rfl rfl ⟨by omega, by omega⟩ (by decide) (by decide) ?_
  rintro cx3 _ p3 hle3 l3 q5 q6 ⟨n, rfl, hn⟩
  simp (maxSteps := 4000000) -dsimp [-Y1, -Array.all_eq_true, -Y3, -Y4, and_assoc, Y5, Tryz.f40, pickC, numC, wordC, l3RealC, hlt, List.getElem?_append, List.set_append, List.getElem?_set]
  intro b2
  refine pickC_at hR hty hle3 ⟨by omega, by omega⟩ (by omega) ?_
  rintro cx4 _ p4 hle4 - c3 c4 ⟨y2, rfl, y20, y21⟩
  have zero_lt : ∀ k, k < 4 → (Arr.zero 4 Nat) k < 18446744073709551616 := fun k _ => by simp [Arr.zero]
  by_cases hy2 : y2 = 0
  · simp (maxSteps := 4000000) -dsimp [-Y1, -Array.all_eq_true, -Y3, -Y4, and_assoc, Y5, Tryz.f40, pickC, numC, wordC, l3RealC, hlt, List.getElem?_append, List.set_append, List.getElem?_set, hy2]
    refine wordC_at hR hty hle4 ⟨by omega, by omega⟩ trivial ?_
    rintro cx5 _ p5 hle5 - d0 e0 ⟨w0, rfl, u0, v0⟩
    simp (maxSteps := 4000000) -dsimp [-Y1, -Array.all_eq_true, -Y3, -Y4, and_assoc, Y5, Tryz.f40, pickC, numC, wordC, l3RealC, hlt, List.getElem?_append, List.set_append, List.getElem?_set]
    refine loop_inv (σ := ⟨[pickC, numC, wordC, l3RealC], []⟩) hmx (by kernel_rfl) (fun q cx' tm mem' => Le cx cx' ∧ ∃ (i : Nat) (f : Arr 4 Nat) (p' : Int), i ≤ 4 ∧ q = 4 - i ∧ (∀ k, k < 4 → f k < 18446744073709551616) ∧ mem' = mem.set R.k (R.blk p') ++ [⟨b, [.v (.int .u32 0), .v (.int .u16 0), .v (.float .f64 0), .v (.float .f64 0), .v (.float .f64 0), .v (.float .f64 0)], 41⟩, ⟨b2, List.map C.v (sampleL (IntKind.u32.wrap w0) (IntKind.u16.wrap n) f), 41⟩] ∧ p ≤ p' ∧ p' ≤ p + 20 + 21 * i ∧ Sx.look tm 4 = .v (.int .i64 i) ∧ Sx.look tm 3 = .p (mem.length + 1) b2 0 ∧ Sx.look tm 2 = .p mem.length b 0 ∧ Sx.look tm 0 = .p R.k R.b 0)
      4 ⟨hle5, 0, Arr.zero _ _, p5, by omega, rfl, zero_lt, by rw [← smC_zero], by omega, by omega, by simp [Sx.look], by simp [Sx.look], by simp [Sx.look], by simp [Sx.look]⟩ ?_
    rintro q cx7 tm mem7 ⟨hle7, i, f, p7, hi, rfl, hf, rfl, a1, a2, h4, h3, h2, h0⟩
    refine ⟨400, ?_⟩
    by_cases hi4 : i < 4
    · have hi4' : (i : Int) < 4 := by omega
      simp (maxSteps := 4000000) -dsimp [-Y1, -Array.all_eq_true, -Y3, -Y4, and_assoc, Y5, Tryz.f40, pickC, numC, wordC, l3RealC, hlt, List.getElem?_append, List.set_append, List.getElem?_set, h4, h3, h2, h0, hi4']
      refine pickC_at hR hty hle7 ⟨by omega, by omega⟩ (by omega) ?_
      rintro cx8 _ p8 hle8 - e2 e3 ⟨k, rfl, k0, k1⟩
      by_cases hk : k = 0
      · simp (maxSteps := 4000000) -dsimp [-Y1, -Array.all_eq_true, -Y3, -Y4, and_assoc, Y5, Tryz.f40, pickC, numC, wordC, l3RealC, hlt, List.getElem?_append, List.set_append, List.getElem?_set, h4, h3, h2, h0, hi4', hk]
        refine l3RealC_at hR hty hle8 ⟨by omega, by omega⟩ trivial ?_
        rintro cx9 _ p9 hle9 - e4 e5 ⟨fx, rfl, hfx⟩
        have hse := smC_set (IntKind.u32.wrap w0) (IntKind.u16.wrap n) f fx i hi4
        have hsl : 2 + i < 6 := by omega
        simp (maxSteps := 4000000) -dsimp [-Y1, -Array.all_eq_true, -Y3, -Y4, and_assoc, Y5, Tryz.f40, pickC, numC, wordC, l3RealC, hlt, List.getElem?_append, List.set_append, List.getElem?_set, h4, h3, h2, h0, hi4', hse, sm_len, hsl, i_succ (i := i) (by omega)]
        refine ⟨by omega, mem.length + 2, 4 - (i + 1), by omega, hle9, i + 1, by omega, rfl, upd f i fx, ?_, p9, List.take_of_length_le (by simp), by omega, by omega, by omega⟩
        intro k hk4
        simp only [upd]; split
        · exact hfx
        · exact hf k hk4
      · simp (maxSteps := 4000000) -dsimp [-Y1, -Array.all_eq_true, -Y3, -Y4, and_assoc, Y5, Tryz.f40, pickC, numC, wordC, l3RealC, hlt, List.getElem?_append, List.set_append, List.getElem?_set, h4, h3, h2, h0, hi4', hk, i_succ (i := i) (by omega)]
        refine ⟨mem.length + 2, 4 - (i + 1), by omega, hle8, i + 1, by omega, rfl, f, hf, p8, List.take_of_length_le (by simp), by omega, by omega, by omega⟩
    · have hi4' : ¬ (i : Int) < 4 := by omega
      simp (maxSteps := 4000000) -dsimp [-Y1, -Array.all_eq_true, -Y3, -Y4, and_assoc, Y5, Tryz.f40, pickC, numC, wordC, l3RealC, hlt, List.getElem?_append, List.set_append, List.getElem?_set, h4, h3, h2, h0, hi4', sm_len, sm_take, allV_map, sm_one, sm_spl]
      exact EndK.left ⟨_, _, rfl, rfl, hle7, by omega, by omega, ⟨IntKind.u32.wrap w0, IntKind.u16.wrap n, f⟩, rfl, ⟨wrap_u32_bd _, wrap_u16_bd _, hf⟩⟩
  · simp (maxSteps := 4000000) -dsimp [-Y1, -Array.all_eq_true, -Y3, -Y4, and_assoc, Y5, Tryz.f40, pickC, numC, wordC, l3RealC, hlt, List.getElem?_append, List.set_append, List.getElem?_set, hy2]
    refine loop_inv (σ := ⟨[pickC, numC, wordC, l3RealC], []⟩) hmx (by kernel_rfl) (fun q cx' tm mem' => Le cx cx' ∧ ∃ (i : Nat) (f : Arr 4 Nat) (p' : Int), i ≤ 4 ∧ q = 4 - i ∧ (∀ k, k < 4 → f k < 18446744073709551616) ∧ mem' = mem.set R.k (R.blk p') ++ [⟨b, [.v (.int .u32 0), .v (.int .u16 0), .v (.float .f64 0), .v (.float .f64 0), .v (.float .f64 0), .v (.float .f64 0)], 41⟩, ⟨b2, List.map C.v (sampleL (IntKind.u32.wrap y) (IntKind.u16.wrap n) f), 41⟩] ∧ p ≤ p' ∧ p' ≤ p + 20 + 21 * i ∧ Sx.look tm 4 = .v (.int .i64 i) ∧ Sx.look tm 3 = .p (mem.length + 1) b2 0 ∧ Sx.look tm 2 = .p mem.length b 0 ∧ Sx.look tm 0 = .p R.k R.b 0)
      4 ⟨hle4, 0, Arr.zero _ _, p4, by omega, rfl, zero_lt, by rw [← smC_zero], by omega, by omega, by simp [Sx.look], by simp [Sx.look], by simp [Sx.look], by simp [Sx.look]⟩ ?_
    rintro q cx7 tm mem7 ⟨hle7, i, f, p7, hi, rfl, hf, rfl, a1, a2, h4, h3, h2, h0⟩
    refine ⟨400, ?_⟩
    by_cases hi4 : i < 4
    · have hi4' : (i : Int) < 4 := by omega
      simp (maxSteps := 4000000) -dsimp [-Y1, -Array.all_eq_true, -Y3, -Y4, and_assoc, Y5, Tryz.f40, pickC, numC, wordC, l3RealC, hlt, List.getElem?_append, List.set_append, List.getElem?_set, h4, h3, h2, h0, hi4']
      refine pickC_at hR hty hle7 ⟨by omega, by omega⟩ (by omega) ?_
      rintro cx8 _ p8 hle8 - e2 e3 ⟨k, rfl, k0, k1⟩
      by_cases hk : k = 0
      · simp (maxSteps := 4000000) -dsimp [-Y1, -Array.all_eq_true, -Y3, -Y4, and_assoc, Y5, Tryz.f40, pickC, numC, wordC, l3RealC, hlt, List.getElem?_append, List.set_append, List.getElem?_set, h4, h3, h2, h0, hi4', hk]
        refine l3RealC_at hR hty hle8 ⟨by omega, by omega⟩ trivial ?_
        rintro cx9 _ p9 hle9 - e4 e5 ⟨fx, rfl, hfx⟩
        have hse := smC_set (IntKind.u32.wrap y) (IntKind.u16.wrap n) f fx i hi4
        have hsl : 2 + i < 6 := by omega
        simp (maxSteps := 4000000) -dsimp [-Y1, -Array.all_eq_true, -Y3, -Y4, and_assoc, Y5, Tryz.f40, pickC, numC, wordC, l3RealC, hlt, List.getElem?_append, List.set_append, List.getElem?_set, h4, h3, h2, h0, hi4', hse, sm_len, hsl, i_succ (i := i) (by omega)]
        refine ⟨by omega, mem.length + 2, 4 - (i + 1), by omega, hle9, i + 1, by omega, rfl, upd f i fx, ?_, p9, List.take_of_length_le (by simp), by omega, by omega, by omega⟩
        intro k hk4
        simp only [upd]; split
        · exact hfx
        · exact hf k hk4
      · simp (maxSteps := 4000000) -dsimp [-Y1, -Array.all_eq_true, -Y3, -Y4, and_assoc, Y5, Tryz.f40, pickC, numC, wordC, l3RealC, hlt, List.getElem?_append, List.set_append, List.getElem?_set, h4, h3, h2, h0, hi4', hk, i_succ (i := i) (by omega)]
        refine ⟨mem.length + 2, 4 - (i + 1), by omega, hle8, i + 1, by omega, rfl, f, hf, p8, List.take_of_length_le (by simp), by omega, by omega, by omega⟩
    · have hi4' : ¬ (i : Int) < 4 := by omega
      simp (maxSteps := 4000000) -dsimp [-Y1, -Array.all_eq_true, -Y3, -Y4, and_assoc, Y5, Tryz.f40, pickC, numC, wordC, l3RealC, hlt, List.getElem?_append, List.set_append, List.getElem?_set, h4, h3, h2, h0, hi4', sm_len, sm_take, allV_map, sm_one, sm_spl]
      exact EndK.left ⟨_, _, rfl, rfl, hle7, by omega, by omega, ⟨IntKind.u32.wrap y, IntKind.u16.wrap n, f⟩, rfl, ⟨wrap_u32_bd _, wrap_u16_bd _, hf⟩⟩
def l6SampleC_S : Draws Tryz.prog 152 200 40 where
  ι := Unit
  A := fun (_u : Unit) => []
  pre := fun (_u : Unit) (F : Facts) => True
  post := fun (_u : Unit) (v : Value) (F : Facts) => ∃ s : Smp, v = .agg (sampleL s.x s.dt s.f).toArray ∧ SmpOk s
  mono := fun _ _ _ _ _ => trivial
  enter := Tryz.call40
  h := fun _u R p cx mem w h1 h2 h3 h4 h5 h6 => l6SampleC_c  R p cx mem w h1 h2 h3 h4 h5 h6
def l6SampleC : Con Tryz.prog := Con.draw l6SampleC_S
theorem l6SampleC_at  {d : Nat} {R : Rdr} {cx0 cx : Cx} {mem0 : List Blk} {ex : List Blk} {K : Cx → C → List Blk → Prop} {p : Int} (hR : R.Is (factF cx0) mem0) (hty : R.ty = 152) (hle : Le cx0 cx) (hp : 0 ≤ p ∧ p + 200 ≤ 1125899906842624) (hpre : True)
    (h : ∀ cx' v p', Le cx0 cx' → Le cx cx' → p ≤ p' → p' ≤ p + 200 → (∃ s : Smp, v = .agg (sampleL s.x s.dt s.f).toArray ∧ SmpOk s) → K cx' (.v v) (mem0.set R.k (R.blk p') ++ ex)) :
    DrawV d l6SampleC_S cx [.p R.k R.b 0] (mem0.set R.k (R.blk p) ++ ex) K := DrawV.at (S := l6SampleC_S) hR hty hle () hp hpre h
theorem drawMachScanC_c (o : Option Addr) (cap : Nat) (bs : List Int) (cx : Cx) (mem : List Blk) (w : World) (hpre : RdB (factF cx) o bs ∧ (∀ b ∈ bs, 0 ≤ b ∧ b < 256) ∧ bs.length ≤ cap ∧ cap ≤ maxLen) (hm : MemRel cx mem w) :
    Calls Tryz.prog 8 (([.v (.slice o bs.length cap)] : List C).map den).toArray w fun e w' => ∃ cx' c mem', e = .returned (den c) ∧ MemRel cx' mem' w' ∧ Le cx cx' ∧ mem' = mem ∧ ∃ (o1 : Option Addr) (cap1 : Nat) (xs : List Ins) (m : M) (s : Smp), c = .v (.tuple #[.slice o1 (List.length xs) cap1, .agg (cells m), .agg (sampleL s.x s.dt s.f).toArray]) ∧ RdN (factF cx') o1 xs ∧ List.length xs ≤ cap1 ∧ cap1 ≤ maxLen ∧ List.length xs ≤ 7000 ∧ (∀ x ∈ xs, x.args.length ≤ 4) ∧ MOk m ∧ SmpOk s := by
  refine step_of_vcs ⟨[l10OpenC, l9ListC, l9MemC, l6SampleC], [(4, [(0, false), (1, false), (2, false), (3, false), (1, true), (4, false), (5, false), (6, false)])]⟩ hmx Tryz.func8 rfl (by kernel_rfl) (args := [.v (.slice o bs.length cap)]) (by simp [Tryz.ntmps8]) hm (fun cx' c mem' => Le cx cx' ∧ mem' = mem ∧ ∃ (o1 : Option Addr) (cap1 : Nat) (xs : List Ins) (m : M) (s : Smp), c = .v (.tuple #[.slice o1 (List.length xs) cap1, .agg (cells m), .agg (sampleL s.x s.dt s.f).toArray]) ∧ RdN (factF cx') o1 xs ∧ List.length xs ≤ cap1 ∧ cap1 ≤ maxLen ∧ List.length xs ≤ 7000 ∧ (∀ x ∈ xs, x.args.length ≤ 4) ∧ MOk m ∧ SmpOk s) 400 ?_
  simp (maxSteps := 4000000) -dsimp [-Y1, -Array.all_eq_true, -Y3, -Y4, and_assoc, Y5, Tryz.f8, l10OpenC, l9ListC, l9MemC, l6SampleC, Con.gen, zero_st', -Sx.splice_two]
  intro b0 b1
  refine l10OpenC_at hpre ?_
  rintro cx1 c mem1 ⟨R, mem0, p, rfl, rfl, hp, hR, hty, hle1, h1, h2, h3⟩
  have hk0 := take_get h1 mem.length (by simp)
  have hk1 := take_get h1 (mem.length + 1) (by simp)
  simp at hk0 hk1 h2 h3
  have hj0 := (List.getElem?_eq_some_iff.1 hk0).2
  have hj1 := (List.getElem?_eq_some_iff.1 hk1).2
  have hn0 : ¬ R.k = mem.length := by omega
  have hn1 : ¬ R.k = mem.length + 1 := by omega
  have ht : mem0.take mem.length = mem := by
    have := congrArg (List.take mem.length) h1
    rw [List.take_take] at this
    simpa using this
  have a1 : mem.length < mem.length + 2 + 1 := by omega
  have a2 : mem.length + 1 < mem.length + 2 + 1 := by omega
  have hlt := hR.lt
  have hle := Le.refl cx1
  simp (maxSteps := 4000000) -dsimp [-Y1, -Array.all_eq_true, -Y3, -Y4, and_assoc, Y5, Tryz.f8, l10OpenC, l9ListC, l9MemC, l6SampleC]
  refine l9ListC_at0 hR hty hle ⟨by omega, by omega⟩ trivial ?_
  rintro cx2 _ p2 hle2 - c1 c2 ⟨xs, ⟨⟨xo, xcap, rfl, hxd, hxc, hxm⟩⟩, hxl, hxa⟩
  simp (maxSteps := 4000000) -dsimp [-Y1, -Array.all_eq_true, -Y3, -Y4, and_assoc, Y5, Tryz.f8, l10OpenC, l9ListC, l9MemC, l6SampleC]
  refine l9MemC_at0 hR hty hle2 ⟨by omega, by omega⟩ trivial ?_
  rintro cx3 _ p3 hle3 l3 c3 c4 ⟨m, rfl, hm⟩
  simp (maxSteps := 4000000) -dsimp [-Y1, -Array.all_eq_true, -Y3, -Y4, and_assoc, Y5, Tryz.f8, l10OpenC, l9ListC, l9MemC, l6SampleC, hlt, hk0, hk1, hj0, hj1, h3, hn0, hn1, a1, a2, List.getElem?_append, List.set_append, List.getElem?_set, -Sx.splice_two]
  intro b7
  refine l6SampleC_at hR hty hle3 ⟨by omega, by omega⟩ trivial ?_
  rintro cx4 _ p4 hle4 l4 c5 c6 ⟨s, rfl, hsm⟩
  simp (maxSteps := 4000000) -dsimp [-Y1, -Array.all_eq_true, -Y3, -Y4, and_assoc, Y5, Tryz.f8, l10OpenC, l9ListC, l9MemC, l6SampleC, hlt, hk0, hk1, hj0, hj1, h3, hn0, hn1, a1, a2, List.getElem?_append, List.set_append, List.getElem?_set, -Sx.splice_two, sm_len, sm_take, sm_one, sm_spl, sm_inj, allV_map]
  refine EndK.plain mem.length ⟨hle1.trans hle4, ?_, xo, xcap, xs, m, s, rfl, hxd.mono (l3.trans l4).fact, hxc, hxm, hxl, hxa, hm, hsm⟩
  rw [List.take_append_of_le_length (by simp; omega), List.take_set_of_le (by omega), List.take_set_of_le (by omega), List.take_set_of_le (by omega), ht]
def drawMachScanC_S : Gens Tryz.prog 8 where
  ι := ((Option Addr) × (Nat) × (List Int))
  A := fun (i : ((Option Addr) × (Nat) × (List Int))) => match i with | (o, cap, bs) => [.v (.slice o bs.length cap)]
  pre := fun (i : ((Option Addr) × (Nat) × (List Int))) (cx : Cx) (mem : List Blk) => match i with | (o, cap, bs) => RdB (factF cx) o bs ∧ (∀ b ∈ bs, 0 ≤ b ∧ b < 256) ∧ bs.length ≤ cap ∧ cap ≤ maxLen
  post := fun (i : ((Option Addr) × (Nat) × (List Int))) (cx : Cx) (mem : List Blk) (cx' : Cx) (c : C) (mem' : List Blk) => match i with | (o, cap, bs) => Le cx cx' ∧ mem' = mem ∧ ∃ (o1 : Option Addr) (cap1 : Nat) (xs : List Ins) (m : M) (s : Smp), c = .v (.tuple #[.slice o1 (List.length xs) cap1, .agg (cells m), .agg (sampleL s.x s.dt s.f).toArray]) ∧ RdN (factF cx') o1 xs ∧ List.length xs ≤ cap1 ∧ cap1 ≤ maxLen ∧ List.length xs ≤ 7000 ∧ (∀ x ∈ xs, x.args.length ≤ 4) ∧ MOk m ∧ SmpOk s
  enter := Tryz.call8
  h := fun i cx mem w hp hm => drawMachScanC_c i.1 i.2.1 i.2.2 cx mem w hp hm
def drawMachScanC : Con Tryz.prog := Con.gen drawMachScanC_S
theorem drawMachScanC_at {o : Option Addr} {cap : Nat} {bs : List Int} {d : Nat} {cx : Cx} {mem : List Blk} {K : Cx → C → List Blk → Prop} (hpre : RdB (factF cx) o bs ∧ (∀ b ∈ bs, 0 ≤ b ∧ b < 256) ∧ bs.length ≤ cap ∧ cap ≤ maxLen) (h : ∀ cx' c mem', (Le cx cx' ∧ mem' = mem ∧ ∃ (o1 : Option Addr) (cap1 : Nat) (xs : List Ins) (m : M) (s : Smp), c = .v (.tuple #[.slice o1 (List.length xs) cap1, .agg (cells m), .agg (sampleL s.x s.dt s.f).toArray]) ∧ RdN (factF cx') o1 xs ∧ List.length xs ≤ cap1 ∧ cap1 ≤ maxLen ∧ List.length xs ≤ 7000 ∧ (∀ x ∈ xs, x.args.length ≤ 4) ∧ MOk m ∧ SmpOk s) → K cx' c mem') : GenV d drawMachScanC_S cx [.v (.slice o bs.length cap)] mem K := ⟨(o, cap, bs), rfl, hpre, h⟩
def smR (ss : List Smp) (pad : List C) : List C := List.map C.v (List.flatten (ss.map smL)) ++ pad
theorem smF_len (ss : List Smp) : (List.flatten (ss.map smL)).length = ss.length * 6 := by
  have := len_flat (size := 6) (rs := ss.map smL) (fun r hr => by obtain ⟨s, _, rfl⟩ := List.mem_map.1 hr; exact smL_len s)
  rw [this, List.length_map]
structure SOut (ss : List Smp) (pad : List C) (cap : Nat) : Prop where
  sc : ss.length ≤ cap
  cm : cap ≤ maxLen
  pl : (smR ss pad).length = cap * 6
  ok : ∀ s ∈ ss, SmpOk s
theorem SOut.nil : SOut [] [] 0 := ⟨by simp, by decide, rfl, by simp⟩
theorem SOut.tk {ss : List Smp} {pad : List C} {cap : Nat} (h : SOut ss pad cap) : List.take (ss.length * 6) (smR ss pad) = List.map C.v (List.flatten (ss.map smL)) := by
  unfold smR
  rw [List.take_left' (by rw [List.length_map, smF_len])]
theorem SOut.push {ss : List Smp} {pad pad' : List C} {cap cap' : Nat} {s : Smp} (h : SOut ss pad cap) (hs : SmpOk s) (h1 : ss.length + 1 ≤ cap') (h2 : cap' ≤ maxLen) (h3 : pad'.length = (cap' - (ss.length + 1)) * 6) : SOut (ss ++ [s]) pad' cap' := by
  refine ⟨by simpa using h1, h2, ?_, fun x hx => ?_⟩
  · unfold smR
    rw [List.length_append, List.length_map, smF_len, h3]
    simp
    omega
  · rcases List.mem_append.1 hx with hx | hx
    · exact h.ok x hx
    · rw [List.mem_singleton] at hx; rw [hx]; exact hs
end Go.Proofs.YtfhnbdlkiemaeaaGreat
