/-
  Contracts: what the laws of the machine draw.
-/
import Derived.Test.YtfhnbdlkiemaeaaGreatGspk
import Derived.Test.YtfhnbdlkiemaeaaGreatGupk
import Derived.Test.YtfhnbdlkiemaeaaGreatMrpk
set_option linter.unusedVariables false
set_option linter.unusedSimpArgs false
set_option maxRecDepth 100000
set_option maxHeartbeats 4000000
namespace Go.Proofs.YtfhnbdlkiemaeaaGreat
open Go Go.Sx
attribute [local simp] Go.Sx.vcsE1 Go.Sx.vcsE2 Go.Sx.vcsE3 Go.Sx.vcsE4 Go.Sx.vcsE5 Go.Sx.vcsE6 Go.Sx.vcsE7 Go.Sx.vcsE8 Go.Sx.vcsE9 Go.Sx.vcsE10 Go.Sx.vcsE11 Go.Sx.vcsE12 Go.Sx.vcsE13 Go.Sx.vcsE14 Go.Sx.vcsE15 Go.Sx.vcsE16 Go.Sx.vcsE17 Go.Sx.vcsE18 Go.Sx.vcsE19 Go.Sx.get Go.Sx.look Go.Sx.put Go.Sx.pureFn Go.Sx.findOrd Go.Sx.unF Go.Sx.dstOk Go.Sx.isFloatT Go.Sx.endVC Go.Sx.resFn Go.Sx.packC Go.Sx.newFn Go.Sx.storeFn Go.Sx.buildFn Go.Sx.known Go.Sx.aggT Go.Sx.cellsC Go.Sx.findCon Go.Sx.allV Go.Sx.partsV Go.Sx.partsC Go.Sx.fillL Go.Sx.exitTo Go.Sx.fAr Go.Sx.eqFn Go.Sx.eqFieldsFn Go.Sx.eqElemsFn Go.Sx.partFn Go.Sx.sliceFn Go.Sx.boundFn Go.Sx.AppV Go.Sx.CopyV Go.Sx.MakeSliceV Go.Sx.NewsV Go.Sx.GrowV Go.Sx.TextV Go.Sx.bytesL Go.Sx.notInt Go.Sx.typeAt Go.Sx.argAt Go.Sx.den Go.undef Go.Value.cells Go.Value.oneCell' Go.Sx.Con.pure Go.Sx.Con.some Go.Sx.Con.read Go.Sx.Con.make Go.Sx.Con.ext Go.Sx.Con.rel Go.Sx.Con.extS Go.Sx.Con.draw Go.Sx.Con.step Go.Sx.C.one Go.Sx.Draws.steps

theorem l9ListC_c  (R : Rdr) (p : Int) (cx : Cx) (mem : List Blk) (w : World) (hty : R.ty = 152) (hR : R.Is (factF cx) mem) (hp : 0 ≤ p) (hpc : p + 1100020000 ≤ 1125899906842624) (hpre : True) (hm : MemRel cx (mem.set R.k (R.blk p)) w) :
    Calls Tryz.prog 38 ((.p R.k R.b 0 :: [] : List C).map den).toArray w fun e w' => ∃ cx' x mem', e = .returned (den x) ∧ MemRel cx' mem' w' ∧ (fun cx' x mem' => ∃ v p', x = .v v ∧ mem' = mem.set R.k (R.blk p') ∧ Le cx cx' ∧ p ≤ p' ∧ p' ≤ p + 1100020000 ∧ (∃ xs, IsList (factF cx') v xs ∧ xs.length ≤ 7000 ∧ (∀ x ∈ xs, x.args.length ≤ 4))) cx' x mem' := by
  refine step_of_vcs ⟨[pickC, l8DeepC, l7SureC, l7SpoilC], []⟩ hmx Tryz.func38 rfl (by kernel_rfl) (args := .p R.k R.b 0 :: []) (by simp [Tryz.ntmps38]) hm (fun cx' x mem' => ∃ v p', x = .v v ∧ mem' = mem.set R.k (R.blk p') ∧ Le cx cx' ∧ p ≤ p' ∧ p' ≤ p + 1100020000 ∧ (∃ xs, IsList (factF cx') v xs ∧ xs.length ≤ 7000 ∧ (∀ x ∈ xs, x.args.length ≤ 4))) 400 ?_
  have hlt := hR.lt
  have hle := Le.refl cx
  simp (maxSteps := 4000000) -dsimp [-List.all_eq_true, -Array.all_eq_true, -Bool.exists_bool, -Bool.forall_bool, and_assoc, List.zipIdx, Tryz.f38, pickC, l8DeepC, l7SureC, l7SpoilC, hlt]
  refine pickC_at0 hR hty hle ⟨by omega, by omega⟩ (by omega) ?_
  rintro cx2 _ p2 hle2 l2 c1 c2 ⟨y, rfl, y0, y1⟩
  by_cases e0 : y = 0
  · subst e0
    simp (maxSteps := 4000000) -dsimp [-List.all_eq_true, -Array.all_eq_true, -Bool.exists_bool, -Bool.forall_bool, and_assoc, List.zipIdx, Tryz.f38, pickC, l8DeepC, l7SureC, l7SpoilC, hlt]
    refine l8DeepC_at0 hR hty hle2 ⟨by omega, by omega⟩ trivial ?_
    rintro cx3 v p3 hle3 l3 c3 c4 ⟨xs, hx, hxl, hxa⟩
    simp (maxSteps := 4000000) -dsimp [-List.all_eq_true, -Array.all_eq_true, -Bool.exists_bool, -Bool.forall_bool, and_assoc, List.zipIdx, Tryz.f38, pickC, l8DeepC, l7SureC, l7SpoilC, hlt]
    exact EndK.all ⟨_, _, rfl, rfl, hle3, by omega, by omega, xs, hx, by omega, hxa⟩
  by_cases e1 : y = 1 ∨ y = 2
  · rcases e1 with rfl | rfl
    all_goals
      simp (maxSteps := 4000000) -dsimp [-List.all_eq_true, -Array.all_eq_true, -Bool.exists_bool, -Bool.forall_bool, and_assoc, List.zipIdx, Tryz.f38, pickC, l8DeepC, l7SureC, l7SpoilC, hlt]
      refine l7SureC_at0 hR hty hle2 ⟨by omega, by omega⟩ trivial ?_
      rintro cx3 _ p3 hle3 l3 c3 c4 ⟨xs, ⟨⟨xo, xcap, rfl, hxd, hxc, hxm⟩⟩, hxl, hxa⟩
      simp (maxSteps := 4000000) -dsimp [-List.all_eq_true, -Array.all_eq_true, -Bool.exists_bool, -Bool.forall_bool, and_assoc, List.zipIdx, Tryz.f38, pickC, l8DeepC, l7SureC, l7SpoilC, hlt]
      refine l7SpoilC_at0 hR hty hle3 ⟨by omega, by omega⟩ ⟨hxd, hxl, hxa⟩ ?_
      rintro cx4 v p4 hle4 l4 c5 c6 ⟨ys, hy, hyl, hya⟩
      simp (maxSteps := 4000000) -dsimp [-List.all_eq_true, -Array.all_eq_true, -Bool.exists_bool, -Bool.forall_bool, and_assoc, List.zipIdx, Tryz.f38, pickC, l8DeepC, l7SureC, l7SpoilC, hlt]
      exact EndK.all ⟨_, _, rfl, rfl, hle4, by omega, by omega, ys, hy, hyl, hya⟩
  · have e2 : ¬ y = 1 := fun h => e1 (Or.inl h)
    have e3 : ¬ y = 2 := fun h => e1 (Or.inr h)
    simp (maxSteps := 4000000) -dsimp [-List.all_eq_true, -Array.all_eq_true, -Bool.exists_bool, -Bool.forall_bool, and_assoc, List.zipIdx, Tryz.f38, pickC, l8DeepC, l7SureC, l7SpoilC, hlt, e0, e2, e3]
    refine l7SureC_at0 hR hty hle2 ⟨by omega, by omega⟩ trivial ?_
    rintro cx3 v p3 hle3 l3 c3 c4 ⟨xs, hx, hxl, hxa⟩
    simp (maxSteps := 4000000) -dsimp [-List.all_eq_true, -Array.all_eq_true, -Bool.exists_bool, -Bool.forall_bool, and_assoc, List.zipIdx, Tryz.f38, pickC, l8DeepC, l7SureC, l7SpoilC, hlt, e0, e2, e3]
    exact EndK.all ⟨_, _, rfl, rfl, hle3, by omega, by omega, xs, hx, by omega, fun x hx => by have := hxa x hx; omega⟩
def l9ListC_S : Draws Tryz.prog 152 1100020000 38 where
  ι := Unit
  A := fun (_u : Unit) => []
  pre := fun (_u : Unit) (F : Facts) => True
  post := fun (_u : Unit) (v : Value) (F : Facts) => ∃ xs, IsList F v xs ∧ xs.length ≤ 7000 ∧ (∀ x ∈ xs, x.args.length ≤ 4)
  mono := fun _ _ _ _ _ => trivial
  enter := Tryz.call38
  h := fun _u R p cx mem w h1 h2 h3 h4 h5 h6 => l9ListC_c  R p cx mem w h1 h2 h3 h4 h5 h6
def l9ListC : Con Tryz.prog := Con.draw l9ListC_S
theorem l9ListC_at0  {d : Nat} {R : Rdr} {cx0 cx : Cx} {mem0 : List Blk} {K : Cx → C → List Blk → Prop} {p : Int} (hR : R.Is (factF cx0) mem0) (hty : R.ty = 152) (hle : Le cx0 cx) (hp : 0 ≤ p ∧ p + 1100020000 ≤ 1125899906842624) (hpre : True)
    (h : ∀ cx' v p', Le cx0 cx' → Le cx cx' → p ≤ p' → p' ≤ p + 1100020000 → (∃ xs, IsList (factF cx') v xs ∧ xs.length ≤ 7000 ∧ (∀ x ∈ xs, x.args.length ≤ 4)) → K cx' (.v v) (mem0.set R.k (R.blk p'))) :
    DrawV d l9ListC_S cx [.p R.k R.b 0] (mem0.set R.k (R.blk p)) K := DrawV.at0 (S := l9ListC_S) hR hty hle () hp hpre h
theorem l9MemC_c  (R : Rdr) (p : Int) (cx : Cx) (mem : List Blk) (w : World) (hty : R.ty = 152) (hR : R.Is (factF cx) mem) (hp : 0 ≤ p) (hpc : p + 20000 ≤ 1125899906842624) (hpre : True) (hm : MemRel cx (mem.set R.k (R.blk p)) w) :
    Calls Tryz.prog 39 ((.p R.k R.b 0 :: [] : List C).map den).toArray w fun e w' => ∃ cx' x mem', e = .returned (den x) ∧ MemRel cx' mem' w' ∧ (fun cx' x mem' => ∃ v p', x = .v v ∧ mem' = mem.set R.k (R.blk p') ∧ Le cx cx' ∧ p ≤ p' ∧ p' ≤ p + 20000 ∧ (∃ m, v = .agg (cells m) ∧ MOk m)) cx' x mem' := by
  refine step_of_vcs ⟨[pickC, l5DrawC], []⟩ hmx Tryz.func39 rfl (by kernel_rfl) (args := .p R.k R.b 0 :: []) (by simp [Tryz.ntmps39]) hm (fun cx' x mem' => ∃ v p', x = .v v ∧ mem' = mem.set R.k (R.blk p') ∧ Le cx cx' ∧ p ≤ p' ∧ p' ≤ p + 20000 ∧ (∃ m, v = .agg (cells m) ∧ MOk m)) 400 ?_
  have hlt := hR.lt
  have hle := Le.refl cx
  simp (maxSteps := 4000000) -dsimp [-List.all_eq_true, -Array.all_eq_true, -Bool.exists_bool, -Bool.forall_bool, and_assoc, List.zipIdx, Tryz.f39, pickC, l5DrawC, hlt]
  intro b
  refine pickC_at hR hty hle ⟨by omega, by omega⟩ (by omega) ?_
  rintro cx1 _ p1 hle1 - c1 c2 ⟨y, rfl, y0, y1⟩
  by_cases hy : y = 0
  · simp (maxSteps := 4000000) -dsimp [-List.all_eq_true, -Array.all_eq_true, -Bool.exists_bool, -Bool.forall_bool, and_assoc, List.zipIdx, Tryz.f39, pickC, l5DrawC, hlt, hy, List.getElem?_append, List.set_append, List.getElem?_set]
    refine EndK.left ⟨_, p1, rfl, rfl, hle1, by omega, by omega, zeroM, rfl, zeroM_ok⟩
  simp (maxSteps := 4000000) -dsimp [-List.all_eq_true, -Array.all_eq_true, -Bool.exists_bool, -Bool.forall_bool, and_assoc, List.zipIdx, Tryz.f39, pickC, l5DrawC, hlt, hy, List.getElem?_append, List.set_append, List.getElem?_set]
  refine l5DrawC_at hR hty hle1 ⟨by omega, by omega⟩ trivial ?_
  rintro cx2 _ p2 hle2 - d0 e0 ⟨m, rfl, hm⟩
  simp (maxSteps := 4000000) -dsimp [-List.all_eq_true, -Array.all_eq_true, -Bool.exists_bool, -Bool.forall_bool, and_assoc, List.zipIdx, Tryz.f39, pickC, l5DrawC, hlt, hy, List.getElem?_append, List.set_append, List.getElem?_set]
  refine EndK.left ⟨_, p2, rfl, rfl, hle2, by omega, by omega, m, rfl, hm⟩
def l9MemC_S : Draws Tryz.prog 152 20000 39 where
  ι := Unit
  A := fun (_u : Unit) => []
  pre := fun (_u : Unit) (F : Facts) => True
  post := fun (_u : Unit) (v : Value) (F : Facts) => ∃ m, v = .agg (cells m) ∧ MOk m
  mono := fun _ _ _ _ _ => trivial
  enter := Tryz.call39
  h := fun _u R p cx mem w h1 h2 h3 h4 h5 h6 => l9MemC_c  R p cx mem w h1 h2 h3 h4 h5 h6
def l9MemC : Con Tryz.prog := Con.draw l9MemC_S
theorem l9MemC_at0  {d : Nat} {R : Rdr} {cx0 cx : Cx} {mem0 : List Blk} {K : Cx → C → List Blk → Prop} {p : Int} (hR : R.Is (factF cx0) mem0) (hty : R.ty = 152) (hle : Le cx0 cx) (hp : 0 ≤ p ∧ p + 20000 ≤ 1125899906842624) (hpre : True)
    (h : ∀ cx' v p', Le cx0 cx' → Le cx cx' → p ≤ p' → p' ≤ p + 20000 → (∃ m, v = .agg (cells m) ∧ MOk m) → K cx' (.v v) (mem0.set R.k (R.blk p'))) :
    DrawV d l9MemC_S cx [.p R.k R.b 0] (mem0.set R.k (R.blk p)) K := DrawV.at0 (S := l9MemC_S) hR hty hle () hp hpre h
theorem smC_set (x t : Int) (f : Arr 4 Nat) (y : Nat) : ∀ k, k < 4 → (List.map C.v (sampleL x t f)).set (2 + k) (.v (.float .f64 y)) = List.map C.v (sampleL x t (upd f k y))
  | 0, _ => by kernel_rfl
  | 1, _ => by kernel_rfl
  | 2, _ => by kernel_rfl
  | 3, _ => by kernel_rfl
  | k + 4, h => absurd h (by omega)
theorem smC_zero (x t : Int) : [C.v (.int .u32 x), .v (.int .u16 t), .v (.float .f64 0), .v (.float .f64 0), .v (.float .f64 0), .v (.float .f64 0)] = List.map C.v (sampleL x t (Arr.zero _ _)) := by kernel_rfl
theorem l6SampleC_c  (R : Rdr) (p : Int) (cx : Cx) (mem : List Blk) (w : World) (hty : R.ty = 152) (hR : R.Is (factF cx) mem) (hp : 0 ≤ p) (hpc : p + 200 ≤ 1125899906842624) (hpre : True) (hm : MemRel cx (mem.set R.k (R.blk p)) w) :
    Calls Tryz.prog 40 ((.p R.k R.b 0 :: [] : List C).map den).toArray w fun e w' => ∃ cx' x mem', e = .returned (den x) ∧ MemRel cx' mem' w' ∧ (fun cx' x mem' => ∃ v p', x = .v v ∧ mem' = mem.set R.k (R.blk p') ∧ Le cx cx' ∧ p ≤ p' ∧ p' ≤ p + 200 ∧ (∃ s : Smp, v = .agg (sampleL s.x s.dt s.f).toArray ∧ SmpOk s)) cx' x mem' := by
  refine step_of_vcs ⟨[pickC, numC, wordC, l3RealC], []⟩ hmx Tryz.func40 rfl (by kernel_rfl) (args := .p R.k R.b 0 :: []) (by simp [Tryz.ntmps40]) hm (fun cx' x mem' => ∃ v p', x = .v v ∧ mem' = mem.set R.k (R.blk p') ∧ Le cx cx' ∧ p ≤ p' ∧ p' ≤ p + 200 ∧ (∃ s : Smp, v = .agg (sampleL s.x s.dt s.f).toArray ∧ SmpOk s)) 400 ?_
  have hlt := hR.lt
  have hle := Le.refl cx
  simp (maxSteps := 4000000) -dsimp [-List.all_eq_true, -Array.all_eq_true, -Bool.exists_bool, -Bool.forall_bool, and_assoc, List.zipIdx, Tryz.f40, pickC, numC, wordC, l3RealC, hlt]
  intro b
  refine pickC_at hR hty hle ⟨by omega, by omega⟩ (by omega) ?_
  rintro cx1 _ p1 hle1 - c1 c2 ⟨y, rfl, y0, y1⟩
  simp (maxSteps := 4000000) -dsimp [-List.all_eq_true, -Array.all_eq_true, -Bool.exists_bool, -Bool.forall_bool, and_assoc, List.zipIdx, Tryz.f40, pickC, numC, wordC, l3RealC, hlt, List.getElem?_append, List.set_append, List.getElem?_set]
  intro cx2 lq hle2 hl2
  refine numC_lit hR hty (hle1.trans hle2) hl2 rfl rfl ⟨by omega, by omega⟩ (by decide) (by decide) ?_
  rintro cx3 _ p3 hle3 l3 q5 q6 ⟨n, rfl, hn⟩
  simp (maxSteps := 4000000) -dsimp [-List.all_eq_true, -Array.all_eq_true, -Bool.exists_bool, -Bool.forall_bool, and_assoc, List.zipIdx, Tryz.f40, pickC, numC, wordC, l3RealC, hlt, List.getElem?_append, List.set_append, List.getElem?_set]
  intro b2
  refine pickC_at hR hty hle3 ⟨by omega, by omega⟩ (by omega) ?_
  rintro cx4 _ p4 hle4 - c3 c4 ⟨y2, rfl, y20, y21⟩
  have zero_lt : ∀ k, k < 4 → (Arr.zero 4 Nat) k < 18446744073709551616 := fun k _ => by simp [Arr.zero]
  by_cases hy2 : y2 = 0
  · simp (maxSteps := 4000000) -dsimp [-List.all_eq_true, -Array.all_eq_true, -Bool.exists_bool, -Bool.forall_bool, and_assoc, List.zipIdx, Tryz.f40, pickC, numC, wordC, l3RealC, hlt, List.getElem?_append, List.set_append, List.getElem?_set, hy2]
    refine wordC_at hR hty hle4 ⟨by omega, by omega⟩ trivial ?_
    rintro cx5 _ p5 hle5 - d0 e0 ⟨w0, rfl, u0, v0⟩
    simp (maxSteps := 4000000) -dsimp [-List.all_eq_true, -Array.all_eq_true, -Bool.exists_bool, -Bool.forall_bool, and_assoc, List.zipIdx, Tryz.f40, pickC, numC, wordC, l3RealC, hlt, List.getElem?_append, List.set_append, List.getElem?_set]
    refine loop_inv (σ := ⟨[pickC, numC, wordC, l3RealC], []⟩) hmx (by kernel_rfl) (fun q cx' tm mem' => Le cx cx' ∧ ∃ (i : Nat) (f : Arr 4 Nat) (p' : Int), i ≤ 4 ∧ q = 4 - i ∧ (∀ k, k < 4 → f k < 18446744073709551616) ∧ mem' = mem.set R.k (R.blk p') ++ [⟨b, [.v (.int .u32 0), .v (.int .u16 0), .v (.float .f64 0), .v (.float .f64 0), .v (.float .f64 0), .v (.float .f64 0)], 41⟩, ⟨b2, List.map C.v (sampleL (IntKind.u32.wrap w0) (IntKind.u16.wrap n) f), 41⟩] ∧ p ≤ p' ∧ p' ≤ p + 20 + 21 * i ∧ Sx.look tm 4 = .v (.int .i64 i) ∧ Sx.look tm 3 = .p (mem.length + 1) b2 0 ∧ Sx.look tm 2 = .p mem.length b 0 ∧ Sx.look tm 0 = .p R.k R.b 0)
      4 ⟨hle5, 0, Arr.zero _ _, p5, by omega, rfl, zero_lt, by rw [← smC_zero], by omega, by omega, by simp [Sx.look], by simp [Sx.look], by simp [Sx.look], by simp [Sx.look]⟩ ?_
    rintro q cx7 tm mem7 ⟨hle7, i, f, p7, hi, rfl, hf, rfl, a1, a2, h4, h3, h2, h0⟩
    refine ⟨400, ?_⟩
    by_cases hi4 : i < 4
    · have hi4' : (i : Int) < 4 := by omega
      simp (maxSteps := 4000000) -dsimp [-List.all_eq_true, -Array.all_eq_true, -Bool.exists_bool, -Bool.forall_bool, and_assoc, List.zipIdx, Tryz.f40, pickC, numC, wordC, l3RealC, hlt, List.getElem?_append, List.set_append, List.getElem?_set, h4, h3, h2, h0, hi4']
      refine pickC_at hR hty hle7 ⟨by omega, by omega⟩ (by omega) ?_
      rintro cx8 _ p8 hle8 - e2 e3 ⟨k, rfl, k0, k1⟩
      by_cases hk : k = 0
      · simp (maxSteps := 4000000) -dsimp [-List.all_eq_true, -Array.all_eq_true, -Bool.exists_bool, -Bool.forall_bool, and_assoc, List.zipIdx, Tryz.f40, pickC, numC, wordC, l3RealC, hlt, List.getElem?_append, List.set_append, List.getElem?_set, h4, h3, h2, h0, hi4', hk]
        refine l3RealC_at hR hty hle8 ⟨by omega, by omega⟩ trivial ?_
        rintro cx9 _ p9 hle9 - e4 e5 ⟨fx, rfl, hfx⟩
        have hse := smC_set (IntKind.u32.wrap w0) (IntKind.u16.wrap n) f fx i hi4
        have hsl : 2 + i < 6 := by omega
        simp (maxSteps := 4000000) -dsimp [-List.all_eq_true, -Array.all_eq_true, -Bool.exists_bool, -Bool.forall_bool, and_assoc, List.zipIdx, Tryz.f40, pickC, numC, wordC, l3RealC, hlt, List.getElem?_append, List.set_append, List.getElem?_set, h4, h3, h2, h0, hi4', hse, sm_len, hsl, i_succ (i := i) (by omega)]
        refine ⟨by omega, mem.length + 2, 4 - (i + 1), by omega, hle9, i + 1, by omega, rfl, upd f i fx, ?_, p9, List.take_of_length_le (by simp), by omega, by omega, by omega⟩
        intro k hk4
        simp only [upd]; split
        · exact hfx
        · exact hf k hk4
      · simp (maxSteps := 4000000) -dsimp [-List.all_eq_true, -Array.all_eq_true, -Bool.exists_bool, -Bool.forall_bool, and_assoc, List.zipIdx, Tryz.f40, pickC, numC, wordC, l3RealC, hlt, List.getElem?_append, List.set_append, List.getElem?_set, h4, h3, h2, h0, hi4', hk, i_succ (i := i) (by omega)]
        refine ⟨mem.length + 2, 4 - (i + 1), by omega, hle8, i + 1, by omega, rfl, f, hf, p8, List.take_of_length_le (by simp), by omega, by omega, by omega⟩
    · have hi4' : ¬ (i : Int) < 4 := by omega
      simp (maxSteps := 4000000) -dsimp [-List.all_eq_true, -Array.all_eq_true, -Bool.exists_bool, -Bool.forall_bool, and_assoc, List.zipIdx, Tryz.f40, pickC, numC, wordC, l3RealC, hlt, List.getElem?_append, List.set_append, List.getElem?_set, h4, h3, h2, h0, hi4', sm_len, sm_take, allV_map, sm_one, sm_spl]
      exact EndK.left ⟨_, _, rfl, rfl, hle7, by omega, by omega, ⟨IntKind.u32.wrap w0, IntKind.u16.wrap n, f⟩, rfl, ⟨wrap_u32_bd _, wrap_u16_bd _, hf⟩⟩
  · simp (maxSteps := 4000000) -dsimp [-List.all_eq_true, -Array.all_eq_true, -Bool.exists_bool, -Bool.forall_bool, and_assoc, List.zipIdx, Tryz.f40, pickC, numC, wordC, l3RealC, hlt, List.getElem?_append, List.set_append, List.getElem?_set, hy2]
    refine loop_inv (σ := ⟨[pickC, numC, wordC, l3RealC], []⟩) hmx (by kernel_rfl) (fun q cx' tm mem' => Le cx cx' ∧ ∃ (i : Nat) (f : Arr 4 Nat) (p' : Int), i ≤ 4 ∧ q = 4 - i ∧ (∀ k, k < 4 → f k < 18446744073709551616) ∧ mem' = mem.set R.k (R.blk p') ++ [⟨b, [.v (.int .u32 0), .v (.int .u16 0), .v (.float .f64 0), .v (.float .f64 0), .v (.float .f64 0), .v (.float .f64 0)], 41⟩, ⟨b2, List.map C.v (sampleL (IntKind.u32.wrap y) (IntKind.u16.wrap n) f), 41⟩] ∧ p ≤ p' ∧ p' ≤ p + 20 + 21 * i ∧ Sx.look tm 4 = .v (.int .i64 i) ∧ Sx.look tm 3 = .p (mem.length + 1) b2 0 ∧ Sx.look tm 2 = .p mem.length b 0 ∧ Sx.look tm 0 = .p R.k R.b 0)
      4 ⟨hle4, 0, Arr.zero _ _, p4, by omega, rfl, zero_lt, by rw [← smC_zero], by omega, by omega, by simp [Sx.look], by simp [Sx.look], by simp [Sx.look], by simp [Sx.look]⟩ ?_
    rintro q cx7 tm mem7 ⟨hle7, i, f, p7, hi, rfl, hf, rfl, a1, a2, h4, h3, h2, h0⟩
    refine ⟨400, ?_⟩
    by_cases hi4 : i < 4
    · have hi4' : (i : Int) < 4 := by omega
      simp (maxSteps := 4000000) -dsimp [-List.all_eq_true, -Array.all_eq_true, -Bool.exists_bool, -Bool.forall_bool, and_assoc, List.zipIdx, Tryz.f40, pickC, numC, wordC, l3RealC, hlt, List.getElem?_append, List.set_append, List.getElem?_set, h4, h3, h2, h0, hi4']
      refine pickC_at hR hty hle7 ⟨by omega, by omega⟩ (by omega) ?_
      rintro cx8 _ p8 hle8 - e2 e3 ⟨k, rfl, k0, k1⟩
      by_cases hk : k = 0
      · simp (maxSteps := 4000000) -dsimp [-List.all_eq_true, -Array.all_eq_true, -Bool.exists_bool, -Bool.forall_bool, and_assoc, List.zipIdx, Tryz.f40, pickC, numC, wordC, l3RealC, hlt, List.getElem?_append, List.set_append, List.getElem?_set, h4, h3, h2, h0, hi4', hk]
        refine l3RealC_at hR hty hle8 ⟨by omega, by omega⟩ trivial ?_
        rintro cx9 _ p9 hle9 - e4 e5 ⟨fx, rfl, hfx⟩
        have hse := smC_set (IntKind.u32.wrap y) (IntKind.u16.wrap n) f fx i hi4
        have hsl : 2 + i < 6 := by omega
        simp (maxSteps := 4000000) -dsimp [-List.all_eq_true, -Array.all_eq_true, -Bool.exists_bool, -Bool.forall_bool, and_assoc, List.zipIdx, Tryz.f40, pickC, numC, wordC, l3RealC, hlt, List.getElem?_append, List.set_append, List.getElem?_set, h4, h3, h2, h0, hi4', hse, sm_len, hsl, i_succ (i := i) (by omega)]
        refine ⟨by omega, mem.length + 2, 4 - (i + 1), by omega, hle9, i + 1, by omega, rfl, upd f i fx, ?_, p9, List.take_of_length_le (by simp), by omega, by omega, by omega⟩
        intro k hk4
        simp only [upd]; split
        · exact hfx
        · exact hf k hk4
      · simp (maxSteps := 4000000) -dsimp [-List.all_eq_true, -Array.all_eq_true, -Bool.exists_bool, -Bool.forall_bool, and_assoc, List.zipIdx, Tryz.f40, pickC, numC, wordC, l3RealC, hlt, List.getElem?_append, List.set_append, List.getElem?_set, h4, h3, h2, h0, hi4', hk, i_succ (i := i) (by omega)]
        refine ⟨mem.length + 2, 4 - (i + 1), by omega, hle8, i + 1, by omega, rfl, f, hf, p8, List.take_of_length_le (by simp), by omega, by omega, by omega⟩
    · have hi4' : ¬ (i : Int) < 4 := by omega
      simp (maxSteps := 4000000) -dsimp [-List.all_eq_true, -Array.all_eq_true, -Bool.exists_bool, -Bool.forall_bool, and_assoc, List.zipIdx, Tryz.f40, pickC, numC, wordC, l3RealC, hlt, List.getElem?_append, List.set_append, List.getElem?_set, h4, h3, h2, h0, hi4', sm_len, sm_take, allV_map, sm_one, sm_spl]
      exact EndK.left ⟨_, _, rfl, rfl, hle7, by omega, by omega, ⟨IntKind.u32.wrap y, IntKind.u16.wrap n, f⟩, rfl, ⟨wrap_u32_bd _, wrap_u16_bd _, hf⟩⟩
def l6SampleC_S : Draws Tryz.prog 152 200 40 where
  ι := Unit
  A := fun (_u : Unit) => []
  pre := fun (_u : Unit) (F : Facts) => True
  post := fun (_u : Unit) (v : Value) (F : Facts) => ∃ s : Smp, v = .agg (sampleL s.x s.dt s.f).toArray ∧ SmpOk s
  mono := fun _ _ _ _ _ => trivial
  enter := Tryz.call40
  h := fun _u R p cx mem w h1 h2 h3 h4 h5 h6 => l6SampleC_c  R p cx mem w h1 h2 h3 h4 h5 h6
def l6SampleC : Con Tryz.prog := Con.draw l6SampleC_S
theorem l6SampleC_at  {d : Nat} {R : Rdr} {cx0 cx : Cx} {mem0 : List Blk} {ex : List Blk} {K : Cx → C → List Blk → Prop} {p : Int} (hR : R.Is (factF cx0) mem0) (hty : R.ty = 152) (hle : Le cx0 cx) (hp : 0 ≤ p ∧ p + 200 ≤ 1125899906842624) (hpre : True)
    (h : ∀ cx' v p', Le cx0 cx' → Le cx cx' → p ≤ p' → p' ≤ p + 200 → (∃ s : Smp, v = .agg (sampleL s.x s.dt s.f).toArray ∧ SmpOk s) → K cx' (.v v) (mem0.set R.k (R.blk p') ++ ex)) :
    DrawV d l6SampleC_S cx [.p R.k R.b 0] (mem0.set R.k (R.blk p) ++ ex) K := DrawV.at (S := l6SampleC_S) hR hty hle () hp hpre h
theorem drawMachScanC_c (o : Option Addr) (cap : Nat) (bs : List Int) (cx : Cx) (mem : List Blk) (w : World) (hpre : RdB (factF cx) o bs ∧ (∀ b ∈ bs, 0 ≤ b ∧ b < 256) ∧ bs.length ≤ cap ∧ cap ≤ maxLen) (hm : MemRel cx mem w) :
    Calls Tryz.prog 8 (([.v (.slice o bs.length cap)] : List C).map den).toArray w fun e w' => ∃ cx' c mem', e = .returned (den c) ∧ MemRel cx' mem' w' ∧ Le cx cx' ∧ mem' = mem ∧ ∃ (o1 : Option Addr) (cap1 : Nat) (xs : List Ins) (m : M) (s : Smp), c = .v (.tuple #[.slice o1 (List.length xs) cap1, .agg (cells m), .agg (sampleL s.x s.dt s.f).toArray]) ∧ RdN (factF cx') o1 xs ∧ List.length xs ≤ cap1 ∧ cap1 ≤ maxLen ∧ List.length xs ≤ 7000 ∧ (∀ x ∈ xs, x.args.length ≤ 4) ∧ MOk m ∧ SmpOk s := by
  refine step_of_vcs ⟨[l10OpenC, l9ListC, l9MemC, l6SampleC], [(4, [(0, false), (1, false), (2, false), (3, false), (1, true), (4, false), (5, false), (6, false)])]⟩ hmx Tryz.func8 rfl (by kernel_rfl) (args := [.v (.slice o bs.length cap)]) (by simp [Tryz.ntmps8]) hm (fun cx' c mem' => Le cx cx' ∧ mem' = mem ∧ ∃ (o1 : Option Addr) (cap1 : Nat) (xs : List Ins) (m : M) (s : Smp), c = .v (.tuple #[.slice o1 (List.length xs) cap1, .agg (cells m), .agg (sampleL s.x s.dt s.f).toArray]) ∧ RdN (factF cx') o1 xs ∧ List.length xs ≤ cap1 ∧ cap1 ≤ maxLen ∧ List.length xs ≤ 7000 ∧ (∀ x ∈ xs, x.args.length ≤ 4) ∧ MOk m ∧ SmpOk s) 400 ?_
  simp (maxSteps := 4000000) -dsimp [-List.all_eq_true, -Array.all_eq_true, -Bool.exists_bool, -Bool.forall_bool, and_assoc, List.zipIdx, Tryz.f8, l10OpenC, l9ListC, l9MemC, l6SampleC, Con.gen, zero_st', -Sx.splice_two]
  intro b0 b1
  refine l10OpenC_at hpre ?_
  rintro cx1 c mem1 ⟨R, mem0, p, rfl, rfl, hp, hR, hty, hle1, h1, h2, h3⟩
  have hk0 := take_get h1 mem.length (by simp)
  have hk1 := take_get h1 (mem.length + 1) (by simp)
  simp at hk0 hk1 h2 h3
  have hj0 := (List.getElem?_eq_some_iff.1 hk0).2
  have hj1 := (List.getElem?_eq_some_iff.1 hk1).2
  have hn0 : ¬ R.k = mem.length := by omega
  have hn1 : ¬ R.k = mem.length + 1 := by omega
  have ht : mem0.take mem.length = mem := by
    have := congrArg (List.take mem.length) h1
    rw [List.take_take] at this
    simpa using this
  have a1 : mem.length < mem.length + 2 + 1 := by omega
  have a2 : mem.length + 1 < mem.length + 2 + 1 := by omega
  have hlt := hR.lt
  have hle := Le.refl cx1
  simp (maxSteps := 4000000) -dsimp [-List.all_eq_true, -Array.all_eq_true, -Bool.exists_bool, -Bool.forall_bool, and_assoc, List.zipIdx, Tryz.f8, l10OpenC, l9ListC, l9MemC, l6SampleC]
  refine l9ListC_at0 hR hty hle ⟨by omega, by omega⟩ trivial ?_
  rintro cx2 _ p2 hle2 - c1 c2 ⟨xs, ⟨⟨xo, xcap, rfl, hxd, hxc, hxm⟩⟩, hxl, hxa⟩
  simp (maxSteps := 4000000) -dsimp [-List.all_eq_true, -Array.all_eq_true, -Bool.exists_bool, -Bool.forall_bool, and_assoc, List.zipIdx, Tryz.f8, l10OpenC, l9ListC, l9MemC, l6SampleC]
  refine l9MemC_at0 hR hty hle2 ⟨by omega, by omega⟩ trivial ?_
  rintro cx3 _ p3 hle3 l3 c3 c4 ⟨m, rfl, hm⟩
  simp (maxSteps := 4000000) -dsimp [-List.all_eq_true, -Array.all_eq_true, -Bool.exists_bool, -Bool.forall_bool, and_assoc, List.zipIdx, Tryz.f8, l10OpenC, l9ListC, l9MemC, l6SampleC, hlt, hk0, hk1, hj0, hj1, h3, hn0, hn1, a1, a2, List.getElem?_append, List.set_append, List.getElem?_set, -Sx.splice_two]
  intro b7
  refine l6SampleC_at hR hty hle3 ⟨by omega, by omega⟩ trivial ?_
  rintro cx4 _ p4 hle4 l4 c5 c6 ⟨s, rfl, hsm⟩
  simp (maxSteps := 4000000) -dsimp [-List.all_eq_true, -Array.all_eq_true, -Bool.exists_bool, -Bool.forall_bool, and_assoc, List.zipIdx, Tryz.f8, l10OpenC, l9ListC, l9MemC, l6SampleC, hlt, hk0, hk1, hj0, hj1, h3, hn0, hn1, a1, a2, List.getElem?_append, List.set_append, List.getElem?_set, -Sx.splice_two, sm_len, sm_take, sm_one, sm_spl, sm_inj, allV_map]
  refine EndK.plain mem.length ⟨hle1.trans hle4, ?_, xo, xcap, xs, m, s, rfl, hxd.mono (l3.trans l4).fact, hxc, hxm, hxl, hxa, hm, hsm⟩
  rw [List.take_append_of_le_length (by simp; omega), List.take_set_of_le (by omega), List.take_set_of_le (by omega), List.take_set_of_le (by omega), ht]
def drawMachScanC_S : Gens Tryz.prog 8 where
  ι := ((Option Addr) × (Nat) × (List Int))
  A := fun (i : ((Option Addr) × (Nat) × (List Int))) => match i with | (o, cap, bs) => [.v (.slice o bs.length cap)]
  pre := fun (i : ((Option Addr) × (Nat) × (List Int))) (cx : Cx) (mem : List Blk) => match i with | (o, cap, bs) => RdB (factF cx) o bs ∧ (∀ b ∈ bs, 0 ≤ b ∧ b < 256) ∧ bs.length ≤ cap ∧ cap ≤ maxLen
  post := fun (i : ((Option Addr) × (Nat) × (List Int))) (cx : Cx) (mem : List Blk) (cx' : Cx) (c : C) (mem' : List Blk) => match i with | (o, cap, bs) => Le cx cx' ∧ mem' = mem ∧ ∃ (o1 : Option Addr) (cap1 : Nat) (xs : List Ins) (m : M) (s : Smp), c = .v (.tuple #[.slice o1 (List.length xs) cap1, .agg (cells m), .agg (sampleL s.x s.dt s.f).toArray]) ∧ RdN (factF cx') o1 xs ∧ List.length xs ≤ cap1 ∧ cap1 ≤ maxLen ∧ List.length xs ≤ 7000 ∧ (∀ x ∈ xs, x.args.length ≤ 4) ∧ MOk m ∧ SmpOk s
  enter := Tryz.call8
  h := fun i cx mem w hp hm => drawMachScanC_c i.1 i.2.1 i.2.2 cx mem w hp hm
def drawMachScanC : Con Tryz.prog := Con.gen drawMachScanC_S
theorem drawMachScanC_at {o : Option Addr} {cap : Nat} {bs : List Int} {d : Nat} {cx : Cx} {mem : List Blk} {K : Cx → C → List Blk → Prop} (hpre : RdB (factF cx) o bs ∧ (∀ b ∈ bs, 0 ≤ b ∧ b < 256) ∧ bs.length ≤ cap ∧ cap ≤ maxLen) (h : ∀ cx' c mem', (Le cx cx' ∧ mem' = mem ∧ ∃ (o1 : Option Addr) (cap1 : Nat) (xs : List Ins) (m : M) (s : Smp), c = .v (.tuple #[.slice o1 (List.length xs) cap1, .agg (cells m), .agg (sampleL s.x s.dt s.f).toArray]) ∧ RdN (factF cx') o1 xs ∧ List.length xs ≤ cap1 ∧ cap1 ≤ maxLen ∧ List.length xs ≤ 7000 ∧ (∀ x ∈ xs, x.args.length ≤ 4) ∧ MOk m ∧ SmpOk s) → K cx' c mem') : GenV d drawMachScanC_S cx [.v (.slice o bs.length cap)] mem K := ⟨(o, cap, bs), rfl, hpre, h⟩
def smR (ss : List Smp) (pad : List C) : List C := List.map C.v (List.flatten (ss.map smL)) ++ pad
theorem smF_len (ss : List Smp) : (List.flatten (ss.map smL)).length = ss.length * 6 := by
  have := len_flat (size := 6) (rs := ss.map smL) (fun r hr => by obtain ⟨s, _, rfl⟩ := List.mem_map.1 hr; exact smL_len s)
  rw [this, List.length_map]
structure SOut (ss : List Smp) (pad : List C) (cap : Nat) : Prop where
  sc : ss.length ≤ cap
  cm : cap ≤ maxLen
  pl : (smR ss pad).length = cap * 6
  ok : ∀ s ∈ ss, SmpOk s
theorem SOut.nil : SOut [] [] 0 := ⟨by simp, by decide, rfl, by simp⟩
theorem SOut.tk {ss : List Smp} {pad : List C} {cap : Nat} (h : SOut ss pad cap) : List.take (ss.length * 6) (smR ss pad) = List.map C.v (List.flatten (ss.map smL)) := by
  unfold smR
  rw [List.take_left' (by rw [List.length_map, smF_len])]
theorem SOut.push {ss : List Smp} {pad pad' : List C} {cap cap' : Nat} {s : Smp} (h : SOut ss pad cap) (hs : SmpOk s) (h1 : ss.length + 1 ≤ cap') (h2 : cap' ≤ maxLen) (h3 : pad'.length = (cap' - (ss.length + 1)) * 6) : SOut (ss ++ [s]) pad' cap' := by
  refine ⟨by simpa using h1, h2, ?_, fun x hx => ?_⟩
  · unfold smR
    rw [List.length_append, List.length_map, smF_len, h3]
    simp
    omega
  · rcases List.mem_append.1 hx with hx | hx
    · exact h.ok x hx
    · rw [List.mem_singleton] at hx; rw [hx]; exact hs
theorem smR_snoc (ss : List Smp) (s : Smp) (pad : List C) : smR (ss ++ [s]) pad = List.map C.v (List.flatten (ss.map smL)) ++ (List.map C.v (smL s) ++ pad) := by simp [smR]
theorem samples_end {F : Facts} {b : Nat} {ss : List Smp} {pad : List C} {cap : Nat} (h : ∀ (off : Nat) c, (smR ss pad)[off]? = some c → F ⟨b, off, none⟩ = some (den c)) (h1 : ss.length ≤ cap) (h2 : cap ≤ maxLen) :
    IsSm F (.slice (some ⟨b, 0, none⟩) ss.length cap) ss := by
  refine ⟨_, _, rfl, ?_, h1, h2⟩
  have hl : RdL F (some ⟨b, 0, none⟩) (List.flatten (ss.map smL)) := fun j v hj => by
    refine ⟨_, rfl, ?_⟩
    have := h j (.v v) (by
      unfold smR
      have hlen := (List.getElem?_eq_some_iff.1 hj).1
      rw [List.getElem?_append_left (by rw [List.length_map]; exact hlen), List.getElem?_map, hj]; rfl)
    rw [addr_add, Nat.zero_add]
    exact this
  exact RdL.rows hl (by decide) (fun r hr => by obtain ⟨s, _, rfl⟩ := List.mem_map.1 hr; exact smL_len s) rfl
theorem l9SamplesC_c  (R : Rdr) (p : Int) (cx : Cx) (mem : List Blk) (w : World) (hty : R.ty = 152) (hR : R.Is (factF cx) mem) (hp : 0 ≤ p) (hpc : p + 5000 ≤ 1125899906842624) (hpre : True) (hm : MemRel cx (mem.set R.k (R.blk p)) w) :
    Calls Tryz.prog 90 ((.p R.k R.b 0 :: [] : List C).map den).toArray w fun e w' => ∃ cx' x mem', e = .returned (den x) ∧ MemRel cx' mem' w' ∧ (fun cx' x mem' => ∃ v p', x = .v v ∧ mem' = mem.set R.k (R.blk p') ∧ Le cx cx' ∧ p ≤ p' ∧ p' ≤ p + 5000 ∧ (∃ ss, IsSm (factF cx') v ss ∧ ss.length ≤ 110 ∧ (∀ s ∈ ss, SmpOk s))) cx' x mem' := by
  refine step_of_vcs ⟨[pickC, l6SampleC], []⟩ hmx Tryz.func90 rfl (by kernel_rfl) (args := .p R.k R.b 0 :: []) (by simp [Tryz.ntmps90]) hm (fun cx' x mem' => ∃ v p', x = .v v ∧ mem' = mem.set R.k (R.blk p') ∧ Le cx cx' ∧ p ≤ p' ∧ p' ≤ p + 5000 ∧ (∃ ss, IsSm (factF cx') v ss ∧ ss.length ≤ 110 ∧ (∀ s ∈ ss, SmpOk s))) 400 ?_
  have hlt := hR.lt
  have hle := Le.refl cx
  simp (maxSteps := 4000000) -dsimp [-List.all_eq_true, -Array.all_eq_true, -Bool.exists_bool, -Bool.forall_bool, and_assoc, List.zipIdx, Tryz.f90, pickC, l6SampleC, hlt]
  intro b0
  refine pickC_at hR hty hle ⟨by omega, by omega⟩ (by omega) ?_
  rintro cx1 _ p1 hle1 - c1 c2 ⟨n, rfl, n0, n1⟩
  simp (maxSteps := 4000000) -dsimp [-List.all_eq_true, -Array.all_eq_true, -Bool.exists_bool, -Bool.forall_bool, and_assoc, List.zipIdx, Tryz.f90, pickC, l6SampleC, hlt, List.getElem?_append, List.set_append, List.getElem?_set]
  refine loop_inv (σ := ⟨[pickC, l6SampleC], []⟩) hmx (by kernel_rfl) (fun q cx' tm mem' => Le cx cx' ∧ ∃ (i : Int) (bX capX : Nat) (ss : List Smp) (padX : List C) (p' : Int), 0 ≤ i ∧ i ≤ 5 ∧ q = i.toNat ∧ (ss.length : Int) ≤ 5 - i ∧ SOut ss padX capX ∧ mem' = mem.set R.k (R.blk p') ++ [⟨bX, smR ss padX, 41⟩] ∧ p ≤ p' ∧ p' ≤ p + 1 + 200 * (5 - i) ∧ Sx.look tm 4 = .v (.int .i64 i) ∧ Sx.look tm 3 = .s mem.length bX 0 ss.length capX ∧ Sx.look tm 0 = .p R.k R.b 0)
    n.toNat ⟨hle1, n, b0, 0, [], [], p1, n0, by omega, rfl, by simp; omega, SOut.nil, rfl, by omega, by omega, by simp [Sx.look], by simp [Sx.look], by simp [Sx.look]⟩ ?_
  rintro q cx2 tm mem2 ⟨hle2, i, bX, capX, ss, padX, p2, i0, i1, rfl, hsl, hso, rfl, a1, a2, j4, j3, j0⟩
  refine ⟨400, ?_⟩
  have hrt := hso.tk
  have hpl := hso.pl
  have hsc := hso.sc
  have hcm := hso.cm
  by_cases hi : 0 < i
  · have hwi : IntKind.i64.wrap (i - 1) = i - 1 := wrap_i64 (by omega) (by omega)
    simp (maxSteps := 4000000) -dsimp [-List.all_eq_true, -Array.all_eq_true, -Bool.exists_bool, -Bool.forall_bool, and_assoc, List.zipIdx, Tryz.f90, pickC, l6SampleC, hlt, List.getElem?_append, List.set_append, List.getElem?_set, j4, j3, j0, hrt, hpl, hsc, hcm, hi]
    refine l6SampleC_at hR hty hle2 ⟨by omega, by omega⟩ trivial ?_
    rintro cx3 _ p3 hle3 l3 d1 d2 ⟨s, rfl, hsm⟩
    simp (maxSteps := 4000000) -dsimp [-List.all_eq_true, -Array.all_eq_true, -Bool.exists_bool, -Bool.forall_bool, and_assoc, List.zipIdx, Tryz.f90, pickC, l6SampleC, hlt, List.getElem?_append, List.set_append, List.getElem?_set, j4, j3, j0, hrt, hpl, hsc, hcm, hi, sm_len]
    intro cx4 lit hle4 hl4
    rw [RdO.sl (size := 6) (rows := [smL s]) ((hl4.mono ((sub_new cx4).trans (sub_now _ _))).rows (by decide) (by simp [smL_len]) (by simp [smL, Function.comp_def, den])) (by decide) (by simp)]
    have hone : (smL s).all (C.one ∘ C.v) = true := sm_one _ _ _
    have hll := smL_len s
    have hml : ss.length + 1 ≤ maxLen := by unfold maxLen; omega
    unfold GrowV
    simp (maxSteps := 4000000) -dsimp [-List.all_eq_true, -Array.all_eq_true, -Bool.exists_bool, -Bool.forall_bool, and_assoc, List.zipIdx, Tryz.f90, pickC, l6SampleC, hlt, List.getElem?_append, List.set_append, List.getElem?_set, j4, j3, j0, hrt, hpl, hsc, hcm, hi, hone, hll, hml, hwi]
    refine ⟨by omega, fun b8 cap8 pad8 g1 g2 g3 => ⟨mem.length + 1, (i - 1).toNat, by omega, hle3.trans hle4, i - 1, by omega, by omega, rfl, b8, cap8, ss ++ [s], by simp; omega, pad8, hso.push hsm g1 g2 g3, p3, ?_, by omega, by omega, rfl, rfl, by simp, rfl⟩⟩
    rw [List.take_of_length_le (by simp), smR_snoc]
    simp
  · simp (maxSteps := 4000000) -dsimp [-List.all_eq_true, -Array.all_eq_true, -Bool.exists_bool, -Bool.forall_bool, and_assoc, List.zipIdx, Tryz.f90, pickC, l6SampleC, hlt, List.getElem?_append, List.set_append, List.getElem?_set, j4, j3, j0, hrt, hpl, hsc, hcm, hi]
    refine pickC_at hR hty hle2 ⟨by omega, by omega⟩ (by omega) ?_
    rintro cx3 _ p3 hle3 - c3 c4 ⟨y, rfl, y0, y1⟩
    by_cases hy : y = 0
    · simp (maxSteps := 4000000) -dsimp [-List.all_eq_true, -Array.all_eq_true, -Bool.exists_bool, -Bool.forall_bool, and_assoc, List.zipIdx, Tryz.f90, pickC, l6SampleC, hlt, List.getElem?_append, List.set_append, List.getElem?_set, j4, j3, j0, hrt, hpl, hsc, hcm, hi, hy]
      refine l6SampleC_at hR hty hle3 ⟨by omega, by omega⟩ trivial ?_
      rintro cx4 _ p4 hle4 - d1 d2 ⟨s, rfl, hsm⟩
      simp (maxSteps := 4000000) -dsimp [-List.all_eq_true, -Array.all_eq_true, -Bool.exists_bool, -Bool.forall_bool, and_assoc, List.zipIdx, Tryz.f90, pickC, l6SampleC, hlt, List.getElem?_append, List.set_append, List.getElem?_set, j4, j3, j0, hrt, hpl, hsc, hcm, hi, sm_len]
      intro b5
      refine ⟨sm_one _ _ _, ?_⟩
      refine loop_inv (σ := ⟨[pickC, l6SampleC], []⟩) hmx (by kernel_rfl) (fun q cx' tm mem' => Le cx cx' ∧ ∃ (bX capX : Nat) (ss : List Smp) (padX : List C) (p' : Int), ss.length ≤ 101 ∧ q = 101 - ss.length ∧ SOut ss padX capX ∧ mem' = mem.set R.k (R.blk p') ++ [⟨bX, smR ss padX, 41⟩, ⟨b5, List.map C.v (sampleL s.x s.dt s.f), 41⟩] ∧ p ≤ p' ∧ p' ≤ p + 1500 + ss.length ∧ Sx.look tm 5 = .p (mem.length + 1) b5 0 ∧ Sx.look tm 3 = .s mem.length bX 0 ss.length capX ∧ Sx.look tm 0 = .p R.k R.b 0)
        (101 - ss.length) ⟨hle4, bX, capX, ss, padX, p4, by omega, rfl, hso, rfl, by omega, by omega, by simp [Sx.look], by first | exact j3 | simp [Sx.look, j3], by first | exact j0 | simp [Sx.look, j0]⟩ ?_
      rintro q cx5 tm5 mem5 ⟨hle5, bY, capY, sy, padY, p5, y2, rfl, hoy, rfl, e1, e2, i5, i3, i0⟩
      refine ⟨400, ?_⟩
      have hrt := hoy.tk
      have hpl := hoy.pl
      have hsc := hoy.sc
      have hcm := hoy.cm
      simp (maxSteps := 4000000) -dsimp [-List.all_eq_true, -Array.all_eq_true, -Bool.exists_bool, -Bool.forall_bool, and_assoc, List.zipIdx, Tryz.f90, pickC, l6SampleC, hlt, List.getElem?_append, List.set_append, List.getElem?_set, i5, i3, i0, hrt, hpl, hsc, hcm, sm_len]
      refine pickC_at hR hty hle5 ⟨by omega, by omega⟩ (by omega) ?_
      rintro cx6 _ p6 hle6 - g1 g2 ⟨z, rfl, z0, z1⟩
      have hwz : IntKind.i64.wrap (100 + z) = 100 + z := wrap_i64 (by omega) (by omega)
      by_cases hz : (sy.length : Int) < 100 + z
      · simp (maxSteps := 4000000) -dsimp [-List.all_eq_true, -Array.all_eq_true, -Bool.exists_bool, -Bool.forall_bool, and_assoc, List.zipIdx, Tryz.f90, pickC, l6SampleC, hlt, List.getElem?_append, List.set_append, List.getElem?_set, i5, i3, i0, hrt, hpl, hsc, hcm, sm_len, hwz, hz, sm_take, sm_one, allV_map]
        intro cx7 lit hle7 hl7
        rw [RdO.sl (size := 6) (rows := [smL s]) ((hl7.mono ((sub_new cx7).trans (sub_now _ _))).rows (by decide) (by simp [smL_len]) (by simp [smL, Function.comp_def, den])) (by decide) (by simp)]
        have hone : (smL s).all (C.one ∘ C.v) = true := sm_one _ _ _
        have hll := smL_len s
        have hml : sy.length + 1 ≤ maxLen := by unfold maxLen; omega
        unfold GrowV
        simp (maxSteps := 4000000) -dsimp [-List.all_eq_true, -Array.all_eq_true, -Bool.exists_bool, -Bool.forall_bool, and_assoc, List.zipIdx, Tryz.f90, pickC, l6SampleC, hlt, List.getElem?_append, List.set_append, List.getElem?_set, i5, i3, i0, hrt, hpl, hsc, hcm, hone, hll, hml]
        refine ⟨by omega, fun b8 cap8 pad8 g1 g2 g3 => ⟨mem.length + 2, 101 - (sy.length + 1), by omega, hle6.trans hle7, b8, cap8, sy ++ [s], by simp; omega, by simp, pad8, hoy.push hsm g1 g2 g3, p6, ?_, by omega, by simp; omega, rfl, by simp, rfl⟩⟩
        rw [List.take_of_length_le (by simp), smR_snoc]
        simp
      · simp (maxSteps := 4000000) -dsimp [-List.all_eq_true, -Array.all_eq_true, -Bool.exists_bool, -Bool.forall_bool, and_assoc, List.zipIdx, Tryz.f90, pickC, l6SampleC, hlt, List.getElem?_append, List.set_append, List.getElem?_set, i5, i3, i0, hrt, hpl, hsc, hcm, sm_len, hwz, hz]
        exact EndK.facts fun cxz hlz hfz => ⟨_, _, rfl, rfl, hle6.trans hlz, by omega, by omega, sy, samples_end (fun off c hc => hfz _ List.mem_cons_self off c hc) hsc hcm, by omega, hoy.ok⟩
    · simp (maxSteps := 4000000) -dsimp [-List.all_eq_true, -Array.all_eq_true, -Bool.exists_bool, -Bool.forall_bool, and_assoc, List.zipIdx, Tryz.f90, pickC, l6SampleC, hlt, List.getElem?_append, List.set_append, List.getElem?_set, j4, j3, j0, hrt, hpl, hsc, hcm, hi, hy]
      exact EndK.facts fun cxz hlz hfz => ⟨_, _, rfl, rfl, hle3.trans hlz, by omega, by omega, ss, samples_end (fun off c hc => hfz _ List.mem_cons_self off c hc) hsc hcm, by omega, hso.ok⟩
def l9SamplesC_S : Draws Tryz.prog 152 5000 90 where
  ι := Unit
  A := fun (_u : Unit) => []
  pre := fun (_u : Unit) (F : Facts) => True
  post := fun (_u : Unit) (v : Value) (F : Facts) => ∃ ss, IsSm F v ss ∧ ss.length ≤ 110 ∧ (∀ s ∈ ss, SmpOk s)
  mono := fun _ _ _ _ _ => trivial
  enter := Tryz.call90
  h := fun _u R p cx mem w h1 h2 h3 h4 h5 h6 => l9SamplesC_c  R p cx mem w h1 h2 h3 h4 h5 h6
def l9SamplesC : Con Tryz.prog := Con.draw l9SamplesC_S
theorem l9SamplesC_at  {d : Nat} {R : Rdr} {cx0 cx : Cx} {mem0 : List Blk} {ex : List Blk} {K : Cx → C → List Blk → Prop} {p : Int} (hR : R.Is (factF cx0) mem0) (hty : R.ty = 152) (hle : Le cx0 cx) (hp : 0 ≤ p ∧ p + 5000 ≤ 1125899906842624) (hpre : True)
    (h : ∀ cx' v p', Le cx0 cx' → Le cx cx' → p ≤ p' → p' ≤ p + 5000 → (∃ ss, IsSm (factF cx') v ss ∧ ss.length ≤ 110 ∧ (∀ s ∈ ss, SmpOk s)) → K cx' (.v v) (mem0.set R.k (R.blk p') ++ ex)) :
    DrawV d l9SamplesC_S cx [.p R.k R.b 0] (mem0.set R.k (R.blk p) ++ ex) K := DrawV.at (S := l9SamplesC_S) hR hty hle () hp hpre h
theorem drawMachRunC_c (o : Option Addr) (cap : Nat) (bs : List Int) (cx : Cx) (mem : List Blk) (w : World) (hpre : RdB (factF cx) o bs ∧ (∀ b ∈ bs, 0 ≤ b ∧ b < 256) ∧ bs.length ≤ cap ∧ cap ≤ maxLen) (hm : MemRel cx mem w) :
    Calls Tryz.prog 32 (([.v (.slice o bs.length cap)] : List C).map den).toArray w fun e w' => ∃ cx' c mem', e = .returned (den c) ∧ MemRel cx' mem' w' ∧ Le cx cx' ∧ mem' = mem ∧ ∃ (o1 : Option Addr) (cap1 : Nat) (xs : List Ins) (m : M) (o2 : Option Addr) (cap2 : Nat) (ss : List Smp), c = .v (.tuple #[.slice o1 (List.length xs) cap1, .agg (cells m), .slice o2 (List.length ss) cap2]) ∧ RdN (factF cx') o1 xs ∧ List.length xs ≤ cap1 ∧ cap1 ≤ maxLen ∧ List.length xs ≤ 7000 ∧ (∀ x ∈ xs, x.args.length ≤ 4) ∧ MOk m ∧ RdSm (factF cx') o2 ss ∧ List.length ss ≤ cap2 ∧ cap2 ≤ maxLen ∧ List.length ss ≤ 110 ∧ (∀ s ∈ ss, SmpOk s) := by
  refine step_of_vcs ⟨[l10OpenC, l9ListC, l9MemC, l9SamplesC], [(4, [(0, false), (1, false), (2, false), (3, false), (1, true), (4, false), (5, false), (6, false)])]⟩ hmx Tryz.func32 rfl (by kernel_rfl) (args := [.v (.slice o bs.length cap)]) (by simp [Tryz.ntmps32]) hm (fun cx' c mem' => Le cx cx' ∧ mem' = mem ∧ ∃ (o1 : Option Addr) (cap1 : Nat) (xs : List Ins) (m : M) (o2 : Option Addr) (cap2 : Nat) (ss : List Smp), c = .v (.tuple #[.slice o1 (List.length xs) cap1, .agg (cells m), .slice o2 (List.length ss) cap2]) ∧ RdN (factF cx') o1 xs ∧ List.length xs ≤ cap1 ∧ cap1 ≤ maxLen ∧ List.length xs ≤ 7000 ∧ (∀ x ∈ xs, x.args.length ≤ 4) ∧ MOk m ∧ RdSm (factF cx') o2 ss ∧ List.length ss ≤ cap2 ∧ cap2 ≤ maxLen ∧ List.length ss ≤ 110 ∧ (∀ s ∈ ss, SmpOk s)) 400 ?_
  simp (maxSteps := 4000000) -dsimp [-List.all_eq_true, -Array.all_eq_true, -Bool.exists_bool, -Bool.forall_bool, and_assoc, List.zipIdx, Tryz.f32, l10OpenC, l9ListC, l9MemC, l9SamplesC, Con.gen, zero_st', -Sx.splice_two]
  intro b0
  refine l10OpenC_at hpre ?_
  rintro cx1 c mem1 ⟨R, mem0, p, rfl, rfl, hp, hR, hty, hle1, h1, h2, h3⟩
  have hk0 := take_get h1 mem.length (by simp)
  simp at hk0 h2 h3
  have hj0 := (List.getElem?_eq_some_iff.1 hk0).2
  have hn0 : ¬ R.k = mem.length := by omega
  have ht : mem0.take mem.length = mem := by
    have := congrArg (List.take mem.length) h1
    rw [List.take_take] at this
    simpa using this
  have a1 : mem.length < mem.length + 1 + 1 := by omega
  have hlt := hR.lt
  have hle := Le.refl cx1
  simp (maxSteps := 4000000) -dsimp [-List.all_eq_true, -Array.all_eq_true, -Bool.exists_bool, -Bool.forall_bool, and_assoc, List.zipIdx, Tryz.f32, l10OpenC, l9ListC, l9MemC, l9SamplesC]
  refine l9ListC_at0 hR hty hle ⟨by omega, by omega⟩ trivial ?_
  rintro cx2 _ p2 hle2 - c1 c2 ⟨xs, ⟨⟨xo, xcap, rfl, hxd, hxc, hxm⟩⟩, hxl, hxa⟩
  simp (maxSteps := 4000000) -dsimp [-List.all_eq_true, -Array.all_eq_true, -Bool.exists_bool, -Bool.forall_bool, and_assoc, List.zipIdx, Tryz.f32, l10OpenC, l9ListC, l9MemC, l9SamplesC]
  refine l9MemC_at0 hR hty hle2 ⟨by omega, by omega⟩ trivial ?_
  rintro cx3 _ p3 hle3 l3 c3 c4 ⟨m, rfl, hm⟩
  simp (maxSteps := 4000000) -dsimp [-List.all_eq_true, -Array.all_eq_true, -Bool.exists_bool, -Bool.forall_bool, and_assoc, List.zipIdx, Tryz.f32, l10OpenC, l9ListC, l9MemC, l9SamplesC, hlt, hk0, hj0, h3, hn0, a1, List.getElem?_append, List.set_append, List.getElem?_set, -Sx.splice_two]
  intro b7
  refine l9SamplesC_at hR hty hle3 ⟨by omega, by omega⟩ trivial ?_
  rintro cx4 _ p4 hle4 l4 c5 c6 ⟨ss, ⟨⟨so, scap, rfl, hsd, hsc, hscm⟩⟩, hsl, hsm⟩
  simp (maxSteps := 4000000) -dsimp [-List.all_eq_true, -Array.all_eq_true, -Bool.exists_bool, -Bool.forall_bool, and_assoc, List.zipIdx, Tryz.f32, l10OpenC, l9ListC, l9MemC, l9SamplesC, hlt, hk0, hj0, h3, hn0, a1, List.getElem?_append, List.set_append, List.getElem?_set, -Sx.splice_two]
  refine EndK.plain mem.length ⟨hle1.trans hle4, ?_, xo, xcap, xs, m, so, scap, ss, rfl, hxd.mono (l3.trans l4).fact, hxc, hxm, hxl, hxa, hm, hsd, hsc, hscm, hsl, hsm⟩
  rw [List.take_append_of_le_length (by simp; omega), List.take_set_of_le (by omega), List.take_set_of_le (by omega), ht]
def drawMachRunC_S : Gens Tryz.prog 32 where
  ι := ((Option Addr) × (Nat) × (List Int))
  A := fun (i : ((Option Addr) × (Nat) × (List Int))) => match i with | (o, cap, bs) => [.v (.slice o bs.length cap)]
  pre := fun (i : ((Option Addr) × (Nat) × (List Int))) (cx : Cx) (mem : List Blk) => match i with | (o, cap, bs) => RdB (factF cx) o bs ∧ (∀ b ∈ bs, 0 ≤ b ∧ b < 256) ∧ bs.length ≤ cap ∧ cap ≤ maxLen
  post := fun (i : ((Option Addr) × (Nat) × (List Int))) (cx : Cx) (mem : List Blk) (cx' : Cx) (c : C) (mem' : List Blk) => match i with | (o, cap, bs) => Le cx cx' ∧ mem' = mem ∧ ∃ (o1 : Option Addr) (cap1 : Nat) (xs : List Ins) (m : M) (o2 : Option Addr) (cap2 : Nat) (ss : List Smp), c = .v (.tuple #[.slice o1 (List.length xs) cap1, .agg (cells m), .slice o2 (List.length ss) cap2]) ∧ RdN (factF cx') o1 xs ∧ List.length xs ≤ cap1 ∧ cap1 ≤ maxLen ∧ List.length xs ≤ 7000 ∧ (∀ x ∈ xs, x.args.length ≤ 4) ∧ MOk m ∧ RdSm (factF cx') o2 ss ∧ List.length ss ≤ cap2 ∧ cap2 ≤ maxLen ∧ List.length ss ≤ 110 ∧ (∀ s ∈ ss, SmpOk s)
  enter := Tryz.call32
  h := fun i cx mem w hp hm => drawMachRunC_c i.1 i.2.1 i.2.2 cx mem w hp hm
def drawMachRunC : Con Tryz.prog := Con.gen drawMachRunC_S
theorem drawMachRunC_at {o : Option Addr} {cap : Nat} {bs : List Int} {d : Nat} {cx : Cx} {mem : List Blk} {K : Cx → C → List Blk → Prop} (hpre : RdB (factF cx) o bs ∧ (∀ b ∈ bs, 0 ≤ b ∧ b < 256) ∧ bs.length ≤ cap ∧ cap ≤ maxLen) (h : ∀ cx' c mem', (Le cx cx' ∧ mem' = mem ∧ ∃ (o1 : Option Addr) (cap1 : Nat) (xs : List Ins) (m : M) (o2 : Option Addr) (cap2 : Nat) (ss : List Smp), c = .v (.tuple #[.slice o1 (List.length xs) cap1, .agg (cells m), .slice o2 (List.length ss) cap2]) ∧ RdN (factF cx') o1 xs ∧ List.length xs ≤ cap1 ∧ cap1 ≤ maxLen ∧ List.length xs ≤ 7000 ∧ (∀ x ∈ xs, x.args.length ≤ 4) ∧ MOk m ∧ RdSm (factF cx') o2 ss ∧ List.length ss ≤ cap2 ∧ cap2 ≤ maxLen ∧ List.length ss ≤ 110 ∧ (∀ s ∈ ss, SmpOk s)) → K cx' c mem') : GenV d drawMachRunC_S cx [.v (.slice o bs.length cap)] mem K := ⟨(o, cap, bs), rfl, hpre, h⟩
end Go.Proofs.YtfhnbdlkiemaeaaGreat
