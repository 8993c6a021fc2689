/-
  Contracts: coils that are drawn.
-/
import Derived.Test.YtmiicjgbhkjocaaGc
set_option linter.unusedVariables false
set_option linter.unusedSimpArgs false
set_option maxRecDepth 100000
set_option maxHeartbeats 4000000
namespace Go.Proofs.Ytmiicjgbhkjocaa
open Go Go.Sx

theorem arity_bd (op : Int) : 0 ≤ arity op ∧ arity op ≤ 3 := by unfold arity; (repeat' split) <;> omega
theorem arity_toNat (op : Int) : (arity op).toNat ≤ 3 := by have := arity_bd op; omega
theorem l4CoilC_c  (R : Rdr) (p : Int) (cx : Cx) (mem : List Blk) (w : World) (hty : R.ty = 172) (hR : R.Is (factF cx) mem) (hp : 0 ≤ p) (hpc : p + 100 ≤ 1125899906842624) (hpre : True) (hm : MemRel cx (mem.set R.k (R.blk p)) w) :
    Calls Try.prog 103 ((.p R.k R.b 0 :: [] : List C).map den).toArray w fun e w' => ∃ cx' x mem', e = .returned (den x) ∧ MemRel cx' mem' w' ∧ (fun cx' x mem' => ∃ v p', x = .v v ∧ mem' = mem.set R.k (R.blk p') ∧ Le cx cx' ∧ p ≤ p' ∧ p' ≤ p + 100 ∧ (∃ op xs, IsElem (factF cx') v op xs ∧ xs.length ≤ 3)) cx' x mem' := by
  refine step_of_vcs ⟨[pickC, numC, l2ArgC, l4WholeC, l4RealC, sArityC], [(14, [(0, false), (1, false), (2, false), (3, false), (1, true), (4, false), (5, false), (6, false)]), (20, [(0, false), (1, false), (3, false), (2, false), (3, true), (4, false), (5, false), (6, false)]), (22, [(0, false), (1, false), (3, false), (2, false), (3, true), (4, false), (5, false), (6, false)])]⟩ hmx Try.func103 rfl (by kernel_rfl) (args := .p R.k R.b 0 :: []) (by simp [Try.ntmps103]) hm (fun cx' x mem' => ∃ v p', x = .v v ∧ mem' = mem.set R.k (R.blk p') ∧ Le cx cx' ∧ p ≤ p' ∧ p' ≤ p + 100 ∧ (∃ op xs, IsElem (factF cx') v op xs ∧ xs.length ≤ 3)) 400 ?_
  have hlt := hR.lt
  have hle := Le.refl cx
  have har := fun op => arity_bd op
  (repeat' first
    | (with_reducible refine EndK.left ?_
       refine ⟨_, _, rfl, rfl, (by assumption), by omega, by omega, ?_⟩; first | exact ⟨_, _, elem_lit hl rfl rfl (by decide), by simp [devsOf]⟩ | exact ⟨_, _, elem_take hl rfl rfl (by decide) (arity_toNat _), by simp [devsOf] <;> omega⟩; done)
    | (with_reducible refine EndK.all ?_
       refine ⟨_, _, rfl, rfl, (by assumption), by omega, by omega, ?_⟩; first | exact ⟨_, _, elem_lit hl rfl rfl (by decide), by simp [devsOf]⟩ | exact ⟨_, _, elem_take hl rfl rfl (by decide) (arity_toNat _), by simp [devsOf] <;> omega⟩; done)
    | (with_reducible refine pickC_at0 hR hty ?_ ?_ ?_ ?_
       · assumption
       · exact ⟨by omega, by omega⟩
       · omega
       rintro cx' _ p' hle - hp1 hp2 ⟨x, rfl, hx1, hx2⟩)
    | (with_reducible refine pickC_at hR hty ?_ ?_ ?_ ?_
       · assumption
       · exact ⟨by omega, by omega⟩
       · omega
       rintro cx' _ p' hle - hp1 hp2 ⟨x, rfl, hx1, hx2⟩)
    | (with_reducible refine numC_lit0 hR hty ?_ hl ?_ ?_ ?_ ?_ ?_ ?_
       · assumption
       · rfl
       · rfl
       · exact ⟨by omega, by omega⟩
       · decide
       · decide
       rintro cx' _ p' hle - hp1 hp2 ⟨x, rfl, hx⟩)
    | (with_reducible refine numC_lit hR hty ?_ hl ?_ ?_ ?_ ?_ ?_ ?_
       · assumption
       · rfl
       · rfl
       · exact ⟨by omega, by omega⟩
       · decide
       · decide
       rintro cx' _ p' hle - hp1 hp2 ⟨x, rfl, hx⟩)
    | (with_reducible refine l2ArgC_at0 hR hty ?_ ?_ ?_ ?_
       · assumption
       · exact ⟨by omega, by omega⟩
       · trivial
       rintro cx' _ p' hle - hp1 hp2 ⟨ak, an, aq, rfl⟩)
    | (with_reducible refine l2ArgC_at hR hty ?_ ?_ ?_ ?_
       · assumption
       · exact ⟨by omega, by omega⟩
       · trivial
       rintro cx' _ p' hle - hp1 hp2 ⟨ak, an, aq, rfl⟩)
    | (with_reducible refine l4WholeC_at0 hR hty ?_ ?_ ?_ ?_
       · assumption
       · exact ⟨by omega, by omega⟩
       · trivial
       rintro cx' _ p' hle - hp1 hp2 ⟨ak, an, aq, rfl⟩)
    | (with_reducible refine l4WholeC_at hR hty ?_ ?_ ?_ ?_
       · assumption
       · exact ⟨by omega, by omega⟩
       · trivial
       rintro cx' _ p' hle - hp1 hp2 ⟨ak, an, aq, rfl⟩)
    | (with_reducible refine l4RealC_at0 hR hty ?_ ?_ ?_ ?_
       · assumption
       · exact ⟨by omega, by omega⟩
       · trivial
       rintro cx' _ p' hle - hp1 hp2 ⟨ak, an, aq, rfl⟩)
    | (with_reducible refine l4RealC_at hR hty ?_ ?_ ?_ ?_
       · assumption
       · exact ⟨by omega, by omega⟩
       · trivial
       rintro cx' _ p' hle - hp1 hp2 ⟨ak, an, aq, rfl⟩)
    | (with_reducible refine fun cx' q (hle' : Le _ cx') (hl : RdL _ q _) => ?_
       have hle := Le.trans (by assumption) hle'; (try simp [Sx.get, Sx.look, Sx.put, cellsC, Value.cells, den] at hl))
    | with_reducible refine And.intro ?_ ?_
    | with_reducible intro _
    | omega
    | simp (maxSteps := 4000000) -dsimp [-List.all_eq_true, -Array.all_eq_true, -Bool.exists_bool, -Bool.forall_bool, vcsE1, vcsE2, vcsE3, vcsE4, vcsE5, vcsE6, vcsE7, vcsE8, vcsE9, vcsE10, vcsE11, vcsE12, vcsE13, vcsE14, vcsE15, vcsE16, vcsE17, vcsE18, vcsE19, Sx.get, Sx.look, Sx.put, pureFn, findOrd, unF, dstOk, isFloatT, endVC, resFn, packC, newFn, storeFn, buildFn, undef, known, aggT, cellsC, Value.cells, findCon, Con.pure, Con.some, allV, partsV, partsC, fillL, Sx.exitTo, fAr, C.one, Value.oneCell', eqFn, eqFieldsFn, eqElemsFn, partFn, and_assoc, List.zipIdx, sliceFn, boundFn, AppV, CopyV, MakeSliceV, NewsV, GrowV, TextV, bytesL, notInt, typeAt, argAt, Con.read, Con.make, Con.ext, Con.rel, den, Con.extS, Con.draw, Con.step, Draws.steps, Try.f103, pickC, numC, l2ArgC, l4WholeC, l4RealC, sArityC, hlt, har])
def l4CoilC_S : Draws Try.prog 172 100 103 where
  ι := Unit
  A := fun (_u : Unit) => []
  pre := fun (_u : Unit) (F : Facts) => True
  post := fun (_u : Unit) (v : Value) (F : Facts) => ∃ op xs, IsElem F v op xs ∧ xs.length ≤ 3
  mono := fun _ _ _ _ _ => trivial
  enter := Try.call103
  h := fun _u R p cx mem w h1 h2 h3 h4 h5 h6 => l4CoilC_c  R p cx mem w h1 h2 h3 h4 h5 h6
def l4CoilC : Con Try.prog := Con.draw l4CoilC_S
theorem l4CoilC_at  {d : Nat} {R : Rdr} {cx0 cx : Cx} {mem0 : List Blk} {ex : List Blk} {K : Cx → C → List Blk → Prop} {p : Int} (hR : R.Is (factF cx0) mem0) (hty : R.ty = 172) (hle : Le cx0 cx) (hp : 0 ≤ p ∧ p + 100 ≤ 1125899906842624) (hpre : True)
    (h : ∀ cx' v p', Le cx0 cx' → Le cx cx' → p ≤ p' → p' ≤ p + 100 → (∃ op xs, IsElem (factF cx') v op xs ∧ xs.length ≤ 3) → K cx' (.v v) (mem0.set R.k (R.blk p') ++ ex)) :
    DrawV d l4CoilC_S cx [.p R.k R.b 0] (mem0.set R.k (R.blk p) ++ ex) K := DrawV.at (S := l4CoilC_S) hR hty hle () hp hpre h
theorem l4CoilC_at0  {d : Nat} {R : Rdr} {cx0 cx : Cx} {mem0 : List Blk} {K : Cx → C → List Blk → Prop} {p : Int} (hR : R.Is (factF cx0) mem0) (hty : R.ty = 172) (hle : Le cx0 cx) (hp : 0 ≤ p ∧ p + 100 ≤ 1125899906842624) (hpre : True)
    (h : ∀ cx' v p', Le cx0 cx' → Le cx cx' → p ≤ p' → p' ≤ p + 100 → (∃ op xs, IsElem (factF cx') v op xs ∧ xs.length ≤ 3) → K cx' (.v v) (mem0.set R.k (R.blk p'))) :
    DrawV d l4CoilC_S cx [.p R.k R.b 0] (mem0.set R.k (R.blk p)) K := DrawV.at0 (S := l4CoilC_S) hR hty hle () hp hpre h
end Go.Proofs.Ytmiicjgbhkjocaa
