/-
  Contracts: operands that are drawn.
-/
import Derived.Test.YtmiicjgbhkjocaaGa
import Derived.Test.YtmiicjgbhkjocaaA
set_option linter.unusedVariables false
set_option linter.unusedSimpArgs false
set_option maxRecDepth 100000
set_option maxHeartbeats 4000000
namespace Go.Proofs.Ytmiicjgbhkjocaa
open Go Go.Sx

theorem l2ArgC_c (kind : Int) (R : Rdr) (p : Int) (cx : Cx) (mem : List Blk) (w : World) (hty : R.ty = 172) (hR : R.Is (factF cx) mem) (hp : 0 ≤ p) (hpc : p + 8 ≤ 1125899906842624) (hpre : True) (hm : MemRel cx (mem.set R.k (R.blk p)) w) :
    Calls Try.prog 79 ((.p R.k R.b 0 :: [.v (.int .i64 kind)] : List C).map den).toArray w fun e w' => ∃ cx' x mem', e = .returned (den x) ∧ MemRel cx' mem' w' ∧ (fun cx' x mem' => ∃ v p', x = .v v ∧ mem' = mem.set R.k (R.blk p') ∧ Le cx cx' ∧ p ≤ p' ∧ p' ≤ p + 8 ∧ (∃ k n q, v = .agg #[.int .i64 k, .int .i64 n, .int .i64 q])) cx' x mem' := by
  refine step_of_vcs ⟨[pickC, numC, sDevSizeC], []⟩ hmx Try.func79 rfl (by kernel_rfl) (args := .p R.k R.b 0 :: [.v (.int .i64 kind)]) (by simp [Try.ntmps79]) hm (fun cx' x mem' => ∃ v p', x = .v v ∧ mem' = mem.set R.k (R.blk p') ∧ Le cx cx' ∧ p ≤ p' ∧ p' ≤ p + 8 ∧ (∃ k n q, v = .agg #[.int .i64 k, .int .i64 n, .int .i64 q])) 400 ?_
  have hlt := hR.lt
  have hle := Le.refl cx
  have hs : devSize kind ≤ 64 := by unfold devSize; (repeat' split) <;> omega
  (repeat' first
    | (with_reducible refine EndK.left ?_
       refine ⟨_, _, rfl, rfl, (by assumption), by omega, by omega, ?_⟩; exact ⟨_, _, _, rfl⟩; done)
    | (with_reducible refine EndK.all ?_
       refine ⟨_, _, rfl, rfl, (by assumption), by omega, by omega, ?_⟩; exact ⟨_, _, _, rfl⟩; done)
    | (with_reducible refine pickC_at0 hR hty ?_ ?_ ?_ ?_
       · assumption
       · exact ⟨by omega, by omega⟩
       · omega
       rintro cx' _ p' hle - hp1 hp2 ⟨x, rfl, hx1, hx2⟩)
    | (with_reducible refine pickC_at hR hty ?_ ?_ ?_ ?_
       · assumption
       · exact ⟨by omega, by omega⟩
       · omega
       rintro cx' _ p' hle - hp1 hp2 ⟨x, rfl, hx1, hx2⟩)
    | (with_reducible refine numC_lit0 hR hty ?_ hl ?_ ?_ ?_ ?_ ?_ ?_
       · assumption
       · rfl
       · rfl
       · exact ⟨by omega, by omega⟩
       · decide
       · decide
       rintro cx' _ p' hle - hp1 hp2 ⟨x, rfl, hx⟩)
    | (with_reducible refine numC_lit hR hty ?_ hl ?_ ?_ ?_ ?_ ?_ ?_
       · assumption
       · rfl
       · rfl
       · exact ⟨by omega, by omega⟩
       · decide
       · decide
       rintro cx' _ p' hle - hp1 hp2 ⟨x, rfl, hx⟩)
    | (with_reducible refine fun cx' q (hle' : Le _ cx') (hl : RdL _ q _) => ?_
       have hle := Le.trans (by assumption) hle'; (try simp [Sx.get, Sx.look, Sx.put, cellsC, Value.cells, den] at hl))
    | with_reducible refine And.intro ?_ ?_
    | with_reducible intro _
    | omega
    | simp (maxSteps := 4000000) -dsimp [-List.all_eq_true, -Array.all_eq_true, -Bool.exists_bool, -Bool.forall_bool, vcsE1, vcsE2, vcsE3, vcsE4, vcsE5, vcsE6, vcsE7, vcsE8, vcsE9, vcsE10, vcsE11, vcsE12, vcsE13, vcsE14, vcsE15, vcsE16, vcsE17, vcsE18, vcsE19, Sx.get, Sx.look, Sx.put, pureFn, findOrd, unF, dstOk, isFloatT, endVC, resFn, packC, newFn, storeFn, buildFn, undef, known, aggT, cellsC, Value.cells, findCon, Con.pure, Con.some, allV, partsV, partsC, fillL, Sx.exitTo, fAr, C.one, Value.oneCell', eqFn, eqFieldsFn, eqElemsFn, partFn, and_assoc, List.zipIdx, sliceFn, boundFn, AppV, CopyV, MakeSliceV, NewsV, GrowV, TextV, bytesL, notInt, typeAt, argAt, Con.read, Con.make, Con.ext, Con.rel, den, Con.extS, Con.draw, Con.step, Draws.steps, Try.f79, pickC, numC, sDevSizeC, hlt])
def l2ArgC_S : Draws Try.prog 172 8 79 where
  ι := ((Int))
  A := fun (kind : ((Int))) => [.v (.int .i64 kind)]
  pre := fun (kind : ((Int))) (F : Facts) => True
  post := fun (kind : ((Int))) (v : Value) (F : Facts) => ∃ k n q, v = .agg #[.int .i64 k, .int .i64 n, .int .i64 q]
  mono := fun _ _ _ _ _ => trivial
  enter := Try.call79
  h := fun kind R p cx mem w h1 h2 h3 h4 h5 h6 => l2ArgC_c kind R p cx mem w h1 h2 h3 h4 h5 h6
def l2ArgC : Con Try.prog := Con.draw l2ArgC_S
theorem l2ArgC_at {kind : Int} {d : Nat} {R : Rdr} {cx0 cx : Cx} {mem0 : List Blk} {ex : List Blk} {K : Cx → C → List Blk → Prop} {p : Int} (hR : R.Is (factF cx0) mem0) (hty : R.ty = 172) (hle : Le cx0 cx) (hp : 0 ≤ p ∧ p + 8 ≤ 1125899906842624) (hpre : True)
    (h : ∀ cx' v p', Le cx0 cx' → Le cx cx' → p ≤ p' → p' ≤ p + 8 → (∃ k n q, v = .agg #[.int .i64 k, .int .i64 n, .int .i64 q]) → K cx' (.v v) (mem0.set R.k (R.blk p') ++ ex)) :
    DrawV d l2ArgC_S cx [.p R.k R.b 0, .v (.int .i64 kind)] (mem0.set R.k (R.blk p) ++ ex) K := DrawV.at (S := l2ArgC_S) hR hty hle kind hp hpre h
theorem l2ArgC_at0 {kind : Int} {d : Nat} {R : Rdr} {cx0 cx : Cx} {mem0 : List Blk} {K : Cx → C → List Blk → Prop} {p : Int} (hR : R.Is (factF cx0) mem0) (hty : R.ty = 172) (hle : Le cx0 cx) (hp : 0 ≤ p ∧ p + 8 ≤ 1125899906842624) (hpre : True)
    (h : ∀ cx' v p', Le cx0 cx' → Le cx cx' → p ≤ p' → p' ≤ p + 8 → (∃ k n q, v = .agg #[.int .i64 k, .int .i64 n, .int .i64 q]) → K cx' (.v v) (mem0.set R.k (R.blk p'))) :
    DrawV d l2ArgC_S cx [.p R.k R.b 0, .v (.int .i64 kind)] (mem0.set R.k (R.blk p)) K := DrawV.at0 (S := l2ArgC_S) hR hty hle kind hp hpre h
theorem l2SpoiltC_c (k n q : Int) (R : Rdr) (p : Int) (cx : Cx) (mem : List Blk) (w : World) (hty : R.ty = 172) (hR : R.Is (factF cx) mem) (hp : 0 ≤ p) (hpc : p + 4 ≤ 1125899906842624) (hpre : True) (hm : MemRel cx (mem.set R.k (R.blk p)) w) :
    Calls Try.prog 161 ((.p R.k R.b 0 :: [.v (.agg #[.int .i64 k, .int .i64 n, .int .i64 q])] : List C).map den).toArray w fun e w' => ∃ cx' x mem', e = .returned (den x) ∧ MemRel cx' mem' w' ∧ (fun cx' x mem' => ∃ v p', x = .v v ∧ mem' = mem.set R.k (R.blk p') ∧ Le cx cx' ∧ p ≤ p' ∧ p' ≤ p + 4 ∧ (∃ k n q, v = .agg #[.int .i64 k, .int .i64 n, .int .i64 q])) cx' x mem' := by
  refine step_of_vcs ⟨[pickC, numC, sDevSizeC], []⟩ hmx Try.func161 rfl (by kernel_rfl) (args := .p R.k R.b 0 :: [.v (.agg #[.int .i64 k, .int .i64 n, .int .i64 q])]) (by simp [Try.ntmps161]) hm (fun cx' x mem' => ∃ v p', x = .v v ∧ mem' = mem.set R.k (R.blk p') ∧ Le cx cx' ∧ p ≤ p' ∧ p' ≤ p + 4 ∧ (∃ k n q, v = .agg #[.int .i64 k, .int .i64 n, .int .i64 q])) 400 ?_
  have hlt := hR.lt
  have hle := Le.refl cx
  (repeat' first
    | (with_reducible refine EndK.left ?_
       refine ⟨_, _, rfl, rfl, (by assumption), by omega, by omega, ?_⟩; exact ⟨_, _, _, rfl⟩; done)
    | (with_reducible refine EndK.all ?_
       refine ⟨_, _, rfl, rfl, (by assumption), by omega, by omega, ?_⟩; exact ⟨_, _, _, rfl⟩; done)
    | (with_reducible refine pickC_at0 hR hty ?_ ?_ ?_ ?_
       · assumption
       · exact ⟨by omega, by omega⟩
       · omega
       rintro cx' _ p' hle - hp1 hp2 ⟨x, rfl, hx1, hx2⟩)
    | (with_reducible refine pickC_at hR hty ?_ ?_ ?_ ?_
       · assumption
       · exact ⟨by omega, by omega⟩
       · omega
       rintro cx' _ p' hle - hp1 hp2 ⟨x, rfl, hx1, hx2⟩)
    | (with_reducible refine numC_lit0 hR hty ?_ hl ?_ ?_ ?_ ?_ ?_ ?_
       · assumption
       · rfl
       · rfl
       · exact ⟨by omega, by omega⟩
       · decide
       · decide
       rintro cx' _ p' hle - hp1 hp2 ⟨x, rfl, hx⟩)
    | (with_reducible refine numC_lit hR hty ?_ hl ?_ ?_ ?_ ?_ ?_ ?_
       · assumption
       · rfl
       · rfl
       · exact ⟨by omega, by omega⟩
       · decide
       · decide
       rintro cx' _ p' hle - hp1 hp2 ⟨x, rfl, hx⟩)
    | (with_reducible refine fun cx' q (hle' : Le _ cx') (hl : RdL _ q _) => ?_
       have hle := Le.trans (by assumption) hle'; (try simp [Sx.get, Sx.look, Sx.put, cellsC, Value.cells, den] at hl))
    | with_reducible refine And.intro ?_ ?_
    | with_reducible intro _
    | omega
    | simp (maxSteps := 4000000) -dsimp [-List.all_eq_true, -Array.all_eq_true, -Bool.exists_bool, -Bool.forall_bool, vcsE1, vcsE2, vcsE3, vcsE4, vcsE5, vcsE6, vcsE7, vcsE8, vcsE9, vcsE10, vcsE11, vcsE12, vcsE13, vcsE14, vcsE15, vcsE16, vcsE17, vcsE18, vcsE19, Sx.get, Sx.look, Sx.put, pureFn, findOrd, unF, dstOk, isFloatT, endVC, resFn, packC, newFn, storeFn, buildFn, undef, known, aggT, cellsC, Value.cells, findCon, Con.pure, Con.some, allV, partsV, partsC, fillL, Sx.exitTo, fAr, C.one, Value.oneCell', eqFn, eqFieldsFn, eqElemsFn, partFn, and_assoc, List.zipIdx, sliceFn, boundFn, AppV, CopyV, MakeSliceV, NewsV, GrowV, TextV, bytesL, notInt, typeAt, argAt, Con.read, Con.make, Con.ext, Con.rel, den, Con.extS, Con.draw, Con.step, Draws.steps, Try.f161, pickC, numC, sDevSizeC, hlt])
def l2SpoiltC_S : Draws Try.prog 172 4 161 where
  ι := ((Int) × (Int) × (Int))
  A := fun (i : ((Int) × (Int) × (Int))) => match i with | (k, n, q) => [.v (.agg #[.int .i64 k, .int .i64 n, .int .i64 q])]
  pre := fun (i : ((Int) × (Int) × (Int))) (F : Facts) => match i with | (k, n, q) => True
  post := fun (i : ((Int) × (Int) × (Int))) (v : Value) (F : Facts) => match i with | (k, n, q) => ∃ k n q, v = .agg #[.int .i64 k, .int .i64 n, .int .i64 q]
  mono := fun _ _ _ _ _ => trivial
  enter := Try.call161
  h := fun i R p cx mem w h1 h2 h3 h4 h5 h6 => l2SpoiltC_c i.1 i.2.1 i.2.2 R p cx mem w h1 h2 h3 h4 h5 h6
def l2SpoiltC : Con Try.prog := Con.draw l2SpoiltC_S
theorem l2SpoiltC_at {k n q : Int} {d : Nat} {R : Rdr} {cx0 cx : Cx} {mem0 : List Blk} {ex : List Blk} {K : Cx → C → List Blk → Prop} {p : Int} (hR : R.Is (factF cx0) mem0) (hty : R.ty = 172) (hle : Le cx0 cx) (hp : 0 ≤ p ∧ p + 4 ≤ 1125899906842624) (hpre : True)
    (h : ∀ cx' v p', Le cx0 cx' → Le cx cx' → p ≤ p' → p' ≤ p + 4 → (∃ k n q, v = .agg #[.int .i64 k, .int .i64 n, .int .i64 q]) → K cx' (.v v) (mem0.set R.k (R.blk p') ++ ex)) :
    DrawV d l2SpoiltC_S cx [.p R.k R.b 0, .v (.agg #[.int .i64 k, .int .i64 n, .int .i64 q])] (mem0.set R.k (R.blk p) ++ ex) K := DrawV.at (S := l2SpoiltC_S) hR hty hle (k, n, q) hp hpre h
theorem l2SpoiltC_at0 {k n q : Int} {d : Nat} {R : Rdr} {cx0 cx : Cx} {mem0 : List Blk} {K : Cx → C → List Blk → Prop} {p : Int} (hR : R.Is (factF cx0) mem0) (hty : R.ty = 172) (hle : Le cx0 cx) (hp : 0 ≤ p ∧ p + 4 ≤ 1125899906842624) (hpre : True)
    (h : ∀ cx' v p', Le cx0 cx' → Le cx cx' → p ≤ p' → p' ≤ p + 4 → (∃ k n q, v = .agg #[.int .i64 k, .int .i64 n, .int .i64 q]) → K cx' (.v v) (mem0.set R.k (R.blk p'))) :
    DrawV d l2SpoiltC_S cx [.p R.k R.b 0, .v (.agg #[.int .i64 k, .int .i64 n, .int .i64 q])] (mem0.set R.k (R.blk p)) K := DrawV.at0 (S := l2SpoiltC_S) hR hty hle (k, n, q) hp hpre h
theorem l2AnyC_c  (R : Rdr) (p : Int) (cx : Cx) (mem : List Blk) (w : World) (hty : R.ty = 172) (hR : R.Is (factF cx) mem) (hp : 0 ≤ p) (hpc : p + 20 ≤ 1125899906842624) (hpre : True) (hm : MemRel cx (mem.set R.k (R.blk p)) w) :
    Calls Try.prog 145 ((.p R.k R.b 0 :: [] : List C).map den).toArray w fun e w' => ∃ cx' x mem', e = .returned (den x) ∧ MemRel cx' mem' w' ∧ (fun cx' x mem' => ∃ v p', x = .v v ∧ mem' = mem.set R.k (R.blk p') ∧ Le cx cx' ∧ p ≤ p' ∧ p' ≤ p + 20 ∧ (∃ k n q, v = .agg #[.int .i64 k, .int .i64 n, .int .i64 q])) cx' x mem' := by
  refine step_of_vcs ⟨[pickC, l2ArgC, l2SpoiltC], []⟩ hmx Try.func145 rfl (by kernel_rfl) (args := .p R.k R.b 0 :: []) (by simp [Try.ntmps145]) hm (fun cx' x mem' => ∃ v p', x = .v v ∧ mem' = mem.set R.k (R.blk p') ∧ Le cx cx' ∧ p ≤ p' ∧ p' ≤ p + 20 ∧ (∃ k n q, v = .agg #[.int .i64 k, .int .i64 n, .int .i64 q])) 400 ?_
  have hlt := hR.lt
  have hle := Le.refl cx
  (repeat' first
    | (with_reducible refine EndK.left ?_
       refine ⟨_, _, rfl, rfl, (by assumption), by omega, by omega, ?_⟩; exact ⟨_, _, _, rfl⟩; done)
    | (with_reducible refine EndK.all ?_
       refine ⟨_, _, rfl, rfl, (by assumption), by omega, by omega, ?_⟩; exact ⟨_, _, _, rfl⟩; done)
    | (with_reducible refine pickC_at0 hR hty ?_ ?_ ?_ ?_
       · assumption
       · exact ⟨by omega, by omega⟩
       · omega
       rintro cx' _ p' hle - hp1 hp2 ⟨x, rfl, hx1, hx2⟩)
    | (with_reducible refine pickC_at hR hty ?_ ?_ ?_ ?_
       · assumption
       · exact ⟨by omega, by omega⟩
       · omega
       rintro cx' _ p' hle - hp1 hp2 ⟨x, rfl, hx1, hx2⟩)
    | (with_reducible refine l2ArgC_at0 hR hty ?_ ?_ ?_ ?_
       · assumption
       · exact ⟨by omega, by omega⟩
       · trivial
       rintro cx' _ p' hle - hp1 hp2 ⟨ak, an, aq, rfl⟩)
    | (with_reducible refine l2ArgC_at hR hty ?_ ?_ ?_ ?_
       · assumption
       · exact ⟨by omega, by omega⟩
       · trivial
       rintro cx' _ p' hle - hp1 hp2 ⟨ak, an, aq, rfl⟩)
    | (with_reducible refine l2SpoiltC_at0 hR hty ?_ ?_ ?_ ?_
       · assumption
       · exact ⟨by omega, by omega⟩
       · trivial
       rintro cx' _ p' hle - hp1 hp2 ⟨ak, an, aq, rfl⟩)
    | (with_reducible refine l2SpoiltC_at hR hty ?_ ?_ ?_ ?_
       · assumption
       · exact ⟨by omega, by omega⟩
       · trivial
       rintro cx' _ p' hle - hp1 hp2 ⟨ak, an, aq, rfl⟩)
    | (with_reducible refine fun cx' q (hle' : Le _ cx') (hl : RdL _ q _) => ?_
       have hle := Le.trans (by assumption) hle'; (try simp [Sx.get, Sx.look, Sx.put, cellsC, Value.cells, den] at hl))
    | with_reducible refine And.intro ?_ ?_
    | with_reducible intro _
    | omega
    | simp (maxSteps := 4000000) -dsimp [-List.all_eq_true, -Array.all_eq_true, -Bool.exists_bool, -Bool.forall_bool, vcsE1, vcsE2, vcsE3, vcsE4, vcsE5, vcsE6, vcsE7, vcsE8, vcsE9, vcsE10, vcsE11, vcsE12, vcsE13, vcsE14, vcsE15, vcsE16, vcsE17, vcsE18, vcsE19, Sx.get, Sx.look, Sx.put, pureFn, findOrd, unF, dstOk, isFloatT, endVC, resFn, packC, newFn, storeFn, buildFn, undef, known, aggT, cellsC, Value.cells, findCon, Con.pure, Con.some, allV, partsV, partsC, fillL, Sx.exitTo, fAr, C.one, Value.oneCell', eqFn, eqFieldsFn, eqElemsFn, partFn, and_assoc, List.zipIdx, sliceFn, boundFn, AppV, CopyV, MakeSliceV, NewsV, GrowV, TextV, bytesL, notInt, typeAt, argAt, Con.read, Con.make, Con.ext, Con.rel, den, Con.extS, Con.draw, Con.step, Draws.steps, Try.f145, pickC, l2ArgC, l2SpoiltC, hlt])
def l2AnyC_S : Draws Try.prog 172 20 145 where
  ι := Unit
  A := fun (_u : Unit) => []
  pre := fun (_u : Unit) (F : Facts) => True
  post := fun (_u : Unit) (v : Value) (F : Facts) => ∃ k n q, v = .agg #[.int .i64 k, .int .i64 n, .int .i64 q]
  mono := fun _ _ _ _ _ => trivial
  enter := Try.call145
  h := fun _u R p cx mem w h1 h2 h3 h4 h5 h6 => l2AnyC_c  R p cx mem w h1 h2 h3 h4 h5 h6
def l2AnyC : Con Try.prog := Con.draw l2AnyC_S
theorem l2AnyC_at  {d : Nat} {R : Rdr} {cx0 cx : Cx} {mem0 : List Blk} {ex : List Blk} {K : Cx → C → List Blk → Prop} {p : Int} (hR : R.Is (factF cx0) mem0) (hty : R.ty = 172) (hle : Le cx0 cx) (hp : 0 ≤ p ∧ p + 20 ≤ 1125899906842624) (hpre : True)
    (h : ∀ cx' v p', Le cx0 cx' → Le cx cx' → p ≤ p' → p' ≤ p + 20 → (∃ k n q, v = .agg #[.int .i64 k, .int .i64 n, .int .i64 q]) → K cx' (.v v) (mem0.set R.k (R.blk p') ++ ex)) :
    DrawV d l2AnyC_S cx [.p R.k R.b 0] (mem0.set R.k (R.blk p) ++ ex) K := DrawV.at (S := l2AnyC_S) hR hty hle () hp hpre h
theorem l2AnyC_at0  {d : Nat} {R : Rdr} {cx0 cx : Cx} {mem0 : List Blk} {K : Cx → C → List Blk → Prop} {p : Int} (hR : R.Is (factF cx0) mem0) (hty : R.ty = 172) (hle : Le cx0 cx) (hp : 0 ≤ p ∧ p + 20 ≤ 1125899906842624) (hpre : True)
    (h : ∀ cx' v p', Le cx0 cx' → Le cx cx' → p ≤ p' → p' ≤ p + 20 → (∃ k n q, v = .agg #[.int .i64 k, .int .i64 n, .int .i64 q]) → K cx' (.v v) (mem0.set R.k (R.blk p'))) :
    DrawV d l2AnyC_S cx [.p R.k R.b 0] (mem0.set R.k (R.blk p)) K := DrawV.at0 (S := l2AnyC_S) hR hty hle () hp hpre h
theorem l4BitC_c  (R : Rdr) (p : Int) (cx : Cx) (mem : List Blk) (w : World) (hty : R.ty = 172) (hR : R.Is (factF cx) mem) (hp : 0 ≤ p) (hpc : p + 12 ≤ 1125899906842624) (hpre : True) (hm : MemRel cx (mem.set R.k (R.blk p)) w) :
    Calls Try.prog 158 ((.p R.k R.b 0 :: [] : List C).map den).toArray w fun e w' => ∃ cx' x mem', e = .returned (den x) ∧ MemRel cx' mem' w' ∧ (fun cx' x mem' => ∃ v p', x = .v v ∧ mem' = mem.set R.k (R.blk p') ∧ Le cx cx' ∧ p ≤ p' ∧ p' ≤ p + 12 ∧ (∃ k n q, v = .agg #[.int .i64 k, .int .i64 n, .int .i64 q])) cx' x mem' := by
  refine step_of_vcs ⟨[numC, l2ArgC], []⟩ hmx Try.func158 rfl (by kernel_rfl) (args := .p R.k R.b 0 :: []) (by simp [Try.ntmps158]) hm (fun cx' x mem' => ∃ v p', x = .v v ∧ mem' = mem.set R.k (R.blk p') ∧ Le cx cx' ∧ p ≤ p' ∧ p' ≤ p + 12 ∧ (∃ k n q, v = .agg #[.int .i64 k, .int .i64 n, .int .i64 q])) 400 ?_
  have hlt := hR.lt
  have hle := Le.refl cx
  (repeat' first
    | (with_reducible refine EndK.left ?_
       refine ⟨_, _, rfl, rfl, (by assumption), by omega, by omega, ?_⟩; exact ⟨_, _, _, rfl⟩; done)
    | (with_reducible refine EndK.all ?_
       refine ⟨_, _, rfl, rfl, (by assumption), by omega, by omega, ?_⟩; exact ⟨_, _, _, rfl⟩; done)
    | (with_reducible refine numC_lit0 hR hty ?_ hl ?_ ?_ ?_ ?_ ?_ ?_
       · assumption
       · rfl
       · rfl
       · exact ⟨by omega, by omega⟩
       · decide
       · decide
       rintro cx' _ p' hle - hp1 hp2 ⟨x, rfl, hx⟩)
    | (with_reducible refine numC_lit hR hty ?_ hl ?_ ?_ ?_ ?_ ?_ ?_
       · assumption
       · rfl
       · rfl
       · exact ⟨by omega, by omega⟩
       · decide
       · decide
       rintro cx' _ p' hle - hp1 hp2 ⟨x, rfl, hx⟩)
    | (with_reducible refine l2ArgC_at0 hR hty ?_ ?_ ?_ ?_
       · assumption
       · exact ⟨by omega, by omega⟩
       · trivial
       rintro cx' _ p' hle - hp1 hp2 ⟨ak, an, aq, rfl⟩)
    | (with_reducible refine l2ArgC_at hR hty ?_ ?_ ?_ ?_
       · assumption
       · exact ⟨by omega, by omega⟩
       · trivial
       rintro cx' _ p' hle - hp1 hp2 ⟨ak, an, aq, rfl⟩)
    | (with_reducible refine fun cx' q (hle' : Le _ cx') (hl : RdL _ q _) => ?_
       have hle := Le.trans (by assumption) hle'; (try simp [Sx.get, Sx.look, Sx.put, cellsC, Value.cells, den] at hl))
    | with_reducible refine And.intro ?_ ?_
    | with_reducible intro _
    | omega
    | simp (maxSteps := 4000000) -dsimp [-List.all_eq_true, -Array.all_eq_true, -Bool.exists_bool, -Bool.forall_bool, vcsE1, vcsE2, vcsE3, vcsE4, vcsE5, vcsE6, vcsE7, vcsE8, vcsE9, vcsE10, vcsE11, vcsE12, vcsE13, vcsE14, vcsE15, vcsE16, vcsE17, vcsE18, vcsE19, Sx.get, Sx.look, Sx.put, pureFn, findOrd, unF, dstOk, isFloatT, endVC, resFn, packC, newFn, storeFn, buildFn, undef, known, aggT, cellsC, Value.cells, findCon, Con.pure, Con.some, allV, partsV, partsC, fillL, Sx.exitTo, fAr, C.one, Value.oneCell', eqFn, eqFieldsFn, eqElemsFn, partFn, and_assoc, List.zipIdx, sliceFn, boundFn, AppV, CopyV, MakeSliceV, NewsV, GrowV, TextV, bytesL, notInt, typeAt, argAt, Con.read, Con.make, Con.ext, Con.rel, den, Con.extS, Con.draw, Con.step, Draws.steps, Try.f158, numC, l2ArgC, hlt])
def l4BitC_S : Draws Try.prog 172 12 158 where
  ι := Unit
  A := fun (_u : Unit) => []
  pre := fun (_u : Unit) (F : Facts) => True
  post := fun (_u : Unit) (v : Value) (F : Facts) => ∃ k n q, v = .agg #[.int .i64 k, .int .i64 n, .int .i64 q]
  mono := fun _ _ _ _ _ => trivial
  enter := Try.call158
  h := fun _u R p cx mem w h1 h2 h3 h4 h5 h6 => l4BitC_c  R p cx mem w h1 h2 h3 h4 h5 h6
def l4BitC : Con Try.prog := Con.draw l4BitC_S
theorem l4BitC_at  {d : Nat} {R : Rdr} {cx0 cx : Cx} {mem0 : List Blk} {ex : List Blk} {K : Cx → C → List Blk → Prop} {p : Int} (hR : R.Is (factF cx0) mem0) (hty : R.ty = 172) (hle : Le cx0 cx) (hp : 0 ≤ p ∧ p + 12 ≤ 1125899906842624) (hpre : True)
    (h : ∀ cx' v p', Le cx0 cx' → Le cx cx' → p ≤ p' → p' ≤ p + 12 → (∃ k n q, v = .agg #[.int .i64 k, .int .i64 n, .int .i64 q]) → K cx' (.v v) (mem0.set R.k (R.blk p') ++ ex)) :
    DrawV d l4BitC_S cx [.p R.k R.b 0] (mem0.set R.k (R.blk p) ++ ex) K := DrawV.at (S := l4BitC_S) hR hty hle () hp hpre h
theorem l4BitC_at0  {d : Nat} {R : Rdr} {cx0 cx : Cx} {mem0 : List Blk} {K : Cx → C → List Blk → Prop} {p : Int} (hR : R.Is (factF cx0) mem0) (hty : R.ty = 172) (hle : Le cx0 cx) (hp : 0 ≤ p ∧ p + 12 ≤ 1125899906842624) (hpre : True)
    (h : ∀ cx' v p', Le cx0 cx' → Le cx cx' → p ≤ p' → p' ≤ p + 12 → (∃ k n q, v = .agg #[.int .i64 k, .int .i64 n, .int .i64 q]) → K cx' (.v v) (mem0.set R.k (R.blk p'))) :
    DrawV d l4BitC_S cx [.p R.k R.b 0] (mem0.set R.k (R.blk p)) K := DrawV.at0 (S := l4BitC_S) hR hty hle () hp hpre h
theorem l4WholeC_c  (R : Rdr) (p : Int) (cx : Cx) (mem : List Blk) (w : World) (hty : R.ty = 172) (hR : R.Is (factF cx) mem) (hp : 0 ≤ p) (hpc : p + 12 ≤ 1125899906842624) (hpre : True) (hm : MemRel cx (mem.set R.k (R.blk p)) w) :
    Calls Try.prog 159 ((.p R.k R.b 0 :: [] : List C).map den).toArray w fun e w' => ∃ cx' x mem', e = .returned (den x) ∧ MemRel cx' mem' w' ∧ (fun cx' x mem' => ∃ v p', x = .v v ∧ mem' = mem.set R.k (R.blk p') ∧ Le cx cx' ∧ p ≤ p' ∧ p' ≤ p + 12 ∧ (∃ k n q, v = .agg #[.int .i64 k, .int .i64 n, .int .i64 q])) cx' x mem' := by
  refine step_of_vcs ⟨[numC, l2ArgC], []⟩ hmx Try.func159 rfl (by kernel_rfl) (args := .p R.k R.b 0 :: []) (by simp [Try.ntmps159]) hm (fun cx' x mem' => ∃ v p', x = .v v ∧ mem' = mem.set R.k (R.blk p') ∧ Le cx cx' ∧ p ≤ p' ∧ p' ≤ p + 12 ∧ (∃ k n q, v = .agg #[.int .i64 k, .int .i64 n, .int .i64 q])) 400 ?_
  have hlt := hR.lt
  have hle := Le.refl cx
  (repeat' first
    | (with_reducible refine EndK.left ?_
       refine ⟨_, _, rfl, rfl, (by assumption), by omega, by omega, ?_⟩; exact ⟨_, _, _, rfl⟩; done)
    | (with_reducible refine EndK.all ?_
       refine ⟨_, _, rfl, rfl, (by assumption), by omega, by omega, ?_⟩; exact ⟨_, _, _, rfl⟩; done)
    | (with_reducible refine numC_lit0 hR hty ?_ hl ?_ ?_ ?_ ?_ ?_ ?_
       · assumption
       · rfl
       · rfl
       · exact ⟨by omega, by omega⟩
       · decide
       · decide
       rintro cx' _ p' hle - hp1 hp2 ⟨x, rfl, hx⟩)
    | (with_reducible refine numC_lit hR hty ?_ hl ?_ ?_ ?_ ?_ ?_ ?_
       · assumption
       · rfl
       · rfl
       · exact ⟨by omega, by omega⟩
       · decide
       · decide
       rintro cx' _ p' hle - hp1 hp2 ⟨x, rfl, hx⟩)
    | (with_reducible refine l2ArgC_at0 hR hty ?_ ?_ ?_ ?_
       · assumption
       · exact ⟨by omega, by omega⟩
       · trivial
       rintro cx' _ p' hle - hp1 hp2 ⟨ak, an, aq, rfl⟩)
    | (with_reducible refine l2ArgC_at hR hty ?_ ?_ ?_ ?_
       · assumption
       · exact ⟨by omega, by omega⟩
       · trivial
       rintro cx' _ p' hle - hp1 hp2 ⟨ak, an, aq, rfl⟩)
    | (with_reducible refine fun cx' q (hle' : Le _ cx') (hl : RdL _ q _) => ?_
       have hle := Le.trans (by assumption) hle'; (try simp [Sx.get, Sx.look, Sx.put, cellsC, Value.cells, den] at hl))
    | with_reducible refine And.intro ?_ ?_
    | with_reducible intro _
    | omega
    | simp (maxSteps := 4000000) -dsimp [-List.all_eq_true, -Array.all_eq_true, -Bool.exists_bool, -Bool.forall_bool, vcsE1, vcsE2, vcsE3, vcsE4, vcsE5, vcsE6, vcsE7, vcsE8, vcsE9, vcsE10, vcsE11, vcsE12, vcsE13, vcsE14, vcsE15, vcsE16, vcsE17, vcsE18, vcsE19, Sx.get, Sx.look, Sx.put, pureFn, findOrd, unF, dstOk, isFloatT, endVC, resFn, packC, newFn, storeFn, buildFn, undef, known, aggT, cellsC, Value.cells, findCon, Con.pure, Con.some, allV, partsV, partsC, fillL, Sx.exitTo, fAr, C.one, Value.oneCell', eqFn, eqFieldsFn, eqElemsFn, partFn, and_assoc, List.zipIdx, sliceFn, boundFn, AppV, CopyV, MakeSliceV, NewsV, GrowV, TextV, bytesL, notInt, typeAt, argAt, Con.read, Con.make, Con.ext, Con.rel, den, Con.extS, Con.draw, Con.step, Draws.steps, Try.f159, numC, l2ArgC, hlt])
def l4WholeC_S : Draws Try.prog 172 12 159 where
  ι := Unit
  A := fun (_u : Unit) => []
  pre := fun (_u : Unit) (F : Facts) => True
  post := fun (_u : Unit) (v : Value) (F : Facts) => ∃ k n q, v = .agg #[.int .i64 k, .int .i64 n, .int .i64 q]
  mono := fun _ _ _ _ _ => trivial
  enter := Try.call159
  h := fun _u R p cx mem w h1 h2 h3 h4 h5 h6 => l4WholeC_c  R p cx mem w h1 h2 h3 h4 h5 h6
def l4WholeC : Con Try.prog := Con.draw l4WholeC_S
theorem l4WholeC_at  {d : Nat} {R : Rdr} {cx0 cx : Cx} {mem0 : List Blk} {ex : List Blk} {K : Cx → C → List Blk → Prop} {p : Int} (hR : R.Is (factF cx0) mem0) (hty : R.ty = 172) (hle : Le cx0 cx) (hp : 0 ≤ p ∧ p + 12 ≤ 1125899906842624) (hpre : True)
    (h : ∀ cx' v p', Le cx0 cx' → Le cx cx' → p ≤ p' → p' ≤ p + 12 → (∃ k n q, v = .agg #[.int .i64 k, .int .i64 n, .int .i64 q]) → K cx' (.v v) (mem0.set R.k (R.blk p') ++ ex)) :
    DrawV d l4WholeC_S cx [.p R.k R.b 0] (mem0.set R.k (R.blk p) ++ ex) K := DrawV.at (S := l4WholeC_S) hR hty hle () hp hpre h
theorem l4WholeC_at0  {d : Nat} {R : Rdr} {cx0 cx : Cx} {mem0 : List Blk} {K : Cx → C → List Blk → Prop} {p : Int} (hR : R.Is (factF cx0) mem0) (hty : R.ty = 172) (hle : Le cx0 cx) (hp : 0 ≤ p ∧ p + 12 ≤ 1125899906842624) (hpre : True)
    (h : ∀ cx' v p', Le cx0 cx' → Le cx cx' → p ≤ p' → p' ≤ p + 12 → (∃ k n q, v = .agg #[.int .i64 k, .int .i64 n, .int .i64 q]) → K cx' (.v v) (mem0.set R.k (R.blk p'))) :
    DrawV d l4WholeC_S cx [.p R.k R.b 0] (mem0.set R.k (R.blk p)) K := DrawV.at0 (S := l4WholeC_S) hR hty hle () hp hpre h
theorem l4RealC_c  (R : Rdr) (p : Int) (cx : Cx) (mem : List Blk) (w : World) (hty : R.ty = 172) (hR : R.Is (factF cx) mem) (hp : 0 ≤ p) (hpc : p + 12 ≤ 1125899906842624) (hpre : True) (hm : MemRel cx (mem.set R.k (R.blk p)) w) :
    Calls Try.prog 160 ((.p R.k R.b 0 :: [] : List C).map den).toArray w fun e w' => ∃ cx' x mem', e = .returned (den x) ∧ MemRel cx' mem' w' ∧ (fun cx' x mem' => ∃ v p', x = .v v ∧ mem' = mem.set R.k (R.blk p') ∧ Le cx cx' ∧ p ≤ p' ∧ p' ≤ p + 12 ∧ (∃ k n q, v = .agg #[.int .i64 k, .int .i64 n, .int .i64 q])) cx' x mem' := by
  refine step_of_vcs ⟨[numC, l2ArgC], []⟩ hmx Try.func160 rfl (by kernel_rfl) (args := .p R.k R.b 0 :: []) (by simp [Try.ntmps160]) hm (fun cx' x mem' => ∃ v p', x = .v v ∧ mem' = mem.set R.k (R.blk p') ∧ Le cx cx' ∧ p ≤ p' ∧ p' ≤ p + 12 ∧ (∃ k n q, v = .agg #[.int .i64 k, .int .i64 n, .int .i64 q])) 400 ?_
  have hlt := hR.lt
  have hle := Le.refl cx
  (repeat' first
    | (with_reducible refine EndK.left ?_
       refine ⟨_, _, rfl, rfl, (by assumption), by omega, by omega, ?_⟩; exact ⟨_, _, _, rfl⟩; done)
    | (with_reducible refine EndK.all ?_
       refine ⟨_, _, rfl, rfl, (by assumption), by omega, by omega, ?_⟩; exact ⟨_, _, _, rfl⟩; done)
    | (with_reducible refine numC_lit0 hR hty ?_ hl ?_ ?_ ?_ ?_ ?_ ?_
       · assumption
       · rfl
       · rfl
       · exact ⟨by omega, by omega⟩
       · decide
       · decide
       rintro cx' _ p' hle - hp1 hp2 ⟨x, rfl, hx⟩)
    | (with_reducible refine numC_lit hR hty ?_ hl ?_ ?_ ?_ ?_ ?_ ?_
       · assumption
       · rfl
       · rfl
       · exact ⟨by omega, by omega⟩
       · decide
       · decide
       rintro cx' _ p' hle - hp1 hp2 ⟨x, rfl, hx⟩)
    | (with_reducible refine l2ArgC_at0 hR hty ?_ ?_ ?_ ?_
       · assumption
       · exact ⟨by omega, by omega⟩
       · trivial
       rintro cx' _ p' hle - hp1 hp2 ⟨ak, an, aq, rfl⟩)
    | (with_reducible refine l2ArgC_at hR hty ?_ ?_ ?_ ?_
       · assumption
       · exact ⟨by omega, by omega⟩
       · trivial
       rintro cx' _ p' hle - hp1 hp2 ⟨ak, an, aq, rfl⟩)
    | (with_reducible refine fun cx' q (hle' : Le _ cx') (hl : RdL _ q _) => ?_
       have hle := Le.trans (by assumption) hle'; (try simp [Sx.get, Sx.look, Sx.put, cellsC, Value.cells, den] at hl))
    | with_reducible refine And.intro ?_ ?_
    | with_reducible intro _
    | omega
    | simp (maxSteps := 4000000) -dsimp [-List.all_eq_true, -Array.all_eq_true, -Bool.exists_bool, -Bool.forall_bool, vcsE1, vcsE2, vcsE3, vcsE4, vcsE5, vcsE6, vcsE7, vcsE8, vcsE9, vcsE10, vcsE11, vcsE12, vcsE13, vcsE14, vcsE15, vcsE16, vcsE17, vcsE18, vcsE19, Sx.get, Sx.look, Sx.put, pureFn, findOrd, unF, dstOk, isFloatT, endVC, resFn, packC, newFn, storeFn, buildFn, undef, known, aggT, cellsC, Value.cells, findCon, Con.pure, Con.some, allV, partsV, partsC, fillL, Sx.exitTo, fAr, C.one, Value.oneCell', eqFn, eqFieldsFn, eqElemsFn, partFn, and_assoc, List.zipIdx, sliceFn, boundFn, AppV, CopyV, MakeSliceV, NewsV, GrowV, TextV, bytesL, notInt, typeAt, argAt, Con.read, Con.make, Con.ext, Con.rel, den, Con.extS, Con.draw, Con.step, Draws.steps, Try.f160, numC, l2ArgC, hlt])
def l4RealC_S : Draws Try.prog 172 12 160 where
  ι := Unit
  A := fun (_u : Unit) => []
  pre := fun (_u : Unit) (F : Facts) => True
  post := fun (_u : Unit) (v : Value) (F : Facts) => ∃ k n q, v = .agg #[.int .i64 k, .int .i64 n, .int .i64 q]
  mono := fun _ _ _ _ _ => trivial
  enter := Try.call160
  h := fun _u R p cx mem w h1 h2 h3 h4 h5 h6 => l4RealC_c  R p cx mem w h1 h2 h3 h4 h5 h6
def l4RealC : Con Try.prog := Con.draw l4RealC_S
theorem l4RealC_at  {d : Nat} {R : Rdr} {cx0 cx : Cx} {mem0 : List Blk} {ex : List Blk} {K : Cx → C → List Blk → Prop} {p : Int} (hR : R.Is (factF cx0) mem0) (hty : R.ty = 172) (hle : Le cx0 cx) (hp : 0 ≤ p ∧ p + 12 ≤ 1125899906842624) (hpre : True)
    (h : ∀ cx' v p', Le cx0 cx' → Le cx cx' → p ≤ p' → p' ≤ p + 12 → (∃ k n q, v = .agg #[.int .i64 k, .int .i64 n, .int .i64 q]) → K cx' (.v v) (mem0.set R.k (R.blk p') ++ ex)) :
    DrawV d l4RealC_S cx [.p R.k R.b 0] (mem0.set R.k (R.blk p) ++ ex) K := DrawV.at (S := l4RealC_S) hR hty hle () hp hpre h
theorem l4RealC_at0  {d : Nat} {R : Rdr} {cx0 cx : Cx} {mem0 : List Blk} {K : Cx → C → List Blk → Prop} {p : Int} (hR : R.Is (factF cx0) mem0) (hty : R.ty = 172) (hle : Le cx0 cx) (hp : 0 ≤ p ∧ p + 12 ≤ 1125899906842624) (hpre : True)
    (h : ∀ cx' v p', Le cx0 cx' → Le cx cx' → p ≤ p' → p' ≤ p + 12 → (∃ k n q, v = .agg #[.int .i64 k, .int .i64 n, .int .i64 q]) → K cx' (.v v) (mem0.set R.k (R.blk p'))) :
    DrawV d l4RealC_S cx [.p R.k R.b 0] (mem0.set R.k (R.blk p)) K := DrawV.at0 (S := l4RealC_S) hR hty hle () hp hpre h
end Go.Proofs.Ytmiicjgbhkjocaa
