/-
  Contracts: contacts and coils that are spoilt, instructions that are drawn.
-/
import Derived.Test.YtmlmmaojomghdaaDoorGath
import Derived.Test.YtmlmmaojomghdaaDoorAth
import Derived.Test.YtmlmmaojomghdaaDoorInth
import Derived.Test.YtmlmmaojomghdaaDoorHth
import Derived.Test.YtmlmmaojomghdaaDoorIth
set_option linter.unusedVariables false
set_option linter.unusedSimpArgs false
set_option maxRecDepth 100000
set_option maxHeartbeats 4000000
namespace Go.Proofs.YtmlmmaojomghdaaDoor
open Go Go.Sx
attribute [local simp] Sx.vcsE1 Sx.vcsE2 Sx.vcsE3 Sx.vcsE4 Sx.vcsE5 Sx.vcsE6 Sx.vcsE7 Sx.vcsE8 Sx.vcsE9 Sx.vcsE10 Sx.vcsE11 Sx.vcsE12 Sx.vcsE13 Sx.vcsE14 Sx.vcsE15 Sx.vcsE16 Sx.vcsE17 Sx.vcsE18 Sx.vcsE19 Sx.get Sx.look Sx.put Sx.pureFn Sx.findOrd Sx.unF Sx.dstOk Sx.isFloatT Sx.endVC Sx.resFn Sx.packC Sx.newFn Sx.storeFn Sx.buildFn Sx.known Sx.aggT Sx.cellsC Sx.findCon Sx.allV Sx.partsV Sx.partsC Sx.fillL Sx.exitTo Sx.fAr Sx.eqFn Sx.eqFieldsFn Sx.eqElemsFn Sx.partFn Sx.sliceFn Sx.boundFn Sx.AppV Sx.CopyV Sx.MakeSliceV Sx.NewsV Sx.GrowV Sx.TextV Sx.bytesL Sx.notInt Sx.typeAt Sx.argAt Sx.den Go.undef Go.Value.cells Go.Value.oneCell' Sx.Con.pure Sx.Con.some Sx.Con.read Sx.Con.make Sx.Con.ext Sx.Con.rel Sx.Con.extS Sx.Con.draw Sx.Con.step Sx.C.one Sx.Draws.steps

theorem l2ArgC_c (kind : Int) (R : Rdr) (p : Int) (cx : Cx) (mem : List Blk) (w : World) (hty : R.ty = 124) (hR : R.Is (factF cx) mem) (hp : 0 ≤ p) (hpc : p + 8 ≤ 1125899906842624) (hpre : True) (hm : MemRel cx (mem.set R.k (R.blk p)) w) :
    Calls Tryd.prog 108 ((.p R.k R.b 0 :: [.v (.int .i64 kind)] : List C).map den).toArray w fun e w' => ∃ cx' x mem', e = .returned (den x) ∧ MemRel cx' mem' w' ∧ (fun cx' x mem' => ∃ v p', x = .v v ∧ mem' = mem.set R.k (R.blk p') ∧ Le cx cx' ∧ p ≤ p' ∧ p' ≤ p + 8 ∧ (∃ k n q, v = .agg #[.int .i64 k, .int .i64 n, .int .i64 q])) cx' x mem' := by
  refine step_of_vcs ⟨[pickC, numC, sDevSizeC], []⟩ hmx Tryd.func108 rfl (by kernel_rfl) (args := .p R.k R.b 0 :: [.v (.int .i64 kind)]) (by simp [Tryd.ntmps108]) hm (fun cx' x mem' => ∃ v p', x = .v v ∧ mem' = mem.set R.k (R.blk p') ∧ Le cx cx' ∧ p ≤ p' ∧ p' ≤ p + 8 ∧ (∃ k n q, v = .agg #[.int .i64 k, .int .i64 n, .int .i64 q])) 400 ?_
  have hlt := hR.lt
  have hle := Le.refl cx
  have hs : devSize kind ≤ 64 := by unfold devSize; (repeat' split) <;> omega
  (repeat' first
    | (with_reducible refine EndK.left ?_
       refine ⟨_, _, rfl, rfl, (by assumption), by omega, by omega, ?_⟩; exact ⟨_, _, _, rfl⟩; done)
    | (with_reducible refine EndK.all ?_
       refine ⟨_, _, rfl, rfl, (by assumption), by omega, by omega, ?_⟩; exact ⟨_, _, _, rfl⟩; done)
    | (with_reducible refine pickC_at0 hR hty ?_ ?_ ?_ ?_
       · assumption
       · exact ⟨by omega, by omega⟩
       · omega
       rintro cx' _ p' hle - hp1 hp2 ⟨x, rfl, hx1, hx2⟩)
    | (with_reducible refine pickC_at hR hty ?_ ?_ ?_ ?_
       · assumption
       · exact ⟨by omega, by omega⟩
       · omega
       rintro cx' _ p' hle - hp1 hp2 ⟨x, rfl, hx1, hx2⟩)
    | (with_reducible refine numC_lit0 hR hty ?_ hl ?_ ?_ ?_ ?_ ?_ ?_
       · assumption
       · rfl
       · rfl
       · exact ⟨by omega, by omega⟩
       · decide
       · decide
       rintro cx' _ p' hle - hp1 hp2 ⟨x, rfl, hx⟩)
    | (with_reducible refine numC_lit hR hty ?_ hl ?_ ?_ ?_ ?_ ?_ ?_
       · assumption
       · rfl
       · rfl
       · exact ⟨by omega, by omega⟩
       · decide
       · decide
       rintro cx' _ p' hle - hp1 hp2 ⟨x, rfl, hx⟩)
    | (with_reducible refine fun cx' q (hle' : Le _ cx') (hl : RdL _ q _) => ?_
       have hle := Le.trans (by assumption) hle'; (try simp [Sx.get, Sx.look, Sx.put, cellsC, Value.cells, den] at hl))
    | with_reducible refine And.intro ?_ ?_
    | with_reducible intro _
    | omega
    | simp (maxSteps := 4000000) -dsimp [-List.all_eq_true, -Array.all_eq_true, -Bool.exists_bool, -Bool.forall_bool, and_assoc, List.zipIdx, Tryd.f108, pickC, numC, sDevSizeC, hlt])
def l2ArgC_S : Draws Tryd.prog 124 8 108 where
  ι := ((Int))
  A := fun (kind : ((Int))) => [.v (.int .i64 kind)]
  pre := fun (kind : ((Int))) (F : Facts) => True
  post := fun (kind : ((Int))) (v : Value) (F : Facts) => ∃ k n q, v = .agg #[.int .i64 k, .int .i64 n, .int .i64 q]
  mono := fun _ _ _ _ _ => trivial
  enter := Tryd.call108
  h := fun kind R p cx mem w h1 h2 h3 h4 h5 h6 => l2ArgC_c kind R p cx mem w h1 h2 h3 h4 h5 h6
def l2ArgC : Con Tryd.prog := Con.draw l2ArgC_S
theorem l2ArgC_at {kind : Int} {d : Nat} {R : Rdr} {cx0 cx : Cx} {mem0 : List Blk} {ex : List Blk} {K : Cx → C → List Blk → Prop} {p : Int} (hR : R.Is (factF cx0) mem0) (hty : R.ty = 124) (hle : Le cx0 cx) (hp : 0 ≤ p ∧ p + 8 ≤ 1125899906842624) (hpre : True)
    (h : ∀ cx' v p', Le cx0 cx' → Le cx cx' → p ≤ p' → p' ≤ p + 8 → (∃ k n q, v = .agg #[.int .i64 k, .int .i64 n, .int .i64 q]) → K cx' (.v v) (mem0.set R.k (R.blk p') ++ ex)) :
    DrawV d l2ArgC_S cx [.p R.k R.b 0, .v (.int .i64 kind)] (mem0.set R.k (R.blk p) ++ ex) K := DrawV.at (S := l2ArgC_S) hR hty hle kind hp hpre h
theorem l2ArgC_at0 {kind : Int} {d : Nat} {R : Rdr} {cx0 cx : Cx} {mem0 : List Blk} {K : Cx → C → List Blk → Prop} {p : Int} (hR : R.Is (factF cx0) mem0) (hty : R.ty = 124) (hle : Le cx0 cx) (hp : 0 ≤ p ∧ p + 8 ≤ 1125899906842624) (hpre : True)
    (h : ∀ cx' v p', Le cx0 cx' → Le cx cx' → p ≤ p' → p' ≤ p + 8 → (∃ k n q, v = .agg #[.int .i64 k, .int .i64 n, .int .i64 q]) → K cx' (.v v) (mem0.set R.k (R.blk p'))) :
    DrawV d l2ArgC_S cx [.p R.k R.b 0, .v (.int .i64 kind)] (mem0.set R.k (R.blk p)) K := DrawV.at0 (S := l2ArgC_S) hR hty hle kind hp hpre h
theorem l2SpoiltC_c (k n q : Int) (R : Rdr) (p : Int) (cx : Cx) (mem : List Blk) (w : World) (hty : R.ty = 124) (hR : R.Is (factF cx) mem) (hp : 0 ≤ p) (hpc : p + 4 ≤ 1125899906842624) (hpre : True) (hm : MemRel cx (mem.set R.k (R.blk p)) w) :
    Calls Tryd.prog 109 ((.p R.k R.b 0 :: [.v (.agg #[.int .i64 k, .int .i64 n, .int .i64 q])] : List C).map den).toArray w fun e w' => ∃ cx' x mem', e = .returned (den x) ∧ MemRel cx' mem' w' ∧ (fun cx' x mem' => ∃ v p', x = .v v ∧ mem' = mem.set R.k (R.blk p') ∧ Le cx cx' ∧ p ≤ p' ∧ p' ≤ p + 4 ∧ (∃ k n q, v = .agg #[.int .i64 k, .int .i64 n, .int .i64 q])) cx' x mem' := by
  refine step_of_vcs ⟨[pickC, numC, sDevSizeC], []⟩ hmx Tryd.func109 rfl (by kernel_rfl) (args := .p R.k R.b 0 :: [.v (.agg #[.int .i64 k, .int .i64 n, .int .i64 q])]) (by simp [Tryd.ntmps109]) hm (fun cx' x mem' => ∃ v p', x = .v v ∧ mem' = mem.set R.k (R.blk p') ∧ Le cx cx' ∧ p ≤ p' ∧ p' ≤ p + 4 ∧ (∃ k n q, v = .agg #[.int .i64 k, .int .i64 n, .int .i64 q])) 400 ?_
  have hlt := hR.lt
  have hle := Le.refl cx
  (repeat' first
    | (with_reducible refine EndK.left ?_
       refine ⟨_, _, rfl, rfl, (by assumption), by omega, by omega, ?_⟩; exact ⟨_, _, _, rfl⟩; done)
    | (with_reducible refine EndK.all ?_
       refine ⟨_, _, rfl, rfl, (by assumption), by omega, by omega, ?_⟩; exact ⟨_, _, _, rfl⟩; done)
    | (with_reducible refine pickC_at0 hR hty ?_ ?_ ?_ ?_
       · assumption
       · exact ⟨by omega, by omega⟩
       · omega
       rintro cx' _ p' hle - hp1 hp2 ⟨x, rfl, hx1, hx2⟩)
    | (with_reducible refine pickC_at hR hty ?_ ?_ ?_ ?_
       · assumption
       · exact ⟨by omega, by omega⟩
       · omega
       rintro cx' _ p' hle - hp1 hp2 ⟨x, rfl, hx1, hx2⟩)
    | (with_reducible refine numC_lit0 hR hty ?_ hl ?_ ?_ ?_ ?_ ?_ ?_
       · assumption
       · rfl
       · rfl
       · exact ⟨by omega, by omega⟩
       · decide
       · decide
       rintro cx' _ p' hle - hp1 hp2 ⟨x, rfl, hx⟩)
    | (with_reducible refine numC_lit hR hty ?_ hl ?_ ?_ ?_ ?_ ?_ ?_
       · assumption
       · rfl
       · rfl
       · exact ⟨by omega, by omega⟩
       · decide
       · decide
       rintro cx' _ p' hle - hp1 hp2 ⟨x, rfl, hx⟩)
    | (with_reducible refine fun cx' q (hle' : Le _ cx') (hl : RdL _ q _) => ?_
       have hle := Le.trans (by assumption) hle'; (try simp [Sx.get, Sx.look, Sx.put, cellsC, Value.cells, den] at hl))
    | with_reducible refine And.intro ?_ ?_
    | with_reducible intro _
    | omega
    | simp (maxSteps := 4000000) -dsimp [-List.all_eq_true, -Array.all_eq_true, -Bool.exists_bool, -Bool.forall_bool, and_assoc, List.zipIdx, Tryd.f109, pickC, numC, sDevSizeC, hlt])
def l2SpoiltC_S : Draws Tryd.prog 124 4 109 where
  ι := ((Int) × (Int) × (Int))
  A := fun (i : ((Int) × (Int) × (Int))) => match i with | (k, n, q) => [.v (.agg #[.int .i64 k, .int .i64 n, .int .i64 q])]
  pre := fun (i : ((Int) × (Int) × (Int))) (F : Facts) => match i with | (k, n, q) => True
  post := fun (i : ((Int) × (Int) × (Int))) (v : Value) (F : Facts) => match i with | (k, n, q) => ∃ k n q, v = .agg #[.int .i64 k, .int .i64 n, .int .i64 q]
  mono := fun _ _ _ _ _ => trivial
  enter := Tryd.call109
  h := fun i R p cx mem w h1 h2 h3 h4 h5 h6 => l2SpoiltC_c i.1 i.2.1 i.2.2 R p cx mem w h1 h2 h3 h4 h5 h6
def l2SpoiltC : Con Tryd.prog := Con.draw l2SpoiltC_S
theorem l2SpoiltC_at {k n q : Int} {d : Nat} {R : Rdr} {cx0 cx : Cx} {mem0 : List Blk} {ex : List Blk} {K : Cx → C → List Blk → Prop} {p : Int} (hR : R.Is (factF cx0) mem0) (hty : R.ty = 124) (hle : Le cx0 cx) (hp : 0 ≤ p ∧ p + 4 ≤ 1125899906842624) (hpre : True)
    (h : ∀ cx' v p', Le cx0 cx' → Le cx cx' → p ≤ p' → p' ≤ p + 4 → (∃ k n q, v = .agg #[.int .i64 k, .int .i64 n, .int .i64 q]) → K cx' (.v v) (mem0.set R.k (R.blk p') ++ ex)) :
    DrawV d l2SpoiltC_S cx [.p R.k R.b 0, .v (.agg #[.int .i64 k, .int .i64 n, .int .i64 q])] (mem0.set R.k (R.blk p) ++ ex) K := DrawV.at (S := l2SpoiltC_S) hR hty hle (k, n, q) hp hpre h
theorem l2SpoiltC_at0 {k n q : Int} {d : Nat} {R : Rdr} {cx0 cx : Cx} {mem0 : List Blk} {K : Cx → C → List Blk → Prop} {p : Int} (hR : R.Is (factF cx0) mem0) (hty : R.ty = 124) (hle : Le cx0 cx) (hp : 0 ≤ p ∧ p + 4 ≤ 1125899906842624) (hpre : True)
    (h : ∀ cx' v p', Le cx0 cx' → Le cx cx' → p ≤ p' → p' ≤ p + 4 → (∃ k n q, v = .agg #[.int .i64 k, .int .i64 n, .int .i64 q]) → K cx' (.v v) (mem0.set R.k (R.blk p'))) :
    DrawV d l2SpoiltC_S cx [.p R.k R.b 0, .v (.agg #[.int .i64 k, .int .i64 n, .int .i64 q])] (mem0.set R.k (R.blk p)) K := DrawV.at0 (S := l2SpoiltC_S) hR hty hle (k, n, q) hp hpre h
theorem l2AnyC_c  (R : Rdr) (p : Int) (cx : Cx) (mem : List Blk) (w : World) (hty : R.ty = 124) (hR : R.Is (factF cx) mem) (hp : 0 ≤ p) (hpc : p + 20 ≤ 1125899906842624) (hpre : True) (hm : MemRel cx (mem.set R.k (R.blk p)) w) :
    Calls Tryd.prog 86 ((.p R.k R.b 0 :: [] : List C).map den).toArray w fun e w' => ∃ cx' x mem', e = .returned (den x) ∧ MemRel cx' mem' w' ∧ (fun cx' x mem' => ∃ v p', x = .v v ∧ mem' = mem.set R.k (R.blk p') ∧ Le cx cx' ∧ p ≤ p' ∧ p' ≤ p + 20 ∧ (∃ k n q, v = .agg #[.int .i64 k, .int .i64 n, .int .i64 q])) cx' x mem' := by
  refine step_of_vcs ⟨[pickC, l2ArgC, l2SpoiltC], []⟩ hmx Tryd.func86 rfl (by kernel_rfl) (args := .p R.k R.b 0 :: []) (by simp [Tryd.ntmps86]) hm (fun cx' x mem' => ∃ v p', x = .v v ∧ mem' = mem.set R.k (R.blk p') ∧ Le cx cx' ∧ p ≤ p' ∧ p' ≤ p + 20 ∧ (∃ k n q, v = .agg #[.int .i64 k, .int .i64 n, .int .i64 q])) 400 ?_
  have hlt := hR.lt
  have hle := Le.refl cx
  (repeat' first
    | (with_reducible refine EndK.left ?_
       refine ⟨_, _, rfl, rfl, (by assumption), by omega, by omega, ?_⟩; exact ⟨_, _, _, rfl⟩; done)
    | (with_reducible refine EndK.all ?_
       refine ⟨_, _, rfl, rfl, (by assumption), by omega, by omega, ?_⟩; exact ⟨_, _, _, rfl⟩; done)
    | (with_reducible refine pickC_at0 hR hty ?_ ?_ ?_ ?_
       · assumption
       · exact ⟨by omega, by omega⟩
       · omega
       rintro cx' _ p' hle - hp1 hp2 ⟨x, rfl, hx1, hx2⟩)
    | (with_reducible refine pickC_at hR hty ?_ ?_ ?_ ?_
       · assumption
       · exact ⟨by omega, by omega⟩
       · omega
       rintro cx' _ p' hle - hp1 hp2 ⟨x, rfl, hx1, hx2⟩)
    | (with_reducible refine l2ArgC_at0 hR hty ?_ ?_ ?_ ?_
       · assumption
       · exact ⟨by omega, by omega⟩
       · trivial
       rintro cx' _ p' hle - hp1 hp2 ⟨ak, an, aq, rfl⟩)
    | (with_reducible refine l2ArgC_at hR hty ?_ ?_ ?_ ?_
       · assumption
       · exact ⟨by omega, by omega⟩
       · trivial
       rintro cx' _ p' hle - hp1 hp2 ⟨ak, an, aq, rfl⟩)
    | (with_reducible refine l2SpoiltC_at0 hR hty ?_ ?_ ?_ ?_
       · assumption
       · exact ⟨by omega, by omega⟩
       · trivial
       rintro cx' _ p' hle - hp1 hp2 ⟨ak, an, aq, rfl⟩)
    | (with_reducible refine l2SpoiltC_at hR hty ?_ ?_ ?_ ?_
       · assumption
       · exact ⟨by omega, by omega⟩
       · trivial
       rintro cx' _ p' hle - hp1 hp2 ⟨ak, an, aq, rfl⟩)
    | (with_reducible refine fun cx' q (hle' : Le _ cx') (hl : RdL _ q _) => ?_
       have hle := Le.trans (by assumption) hle'; (try simp [Sx.get, Sx.look, Sx.put, cellsC, Value.cells, den] at hl))
    | with_reducible refine And.intro ?_ ?_
    | with_reducible intro _
    | omega
    | simp (maxSteps := 4000000) -dsimp [-List.all_eq_true, -Array.all_eq_true, -Bool.exists_bool, -Bool.forall_bool, and_assoc, List.zipIdx, Tryd.f86, pickC, l2ArgC, l2SpoiltC, hlt])
def l2AnyC_S : Draws Tryd.prog 124 20 86 where
  ι := Unit
  A := fun (_u : Unit) => []
  pre := fun (_u : Unit) (F : Facts) => True
  post := fun (_u : Unit) (v : Value) (F : Facts) => ∃ k n q, v = .agg #[.int .i64 k, .int .i64 n, .int .i64 q]
  mono := fun _ _ _ _ _ => trivial
  enter := Tryd.call86
  h := fun _u R p cx mem w h1 h2 h3 h4 h5 h6 => l2AnyC_c  R p cx mem w h1 h2 h3 h4 h5 h6
def l2AnyC : Con Tryd.prog := Con.draw l2AnyC_S
theorem l2AnyC_at  {d : Nat} {R : Rdr} {cx0 cx : Cx} {mem0 : List Blk} {ex : List Blk} {K : Cx → C → List Blk → Prop} {p : Int} (hR : R.Is (factF cx0) mem0) (hty : R.ty = 124) (hle : Le cx0 cx) (hp : 0 ≤ p ∧ p + 20 ≤ 1125899906842624) (hpre : True)
    (h : ∀ cx' v p', Le cx0 cx' → Le cx cx' → p ≤ p' → p' ≤ p + 20 → (∃ k n q, v = .agg #[.int .i64 k, .int .i64 n, .int .i64 q]) → K cx' (.v v) (mem0.set R.k (R.blk p') ++ ex)) :
    DrawV d l2AnyC_S cx [.p R.k R.b 0] (mem0.set R.k (R.blk p) ++ ex) K := DrawV.at (S := l2AnyC_S) hR hty hle () hp hpre h
theorem l2AnyC_at0  {d : Nat} {R : Rdr} {cx0 cx : Cx} {mem0 : List Blk} {K : Cx → C → List Blk → Prop} {p : Int} (hR : R.Is (factF cx0) mem0) (hty : R.ty = 124) (hle : Le cx0 cx) (hp : 0 ≤ p ∧ p + 20 ≤ 1125899906842624) (hpre : True)
    (h : ∀ cx' v p', Le cx0 cx' → Le cx cx' → p ≤ p' → p' ≤ p + 20 → (∃ k n q, v = .agg #[.int .i64 k, .int .i64 n, .int .i64 q]) → K cx' (.v v) (mem0.set R.k (R.blk p'))) :
    DrawV d l2AnyC_S cx [.p R.k R.b 0] (mem0.set R.k (R.blk p)) K := DrawV.at0 (S := l2AnyC_S) hR hty hle () hp hpre h
end Go.Proofs.YtmlmmaojomghdaaDoor
namespace Go.Proofs.YtmlmmaojomghdaaDoor
open Go Go.Sx

end Go.Proofs.YtmlmmaojomghdaaDoor
namespace Go.Proofs.YtmlmmaojomghdaaDoor
open Go Go.Sx

end Go.Proofs.YtmlmmaojomghdaaDoor
namespace Go.Proofs.YtmlmmaojomghdaaDoor
open Go Go.Sx

end Go.Proofs.YtmlmmaojomghdaaDoor
