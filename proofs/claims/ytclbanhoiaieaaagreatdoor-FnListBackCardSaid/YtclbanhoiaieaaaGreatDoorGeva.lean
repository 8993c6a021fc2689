/-
  Contracts: contacts and coils that are spoilt, instructions that are drawn.
-/
import Derived.Test.YtclbanhoiaieaaaGreatDoorGava
import Derived.Test.YtclbanhoiaieaaaGreatDoorAva
import Derived.Test.YtclbanhoiaieaaaGreatDoorEvva
set_option linter.unusedVariables false
set_option linter.unusedSimpArgs false
set_option maxRecDepth 100000
set_option maxHeartbeats 4000000
namespace Go.Proofs.YtclbanhoiaieaaaGreatDoor
open Go Go.Sx
open List renaming all_eq_true → Y1, zipIdx → Y5
open Bool renaming exists_bool → Y3, forall_bool → Y4
attribute [local simp] Sx.vcsE1 Sx.vcsE2 Sx.vcsE3 Sx.vcsE4 Sx.vcsE5 Sx.vcsE6 Sx.vcsE7 Sx.vcsE8 Sx.vcsE9 Sx.vcsE10 Sx.vcsE11 Sx.vcsE12 Sx.vcsE13 Sx.vcsE14 Sx.vcsE15 Sx.vcsE16 Sx.vcsE17 Sx.vcsE18 Sx.vcsE19 Sx.get Sx.look Sx.put Sx.pureFn Sx.findOrd Sx.unF Sx.dstOk Sx.isFloatT Sx.endVC Sx.resFn Sx.packC Sx.newFn Sx.storeFn Sx.buildFn Sx.known Sx.aggT Sx.cellsC Sx.findCon Sx.allV Sx.partsV Sx.partsC Sx.fillL Sx.exitTo Sx.fAr Sx.eqFn Sx.eqFieldsFn Sx.eqElemsFn Sx.partFn Sx.sliceFn Sx.boundFn Sx.AppV Sx.CopyV Sx.MakeSliceV Sx.NewsV Sx.GrowV Sx.TextV Sx.bytesL Sx.notInt Sx.typeAt Sx.argAt Sx.den Go.undef Go.Value.cells Go.Value.oneCell' Sx.Con.pure Sx.Con.some Sx.Con.read Sx.Con.make Sx.Con.ext Sx.Con.rel Sx.Con.extS Sx.Con.draw Sx.Con.step Sx.C.one Sx.Draws.steps

theorem l2ArgC_c (kind : Int) (R : Rdr) (p : Int) (cx : Cx) (mem : List Blk) (w : World) (hty : R.ty = 160) (hR : R.Is (factF cx) mem) (hp : 0 ≤ p) (hpc : p + 8 ≤ 1125899906842624) (hpre : True) (hm : MemRel cx (mem.set R.k (R.blk p)) w) :
    Calls Tryz.prog 220 ((.p R.k R.b 0 :: [.v (.int .i64 kind)] : List C).map den).toArray w fun e w' => ∃ cx' x mem', e = .returned (den x) ∧ MemRel cx' mem' w' ∧ (fun cx' x mem' => ∃ v p', x = .v v ∧ mem' = mem.set R.k (R.blk p') ∧ Le cx cx' ∧ p ≤ p' ∧ p' ≤ p + 8 ∧ (∃ k n q, v = .agg #[.int .i64 k, .int .i64 n, .int .i64 q])) cx' x mem' := by
  refine step_of_vcs ⟨[pickC, numC, sDevSizeC], []⟩ hmx Tryz.func220 rfl (by kernel_rfl) (args := .p R.k R.b 0 :: [.v (.int .i64 kind)]) (by simp [Tryz.ntmps220]) hm (fun cx' x mem' => ∃ v p', x = .v v ∧ mem' = mem.set R.k (R.blk p') ∧ Le cx cx' ∧ p ≤ p' ∧ p' ≤ p + 8 ∧ (∃ k n q, v = .agg #[.int .i64 k, .int .i64 n, .int .i64 q])) 400 ?_
  have hlt := hR.lt
  have hle := Le.refl cx
  have hs : devSize kind ≤ 64 := by unfold devSize; (repeat' split) <;> omega
  (repeat' first
    | (with_reducible refine EndK.left ?_
       refine ⟨_, _, rfl, rfl, (by assumption), by omega, by omega, ?_⟩; exact ⟨_, _, _, rfl⟩; done)
    | (with_reducible refine EndK.all ?_
       refine ⟨_, _, rfl, rfl, (by assumption), by omega, by omega, ?_⟩; exact ⟨_, _, _, rfl⟩; done)
    | (with_reducible refine pickC_at0 hR hty ?_ ?_ ?_ ?_
       · assumption
       · exact ⟨by omega, by omega⟩
       · omega
       rintro cx' _ p' hle - hp1 hp2 ⟨x, rfl, hx1, hx2⟩)
    | (with_reducible refine pickC_at hR hty ?_ ?_ ?_ ?_
       · assumption
       · exact ⟨by omega, by omega⟩
       · omega
       rintro cx' _ p' hle - hp1 hp2 ⟨x, rfl, hx1, hx2⟩)
    | (with_reducible refine numC_lit0 hR hty ?_ hl ?_ ?_ ?_ ?_ ?_ ?_
       · assumption
       · rfl
       · rfl
       · exact ⟨by omega, by omega⟩
       · decide
       · decide
       rintro cx' _ p' hle - hp1 hp2 ⟨x, rfl, hx⟩)
    | (with_reducible refine numC_lit hR hty ?_ hl ?_ ?_ ?_ ?_ ?_ ?_
       · assumption
       · rfl
       · rfl
       · exact ⟨by omega, by omega⟩
       · decide
       · decide
       rintro cx' _ p' hle - hp1 hp2 ⟨x, rfl, hx⟩)
    | (with_reducible refine fun cx' q (hle' : Le _ cx') (hl : RdL _ q _) => ?_
       have hle := Le.trans (by assumption) hle'; (try simp [Sx.get, Sx.look, Sx.put, cellsC, Value.cells, den] at hl))
    | with_reducible refine And.intro ?_ ?_
    | with_reducible intro _
    | omega
    | simp (maxSteps := 4000000) -dsimp [-Y1, -Array.all_eq_true, -Y3, -Y4, and_assoc, Y5, Tryz.f220, pickC, numC, sDevSizeC, hlt])
def l2ArgC_S : Draws Tryz.prog 160 8 220 where
  ι := ((Int))
  A := fun (kind : ((Int))) => [.v (.int .i64 kind)]
  pre := fun (kind : ((Int))) (F : Facts) => True
  post := fun (kind : ((Int))) (v : Value) (F : Facts) => ∃ k n q, v = .agg #[.int .i64 k, .int .i64 n, .int .i64 q]
  mono := fun _ _ _ _ _ => trivial
  enter := Tryz.call220
  h := fun kind R p cx mem w h1 h2 h3 h4 h5 h6 => l2ArgC_c kind R p cx mem w h1 h2 h3 h4 h5 h6
def l2ArgC : Con Tryz.prog := Con.draw l2ArgC_S
theorem l2ArgC_at {kind : Int} {d : Nat} {R : Rdr} {cx0 cx : Cx} {mem0 : List Blk} {ex : List Blk} {K : Cx → C → List Blk → Prop} {p : Int} (hR : R.Is (factF cx0) mem0) (hty : R.ty = 160) (hle : Le cx0 cx) (hp : 0 ≤ p ∧ p + 8 ≤ 1125899906842624) (hpre : True)
    (h : ∀ cx' v p', Le cx0 cx' → Le cx cx' → p ≤ p' → p' ≤ p + 8 → (∃ k n q, v = .agg #[.int .i64 k, .int .i64 n, .int .i64 q]) → K cx' (.v v) (mem0.set R.k (R.blk p') ++ ex)) :
    DrawV d l2ArgC_S cx [.p R.k R.b 0, .v (.int .i64 kind)] (mem0.set R.k (R.blk p) ++ ex) K := DrawV.at (S := l2ArgC_S) hR hty hle kind hp hpre h
theorem l2ArgC_at0 {kind : Int} {d : Nat} {R : Rdr} {cx0 cx : Cx} {mem0 : List Blk} {K : Cx → C → List Blk → Prop} {p : Int} (hR : R.Is (factF cx0) mem0) (hty : R.ty = 160) (hle : Le cx0 cx) (hp : 0 ≤ p ∧ p + 8 ≤ 1125899906842624) (hpre : True)
    (h : ∀ cx' v p', Le cx0 cx' → Le cx cx' → p ≤ p' → p' ≤ p + 8 → (∃ k n q, v = .agg #[.int .i64 k, .int .i64 n, .int .i64 q]) → K cx' (.v v) (mem0.set R.k (R.blk p'))) :
    DrawV d l2ArgC_S cx [.p R.k R.b 0, .v (.int .i64 kind)] (mem0.set R.k (R.blk p)) K := DrawV.at0 (S := l2ArgC_S) hR hty hle kind hp hpre h
theorem l2SpoiltC_c (k n q : Int) (R : Rdr) (p : Int) (cx : Cx) (mem : List Blk) (w : World) (hty : R.ty = 160) (hR : R.Is (factF cx) mem) (hp : 0 ≤ p) (hpc : p + 4 ≤ 1125899906842624) (hpre : True) (hm : MemRel cx (mem.set R.k (R.blk p)) w) :
    Calls Tryz.prog 224 ((.p R.k R.b 0 :: [.v (.agg #[.int .i64 k, .int .i64 n, .int .i64 q])] : List C).map den).toArray w fun e w' => ∃ cx' x mem', e = .returned (den x) ∧ MemRel cx' mem' w' ∧ (fun cx' x mem' => ∃ v p', x = .v v ∧ mem' = mem.set R.k (R.blk p') ∧ Le cx cx' ∧ p ≤ p' ∧ p' ≤ p + 4 ∧ (∃ k n q, v = .agg #[.int .i64 k, .int .i64 n, .int .i64 q])) cx' x mem' := by
  refine step_of_vcs ⟨[pickC, numC, sDevSizeC], []⟩ hmx Tryz.func224 rfl (by kernel_rfl) (args := .p R.k R.b 0 :: [.v (.agg #[.int .i64 k, .int .i64 n, .int .i64 q])]) (by simp [Tryz.ntmps224]) hm (fun cx' x mem' => ∃ v p', x = .v v ∧ mem' = mem.set R.k (R.blk p') ∧ Le cx cx' ∧ p ≤ p' ∧ p' ≤ p + 4 ∧ (∃ k n q, v = .agg #[.int .i64 k, .int .i64 n, .int .i64 q])) 400 ?_
  have hlt := hR.lt
  have hle := Le.refl cx
  (repeat' first
    | (with_reducible refine EndK.left ?_
       refine ⟨_, _, rfl, rfl, (by assumption), by omega, by omega, ?_⟩; exact ⟨_, _, _, rfl⟩; done)
    | (with_reducible refine EndK.all ?_
       refine ⟨_, _, rfl, rfl, (by assumption), by omega, by omega, ?_⟩; exact ⟨_, _, _, rfl⟩; done)
    | (with_reducible refine pickC_at0 hR hty ?_ ?_ ?_ ?_
       · assumption
       · exact ⟨by omega, by omega⟩
       · omega
       rintro cx' _ p' hle - hp1 hp2 ⟨x, rfl, hx1, hx2⟩)
    | (with_reducible refine pickC_at hR hty ?_ ?_ ?_ ?_
       · assumption
       · exact ⟨by omega, by omega⟩
       · omega
       rintro cx' _ p' hle - hp1 hp2 ⟨x, rfl, hx1, hx2⟩)
    | (with_reducible refine numC_lit0 hR hty ?_ hl ?_ ?_ ?_ ?_ ?_ ?_
       · assumption
       · rfl
       · rfl
       · exact ⟨by omega, by omega⟩
       · decide
       · decide
       rintro cx' _ p' hle - hp1 hp2 ⟨x, rfl, hx⟩)
    | (with_reducible refine numC_lit hR hty ?_ hl ?_ ?_ ?_ ?_ ?_ ?_
       · assumption
       · rfl
       · rfl
       · exact ⟨by omega, by omega⟩
       · decide
       · decide
       rintro cx' _ p' hle - hp1 hp2 ⟨x, rfl, hx⟩)
    | (with_reducible refine fun cx' q (hle' : Le _ cx') (hl : RdL _ q _) => ?_
       have hle := Le.trans (by assumption) hle'; (try simp [Sx.get, Sx.look, Sx.put, cellsC, Value.cells, den] at hl))
    | with_reducible refine And.intro ?_ ?_
    | with_reducible intro _
    | omega
    | simp (maxSteps := 4000000) -dsimp [-Y1, -Array.all_eq_true, -Y3, -Y4, and_assoc, Y5, Tryz.f224, pickC, numC, sDevSizeC, hlt])
def l2SpoiltC_S : Draws Tryz.prog 160 4 224 where
  ι := ((Int) × (Int) × (Int))
  A := fun (i : ((Int) × (Int) × (Int))) => match i with | (k, n, q) => [.v (.agg #[.int .i64 k, .int .i64 n, .int .i64 q])]
  pre := fun (i : ((Int) × (Int) × (Int))) (F : Facts) => match i with | (k, n, q) => True
  post := fun (i : ((Int) × (Int) × (Int))) (v : Value) (F : Facts) => match i with | (k, n, q) => ∃ k n q, v = .agg #[.int .i64 k, .int .i64 n, .int .i64 q]
  mono := fun _ _ _ _ _ => trivial
  enter := Tryz.call224
  h := fun i R p cx mem w h1 h2 h3 h4 h5 h6 => l2SpoiltC_c i.1 i.2.1 i.2.2 R p cx mem w h1 h2 h3 h4 h5 h6
def l2SpoiltC : Con Tryz.prog := Con.draw l2SpoiltC_S
theorem l2SpoiltC_at {k n q : Int} {d : Nat} {R : Rdr} {cx0 cx : Cx} {mem0 : List Blk} {ex : List Blk} {K : Cx → C → List Blk → Prop} {p : Int} (hR : R.Is (factF cx0) mem0) (hty : R.ty = 160) (hle : Le cx0 cx) (hp : 0 ≤ p ∧ p + 4 ≤ 1125899906842624) (hpre : True)
    (h : ∀ cx' v p', Le cx0 cx' → Le cx cx' → p ≤ p' → p' ≤ p + 4 → (∃ k n q, v = .agg #[.int .i64 k, .int .i64 n, .int .i64 q]) → K cx' (.v v) (mem0.set R.k (R.blk p') ++ ex)) :
    DrawV d l2SpoiltC_S cx [.p R.k R.b 0, .v (.agg #[.int .i64 k, .int .i64 n, .int .i64 q])] (mem0.set R.k (R.blk p) ++ ex) K := DrawV.at (S := l2SpoiltC_S) hR hty hle (k, n, q) hp hpre h
theorem l2SpoiltC_at0 {k n q : Int} {d : Nat} {R : Rdr} {cx0 cx : Cx} {mem0 : List Blk} {K : Cx → C → List Blk → Prop} {p : Int} (hR : R.Is (factF cx0) mem0) (hty : R.ty = 160) (hle : Le cx0 cx) (hp : 0 ≤ p ∧ p + 4 ≤ 1125899906842624) (hpre : True)
    (h : ∀ cx' v p', Le cx0 cx' → Le cx cx' → p ≤ p' → p' ≤ p + 4 → (∃ k n q, v = .agg #[.int .i64 k, .int .i64 n, .int .i64 q]) → K cx' (.v v) (mem0.set R.k (R.blk p'))) :
    DrawV d l2SpoiltC_S cx [.p R.k R.b 0, .v (.agg #[.int .i64 k, .int .i64 n, .int .i64 q])] (mem0.set R.k (R.blk p)) K := DrawV.at0 (S := l2SpoiltC_S) hR hty hle (k, n, q) hp hpre h
theorem l2AnyC_c  (R : Rdr) (p : Int) (cx : Cx) (mem : List Blk) (w : World) (hty : R.ty = 160) (hR : R.Is (factF cx) mem) (hp : 0 ≤ p) (hpc : p + 20 ≤ 1125899906842624) (hpre : True) (hm : MemRel cx (mem.set R.k (R.blk p)) w) :
    Calls Tryz.prog 223 ((.p R.k R.b 0 :: [] : List C).map den).toArray w fun e w' => ∃ cx' x mem', e = .returned (den x) ∧ MemRel cx' mem' w' ∧ (fun cx' x mem' => ∃ v p', x = .v v ∧ mem' = mem.set R.k (R.blk p') ∧ Le cx cx' ∧ p ≤ p' ∧ p' ≤ p + 20 ∧ (∃ k n q, v = .agg #[.int .i64 k, .int .i64 n, .int .i64 q])) cx' x mem' := by
  refine step_of_vcs ⟨[pickC, l2ArgC, l2SpoiltC], []⟩ hmx Tryz.func223 rfl (by kernel_rfl) (args := .p R.k R.b 0 :: []) (by simp [Tryz.ntmps223]) hm (fun cx' x mem' => ∃ v p', x = .v v ∧ mem' = mem.set R.k (R.blk p') ∧ Le cx cx' ∧ p ≤ p' ∧ p' ≤ p + 20 ∧ (∃ k n q, v = .agg #[.int .i64 k, .int .i64 n, .int .i64 q])) 400 ?_
  have hlt := hR.lt
  have hle := Le.refl cx
  (repeat' first
    | (with_reducible refine EndK.left ?_
       refine ⟨_, _, rfl, rfl, (by assumption), by omega, by omega, ?_⟩; exact ⟨_, _, _, rfl⟩; done)
    | (with_reducible refine EndK.all ?_
       refine ⟨_, _, rfl, rfl, (by assumption), by omega, by omega, ?_⟩; exact ⟨_, _, _, rfl⟩; done)
    | (with_reducible refine pickC_at0 hR hty ?_ ?_ ?_ ?_
       · assumption
       · exact ⟨by omega, by omega⟩
       · omega
       rintro cx' _ p' hle - hp1 hp2 ⟨x, rfl, hx1, hx2⟩)
    | (with_reducible refine pickC_at hR hty ?_ ?_ ?_ ?_
       · assumption
       · exact ⟨by omega, by omega⟩
       · omega
       rintro cx' _ p' hle - hp1 hp2 ⟨x, rfl, hx1, hx2⟩)
    | (with_reducible refine l2ArgC_at0 hR hty ?_ ?_ ?_ ?_
       · assumption
       · exact ⟨by omega, by omega⟩
       · trivial
       rintro cx' _ p' hle - hp1 hp2 ⟨ak, an, aq, rfl⟩)
    | (with_reducible refine l2ArgC_at hR hty ?_ ?_ ?_ ?_
       · assumption
       · exact ⟨by omega, by omega⟩
       · trivial
       rintro cx' _ p' hle - hp1 hp2 ⟨ak, an, aq, rfl⟩)
    | (with_reducible refine l2SpoiltC_at0 hR hty ?_ ?_ ?_ ?_
       · assumption
       · exact ⟨by omega, by omega⟩
       · trivial
       rintro cx' _ p' hle - hp1 hp2 ⟨ak, an, aq, rfl⟩)
    | (with_reducible refine l2SpoiltC_at hR hty ?_ ?_ ?_ ?_
       · assumption
       · exact ⟨by omega, by omega⟩
       · trivial
       rintro cx' _ p' hle - hp1 hp2 ⟨ak, an, aq, rfl⟩)
    | (with_reducible refine fun cx' q (hle' : Le _ cx') (hl : RdL _ q _) => ?_
       have hle := Le.trans (by assumption) hle'; (try simp [Sx.get, Sx.look, Sx.put, cellsC, Value.cells, den] at hl))
    | with_reducible refine And.intro ?_ ?_
    | with_reducible intro _
    | omega
    | simp (maxSteps := 4000000) -dsimp [-Y1, -Array.all_eq_true, -Y3, -Y4, and_assoc, Y5, Tryz.f223, pickC, l2ArgC, l2SpoiltC, hlt])
def l2AnyC_S : Draws Tryz.prog 160 20 223 where
  ι := Unit
  A := fun (_u : Unit) => []
  pre := fun (_u : Unit) (F : Facts) => True
  post := fun (_u : Unit) (v : Value) (F : Facts) => ∃ k n q, v = .agg #[.int .i64 k, .int .i64 n, .int .i64 q]
  mono := fun _ _ _ _ _ => trivial
  enter := Tryz.call223
  h := fun _u R p cx mem w h1 h2 h3 h4 h5 h6 => l2AnyC_c  R p cx mem w h1 h2 h3 h4 h5 h6
def l2AnyC : Con Tryz.prog := Con.draw l2AnyC_S
theorem l2AnyC_at  {d : Nat} {R : Rdr} {cx0 cx : Cx} {mem0 : List Blk} {ex : List Blk} {K : Cx → C → List Blk → Prop} {p : Int} (hR : R.Is (factF cx0) mem0) (hty : R.ty = 160) (hle : Le cx0 cx) (hp : 0 ≤ p ∧ p + 20 ≤ 1125899906842624) (hpre : True)
    (h : ∀ cx' v p', Le cx0 cx' → Le cx cx' → p ≤ p' → p' ≤ p + 20 → (∃ k n q, v = .agg #[.int .i64 k, .int .i64 n, .int .i64 q]) → K cx' (.v v) (mem0.set R.k (R.blk p') ++ ex)) :
    DrawV d l2AnyC_S cx [.p R.k R.b 0] (mem0.set R.k (R.blk p) ++ ex) K := DrawV.at (S := l2AnyC_S) hR hty hle () hp hpre h
theorem l4BitC_c  (R : Rdr) (p : Int) (cx : Cx) (mem : List Blk) (w : World) (hty : R.ty = 160) (hR : R.Is (factF cx) mem) (hp : 0 ≤ p) (hpc : p + 12 ≤ 1125899906842624) (hpre : True) (hm : MemRel cx (mem.set R.k (R.blk p)) w) :
    Calls Tryz.prog 219 ((.p R.k R.b 0 :: [] : List C).map den).toArray w fun e w' => ∃ cx' x mem', e = .returned (den x) ∧ MemRel cx' mem' w' ∧ (fun cx' x mem' => ∃ v p', x = .v v ∧ mem' = mem.set R.k (R.blk p') ∧ Le cx cx' ∧ p ≤ p' ∧ p' ≤ p + 12 ∧ (∃ k n q, v = .agg #[.int .i64 k, .int .i64 n, .int .i64 q])) cx' x mem' := by
  refine step_of_vcs ⟨[numC, l2ArgC], []⟩ hmx Tryz.func219 rfl (by kernel_rfl) (args := .p R.k R.b 0 :: []) (by simp [Tryz.ntmps219]) hm (fun cx' x mem' => ∃ v p', x = .v v ∧ mem' = mem.set R.k (R.blk p') ∧ Le cx cx' ∧ p ≤ p' ∧ p' ≤ p + 12 ∧ (∃ k n q, v = .agg #[.int .i64 k, .int .i64 n, .int .i64 q])) 400 ?_
  have hlt := hR.lt
  have hle := Le.refl cx
  (repeat' first
    | (with_reducible refine EndK.left ?_
       refine ⟨_, _, rfl, rfl, (by assumption), by omega, by omega, ?_⟩; exact ⟨_, _, _, rfl⟩; done)
    | (with_reducible refine EndK.all ?_
       refine ⟨_, _, rfl, rfl, (by assumption), by omega, by omega, ?_⟩; exact ⟨_, _, _, rfl⟩; done)
    | (with_reducible refine numC_lit0 hR hty ?_ hl ?_ ?_ ?_ ?_ ?_ ?_
       · assumption
       · rfl
       · rfl
       · exact ⟨by omega, by omega⟩
       · decide
       · decide
       rintro cx' _ p' hle - hp1 hp2 ⟨x, rfl, hx⟩)
    | (with_reducible refine numC_lit hR hty ?_ hl ?_ ?_ ?_ ?_ ?_ ?_
       · assumption
       · rfl
       · rfl
       · exact ⟨by omega, by omega⟩
       · decide
       · decide
       rintro cx' _ p' hle - hp1 hp2 ⟨x, rfl, hx⟩)
    | (with_reducible refine l2ArgC_at0 hR hty ?_ ?_ ?_ ?_
       · assumption
       · exact ⟨by omega, by omega⟩
       · trivial
       rintro cx' _ p' hle - hp1 hp2 ⟨ak, an, aq, rfl⟩)
    | (with_reducible refine l2ArgC_at hR hty ?_ ?_ ?_ ?_
       · assumption
       · exact ⟨by omega, by omega⟩
       · trivial
       rintro cx' _ p' hle - hp1 hp2 ⟨ak, an, aq, rfl⟩)
    | (with_reducible refine fun cx' q (hle' : Le _ cx') (hl : RdL _ q _) => ?_
       have hle := Le.trans (by assumption) hle'; (try simp [Sx.get, Sx.look, Sx.put, cellsC, Value.cells, den] at hl))
    | with_reducible refine And.intro ?_ ?_
    | with_reducible intro _
    | omega
    | simp (maxSteps := 4000000) -dsimp [-Y1, -Array.all_eq_true, -Y3, -Y4, and_assoc, Y5, Tryz.f219, numC, l2ArgC, hlt])
def l4BitC_S : Draws Tryz.prog 160 12 219 where
  ι := Unit
  A := fun (_u : Unit) => []
  pre := fun (_u : Unit) (F : Facts) => True
  post := fun (_u : Unit) (v : Value) (F : Facts) => ∃ k n q, v = .agg #[.int .i64 k, .int .i64 n, .int .i64 q]
  mono := fun _ _ _ _ _ => trivial
  enter := Tryz.call219
  h := fun _u R p cx mem w h1 h2 h3 h4 h5 h6 => l4BitC_c  R p cx mem w h1 h2 h3 h4 h5 h6
def l4BitC : Con Tryz.prog := Con.draw l4BitC_S
theorem l4BitC_at  {d : Nat} {R : Rdr} {cx0 cx : Cx} {mem0 : List Blk} {ex : List Blk} {K : Cx → C → List Blk → Prop} {p : Int} (hR : R.Is (factF cx0) mem0) (hty : R.ty = 160) (hle : Le cx0 cx) (hp : 0 ≤ p ∧ p + 12 ≤ 1125899906842624) (hpre : True)
    (h : ∀ cx' v p', Le cx0 cx' → Le cx cx' → p ≤ p' → p' ≤ p + 12 → (∃ k n q, v = .agg #[.int .i64 k, .int .i64 n, .int .i64 q]) → K cx' (.v v) (mem0.set R.k (R.blk p') ++ ex)) :
    DrawV d l4BitC_S cx [.p R.k R.b 0] (mem0.set R.k (R.blk p) ++ ex) K := DrawV.at (S := l4BitC_S) hR hty hle () hp hpre h
theorem l4BitC_at0  {d : Nat} {R : Rdr} {cx0 cx : Cx} {mem0 : List Blk} {K : Cx → C → List Blk → Prop} {p : Int} (hR : R.Is (factF cx0) mem0) (hty : R.ty = 160) (hle : Le cx0 cx) (hp : 0 ≤ p ∧ p + 12 ≤ 1125899906842624) (hpre : True)
    (h : ∀ cx' v p', Le cx0 cx' → Le cx cx' → p ≤ p' → p' ≤ p + 12 → (∃ k n q, v = .agg #[.int .i64 k, .int .i64 n, .int .i64 q]) → K cx' (.v v) (mem0.set R.k (R.blk p'))) :
    DrawV d l4BitC_S cx [.p R.k R.b 0] (mem0.set R.k (R.blk p)) K := DrawV.at0 (S := l4BitC_S) hR hty hle () hp hpre h
theorem l4WholeC_c  (R : Rdr) (p : Int) (cx : Cx) (mem : List Blk) (w : World) (hty : R.ty = 160) (hR : R.Is (factF cx) mem) (hp : 0 ≤ p) (hpc : p + 12 ≤ 1125899906842624) (hpre : True) (hm : MemRel cx (mem.set R.k (R.blk p)) w) :
    Calls Tryz.prog 221 ((.p R.k R.b 0 :: [] : List C).map den).toArray w fun e w' => ∃ cx' x mem', e = .returned (den x) ∧ MemRel cx' mem' w' ∧ (fun cx' x mem' => ∃ v p', x = .v v ∧ mem' = mem.set R.k (R.blk p') ∧ Le cx cx' ∧ p ≤ p' ∧ p' ≤ p + 12 ∧ (∃ k n q, v = .agg #[.int .i64 k, .int .i64 n, .int .i64 q])) cx' x mem' := by
  refine step_of_vcs ⟨[numC, l2ArgC], []⟩ hmx Tryz.func221 rfl (by kernel_rfl) (args := .p R.k R.b 0 :: []) (by simp [Tryz.ntmps221]) hm (fun cx' x mem' => ∃ v p', x = .v v ∧ mem' = mem.set R.k (R.blk p') ∧ Le cx cx' ∧ p ≤ p' ∧ p' ≤ p + 12 ∧ (∃ k n q, v = .agg #[.int .i64 k, .int .i64 n, .int .i64 q])) 400 ?_
  have hlt := hR.lt
  have hle := Le.refl cx
  (repeat' first
    | (with_reducible refine EndK.left ?_
       refine ⟨_, _, rfl, rfl, (by assumption), by omega, by omega, ?_⟩; exact ⟨_, _, _, rfl⟩; done)
    | (with_reducible refine EndK.all ?_
       refine ⟨_, _, rfl, rfl, (by assumption), by omega, by omega, ?_⟩; exact ⟨_, _, _, rfl⟩; done)
    | (with_reducible refine numC_lit0 hR hty ?_ hl ?_ ?_ ?_ ?_ ?_ ?_
       · assumption
       · rfl
       · rfl
       · exact ⟨by omega, by omega⟩
       · decide
       · decide
       rintro cx' _ p' hle - hp1 hp2 ⟨x, rfl, hx⟩)
    | (with_reducible refine numC_lit hR hty ?_ hl ?_ ?_ ?_ ?_ ?_ ?_
       · assumption
       · rfl
       · rfl
       · exact ⟨by omega, by omega⟩
       · decide
       · decide
       rintro cx' _ p' hle - hp1 hp2 ⟨x, rfl, hx⟩)
    | (with_reducible refine l2ArgC_at0 hR hty ?_ ?_ ?_ ?_
       · assumption
       · exact ⟨by omega, by omega⟩
       · trivial
       rintro cx' _ p' hle - hp1 hp2 ⟨ak, an, aq, rfl⟩)
    | (with_reducible refine l2ArgC_at hR hty ?_ ?_ ?_ ?_
       · assumption
       · exact ⟨by omega, by omega⟩
       · trivial
       rintro cx' _ p' hle - hp1 hp2 ⟨ak, an, aq, rfl⟩)
    | (with_reducible refine fun cx' q (hle' : Le _ cx') (hl : RdL _ q _) => ?_
       have hle := Le.trans (by assumption) hle'; (try simp [Sx.get, Sx.look, Sx.put, cellsC, Value.cells, den] at hl))
    | with_reducible refine And.intro ?_ ?_
    | with_reducible intro _
    | omega
    | simp (maxSteps := 4000000) -dsimp [-Y1, -Array.all_eq_true, -Y3, -Y4, and_assoc, Y5, Tryz.f221, numC, l2ArgC, hlt])
def l4WholeC_S : Draws Tryz.prog 160 12 221 where
  ι := Unit
  A := fun (_u : Unit) => []
  pre := fun (_u : Unit) (F : Facts) => True
  post := fun (_u : Unit) (v : Value) (F : Facts) => ∃ k n q, v = .agg #[.int .i64 k, .int .i64 n, .int .i64 q]
  mono := fun _ _ _ _ _ => trivial
  enter := Tryz.call221
  h := fun _u R p cx mem w h1 h2 h3 h4 h5 h6 => l4WholeC_c  R p cx mem w h1 h2 h3 h4 h5 h6
def l4WholeC : Con Tryz.prog := Con.draw l4WholeC_S
theorem l4WholeC_at  {d : Nat} {R : Rdr} {cx0 cx : Cx} {mem0 : List Blk} {ex : List Blk} {K : Cx → C → List Blk → Prop} {p : Int} (hR : R.Is (factF cx0) mem0) (hty : R.ty = 160) (hle : Le cx0 cx) (hp : 0 ≤ p ∧ p + 12 ≤ 1125899906842624) (hpre : True)
    (h : ∀ cx' v p', Le cx0 cx' → Le cx cx' → p ≤ p' → p' ≤ p + 12 → (∃ k n q, v = .agg #[.int .i64 k, .int .i64 n, .int .i64 q]) → K cx' (.v v) (mem0.set R.k (R.blk p') ++ ex)) :
    DrawV d l4WholeC_S cx [.p R.k R.b 0] (mem0.set R.k (R.blk p) ++ ex) K := DrawV.at (S := l4WholeC_S) hR hty hle () hp hpre h
theorem l4WholeC_at0  {d : Nat} {R : Rdr} {cx0 cx : Cx} {mem0 : List Blk} {K : Cx → C → List Blk → Prop} {p : Int} (hR : R.Is (factF cx0) mem0) (hty : R.ty = 160) (hle : Le cx0 cx) (hp : 0 ≤ p ∧ p + 12 ≤ 1125899906842624) (hpre : True)
    (h : ∀ cx' v p', Le cx0 cx' → Le cx cx' → p ≤ p' → p' ≤ p + 12 → (∃ k n q, v = .agg #[.int .i64 k, .int .i64 n, .int .i64 q]) → K cx' (.v v) (mem0.set R.k (R.blk p'))) :
    DrawV d l4WholeC_S cx [.p R.k R.b 0] (mem0.set R.k (R.blk p)) K := DrawV.at0 (S := l4WholeC_S) hR hty hle () hp hpre h
theorem l4RealC_c  (R : Rdr) (p : Int) (cx : Cx) (mem : List Blk) (w : World) (hty : R.ty = 160) (hR : R.Is (factF cx) mem) (hp : 0 ≤ p) (hpc : p + 12 ≤ 1125899906842624) (hpre : True) (hm : MemRel cx (mem.set R.k (R.blk p)) w) :
    Calls Tryz.prog 222 ((.p R.k R.b 0 :: [] : List C).map den).toArray w fun e w' => ∃ cx' x mem', e = .returned (den x) ∧ MemRel cx' mem' w' ∧ (fun cx' x mem' => ∃ v p', x = .v v ∧ mem' = mem.set R.k (R.blk p') ∧ Le cx cx' ∧ p ≤ p' ∧ p' ≤ p + 12 ∧ (∃ k n q, v = .agg #[.int .i64 k, .int .i64 n, .int .i64 q])) cx' x mem' := by
  refine step_of_vcs ⟨[numC, l2ArgC], []⟩ hmx Tryz.func222 rfl (by kernel_rfl) (args := .p R.k R.b 0 :: []) (by simp [Tryz.ntmps222]) hm (fun cx' x mem' => ∃ v p', x = .v v ∧ mem' = mem.set R.k (R.blk p') ∧ Le cx cx' ∧ p ≤ p' ∧ p' ≤ p + 12 ∧ (∃ k n q, v = .agg #[.int .i64 k, .int .i64 n, .int .i64 q])) 400 ?_
  have hlt := hR.lt
  have hle := Le.refl cx
  (repeat' first
    | (with_reducible refine EndK.left ?_
       refine ⟨_, _, rfl, rfl, (by assumption), by omega, by omega, ?_⟩; exact ⟨_, _, _, rfl⟩; done)
    | (with_reducible refine EndK.all ?_
       refine ⟨_, _, rfl, rfl, (by assumption), by omega, by omega, ?_⟩; exact ⟨_, _, _, rfl⟩; done)
    | (with_reducible refine numC_lit0 hR hty ?_ hl ?_ ?_ ?_ ?_ ?_ ?_
       · assumption
       · rfl
       · rfl
       · exact ⟨by omega, by omega⟩
       · decide
       · decide
       rintro cx' _ p' hle - hp1 hp2 ⟨x, rfl, hx⟩)
    | (with_reducible refine numC_lit hR hty ?_ hl ?_ ?_ ?_ ?_ ?_ ?_
       · assumption
       · rfl
       · rfl
       · exact ⟨by omega, by omega⟩
       · decide
       · decide
       rintro cx' _ p' hle - hp1 hp2 ⟨x, rfl, hx⟩)
    | (with_reducible refine l2ArgC_at0 hR hty ?_ ?_ ?_ ?_
       · assumption
       · exact ⟨by omega, by omega⟩
       · trivial
       rintro cx' _ p' hle - hp1 hp2 ⟨ak, an, aq, rfl⟩)
    | (with_reducible refine l2ArgC_at hR hty ?_ ?_ ?_ ?_
       · assumption
       · exact ⟨by omega, by omega⟩
       · trivial
       rintro cx' _ p' hle - hp1 hp2 ⟨ak, an, aq, rfl⟩)
    | (with_reducible refine fun cx' q (hle' : Le _ cx') (hl : RdL _ q _) => ?_
       have hle := Le.trans (by assumption) hle'; (try simp [Sx.get, Sx.look, Sx.put, cellsC, Value.cells, den] at hl))
    | with_reducible refine And.intro ?_ ?_
    | with_reducible intro _
    | omega
    | simp (maxSteps := 4000000) -dsimp [-Y1, -Array.all_eq_true, -Y3, -Y4, and_assoc, Y5, Tryz.f222, numC, l2ArgC, hlt])
def l4RealC_S : Draws Tryz.prog 160 12 222 where
  ι := Unit
  A := fun (_u : Unit) => []
  pre := fun (_u : Unit) (F : Facts) => True
  post := fun (_u : Unit) (v : Value) (F : Facts) => ∃ k n q, v = .agg #[.int .i64 k, .int .i64 n, .int .i64 q]
  mono := fun _ _ _ _ _ => trivial
  enter := Tryz.call222
  h := fun _u R p cx mem w h1 h2 h3 h4 h5 h6 => l4RealC_c  R p cx mem w h1 h2 h3 h4 h5 h6
def l4RealC : Con Tryz.prog := Con.draw l4RealC_S
theorem l4RealC_at  {d : Nat} {R : Rdr} {cx0 cx : Cx} {mem0 : List Blk} {ex : List Blk} {K : Cx → C → List Blk → Prop} {p : Int} (hR : R.Is (factF cx0) mem0) (hty : R.ty = 160) (hle : Le cx0 cx) (hp : 0 ≤ p ∧ p + 12 ≤ 1125899906842624) (hpre : True)
    (h : ∀ cx' v p', Le cx0 cx' → Le cx cx' → p ≤ p' → p' ≤ p + 12 → (∃ k n q, v = .agg #[.int .i64 k, .int .i64 n, .int .i64 q]) → K cx' (.v v) (mem0.set R.k (R.blk p') ++ ex)) :
    DrawV d l4RealC_S cx [.p R.k R.b 0] (mem0.set R.k (R.blk p) ++ ex) K := DrawV.at (S := l4RealC_S) hR hty hle () hp hpre h
theorem l4RealC_at0  {d : Nat} {R : Rdr} {cx0 cx : Cx} {mem0 : List Blk} {K : Cx → C → List Blk → Prop} {p : Int} (hR : R.Is (factF cx0) mem0) (hty : R.ty = 160) (hle : Le cx0 cx) (hp : 0 ≤ p ∧ p + 12 ≤ 1125899906842624) (hpre : True)
    (h : ∀ cx' v p', Le cx0 cx' → Le cx cx' → p ≤ p' → p' ≤ p + 12 → (∃ k n q, v = .agg #[.int .i64 k, .int .i64 n, .int .i64 q]) → K cx' (.v v) (mem0.set R.k (R.blk p'))) :
    DrawV d l4RealC_S cx [.p R.k R.b 0] (mem0.set R.k (R.blk p)) K := DrawV.at0 (S := l4RealC_S) hR hty hle () hp hpre h

def devsOf : List Value → List Dev
  | .int _ k :: .int _ n :: .int _ p :: r => ⟨k, n, p⟩ :: devsOf r
  | _ => []
theorem elem_take {cx : Cx} {q : Option Addr} {vs : List Value} {n m : Nat} {op : Int} (h : RdL (newF cx) q vs) (e : encDs (devsOf vs) = vs) (hn : n = (devsOf vs).length) (hm : n ≤ 1000) (hmn : m ≤ n) :
    IsElem (factF cx) (.agg #[.int .i64 op, .slice q m n]) op ((devsOf vs).take m) := by
  have h1 := (h.devs _ e).mono (sub_new cx)
  refine ⟨q, n, by rw [List.length_take, show min m (devsOf vs).length = m by omega], fun i r hr => ?_, by rw [List.length_take]; omega, by unfold maxLen; omega⟩
  rw [List.map_take, List.getElem?_take] at hr
  split at hr
  · exact h1 i r hr
  · simp at hr
theorem elem_lit {cx : Cx} {q : Option Addr} {vs : List Value} {n : Nat} {op : Int} (h : RdL (newF cx) q vs) (e : encDs (devsOf vs) = vs) (hn : n = (devsOf vs).length) (hm : n ≤ 1000) :
    IsElem (factF cx) (.agg #[.int .i64 op, .slice q n n]) op (devsOf vs) := by
  subst hn
  exact ⟨q, _, rfl, (h.devs _ e).mono (sub_new cx), Nat.le_refl _, by unfold maxLen; omega⟩
theorem l4ContactC_c  (R : Rdr) (p : Int) (cx : Cx) (mem : List Blk) (w : World) (hty : R.ty = 160) (hR : R.Is (factF cx) mem) (hp : 0 ≤ p) (hpc : p + 100 ≤ 1125899906842624) (hpre : True) (hm : MemRel cx (mem.set R.k (R.blk p)) w) :
    Calls Tryz.prog 161 ((.p R.k R.b 0 :: [] : List C).map den).toArray w fun e w' => ∃ cx' x mem', e = .returned (den x) ∧ MemRel cx' mem' w' ∧ (fun cx' x mem' => ∃ v p', x = .v v ∧ mem' = mem.set R.k (R.blk p') ∧ Le cx cx' ∧ p ≤ p' ∧ p' ≤ p + 100 ∧ (∃ op xs, IsElem (factF cx') v op xs ∧ xs.length ≤ 3)) cx' x mem' := by
  refine step_of_vcs ⟨[pickC, l4BitC, l2ArgC, l4WholeC, l4RealC], [(18, [(0, false), (3, false), (4, false), (5, true), (1, false), (3, true), (4, true), (2, false), (5, false), (6, false), (7, false)])]⟩ hmx Tryz.func161 rfl (by kernel_rfl) (args := .p R.k R.b 0 :: []) (by simp [Tryz.ntmps161]) hm (fun cx' x mem' => ∃ v p', x = .v v ∧ mem' = mem.set R.k (R.blk p') ∧ Le cx cx' ∧ p ≤ p' ∧ p' ≤ p + 100 ∧ (∃ op xs, IsElem (factF cx') v op xs ∧ xs.length ≤ 3)) 400 ?_
  have hlt := hR.lt
  have hle := Le.refl cx
  (repeat' first
    | (with_reducible refine EndK.left ?_
       refine ⟨_, _, rfl, rfl, (by assumption), by omega, by omega, ?_⟩; exact ⟨_, _, elem_lit hl rfl rfl (by decide), by simp [devsOf]⟩; done)
    | (with_reducible refine EndK.all ?_
       refine ⟨_, _, rfl, rfl, (by assumption), by omega, by omega, ?_⟩; exact ⟨_, _, elem_lit hl rfl rfl (by decide), by simp [devsOf]⟩; done)
    | (with_reducible refine pickC_at0 hR hty ?_ ?_ ?_ ?_
       · assumption
       · exact ⟨by omega, by omega⟩
       · omega
       rintro cx' _ p' hle - hp1 hp2 ⟨x, rfl, hx1, hx2⟩)
    | (with_reducible refine pickC_at hR hty ?_ ?_ ?_ ?_
       · assumption
       · exact ⟨by omega, by omega⟩
       · omega
       rintro cx' _ p' hle - hp1 hp2 ⟨x, rfl, hx1, hx2⟩)
    | (with_reducible refine l4BitC_at0 hR hty ?_ ?_ ?_ ?_
       · assumption
       · exact ⟨by omega, by omega⟩
       · trivial
       rintro cx' _ p' hle - hp1 hp2 ⟨ak, an, aq, rfl⟩)
    | (with_reducible refine l4BitC_at hR hty ?_ ?_ ?_ ?_
       · assumption
       · exact ⟨by omega, by omega⟩
       · trivial
       rintro cx' _ p' hle - hp1 hp2 ⟨ak, an, aq, rfl⟩)
    | (with_reducible refine l2ArgC_at0 hR hty ?_ ?_ ?_ ?_
       · assumption
       · exact ⟨by omega, by omega⟩
       · trivial
       rintro cx' _ p' hle - hp1 hp2 ⟨ak, an, aq, rfl⟩)
    | (with_reducible refine l2ArgC_at hR hty ?_ ?_ ?_ ?_
       · assumption
       · exact ⟨by omega, by omega⟩
       · trivial
       rintro cx' _ p' hle - hp1 hp2 ⟨ak, an, aq, rfl⟩)
    | (with_reducible refine l4WholeC_at0 hR hty ?_ ?_ ?_ ?_
       · assumption
       · exact ⟨by omega, by omega⟩
       · trivial
       rintro cx' _ p' hle - hp1 hp2 ⟨ak, an, aq, rfl⟩)
    | (with_reducible refine l4WholeC_at hR hty ?_ ?_ ?_ ?_
       · assumption
       · exact ⟨by omega, by omega⟩
       · trivial
       rintro cx' _ p' hle - hp1 hp2 ⟨ak, an, aq, rfl⟩)
    | (with_reducible refine l4RealC_at0 hR hty ?_ ?_ ?_ ?_
       · assumption
       · exact ⟨by omega, by omega⟩
       · trivial
       rintro cx' _ p' hle - hp1 hp2 ⟨ak, an, aq, rfl⟩)
    | (with_reducible refine l4RealC_at hR hty ?_ ?_ ?_ ?_
       · assumption
       · exact ⟨by omega, by omega⟩
       · trivial
       rintro cx' _ p' hle - hp1 hp2 ⟨ak, an, aq, rfl⟩)
    | (with_reducible refine fun cx' q (hle' : Le _ cx') (hl : RdL _ q _) => ?_
       have hle := Le.trans (by assumption) hle'; (try simp [Sx.get, Sx.look, Sx.put, cellsC, Value.cells, den] at hl))
    | with_reducible refine And.intro ?_ ?_
    | with_reducible intro _
    | omega
    | simp (maxSteps := 4000000) -dsimp [-Y1, -Array.all_eq_true, -Y3, -Y4, and_assoc, Y5, Tryz.f161, pickC, l4BitC, l2ArgC, l4WholeC, l4RealC, hlt])
def l4ContactC_S : Draws Tryz.prog 160 100 161 where
  ι := Unit
  A := fun (_u : Unit) => []
  pre := fun (_u : Unit) (F : Facts) => True
  post := fun (_u : Unit) (v : Value) (F : Facts) => ∃ op xs, IsElem F v op xs ∧ xs.length ≤ 3
  mono := fun _ _ _ _ _ => trivial
  enter := Tryz.call161
  h := fun _u R p cx mem w h1 h2 h3 h4 h5 h6 => l4ContactC_c  R p cx mem w h1 h2 h3 h4 h5 h6
def l4ContactC : Con Tryz.prog := Con.draw l4ContactC_S
theorem l4ContactC_at  {d : Nat} {R : Rdr} {cx0 cx : Cx} {mem0 : List Blk} {ex : List Blk} {K : Cx → C → List Blk → Prop} {p : Int} (hR : R.Is (factF cx0) mem0) (hty : R.ty = 160) (hle : Le cx0 cx) (hp : 0 ≤ p ∧ p + 100 ≤ 1125899906842624) (hpre : True)
    (h : ∀ cx' v p', Le cx0 cx' → Le cx cx' → p ≤ p' → p' ≤ p + 100 → (∃ op xs, IsElem (factF cx') v op xs ∧ xs.length ≤ 3) → K cx' (.v v) (mem0.set R.k (R.blk p') ++ ex)) :
    DrawV d l4ContactC_S cx [.p R.k R.b 0] (mem0.set R.k (R.blk p) ++ ex) K := DrawV.at (S := l4ContactC_S) hR hty hle () hp hpre h
theorem l4ContactC_at0  {d : Nat} {R : Rdr} {cx0 cx : Cx} {mem0 : List Blk} {K : Cx → C → List Blk → Prop} {p : Int} (hR : R.Is (factF cx0) mem0) (hty : R.ty = 160) (hle : Le cx0 cx) (hp : 0 ≤ p ∧ p + 100 ≤ 1125899906842624) (hpre : True)
    (h : ∀ cx' v p', Le cx0 cx' → Le cx cx' → p ≤ p' → p' ≤ p + 100 → (∃ op xs, IsElem (factF cx') v op xs ∧ xs.length ≤ 3) → K cx' (.v v) (mem0.set R.k (R.blk p'))) :
    DrawV d l4ContactC_S cx [.p R.k R.b 0] (mem0.set R.k (R.blk p)) K := DrawV.at0 (S := l4ContactC_S) hR hty hle () hp hpre h

theorem arity_bd (op : Int) : 0 ≤ arity op ∧ arity op ≤ 3 := by unfold arity; (repeat' split) <;> omega
theorem arity_toNat (op : Int) : (arity op).toNat ≤ 3 := by have := arity_bd op; omega
theorem l4CoilC_c  (R : Rdr) (p : Int) (cx : Cx) (mem : List Blk) (w : World) (hty : R.ty = 160) (hR : R.Is (factF cx) mem) (hp : 0 ≤ p) (hpc : p + 100 ≤ 1125899906842624) (hpre : True) (hm : MemRel cx (mem.set R.k (R.blk p)) w) :
    Calls Tryz.prog 162 ((.p R.k R.b 0 :: [] : List C).map den).toArray w fun e w' => ∃ cx' x mem', e = .returned (den x) ∧ MemRel cx' mem' w' ∧ (fun cx' x mem' => ∃ v p', x = .v v ∧ mem' = mem.set R.k (R.blk p') ∧ Le cx cx' ∧ p ≤ p' ∧ p' ≤ p + 100 ∧ (∃ op xs, IsElem (factF cx') v op xs ∧ xs.length ≤ 3)) cx' x mem' := by
  refine step_of_vcs ⟨[pickC, numC, l2ArgC, l4WholeC, l4RealC, sArityC], [(14, [(0, false), (1, false), (2, false), (3, false), (1, true), (4, false), (5, false), (6, false)]), (20, [(0, false), (1, false), (3, false), (2, false), (3, true), (4, false), (5, false), (6, false)]), (22, [(0, false), (1, false), (3, false), (2, false), (3, true), (4, false), (5, false), (6, false)])]⟩ hmx Tryz.func162 rfl (by kernel_rfl) (args := .p R.k R.b 0 :: []) (by simp [Tryz.ntmps162]) hm (fun cx' x mem' => ∃ v p', x = .v v ∧ mem' = mem.set R.k (R.blk p') ∧ Le cx cx' ∧ p ≤ p' ∧ p' ≤ p + 100 ∧ (∃ op xs, IsElem (factF cx') v op xs ∧ xs.length ≤ 3)) 400 ?_
  have hlt := hR.lt
  have hle := Le.refl cx
  have har := fun op => arity_bd op
  (repeat' first
    | (with_reducible refine EndK.left ?_
       refine ⟨_, _, rfl, rfl, (by assumption), by omega, by omega, ?_⟩; first | exact ⟨_, _, elem_lit hl rfl rfl (by decide), by simp [devsOf]⟩ | exact ⟨_, _, elem_take hl rfl rfl (by decide) (arity_toNat _), by simp [devsOf] <;> omega⟩; done)
    | (with_reducible refine EndK.all ?_
       refine ⟨_, _, rfl, rfl, (by assumption), by omega, by omega, ?_⟩; first | exact ⟨_, _, elem_lit hl rfl rfl (by decide), by simp [devsOf]⟩ | exact ⟨_, _, elem_take hl rfl rfl (by decide) (arity_toNat _), by simp [devsOf] <;> omega⟩; done)
    | (with_reducible refine pickC_at0 hR hty ?_ ?_ ?_ ?_
       · assumption
       · exact ⟨by omega, by omega⟩
       · omega
       rintro cx' _ p' hle - hp1 hp2 ⟨x, rfl, hx1, hx2⟩)
    | (with_reducible refine pickC_at hR hty ?_ ?_ ?_ ?_
       · assumption
       · exact ⟨by omega, by omega⟩
       · omega
       rintro cx' _ p' hle - hp1 hp2 ⟨x, rfl, hx1, hx2⟩)
    | (with_reducible refine numC_lit0 hR hty ?_ hl ?_ ?_ ?_ ?_ ?_ ?_
       · assumption
       · rfl
       · rfl
       · exact ⟨by omega, by omega⟩
       · decide
       · decide
       rintro cx' _ p' hle - hp1 hp2 ⟨x, rfl, hx⟩)
    | (with_reducible refine numC_lit hR hty ?_ hl ?_ ?_ ?_ ?_ ?_ ?_
       · assumption
       · rfl
       · rfl
       · exact ⟨by omega, by omega⟩
       · decide
       · decide
       rintro cx' _ p' hle - hp1 hp2 ⟨x, rfl, hx⟩)
    | (with_reducible refine l2ArgC_at0 hR hty ?_ ?_ ?_ ?_
       · assumption
       · exact ⟨by omega, by omega⟩
       · trivial
       rintro cx' _ p' hle - hp1 hp2 ⟨ak, an, aq, rfl⟩)
    | (with_reducible refine l2ArgC_at hR hty ?_ ?_ ?_ ?_
       · assumption
       · exact ⟨by omega, by omega⟩
       · trivial
       rintro cx' _ p' hle - hp1 hp2 ⟨ak, an, aq, rfl⟩)
    | (with_reducible refine l4WholeC_at0 hR hty ?_ ?_ ?_ ?_
       · assumption
       · exact ⟨by omega, by omega⟩
       · trivial
       rintro cx' _ p' hle - hp1 hp2 ⟨ak, an, aq, rfl⟩)
    | (with_reducible refine l4WholeC_at hR hty ?_ ?_ ?_ ?_
       · assumption
       · exact ⟨by omega, by omega⟩
       · trivial
       rintro cx' _ p' hle - hp1 hp2 ⟨ak, an, aq, rfl⟩)
    | (with_reducible refine l4RealC_at0 hR hty ?_ ?_ ?_ ?_
       · assumption
       · exact ⟨by omega, by omega⟩
       · trivial
       rintro cx' _ p' hle - hp1 hp2 ⟨ak, an, aq, rfl⟩)
    | (with_reducible refine l4RealC_at hR hty ?_ ?_ ?_ ?_
       · assumption
       · exact ⟨by omega, by omega⟩
       · trivial
       rintro cx' _ p' hle - hp1 hp2 ⟨ak, an, aq, rfl⟩)
    | (with_reducible refine fun cx' q (hle' : Le _ cx') (hl : RdL _ q _) => ?_
       have hle := Le.trans (by assumption) hle'; (try simp [Sx.get, Sx.look, Sx.put, cellsC, Value.cells, den] at hl))
    | with_reducible refine And.intro ?_ ?_
    | with_reducible intro _
    | omega
    | simp (maxSteps := 4000000) -dsimp [-Y1, -Array.all_eq_true, -Y3, -Y4, and_assoc, Y5, Tryz.f162, pickC, numC, l2ArgC, l4WholeC, l4RealC, sArityC, hlt, har])
def l4CoilC_S : Draws Tryz.prog 160 100 162 where
  ι := Unit
  A := fun (_u : Unit) => []
  pre := fun (_u : Unit) (F : Facts) => True
  post := fun (_u : Unit) (v : Value) (F : Facts) => ∃ op xs, IsElem F v op xs ∧ xs.length ≤ 3
  mono := fun _ _ _ _ _ => trivial
  enter := Tryz.call162
  h := fun _u R p cx mem w h1 h2 h3 h4 h5 h6 => l4CoilC_c  R p cx mem w h1 h2 h3 h4 h5 h6
def l4CoilC : Con Tryz.prog := Con.draw l4CoilC_S
theorem l4CoilC_at  {d : Nat} {R : Rdr} {cx0 cx : Cx} {mem0 : List Blk} {ex : List Blk} {K : Cx → C → List Blk → Prop} {p : Int} (hR : R.Is (factF cx0) mem0) (hty : R.ty = 160) (hle : Le cx0 cx) (hp : 0 ≤ p ∧ p + 100 ≤ 1125899906842624) (hpre : True)
    (h : ∀ cx' v p', Le cx0 cx' → Le cx cx' → p ≤ p' → p' ≤ p + 100 → (∃ op xs, IsElem (factF cx') v op xs ∧ xs.length ≤ 3) → K cx' (.v v) (mem0.set R.k (R.blk p') ++ ex)) :
    DrawV d l4CoilC_S cx [.p R.k R.b 0] (mem0.set R.k (R.blk p) ++ ex) K := DrawV.at (S := l4CoilC_S) hR hty hle () hp hpre h
theorem l4CoilC_at0  {d : Nat} {R : Rdr} {cx0 cx : Cx} {mem0 : List Blk} {K : Cx → C → List Blk → Prop} {p : Int} (hR : R.Is (factF cx0) mem0) (hty : R.ty = 160) (hle : Le cx0 cx) (hp : 0 ≤ p ∧ p + 100 ≤ 1125899906842624) (hpre : True)
    (h : ∀ cx' v p', Le cx0 cx' → Le cx cx' → p ≤ p' → p' ≤ p + 100 → (∃ op xs, IsElem (factF cx') v op xs ∧ xs.length ≤ 3) → K cx' (.v v) (mem0.set R.k (R.blk p'))) :
    DrawV d l4CoilC_S cx [.p R.k R.b 0] (mem0.set R.k (R.blk p)) K := DrawV.at0 (S := l4CoilC_S) hR hty hle () hp hpre h

def rowP (xs : List Dev) (pad : List C) : List C := (encDs xs).map C.v ++ pad
theorem rowP_len (xs : List Dev) (pad : List C) : (rowP xs pad).length = xs.length * 3 + pad.length := by simp [rowP, len_encDs]
theorem encDs_at {xs : List Dev} {i : Nat} {d : Dev} (h : xs[i]? = some d) : encDs xs = encDs (xs.take i) ++ (encD d ++ encDs (xs.drop (i + 1))) := by
  have hi := (List.getElem?_eq_some_iff.1 h).1
  have e : xs = xs.take i ++ d :: xs.drop (i + 1) := by
    rw [← (List.getElem?_eq_some_iff.1 h).2, List.getElem_cons_drop, List.take_append_drop]
  conv => lhs; rw [e]
  simp [encDs]
theorem rowP_at {xs : List Dev} {pad : List C} {i : Nat} {d : Dev} (h : xs[i]? = some d) : ((rowP xs pad).drop (i * 3)).take 3 = [.v (.int .i64 d.k), .v (.int .i64 d.n), .v (.int .i64 d.p)] := by
  have hi := (List.getElem?_eq_some_iff.1 h).1
  have hl : (encDs (xs.take i)).length = i * 3 := by rw [len_encDs, List.length_take]; omega
  unfold rowP
  rw [encDs_at h]
  simp only [List.map_append, List.append_assoc]
  rw [List.drop_left' (by rw [List.length_map, hl])]
  simp [encD]
theorem rowP_set {xs : List Dev} {pad : List C} {i : Nat} {d : Dev} (h : xs[i]? = some d) (k n p : Int) : splice (rowP xs pad) (i * 3) [.v (.int .i64 k), .v (.int .i64 n), .v (.int .i64 p)] = rowP (xs.set i ⟨k, n, p⟩) pad := by
  have hi := (List.getElem?_eq_some_iff.1 h).1
  have hl : (encDs (xs.take i)).length = i * 3 := by rw [len_encDs, List.length_take]; omega
  have h2 : (xs.set i ⟨k, n, p⟩)[i]? = some ⟨k, n, p⟩ := by simp [hi]
  unfold rowP
  rw [encDs_at h, encDs_at h2, List.take_set_of_le (by omega), List.drop_set_of_lt (by omega)]
  simp only [List.map_append, List.append_assoc, splice_two]
  rw [List.take_left' (by rw [List.length_map, hl])]
  congr 1
  simp only [encD, List.map_cons, List.map_nil, List.cons_append, List.nil_append, List.length_cons, List.length_nil]
  congr 3
  rw [List.drop_append, List.length_map, hl, List.drop_eq_nil_of_le (by rw [List.length_map, hl]; omega)]
  simp
theorem blk_row {F : Facts} {b : Nat} {xs : List Dev} {pad : List C} (h : ∀ (off : Nat) c, (rowP xs pad)[off]? = some c → F ⟨b, off, none⟩ = some (den c)) : RdD F (some ⟨b, 0, none⟩) xs := by
  intro i r hr
  simp only [List.getElem?_map, Option.map_eq_some_iff] at hr
  obtain ⟨d, hd, rfl⟩ := hr
  refine ⟨rfl, _, rfl, fun j x hx => ?_⟩
  have hj := (List.getElem?_eq_some_iff.1 hx).1
  have hj3 : j < 3 := hj
  have h1 := rowP_at (pad := pad) hd
  have h2 : ((rowP xs pad).drop (i * 3))[j]? = some (.v x) := by
    have : (((rowP xs pad).drop (i * 3)).take 3)[j]? = some (.v x) := by
      rw [h1]
      have : (encD d).map C.v = [.v (.int .i64 d.k), .v (.int .i64 d.n), .v (.int .i64 d.p)] := rfl
      rw [← this, List.getElem?_map, hx]; rfl
    rw [List.getElem?_take] at this
    split at this
    · exact this
    · omega
  rw [List.getElem?_drop] at h2
  rw [addr_add, Nat.zero_add]
  exact h _ _ h2
theorem rowP_app (xs : List Dev) (d : Dev) (pad : List C) : (encDs xs).map C.v ++ (.v (.int .i64 d.k) :: .v (.int .i64 d.n) :: .v (.int .i64 d.p) :: pad) = rowP (xs ++ [d]) pad := by simp [rowP, encDs, encD]
theorem rowP_fold (xs : List Dev) (pad : List C) : (encDs xs).map C.v ++ pad = rowP xs pad := rfl
theorem rowP_take (xs : List Dev) (pad : List C) : (rowP xs pad).take (xs.length * 3) = (encDs xs).map C.v := by
  unfold rowP; rw [List.take_left' (by rw [List.length_map, len_encDs])]
theorem rowP_push (xs : List Dev) (pad pad' : List C) (k n q : Int) : List.take (xs.length * 3) (rowP xs pad) ++ (C.v (.int .i64 k) :: C.v (.int .i64 n) :: C.v (.int .i64 q) :: pad') = rowP (xs ++ [⟨k, n, q⟩]) pad' := by
  rw [rowP_take]; exact rowP_app xs ⟨k, n, q⟩ pad'
theorem oneD (xs : List Dev) : (encDs xs).all (C.one ∘ C.v) = true := by
  rw [List.all_eq_true]
  intro v hv
  unfold encDs at hv
  simp only [List.mem_flatten, List.mem_map] at hv
  obtain ⟨_, ⟨d, _, rfl⟩, hv⟩ := hv
  simp only [encD, List.mem_cons, List.not_mem_nil, or_false] at hv
  rcases hv with rfl | rfl | rfl <;> rfl
theorem spoil_end {F : Facts} {b : Nat} {ys : List Dev} {pad : List C} {op : Int} {n cap : Nat} (h : ∀ (off : Nat) c, (rowP ys pad)[off]? = some c → F ⟨b, off, none⟩ = some (den c)) (hn : n = ys.length) (h1 : n ≤ cap) (h2 : cap ≤ maxLen) :
    IsElem F (.agg #[.int .i64 op, .slice (some ⟨b, 0, none⟩) n cap]) op ys := by
  subst hn
  exact ⟨_, _, rfl, blk_row h, h1, h2⟩
theorem l4SpoilC_c (op : Int) (o : Option Addr) (cap : Nat) (xs : List Dev) (R : Rdr) (p : Int) (cx : Cx) (mem : List Blk) (w : World) (hty : R.ty = 160) (hR : R.Is (factF cx) mem) (hp : 0 ≤ p) (hpc : p + 60 ≤ 1125899906842624) (hpre : RdD (factF cx) o xs ∧ xs.length ≤ 100) (hm : MemRel cx (mem.set R.k (R.blk p)) w) :
    Calls Tryz.prog 163 ((.p R.k R.b 0 :: [.v (.agg #[.int .i64 op, .slice o xs.length cap])] : List C).map den).toArray w fun e w' => ∃ cx' x mem', e = .returned (den x) ∧ MemRel cx' mem' w' ∧ (fun cx' x mem' => ∃ v p', x = .v v ∧ mem' = mem.set R.k (R.blk p') ∧ Le cx cx' ∧ p ≤ p' ∧ p' ≤ p + 60 ∧ (∃ op ys, IsElem (factF cx') v op ys ∧ ys.length ≤ xs.length + 1)) cx' x mem' := by
  refine step_of_vcs ⟨[pickC, numC, l2AnyC, l2SpoiltC], [(6, [(0, false), (1, false), (2, false), (3, false), (4, false), (1, true), (5, false), (1, true), (6, false), (1, true), (7, false), (8, false)])]⟩ hmx Tryz.func163 rfl (by kernel_rfl) (args := .p R.k R.b 0 :: [.v (.agg #[.int .i64 op, .slice o xs.length cap])]) (by simp [Tryz.ntmps163]) hm (fun cx' x mem' => ∃ v p', x = .v v ∧ mem' = mem.set R.k (R.blk p') ∧ Le cx cx' ∧ p ≤ p' ∧ p' ≤ p + 60 ∧ (∃ op ys, IsElem (factF cx') v op ys ∧ ys.length ≤ xs.length + 1)) 400 ?_
  obtain ⟨hx, hl⟩ := hpre
  have hlt := hR.lt
  have hle := Le.refl cx
  have h1 := oneD xs
  have h2 : xs.length ≤ maxLen := by unfold maxLen; omega
  have h3 : xs.length * 24 ≤ 140737488355328 := by omega
  simp (maxSteps := 4000000) -dsimp [-Y1, -Array.all_eq_true, -Y3, -Y4, and_assoc, Y5, Tryz.f163, pickC, numC, l2AnyC, l2SpoiltC, hlt]
  intro b1 b2 b3
  rw [RdO.sl (hx.mono (sub_now _ _)) (by decide) (by simp)]
  have he : (List.map encD xs).flatten = encDs xs := rfl
  rw [he]
  clear he
  unfold GrowV
  simp (maxSteps := 4000000) -dsimp [-Y1, -Array.all_eq_true, -Y3, -Y4, and_assoc, Y5, Tryz.f163, pickC, numC, l2AnyC, l2SpoiltC, hlt, h1, h2, h3, rowP_fold]
  intro b' cap' pad c1 c2 c3
  have h4 : (rowP xs pad).length = cap' * 3 := by rw [rowP_len]; omega
  refine pickC_at hR hty hle ⟨by omega, by omega⟩ (by omega) ?_
  rintro cx1 _ p1 hle1 - q1 q2 ⟨x, rfl, hx1, hx2⟩
  by_cases e0 : x = 0
  · subst e0
    simp (maxSteps := 4000000) -dsimp [-Y1, -Array.all_eq_true, -Y3, -Y4, and_assoc, Y5, Tryz.f163, pickC, numC, l2AnyC, l2SpoiltC, hlt]
    intro cx2 q hle2 hl2
    refine numC_lit hR hty (hle1.trans hle2) hl2 rfl rfl ⟨by omega, by omega⟩ (by decide) (by decide) ?_
    rintro cx3 _ p3 hle3 - q3 q4 ⟨y, rfl, hy⟩
    simp (maxSteps := 4000000) -dsimp [-Y1, -Array.all_eq_true, -Y3, -Y4, and_assoc, Y5, Tryz.f163, pickC, numC, l2AnyC, l2SpoiltC, hlt]
    exact EndK.facts fun cxz hlz hfz => ⟨_, _, rfl, rfl, hle3.trans hlz, by omega, by omega, _, xs, spoil_end (hfz _ (List.mem_cons_of_mem _ (List.mem_cons_of_mem _ List.mem_cons_self))) rfl c1 c2, by omega⟩
  by_cases e1 : x = 1
  · subst e1
    simp (maxSteps := 4000000) -dsimp [-Y1, -Array.all_eq_true, -Y3, -Y4, and_assoc, Y5, Tryz.f163, pickC, numC, l2AnyC, l2SpoiltC, hlt]
    refine l2AnyC_at hR hty hle1 ⟨by omega, by omega⟩ trivial ?_
    rintro cx2 _ p2 hle2 - q3 q4 ⟨k, n, q, rfl⟩
    simp (maxSteps := 4000000) -dsimp [-Y1, -Array.all_eq_true, -Y3, -Y4, and_assoc, Y5, Tryz.f163, pickC, numC, l2AnyC, l2SpoiltC, hlt]
    intro cx3 lit hle3 hl3
    rw [RdO.sl (size := 3) (rows := [[.int .i64 k, .int .i64 n, .int .i64 q]]) ((hl3.mono ((sub_new cx3).trans (sub_now _ _))).rows (by decide) (by simp) (by simp)) (by decide) (by simp)]
    unfold GrowV
    have h5 : xs.length + 1 ≤ maxLen := by unfold maxLen; omega
    simp (maxSteps := 4000000) -dsimp [-Y1, -Array.all_eq_true, -Y3, -Y4, and_assoc, Y5, Tryz.f163, pickC, numC, l2AnyC, l2SpoiltC, hlt, h4, rowP_push, c1, c2, h5]
    refine ⟨by omega, fun b'' cap'' pad'' d1 d2 d3 => ?_⟩
    exact EndK.facts fun cxz hlz hfz => ⟨_, _, rfl, rfl, (hle2.trans hle3).trans hlz, by omega, by omega, _, xs ++ [⟨k, n, q⟩], spoil_end (hfz _ (List.mem_cons_of_mem _ (List.mem_cons_of_mem _ List.mem_cons_self))) (by simp) d1 d2, by simp⟩
  by_cases e2 : x = 2
  · subst e2
    simp (maxSteps := 4000000) -dsimp [-Y1, -Array.all_eq_true, -Y3, -Y4, and_assoc, Y5, Tryz.f163, pickC, numC, l2AnyC, l2SpoiltC, hlt]
    exact EndK.left ⟨_, _, rfl, rfl, hle1, by omega, by omega, op, [], ⟨none, 0, rfl, RdO.nil _ _ _, by simp, by decide⟩, by simp⟩
  by_cases e3 : xs.length = 0
  · simp (maxSteps := 4000000) -dsimp [-Y1, -Array.all_eq_true, -Y3, -Y4, and_assoc, Y5, Tryz.f163, pickC, numC, l2AnyC, l2SpoiltC, hlt, e0, e1, e2, e3]
    exact EndK.facts fun cxz hlz hfz => ⟨_, _, rfl, rfl, hle1.trans hlz, by omega, by omega, _, xs, spoil_end (hfz _ (List.mem_cons_of_mem _ (List.mem_cons_of_mem _ List.mem_cons_self))) e3.symm (by omega) c2, by omega⟩
  · have e4 : 0 < xs.length := by omega
    simp (maxSteps := 4000000) -dsimp [-Y1, -Array.all_eq_true, -Y3, -Y4, and_assoc, Y5, Tryz.f163, pickC, numC, l2AnyC, l2SpoiltC, hlt, e0, e1, e2, e4]
    refine pickC_at hR hty hle1 ⟨by omega, by omega⟩ (by omega) ?_
    rintro cx2 _ p2 hle2 - q3 q4 ⟨y, rfl, y1, y2⟩
    have y3 : y < xs.length := by omega
    obtain ⟨d, hd⟩ : ∃ d, xs[y.toNat]? = some d := ⟨xs[y.toNat]'(by omega), by simp [show y.toNat < xs.length by omega]⟩
    have hat := rowP_at (pad := pad) hd
    have y4 : y.toNat * 3 + 3 ≤ cap' * 3 := by omega
    simp (maxSteps := 4000000) -dsimp [-Y1, -Array.all_eq_true, -Y3, -Y4, and_assoc, Y5, Tryz.f163, pickC, numC, l2AnyC, l2SpoiltC, hlt, y1, y3, hat, h4, y4]
    refine l2SpoiltC_at hR hty hle2 ⟨by omega, by omega⟩ trivial ?_
    rintro cx3 _ p3 hle3 - q5 q6 ⟨k, n, q, rfl⟩
    simp (maxSteps := 4000000) -dsimp [-Y1, -Array.all_eq_true, -Y3, -Y4, and_assoc, Y5, Tryz.f163, pickC, numC, l2AnyC, l2SpoiltC, hlt, y1, y3, h4, y4, rowP_set hd]
    refine pickC_at hR hty hle3 ⟨by omega, by omega⟩ (by omega) ?_
    rintro cx4 _ p4 hle4 - q7 q8 ⟨z, rfl, z1, z2⟩
    by_cases z0 : z = 0
    · have hd2 : (xs.set y.toNat ⟨k, n, q⟩)[y.toNat]? = some ⟨k, n, q⟩ := by simp [(List.getElem?_eq_some_iff.1 hd).1]
      have h6 : (rowP (xs.set y.toNat ⟨k, n, q⟩) pad).length = cap' * 3 := by rw [rowP_len] at h4 ⊢; simpa using h4
      subst z0
      simp (maxSteps := 4000000) -dsimp [-Y1, -Array.all_eq_true, -Y3, -Y4, and_assoc, Y5, Tryz.f163, pickC, numC, l2AnyC, l2SpoiltC, hlt]
      refine l2AnyC_at hR hty hle4 ⟨by omega, by omega⟩ trivial ?_
      rintro cx5 _ p5 hle5 - q9 q10 ⟨k2, n2, r2, rfl⟩
      simp (maxSteps := 4000000) -dsimp [-Y1, -Array.all_eq_true, -Y3, -Y4, and_assoc, Y5, Tryz.f163, pickC, numC, l2AnyC, l2SpoiltC, hlt, y1, y3, h6, y4, rowP_set hd2]
      exact EndK.facts fun cxz hlz hfz => ⟨_, _, rfl, rfl, hle5.trans hlz, by omega, by omega, _, _, spoil_end (hfz _ (List.mem_cons_of_mem _ (List.mem_cons_of_mem _ List.mem_cons_self))) (by simp) (by omega) c2, by simp⟩
    · simp (maxSteps := 4000000) -dsimp [-Y1, -Array.all_eq_true, -Y3, -Y4, and_assoc, Y5, Tryz.f163, pickC, numC, l2AnyC, l2SpoiltC, hlt, z0]
      exact EndK.facts fun cxz hlz hfz => ⟨_, _, rfl, rfl, hle4.trans hlz, by omega, by omega, _, _, spoil_end (hfz _ (List.mem_cons_of_mem _ (List.mem_cons_of_mem _ List.mem_cons_self))) (by simp) (by omega) c2, by simp⟩
def l4SpoilC_S : Draws Tryz.prog 160 60 163 where
  ι := ((Int) × (Option Addr) × (Nat) × (List Dev))
  A := fun (i : ((Int) × (Option Addr) × (Nat) × (List Dev))) => match i with | (op, o, cap, xs) => [.v (.agg #[.int .i64 op, .slice o xs.length cap])]
  pre := fun (i : ((Int) × (Option Addr) × (Nat) × (List Dev))) (F : Facts) => match i with | (op, o, cap, xs) => RdD F o xs ∧ xs.length ≤ 100
  post := fun (i : ((Int) × (Option Addr) × (Nat) × (List Dev))) (v : Value) (F : Facts) => match i with | (op, o, cap, xs) => ∃ op ys, IsElem F v op ys ∧ ys.length ≤ xs.length + 1
  mono := by
    intro i F G hs h
    first | exact h | exact h.mono hs | exact ⟨h.1.mono hs, h.2⟩ | exact ⟨h.1.mono hs, h.2.1.mono hs, h.2.2⟩ | exact ⟨h.1.mono hs, h.2.1.mono hs⟩ | exact ⟨h.1.mono hs, h.2.1.mono hs, h.2.2.1.mono hs, h.2.2.2⟩
  enter := Tryz.call163
  h := fun i R p cx mem w h1 h2 h3 h4 h5 h6 => l4SpoilC_c i.1 i.2.1 i.2.2.1 i.2.2.2 R p cx mem w h1 h2 h3 h4 h5 h6
def l4SpoilC : Con Tryz.prog := Con.draw l4SpoilC_S
theorem l4SpoilC_at {op : Int} {o : Option Addr} {cap : Nat} {xs : List Dev} {d : Nat} {R : Rdr} {cx0 cx : Cx} {mem0 : List Blk} {ex : List Blk} {K : Cx → C → List Blk → Prop} {p : Int} (hR : R.Is (factF cx0) mem0) (hty : R.ty = 160) (hle : Le cx0 cx) (hp : 0 ≤ p ∧ p + 60 ≤ 1125899906842624) (hpre : RdD (factF cx) o xs ∧ xs.length ≤ 100)
    (h : ∀ cx' v p', Le cx0 cx' → Le cx cx' → p ≤ p' → p' ≤ p + 60 → (∃ op ys, IsElem (factF cx') v op ys ∧ ys.length ≤ xs.length + 1) → K cx' (.v v) (mem0.set R.k (R.blk p') ++ ex)) :
    DrawV d l4SpoilC_S cx [.p R.k R.b 0, .v (.agg #[.int .i64 op, .slice o xs.length cap])] (mem0.set R.k (R.blk p) ++ ex) K := DrawV.at (S := l4SpoilC_S) hR hty hle (op, o, cap, xs) hp hpre h
theorem l4AnyC_c  (R : Rdr) (p : Int) (cx : Cx) (mem : List Blk) (w : World) (hty : R.ty = 160) (hR : R.Is (factF cx) mem) (hp : 0 ≤ p) (hpc : p + 300 ≤ 1125899906842624) (hpre : True) (hm : MemRel cx (mem.set R.k (R.blk p)) w) :
    Calls Tryz.prog 89 ((.p R.k R.b 0 :: [] : List C).map den).toArray w fun e w' => ∃ cx' x mem', e = .returned (den x) ∧ MemRel cx' mem' w' ∧ (fun cx' x mem' => ∃ v p', x = .v v ∧ mem' = mem.set R.k (R.blk p') ∧ Le cx cx' ∧ p ≤ p' ∧ p' ≤ p + 300 ∧ (∃ op xs, IsElem (factF cx') v op xs ∧ xs.length ≤ 4)) cx' x mem' := by
  refine step_of_vcs ⟨[pickC, l4CoilC, l4ContactC, l4SpoilC], []⟩ hmx Tryz.func89 rfl (by kernel_rfl) (args := .p R.k R.b 0 :: []) (by simp [Tryz.ntmps89]) hm (fun cx' x mem' => ∃ v p', x = .v v ∧ mem' = mem.set R.k (R.blk p') ∧ Le cx cx' ∧ p ≤ p' ∧ p' ≤ p + 300 ∧ (∃ op xs, IsElem (factF cx') v op xs ∧ xs.length ≤ 4)) 400 ?_
  have hlt := hR.lt
  simp (maxSteps := 4000000) -dsimp [-Y1, -Array.all_eq_true, -Y3, -Y4, and_assoc, Y5, Tryz.f89, pickC, l4CoilC, l4ContactC, l4SpoilC, hlt]
  intro b
  refine l4CoilC_at hR hty (Le.refl cx) ⟨by omega, by omega⟩ trivial ?_
  rintro cx1 _ p1 hle1 - q1 q2 ⟨op, xs, ⟨⟨o, cap, rfl, hd, c1, c2⟩⟩, hl⟩
  simp (maxSteps := 4000000) -dsimp [-Y1, -Array.all_eq_true, -Y3, -Y4, and_assoc, Y5, Tryz.f89, pickC, l4CoilC, l4ContactC, l4SpoilC, hlt]
  intro b2
  refine pickC_at hR hty hle1 ⟨by omega, by omega⟩ (by omega) ?_
  rintro cx2 _ p2 hle2 hs2 q3 q4 ⟨x, rfl, x1, x2⟩
  by_cases x0 : x = 0
  · subst x0
    simp (maxSteps := 4000000) -dsimp [-Y1, -Array.all_eq_true, -Y3, -Y4, and_assoc, Y5, Tryz.f89, pickC, l4CoilC, l4ContactC, l4SpoilC, hlt]
    refine l4ContactC_at hR hty hle2 ⟨by omega, by omega⟩ trivial ?_
    rintro cx3 _ p3 hle3 - q5 q6 ⟨op', xs', ⟨⟨o', cap', rfl, hd', c1', c2'⟩⟩, hl'⟩
    simp (maxSteps := 4000000) -dsimp [-Y1, -Array.all_eq_true, -Y3, -Y4, and_assoc, Y5, Tryz.f89, pickC, l4CoilC, l4ContactC, l4SpoilC, hlt]
    refine pickC_at hR hty hle3 ⟨by omega, by omega⟩ (by omega) ?_
    rintro cx4 _ p4 hle4 hs4 q7 q8 ⟨y, rfl, y1, y2⟩
    by_cases y0 : y = 0
    · subst y0
      simp (maxSteps := 4000000) -dsimp [-Y1, -Array.all_eq_true, -Y3, -Y4, and_assoc, Y5, Tryz.f89, pickC, l4CoilC, l4ContactC, l4SpoilC, hlt]
      refine l4SpoilC_at hR hty hle4 ⟨by omega, by omega⟩ ⟨hd'.mono hs4.fact, by omega⟩ ?_
      rintro cx5 _ p5 hle5 - q9 q10 ⟨op2, xs2, ⟨⟨o2, cap2, rfl, hd2, d1, d2⟩⟩, hl2⟩
      simp (maxSteps := 4000000) -dsimp [-Y1, -Array.all_eq_true, -Y3, -Y4, and_assoc, Y5, Tryz.f89, pickC, l4CoilC, l4ContactC, l4SpoilC, hlt]
      exact EndK.left ⟨_, _, rfl, rfl, hle5, by omega, by omega, op2, xs2, ⟨o2, cap2, rfl, hd2, d1, d2⟩, by omega⟩
    · simp (maxSteps := 4000000) -dsimp [-Y1, -Array.all_eq_true, -Y3, -Y4, and_assoc, Y5, Tryz.f89, pickC, l4CoilC, l4ContactC, l4SpoilC, hlt, y0]
      exact EndK.left ⟨_, _, rfl, rfl, hle4, by omega, by omega, op', xs', ⟨o', cap', rfl, hd'.mono hs4.fact, c1', c2'⟩, by omega⟩
  · simp (maxSteps := 4000000) -dsimp [-Y1, -Array.all_eq_true, -Y3, -Y4, and_assoc, Y5, Tryz.f89, pickC, l4CoilC, l4ContactC, l4SpoilC, hlt, x0]
    refine pickC_at hR hty hle2 ⟨by omega, by omega⟩ (by omega) ?_
    rintro cx4 _ p4 hle4 hs4 q7 q8 ⟨y, rfl, y1, y2⟩
    by_cases y0 : y = 0
    · subst y0
      simp (maxSteps := 4000000) -dsimp [-Y1, -Array.all_eq_true, -Y3, -Y4, and_assoc, Y5, Tryz.f89, pickC, l4CoilC, l4ContactC, l4SpoilC, hlt]
      refine l4SpoilC_at hR hty hle4 ⟨by omega, by omega⟩ ⟨hd.mono (hs2.trans hs4).fact, by omega⟩ ?_
      rintro cx5 _ p5 hle5 - q9 q10 ⟨op2, xs2, ⟨⟨o2, cap2, rfl, hd2, d1, d2⟩⟩, hl2⟩
      simp (maxSteps := 4000000) -dsimp [-Y1, -Array.all_eq_true, -Y3, -Y4, and_assoc, Y5, Tryz.f89, pickC, l4CoilC, l4ContactC, l4SpoilC, hlt]
      exact EndK.left ⟨_, _, rfl, rfl, hle5, by omega, by omega, op2, xs2, ⟨o2, cap2, rfl, hd2, d1, d2⟩, by omega⟩
    · simp (maxSteps := 4000000) -dsimp [-Y1, -Array.all_eq_true, -Y3, -Y4, and_assoc, Y5, Tryz.f89, pickC, l4CoilC, l4ContactC, l4SpoilC, hlt, y0]
      exact EndK.left ⟨_, _, rfl, rfl, hle4, by omega, by omega, op, xs, ⟨o, cap, rfl, hd.mono (hs2.trans hs4).fact, c1, c2⟩, by omega⟩
def l4AnyC_S : Draws Tryz.prog 160 300 89 where
  ι := Unit
  A := fun (_u : Unit) => []
  pre := fun (_u : Unit) (F : Facts) => True
  post := fun (_u : Unit) (v : Value) (F : Facts) => ∃ op xs, IsElem F v op xs ∧ xs.length ≤ 4
  mono := fun _ _ _ _ _ => trivial
  enter := Tryz.call89
  h := fun _u R p cx mem w h1 h2 h3 h4 h5 h6 => l4AnyC_c  R p cx mem w h1 h2 h3 h4 h5 h6
def l4AnyC : Con Tryz.prog := Con.draw l4AnyC_S
theorem l4AnyC_at  {d : Nat} {R : Rdr} {cx0 cx : Cx} {mem0 : List Blk} {ex : List Blk} {K : Cx → C → List Blk → Prop} {p : Int} (hR : R.Is (factF cx0) mem0) (hty : R.ty = 160) (hle : Le cx0 cx) (hp : 0 ≤ p ∧ p + 300 ≤ 1125899906842624) (hpre : True)
    (h : ∀ cx' v p', Le cx0 cx' → Le cx cx' → p ≤ p' → p' ≤ p + 300 → (∃ op xs, IsElem (factF cx') v op xs ∧ xs.length ≤ 4) → K cx' (.v v) (mem0.set R.k (R.blk p') ++ ex)) :
    DrawV d l4AnyC_S cx [.p R.k R.b 0] (mem0.set R.k (R.blk p) ++ ex) K := DrawV.at (S := l4AnyC_S) hR hty hle () hp hpre h
theorem l7InstC_c  (R : Rdr) (p : Int) (cx : Cx) (mem : List Blk) (w : World) (hty : R.ty = 160) (hR : R.Is (factF cx) mem) (hp : 0 ≤ p) (hpc : p + 110 ≤ 1125899906842624) (hpre : True) (hm : MemRel cx (mem.set R.k (R.blk p)) w) :
    Calls Tryz.prog 88 ((.p R.k R.b 0 :: [] : List C).map den).toArray w fun e w' => ∃ cx' x mem', e = .returned (den x) ∧ MemRel cx' mem' w' ∧ (fun cx' x mem' => ∃ v p', x = .v v ∧ mem' = mem.set R.k (R.blk p') ∧ Le cx cx' ∧ p ≤ p' ∧ p' ≤ p + 110 ∧ (∃ x, IsInst (factF cx') v x ∧ x.args.length ≤ 3)) cx' x mem' := by
  refine step_of_vcs ⟨[numC, l4CoilC, l4ContactC], []⟩ hmx Tryz.func88 rfl (by kernel_rfl) (args := .p R.k R.b 0 :: []) (by simp [Tryz.ntmps88]) hm (fun cx' x mem' => ∃ v p', x = .v v ∧ mem' = mem.set R.k (R.blk p') ∧ Le cx cx' ∧ p ≤ p' ∧ p' ≤ p + 110 ∧ (∃ x, IsInst (factF cx') v x ∧ x.args.length ≤ 3)) 400 ?_
  have hlt := hR.lt
  have hle := Le.refl cx
  (repeat' first
    | (with_reducible refine EndK.left ?_
       refine ⟨_, _, rfl, rfl, (by assumption), by omega, by omega, ?_⟩; first | exact ⟨⟨_, _, _⟩, ⟨_, _, rfl, ehd, ehc1, ehc2⟩, ehl⟩ | exact ⟨⟨_, 0, []⟩, ⟨none, 0, rfl, RdO.nil _ _ _, by simp, by decide⟩, by simp⟩; done)
    | (with_reducible refine EndK.all ?_
       refine ⟨_, _, rfl, rfl, (by assumption), by omega, by omega, ?_⟩; first | exact ⟨⟨_, _, _⟩, ⟨_, _, rfl, ehd, ehc1, ehc2⟩, ehl⟩ | exact ⟨⟨_, 0, []⟩, ⟨none, 0, rfl, RdO.nil _ _ _, by simp, by decide⟩, by simp⟩; done)
    | (with_reducible refine numC_lit0 hR hty ?_ hl ?_ ?_ ?_ ?_ ?_ ?_
       · assumption
       · rfl
       · rfl
       · exact ⟨by omega, by omega⟩
       · decide
       · decide
       rintro cx' _ p' hle - hp1 hp2 ⟨x, rfl, hx⟩)
    | (with_reducible refine numC_lit hR hty ?_ hl ?_ ?_ ?_ ?_ ?_ ?_
       · assumption
       · rfl
       · rfl
       · exact ⟨by omega, by omega⟩
       · decide
       · decide
       rintro cx' _ p' hle - hp1 hp2 ⟨x, rfl, hx⟩)
    | (with_reducible refine l4CoilC_at0 hR hty ?_ ?_ ?_ ?_
       · assumption
       · exact ⟨by omega, by omega⟩
       · trivial
       rintro cx' _ p' hle - hp1 hp2 ⟨eop, exs, ⟨⟨eo, ecap, rfl, ehd, ehc1, ehc2⟩⟩, ehl⟩)
    | (with_reducible refine l4CoilC_at hR hty ?_ ?_ ?_ ?_
       · assumption
       · exact ⟨by omega, by omega⟩
       · trivial
       rintro cx' _ p' hle - hp1 hp2 ⟨eop, exs, ⟨⟨eo, ecap, rfl, ehd, ehc1, ehc2⟩⟩, ehl⟩)
    | (with_reducible refine l4ContactC_at0 hR hty ?_ ?_ ?_ ?_
       · assumption
       · exact ⟨by omega, by omega⟩
       · trivial
       rintro cx' _ p' hle - hp1 hp2 ⟨eop, exs, ⟨⟨eo, ecap, rfl, ehd, ehc1, ehc2⟩⟩, ehl⟩)
    | (with_reducible refine l4ContactC_at hR hty ?_ ?_ ?_ ?_
       · assumption
       · exact ⟨by omega, by omega⟩
       · trivial
       rintro cx' _ p' hle - hp1 hp2 ⟨eop, exs, ⟨⟨eo, ecap, rfl, ehd, ehc1, ehc2⟩⟩, ehl⟩)
    | (with_reducible refine fun cx' q (hle' : Le _ cx') (hl : RdL _ q _) => ?_
       have hle := Le.trans (by assumption) hle'; (try simp [Sx.get, Sx.look, Sx.put, cellsC, Value.cells, den] at hl))
    | with_reducible refine And.intro ?_ ?_
    | with_reducible intro _
    | omega
    | simp (maxSteps := 4000000) -dsimp [-Y1, -Array.all_eq_true, -Y3, -Y4, and_assoc, Y5, Tryz.f88, numC, l4CoilC, l4ContactC, hlt])
def l7InstC_S : Draws Tryz.prog 160 110 88 where
  ι := Unit
  A := fun (_u : Unit) => []
  pre := fun (_u : Unit) (F : Facts) => True
  post := fun (_u : Unit) (v : Value) (F : Facts) => ∃ x, IsInst F v x ∧ x.args.length ≤ 3
  mono := fun _ _ _ _ _ => trivial
  enter := Tryz.call88
  h := fun _u R p cx mem w h1 h2 h3 h4 h5 h6 => l7InstC_c  R p cx mem w h1 h2 h3 h4 h5 h6
def l7InstC : Con Tryz.prog := Con.draw l7InstC_S
theorem l7InstC_at  {d : Nat} {R : Rdr} {cx0 cx : Cx} {mem0 : List Blk} {ex : List Blk} {K : Cx → C → List Blk → Prop} {p : Int} (hR : R.Is (factF cx0) mem0) (hty : R.ty = 160) (hle : Le cx0 cx) (hp : 0 ≤ p ∧ p + 110 ≤ 1125899906842624) (hpre : True)
    (h : ∀ cx' v p', Le cx0 cx' → Le cx cx' → p ≤ p' → p' ≤ p + 110 → (∃ x, IsInst (factF cx') v x ∧ x.args.length ≤ 3) → K cx' (.v v) (mem0.set R.k (R.blk p') ++ ex)) :
    DrawV d l7InstC_S cx [.p R.k R.b 0] (mem0.set R.k (R.blk p) ++ ex) K := DrawV.at (S := l7InstC_S) hR hty hle () hp hpre h
theorem l7InstC_at0  {d : Nat} {R : Rdr} {cx0 cx : Cx} {mem0 : List Blk} {K : Cx → C → List Blk → Prop} {p : Int} (hR : R.Is (factF cx0) mem0) (hty : R.ty = 160) (hle : Le cx0 cx) (hp : 0 ≤ p ∧ p + 110 ≤ 1125899906842624) (hpre : True)
    (h : ∀ cx' v p', Le cx0 cx' → Le cx cx' → p ≤ p' → p' ≤ p + 110 → (∃ x, IsInst (factF cx') v x ∧ x.args.length ≤ 3) → K cx' (.v v) (mem0.set R.k (R.blk p'))) :
    DrawV d l7InstC_S cx [.p R.k R.b 0] (mem0.set R.k (R.blk p)) K := DrawV.at0 (S := l7InstC_S) hR hty hle () hp hpre h
end Go.Proofs.YtclbanhoiaieaaaGreatDoor
