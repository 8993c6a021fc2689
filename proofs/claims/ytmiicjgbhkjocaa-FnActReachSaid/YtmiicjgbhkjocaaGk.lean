/-
  Contracts: what the law of coils draws; a memory with what a coil may change taken from another one.
-/
import Derived.Test.YtmiicjgbhkjocaaGj
import Derived.Test.YtmiicjgbhkjocaaSw
import Derived.Test.YtmiicjgbhkjocaaGe
import Derived.Test.YtmiicjgbhkjocaaLr
import Derived.Test.YtmiicjgbhkjocaaI
import Derived.Test.YtmiicjgbhkjocaaG
import Derived.Test.YtmiicjgbhkjocaaDo
import Derived.Test.YtmiicjgbhkjocaaEp
set_option linter.unusedVariables false
set_option linter.unusedSimpArgs false
set_option maxRecDepth 100000
set_option maxHeartbeats 4000000
namespace Go.Proofs.Ytmiicjgbhkjocaa
open Go Go.Sx

theorem open_is {cx : Cx} {mem : List Blk} {b : Nat} {o : Option Addr} {cap : Nat} {bs : List Int} (h : RdB (factF cx) o bs) (hb : ∀ b ∈ bs, 0 ≤ b ∧ b < 256) :
    (⟨mem.length, b, o, cap, bs.take 2000, 172⟩ : Rdr).Is (factF cx) (mem ++ [(⟨mem.length, b, o, cap, bs.take 2000, 172⟩ : Rdr).blk 0]) := by
  refine ⟨by simp, fun j x hx => ?_, fun x hx => hb x (List.mem_of_mem_take hx), by simp; omega⟩
  simp only [List.map_take] at hx
  rw [List.getElem?_take] at hx
  split at hx
  · exact h j x hx
  · simp at hx
theorem l10OpenC_c (o : Option Addr) (cap : Nat) (bs : List Int) (cx : Cx) (mem : List Blk) (w : World) (hpre : RdB (factF cx) o bs ∧ (∀ b ∈ bs, 0 ≤ b ∧ b < 256) ∧ bs.length ≤ cap ∧ cap ≤ maxLen) (hm : MemRel cx mem w) :
    Calls Try.prog 75 (([.v (.slice o bs.length cap)] : List C).map den).toArray w fun e w' => ∃ cx' c mem', e = .returned (den c) ∧ MemRel cx' mem' w' ∧ ∃ (R : Rdr) (mem0 : List Blk) (p0 : Int), c = .p R.k R.b 0 ∧ mem' = mem0.set R.k (R.blk p0) ∧ p0 = 0 ∧ R.Is (factF cx') mem0 ∧ R.ty = 172 ∧ Le cx cx' ∧ mem0.take mem.length = mem ∧ R.k = mem.length ∧ mem0.length = mem.length + 1 := by
  refine step_of_vcs ⟨[], []⟩ hmx Try.func75 rfl (by kernel_rfl) (args := [.v (.slice o bs.length cap)]) (by simp [Try.ntmps75]) hm (fun cx' c mem' => ∃ (R : Rdr) (mem0 : List Blk) (p0 : Int), c = .p R.k R.b 0 ∧ mem' = mem0.set R.k (R.blk p0) ∧ p0 = 0 ∧ R.Is (factF cx') mem0 ∧ R.ty = 172 ∧ Le cx cx' ∧ mem0.take mem.length = mem ∧ R.k = mem.length ∧ mem0.length = mem.length + 1) 400 ?_
  obtain ⟨h, hb, hc, hcm⟩ := hpre
  have hcm' : cap ≤ 9223372036854775807 := by unfold maxLen at hcm; omega
  by_cases h2 : 2000 < bs.length
  · have h2' : (2000 : Int) < bs.length := by omega
    have h3 : (2000 : Int) ≤ cap := by omega
    simp (maxSteps := 4000000) -dsimp [-List.all_eq_true, -Array.all_eq_true, -Bool.exists_bool, -Bool.forall_bool, vcsE1, vcsE2, vcsE3, vcsE4, vcsE5, vcsE6, vcsE7, vcsE8, vcsE9, vcsE10, vcsE11, vcsE12, vcsE13, vcsE14, vcsE15, vcsE16, vcsE17, vcsE18, vcsE19, Sx.get, Sx.look, Sx.put, pureFn, findOrd, unF, dstOk, isFloatT, endVC, resFn, packC, newFn, storeFn, buildFn, undef, known, aggT, cellsC, Value.cells, findCon, Con.pure, Con.some, allV, partsV, partsC, fillL, Sx.exitTo, fAr, C.one, Value.oneCell', eqFn, eqFieldsFn, eqElemsFn, partFn, and_assoc, List.zipIdx, sliceFn, boundFn, AppV, CopyV, MakeSliceV, NewsV, GrowV, TextV, bytesL, notInt, typeAt, argAt, Con.read, Con.make, Con.ext, Con.rel, den, Con.extS, Con.draw, Con.step, Draws.steps, Try.f75, h2', h3]
    intro b
    refine EndK.all ⟨⟨mem.length, b, o, cap, bs.take 2000, 172⟩, _, 0, rfl, ?_, rfl, open_is h hb, rfl, Le.refl _, by simp, rfl, by simp⟩
    simp [Rdr.blk]
    omega
  · have h2' : ¬ (2000 : Int) < bs.length := by omega
    simp (maxSteps := 4000000) -dsimp [-List.all_eq_true, -Array.all_eq_true, -Bool.exists_bool, -Bool.forall_bool, vcsE1, vcsE2, vcsE3, vcsE4, vcsE5, vcsE6, vcsE7, vcsE8, vcsE9, vcsE10, vcsE11, vcsE12, vcsE13, vcsE14, vcsE15, vcsE16, vcsE17, vcsE18, vcsE19, Sx.get, Sx.look, Sx.put, pureFn, findOrd, unF, dstOk, isFloatT, endVC, resFn, packC, newFn, storeFn, buildFn, undef, known, aggT, cellsC, Value.cells, findCon, Con.pure, Con.some, allV, partsV, partsC, fillL, Sx.exitTo, fAr, C.one, Value.oneCell', eqFn, eqFieldsFn, eqElemsFn, partFn, and_assoc, List.zipIdx, sliceFn, boundFn, AppV, CopyV, MakeSliceV, NewsV, GrowV, TextV, bytesL, notInt, typeAt, argAt, Con.read, Con.make, Con.ext, Con.rel, den, Con.extS, Con.draw, Con.step, Draws.steps, Try.f75, h2']
    intro b
    refine EndK.all ⟨⟨mem.length, b, o, cap, bs.take 2000, 172⟩, _, 0, rfl, ?_, rfl, open_is h hb, rfl, Le.refl _, by simp, rfl, by simp⟩
    simp [Rdr.blk]
    omega
def l10OpenC_S : Gens Try.prog 75 where
  ι := ((Option Addr) × (Nat) × (List Int))
  A := fun (i : ((Option Addr) × (Nat) × (List Int))) => match i with | (o, cap, bs) => [.v (.slice o bs.length cap)]
  pre := fun (i : ((Option Addr) × (Nat) × (List Int))) (cx : Cx) (mem : List Blk) => match i with | (o, cap, bs) => RdB (factF cx) o bs ∧ (∀ b ∈ bs, 0 ≤ b ∧ b < 256) ∧ bs.length ≤ cap ∧ cap ≤ maxLen
  post := fun (i : ((Option Addr) × (Nat) × (List Int))) (cx : Cx) (mem : List Blk) (cx' : Cx) (c : C) (mem' : List Blk) => match i with | (o, cap, bs) => ∃ (R : Rdr) (mem0 : List Blk) (p0 : Int), c = .p R.k R.b 0 ∧ mem' = mem0.set R.k (R.blk p0) ∧ p0 = 0 ∧ R.Is (factF cx') mem0 ∧ R.ty = 172 ∧ Le cx cx' ∧ mem0.take mem.length = mem ∧ R.k = mem.length ∧ mem0.length = mem.length + 1
  enter := Try.call75
  h := fun i cx mem w hp hm => l10OpenC_c i.1 i.2.1 i.2.2 cx mem w hp hm
def l10OpenC : Con Try.prog := Con.gen l10OpenC_S
theorem l10OpenC_at {o : Option Addr} {cap : Nat} {bs : List Int} {d : Nat} {cx : Cx} {mem : List Blk} {K : Cx → C → List Blk → Prop} (hpre : RdB (factF cx) o bs ∧ (∀ b ∈ bs, 0 ≤ b ∧ b < 256) ∧ bs.length ≤ cap ∧ cap ≤ maxLen) (h : ∀ cx' c mem', (∃ (R : Rdr) (mem0 : List Blk) (p0 : Int), c = .p R.k R.b 0 ∧ mem' = mem0.set R.k (R.blk p0) ∧ p0 = 0 ∧ R.Is (factF cx') mem0 ∧ R.ty = 172 ∧ Le cx cx' ∧ mem0.take mem.length = mem ∧ R.k = mem.length ∧ mem0.length = mem.length + 1) → K cx' c mem') : GenV d l10OpenC_S cx [.v (.slice o bs.length cap)] mem K := ⟨(o, cap, bs), rfl, hpre, h⟩
theorem l5AsksC_c  (R : Rdr) (p : Int) (cx : Cx) (mem : List Blk) (w : World) (hty : R.ty = 172) (hR : R.Is (factF cx) mem) (hp : 0 ≤ p) (hpc : p + 25 ≤ 1125899906842624) (hpre : True) (hm : MemRel cx (mem.set R.k (R.blk p)) w) :
    Calls Try.prog 77 ((.p R.k R.b 0 :: [] : List C).map den).toArray w fun e w' => ∃ cx' x mem', e = .returned (den x) ∧ MemRel cx' mem' w' ∧ (fun cx' x mem' => ∃ v p', x = .v v ∧ mem' = mem.set R.k (R.blk p') ∧ Le cx cx' ∧ p ≤ p' ∧ p' ≤ p + 25 ∧ (∃ k n q, v = .agg #[.int .i64 k, .int .i64 n, .int .i64 q])) cx' x mem' := by
  refine step_of_vcs ⟨[pickC, numC, l2AnyC], [(3, [(0, false), (1, false), (2, false), (3, false), (1, true), (4, false), (1, true), (5, false), (6, false), (7, false)])]⟩ hmx Try.func77 rfl (by kernel_rfl) (args := .p R.k R.b 0 :: []) (by simp [Try.ntmps77]) hm (fun cx' x mem' => ∃ v p', x = .v v ∧ mem' = mem.set R.k (R.blk p') ∧ Le cx cx' ∧ p ≤ p' ∧ p' ≤ p + 25 ∧ (∃ k n q, v = .agg #[.int .i64 k, .int .i64 n, .int .i64 q])) 400 ?_
  have hlt := hR.lt
  have hle := Le.refl cx
  (repeat' first
    | (with_reducible refine EndK.left ?_
       refine ⟨_, _, rfl, rfl, (by assumption), by omega, by omega, ?_⟩; exact ⟨_, _, _, rfl⟩; done)
    | (with_reducible refine EndK.all ?_
       refine ⟨_, _, rfl, rfl, (by assumption), by omega, by omega, ?_⟩; exact ⟨_, _, _, rfl⟩; done)
    | (with_reducible refine pickC_at0 hR hty ?_ ?_ ?_ ?_
       · assumption
       · exact ⟨by omega, by omega⟩
       · omega
       rintro cx' _ p' hle - hp1 hp2 ⟨x, rfl, hx1, hx2⟩)
    | (with_reducible refine pickC_at hR hty ?_ ?_ ?_ ?_
       · assumption
       · exact ⟨by omega, by omega⟩
       · omega
       rintro cx' _ p' hle - hp1 hp2 ⟨x, rfl, hx1, hx2⟩)
    | (with_reducible refine numC_lit0 hR hty ?_ hl ?_ ?_ ?_ ?_ ?_ ?_
       · assumption
       · rfl
       · rfl
       · exact ⟨by omega, by omega⟩
       · decide
       · decide
       rintro cx' _ p' hle - hp1 hp2 ⟨x, rfl, hx⟩)
    | (with_reducible refine numC_lit hR hty ?_ hl ?_ ?_ ?_ ?_ ?_ ?_
       · assumption
       · rfl
       · rfl
       · exact ⟨by omega, by omega⟩
       · decide
       · decide
       rintro cx' _ p' hle - hp1 hp2 ⟨x, rfl, hx⟩)
    | (with_reducible refine l2AnyC_at0 hR hty ?_ ?_ ?_ ?_
       · assumption
       · exact ⟨by omega, by omega⟩
       · trivial
       rintro cx' _ p' hle - hp1 hp2 ⟨ak, an, aq, rfl⟩)
    | (with_reducible refine l2AnyC_at hR hty ?_ ?_ ?_ ?_
       · assumption
       · exact ⟨by omega, by omega⟩
       · trivial
       rintro cx' _ p' hle - hp1 hp2 ⟨ak, an, aq, rfl⟩)
    | (with_reducible refine fun cx' q (hle' : Le _ cx') (hl : RdL _ q _) => ?_
       have hle := Le.trans (by assumption) hle'; (try simp [Sx.get, Sx.look, Sx.put, cellsC, Value.cells, den] at hl))
    | with_reducible refine And.intro ?_ ?_
    | with_reducible intro _
    | omega
    | simp (maxSteps := 4000000) -dsimp [-List.all_eq_true, -Array.all_eq_true, -Bool.exists_bool, -Bool.forall_bool, vcsE1, vcsE2, vcsE3, vcsE4, vcsE5, vcsE6, vcsE7, vcsE8, vcsE9, vcsE10, vcsE11, vcsE12, vcsE13, vcsE14, vcsE15, vcsE16, vcsE17, vcsE18, vcsE19, Sx.get, Sx.look, Sx.put, pureFn, findOrd, unF, dstOk, isFloatT, endVC, resFn, packC, newFn, storeFn, buildFn, undef, known, aggT, cellsC, Value.cells, findCon, Con.pure, Con.some, allV, partsV, partsC, fillL, Sx.exitTo, fAr, C.one, Value.oneCell', eqFn, eqFieldsFn, eqElemsFn, partFn, and_assoc, List.zipIdx, sliceFn, boundFn, AppV, CopyV, MakeSliceV, NewsV, GrowV, TextV, bytesL, notInt, typeAt, argAt, Con.read, Con.make, Con.ext, Con.rel, den, Con.extS, Con.draw, Con.step, Draws.steps, Try.f77, pickC, numC, l2AnyC, hlt])
def l5AsksC_S : Draws Try.prog 172 25 77 where
  ι := Unit
  A := fun (_u : Unit) => []
  pre := fun (_u : Unit) (F : Facts) => True
  post := fun (_u : Unit) (v : Value) (F : Facts) => ∃ k n q, v = .agg #[.int .i64 k, .int .i64 n, .int .i64 q]
  mono := fun _ _ _ _ _ => trivial
  enter := Try.call77
  h := fun _u R p cx mem w h1 h2 h3 h4 h5 h6 => l5AsksC_c  R p cx mem w h1 h2 h3 h4 h5 h6
def l5AsksC : Con Try.prog := Con.draw l5AsksC_S
theorem l5AsksC_at  {d : Nat} {R : Rdr} {cx0 cx : Cx} {mem0 : List Blk} {ex : List Blk} {K : Cx → C → List Blk → Prop} {p : Int} (hR : R.Is (factF cx0) mem0) (hty : R.ty = 172) (hle : Le cx0 cx) (hp : 0 ≤ p ∧ p + 25 ≤ 1125899906842624) (hpre : True)
    (h : ∀ cx' v p', Le cx0 cx' → Le cx cx' → p ≤ p' → p' ≤ p + 25 → (∃ k n q, v = .agg #[.int .i64 k, .int .i64 n, .int .i64 q]) → K cx' (.v v) (mem0.set R.k (R.blk p') ++ ex)) :
    DrawV d l5AsksC_S cx [.p R.k R.b 0] (mem0.set R.k (R.blk p) ++ ex) K := DrawV.at (S := l5AsksC_S) hR hty hle () hp hpre h
theorem l5AsksC_at0  {d : Nat} {R : Rdr} {cx0 cx : Cx} {mem0 : List Blk} {K : Cx → C → List Blk → Prop} {p : Int} (hR : R.Is (factF cx0) mem0) (hty : R.ty = 172) (hle : Le cx0 cx) (hp : 0 ≤ p ∧ p + 25 ≤ 1125899906842624) (hpre : True)
    (h : ∀ cx' v p', Le cx0 cx' → Le cx cx' → p ≤ p' → p' ≤ p + 25 → (∃ k n q, v = .agg #[.int .i64 k, .int .i64 n, .int .i64 q]) → K cx' (.v v) (mem0.set R.k (R.blk p'))) :
    DrawV d l5AsksC_S cx [.p R.k R.b 0] (mem0.set R.k (R.blk p)) K := DrawV.at0 (S := l5AsksC_S) hR hty hle () hp hpre h
theorem take_get {mem0 mem : List Blk} {n : Nat} (h : mem0.take n = mem) (k : Nat) (hk : k < mem.length) : mem0[k]? = some (mem[k]'hk) := by
  subst h
  rw [List.length_take] at hk
  simp [show k < n by omega, show k < mem0.length by omega]
theorem drawMemPutC_c (o : Option Addr) (cap : Nat) (bs : List Int) (w : World) (hpre : RdB (factF ⟨w, [], w, []⟩) o bs ∧ (∀ b ∈ bs, 0 ≤ b ∧ b < 256) ∧ bs.length ≤ cap ∧ cap ≤ maxLen) : Calls Try.prog 28 #[.slice o bs.length cap] w fun e w' => ∃ v, e = .returned v ∧ (fun v => ∃ m k n q b, v = .tuple #[.agg (cells m), .agg #[.int .i64 k, .int .i64 n, .int .i64 q], .bool b] ∧ MOk m) v ∧ RowKit.Below w.heap.size w w' := by
  refine plain_of_vcs ⟨[l10OpenC, pickC, l5AsksC, l2ArgC, l5DrawC], [(6, [(0, false), (2, false), (3, false), (1, false), (2, true), (4, false), (2, true), (5, false), (6, false)])]⟩ hmx Try.func28 rfl (by kernel_rfl) (args := [.slice o bs.length cap]) (by simp [Try.ntmps28]) w (fun v => ∃ m k n q b, v = .tuple #[.agg (cells m), .agg #[.int .i64 k, .int .i64 n, .int .i64 q], .bool b] ∧ MOk m) 400 ?_
  simp (maxSteps := 4000000) -dsimp [-List.all_eq_true, -Array.all_eq_true, -Bool.exists_bool, -Bool.forall_bool, vcsE1, vcsE2, vcsE3, vcsE4, vcsE5, vcsE6, vcsE7, vcsE8, vcsE9, vcsE10, vcsE11, vcsE12, vcsE13, vcsE14, vcsE15, vcsE16, vcsE17, vcsE18, vcsE19, Sx.get, Sx.look, Sx.put, pureFn, findOrd, unF, dstOk, isFloatT, endVC, resFn, packC, newFn, storeFn, buildFn, undef, known, aggT, cellsC, Value.cells, findCon, Con.pure, Con.some, allV, partsV, partsC, fillL, Sx.exitTo, fAr, C.one, Value.oneCell', eqFn, eqFieldsFn, eqElemsFn, partFn, and_assoc, List.zipIdx, sliceFn, boundFn, AppV, CopyV, MakeSliceV, NewsV, GrowV, TextV, bytesL, notInt, typeAt, argAt, Con.read, Con.make, Con.ext, Con.rel, den, Con.extS, Con.draw, Con.step, Draws.steps, Try.f28, l10OpenC, pickC, l5AsksC, l2ArgC, l5DrawC, Con.gen]
  intro b b1
  refine l10OpenC_at hpre ?_
  rintro cx1 c mem1 ⟨R, mem0, p, rfl, rfl, hp, hR, hty, hle1, h1, h2, h3⟩
  have hk0 := take_get h1 0 (by simp)
  have hk1 := take_get h1 1 (by simp)
  simp at hk0 hk1 h2 h3
  have hj0 := (List.getElem?_eq_some_iff.1 hk0).2
  have hj1 := (List.getElem?_eq_some_iff.1 hk1).2
  have hn0 : ¬ R.k = 0 := by omega
  have hn1 : ¬ R.k = 1 := by omega
  have hlt := hR.lt
  have hle := Le.refl cx1
  have hw := hle1.w0
  have hg := hle1.g0
  have key : ∀ {cx' : Cx}, Le cx1 cx' → cx'.w0 = w ∧ cx'.g0 = [] := fun h => ⟨h.w0.trans hw, h.g0.trans hg⟩
  simp (maxSteps := 4000000) -dsimp [-List.all_eq_true, -Array.all_eq_true, -Bool.exists_bool, -Bool.forall_bool, vcsE1, vcsE2, vcsE3, vcsE4, vcsE5, vcsE6, vcsE7, vcsE8, vcsE9, vcsE10, vcsE11, vcsE12, vcsE13, vcsE14, vcsE15, vcsE16, vcsE17, vcsE18, vcsE19, Sx.get, Sx.look, Sx.put, pureFn, findOrd, unF, dstOk, isFloatT, endVC, resFn, packC, newFn, storeFn, buildFn, undef, known, aggT, cellsC, Value.cells, findCon, Con.pure, Con.some, allV, partsV, partsC, fillL, Sx.exitTo, fAr, C.one, Value.oneCell', eqFn, eqFieldsFn, eqElemsFn, partFn, and_assoc, List.zipIdx, sliceFn, boundFn, AppV, CopyV, MakeSliceV, NewsV, GrowV, TextV, bytesL, notInt, typeAt, argAt, Con.read, Con.make, Con.ext, Con.rel, den, Con.extS, Con.draw, Con.step, Draws.steps, Try.f28, l10OpenC, pickC, l5AsksC, l2ArgC, l5DrawC]
  (repeat' first
    | (with_reducible refine EndK.left ?_
       refine ⟨_, _, rfl, rfl, (by assumption), by omega, by omega, ?_⟩; skip; done)
    | (with_reducible refine EndK.all ?_
       refine ⟨_, _, rfl, rfl, (by assumption), by omega, by omega, ?_⟩; skip; done)
    | (with_reducible refine pickC_at0 hR hty ?_ ?_ ?_ ?_
       · assumption
       · exact ⟨by omega, by omega⟩
       · omega
       rintro cx' _ p' hle - hp1 hp2 ⟨x, rfl, hx1, hx2⟩)
    | (with_reducible refine pickC_at hR hty ?_ ?_ ?_ ?_
       · assumption
       · exact ⟨by omega, by omega⟩
       · omega
       rintro cx' _ p' hle - hp1 hp2 ⟨x, rfl, hx1, hx2⟩)
    | (with_reducible refine l5AsksC_at0 hR hty ?_ ?_ ?_ ?_
       · assumption
       · exact ⟨by omega, by omega⟩
       · trivial
       rintro cx' _ p' hle - hp1 hp2 ⟨ak, an, aq, rfl⟩)
    | (with_reducible refine l5AsksC_at hR hty ?_ ?_ ?_ ?_
       · assumption
       · exact ⟨by omega, by omega⟩
       · trivial
       rintro cx' _ p' hle - hp1 hp2 ⟨ak, an, aq, rfl⟩)
    | (with_reducible refine l2ArgC_at0 hR hty ?_ ?_ ?_ ?_
       · assumption
       · exact ⟨by omega, by omega⟩
       · trivial
       rintro cx' _ p' hle - hp1 hp2 ⟨ak, an, aq, rfl⟩)
    | (with_reducible refine l2ArgC_at hR hty ?_ ?_ ?_ ?_
       · assumption
       · exact ⟨by omega, by omega⟩
       · trivial
       rintro cx' _ p' hle - hp1 hp2 ⟨ak, an, aq, rfl⟩)
    | (with_reducible refine l5DrawC_at0 hR hty ?_ ?_ ?_ ?_
       · assumption
       · exact ⟨by omega, by omega⟩
       · trivial
       rintro cx' _ p' hle - hp1 hp2 ⟨dm, rfl, hdm⟩)
    | (with_reducible refine l5DrawC_at hR hty ?_ ?_ ?_ ?_
       · assumption
       · exact ⟨by omega, by omega⟩
       · trivial
       rintro cx' _ p' hle - hp1 hp2 ⟨dm, rfl, hdm⟩)
    | (with_reducible refine fun cx' q (hle' : Le _ cx') (hl : RdL _ q _) => ?_
       have hle := Le.trans (by assumption) hle'; (try simp [Sx.get, Sx.look, Sx.put, cellsC, Value.cells, den] at hl))
    | with_reducible refine And.intro ?_ ?_
    | with_reducible intro _
    | omega
    | simp (maxSteps := 4000000) -dsimp [-List.all_eq_true, -Array.all_eq_true, -Bool.exists_bool, -Bool.forall_bool, vcsE1, vcsE2, vcsE3, vcsE4, vcsE5, vcsE6, vcsE7, vcsE8, vcsE9, vcsE10, vcsE11, vcsE12, vcsE13, vcsE14, vcsE15, vcsE16, vcsE17, vcsE18, vcsE19, Sx.get, Sx.look, Sx.put, pureFn, findOrd, unF, dstOk, isFloatT, endVC, resFn, packC, newFn, storeFn, buildFn, undef, known, aggT, cellsC, Value.cells, findCon, Con.pure, Con.some, allV, partsV, partsC, fillL, Sx.exitTo, fAr, C.one, Value.oneCell', eqFn, eqFieldsFn, eqElemsFn, partFn, and_assoc, List.zipIdx, sliceFn, boundFn, AppV, CopyV, MakeSliceV, NewsV, GrowV, TextV, bytesL, notInt, typeAt, argAt, Con.read, Con.make, Con.ext, Con.rel, den, Con.extS, Con.draw, Con.step, Draws.steps, Try.f28, l10OpenC, pickC, l5AsksC, l2ArgC, l5DrawC, hlt, hk0, hk1, hj0, hj1, h3, hn0, hn1, List.getElem?_append, List.set_append, List.getElem?_set])
  all_goals first | exact (key (by assumption)).1 | exact (key (by assumption)).2 | exact ⟨_, rfl, by assumption⟩ | assumption | (refine ⟨_, rfl, ?_⟩; assumption)
def drawMemPutC_S : Rels Try.prog 28 where
  ι := ((Option Addr) × (Nat) × (List Int))
  A := fun (i : ((Option Addr) × (Nat) × (List Int))) => match i with | (o, cap, bs) => [.slice o bs.length cap]
  pre := fun (i : ((Option Addr) × (Nat) × (List Int))) (F : Facts) => match i with | (o, cap, bs) => RdB F o bs ∧ (∀ b ∈ bs, 0 ≤ b ∧ b < 256) ∧ bs.length ≤ cap ∧ cap ≤ maxLen
  post := fun (i : ((Option Addr) × (Nat) × (List Int))) => match i with | (o, cap, bs) => fun v => ∃ m k n q b, v = .tuple #[.agg (cells m), .agg #[.int .i64 k, .int .i64 n, .int .i64 q], .bool b] ∧ MOk m
  mono := by
    intro i F G hs h
    first | exact h | exact h.mono hs | exact ⟨h.1.mono hs, h.2⟩ | exact ⟨h.1.mono hs, h.2.1.mono hs, h.2.2⟩ | exact ⟨h.1.mono hs, h.2.1.mono hs⟩
  enter := Try.call28
  h := fun i w hp => drawMemPutC_c i.1 i.2.1 i.2.2 w (by rw [factF_init]; exact hp)
def drawMemPutC : Con Try.prog := Con.rel drawMemPutC_S
theorem drawMemBitC_c (o : Option Addr) (cap : Nat) (bs : List Int) (w : World) (hpre : RdB (factF ⟨w, [], w, []⟩) o bs ∧ (∀ b ∈ bs, 0 ≤ b ∧ b < 256) ∧ bs.length ≤ cap ∧ cap ≤ maxLen) : Calls Try.prog 31 #[.slice o bs.length cap] w fun e w' => ∃ v, e = .returned v ∧ (fun v => ∃ m k n q, v = .tuple #[.agg (cells m), .agg #[.int .i64 k, .int .i64 n, .int .i64 q]] ∧ MOk m) v ∧ RowKit.Below w.heap.size w w' := by
  refine plain_of_vcs ⟨[l10OpenC, l5AsksC, l5DrawC], [(3, [(0, false), (2, false), (1, false), (2, true), (3, false), (2, true), (4, false)])]⟩ hmx Try.func31 rfl (by kernel_rfl) (args := [.slice o bs.length cap]) (by simp [Try.ntmps31]) w (fun v => ∃ m k n q, v = .tuple #[.agg (cells m), .agg #[.int .i64 k, .int .i64 n, .int .i64 q]] ∧ MOk m) 400 ?_
  simp (maxSteps := 4000000) -dsimp [-List.all_eq_true, -Array.all_eq_true, -Bool.exists_bool, -Bool.forall_bool, vcsE1, vcsE2, vcsE3, vcsE4, vcsE5, vcsE6, vcsE7, vcsE8, vcsE9, vcsE10, vcsE11, vcsE12, vcsE13, vcsE14, vcsE15, vcsE16, vcsE17, vcsE18, vcsE19, Sx.get, Sx.look, Sx.put, pureFn, findOrd, unF, dstOk, isFloatT, endVC, resFn, packC, newFn, storeFn, buildFn, undef, known, aggT, cellsC, Value.cells, findCon, Con.pure, Con.some, allV, partsV, partsC, fillL, Sx.exitTo, fAr, C.one, Value.oneCell', eqFn, eqFieldsFn, eqElemsFn, partFn, and_assoc, List.zipIdx, sliceFn, boundFn, AppV, CopyV, MakeSliceV, NewsV, GrowV, TextV, bytesL, notInt, typeAt, argAt, Con.read, Con.make, Con.ext, Con.rel, den, Con.extS, Con.draw, Con.step, Draws.steps, Try.f31, l10OpenC, l5AsksC, l5DrawC, Con.gen]
  intro b b1
  refine l10OpenC_at hpre ?_
  rintro cx1 c mem1 ⟨R, mem0, p, rfl, rfl, hp, hR, hty, hle1, h1, h2, h3⟩
  have hk0 := take_get h1 0 (by simp)
  have hk1 := take_get h1 1 (by simp)
  simp at hk0 hk1 h2 h3
  have hj0 := (List.getElem?_eq_some_iff.1 hk0).2
  have hj1 := (List.getElem?_eq_some_iff.1 hk1).2
  have hn0 : ¬ R.k = 0 := by omega
  have hn1 : ¬ R.k = 1 := by omega
  have hlt := hR.lt
  have hle := Le.refl cx1
  have hw := hle1.w0
  have hg := hle1.g0
  have key : ∀ {cx' : Cx}, Le cx1 cx' → cx'.w0 = w ∧ cx'.g0 = [] := fun h => ⟨h.w0.trans hw, h.g0.trans hg⟩
  simp (maxSteps := 4000000) -dsimp [-List.all_eq_true, -Array.all_eq_true, -Bool.exists_bool, -Bool.forall_bool, vcsE1, vcsE2, vcsE3, vcsE4, vcsE5, vcsE6, vcsE7, vcsE8, vcsE9, vcsE10, vcsE11, vcsE12, vcsE13, vcsE14, vcsE15, vcsE16, vcsE17, vcsE18, vcsE19, Sx.get, Sx.look, Sx.put, pureFn, findOrd, unF, dstOk, isFloatT, endVC, resFn, packC, newFn, storeFn, buildFn, undef, known, aggT, cellsC, Value.cells, findCon, Con.pure, Con.some, allV, partsV, partsC, fillL, Sx.exitTo, fAr, C.one, Value.oneCell', eqFn, eqFieldsFn, eqElemsFn, partFn, and_assoc, List.zipIdx, sliceFn, boundFn, AppV, CopyV, MakeSliceV, NewsV, GrowV, TextV, bytesL, notInt, typeAt, argAt, Con.read, Con.make, Con.ext, Con.rel, den, Con.extS, Con.draw, Con.step, Draws.steps, Try.f31, l10OpenC, l5AsksC, l5DrawC]
  (repeat' first
    | (with_reducible refine EndK.left ?_
       refine ⟨_, _, rfl, rfl, (by assumption), by omega, by omega, ?_⟩; skip; done)
    | (with_reducible refine EndK.all ?_
       refine ⟨_, _, rfl, rfl, (by assumption), by omega, by omega, ?_⟩; skip; done)
    | (with_reducible refine l5AsksC_at0 hR hty ?_ ?_ ?_ ?_
       · assumption
       · exact ⟨by omega, by omega⟩
       · trivial
       rintro cx' _ p' hle - hp1 hp2 ⟨ak, an, aq, rfl⟩)
    | (with_reducible refine l5AsksC_at hR hty ?_ ?_ ?_ ?_
       · assumption
       · exact ⟨by omega, by omega⟩
       · trivial
       rintro cx' _ p' hle - hp1 hp2 ⟨ak, an, aq, rfl⟩)
    | (with_reducible refine l5DrawC_at0 hR hty ?_ ?_ ?_ ?_
       · assumption
       · exact ⟨by omega, by omega⟩
       · trivial
       rintro cx' _ p' hle - hp1 hp2 ⟨dm, rfl, hdm⟩)
    | (with_reducible refine l5DrawC_at hR hty ?_ ?_ ?_ ?_
       · assumption
       · exact ⟨by omega, by omega⟩
       · trivial
       rintro cx' _ p' hle - hp1 hp2 ⟨dm, rfl, hdm⟩)
    | (with_reducible refine fun cx' q (hle' : Le _ cx') (hl : RdL _ q _) => ?_
       have hle := Le.trans (by assumption) hle'; (try simp [Sx.get, Sx.look, Sx.put, cellsC, Value.cells, den] at hl))
    | with_reducible refine And.intro ?_ ?_
    | with_reducible intro _
    | omega
    | simp (maxSteps := 4000000) -dsimp [-List.all_eq_true, -Array.all_eq_true, -Bool.exists_bool, -Bool.forall_bool, vcsE1, vcsE2, vcsE3, vcsE4, vcsE5, vcsE6, vcsE7, vcsE8, vcsE9, vcsE10, vcsE11, vcsE12, vcsE13, vcsE14, vcsE15, vcsE16, vcsE17, vcsE18, vcsE19, Sx.get, Sx.look, Sx.put, pureFn, findOrd, unF, dstOk, isFloatT, endVC, resFn, packC, newFn, storeFn, buildFn, undef, known, aggT, cellsC, Value.cells, findCon, Con.pure, Con.some, allV, partsV, partsC, fillL, Sx.exitTo, fAr, C.one, Value.oneCell', eqFn, eqFieldsFn, eqElemsFn, partFn, and_assoc, List.zipIdx, sliceFn, boundFn, AppV, CopyV, MakeSliceV, NewsV, GrowV, TextV, bytesL, notInt, typeAt, argAt, Con.read, Con.make, Con.ext, Con.rel, den, Con.extS, Con.draw, Con.step, Draws.steps, Try.f31, l10OpenC, l5AsksC, l5DrawC, hlt, hk0, hk1, hj0, hj1, h3, hn0, hn1, List.getElem?_append, List.set_append, List.getElem?_set])
  all_goals first | exact (key (by assumption)).1 | exact (key (by assumption)).2 | exact ⟨_, rfl, by assumption⟩ | assumption | (refine ⟨_, rfl, ?_⟩; assumption)
def drawMemBitC_S : Rels Try.prog 31 where
  ι := ((Option Addr) × (Nat) × (List Int))
  A := fun (i : ((Option Addr) × (Nat) × (List Int))) => match i with | (o, cap, bs) => [.slice o bs.length cap]
  pre := fun (i : ((Option Addr) × (Nat) × (List Int))) (F : Facts) => match i with | (o, cap, bs) => RdB F o bs ∧ (∀ b ∈ bs, 0 ≤ b ∧ b < 256) ∧ bs.length ≤ cap ∧ cap ≤ maxLen
  post := fun (i : ((Option Addr) × (Nat) × (List Int))) => match i with | (o, cap, bs) => fun v => ∃ m k n q, v = .tuple #[.agg (cells m), .agg #[.int .i64 k, .int .i64 n, .int .i64 q]] ∧ MOk m
  mono := by
    intro i F G hs h
    first | exact h | exact h.mono hs | exact ⟨h.1.mono hs, h.2⟩ | exact ⟨h.1.mono hs, h.2.1.mono hs, h.2.2⟩ | exact ⟨h.1.mono hs, h.2.1.mono hs⟩
  enter := Try.call31
  h := fun i w hp => drawMemBitC_c i.1 i.2.1 i.2.2 w (by rw [factF_init]; exact hp)
def drawMemBitC : Con Try.prog := Con.rel drawMemBitC_S
theorem drawMemPutWholeC_c (o : Option Addr) (cap : Nat) (bs : List Int) (w : World) (hpre : RdB (factF ⟨w, [], w, []⟩) o bs ∧ (∀ b ∈ bs, 0 ≤ b ∧ b < 256) ∧ bs.length ≤ cap ∧ cap ≤ maxLen) : Calls Try.prog 21 #[.slice o bs.length cap] w fun e w' => ∃ v, e = .returned v ∧ (fun v => ∃ m k n q x, v = .tuple #[.agg (cells m), .agg #[.int .i64 k, .int .i64 n, .int .i64 q], .int .i16 x] ∧ MOk m ∧ -32768 ≤ x ∧ x ≤ 32767) v ∧ RowKit.Below w.heap.size w w' := by
  refine plain_of_vcs ⟨[l10OpenC, pickC, l3WholeC, l5AsksC, l2ArgC, l5DrawC], [(6, [(0, false), (2, false), (3, false), (1, false), (2, true), (4, false), (2, true), (5, false), (6, false)])]⟩ hmx Try.func21 rfl (by kernel_rfl) (args := [.slice o bs.length cap]) (by simp [Try.ntmps21]) w (fun v => ∃ m k n q x, v = .tuple #[.agg (cells m), .agg #[.int .i64 k, .int .i64 n, .int .i64 q], .int .i16 x] ∧ MOk m ∧ -32768 ≤ x ∧ x ≤ 32767) 400 ?_
  simp (maxSteps := 4000000) -dsimp [-List.all_eq_true, -Array.all_eq_true, -Bool.exists_bool, -Bool.forall_bool, vcsE1, vcsE2, vcsE3, vcsE4, vcsE5, vcsE6, vcsE7, vcsE8, vcsE9, vcsE10, vcsE11, vcsE12, vcsE13, vcsE14, vcsE15, vcsE16, vcsE17, vcsE18, vcsE19, Sx.get, Sx.look, Sx.put, pureFn, findOrd, unF, dstOk, isFloatT, endVC, resFn, packC, newFn, storeFn, buildFn, undef, known, aggT, cellsC, Value.cells, findCon, Con.pure, Con.some, allV, partsV, partsC, fillL, Sx.exitTo, fAr, C.one, Value.oneCell', eqFn, eqFieldsFn, eqElemsFn, partFn, and_assoc, List.zipIdx, sliceFn, boundFn, AppV, CopyV, MakeSliceV, NewsV, GrowV, TextV, bytesL, notInt, typeAt, argAt, Con.read, Con.make, Con.ext, Con.rel, den, Con.extS, Con.draw, Con.step, Draws.steps, Try.f21, l10OpenC, pickC, l3WholeC, l5AsksC, l2ArgC, l5DrawC, Con.gen]
  intro b b1
  refine l10OpenC_at hpre ?_
  rintro cx1 c mem1 ⟨R, mem0, p, rfl, rfl, hp, hR, hty, hle1, h1, h2, h3⟩
  have hk0 := take_get h1 0 (by simp)
  have hk1 := take_get h1 1 (by simp)
  simp at hk0 hk1 h2 h3
  have hj0 := (List.getElem?_eq_some_iff.1 hk0).2
  have hj1 := (List.getElem?_eq_some_iff.1 hk1).2
  have hn0 : ¬ R.k = 0 := by omega
  have hn1 : ¬ R.k = 1 := by omega
  have hlt := hR.lt
  have hle := Le.refl cx1
  have hw := hle1.w0
  have hg := hle1.g0
  have key : ∀ {cx' : Cx}, Le cx1 cx' → cx'.w0 = w ∧ cx'.g0 = [] := fun h => ⟨h.w0.trans hw, h.g0.trans hg⟩
  simp (maxSteps := 4000000) -dsimp [-List.all_eq_true, -Array.all_eq_true, -Bool.exists_bool, -Bool.forall_bool, vcsE1, vcsE2, vcsE3, vcsE4, vcsE5, vcsE6, vcsE7, vcsE8, vcsE9, vcsE10, vcsE11, vcsE12, vcsE13, vcsE14, vcsE15, vcsE16, vcsE17, vcsE18, vcsE19, Sx.get, Sx.look, Sx.put, pureFn, findOrd, unF, dstOk, isFloatT, endVC, resFn, packC, newFn, storeFn, buildFn, undef, known, aggT, cellsC, Value.cells, findCon, Con.pure, Con.some, allV, partsV, partsC, fillL, Sx.exitTo, fAr, C.one, Value.oneCell', eqFn, eqFieldsFn, eqElemsFn, partFn, and_assoc, List.zipIdx, sliceFn, boundFn, AppV, CopyV, MakeSliceV, NewsV, GrowV, TextV, bytesL, notInt, typeAt, argAt, Con.read, Con.make, Con.ext, Con.rel, den, Con.extS, Con.draw, Con.step, Draws.steps, Try.f21, l10OpenC, pickC, l3WholeC, l5AsksC, l2ArgC, l5DrawC]
  (repeat' first
    | (with_reducible refine EndK.left ?_
       refine ⟨_, _, rfl, rfl, (by assumption), by omega, by omega, ?_⟩; skip; done)
    | (with_reducible refine EndK.all ?_
       refine ⟨_, _, rfl, rfl, (by assumption), by omega, by omega, ?_⟩; skip; done)
    | (with_reducible refine pickC_at0 hR hty ?_ ?_ ?_ ?_
       · assumption
       · exact ⟨by omega, by omega⟩
       · omega
       rintro cx' _ p' hle - hp1 hp2 ⟨x, rfl, hx1, hx2⟩)
    | (with_reducible refine pickC_at hR hty ?_ ?_ ?_ ?_
       · assumption
       · exact ⟨by omega, by omega⟩
       · omega
       rintro cx' _ p' hle - hp1 hp2 ⟨x, rfl, hx1, hx2⟩)
    | (with_reducible refine l3WholeC_at0 hR hty ?_ ?_ ?_ ?_
       · assumption
       · exact ⟨by omega, by omega⟩
       · trivial
       rintro cx' _ p' hle - hp1 hp2 ⟨ix, rfl, hi1, hi2⟩)
    | (with_reducible refine l3WholeC_at hR hty ?_ ?_ ?_ ?_
       · assumption
       · exact ⟨by omega, by omega⟩
       · trivial
       rintro cx' _ p' hle - hp1 hp2 ⟨ix, rfl, hi1, hi2⟩)
    | (with_reducible refine l5AsksC_at0 hR hty ?_ ?_ ?_ ?_
       · assumption
       · exact ⟨by omega, by omega⟩
       · trivial
       rintro cx' _ p' hle - hp1 hp2 ⟨ak, an, aq, rfl⟩)
    | (with_reducible refine l5AsksC_at hR hty ?_ ?_ ?_ ?_
       · assumption
       · exact ⟨by omega, by omega⟩
       · trivial
       rintro cx' _ p' hle - hp1 hp2 ⟨ak, an, aq, rfl⟩)
    | (with_reducible refine l2ArgC_at0 hR hty ?_ ?_ ?_ ?_
       · assumption
       · exact ⟨by omega, by omega⟩
       · trivial
       rintro cx' _ p' hle - hp1 hp2 ⟨ak, an, aq, rfl⟩)
    | (with_reducible refine l2ArgC_at hR hty ?_ ?_ ?_ ?_
       · assumption
       · exact ⟨by omega, by omega⟩
       · trivial
       rintro cx' _ p' hle - hp1 hp2 ⟨ak, an, aq, rfl⟩)
    | (with_reducible refine l5DrawC_at0 hR hty ?_ ?_ ?_ ?_
       · assumption
       · exact ⟨by omega, by omega⟩
       · trivial
       rintro cx' _ p' hle - hp1 hp2 ⟨dm, rfl, hdm⟩)
    | (with_reducible refine l5DrawC_at hR hty ?_ ?_ ?_ ?_
       · assumption
       · exact ⟨by omega, by omega⟩
       · trivial
       rintro cx' _ p' hle - hp1 hp2 ⟨dm, rfl, hdm⟩)
    | (with_reducible refine fun cx' q (hle' : Le _ cx') (hl : RdL _ q _) => ?_
       have hle := Le.trans (by assumption) hle'; (try simp [Sx.get, Sx.look, Sx.put, cellsC, Value.cells, den] at hl))
    | with_reducible refine And.intro ?_ ?_
    | with_reducible intro _
    | omega
    | simp (maxSteps := 4000000) -dsimp [-List.all_eq_true, -Array.all_eq_true, -Bool.exists_bool, -Bool.forall_bool, vcsE1, vcsE2, vcsE3, vcsE4, vcsE5, vcsE6, vcsE7, vcsE8, vcsE9, vcsE10, vcsE11, vcsE12, vcsE13, vcsE14, vcsE15, vcsE16, vcsE17, vcsE18, vcsE19, Sx.get, Sx.look, Sx.put, pureFn, findOrd, unF, dstOk, isFloatT, endVC, resFn, packC, newFn, storeFn, buildFn, undef, known, aggT, cellsC, Value.cells, findCon, Con.pure, Con.some, allV, partsV, partsC, fillL, Sx.exitTo, fAr, C.one, Value.oneCell', eqFn, eqFieldsFn, eqElemsFn, partFn, and_assoc, List.zipIdx, sliceFn, boundFn, AppV, CopyV, MakeSliceV, NewsV, GrowV, TextV, bytesL, notInt, typeAt, argAt, Con.read, Con.make, Con.ext, Con.rel, den, Con.extS, Con.draw, Con.step, Draws.steps, Try.f21, l10OpenC, pickC, l3WholeC, l5AsksC, l2ArgC, l5DrawC, hlt, hk0, hk1, hj0, hj1, h3, hn0, hn1, List.getElem?_append, List.set_append, List.getElem?_set])
  all_goals first | exact (key (by assumption)).1 | exact (key (by assumption)).2 | exact ⟨_, rfl, by assumption⟩ | assumption | (refine ⟨_, rfl, ?_⟩; assumption)
def drawMemPutWholeC_S : Rels Try.prog 21 where
  ι := ((Option Addr) × (Nat) × (List Int))
  A := fun (i : ((Option Addr) × (Nat) × (List Int))) => match i with | (o, cap, bs) => [.slice o bs.length cap]
  pre := fun (i : ((Option Addr) × (Nat) × (List Int))) (F : Facts) => match i with | (o, cap, bs) => RdB F o bs ∧ (∀ b ∈ bs, 0 ≤ b ∧ b < 256) ∧ bs.length ≤ cap ∧ cap ≤ maxLen
  post := fun (i : ((Option Addr) × (Nat) × (List Int))) => match i with | (o, cap, bs) => fun v => ∃ m k n q x, v = .tuple #[.agg (cells m), .agg #[.int .i64 k, .int .i64 n, .int .i64 q], .int .i16 x] ∧ MOk m ∧ -32768 ≤ x ∧ x ≤ 32767
  mono := by
    intro i F G hs h
    first | exact h | exact h.mono hs | exact ⟨h.1.mono hs, h.2⟩ | exact ⟨h.1.mono hs, h.2.1.mono hs, h.2.2⟩ | exact ⟨h.1.mono hs, h.2.1.mono hs⟩
  enter := Try.call21
  h := fun i w hp => drawMemPutWholeC_c i.1 i.2.1 i.2.2 w (by rw [factF_init]; exact hp)
def drawMemPutWholeC : Con Try.prog := Con.rel drawMemPutWholeC_S
theorem drawMemPutRealC_c (o : Option Addr) (cap : Nat) (bs : List Int) (w : World) (hpre : RdB (factF ⟨w, [], w, []⟩) o bs ∧ (∀ b ∈ bs, 0 ≤ b ∧ b < 256) ∧ bs.length ≤ cap ∧ cap ≤ maxLen) : Calls Try.prog 22 #[.slice o bs.length cap] w fun e w' => ∃ v, e = .returned v ∧ (fun v => ∃ m k n q x, v = .tuple #[.agg (cells m), .agg #[.int .i64 k, .int .i64 n, .int .i64 q], .float .f64 x] ∧ MOk m ∧ x < 18446744073709551616) v ∧ RowKit.Below w.heap.size w w' := by
  refine plain_of_vcs ⟨[l10OpenC, pickC, l3RealC, l5AsksC, l2ArgC, l5DrawC], [(6, [(0, false), (2, false), (3, false), (1, false), (2, true), (4, false), (2, true), (5, false), (6, false)])]⟩ hmx Try.func22 rfl (by kernel_rfl) (args := [.slice o bs.length cap]) (by simp [Try.ntmps22]) w (fun v => ∃ m k n q x, v = .tuple #[.agg (cells m), .agg #[.int .i64 k, .int .i64 n, .int .i64 q], .float .f64 x] ∧ MOk m ∧ x < 18446744073709551616) 400 ?_
  simp (maxSteps := 4000000) -dsimp [-List.all_eq_true, -Array.all_eq_true, -Bool.exists_bool, -Bool.forall_bool, vcsE1, vcsE2, vcsE3, vcsE4, vcsE5, vcsE6, vcsE7, vcsE8, vcsE9, vcsE10, vcsE11, vcsE12, vcsE13, vcsE14, vcsE15, vcsE16, vcsE17, vcsE18, vcsE19, Sx.get, Sx.look, Sx.put, pureFn, findOrd, unF, dstOk, isFloatT, endVC, resFn, packC, newFn, storeFn, buildFn, undef, known, aggT, cellsC, Value.cells, findCon, Con.pure, Con.some, allV, partsV, partsC, fillL, Sx.exitTo, fAr, C.one, Value.oneCell', eqFn, eqFieldsFn, eqElemsFn, partFn, and_assoc, List.zipIdx, sliceFn, boundFn, AppV, CopyV, MakeSliceV, NewsV, GrowV, TextV, bytesL, notInt, typeAt, argAt, Con.read, Con.make, Con.ext, Con.rel, den, Con.extS, Con.draw, Con.step, Draws.steps, Try.f22, l10OpenC, pickC, l3RealC, l5AsksC, l2ArgC, l5DrawC, Con.gen]
  intro b b1
  refine l10OpenC_at hpre ?_
  rintro cx1 c mem1 ⟨R, mem0, p, rfl, rfl, hp, hR, hty, hle1, h1, h2, h3⟩
  have hk0 := take_get h1 0 (by simp)
  have hk1 := take_get h1 1 (by simp)
  simp at hk0 hk1 h2 h3
  have hj0 := (List.getElem?_eq_some_iff.1 hk0).2
  have hj1 := (List.getElem?_eq_some_iff.1 hk1).2
  have hn0 : ¬ R.k = 0 := by omega
  have hn1 : ¬ R.k = 1 := by omega
  have hlt := hR.lt
  have hle := Le.refl cx1
  have hw := hle1.w0
  have hg := hle1.g0
  have key : ∀ {cx' : Cx}, Le cx1 cx' → cx'.w0 = w ∧ cx'.g0 = [] := fun h => ⟨h.w0.trans hw, h.g0.trans hg⟩
  simp (maxSteps := 4000000) -dsimp [-List.all_eq_true, -Array.all_eq_true, -Bool.exists_bool, -Bool.forall_bool, vcsE1, vcsE2, vcsE3, vcsE4, vcsE5, vcsE6, vcsE7, vcsE8, vcsE9, vcsE10, vcsE11, vcsE12, vcsE13, vcsE14, vcsE15, vcsE16, vcsE17, vcsE18, vcsE19, Sx.get, Sx.look, Sx.put, pureFn, findOrd, unF, dstOk, isFloatT, endVC, resFn, packC, newFn, storeFn, buildFn, undef, known, aggT, cellsC, Value.cells, findCon, Con.pure, Con.some, allV, partsV, partsC, fillL, Sx.exitTo, fAr, C.one, Value.oneCell', eqFn, eqFieldsFn, eqElemsFn, partFn, and_assoc, List.zipIdx, sliceFn, boundFn, AppV, CopyV, MakeSliceV, NewsV, GrowV, TextV, bytesL, notInt, typeAt, argAt, Con.read, Con.make, Con.ext, Con.rel, den, Con.extS, Con.draw, Con.step, Draws.steps, Try.f22, l10OpenC, pickC, l3RealC, l5AsksC, l2ArgC, l5DrawC]
  (repeat' first
    | (with_reducible refine EndK.left ?_
       refine ⟨_, _, rfl, rfl, (by assumption), by omega, by omega, ?_⟩; skip; done)
    | (with_reducible refine EndK.all ?_
       refine ⟨_, _, rfl, rfl, (by assumption), by omega, by omega, ?_⟩; skip; done)
    | (with_reducible refine pickC_at0 hR hty ?_ ?_ ?_ ?_
       · assumption
       · exact ⟨by omega, by omega⟩
       · omega
       rintro cx' _ p' hle - hp1 hp2 ⟨x, rfl, hx1, hx2⟩)
    | (with_reducible refine pickC_at hR hty ?_ ?_ ?_ ?_
       · assumption
       · exact ⟨by omega, by omega⟩
       · omega
       rintro cx' _ p' hle - hp1 hp2 ⟨x, rfl, hx1, hx2⟩)
    | (with_reducible refine l3RealC_at0 hR hty ?_ ?_ ?_ ?_
       · assumption
       · exact ⟨by omega, by omega⟩
       · trivial
       rintro cx' _ p' hle - hp1 hp2 ⟨fx, rfl, hf⟩)
    | (with_reducible refine l3RealC_at hR hty ?_ ?_ ?_ ?_
       · assumption
       · exact ⟨by omega, by omega⟩
       · trivial
       rintro cx' _ p' hle - hp1 hp2 ⟨fx, rfl, hf⟩)
    | (with_reducible refine l5AsksC_at0 hR hty ?_ ?_ ?_ ?_
       · assumption
       · exact ⟨by omega, by omega⟩
       · trivial
       rintro cx' _ p' hle - hp1 hp2 ⟨ak, an, aq, rfl⟩)
    | (with_reducible refine l5AsksC_at hR hty ?_ ?_ ?_ ?_
       · assumption
       · exact ⟨by omega, by omega⟩
       · trivial
       rintro cx' _ p' hle - hp1 hp2 ⟨ak, an, aq, rfl⟩)
    | (with_reducible refine l2ArgC_at0 hR hty ?_ ?_ ?_ ?_
       · assumption
       · exact ⟨by omega, by omega⟩
       · trivial
       rintro cx' _ p' hle - hp1 hp2 ⟨ak, an, aq, rfl⟩)
    | (with_reducible refine l2ArgC_at hR hty ?_ ?_ ?_ ?_
       · assumption
       · exact ⟨by omega, by omega⟩
       · trivial
       rintro cx' _ p' hle - hp1 hp2 ⟨ak, an, aq, rfl⟩)
    | (with_reducible refine l5DrawC_at0 hR hty ?_ ?_ ?_ ?_
       · assumption
       · exact ⟨by omega, by omega⟩
       · trivial
       rintro cx' _ p' hle - hp1 hp2 ⟨dm, rfl, hdm⟩)
    | (with_reducible refine l5DrawC_at hR hty ?_ ?_ ?_ ?_
       · assumption
       · exact ⟨by omega, by omega⟩
       · trivial
       rintro cx' _ p' hle - hp1 hp2 ⟨dm, rfl, hdm⟩)
    | (with_reducible refine fun cx' q (hle' : Le _ cx') (hl : RdL _ q _) => ?_
       have hle := Le.trans (by assumption) hle'; (try simp [Sx.get, Sx.look, Sx.put, cellsC, Value.cells, den] at hl))
    | with_reducible refine And.intro ?_ ?_
    | with_reducible intro _
    | omega
    | simp (maxSteps := 4000000) -dsimp [-List.all_eq_true, -Array.all_eq_true, -Bool.exists_bool, -Bool.forall_bool, vcsE1, vcsE2, vcsE3, vcsE4, vcsE5, vcsE6, vcsE7, vcsE8, vcsE9, vcsE10, vcsE11, vcsE12, vcsE13, vcsE14, vcsE15, vcsE16, vcsE17, vcsE18, vcsE19, Sx.get, Sx.look, Sx.put, pureFn, findOrd, unF, dstOk, isFloatT, endVC, resFn, packC, newFn, storeFn, buildFn, undef, known, aggT, cellsC, Value.cells, findCon, Con.pure, Con.some, allV, partsV, partsC, fillL, Sx.exitTo, fAr, C.one, Value.oneCell', eqFn, eqFieldsFn, eqElemsFn, partFn, and_assoc, List.zipIdx, sliceFn, boundFn, AppV, CopyV, MakeSliceV, NewsV, GrowV, TextV, bytesL, notInt, typeAt, argAt, Con.read, Con.make, Con.ext, Con.rel, den, Con.extS, Con.draw, Con.step, Draws.steps, Try.f22, l10OpenC, pickC, l3RealC, l5AsksC, l2ArgC, l5DrawC, hlt, hk0, hk1, hj0, hj1, h3, hn0, hn1, List.getElem?_append, List.set_append, List.getElem?_set])
  all_goals first | exact (key (by assumption)).1 | exact (key (by assumption)).2 | exact ⟨_, rfl, by assumption⟩ | assumption | (refine ⟨_, rfl, ?_⟩; assumption)
def drawMemPutRealC_S : Rels Try.prog 22 where
  ι := ((Option Addr) × (Nat) × (List Int))
  A := fun (i : ((Option Addr) × (Nat) × (List Int))) => match i with | (o, cap, bs) => [.slice o bs.length cap]
  pre := fun (i : ((Option Addr) × (Nat) × (List Int))) (F : Facts) => match i with | (o, cap, bs) => RdB F o bs ∧ (∀ b ∈ bs, 0 ≤ b ∧ b < 256) ∧ bs.length ≤ cap ∧ cap ≤ maxLen
  post := fun (i : ((Option Addr) × (Nat) × (List Int))) => match i with | (o, cap, bs) => fun v => ∃ m k n q x, v = .tuple #[.agg (cells m), .agg #[.int .i64 k, .int .i64 n, .int .i64 q], .float .f64 x] ∧ MOk m ∧ x < 18446744073709551616
  mono := by
    intro i F G hs h
    first | exact h | exact h.mono hs | exact ⟨h.1.mono hs, h.2⟩ | exact ⟨h.1.mono hs, h.2.1.mono hs, h.2.2⟩ | exact ⟨h.1.mono hs, h.2.1.mono hs⟩
  enter := Try.call22
  h := fun i w hp => drawMemPutRealC_c i.1 i.2.1 i.2.2 w (by rw [factF_init]; exact hp)
def drawMemPutRealC : Con Try.prog := Con.rel drawMemPutRealC_S
theorem drawActEndC_c (o : Option Addr) (cap : Nat) (bs : List Int) (w : World) (hpre : RdB (factF ⟨w, [], w, []⟩) o bs ∧ (∀ b ∈ bs, 0 ≤ b ∧ b < 256) ∧ bs.length ≤ cap ∧ cap ≤ maxLen) : Calls Try.prog 38 #[.slice o bs.length cap] w fun e w' => ∃ v, e = .returned v ∧ (fun v => ∃ m, v = .agg (cells m) ∧ MOk m) v ∧ RowKit.Below w.heap.size w w' := by
  refine plain_of_vcs ⟨[l10OpenC, l5DrawC], []⟩ hmx Try.func38 rfl (by kernel_rfl) (args := [.slice o bs.length cap]) (by simp [Try.ntmps38]) w (fun v => ∃ m, v = .agg (cells m) ∧ MOk m) 400 ?_
  simp (maxSteps := 4000000) -dsimp [-List.all_eq_true, -Array.all_eq_true, -Bool.exists_bool, -Bool.forall_bool, vcsE1, vcsE2, vcsE3, vcsE4, vcsE5, vcsE6, vcsE7, vcsE8, vcsE9, vcsE10, vcsE11, vcsE12, vcsE13, vcsE14, vcsE15, vcsE16, vcsE17, vcsE18, vcsE19, Sx.get, Sx.look, Sx.put, pureFn, findOrd, unF, dstOk, isFloatT, endVC, resFn, packC, newFn, storeFn, buildFn, undef, known, aggT, cellsC, Value.cells, findCon, Con.pure, Con.some, allV, partsV, partsC, fillL, Sx.exitTo, fAr, C.one, Value.oneCell', eqFn, eqFieldsFn, eqElemsFn, partFn, and_assoc, List.zipIdx, sliceFn, boundFn, AppV, CopyV, MakeSliceV, NewsV, GrowV, TextV, bytesL, notInt, typeAt, argAt, Con.read, Con.make, Con.ext, Con.rel, den, Con.extS, Con.draw, Con.step, Draws.steps, Try.f38, l10OpenC, l5DrawC, Con.gen]
  intro b
  refine l10OpenC_at hpre ?_
  rintro cx1 c mem1 ⟨R, mem0, p, rfl, rfl, hp, hR, hty, hle1, h1, h2, h3⟩
  have hk0 := take_get h1 0 (by simp)
  simp at hk0 h2 h3
  have hj0 := (List.getElem?_eq_some_iff.1 hk0).2
  have hn0 : ¬ R.k = 0 := by omega
  have hlt := hR.lt
  have hle := Le.refl cx1
  have hw := hle1.w0
  have hg := hle1.g0
  have key : ∀ {cx' : Cx}, Le cx1 cx' → cx'.w0 = w ∧ cx'.g0 = [] := fun h => ⟨h.w0.trans hw, h.g0.trans hg⟩
  simp (maxSteps := 4000000) -dsimp [-List.all_eq_true, -Array.all_eq_true, -Bool.exists_bool, -Bool.forall_bool, vcsE1, vcsE2, vcsE3, vcsE4, vcsE5, vcsE6, vcsE7, vcsE8, vcsE9, vcsE10, vcsE11, vcsE12, vcsE13, vcsE14, vcsE15, vcsE16, vcsE17, vcsE18, vcsE19, Sx.get, Sx.look, Sx.put, pureFn, findOrd, unF, dstOk, isFloatT, endVC, resFn, packC, newFn, storeFn, buildFn, undef, known, aggT, cellsC, Value.cells, findCon, Con.pure, Con.some, allV, partsV, partsC, fillL, Sx.exitTo, fAr, C.one, Value.oneCell', eqFn, eqFieldsFn, eqElemsFn, partFn, and_assoc, List.zipIdx, sliceFn, boundFn, AppV, CopyV, MakeSliceV, NewsV, GrowV, TextV, bytesL, notInt, typeAt, argAt, Con.read, Con.make, Con.ext, Con.rel, den, Con.extS, Con.draw, Con.step, Draws.steps, Try.f38, l10OpenC, l5DrawC]
  (repeat' first
    | (with_reducible refine EndK.left ?_
       refine ⟨_, _, rfl, rfl, (by assumption), by omega, by omega, ?_⟩; skip; done)
    | (with_reducible refine EndK.all ?_
       refine ⟨_, _, rfl, rfl, (by assumption), by omega, by omega, ?_⟩; skip; done)
    | (with_reducible refine l5DrawC_at0 hR hty ?_ ?_ ?_ ?_
       · assumption
       · exact ⟨by omega, by omega⟩
       · trivial
       rintro cx' _ p' hle - hp1 hp2 ⟨dm, rfl, hdm⟩)
    | (with_reducible refine l5DrawC_at hR hty ?_ ?_ ?_ ?_
       · assumption
       · exact ⟨by omega, by omega⟩
       · trivial
       rintro cx' _ p' hle - hp1 hp2 ⟨dm, rfl, hdm⟩)
    | (with_reducible refine fun cx' q (hle' : Le _ cx') (hl : RdL _ q _) => ?_
       have hle := Le.trans (by assumption) hle'; (try simp [Sx.get, Sx.look, Sx.put, cellsC, Value.cells, den] at hl))
    | with_reducible refine And.intro ?_ ?_
    | with_reducible intro _
    | omega
    | simp (maxSteps := 4000000) -dsimp [-List.all_eq_true, -Array.all_eq_true, -Bool.exists_bool, -Bool.forall_bool, vcsE1, vcsE2, vcsE3, vcsE4, vcsE5, vcsE6, vcsE7, vcsE8, vcsE9, vcsE10, vcsE11, vcsE12, vcsE13, vcsE14, vcsE15, vcsE16, vcsE17, vcsE18, vcsE19, Sx.get, Sx.look, Sx.put, pureFn, findOrd, unF, dstOk, isFloatT, endVC, resFn, packC, newFn, storeFn, buildFn, undef, known, aggT, cellsC, Value.cells, findCon, Con.pure, Con.some, allV, partsV, partsC, fillL, Sx.exitTo, fAr, C.one, Value.oneCell', eqFn, eqFieldsFn, eqElemsFn, partFn, and_assoc, List.zipIdx, sliceFn, boundFn, AppV, CopyV, MakeSliceV, NewsV, GrowV, TextV, bytesL, notInt, typeAt, argAt, Con.read, Con.make, Con.ext, Con.rel, den, Con.extS, Con.draw, Con.step, Draws.steps, Try.f38, l10OpenC, l5DrawC, hlt, hk0, hj0, h3, hn0, List.getElem?_append, List.set_append, List.getElem?_set])
  all_goals first | exact (key (by assumption)).1 | exact (key (by assumption)).2 | exact ⟨_, rfl, by assumption⟩ | assumption
def drawActEndC_S : Rels Try.prog 38 where
  ι := ((Option Addr) × (Nat) × (List Int))
  A := fun (i : ((Option Addr) × (Nat) × (List Int))) => match i with | (o, cap, bs) => [.slice o bs.length cap]
  pre := fun (i : ((Option Addr) × (Nat) × (List Int))) (F : Facts) => match i with | (o, cap, bs) => RdB F o bs ∧ (∀ b ∈ bs, 0 ≤ b ∧ b < 256) ∧ bs.length ≤ cap ∧ cap ≤ maxLen
  post := fun (i : ((Option Addr) × (Nat) × (List Int))) => match i with | (o, cap, bs) => fun v => ∃ m, v = .agg (cells m) ∧ MOk m
  mono := by
    intro i F G hs h
    first | exact h | exact h.mono hs | exact ⟨h.1.mono hs, h.2⟩ | exact ⟨h.1.mono hs, h.2.1.mono hs, h.2.2⟩ | exact ⟨h.1.mono hs, h.2.1.mono hs⟩
  enter := Try.call38
  h := fun i w hp => drawActEndC_c i.1 i.2.1 i.2.2 w (by rw [factF_init]; exact hp)
def drawActEndC : Con Try.prog := Con.rel drawActEndC_S
end Go.Proofs.Ytmiicjgbhkjocaa
namespace Go.Proofs.Ytmiicjgbhkjocaa
open Go Go.Sx

theorem drawActTestC_c (o : Option Addr) (cap : Nat) (bs : List Int) (cx : Cx) (mem : List Blk) (w : World) (hpre : RdB (factF cx) o bs ∧ (∀ b ∈ bs, 0 ≤ b ∧ b < 256) ∧ bs.length ≤ cap ∧ cap ≤ maxLen) (hm : MemRel cx mem w) :
    Calls Try.prog 39 (([.v (.slice o bs.length cap)] : List C).map den).toArray w fun e w' => ∃ cx' c mem', e = .returned (den c) ∧ MemRel cx' mem' w' ∧ Le cx cx' ∧ mem' = mem ∧ ∃ m op o1 cap1 xs, c = .v (.tuple #[.agg (cells m), .agg #[.int .i64 op, .slice o1 (List.length xs) cap1]]) ∧ MOk m ∧ RdD (factF cx') o1 xs ∧ List.length xs ≤ 1000 := by
  refine step_of_vcs ⟨[l10OpenC, pickC, l4ContactC, l4CoilC, l4SpoilC, l5DrawC], [(9, [(0, false), (2, false), (1, false), (2, true), (3, false), (2, true), (4, false)])]⟩ hmx Try.func39 rfl (by kernel_rfl) (args := [.v (.slice o bs.length cap)]) (by simp [Try.ntmps39]) hm (fun cx' c mem' => Le cx cx' ∧ mem' = mem ∧ ∃ m op o1 cap1 xs, c = .v (.tuple #[.agg (cells m), .agg #[.int .i64 op, .slice o1 (List.length xs) cap1]]) ∧ MOk m ∧ RdD (factF cx') o1 xs ∧ List.length xs ≤ 1000) 400 ?_
  simp (maxSteps := 4000000) -dsimp [-List.all_eq_true, -Array.all_eq_true, -Bool.exists_bool, -Bool.forall_bool, vcsE1, vcsE2, vcsE3, vcsE4, vcsE5, vcsE6, vcsE7, vcsE8, vcsE9, vcsE10, vcsE11, vcsE12, vcsE13, vcsE14, vcsE15, vcsE16, vcsE17, vcsE18, vcsE19, Sx.get, Sx.look, Sx.put, pureFn, findOrd, unF, dstOk, isFloatT, endVC, resFn, packC, newFn, storeFn, buildFn, undef, known, aggT, cellsC, Value.cells, findCon, Con.pure, Con.some, allV, partsV, partsC, fillL, Sx.exitTo, fAr, C.one, Value.oneCell', eqFn, eqFieldsFn, eqElemsFn, partFn, and_assoc, List.zipIdx, sliceFn, boundFn, AppV, CopyV, MakeSliceV, NewsV, GrowV, TextV, bytesL, notInt, typeAt, argAt, Con.read, Con.make, Con.ext, Con.rel, den, Con.extS, Con.draw, Con.step, Draws.steps, Try.f39, l10OpenC, pickC, l4ContactC, l4CoilC, l4SpoilC, l5DrawC, Con.gen]
  intro b0 b1
  refine l10OpenC_at hpre ?_
  rintro cx1 c mem1 ⟨R, mem0, p, rfl, rfl, hp, hR, hty, hle1, h1, h2, h3⟩
  have hk0 := take_get h1 mem.length (by simp)
  have hk1 := take_get h1 (mem.length + 1) (by simp)
  simp at hk0 hk1 h2 h3
  have hj0 := (List.getElem?_eq_some_iff.1 hk0).2
  have hj1 := (List.getElem?_eq_some_iff.1 hk1).2
  have hn0 : ¬ R.k = mem.length := by omega
  have hn1 : ¬ R.k = mem.length + 1 := by omega
  have ht : mem0.take mem.length = mem := by
    have := congrArg (List.take mem.length) h1
    rw [List.take_take] at this
    simpa using this
  have a1 : mem.length < mem.length + 2 + 1 := by omega
  have a2 : mem.length + 1 < mem.length + 2 + 1 := by omega
  have hlt := hR.lt
  have hle := Le.refl cx1
  have fin : ∀ {cx' : Cx} {p' : Int} {ex : List Blk} {B0 B1 : Blk} {m : M} {op : Int} {o1 : Option Addr} {cap1 : Nat} {xs : List Dev}, Le cx1 cx' → MOk m → RdD (factF cx') o1 xs → xs.length ≤ 1000 →
      EndK 2 (fun cx' c mem' => Le cx cx' ∧ mem' = mem ∧ ∃ m op o1 cap1 xs, c = .v (.tuple #[.agg (cells m), .agg #[.int .i64 op, .slice o1 (List.length xs) cap1]]) ∧ MOk m ∧ RdD (factF cx') o1 xs ∧ List.length xs ≤ 1000)
        cx' (.v (.tuple #[.agg (cells m), .agg #[.int .i64 op, .slice o1 xs.length cap1]])) (((mem0.set R.k (R.blk p')).set mem.length B0).set (mem.length + 1) B1 ++ ex) := by
    intro cx' p' ex B0 B1 m op o1 cap1 xs g1 g2 g3 g4
    refine EndK.plain mem.length ⟨hle1.trans g1, ?_, m, op, o1, cap1, xs, rfl, g2, g3, g4⟩
    rw [List.take_append_of_le_length (by simp; omega), List.take_set_of_le (by omega), List.take_set_of_le (by omega), List.take_set_of_le (by omega), ht]
  simp (maxSteps := 4000000) -dsimp [-List.all_eq_true, -Array.all_eq_true, -Bool.exists_bool, -Bool.forall_bool, vcsE1, vcsE2, vcsE3, vcsE4, vcsE5, vcsE6, vcsE7, vcsE8, vcsE9, vcsE10, vcsE11, vcsE12, vcsE13, vcsE14, vcsE15, vcsE16, vcsE17, vcsE18, vcsE19, Sx.get, Sx.look, Sx.put, pureFn, findOrd, unF, dstOk, isFloatT, endVC, resFn, packC, newFn, storeFn, buildFn, undef, known, aggT, cellsC, Value.cells, findCon, Con.pure, Con.some, allV, partsV, partsC, fillL, Sx.exitTo, fAr, C.one, Value.oneCell', eqFn, eqFieldsFn, eqElemsFn, partFn, and_assoc, List.zipIdx, sliceFn, boundFn, AppV, CopyV, MakeSliceV, NewsV, GrowV, TextV, bytesL, notInt, typeAt, argAt, Con.read, Con.make, Con.ext, Con.rel, den, Con.extS, Con.draw, Con.step, Draws.steps, Try.f39, l10OpenC, pickC, l4ContactC, l4CoilC, l4SpoilC, l5DrawC]
  refine l4ContactC_at0 hR hty hle ⟨by omega, by omega⟩ trivial ?_
  rintro cx2 _ p2 hle2 - c1 c2 ⟨op, xs, ⟨⟨eo, ecap, rfl, hd, -, -⟩⟩, hxl⟩
  simp (maxSteps := 4000000) -dsimp [-List.all_eq_true, -Array.all_eq_true, -Bool.exists_bool, -Bool.forall_bool, vcsE1, vcsE2, vcsE3, vcsE4, vcsE5, vcsE6, vcsE7, vcsE8, vcsE9, vcsE10, vcsE11, vcsE12, vcsE13, vcsE14, vcsE15, vcsE16, vcsE17, vcsE18, vcsE19, Sx.get, Sx.look, Sx.put, pureFn, findOrd, unF, dstOk, isFloatT, endVC, resFn, packC, newFn, storeFn, buildFn, undef, known, aggT, cellsC, Value.cells, findCon, Con.pure, Con.some, allV, partsV, partsC, fillL, Sx.exitTo, fAr, C.one, Value.oneCell', eqFn, eqFieldsFn, eqElemsFn, partFn, and_assoc, List.zipIdx, sliceFn, boundFn, AppV, CopyV, MakeSliceV, NewsV, GrowV, TextV, bytesL, notInt, typeAt, argAt, Con.read, Con.make, Con.ext, Con.rel, den, Con.extS, Con.draw, Con.step, Draws.steps, Try.f39, l10OpenC, pickC, l4ContactC, l4CoilC, l4SpoilC, l5DrawC, hlt, hk0, hk1, hj0, hj1, h3, hn0, hn1, a1, a2, List.getElem?_append, List.set_append, List.getElem?_set]
  intro b2
  refine pickC_at hR hty hle2 ⟨by omega, by omega⟩ (by omega) ?_
  rintro cx3 _ p3 hle3 l3 d1 d2 ⟨y, rfl, y0, y1⟩
  by_cases hy0 : y = 0
  · simp (maxSteps := 4000000) -dsimp [-List.all_eq_true, -Array.all_eq_true, -Bool.exists_bool, -Bool.forall_bool, vcsE1, vcsE2, vcsE3, vcsE4, vcsE5, vcsE6, vcsE7, vcsE8, vcsE9, vcsE10, vcsE11, vcsE12, vcsE13, vcsE14, vcsE15, vcsE16, vcsE17, vcsE18, vcsE19, Sx.get, Sx.look, Sx.put, pureFn, findOrd, unF, dstOk, isFloatT, endVC, resFn, packC, newFn, storeFn, buildFn, undef, known, aggT, cellsC, Value.cells, findCon, Con.pure, Con.some, allV, partsV, partsC, fillL, Sx.exitTo, fAr, C.one, Value.oneCell', eqFn, eqFieldsFn, eqElemsFn, partFn, and_assoc, List.zipIdx, sliceFn, boundFn, AppV, CopyV, MakeSliceV, NewsV, GrowV, TextV, bytesL, notInt, typeAt, argAt, Con.read, Con.make, Con.ext, Con.rel, den, Con.extS, Con.draw, Con.step, Draws.steps, Try.f39, l10OpenC, pickC, l4ContactC, l4CoilC, l4SpoilC, l5DrawC, hlt, hk0, hk1, hj0, hj1, h3, hn0, hn1, a1, a2, List.getElem?_append, List.set_append, List.getElem?_set, hy0]
    refine l4CoilC_at hR hty hle3 ⟨by omega, by omega⟩ trivial ?_
    rintro cx4 _ p4 hle4 - c5 c6 ⟨op', xs', ⟨⟨eo', ecap', rfl, hd', -, -⟩⟩, hxl'⟩
    simp (maxSteps := 4000000) -dsimp [-List.all_eq_true, -Array.all_eq_true, -Bool.exists_bool, -Bool.forall_bool, vcsE1, vcsE2, vcsE3, vcsE4, vcsE5, vcsE6, vcsE7, vcsE8, vcsE9, vcsE10, vcsE11, vcsE12, vcsE13, vcsE14, vcsE15, vcsE16, vcsE17, vcsE18, vcsE19, Sx.get, Sx.look, Sx.put, pureFn, findOrd, unF, dstOk, isFloatT, endVC, resFn, packC, newFn, storeFn, buildFn, undef, known, aggT, cellsC, Value.cells, findCon, Con.pure, Con.some, allV, partsV, partsC, fillL, Sx.exitTo, fAr, C.one, Value.oneCell', eqFn, eqFieldsFn, eqElemsFn, partFn, and_assoc, List.zipIdx, sliceFn, boundFn, AppV, CopyV, MakeSliceV, NewsV, GrowV, TextV, bytesL, notInt, typeAt, argAt, Con.read, Con.make, Con.ext, Con.rel, den, Con.extS, Con.draw, Con.step, Draws.steps, Try.f39, l10OpenC, pickC, l4ContactC, l4CoilC, l4SpoilC, l5DrawC, hlt, hk0, hk1, hj0, hj1, h3, hn0, hn1, a1, a2, List.getElem?_append, List.set_append, List.getElem?_set]
    refine l5DrawC_at hR hty hle4 ⟨by omega, by omega⟩ trivial ?_
    rintro cx5 _ p5 hle5 l5 c7 c8 ⟨m, rfl, hm⟩
    simp (maxSteps := 4000000) -dsimp [-List.all_eq_true, -Array.all_eq_true, -Bool.exists_bool, -Bool.forall_bool, vcsE1, vcsE2, vcsE3, vcsE4, vcsE5, vcsE6, vcsE7, vcsE8, vcsE9, vcsE10, vcsE11, vcsE12, vcsE13, vcsE14, vcsE15, vcsE16, vcsE17, vcsE18, vcsE19, Sx.get, Sx.look, Sx.put, pureFn, findOrd, unF, dstOk, isFloatT, endVC, resFn, packC, newFn, storeFn, buildFn, undef, known, aggT, cellsC, Value.cells, findCon, Con.pure, Con.some, allV, partsV, partsC, fillL, Sx.exitTo, fAr, C.one, Value.oneCell', eqFn, eqFieldsFn, eqElemsFn, partFn, and_assoc, List.zipIdx, sliceFn, boundFn, AppV, CopyV, MakeSliceV, NewsV, GrowV, TextV, bytesL, notInt, typeAt, argAt, Con.read, Con.make, Con.ext, Con.rel, den, Con.extS, Con.draw, Con.step, Draws.steps, Try.f39, l10OpenC, pickC, l4ContactC, l4CoilC, l4SpoilC, l5DrawC, hlt, hk0, hk1, hj0, hj1, h3, hn0, hn1, a1, a2, List.getElem?_append, List.set_append, List.getElem?_set]
    exact fin hle5 hm (hd'.mono l5.fact) (by omega)
  by_cases hy1 : y = 1
  · have hy2 : ¬ (1 : Int) = 0 := by decide
    simp (maxSteps := 4000000) -dsimp [-List.all_eq_true, -Array.all_eq_true, -Bool.exists_bool, -Bool.forall_bool, vcsE1, vcsE2, vcsE3, vcsE4, vcsE5, vcsE6, vcsE7, vcsE8, vcsE9, vcsE10, vcsE11, vcsE12, vcsE13, vcsE14, vcsE15, vcsE16, vcsE17, vcsE18, vcsE19, Sx.get, Sx.look, Sx.put, pureFn, findOrd, unF, dstOk, isFloatT, endVC, resFn, packC, newFn, storeFn, buildFn, undef, known, aggT, cellsC, Value.cells, findCon, Con.pure, Con.some, allV, partsV, partsC, fillL, Sx.exitTo, fAr, C.one, Value.oneCell', eqFn, eqFieldsFn, eqElemsFn, partFn, and_assoc, List.zipIdx, sliceFn, boundFn, AppV, CopyV, MakeSliceV, NewsV, GrowV, TextV, bytesL, notInt, typeAt, argAt, Con.read, Con.make, Con.ext, Con.rel, den, Con.extS, Con.draw, Con.step, Draws.steps, Try.f39, l10OpenC, pickC, l4ContactC, l4CoilC, l4SpoilC, l5DrawC, hlt, hk0, hk1, hj0, hj1, h3, hn0, hn1, a1, a2, List.getElem?_append, List.set_append, List.getElem?_set, hy1]
    refine l4SpoilC_at hR hty hle3 ⟨by omega, by omega⟩ ⟨hd.mono l3.fact, by omega⟩ ?_
    rintro cx4 _ p4 hle4 - c5 c6 ⟨op', xs', ⟨⟨eo', ecap', rfl, hd', -, -⟩⟩, hxl'⟩
    simp (maxSteps := 4000000) -dsimp [-List.all_eq_true, -Array.all_eq_true, -Bool.exists_bool, -Bool.forall_bool, vcsE1, vcsE2, vcsE3, vcsE4, vcsE5, vcsE6, vcsE7, vcsE8, vcsE9, vcsE10, vcsE11, vcsE12, vcsE13, vcsE14, vcsE15, vcsE16, vcsE17, vcsE18, vcsE19, Sx.get, Sx.look, Sx.put, pureFn, findOrd, unF, dstOk, isFloatT, endVC, resFn, packC, newFn, storeFn, buildFn, undef, known, aggT, cellsC, Value.cells, findCon, Con.pure, Con.some, allV, partsV, partsC, fillL, Sx.exitTo, fAr, C.one, Value.oneCell', eqFn, eqFieldsFn, eqElemsFn, partFn, and_assoc, List.zipIdx, sliceFn, boundFn, AppV, CopyV, MakeSliceV, NewsV, GrowV, TextV, bytesL, notInt, typeAt, argAt, Con.read, Con.make, Con.ext, Con.rel, den, Con.extS, Con.draw, Con.step, Draws.steps, Try.f39, l10OpenC, pickC, l4ContactC, l4CoilC, l4SpoilC, l5DrawC, hlt, hk0, hk1, hj0, hj1, h3, hn0, hn1, a1, a2, List.getElem?_append, List.set_append, List.getElem?_set]
    refine l5DrawC_at hR hty hle4 ⟨by omega, by omega⟩ trivial ?_
    rintro cx5 _ p5 hle5 l5 c7 c8 ⟨m, rfl, hm⟩
    simp (maxSteps := 4000000) -dsimp [-List.all_eq_true, -Array.all_eq_true, -Bool.exists_bool, -Bool.forall_bool, vcsE1, vcsE2, vcsE3, vcsE4, vcsE5, vcsE6, vcsE7, vcsE8, vcsE9, vcsE10, vcsE11, vcsE12, vcsE13, vcsE14, vcsE15, vcsE16, vcsE17, vcsE18, vcsE19, Sx.get, Sx.look, Sx.put, pureFn, findOrd, unF, dstOk, isFloatT, endVC, resFn, packC, newFn, storeFn, buildFn, undef, known, aggT, cellsC, Value.cells, findCon, Con.pure, Con.some, allV, partsV, partsC, fillL, Sx.exitTo, fAr, C.one, Value.oneCell', eqFn, eqFieldsFn, eqElemsFn, partFn, and_assoc, List.zipIdx, sliceFn, boundFn, AppV, CopyV, MakeSliceV, NewsV, GrowV, TextV, bytesL, notInt, typeAt, argAt, Con.read, Con.make, Con.ext, Con.rel, den, Con.extS, Con.draw, Con.step, Draws.steps, Try.f39, l10OpenC, pickC, l4ContactC, l4CoilC, l4SpoilC, l5DrawC, hlt, hk0, hk1, hj0, hj1, h3, hn0, hn1, a1, a2, List.getElem?_append, List.set_append, List.getElem?_set]
    exact fin hle5 hm (hd'.mono l5.fact) (by omega)
  by_cases hy2 : y = 2
  · simp (maxSteps := 4000000) -dsimp [-List.all_eq_true, -Array.all_eq_true, -Bool.exists_bool, -Bool.forall_bool, vcsE1, vcsE2, vcsE3, vcsE4, vcsE5, vcsE6, vcsE7, vcsE8, vcsE9, vcsE10, vcsE11, vcsE12, vcsE13, vcsE14, vcsE15, vcsE16, vcsE17, vcsE18, vcsE19, Sx.get, Sx.look, Sx.put, pureFn, findOrd, unF, dstOk, isFloatT, endVC, resFn, packC, newFn, storeFn, buildFn, undef, known, aggT, cellsC, Value.cells, findCon, Con.pure, Con.some, allV, partsV, partsC, fillL, Sx.exitTo, fAr, C.one, Value.oneCell', eqFn, eqFieldsFn, eqElemsFn, partFn, and_assoc, List.zipIdx, sliceFn, boundFn, AppV, CopyV, MakeSliceV, NewsV, GrowV, TextV, bytesL, notInt, typeAt, argAt, Con.read, Con.make, Con.ext, Con.rel, den, Con.extS, Con.draw, Con.step, Draws.steps, Try.f39, l10OpenC, pickC, l4ContactC, l4CoilC, l4SpoilC, l5DrawC, hlt, hk0, hk1, hj0, hj1, h3, hn0, hn1, a1, a2, List.getElem?_append, List.set_append, List.getElem?_set, hy2]
    refine l4SpoilC_at hR hty hle3 ⟨by omega, by omega⟩ ⟨hd.mono l3.fact, by omega⟩ ?_
    rintro cx4 _ p4 hle4 - c5 c6 ⟨op', xs', ⟨⟨eo', ecap', rfl, hd', -, -⟩⟩, hxl'⟩
    simp (maxSteps := 4000000) -dsimp [-List.all_eq_true, -Array.all_eq_true, -Bool.exists_bool, -Bool.forall_bool, vcsE1, vcsE2, vcsE3, vcsE4, vcsE5, vcsE6, vcsE7, vcsE8, vcsE9, vcsE10, vcsE11, vcsE12, vcsE13, vcsE14, vcsE15, vcsE16, vcsE17, vcsE18, vcsE19, Sx.get, Sx.look, Sx.put, pureFn, findOrd, unF, dstOk, isFloatT, endVC, resFn, packC, newFn, storeFn, buildFn, undef, known, aggT, cellsC, Value.cells, findCon, Con.pure, Con.some, allV, partsV, partsC, fillL, Sx.exitTo, fAr, C.one, Value.oneCell', eqFn, eqFieldsFn, eqElemsFn, partFn, and_assoc, List.zipIdx, sliceFn, boundFn, AppV, CopyV, MakeSliceV, NewsV, GrowV, TextV, bytesL, notInt, typeAt, argAt, Con.read, Con.make, Con.ext, Con.rel, den, Con.extS, Con.draw, Con.step, Draws.steps, Try.f39, l10OpenC, pickC, l4ContactC, l4CoilC, l4SpoilC, l5DrawC, hlt, hk0, hk1, hj0, hj1, h3, hn0, hn1, a1, a2, List.getElem?_append, List.set_append, List.getElem?_set]
    refine l5DrawC_at hR hty hle4 ⟨by omega, by omega⟩ trivial ?_
    rintro cx5 _ p5 hle5 l5 c7 c8 ⟨m, rfl, hm⟩
    simp (maxSteps := 4000000) -dsimp [-List.all_eq_true, -Array.all_eq_true, -Bool.exists_bool, -Bool.forall_bool, vcsE1, vcsE2, vcsE3, vcsE4, vcsE5, vcsE6, vcsE7, vcsE8, vcsE9, vcsE10, vcsE11, vcsE12, vcsE13, vcsE14, vcsE15, vcsE16, vcsE17, vcsE18, vcsE19, Sx.get, Sx.look, Sx.put, pureFn, findOrd, unF, dstOk, isFloatT, endVC, resFn, packC, newFn, storeFn, buildFn, undef, known, aggT, cellsC, Value.cells, findCon, Con.pure, Con.some, allV, partsV, partsC, fillL, Sx.exitTo, fAr, C.one, Value.oneCell', eqFn, eqFieldsFn, eqElemsFn, partFn, and_assoc, List.zipIdx, sliceFn, boundFn, AppV, CopyV, MakeSliceV, NewsV, GrowV, TextV, bytesL, notInt, typeAt, argAt, Con.read, Con.make, Con.ext, Con.rel, den, Con.extS, Con.draw, Con.step, Draws.steps, Try.f39, l10OpenC, pickC, l4ContactC, l4CoilC, l4SpoilC, l5DrawC, hlt, hk0, hk1, hj0, hj1, h3, hn0, hn1, a1, a2, List.getElem?_append, List.set_append, List.getElem?_set]
    exact fin hle5 hm (hd'.mono l5.fact) (by omega)
  · simp (maxSteps := 4000000) -dsimp [-List.all_eq_true, -Array.all_eq_true, -Bool.exists_bool, -Bool.forall_bool, vcsE1, vcsE2, vcsE3, vcsE4, vcsE5, vcsE6, vcsE7, vcsE8, vcsE9, vcsE10, vcsE11, vcsE12, vcsE13, vcsE14, vcsE15, vcsE16, vcsE17, vcsE18, vcsE19, Sx.get, Sx.look, Sx.put, pureFn, findOrd, unF, dstOk, isFloatT, endVC, resFn, packC, newFn, storeFn, buildFn, undef, known, aggT, cellsC, Value.cells, findCon, Con.pure, Con.some, allV, partsV, partsC, fillL, Sx.exitTo, fAr, C.one, Value.oneCell', eqFn, eqFieldsFn, eqElemsFn, partFn, and_assoc, List.zipIdx, sliceFn, boundFn, AppV, CopyV, MakeSliceV, NewsV, GrowV, TextV, bytesL, notInt, typeAt, argAt, Con.read, Con.make, Con.ext, Con.rel, den, Con.extS, Con.draw, Con.step, Draws.steps, Try.f39, l10OpenC, pickC, l4ContactC, l4CoilC, l4SpoilC, l5DrawC, hlt, hk0, hk1, hj0, hj1, h3, hn0, hn1, a1, a2, List.getElem?_append, List.set_append, List.getElem?_set, hy0, hy1, hy2]
    refine l5DrawC_at hR hty hle3 ⟨by omega, by omega⟩ trivial ?_
    rintro cx5 _ p5 hle5 l5 c7 c8 ⟨m, rfl, hm⟩
    simp (maxSteps := 4000000) -dsimp [-List.all_eq_true, -Array.all_eq_true, -Bool.exists_bool, -Bool.forall_bool, vcsE1, vcsE2, vcsE3, vcsE4, vcsE5, vcsE6, vcsE7, vcsE8, vcsE9, vcsE10, vcsE11, vcsE12, vcsE13, vcsE14, vcsE15, vcsE16, vcsE17, vcsE18, vcsE19, Sx.get, Sx.look, Sx.put, pureFn, findOrd, unF, dstOk, isFloatT, endVC, resFn, packC, newFn, storeFn, buildFn, undef, known, aggT, cellsC, Value.cells, findCon, Con.pure, Con.some, allV, partsV, partsC, fillL, Sx.exitTo, fAr, C.one, Value.oneCell', eqFn, eqFieldsFn, eqElemsFn, partFn, and_assoc, List.zipIdx, sliceFn, boundFn, AppV, CopyV, MakeSliceV, NewsV, GrowV, TextV, bytesL, notInt, typeAt, argAt, Con.read, Con.make, Con.ext, Con.rel, den, Con.extS, Con.draw, Con.step, Draws.steps, Try.f39, l10OpenC, pickC, l4ContactC, l4CoilC, l4SpoilC, l5DrawC, hlt, hk0, hk1, hj0, hj1, h3, hn0, hn1, a1, a2, List.getElem?_append, List.set_append, List.getElem?_set]
    exact fin hle5 hm (hd.mono (l3.trans l5).fact) (by omega)
def drawActTestC_S : Gens Try.prog 39 where
  ι := ((Option Addr) × (Nat) × (List Int))
  A := fun (i : ((Option Addr) × (Nat) × (List Int))) => match i with | (o, cap, bs) => [.v (.slice o bs.length cap)]
  pre := fun (i : ((Option Addr) × (Nat) × (List Int))) (cx : Cx) (mem : List Blk) => match i with | (o, cap, bs) => RdB (factF cx) o bs ∧ (∀ b ∈ bs, 0 ≤ b ∧ b < 256) ∧ bs.length ≤ cap ∧ cap ≤ maxLen
  post := fun (i : ((Option Addr) × (Nat) × (List Int))) (cx : Cx) (mem : List Blk) (cx' : Cx) (c : C) (mem' : List Blk) => match i with | (o, cap, bs) => Le cx cx' ∧ mem' = mem ∧ ∃ m op o1 cap1 xs, c = .v (.tuple #[.agg (cells m), .agg #[.int .i64 op, .slice o1 (List.length xs) cap1]]) ∧ MOk m ∧ RdD (factF cx') o1 xs ∧ List.length xs ≤ 1000
  enter := Try.call39
  h := fun i cx mem w hp hm => drawActTestC_c i.1 i.2.1 i.2.2 cx mem w hp hm
def drawActTestC : Con Try.prog := Con.gen drawActTestC_S
theorem drawActTestC_at {o : Option Addr} {cap : Nat} {bs : List Int} {d : Nat} {cx : Cx} {mem : List Blk} {K : Cx → C → List Blk → Prop} (hpre : RdB (factF cx) o bs ∧ (∀ b ∈ bs, 0 ≤ b ∧ b < 256) ∧ bs.length ≤ cap ∧ cap ≤ maxLen) (h : ∀ cx' c mem', (Le cx cx' ∧ mem' = mem ∧ ∃ m op o1 cap1 xs, c = .v (.tuple #[.agg (cells m), .agg #[.int .i64 op, .slice o1 (List.length xs) cap1]]) ∧ MOk m ∧ RdD (factF cx') o1 xs ∧ List.length xs ≤ 1000) → K cx' c mem') : GenV d drawActTestC_S cx [.v (.slice o bs.length cap)] mem K := ⟨(o, cap, bs), rfl, hpre, h⟩
end Go.Proofs.Ytmiicjgbhkjocaa
namespace Go.Proofs.Ytmiicjgbhkjocaa
open Go Go.Sx

theorem drawActDoC_c (o : Option Addr) (cap : Nat) (bs : List Int) (cx : Cx) (mem : List Blk) (w : World) (hpre : RdB (factF cx) o bs ∧ (∀ b ∈ bs, 0 ≤ b ∧ b < 256) ∧ bs.length ≤ cap ∧ cap ≤ maxLen) (hm : MemRel cx mem w) :
    Calls Try.prog 43 (([.v (.slice o bs.length cap)] : List C).map den).toArray w fun e w' => ∃ cx' c mem', e = .returned (den c) ∧ MemRel cx' mem' w' ∧ Le cx cx' ∧ mem' = mem ∧ ∃ m op o1 cap1 xs v dt, c = .v (.tuple #[.agg (cells m), .agg #[.int .i64 op, .slice o1 (List.length xs) cap1], .bool v, .int .u16 dt]) ∧ MOk m ∧ RdD (factF cx') o1 xs ∧ List.length xs ≤ 1000 ∧ 0 ≤ dt ∧ dt < 65536 := by
  refine step_of_vcs ⟨[l10OpenC, pickC, numC, l4ContactC, l4CoilC, l4SpoilC, l5DrawC], [(11, [(0, false), (2, false), (3, false), (4, false), (1, false), (2, true), (5, false), (2, true), (6, false), (7, false), (8, false)])]⟩ hmx Try.func43 rfl (by kernel_rfl) (args := [.v (.slice o bs.length cap)]) (by simp [Try.ntmps43]) hm (fun cx' c mem' => Le cx cx' ∧ mem' = mem ∧ ∃ m op o1 cap1 xs v dt, c = .v (.tuple #[.agg (cells m), .agg #[.int .i64 op, .slice o1 (List.length xs) cap1], .bool v, .int .u16 dt]) ∧ MOk m ∧ RdD (factF cx') o1 xs ∧ List.length xs ≤ 1000 ∧ 0 ≤ dt ∧ dt < 65536) 400 ?_
  simp (maxSteps := 4000000) -dsimp [-List.all_eq_true, -Array.all_eq_true, -Bool.exists_bool, -Bool.forall_bool, vcsE1, vcsE2, vcsE3, vcsE4, vcsE5, vcsE6, vcsE7, vcsE8, vcsE9, vcsE10, vcsE11, vcsE12, vcsE13, vcsE14, vcsE15, vcsE16, vcsE17, vcsE18, vcsE19, Sx.get, Sx.look, Sx.put, pureFn, findOrd, unF, dstOk, isFloatT, endVC, resFn, packC, newFn, storeFn, buildFn, undef, known, aggT, cellsC, Value.cells, findCon, Con.pure, Con.some, allV, partsV, partsC, fillL, Sx.exitTo, fAr, C.one, Value.oneCell', eqFn, eqFieldsFn, eqElemsFn, partFn, and_assoc, List.zipIdx, sliceFn, boundFn, AppV, CopyV, MakeSliceV, NewsV, GrowV, TextV, bytesL, notInt, typeAt, argAt, Con.read, Con.make, Con.ext, Con.rel, den, Con.extS, Con.draw, Con.step, Draws.steps, Try.f43, l10OpenC, pickC, numC, l4ContactC, l4CoilC, l4SpoilC, l5DrawC, Con.gen]
  intro b0 b1
  refine l10OpenC_at hpre ?_
  rintro cx1 c mem1 ⟨R, mem0, p, rfl, rfl, hp, hR, hty, hle1, h1, h2, h3⟩
  have hk0 := take_get h1 mem.length (by simp)
  have hk1 := take_get h1 (mem.length + 1) (by simp)
  simp at hk0 hk1 h2 h3
  have hj0 := (List.getElem?_eq_some_iff.1 hk0).2
  have hj1 := (List.getElem?_eq_some_iff.1 hk1).2
  have hn0 : ¬ R.k = mem.length := by omega
  have hn1 : ¬ R.k = mem.length + 1 := by omega
  have ht : mem0.take mem.length = mem := by
    have := congrArg (List.take mem.length) h1
    rw [List.take_take] at this
    simpa using this
  have a1 : mem.length < mem.length + 2 + 1 := by omega
  have a2 : mem.length + 1 < mem.length + 2 + 1 := by omega
  have hlt := hR.lt
  have hle := Le.refl cx1
  have fin : ∀ {cx' : Cx} {p' : Int} {ex : List Blk} {B0 B1 : Blk} {m : M} {op : Int} {o1 : Option Addr} {cap1 : Nat} {xs : List Dev} {v : Bool} {dt : Int}, Le cx1 cx' → MOk m → RdD (factF cx') o1 xs → xs.length ≤ 1000 → 0 ≤ dt ∧ dt < 65536 →
      EndK 2 (fun cx' c mem' => Le cx cx' ∧ mem' = mem ∧ ∃ m op o1 cap1 xs v dt, c = .v (.tuple #[.agg (cells m), .agg #[.int .i64 op, .slice o1 (List.length xs) cap1], .bool v, .int .u16 dt]) ∧ MOk m ∧ RdD (factF cx') o1 xs ∧ List.length xs ≤ 1000 ∧ 0 ≤ dt ∧ dt < 65536)
        cx' (.v (.tuple #[.agg (cells m), .agg #[.int .i64 op, .slice o1 xs.length cap1], .bool v, .int .u16 dt])) (((mem0.set R.k (R.blk p')).set mem.length B0).set (mem.length + 1) B1 ++ ex) := by
    intro cx' p' ex B0 B1 m op o1 cap1 xs v dt g1 g2 g3 g4 g5
    refine EndK.plain mem.length ⟨hle1.trans g1, ?_, m, op, o1, cap1, xs, v, dt, rfl, g2, g3, g4, g5⟩
    rw [List.take_append_of_le_length (by simp; omega), List.take_set_of_le (by omega), List.take_set_of_le (by omega), List.take_set_of_le (by omega), ht]
  simp (maxSteps := 4000000) -dsimp [-List.all_eq_true, -Array.all_eq_true, -Bool.exists_bool, -Bool.forall_bool, vcsE1, vcsE2, vcsE3, vcsE4, vcsE5, vcsE6, vcsE7, vcsE8, vcsE9, vcsE10, vcsE11, vcsE12, vcsE13, vcsE14, vcsE15, vcsE16, vcsE17, vcsE18, vcsE19, Sx.get, Sx.look, Sx.put, pureFn, findOrd, unF, dstOk, isFloatT, endVC, resFn, packC, newFn, storeFn, buildFn, undef, known, aggT, cellsC, Value.cells, findCon, Con.pure, Con.some, allV, partsV, partsC, fillL, Sx.exitTo, fAr, C.one, Value.oneCell', eqFn, eqFieldsFn, eqElemsFn, partFn, and_assoc, List.zipIdx, sliceFn, boundFn, AppV, CopyV, MakeSliceV, NewsV, GrowV, TextV, bytesL, notInt, typeAt, argAt, Con.read, Con.make, Con.ext, Con.rel, den, Con.extS, Con.draw, Con.step, Draws.steps, Try.f43, l10OpenC, pickC, numC, l4ContactC, l4CoilC, l4SpoilC, l5DrawC]
  refine l4CoilC_at0 hR hty hle ⟨by omega, by omega⟩ trivial ?_
  rintro cx2 _ p2 hle2 - c1 c2 ⟨op, xs, ⟨⟨eo, ecap, rfl, hd, -, -⟩⟩, hxl⟩
  simp (maxSteps := 4000000) -dsimp [-List.all_eq_true, -Array.all_eq_true, -Bool.exists_bool, -Bool.forall_bool, vcsE1, vcsE2, vcsE3, vcsE4, vcsE5, vcsE6, vcsE7, vcsE8, vcsE9, vcsE10, vcsE11, vcsE12, vcsE13, vcsE14, vcsE15, vcsE16, vcsE17, vcsE18, vcsE19, Sx.get, Sx.look, Sx.put, pureFn, findOrd, unF, dstOk, isFloatT, endVC, resFn, packC, newFn, storeFn, buildFn, undef, known, aggT, cellsC, Value.cells, findCon, Con.pure, Con.some, allV, partsV, partsC, fillL, Sx.exitTo, fAr, C.one, Value.oneCell', eqFn, eqFieldsFn, eqElemsFn, partFn, and_assoc, List.zipIdx, sliceFn, boundFn, AppV, CopyV, MakeSliceV, NewsV, GrowV, TextV, bytesL, notInt, typeAt, argAt, Con.read, Con.make, Con.ext, Con.rel, den, Con.extS, Con.draw, Con.step, Draws.steps, Try.f43, l10OpenC, pickC, numC, l4ContactC, l4CoilC, l4SpoilC, l5DrawC, hlt, hk0, hk1, hj0, hj1, h3, hn0, hn1, a1, a2, List.getElem?_append, List.set_append, List.getElem?_set]
  intro b2
  refine pickC_at hR hty hle2 ⟨by omega, by omega⟩ (by omega) ?_
  rintro cx3 _ p3 hle3 l3 d1 d2 ⟨u, rfl, u0, u1⟩
  simp (maxSteps := 4000000) -dsimp [-List.all_eq_true, -Array.all_eq_true, -Bool.exists_bool, -Bool.forall_bool, vcsE1, vcsE2, vcsE3, vcsE4, vcsE5, vcsE6, vcsE7, vcsE8, vcsE9, vcsE10, vcsE11, vcsE12, vcsE13, vcsE14, vcsE15, vcsE16, vcsE17, vcsE18, vcsE19, Sx.get, Sx.look, Sx.put, pureFn, findOrd, unF, dstOk, isFloatT, endVC, resFn, packC, newFn, storeFn, buildFn, undef, known, aggT, cellsC, Value.cells, findCon, Con.pure, Con.some, allV, partsV, partsC, fillL, Sx.exitTo, fAr, C.one, Value.oneCell', eqFn, eqFieldsFn, eqElemsFn, partFn, and_assoc, List.zipIdx, sliceFn, boundFn, AppV, CopyV, MakeSliceV, NewsV, GrowV, TextV, bytesL, notInt, typeAt, argAt, Con.read, Con.make, Con.ext, Con.rel, den, Con.extS, Con.draw, Con.step, Draws.steps, Try.f43, l10OpenC, pickC, numC, l4ContactC, l4CoilC, l4SpoilC, l5DrawC, hlt, hk0, hk1, hj0, hj1, h3, hn0, hn1, a1, a2, List.getElem?_append, List.set_append, List.getElem?_set]
  refine pickC_at hR hty hle3 ⟨by omega, by omega⟩ (by omega) ?_
  rintro cx4 _ p4 hle4 l4 d3 d4 ⟨y, rfl, y0, y1⟩
  have hd4 := hd.mono (l3.trans l4).fact
  by_cases hy0 : y = 0
  · simp (maxSteps := 4000000) -dsimp [-List.all_eq_true, -Array.all_eq_true, -Bool.exists_bool, -Bool.forall_bool, vcsE1, vcsE2, vcsE3, vcsE4, vcsE5, vcsE6, vcsE7, vcsE8, vcsE9, vcsE10, vcsE11, vcsE12, vcsE13, vcsE14, vcsE15, vcsE16, vcsE17, vcsE18, vcsE19, Sx.get, Sx.look, Sx.put, pureFn, findOrd, unF, dstOk, isFloatT, endVC, resFn, packC, newFn, storeFn, buildFn, undef, known, aggT, cellsC, Value.cells, findCon, Con.pure, Con.some, allV, partsV, partsC, fillL, Sx.exitTo, fAr, C.one, Value.oneCell', eqFn, eqFieldsFn, eqElemsFn, partFn, and_assoc, List.zipIdx, sliceFn, boundFn, AppV, CopyV, MakeSliceV, NewsV, GrowV, TextV, bytesL, notInt, typeAt, argAt, Con.read, Con.make, Con.ext, Con.rel, den, Con.extS, Con.draw, Con.step, Draws.steps, Try.f43, l10OpenC, pickC, numC, l4ContactC, l4CoilC, l4SpoilC, l5DrawC, hlt, hk0, hk1, hj0, hj1, h3, hn0, hn1, a1, a2, List.getElem?_append, List.set_append, List.getElem?_set, hy0]
    refine l4ContactC_at hR hty hle4 ⟨by omega, by omega⟩ trivial ?_
    rintro cx5 _ p5 hle5 - c5 c6 ⟨op', xs', ⟨⟨eo', ecap', rfl, hd', -, -⟩⟩, hxl'⟩
    simp (maxSteps := 4000000) -dsimp [-List.all_eq_true, -Array.all_eq_true, -Bool.exists_bool, -Bool.forall_bool, vcsE1, vcsE2, vcsE3, vcsE4, vcsE5, vcsE6, vcsE7, vcsE8, vcsE9, vcsE10, vcsE11, vcsE12, vcsE13, vcsE14, vcsE15, vcsE16, vcsE17, vcsE18, vcsE19, Sx.get, Sx.look, Sx.put, pureFn, findOrd, unF, dstOk, isFloatT, endVC, resFn, packC, newFn, storeFn, buildFn, undef, known, aggT, cellsC, Value.cells, findCon, Con.pure, Con.some, allV, partsV, partsC, fillL, Sx.exitTo, fAr, C.one, Value.oneCell', eqFn, eqFieldsFn, eqElemsFn, partFn, and_assoc, List.zipIdx, sliceFn, boundFn, AppV, CopyV, MakeSliceV, NewsV, GrowV, TextV, bytesL, notInt, typeAt, argAt, Con.read, Con.make, Con.ext, Con.rel, den, Con.extS, Con.draw, Con.step, Draws.steps, Try.f43, l10OpenC, pickC, numC, l4ContactC, l4CoilC, l4SpoilC, l5DrawC, hlt, hk0, hk1, hj0, hj1, h3, hn0, hn1, a1, a2, List.getElem?_append, List.set_append, List.getElem?_set]
    intro cx6 q6 hle6 hl6
    refine numC_lit hR hty (hle5.trans hle6) hl6 rfl rfl ⟨by omega, by omega⟩ (by decide) (by decide) ?_
    rintro cx7 _ p7 hle7 l7 d5 d6 ⟨dt, rfl, hdt⟩
    have hdb : 0 ≤ dt ∧ dt < 65536 := by simp [intsOf] at hdt; omega
    have hdw := wrap_u16 hdb.1 hdb.2
    simp (maxSteps := 4000000) -dsimp [-List.all_eq_true, -Array.all_eq_true, -Bool.exists_bool, -Bool.forall_bool, vcsE1, vcsE2, vcsE3, vcsE4, vcsE5, vcsE6, vcsE7, vcsE8, vcsE9, vcsE10, vcsE11, vcsE12, vcsE13, vcsE14, vcsE15, vcsE16, vcsE17, vcsE18, vcsE19, Sx.get, Sx.look, Sx.put, pureFn, findOrd, unF, dstOk, isFloatT, endVC, resFn, packC, newFn, storeFn, buildFn, undef, known, aggT, cellsC, Value.cells, findCon, Con.pure, Con.some, allV, partsV, partsC, fillL, Sx.exitTo, fAr, C.one, Value.oneCell', eqFn, eqFieldsFn, eqElemsFn, partFn, and_assoc, List.zipIdx, sliceFn, boundFn, AppV, CopyV, MakeSliceV, NewsV, GrowV, TextV, bytesL, notInt, typeAt, argAt, Con.read, Con.make, Con.ext, Con.rel, den, Con.extS, Con.draw, Con.step, Draws.steps, Try.f43, l10OpenC, pickC, numC, l4ContactC, l4CoilC, l4SpoilC, l5DrawC, hlt, hk0, hk1, hj0, hj1, h3, hn0, hn1, a1, a2, List.getElem?_append, List.set_append, List.getElem?_set]
    refine l5DrawC_at hR hty hle7 ⟨by omega, by omega⟩ trivial ?_
    rintro cx8 _ p8 hle8 l8 c7 c8 ⟨m, rfl, hm⟩
    simp (maxSteps := 4000000) -dsimp [-List.all_eq_true, -Array.all_eq_true, -Bool.exists_bool, -Bool.forall_bool, vcsE1, vcsE2, vcsE3, vcsE4, vcsE5, vcsE6, vcsE7, vcsE8, vcsE9, vcsE10, vcsE11, vcsE12, vcsE13, vcsE14, vcsE15, vcsE16, vcsE17, vcsE18, vcsE19, Sx.get, Sx.look, Sx.put, pureFn, findOrd, unF, dstOk, isFloatT, endVC, resFn, packC, newFn, storeFn, buildFn, undef, known, aggT, cellsC, Value.cells, findCon, Con.pure, Con.some, allV, partsV, partsC, fillL, Sx.exitTo, fAr, C.one, Value.oneCell', eqFn, eqFieldsFn, eqElemsFn, partFn, and_assoc, List.zipIdx, sliceFn, boundFn, AppV, CopyV, MakeSliceV, NewsV, GrowV, TextV, bytesL, notInt, typeAt, argAt, Con.read, Con.make, Con.ext, Con.rel, den, Con.extS, Con.draw, Con.step, Draws.steps, Try.f43, l10OpenC, pickC, numC, l4ContactC, l4CoilC, l4SpoilC, l5DrawC, hlt, hk0, hk1, hj0, hj1, h3, hn0, hn1, a1, a2, List.getElem?_append, List.set_append, List.getElem?_set, hdw]
    exact fin hle8 hm (hd'.mono (hle6.trans (l7.trans l8)).fact) (by omega) hdb
  by_cases hy1 : y = 1
  · have hy2 : ¬ (1 : Int) = 0 := by decide
    simp (maxSteps := 4000000) -dsimp [-List.all_eq_true, -Array.all_eq_true, -Bool.exists_bool, -Bool.forall_bool, vcsE1, vcsE2, vcsE3, vcsE4, vcsE5, vcsE6, vcsE7, vcsE8, vcsE9, vcsE10, vcsE11, vcsE12, vcsE13, vcsE14, vcsE15, vcsE16, vcsE17, vcsE18, vcsE19, Sx.get, Sx.look, Sx.put, pureFn, findOrd, unF, dstOk, isFloatT, endVC, resFn, packC, newFn, storeFn, buildFn, undef, known, aggT, cellsC, Value.cells, findCon, Con.pure, Con.some, allV, partsV, partsC, fillL, Sx.exitTo, fAr, C.one, Value.oneCell', eqFn, eqFieldsFn, eqElemsFn, partFn, and_assoc, List.zipIdx, sliceFn, boundFn, AppV, CopyV, MakeSliceV, NewsV, GrowV, TextV, bytesL, notInt, typeAt, argAt, Con.read, Con.make, Con.ext, Con.rel, den, Con.extS, Con.draw, Con.step, Draws.steps, Try.f43, l10OpenC, pickC, numC, l4ContactC, l4CoilC, l4SpoilC, l5DrawC, hlt, hk0, hk1, hj0, hj1, h3, hn0, hn1, a1, a2, List.getElem?_append, List.set_append, List.getElem?_set, hy1]
    refine l4SpoilC_at hR hty hle4 ⟨by omega, by omega⟩ ⟨hd4, by omega⟩ ?_
    rintro cx5 _ p5 hle5 - c5 c6 ⟨op', xs', ⟨⟨eo', ecap', rfl, hd', -, -⟩⟩, hxl'⟩
    simp (maxSteps := 4000000) -dsimp [-List.all_eq_true, -Array.all_eq_true, -Bool.exists_bool, -Bool.forall_bool, vcsE1, vcsE2, vcsE3, vcsE4, vcsE5, vcsE6, vcsE7, vcsE8, vcsE9, vcsE10, vcsE11, vcsE12, vcsE13, vcsE14, vcsE15, vcsE16, vcsE17, vcsE18, vcsE19, Sx.get, Sx.look, Sx.put, pureFn, findOrd, unF, dstOk, isFloatT, endVC, resFn, packC, newFn, storeFn, buildFn, undef, known, aggT, cellsC, Value.cells, findCon, Con.pure, Con.some, allV, partsV, partsC, fillL, Sx.exitTo, fAr, C.one, Value.oneCell', eqFn, eqFieldsFn, eqElemsFn, partFn, and_assoc, List.zipIdx, sliceFn, boundFn, AppV, CopyV, MakeSliceV, NewsV, GrowV, TextV, bytesL, notInt, typeAt, argAt, Con.read, Con.make, Con.ext, Con.rel, den, Con.extS, Con.draw, Con.step, Draws.steps, Try.f43, l10OpenC, pickC, numC, l4ContactC, l4CoilC, l4SpoilC, l5DrawC, hlt, hk0, hk1, hj0, hj1, h3, hn0, hn1, a1, a2, List.getElem?_append, List.set_append, List.getElem?_set]
    intro cx6 q6 hle6 hl6
    refine numC_lit hR hty (hle5.trans hle6) hl6 rfl rfl ⟨by omega, by omega⟩ (by decide) (by decide) ?_
    rintro cx7 _ p7 hle7 l7 d5 d6 ⟨dt, rfl, hdt⟩
    have hdb : 0 ≤ dt ∧ dt < 65536 := by simp [intsOf] at hdt; omega
    have hdw := wrap_u16 hdb.1 hdb.2
    simp (maxSteps := 4000000) -dsimp [-List.all_eq_true, -Array.all_eq_true, -Bool.exists_bool, -Bool.forall_bool, vcsE1, vcsE2, vcsE3, vcsE4, vcsE5, vcsE6, vcsE7, vcsE8, vcsE9, vcsE10, vcsE11, vcsE12, vcsE13, vcsE14, vcsE15, vcsE16, vcsE17, vcsE18, vcsE19, Sx.get, Sx.look, Sx.put, pureFn, findOrd, unF, dstOk, isFloatT, endVC, resFn, packC, newFn, storeFn, buildFn, undef, known, aggT, cellsC, Value.cells, findCon, Con.pure, Con.some, allV, partsV, partsC, fillL, Sx.exitTo, fAr, C.one, Value.oneCell', eqFn, eqFieldsFn, eqElemsFn, partFn, and_assoc, List.zipIdx, sliceFn, boundFn, AppV, CopyV, MakeSliceV, NewsV, GrowV, TextV, bytesL, notInt, typeAt, argAt, Con.read, Con.make, Con.ext, Con.rel, den, Con.extS, Con.draw, Con.step, Draws.steps, Try.f43, l10OpenC, pickC, numC, l4ContactC, l4CoilC, l4SpoilC, l5DrawC, hlt, hk0, hk1, hj0, hj1, h3, hn0, hn1, a1, a2, List.getElem?_append, List.set_append, List.getElem?_set]
    refine l5DrawC_at hR hty hle7 ⟨by omega, by omega⟩ trivial ?_
    rintro cx8 _ p8 hle8 l8 c7 c8 ⟨m, rfl, hm⟩
    simp (maxSteps := 4000000) -dsimp [-List.all_eq_true, -Array.all_eq_true, -Bool.exists_bool, -Bool.forall_bool, vcsE1, vcsE2, vcsE3, vcsE4, vcsE5, vcsE6, vcsE7, vcsE8, vcsE9, vcsE10, vcsE11, vcsE12, vcsE13, vcsE14, vcsE15, vcsE16, vcsE17, vcsE18, vcsE19, Sx.get, Sx.look, Sx.put, pureFn, findOrd, unF, dstOk, isFloatT, endVC, resFn, packC, newFn, storeFn, buildFn, undef, known, aggT, cellsC, Value.cells, findCon, Con.pure, Con.some, allV, partsV, partsC, fillL, Sx.exitTo, fAr, C.one, Value.oneCell', eqFn, eqFieldsFn, eqElemsFn, partFn, and_assoc, List.zipIdx, sliceFn, boundFn, AppV, CopyV, MakeSliceV, NewsV, GrowV, TextV, bytesL, notInt, typeAt, argAt, Con.read, Con.make, Con.ext, Con.rel, den, Con.extS, Con.draw, Con.step, Draws.steps, Try.f43, l10OpenC, pickC, numC, l4ContactC, l4CoilC, l4SpoilC, l5DrawC, hlt, hk0, hk1, hj0, hj1, h3, hn0, hn1, a1, a2, List.getElem?_append, List.set_append, List.getElem?_set, hdw]
    exact fin hle8 hm (hd'.mono (hle6.trans (l7.trans l8)).fact) (by omega) hdb
  by_cases hy2 : y = 2
  · simp (maxSteps := 4000000) -dsimp [-List.all_eq_true, -Array.all_eq_true, -Bool.exists_bool, -Bool.forall_bool, vcsE1, vcsE2, vcsE3, vcsE4, vcsE5, vcsE6, vcsE7, vcsE8, vcsE9, vcsE10, vcsE11, vcsE12, vcsE13, vcsE14, vcsE15, vcsE16, vcsE17, vcsE18, vcsE19, Sx.get, Sx.look, Sx.put, pureFn, findOrd, unF, dstOk, isFloatT, endVC, resFn, packC, newFn, storeFn, buildFn, undef, known, aggT, cellsC, Value.cells, findCon, Con.pure, Con.some, allV, partsV, partsC, fillL, Sx.exitTo, fAr, C.one, Value.oneCell', eqFn, eqFieldsFn, eqElemsFn, partFn, and_assoc, List.zipIdx, sliceFn, boundFn, AppV, CopyV, MakeSliceV, NewsV, GrowV, TextV, bytesL, notInt, typeAt, argAt, Con.read, Con.make, Con.ext, Con.rel, den, Con.extS, Con.draw, Con.step, Draws.steps, Try.f43, l10OpenC, pickC, numC, l4ContactC, l4CoilC, l4SpoilC, l5DrawC, hlt, hk0, hk1, hj0, hj1, h3, hn0, hn1, a1, a2, List.getElem?_append, List.set_append, List.getElem?_set, hy2]
    refine l4SpoilC_at hR hty hle4 ⟨by omega, by omega⟩ ⟨hd4, by omega⟩ ?_
    rintro cx5 _ p5 hle5 - c5 c6 ⟨op', xs', ⟨⟨eo', ecap', rfl, hd', -, -⟩⟩, hxl'⟩
    simp (maxSteps := 4000000) -dsimp [-List.all_eq_true, -Array.all_eq_true, -Bool.exists_bool, -Bool.forall_bool, vcsE1, vcsE2, vcsE3, vcsE4, vcsE5, vcsE6, vcsE7, vcsE8, vcsE9, vcsE10, vcsE11, vcsE12, vcsE13, vcsE14, vcsE15, vcsE16, vcsE17, vcsE18, vcsE19, Sx.get, Sx.look, Sx.put, pureFn, findOrd, unF, dstOk, isFloatT, endVC, resFn, packC, newFn, storeFn, buildFn, undef, known, aggT, cellsC, Value.cells, findCon, Con.pure, Con.some, allV, partsV, partsC, fillL, Sx.exitTo, fAr, C.one, Value.oneCell', eqFn, eqFieldsFn, eqElemsFn, partFn, and_assoc, List.zipIdx, sliceFn, boundFn, AppV, CopyV, MakeSliceV, NewsV, GrowV, TextV, bytesL, notInt, typeAt, argAt, Con.read, Con.make, Con.ext, Con.rel, den, Con.extS, Con.draw, Con.step, Draws.steps, Try.f43, l10OpenC, pickC, numC, l4ContactC, l4CoilC, l4SpoilC, l5DrawC, hlt, hk0, hk1, hj0, hj1, h3, hn0, hn1, a1, a2, List.getElem?_append, List.set_append, List.getElem?_set]
    intro cx6 q6 hle6 hl6
    refine numC_lit hR hty (hle5.trans hle6) hl6 rfl rfl ⟨by omega, by omega⟩ (by decide) (by decide) ?_
    rintro cx7 _ p7 hle7 l7 d5 d6 ⟨dt, rfl, hdt⟩
    have hdb : 0 ≤ dt ∧ dt < 65536 := by simp [intsOf] at hdt; omega
    have hdw := wrap_u16 hdb.1 hdb.2
    simp (maxSteps := 4000000) -dsimp [-List.all_eq_true, -Array.all_eq_true, -Bool.exists_bool, -Bool.forall_bool, vcsE1, vcsE2, vcsE3, vcsE4, vcsE5, vcsE6, vcsE7, vcsE8, vcsE9, vcsE10, vcsE11, vcsE12, vcsE13, vcsE14, vcsE15, vcsE16, vcsE17, vcsE18, vcsE19, Sx.get, Sx.look, Sx.put, pureFn, findOrd, unF, dstOk, isFloatT, endVC, resFn, packC, newFn, storeFn, buildFn, undef, known, aggT, cellsC, Value.cells, findCon, Con.pure, Con.some, allV, partsV, partsC, fillL, Sx.exitTo, fAr, C.one, Value.oneCell', eqFn, eqFieldsFn, eqElemsFn, partFn, and_assoc, List.zipIdx, sliceFn, boundFn, AppV, CopyV, MakeSliceV, NewsV, GrowV, TextV, bytesL, notInt, typeAt, argAt, Con.read, Con.make, Con.ext, Con.rel, den, Con.extS, Con.draw, Con.step, Draws.steps, Try.f43, l10OpenC, pickC, numC, l4ContactC, l4CoilC, l4SpoilC, l5DrawC, hlt, hk0, hk1, hj0, hj1, h3, hn0, hn1, a1, a2, List.getElem?_append, List.set_append, List.getElem?_set]
    refine l5DrawC_at hR hty hle7 ⟨by omega, by omega⟩ trivial ?_
    rintro cx8 _ p8 hle8 l8 c7 c8 ⟨m, rfl, hm⟩
    simp (maxSteps := 4000000) -dsimp [-List.all_eq_true, -Array.all_eq_true, -Bool.exists_bool, -Bool.forall_bool, vcsE1, vcsE2, vcsE3, vcsE4, vcsE5, vcsE6, vcsE7, vcsE8, vcsE9, vcsE10, vcsE11, vcsE12, vcsE13, vcsE14, vcsE15, vcsE16, vcsE17, vcsE18, vcsE19, Sx.get, Sx.look, Sx.put, pureFn, findOrd, unF, dstOk, isFloatT, endVC, resFn, packC, newFn, storeFn, buildFn, undef, known, aggT, cellsC, Value.cells, findCon, Con.pure, Con.some, allV, partsV, partsC, fillL, Sx.exitTo, fAr, C.one, Value.oneCell', eqFn, eqFieldsFn, eqElemsFn, partFn, and_assoc, List.zipIdx, sliceFn, boundFn, AppV, CopyV, MakeSliceV, NewsV, GrowV, TextV, bytesL, notInt, typeAt, argAt, Con.read, Con.make, Con.ext, Con.rel, den, Con.extS, Con.draw, Con.step, Draws.steps, Try.f43, l10OpenC, pickC, numC, l4ContactC, l4CoilC, l4SpoilC, l5DrawC, hlt, hk0, hk1, hj0, hj1, h3, hn0, hn1, a1, a2, List.getElem?_append, List.set_append, List.getElem?_set, hdw]
    exact fin hle8 hm (hd'.mono (hle6.trans (l7.trans l8)).fact) (by omega) hdb
  · simp (maxSteps := 4000000) -dsimp [-List.all_eq_true, -Array.all_eq_true, -Bool.exists_bool, -Bool.forall_bool, vcsE1, vcsE2, vcsE3, vcsE4, vcsE5, vcsE6, vcsE7, vcsE8, vcsE9, vcsE10, vcsE11, vcsE12, vcsE13, vcsE14, vcsE15, vcsE16, vcsE17, vcsE18, vcsE19, Sx.get, Sx.look, Sx.put, pureFn, findOrd, unF, dstOk, isFloatT, endVC, resFn, packC, newFn, storeFn, buildFn, undef, known, aggT, cellsC, Value.cells, findCon, Con.pure, Con.some, allV, partsV, partsC, fillL, Sx.exitTo, fAr, C.one, Value.oneCell', eqFn, eqFieldsFn, eqElemsFn, partFn, and_assoc, List.zipIdx, sliceFn, boundFn, AppV, CopyV, MakeSliceV, NewsV, GrowV, TextV, bytesL, notInt, typeAt, argAt, Con.read, Con.make, Con.ext, Con.rel, den, Con.extS, Con.draw, Con.step, Draws.steps, Try.f43, l10OpenC, pickC, numC, l4ContactC, l4CoilC, l4SpoilC, l5DrawC, hlt, hk0, hk1, hj0, hj1, h3, hn0, hn1, a1, a2, List.getElem?_append, List.set_append, List.getElem?_set, hy0, hy1, hy2]
    intro cx6 q6 hle6 hl6
    refine numC_lit hR hty (hle4.trans hle6) hl6 rfl rfl ⟨by omega, by omega⟩ (by decide) (by decide) ?_
    rintro cx7 _ p7 hle7 l7 d5 d6 ⟨dt, rfl, hdt⟩
    have hdb : 0 ≤ dt ∧ dt < 65536 := by simp [intsOf] at hdt; omega
    have hdw := wrap_u16 hdb.1 hdb.2
    simp (maxSteps := 4000000) -dsimp [-List.all_eq_true, -Array.all_eq_true, -Bool.exists_bool, -Bool.forall_bool, vcsE1, vcsE2, vcsE3, vcsE4, vcsE5, vcsE6, vcsE7, vcsE8, vcsE9, vcsE10, vcsE11, vcsE12, vcsE13, vcsE14, vcsE15, vcsE16, vcsE17, vcsE18, vcsE19, Sx.get, Sx.look, Sx.put, pureFn, findOrd, unF, dstOk, isFloatT, endVC, resFn, packC, newFn, storeFn, buildFn, undef, known, aggT, cellsC, Value.cells, findCon, Con.pure, Con.some, allV, partsV, partsC, fillL, Sx.exitTo, fAr, C.one, Value.oneCell', eqFn, eqFieldsFn, eqElemsFn, partFn, and_assoc, List.zipIdx, sliceFn, boundFn, AppV, CopyV, MakeSliceV, NewsV, GrowV, TextV, bytesL, notInt, typeAt, argAt, Con.read, Con.make, Con.ext, Con.rel, den, Con.extS, Con.draw, Con.step, Draws.steps, Try.f43, l10OpenC, pickC, numC, l4ContactC, l4CoilC, l4SpoilC, l5DrawC, hlt, hk0, hk1, hj0, hj1, h3, hn0, hn1, a1, a2, List.getElem?_append, List.set_append, List.getElem?_set]
    refine l5DrawC_at hR hty hle7 ⟨by omega, by omega⟩ trivial ?_
    rintro cx8 _ p8 hle8 l8 c7 c8 ⟨m, rfl, hm⟩
    simp (maxSteps := 4000000) -dsimp [-List.all_eq_true, -Array.all_eq_true, -Bool.exists_bool, -Bool.forall_bool, vcsE1, vcsE2, vcsE3, vcsE4, vcsE5, vcsE6, vcsE7, vcsE8, vcsE9, vcsE10, vcsE11, vcsE12, vcsE13, vcsE14, vcsE15, vcsE16, vcsE17, vcsE18, vcsE19, Sx.get, Sx.look, Sx.put, pureFn, findOrd, unF, dstOk, isFloatT, endVC, resFn, packC, newFn, storeFn, buildFn, undef, known, aggT, cellsC, Value.cells, findCon, Con.pure, Con.some, allV, partsV, partsC, fillL, Sx.exitTo, fAr, C.one, Value.oneCell', eqFn, eqFieldsFn, eqElemsFn, partFn, and_assoc, List.zipIdx, sliceFn, boundFn, AppV, CopyV, MakeSliceV, NewsV, GrowV, TextV, bytesL, notInt, typeAt, argAt, Con.read, Con.make, Con.ext, Con.rel, den, Con.extS, Con.draw, Con.step, Draws.steps, Try.f43, l10OpenC, pickC, numC, l4ContactC, l4CoilC, l4SpoilC, l5DrawC, hlt, hk0, hk1, hj0, hj1, h3, hn0, hn1, a1, a2, List.getElem?_append, List.set_append, List.getElem?_set, hdw]
    exact fin hle8 hm (hd4.mono (hle6.trans (l7.trans l8)).fact) (by omega) hdb
def drawActDoC_S : Gens Try.prog 43 where
  ι := ((Option Addr) × (Nat) × (List Int))
  A := fun (i : ((Option Addr) × (Nat) × (List Int))) => match i with | (o, cap, bs) => [.v (.slice o bs.length cap)]
  pre := fun (i : ((Option Addr) × (Nat) × (List Int))) (cx : Cx) (mem : List Blk) => match i with | (o, cap, bs) => RdB (factF cx) o bs ∧ (∀ b ∈ bs, 0 ≤ b ∧ b < 256) ∧ bs.length ≤ cap ∧ cap ≤ maxLen
  post := fun (i : ((Option Addr) × (Nat) × (List Int))) (cx : Cx) (mem : List Blk) (cx' : Cx) (c : C) (mem' : List Blk) => match i with | (o, cap, bs) => Le cx cx' ∧ mem' = mem ∧ ∃ m op o1 cap1 xs v dt, c = .v (.tuple #[.agg (cells m), .agg #[.int .i64 op, .slice o1 (List.length xs) cap1], .bool v, .int .u16 dt]) ∧ MOk m ∧ RdD (factF cx') o1 xs ∧ List.length xs ≤ 1000 ∧ 0 ≤ dt ∧ dt < 65536
  enter := Try.call43
  h := fun i cx mem w hp hm => drawActDoC_c i.1 i.2.1 i.2.2 cx mem w hp hm
def drawActDoC : Con Try.prog := Con.gen drawActDoC_S
theorem drawActDoC_at {o : Option Addr} {cap : Nat} {bs : List Int} {d : Nat} {cx : Cx} {mem : List Blk} {K : Cx → C → List Blk → Prop} (hpre : RdB (factF cx) o bs ∧ (∀ b ∈ bs, 0 ≤ b ∧ b < 256) ∧ bs.length ≤ cap ∧ cap ≤ maxLen) (h : ∀ cx' c mem', (Le cx cx' ∧ mem' = mem ∧ ∃ m op o1 cap1 xs v dt, c = .v (.tuple #[.agg (cells m), .agg #[.int .i64 op, .slice o1 (List.length xs) cap1], .bool v, .int .u16 dt]) ∧ MOk m ∧ RdD (factF cx') o1 xs ∧ List.length xs ≤ 1000 ∧ 0 ≤ dt ∧ dt < 65536) → K cx' c mem') : GenV d drawActDoC_S cx [.v (.slice o bs.length cap)] mem K := ⟨(o, cap, bs), rfl, hpre, h⟩
theorem coil_sum {op : Int} {xs : List Dev} (h : coilOk op xs = true) : ∃ a, xs[0]? = some a ∧ argD xs 0 = a ∧ devOk a.k a.n a.p = true ∧ (a.k = 2 ∨ a.k = 3 ∨ a.k = 4 ∨ a.k = 7 ∨ a.k = 8 ∨ a.k = 9 ∨ a.k = 10) ∧ (op = 25 → a.k = 4) ∧ (op = 24 → (a.k = 2 ∨ a.k = 3) ∧ ∃ b, xs = [a, b] ∧ b.k = 5) := by
  unfold coilOk at h
  simp only [Bool.and_eq_true, decide_eq_true_eq] at h
  obtain ⟨⟨⟨h1, h2, h3⟩, h4⟩, h5⟩ := h
  have har : 1 ≤ arity op := by unfold arity; (repeat' split) <;> omega
  have hx0 : xs[0]? = some (argD xs 0) := by
    unfold argD
    rw [List.getElem?_eq_getElem (by omega)]
    simp [show 0 < xs.length by omega]
  have ha : devOk (argD xs 0).k (argD xs 0).n (argD xs 0).p = true := List.all_eq_true.1 h4 _ (List.mem_of_getElem? hx0)
  have e0 : xD xs 0 = argD xs 0 := rfl
  rw [e0] at h5
  refine ⟨_, hx0, rfl, ha, ?_, ?_, ?_⟩
  · generalize argD xs 0 = a at *
    unfold coilB at h5
    (repeat' split at h5) <;> simp at h5 <;> omega
  · intro e
    subst e
    generalize argD xs 0 = a at *
    unfold coilB at h5
    simpa using h5
  · intro e
    subst e
    obtain ⟨x, y, rfl⟩ := list_two (h3.trans (by decide))
    unfold coilB at h5
    simp at h5
    exact ⟨h5.1, y, rfl, h5.2⟩
theorem spl3 (a b c d e f : C) : splice [a, b, c] 0 [d, e, f] = [d, e, f] := rfl
theorem spl136 (m n : M) : splice (cellC m) 0 (cellC n) = cellC n := by kernel_rfl
theorem waButC_c (m f : M) (op : Int) (o : Option Addr) (cap : Nat) (xs : List Dev) (w : World) (hpre : RdD (factF ⟨w, [], w, []⟩) o xs ∧ MOk m ∧ MOk f ∧ coilOk op xs = true) : Calls Try.prog 46 #[.agg (cells m), .agg (cells f), .agg #[.int .i64 op, .slice o xs.length cap]] w fun e w' => e = .returned (.agg (cells (butN m f op (argD xs 0) (argD xs 1)))) ∧ RowKit.Below w.heap.size w w' := by
  refine (plain_of_vcs ⟨[sMemBitC, sMemPutC], []⟩ hmx Try.func46 rfl (by kernel_rfl) (args := [.agg (cells m), .agg (cells f), .agg #[.int .i64 op, .slice o xs.length cap]]) (by simp [Try.ntmps46]) w (· = .agg (cells (butN m f op (argD xs 0) (argD xs 1)))) 800 ?_).mono fun e w' ⟨v, h1, h2, h3⟩ => ⟨h2 ▸ h1, h3⟩
  obtain ⟨h, hm, hf, hc⟩ := hpre
  obtain ⟨a, hx0, ea, had, hak, h25, h24⟩ := coil_sum hc
  have a0 := h.at0 hx0
  have hpl := fun hk => place_dev (k := a.k) (n := a.n) (p := a.p) hk had
  have hb := (place_bd a.k a.n).1
  obtain ⟨l1, l2, l3, l4, l5, l6, l7, l8, l9, l10⟩ := place_lt a.n
  rw [ea]
  have hl0 : 0 < xs.length := (List.getElem?_eq_some_iff.1 hx0).1
  have hl0' : (0 : Int) < xs.length := by omega
  have hkf := butK_ok hm hf a
  by_cases k7 : a.k = 7
  · have n24 : ¬ op = 24 := fun e => by have := (h24 e).1; omega
    have n25 : ¬ op = 25 := fun e => by have := h25 e; omega
    have hn := hpl (by omega)
    rw [k7] at hn hb
    rw [hn] at hb l7
    have hj : a.n.toNat < 16 := by omega
    have g2 := fun m => get_TT m _ hj
    have s2 := fun m b x => set_TT m b x _ hj
    have ob : 5 + a.n.toNat * 2 + 2 ≤ 136 := by omega
    have hk : MOk { m with Fault := f.Fault, T := upd m.T a.n.toNat (f.T a.n.toNat) } := by unfold butK at hkf; rw [if_pos k7] at hkf; exact hkf
    have e : butN m f op a (argD xs 1) = { m with Fault := f.Fault, T := upd m.T a.n.toNat (f.T a.n.toNat) } := by
      rw [butN_no n24 n25, memPut_no (by unfold isPutK; omega)]
      unfold butK; rw [if_pos k7]
    have hp : ∀ b, memPut { m with Fault := f.Fault, T := upd m.T a.n.toNat (f.T a.n.toNat) } 7 a.n b = { m with Fault := f.Fault, T := upd m.T a.n.toNat (f.T a.n.toNat) } := fun b => memPut_no (by unfold isPutK; omega)
    rw [e]
    simp (maxSteps := 4000000) -dsimp [-List.all_eq_true, -Array.all_eq_true, -Bool.exists_bool, -Bool.forall_bool, vcsE1, vcsE2, vcsE3, vcsE4, vcsE5, vcsE6, vcsE7, vcsE8, vcsE9, vcsE10, vcsE11, vcsE12, vcsE13, vcsE14, vcsE15, vcsE16, vcsE17, vcsE18, vcsE19, Sx.get, Sx.look, Sx.put, pureFn, findOrd, unF, dstOk, isFloatT, endVC, resFn, packC, newFn, storeFn, buildFn, undef, known, aggT, cellsC, Value.cells, findCon, Con.pure, Con.some, allV, partsV, partsC, fillL, Sx.exitTo, fAr, C.one, Value.oneCell', eqFn, eqFieldsFn, eqElemsFn, partFn, and_assoc, List.zipIdx, sliceFn, boundFn, AppV, CopyV, MakeSliceV, NewsV, GrowV, TextV, bytesL, notInt, typeAt, argAt, Con.read, Con.make, Con.ext, Con.rel, den, Con.extS, Con.draw, Con.step, Draws.steps, Try.f46, sMemBitC, sMemPutC, -Sx.splice_two, spl3, spl136, hm, hf, a0.there, a0.all, k7, hl0', hl0, hb, l7, g2, s2, ob, hk, n24, n25, hp]
  by_cases k8 : a.k = 8
  · have n24 : ¬ op = 24 := fun e => by have := (h24 e).1; omega
    have n25 : ¬ op = 25 := fun e => by have := h25 e; omega
    have hn := hpl (by omega)
    rw [k8] at hn hb
    rw [hn] at hb l8
    have hj : a.n.toNat < 16 := by omega
    have g2 := fun m => get_CC m _ hj
    have s2 := fun m b c x => set_CC m b c x _ hj
    have ob : 37 + a.n.toNat * 3 + 3 ≤ 136 := by omega
    have hk : MOk { m with Fault := f.Fault, C := upd m.C a.n.toNat (f.C a.n.toNat) } := by unfold butK at hkf; rw [if_neg k7, if_pos k8] at hkf; exact hkf
    have e : butN m f op a (argD xs 1) = { m with Fault := f.Fault, C := upd m.C a.n.toNat (f.C a.n.toNat) } := by
      rw [butN_no n24 n25, memPut_no (by unfold isPutK; omega)]
      unfold butK; rw [if_neg k7, if_pos k8]
    have hp : ∀ b, memPut { m with Fault := f.Fault, C := upd m.C a.n.toNat (f.C a.n.toNat) } 8 a.n b = { m with Fault := f.Fault, C := upd m.C a.n.toNat (f.C a.n.toNat) } := fun b => memPut_no (by unfold isPutK; omega)
    rw [e]
    simp (maxSteps := 4000000) -dsimp [-List.all_eq_true, -Array.all_eq_true, -Bool.exists_bool, -Bool.forall_bool, vcsE1, vcsE2, vcsE3, vcsE4, vcsE5, vcsE6, vcsE7, vcsE8, vcsE9, vcsE10, vcsE11, vcsE12, vcsE13, vcsE14, vcsE15, vcsE16, vcsE17, vcsE18, vcsE19, Sx.get, Sx.look, Sx.put, pureFn, findOrd, unF, dstOk, isFloatT, endVC, resFn, packC, newFn, storeFn, buildFn, undef, known, aggT, cellsC, Value.cells, findCon, Con.pure, Con.some, allV, partsV, partsC, fillL, Sx.exitTo, fAr, C.one, Value.oneCell', eqFn, eqFieldsFn, eqElemsFn, partFn, and_assoc, List.zipIdx, sliceFn, boundFn, AppV, CopyV, MakeSliceV, NewsV, GrowV, TextV, bytesL, notInt, typeAt, argAt, Con.read, Con.make, Con.ext, Con.rel, den, Con.extS, Con.draw, Con.step, Draws.steps, Try.f46, sMemBitC, sMemPutC, -Sx.splice_two, spl3, spl136, hm, hf, a0.there, a0.all, k8, hl0', hl0, hb, l8, g2, s2, ob, hk, n24, n25, hp]
  by_cases k9 : a.k = 9
  · have n24 : ¬ op = 24 := fun e => by have := (h24 e).1; omega
    have n25 : ¬ op = 25 := fun e => by have := h25 e; omega
    have hn := hpl (by omega)
    rw [k9] at hn hb
    rw [hn] at hb l9
    have hj : a.n.toNat < 32 := by omega
    have g1 := fun m => get_D m _ hj
    have f1 := fun m h => (List.getElem_eq_iff (h := h)).2 (g1 m)
    have s2 := fun m x => set_D m x _ hj
    have ob : 85 + a.n.toNat < 136 := by omega
    have hk : MOk { m with Fault := f.Fault, D := upd m.D a.n.toNat (f.D a.n.toNat) } := by unfold butK at hkf; rw [if_neg k7, if_neg k8, if_pos k9] at hkf; exact hkf
    have e : butN m f op a (argD xs 1) = { m with Fault := f.Fault, D := upd m.D a.n.toNat (f.D a.n.toNat) } := by
      rw [butN_no n24 n25, memPut_no (by unfold isPutK; omega)]
      unfold butK; rw [if_neg k7, if_neg k8, if_pos k9]
    have hp : ∀ b, memPut { m with Fault := f.Fault, D := upd m.D a.n.toNat (f.D a.n.toNat) } 9 a.n b = { m with Fault := f.Fault, D := upd m.D a.n.toNat (f.D a.n.toNat) } := fun b => memPut_no (by unfold isPutK; omega)
    rw [e]
    simp (maxSteps := 4000000) -dsimp [-List.all_eq_true, -Array.all_eq_true, -Bool.exists_bool, -Bool.forall_bool, vcsE1, vcsE2, vcsE3, vcsE4, vcsE5, vcsE6, vcsE7, vcsE8, vcsE9, vcsE10, vcsE11, vcsE12, vcsE13, vcsE14, vcsE15, vcsE16, vcsE17, vcsE18, vcsE19, Sx.get, Sx.look, Sx.put, pureFn, findOrd, unF, dstOk, isFloatT, endVC, resFn, packC, newFn, storeFn, buildFn, undef, known, aggT, cellsC, Value.cells, findCon, Con.pure, Con.some, allV, partsV, partsC, fillL, Sx.exitTo, fAr, C.one, Value.oneCell', eqFn, eqFieldsFn, eqElemsFn, partFn, and_assoc, List.zipIdx, sliceFn, boundFn, AppV, CopyV, MakeSliceV, NewsV, GrowV, TextV, bytesL, notInt, typeAt, argAt, Con.read, Con.make, Con.ext, Con.rel, den, Con.extS, Con.draw, Con.step, Draws.steps, Try.f46, sMemBitC, sMemPutC, -Sx.splice_two, spl3, spl136, hm, hf, a0.there, a0.all, k9, hl0', hl0, hb, l9, g1, f1, s2, ob, hk, n24, n25, hp]
    omega
  by_cases k10 : a.k = 10
  · have n24 : ¬ op = 24 := fun e => by have := (h24 e).1; omega
    have n25 : ¬ op = 25 := fun e => by have := h25 e; omega
    have hn := hpl (by omega)
    rw [k10] at hn hb
    rw [hn] at hb l10
    have hj : a.n.toNat < 16 := by omega
    have g1 := fun m => get_R m _ hj
    have f1 := fun m h => (List.getElem_eq_iff (h := h)).2 (g1 m)
    have s2 := fun m x => set_R m x _ hj
    have ob : 117 + a.n.toNat < 136 := by omega
    have hk : MOk { m with Fault := f.Fault, R := upd m.R a.n.toNat (f.R a.n.toNat) } := by unfold butK at hkf; rw [if_neg k7, if_neg k8, if_neg k9, if_pos k10] at hkf; exact hkf
    have e : butN m f op a (argD xs 1) = { m with Fault := f.Fault, R := upd m.R a.n.toNat (f.R a.n.toNat) } := by
      rw [butN_no n24 n25, memPut_no (by unfold isPutK; omega)]
      unfold butK; rw [if_neg k7, if_neg k8, if_neg k9, if_pos k10]
    have hp : ∀ b, memPut { m with Fault := f.Fault, R := upd m.R a.n.toNat (f.R a.n.toNat) } 10 a.n b = { m with Fault := f.Fault, R := upd m.R a.n.toNat (f.R a.n.toNat) } := fun b => memPut_no (by unfold isPutK; omega)
    rw [e]
    simp (maxSteps := 4000000) -dsimp [-List.all_eq_true, -Array.all_eq_true, -Bool.exists_bool, -Bool.forall_bool, vcsE1, vcsE2, vcsE3, vcsE4, vcsE5, vcsE6, vcsE7, vcsE8, vcsE9, vcsE10, vcsE11, vcsE12, vcsE13, vcsE14, vcsE15, vcsE16, vcsE17, vcsE18, vcsE19, Sx.get, Sx.look, Sx.put, pureFn, findOrd, unF, dstOk, isFloatT, endVC, resFn, packC, newFn, storeFn, buildFn, undef, known, aggT, cellsC, Value.cells, findCon, Con.pure, Con.some, allV, partsV, partsC, fillL, Sx.exitTo, fAr, C.one, Value.oneCell', eqFn, eqFieldsFn, eqElemsFn, partFn, and_assoc, List.zipIdx, sliceFn, boundFn, AppV, CopyV, MakeSliceV, NewsV, GrowV, TextV, bytesL, notInt, typeAt, argAt, Con.read, Con.make, Con.ext, Con.rel, den, Con.extS, Con.draw, Con.step, Draws.steps, Try.f46, sMemBitC, sMemPutC, -Sx.splice_two, spl3, spl136, hm, hf, a0.there, a0.all, k10, hl0', hl0, hb, l10, g1, f1, s2, ob, hk, n24, n25, hp]
    omega
  have hbk : a.k = 2 ∨ a.k = 3 ∨ a.k = 4 := by clear h24; omega
  have hk : MOk { m with Fault := f.Fault } := fault_ok hm
  have eK : butK m f a = { m with Fault := f.Fault } := by unfold butK; rw [if_neg k7, if_neg k8, if_neg k9, if_neg k10]
  by_cases o24 : op = 24
  · subst o24
    obtain ⟨hk2, b, rfl, hb5⟩ := h24 rfl
    have b0 := h.at1 (x := b) rfl
    have e : butN m f 24 a (argD [a, b] 1) = memPut (memPut { m with Fault := f.Fault } a.k a.n (memBit f a.k a.n)) 5 b.n (memBit f 5 b.n) := by
      have eb : argD [a, b] 1 = b := rfl
      unfold butN butE butS
      rw [if_pos rfl, if_neg (by decide), eK, eb, hb5]
    have hk3 := memPut_ok (k := a.k) (n := a.n) (b := memBit f a.k a.n) hk
    rw [e]
    simp (maxSteps := 4000000) -dsimp [-List.all_eq_true, -Array.all_eq_true, -Bool.exists_bool, -Bool.forall_bool, vcsE1, vcsE2, vcsE3, vcsE4, vcsE5, vcsE6, vcsE7, vcsE8, vcsE9, vcsE10, vcsE11, vcsE12, vcsE13, vcsE14, vcsE15, vcsE16, vcsE17, vcsE18, vcsE19, Sx.get, Sx.look, Sx.put, pureFn, findOrd, unF, dstOk, isFloatT, endVC, resFn, packC, newFn, storeFn, buildFn, undef, known, aggT, cellsC, Value.cells, findCon, Con.pure, Con.some, allV, partsV, partsC, fillL, Sx.exitTo, fAr, C.one, Value.oneCell', eqFn, eqFieldsFn, eqElemsFn, partFn, and_assoc, List.zipIdx, sliceFn, boundFn, AppV, CopyV, MakeSliceV, NewsV, GrowV, TextV, bytesL, notInt, typeAt, argAt, Con.read, Con.make, Con.ext, Con.rel, den, Con.extS, Con.draw, Con.step, Draws.steps, Try.f46, sMemBitC, sMemPutC, -Sx.splice_two, spl3, spl136, hm, hf, a0.there, a0.all, b0.there, b0.all, k7, k8, k9, k10, hk, hk3, hb5]
  by_cases o25 : op = 25
  · subst o25
    have k4 := h25 rfl
    clear h24
    have hn := hpl (by omega)
    rw [k4] at hn hb
    rw [hn] at hb l4
    have e : butN m f 25 a (argD xs 1) = butG f (a.n / 8 * 8) 8 (memPut { m with Fault := f.Fault } 4 a.n (memBit f 4 a.n)) := by
      unfold butN butE butS
      rw [if_neg (by decide), if_pos rfl, eK, k4]
    have hk3 := memPut_ok (k := 4) (n := a.n) (b := memBit f 4 a.n) hk
    rw [e]
    simp (maxSteps := 4000000) -dsimp [-List.all_eq_true, -Array.all_eq_true, -Bool.exists_bool, -Bool.forall_bool, vcsE1, vcsE2, vcsE3, vcsE4, vcsE5, vcsE6, vcsE7, vcsE8, vcsE9, vcsE10, vcsE11, vcsE12, vcsE13, vcsE14, vcsE15, vcsE16, vcsE17, vcsE18, vcsE19, Sx.get, Sx.look, Sx.put, pureFn, findOrd, unF, dstOk, isFloatT, endVC, resFn, packC, newFn, storeFn, buildFn, undef, known, aggT, cellsC, Value.cells, findCon, Con.pure, Con.some, allV, partsV, partsC, fillL, Sx.exitTo, fAr, C.one, Value.oneCell', eqFn, eqFieldsFn, eqElemsFn, partFn, and_assoc, List.zipIdx, sliceFn, boundFn, AppV, CopyV, MakeSliceV, NewsV, GrowV, TextV, bytesL, notInt, typeAt, argAt, Con.read, Con.make, Con.ext, Con.rel, den, Con.extS, Con.draw, Con.step, Draws.steps, Try.f46, sMemBitC, sMemPutC, -Sx.splice_two, spl3, spl136, hm, hf, a0.there, a0.all, hl0', hl0, k4, hk, hk3]
    intro b b1 b2 b3 b4
    have g0 := butG_ok f (a.n / 8 * 8) hk3
    generalize hm0 : memPut { m with Fault := f.Fault } 4 a.n (memBit f 4 a.n) = m0 at *
    refine loop_inv (σ := ⟨[sMemBitC, sMemPutC], []⟩) hmx (by kernel_rfl) (fun q cx tm mem => cx = ⟨w, [], w, []⟩ ∧ ∃ i : Nat, i ≤ 8 ∧ q = 8 - i ∧ mem = [⟨b, cellC (butG f (a.n / 8 * 8) i m0), 43⟩, ⟨b1, cellC f, 43⟩, ⟨b2, [.v (.int .i64 25), .v (.slice o xs.length cap)], 70⟩, ⟨b3, cellC zeroM, 43⟩, ⟨b4, [.v (.int .i64 4), .v (.int .i64 a.n), .v (.int .i64 a.p)], 48⟩] ∧
        Sx.look tm 8 = .v (.int .i64 i) ∧ Sx.look tm 3 = .p 0 b 0 ∧ Sx.look tm 4 = .p 1 b1 0 ∧ Sx.look tm 5 = .p 2 b2 0 ∧ Sx.look tm 6 = .p 3 b3 0 ∧ Sx.look tm 7 = .p 4 b4 0)
      8 ⟨rfl, 0, by omega, rfl, rfl, by simp [Sx.look], by simp [Sx.look], by simp [Sx.look], by simp [Sx.look], by simp [Sx.look], by simp [Sx.look]⟩ ?_
    rintro q cx tm mem ⟨rfl, i, hi, rfl, rfl, j8, j3, j4, j5, j6, j7⟩
    refine ⟨400, ?_⟩
    have hgi := g0 i
    by_cases hlt : i < 8
    · have hlt' : (i : Int) < 8 := by omega
      have t1 : a.n.tdiv 8 = a.n / 8 := Int.tdiv_eq_ediv_of_nonneg hb
      have t2 : IntKind.i64.wrap (a.n / 8) = a.n / 8 := wrap_i64 (by omega) (by omega)
      have t3 : IntKind.i64.wrap (a.n / 8 * 8) = a.n / 8 * 8 := wrap_i64 (by omega) (by omega)
      have t4 : IntKind.i64.wrap (a.n / 8 * 8 + i) = a.n / 8 * 8 + i := wrap_i64 (by omega) (by omega)
      simp (maxSteps := 4000000) -dsimp [-List.all_eq_true, -Array.all_eq_true, -Bool.exists_bool, -Bool.forall_bool, vcsE1, vcsE2, vcsE3, vcsE4, vcsE5, vcsE6, vcsE7, vcsE8, vcsE9, vcsE10, vcsE11, vcsE12, vcsE13, vcsE14, vcsE15, vcsE16, vcsE17, vcsE18, vcsE19, Sx.get, Sx.look, Sx.put, pureFn, findOrd, unF, dstOk, isFloatT, endVC, resFn, packC, newFn, storeFn, buildFn, undef, known, aggT, cellsC, Value.cells, findCon, Con.pure, Con.some, allV, partsV, partsC, fillL, Sx.exitTo, fAr, C.one, Value.oneCell', eqFn, eqFieldsFn, eqElemsFn, partFn, and_assoc, List.zipIdx, sliceFn, boundFn, AppV, CopyV, MakeSliceV, NewsV, GrowV, TextV, bytesL, notInt, typeAt, argAt, Con.read, Con.make, Con.ext, Con.rel, den, Con.extS, Con.draw, Con.step, Draws.steps, Try.f46, sMemBitC, sMemPutC, -Sx.splice_two, spl3, spl136, j8, j3, j4, j5, j6, j7, hlt', t1, t2, t3, t4, hf, hgi, i_succ (i := i) (by omega)]
      intro b5
      exact ⟨5, 8 - (i + 1), by omega, i + 1, by omega, rfl, rfl, by omega⟩
    · have hlt' : ¬ (i : Int) < 8 := by omega
      have h8 : i = 8 := by omega
      subst h8
      simp (maxSteps := 4000000) -dsimp [-List.all_eq_true, -Array.all_eq_true, -Bool.exists_bool, -Bool.forall_bool, vcsE1, vcsE2, vcsE3, vcsE4, vcsE5, vcsE6, vcsE7, vcsE8, vcsE9, vcsE10, vcsE11, vcsE12, vcsE13, vcsE14, vcsE15, vcsE16, vcsE17, vcsE18, vcsE19, Sx.get, Sx.look, Sx.put, pureFn, findOrd, unF, dstOk, isFloatT, endVC, resFn, packC, newFn, storeFn, buildFn, undef, known, aggT, cellsC, Value.cells, findCon, Con.pure, Con.some, allV, partsV, partsC, fillL, Sx.exitTo, fAr, C.one, Value.oneCell', eqFn, eqFieldsFn, eqElemsFn, partFn, and_assoc, List.zipIdx, sliceFn, boundFn, AppV, CopyV, MakeSliceV, NewsV, GrowV, TextV, bytesL, notInt, typeAt, argAt, Con.read, Con.make, Con.ext, Con.rel, den, Con.extS, Con.draw, Con.step, Draws.steps, Try.f46, sMemBitC, sMemPutC, -Sx.splice_two, spl3, spl136, j8, j3, j4, j5, j6, j7, hlt', hf, hgi]
  · have e : butN m f op a (argD xs 1) = memPut { m with Fault := f.Fault } a.k a.n (memBit f a.k a.n) := by rw [butN_no o24 o25, eK]
    rw [e]
    simp (maxSteps := 4000000) -dsimp [-List.all_eq_true, -Array.all_eq_true, -Bool.exists_bool, -Bool.forall_bool, vcsE1, vcsE2, vcsE3, vcsE4, vcsE5, vcsE6, vcsE7, vcsE8, vcsE9, vcsE10, vcsE11, vcsE12, vcsE13, vcsE14, vcsE15, vcsE16, vcsE17, vcsE18, vcsE19, Sx.get, Sx.look, Sx.put, pureFn, findOrd, unF, dstOk, isFloatT, endVC, resFn, packC, newFn, storeFn, buildFn, undef, known, aggT, cellsC, Value.cells, findCon, Con.pure, Con.some, allV, partsV, partsC, fillL, Sx.exitTo, fAr, C.one, Value.oneCell', eqFn, eqFieldsFn, eqElemsFn, partFn, and_assoc, List.zipIdx, sliceFn, boundFn, AppV, CopyV, MakeSliceV, NewsV, GrowV, TextV, bytesL, notInt, typeAt, argAt, Con.read, Con.make, Con.ext, Con.rel, den, Con.extS, Con.draw, Con.step, Draws.steps, Try.f46, sMemBitC, sMemPutC, -Sx.splice_two, spl3, spl136, hm, hf, a0.there, a0.all, hl0', hl0, k7, k8, k9, k10, hk, o24, o25]
def waButC_S : Reads Try.prog 46 where
  ι := ((M) × (M) × (Int) × (Option Addr) × (Nat) × (List Dev))
  A := fun (i : ((M) × (M) × (Int) × (Option Addr) × (Nat) × (List Dev))) => match i with | (m, f, op, o, cap, xs) => [.agg (cells m), .agg (cells f), .agg #[.int .i64 op, .slice o xs.length cap]]
  pre := fun (i : ((M) × (M) × (Int) × (Option Addr) × (Nat) × (List Dev))) (F : Facts) => match i with | (m, f, op, o, cap, xs) => RdD F o xs ∧ MOk m ∧ MOk f ∧ coilOk op xs = true
  res := fun (i : ((M) × (M) × (Int) × (Option Addr) × (Nat) × (List Dev))) => match i with | (m, f, op, o, cap, xs) => .agg (cells (butN m f op (argD xs 0) (argD xs 1)))
  mono := by
    intro i F G hs h
    first | exact h | exact h.mono hs | exact ⟨h.1.mono hs, h.2⟩ | exact ⟨h.1.mono hs, h.2.1.mono hs, h.2.2⟩ | exact ⟨h.1.mono hs, h.2.1.mono hs⟩
  uniq := by
    rintro ⟨m, f, op, o, cap, xs⟩ ⟨m', f', op', o', cap', xs'⟩ F hA h h'
    simp at hA
    (try simp only [Int.natCast_inj] at hA)
    obtain rfl : xs = xs' := RdD.uniq h.1 h'.1 (by simp_all) (by simp_all)
    simp_all
  enter := Try.call46
  h := fun i w hp => waButC_c i.1 i.2.1 i.2.2.1 i.2.2.2.1 i.2.2.2.2.1 i.2.2.2.2.2 w (by rw [factF_init]; exact hp)
def waButC : Con Try.prog := Con.read waButC_S
theorem waButC_rw {m f : M} {op : Int} {o : Option Addr} {cap : Nat} {xs : List Dev} {d : Nat} {cx : Cx} {mem : List Blk} {K : C → Prop} (hpre : RdD (nowF cx mem) o xs ∧ MOk m ∧ MOk f ∧ coilOk op xs = true) : ReadV d waButC_S cx [.v (.agg (cells m)), .v (.agg (cells f)), .v (.agg #[.int .i64 op, .slice o xs.length cap])] mem K = K (.v (.agg (cells (butN m f op (argD xs 0) (argD xs 1))))) := waButC_S.eq (m, f, op, o, cap, xs) rfl hpre
end Go.Proofs.Ytmiicjgbhkjocaa
