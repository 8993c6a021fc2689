/-
  Contracts: what the laws of memories draw.
-/
import Derived.Test.YtmiicjgbhkjocaaGj
import Derived.Test.YtmiicjgbhkjocaaSw
set_option linter.unusedVariables false
set_option linter.unusedSimpArgs false
set_option maxRecDepth 100000
set_option maxHeartbeats 4000000
namespace Go.Proofs.Ytmiicjgbhkjocaa
open Go Go.Sx

theorem open_is {cx : Cx} {mem : List Blk} {b : Nat} {o : Option Addr} {cap : Nat} {bs : List Int} (h : RdB (factF cx) o bs) (hb : ∀ b ∈ bs, 0 ≤ b ∧ b < 256) :
    (⟨mem.length, b, o, cap, bs.take 2000, 172⟩ : Rdr).Is (factF cx) (mem ++ [(⟨mem.length, b, o, cap, bs.take 2000, 172⟩ : Rdr).blk 0]) := by
  refine ⟨by simp, fun j x hx => ?_, fun x hx => hb x (List.mem_of_mem_take hx), by simp; omega⟩
  simp only [List.map_take] at hx
  rw [List.getElem?_take] at hx
  split at hx
  · exact h j x hx
  · simp at hx
theorem l10OpenC_c (o : Option Addr) (cap : Nat) (bs : List Int) (cx : Cx) (mem : List Blk) (w : World) (hpre : RdB (factF cx) o bs ∧ (∀ b ∈ bs, 0 ≤ b ∧ b < 256) ∧ bs.length ≤ cap ∧ cap ≤ maxLen) (hm : MemRel cx mem w) :
    Calls Try.prog 75 (([.v (.slice o bs.length cap)] : List C).map den).toArray w fun e w' => ∃ cx' c mem', e = .returned (den c) ∧ MemRel cx' mem' w' ∧ ∃ (R : Rdr) (mem0 : List Blk) (p0 : Int), c = .p R.k R.b 0 ∧ mem' = mem0.set R.k (R.blk p0) ∧ p0 = 0 ∧ R.Is (factF cx') mem0 ∧ R.ty = 172 ∧ Le cx cx' ∧ mem0.take mem.length = mem ∧ R.k = mem.length ∧ mem0.length = mem.length + 1 := by
  refine step_of_vcs ⟨[], []⟩ hmx Try.func75 rfl (by kernel_rfl) (args := [.v (.slice o bs.length cap)]) (by simp [Try.ntmps75]) hm (fun cx' c mem' => ∃ (R : Rdr) (mem0 : List Blk) (p0 : Int), c = .p R.k R.b 0 ∧ mem' = mem0.set R.k (R.blk p0) ∧ p0 = 0 ∧ R.Is (factF cx') mem0 ∧ R.ty = 172 ∧ Le cx cx' ∧ mem0.take mem.length = mem ∧ R.k = mem.length ∧ mem0.length = mem.length + 1) 400 ?_
  obtain ⟨h, hb, hc, hcm⟩ := hpre
  have hcm' : cap ≤ 9223372036854775807 := by unfold maxLen at hcm; omega
  by_cases h2 : 2000 < bs.length
  · have h2' : (2000 : Int) < bs.length := by omega
    have h3 : (2000 : Int) ≤ cap := by omega
    simp (maxSteps := 4000000) -dsimp [-List.all_eq_true, -Array.all_eq_true, -Bool.exists_bool, -Bool.forall_bool, vcsE1, vcsE2, vcsE3, vcsE4, vcsE5, vcsE6, vcsE7, vcsE8, vcsE9, vcsE10, vcsE11, vcsE12, vcsE13, vcsE14, vcsE15, vcsE16, vcsE17, vcsE18, vcsE19, Sx.get, Sx.look, Sx.put, pureFn, findOrd, unF, dstOk, isFloatT, endVC, resFn, packC, newFn, storeFn, buildFn, undef, known, aggT, cellsC, Value.cells, findCon, Con.pure, Con.some, allV, partsV, partsC, fillL, Sx.exitTo, fAr, C.one, Value.oneCell', eqFn, eqFieldsFn, eqElemsFn, partFn, and_assoc, List.zipIdx, sliceFn, boundFn, AppV, CopyV, MakeSliceV, NewsV, GrowV, TextV, bytesL, notInt, typeAt, argAt, Con.read, Con.make, Con.ext, Con.rel, den, Con.extS, Con.draw, Con.step, Draws.steps, Try.f75, h2', h3]
    intro b
    refine EndK.all ⟨⟨mem.length, b, o, cap, bs.take 2000, 172⟩, _, 0, rfl, ?_, rfl, open_is h hb, rfl, Le.refl _, by simp, rfl, by simp⟩
    simp [Rdr.blk]
    omega
  · have h2' : ¬ (2000 : Int) < bs.length := by omega
    simp (maxSteps := 4000000) -dsimp [-List.all_eq_true, -Array.all_eq_true, -Bool.exists_bool, -Bool.forall_bool, vcsE1, vcsE2, vcsE3, vcsE4, vcsE5, vcsE6, vcsE7, vcsE8, vcsE9, vcsE10, vcsE11, vcsE12, vcsE13, vcsE14, vcsE15, vcsE16, vcsE17, vcsE18, vcsE19, Sx.get, Sx.look, Sx.put, pureFn, findOrd, unF, dstOk, isFloatT, endVC, resFn, packC, newFn, storeFn, buildFn, undef, known, aggT, cellsC, Value.cells, findCon, Con.pure, Con.some, allV, partsV, partsC, fillL, Sx.exitTo, fAr, C.one, Value.oneCell', eqFn, eqFieldsFn, eqElemsFn, partFn, and_assoc, List.zipIdx, sliceFn, boundFn, AppV, CopyV, MakeSliceV, NewsV, GrowV, TextV, bytesL, notInt, typeAt, argAt, Con.read, Con.make, Con.ext, Con.rel, den, Con.extS, Con.draw, Con.step, Draws.steps, Try.f75, h2']
    intro b
    refine EndK.all ⟨⟨mem.length, b, o, cap, bs.take 2000, 172⟩, _, 0, rfl, ?_, rfl, open_is h hb, rfl, Le.refl _, by simp, rfl, by simp⟩
    simp [Rdr.blk]
    omega
def l10OpenC_S : Gens Try.prog 75 where
  ι := ((Option Addr) × (Nat) × (List Int))
  A := fun (i : ((Option Addr) × (Nat) × (List Int))) => match i with | (o, cap, bs) => [.v (.slice o bs.length cap)]
  pre := fun (i : ((Option Addr) × (Nat) × (List Int))) (cx : Cx) (mem : List Blk) => match i with | (o, cap, bs) => RdB (factF cx) o bs ∧ (∀ b ∈ bs, 0 ≤ b ∧ b < 256) ∧ bs.length ≤ cap ∧ cap ≤ maxLen
  post := fun (i : ((Option Addr) × (Nat) × (List Int))) (cx : Cx) (mem : List Blk) (cx' : Cx) (c : C) (mem' : List Blk) => match i with | (o, cap, bs) => ∃ (R : Rdr) (mem0 : List Blk) (p0 : Int), c = .p R.k R.b 0 ∧ mem' = mem0.set R.k (R.blk p0) ∧ p0 = 0 ∧ R.Is (factF cx') mem0 ∧ R.ty = 172 ∧ Le cx cx' ∧ mem0.take mem.length = mem ∧ R.k = mem.length ∧ mem0.length = mem.length + 1
  enter := Try.call75
  h := fun i cx mem w hp hm => l10OpenC_c i.1 i.2.1 i.2.2 cx mem w hp hm
def l10OpenC : Con Try.prog := Con.gen l10OpenC_S
theorem l10OpenC_at {o : Option Addr} {cap : Nat} {bs : List Int} {d : Nat} {cx : Cx} {mem : List Blk} {K : Cx → C → List Blk → Prop} (hpre : RdB (factF cx) o bs ∧ (∀ b ∈ bs, 0 ≤ b ∧ b < 256) ∧ bs.length ≤ cap ∧ cap ≤ maxLen) (h : ∀ cx' c mem', (∃ (R : Rdr) (mem0 : List Blk) (p0 : Int), c = .p R.k R.b 0 ∧ mem' = mem0.set R.k (R.blk p0) ∧ p0 = 0 ∧ R.Is (factF cx') mem0 ∧ R.ty = 172 ∧ Le cx cx' ∧ mem0.take mem.length = mem ∧ R.k = mem.length ∧ mem0.length = mem.length + 1) → K cx' c mem') : GenV d l10OpenC_S cx [.v (.slice o bs.length cap)] mem K := ⟨(o, cap, bs), rfl, hpre, h⟩
theorem l5AsksC_c  (R : Rdr) (p : Int) (cx : Cx) (mem : List Blk) (w : World) (hty : R.ty = 172) (hR : R.Is (factF cx) mem) (hp : 0 ≤ p) (hpc : p + 25 ≤ 1125899906842624) (hpre : True) (hm : MemRel cx (mem.set R.k (R.blk p)) w) :
    Calls Try.prog 77 ((.p R.k R.b 0 :: [] : List C).map den).toArray w fun e w' => ∃ cx' x mem', e = .returned (den x) ∧ MemRel cx' mem' w' ∧ (fun cx' x mem' => ∃ v p', x = .v v ∧ mem' = mem.set R.k (R.blk p') ∧ Le cx cx' ∧ p ≤ p' ∧ p' ≤ p + 25 ∧ (∃ k n q, v = .agg #[.int .i64 k, .int .i64 n, .int .i64 q])) cx' x mem' := by
  refine step_of_vcs ⟨[pickC, numC, l2AnyC], [(3, [(0, false), (1, false), (2, false), (3, false), (1, true), (4, false), (1, true), (5, false), (6, false), (7, false)])]⟩ hmx Try.func77 rfl (by kernel_rfl) (args := .p R.k R.b 0 :: []) (by simp [Try.ntmps77]) hm (fun cx' x mem' => ∃ v p', x = .v v ∧ mem' = mem.set R.k (R.blk p') ∧ Le cx cx' ∧ p ≤ p' ∧ p' ≤ p + 25 ∧ (∃ k n q, v = .agg #[.int .i64 k, .int .i64 n, .int .i64 q])) 400 ?_
  have hlt := hR.lt
  have hle := Le.refl cx
  (repeat' first
    | (with_reducible refine EndK.left ?_
       refine ⟨_, _, rfl, rfl, (by assumption), by omega, by omega, ?_⟩; exact ⟨_, _, _, rfl⟩; done)
    | (with_reducible refine EndK.all ?_
       refine ⟨_, _, rfl, rfl, (by assumption), by omega, by omega, ?_⟩; exact ⟨_, _, _, rfl⟩; done)
    | (with_reducible refine pickC_at0 hR hty ?_ ?_ ?_ ?_
       · assumption
       · exact ⟨by omega, by omega⟩
       · omega
       rintro cx' _ p' hle - hp1 hp2 ⟨x, rfl, hx1, hx2⟩)
    | (with_reducible refine pickC_at hR hty ?_ ?_ ?_ ?_
       · assumption
       · exact ⟨by omega, by omega⟩
       · omega
       rintro cx' _ p' hle - hp1 hp2 ⟨x, rfl, hx1, hx2⟩)
    | (with_reducible refine numC_lit0 hR hty ?_ hl ?_ ?_ ?_ ?_ ?_ ?_
       · assumption
       · rfl
       · rfl
       · exact ⟨by omega, by omega⟩
       · decide
       · decide
       rintro cx' _ p' hle - hp1 hp2 ⟨x, rfl, hx⟩)
    | (with_reducible refine numC_lit hR hty ?_ hl ?_ ?_ ?_ ?_ ?_ ?_
       · assumption
       · rfl
       · rfl
       · exact ⟨by omega, by omega⟩
       · decide
       · decide
       rintro cx' _ p' hle - hp1 hp2 ⟨x, rfl, hx⟩)
    | (with_reducible refine l2AnyC_at0 hR hty ?_ ?_ ?_ ?_
       · assumption
       · exact ⟨by omega, by omega⟩
       · trivial
       rintro cx' _ p' hle - hp1 hp2 ⟨ak, an, aq, rfl⟩)
    | (with_reducible refine l2AnyC_at hR hty ?_ ?_ ?_ ?_
       · assumption
       · exact ⟨by omega, by omega⟩
       · trivial
       rintro cx' _ p' hle - hp1 hp2 ⟨ak, an, aq, rfl⟩)
    | (with_reducible refine fun cx' q (hle' : Le _ cx') (hl : RdL _ q _) => ?_
       have hle := Le.trans (by assumption) hle'; (try simp [Sx.get, Sx.look, Sx.put, cellsC, Value.cells, den] at hl))
    | with_reducible refine And.intro ?_ ?_
    | with_reducible intro _
    | omega
    | simp (maxSteps := 4000000) -dsimp [-List.all_eq_true, -Array.all_eq_true, -Bool.exists_bool, -Bool.forall_bool, vcsE1, vcsE2, vcsE3, vcsE4, vcsE5, vcsE6, vcsE7, vcsE8, vcsE9, vcsE10, vcsE11, vcsE12, vcsE13, vcsE14, vcsE15, vcsE16, vcsE17, vcsE18, vcsE19, Sx.get, Sx.look, Sx.put, pureFn, findOrd, unF, dstOk, isFloatT, endVC, resFn, packC, newFn, storeFn, buildFn, undef, known, aggT, cellsC, Value.cells, findCon, Con.pure, Con.some, allV, partsV, partsC, fillL, Sx.exitTo, fAr, C.one, Value.oneCell', eqFn, eqFieldsFn, eqElemsFn, partFn, and_assoc, List.zipIdx, sliceFn, boundFn, AppV, CopyV, MakeSliceV, NewsV, GrowV, TextV, bytesL, notInt, typeAt, argAt, Con.read, Con.make, Con.ext, Con.rel, den, Con.extS, Con.draw, Con.step, Draws.steps, Try.f77, pickC, numC, l2AnyC, hlt])
def l5AsksC_S : Draws Try.prog 172 25 77 where
  ι := Unit
  A := fun (_u : Unit) => []
  pre := fun (_u : Unit) (F : Facts) => True
  post := fun (_u : Unit) (v : Value) (F : Facts) => ∃ k n q, v = .agg #[.int .i64 k, .int .i64 n, .int .i64 q]
  mono := fun _ _ _ _ _ => trivial
  enter := Try.call77
  h := fun _u R p cx mem w h1 h2 h3 h4 h5 h6 => l5AsksC_c  R p cx mem w h1 h2 h3 h4 h5 h6
def l5AsksC : Con Try.prog := Con.draw l5AsksC_S
theorem l5AsksC_at  {d : Nat} {R : Rdr} {cx0 cx : Cx} {mem0 : List Blk} {ex : List Blk} {K : Cx → C → List Blk → Prop} {p : Int} (hR : R.Is (factF cx0) mem0) (hty : R.ty = 172) (hle : Le cx0 cx) (hp : 0 ≤ p ∧ p + 25 ≤ 1125899906842624) (hpre : True)
    (h : ∀ cx' v p', Le cx0 cx' → Le cx cx' → p ≤ p' → p' ≤ p + 25 → (∃ k n q, v = .agg #[.int .i64 k, .int .i64 n, .int .i64 q]) → K cx' (.v v) (mem0.set R.k (R.blk p') ++ ex)) :
    DrawV d l5AsksC_S cx [.p R.k R.b 0] (mem0.set R.k (R.blk p) ++ ex) K := DrawV.at (S := l5AsksC_S) hR hty hle () hp hpre h
theorem l5AsksC_at0  {d : Nat} {R : Rdr} {cx0 cx : Cx} {mem0 : List Blk} {K : Cx → C → List Blk → Prop} {p : Int} (hR : R.Is (factF cx0) mem0) (hty : R.ty = 172) (hle : Le cx0 cx) (hp : 0 ≤ p ∧ p + 25 ≤ 1125899906842624) (hpre : True)
    (h : ∀ cx' v p', Le cx0 cx' → Le cx cx' → p ≤ p' → p' ≤ p + 25 → (∃ k n q, v = .agg #[.int .i64 k, .int .i64 n, .int .i64 q]) → K cx' (.v v) (mem0.set R.k (R.blk p'))) :
    DrawV d l5AsksC_S cx [.p R.k R.b 0] (mem0.set R.k (R.blk p)) K := DrawV.at0 (S := l5AsksC_S) hR hty hle () hp hpre h
theorem take_get {mem0 mem : List Blk} {n : Nat} (h : mem0.take n = mem) (k : Nat) (hk : k < mem.length) : mem0[k]? = some (mem[k]'hk) := by
  subst h
  rw [List.length_take] at hk
  simp [show k < n by omega, show k < mem0.length by omega]
theorem drawMemPutC_c (o : Option Addr) (cap : Nat) (bs : List Int) (w : World) (hpre : RdB (factF ⟨w, [], w, []⟩) o bs ∧ (∀ b ∈ bs, 0 ≤ b ∧ b < 256) ∧ bs.length ≤ cap ∧ cap ≤ maxLen) : Calls Try.prog 28 #[.slice o bs.length cap] w fun e w' => ∃ v, e = .returned v ∧ (fun v => ∃ m k n q b, v = .tuple #[.agg (cells m), .agg #[.int .i64 k, .int .i64 n, .int .i64 q], .bool b] ∧ MOk m) v ∧ RowKit.Below w.heap.size w w' := by
  refine plain_of_vcs ⟨[l10OpenC, pickC, l5AsksC, l2ArgC, l5DrawC], [(6, [(0, false), (2, false), (3, false), (1, false), (2, true), (4, false), (2, true), (5, false), (6, false)])]⟩ hmx Try.func28 rfl (by kernel_rfl) (args := [.slice o bs.length cap]) (by simp [Try.ntmps28]) w (fun v => ∃ m k n q b, v = .tuple #[.agg (cells m), .agg #[.int .i64 k, .int .i64 n, .int .i64 q], .bool b] ∧ MOk m) 400 ?_
  simp (maxSteps := 4000000) -dsimp [-List.all_eq_true, -Array.all_eq_true, -Bool.exists_bool, -Bool.forall_bool, vcsE1, vcsE2, vcsE3, vcsE4, vcsE5, vcsE6, vcsE7, vcsE8, vcsE9, vcsE10, vcsE11, vcsE12, vcsE13, vcsE14, vcsE15, vcsE16, vcsE17, vcsE18, vcsE19, Sx.get, Sx.look, Sx.put, pureFn, findOrd, unF, dstOk, isFloatT, endVC, resFn, packC, newFn, storeFn, buildFn, undef, known, aggT, cellsC, Value.cells, findCon, Con.pure, Con.some, allV, partsV, partsC, fillL, Sx.exitTo, fAr, C.one, Value.oneCell', eqFn, eqFieldsFn, eqElemsFn, partFn, and_assoc, List.zipIdx, sliceFn, boundFn, AppV, CopyV, MakeSliceV, NewsV, GrowV, TextV, bytesL, notInt, typeAt, argAt, Con.read, Con.make, Con.ext, Con.rel, den, Con.extS, Con.draw, Con.step, Draws.steps, Try.f28, l10OpenC, pickC, l5AsksC, l2ArgC, l5DrawC, Con.gen]
  intro b b1
  refine l10OpenC_at hpre ?_
  rintro cx1 c mem1 ⟨R, mem0, p, rfl, rfl, hp, hR, hty, hle1, h1, h2, h3⟩
  have hk0 := take_get h1 0 (by simp)
  have hk1 := take_get h1 1 (by simp)
  simp at hk0 hk1 h2 h3
  have hj0 := (List.getElem?_eq_some_iff.1 hk0).2
  have hj1 := (List.getElem?_eq_some_iff.1 hk1).2
  have hn0 : ¬ R.k = 0 := by omega
  have hn1 : ¬ R.k = 1 := by omega
  have hlt := hR.lt
  have hle := Le.refl cx1
  have hw := hle1.w0
  have hg := hle1.g0
  have key : ∀ {cx' : Cx}, Le cx1 cx' → cx'.w0 = w ∧ cx'.g0 = [] := fun h => ⟨h.w0.trans hw, h.g0.trans hg⟩
  simp (maxSteps := 4000000) -dsimp [-List.all_eq_true, -Array.all_eq_true, -Bool.exists_bool, -Bool.forall_bool, vcsE1, vcsE2, vcsE3, vcsE4, vcsE5, vcsE6, vcsE7, vcsE8, vcsE9, vcsE10, vcsE11, vcsE12, vcsE13, vcsE14, vcsE15, vcsE16, vcsE17, vcsE18, vcsE19, Sx.get, Sx.look, Sx.put, pureFn, findOrd, unF, dstOk, isFloatT, endVC, resFn, packC, newFn, storeFn, buildFn, undef, known, aggT, cellsC, Value.cells, findCon, Con.pure, Con.some, allV, partsV, partsC, fillL, Sx.exitTo, fAr, C.one, Value.oneCell', eqFn, eqFieldsFn, eqElemsFn, partFn, and_assoc, List.zipIdx, sliceFn, boundFn, AppV, CopyV, MakeSliceV, NewsV, GrowV, TextV, bytesL, notInt, typeAt, argAt, Con.read, Con.make, Con.ext, Con.rel, den, Con.extS, Con.draw, Con.step, Draws.steps, Try.f28, l10OpenC, pickC, l5AsksC, l2ArgC, l5DrawC]
  (repeat' first
    | (with_reducible refine EndK.left ?_
       refine ⟨_, _, rfl, rfl, (by assumption), by omega, by omega, ?_⟩; skip; done)
    | (with_reducible refine EndK.all ?_
       refine ⟨_, _, rfl, rfl, (by assumption), by omega, by omega, ?_⟩; skip; done)
    | (with_reducible refine pickC_at0 hR hty ?_ ?_ ?_ ?_
       · assumption
       · exact ⟨by omega, by omega⟩
       · omega
       rintro cx' _ p' hle - hp1 hp2 ⟨x, rfl, hx1, hx2⟩)
    | (with_reducible refine pickC_at hR hty ?_ ?_ ?_ ?_
       · assumption
       · exact ⟨by omega, by omega⟩
       · omega
       rintro cx' _ p' hle - hp1 hp2 ⟨x, rfl, hx1, hx2⟩)
    | (with_reducible refine l5AsksC_at0 hR hty ?_ ?_ ?_ ?_
       · assumption
       · exact ⟨by omega, by omega⟩
       · trivial
       rintro cx' _ p' hle - hp1 hp2 ⟨ak, an, aq, rfl⟩)
    | (with_reducible refine l5AsksC_at hR hty ?_ ?_ ?_ ?_
       · assumption
       · exact ⟨by omega, by omega⟩
       · trivial
       rintro cx' _ p' hle - hp1 hp2 ⟨ak, an, aq, rfl⟩)
    | (with_reducible refine l2ArgC_at0 hR hty ?_ ?_ ?_ ?_
       · assumption
       · exact ⟨by omega, by omega⟩
       · trivial
       rintro cx' _ p' hle - hp1 hp2 ⟨ak, an, aq, rfl⟩)
    | (with_reducible refine l2ArgC_at hR hty ?_ ?_ ?_ ?_
       · assumption
       · exact ⟨by omega, by omega⟩
       · trivial
       rintro cx' _ p' hle - hp1 hp2 ⟨ak, an, aq, rfl⟩)
    | (with_reducible refine l5DrawC_at0 hR hty ?_ ?_ ?_ ?_
       · assumption
       · exact ⟨by omega, by omega⟩
       · trivial
       rintro cx' _ p' hle - hp1 hp2 ⟨dm, rfl, hdm⟩)
    | (with_reducible refine l5DrawC_at hR hty ?_ ?_ ?_ ?_
       · assumption
       · exact ⟨by omega, by omega⟩
       · trivial
       rintro cx' _ p' hle - hp1 hp2 ⟨dm, rfl, hdm⟩)
    | (with_reducible refine fun cx' q (hle' : Le _ cx') (hl : RdL _ q _) => ?_
       have hle := Le.trans (by assumption) hle'; (try simp [Sx.get, Sx.look, Sx.put, cellsC, Value.cells, den] at hl))
    | with_reducible refine And.intro ?_ ?_
    | with_reducible intro _
    | omega
    | simp (maxSteps := 4000000) -dsimp [-List.all_eq_true, -Array.all_eq_true, -Bool.exists_bool, -Bool.forall_bool, vcsE1, vcsE2, vcsE3, vcsE4, vcsE5, vcsE6, vcsE7, vcsE8, vcsE9, vcsE10, vcsE11, vcsE12, vcsE13, vcsE14, vcsE15, vcsE16, vcsE17, vcsE18, vcsE19, Sx.get, Sx.look, Sx.put, pureFn, findOrd, unF, dstOk, isFloatT, endVC, resFn, packC, newFn, storeFn, buildFn, undef, known, aggT, cellsC, Value.cells, findCon, Con.pure, Con.some, allV, partsV, partsC, fillL, Sx.exitTo, fAr, C.one, Value.oneCell', eqFn, eqFieldsFn, eqElemsFn, partFn, and_assoc, List.zipIdx, sliceFn, boundFn, AppV, CopyV, MakeSliceV, NewsV, GrowV, TextV, bytesL, notInt, typeAt, argAt, Con.read, Con.make, Con.ext, Con.rel, den, Con.extS, Con.draw, Con.step, Draws.steps, Try.f28, l10OpenC, pickC, l5AsksC, l2ArgC, l5DrawC, hlt, hk0, hk1, hj0, hj1, h3, hn0, hn1, List.getElem?_append, List.set_append, List.getElem?_set])
  all_goals first | exact (key (by assumption)).1 | exact (key (by assumption)).2 | exact ⟨_, rfl, by assumption⟩ | assumption | (refine ⟨_, rfl, ?_⟩; assumption)
def drawMemPutC_S : Rels Try.prog 28 where
  ι := ((Option Addr) × (Nat) × (List Int))
  A := fun (i : ((Option Addr) × (Nat) × (List Int))) => match i with | (o, cap, bs) => [.slice o bs.length cap]
  pre := fun (i : ((Option Addr) × (Nat) × (List Int))) (F : Facts) => match i with | (o, cap, bs) => RdB F o bs ∧ (∀ b ∈ bs, 0 ≤ b ∧ b < 256) ∧ bs.length ≤ cap ∧ cap ≤ maxLen
  post := fun (i : ((Option Addr) × (Nat) × (List Int))) => match i with | (o, cap, bs) => fun v => ∃ m k n q b, v = .tuple #[.agg (cells m), .agg #[.int .i64 k, .int .i64 n, .int .i64 q], .bool b] ∧ MOk m
  mono := by
    intro i F G hs h
    first | exact h | exact h.mono hs | exact ⟨h.1.mono hs, h.2⟩ | exact ⟨h.1.mono hs, h.2.1.mono hs, h.2.2⟩ | exact ⟨h.1.mono hs, h.2.1.mono hs⟩
  enter := Try.call28
  h := fun i w hp => drawMemPutC_c i.1 i.2.1 i.2.2 w (by rw [factF_init]; exact hp)
def drawMemPutC : Con Try.prog := Con.rel drawMemPutC_S
theorem drawMemBitC_c (o : Option Addr) (cap : Nat) (bs : List Int) (w : World) (hpre : RdB (factF ⟨w, [], w, []⟩) o bs ∧ (∀ b ∈ bs, 0 ≤ b ∧ b < 256) ∧ bs.length ≤ cap ∧ cap ≤ maxLen) : Calls Try.prog 31 #[.slice o bs.length cap] w fun e w' => ∃ v, e = .returned v ∧ (fun v => ∃ m k n q, v = .tuple #[.agg (cells m), .agg #[.int .i64 k, .int .i64 n, .int .i64 q]] ∧ MOk m) v ∧ RowKit.Below w.heap.size w w' := by
  refine plain_of_vcs ⟨[l10OpenC, l5AsksC, l5DrawC], [(3, [(0, false), (2, false), (1, false), (2, true), (3, false), (2, true), (4, false)])]⟩ hmx Try.func31 rfl (by kernel_rfl) (args := [.slice o bs.length cap]) (by simp [Try.ntmps31]) w (fun v => ∃ m k n q, v = .tuple #[.agg (cells m), .agg #[.int .i64 k, .int .i64 n, .int .i64 q]] ∧ MOk m) 400 ?_
  simp (maxSteps := 4000000) -dsimp [-List.all_eq_true, -Array.all_eq_true, -Bool.exists_bool, -Bool.forall_bool, vcsE1, vcsE2, vcsE3, vcsE4, vcsE5, vcsE6, vcsE7, vcsE8, vcsE9, vcsE10, vcsE11, vcsE12, vcsE13, vcsE14, vcsE15, vcsE16, vcsE17, vcsE18, vcsE19, Sx.get, Sx.look, Sx.put, pureFn, findOrd, unF, dstOk, isFloatT, endVC, resFn, packC, newFn, storeFn, buildFn, undef, known, aggT, cellsC, Value.cells, findCon, Con.pure, Con.some, allV, partsV, partsC, fillL, Sx.exitTo, fAr, C.one, Value.oneCell', eqFn, eqFieldsFn, eqElemsFn, partFn, and_assoc, List.zipIdx, sliceFn, boundFn, AppV, CopyV, MakeSliceV, NewsV, GrowV, TextV, bytesL, notInt, typeAt, argAt, Con.read, Con.make, Con.ext, Con.rel, den, Con.extS, Con.draw, Con.step, Draws.steps, Try.f31, l10OpenC, l5AsksC, l5DrawC, Con.gen]
  intro b b1
  refine l10OpenC_at hpre ?_
  rintro cx1 c mem1 ⟨R, mem0, p, rfl, rfl, hp, hR, hty, hle1, h1, h2, h3⟩
  have hk0 := take_get h1 0 (by simp)
  have hk1 := take_get h1 1 (by simp)
  simp at hk0 hk1 h2 h3
  have hj0 := (List.getElem?_eq_some_iff.1 hk0).2
  have hj1 := (List.getElem?_eq_some_iff.1 hk1).2
  have hn0 : ¬ R.k = 0 := by omega
  have hn1 : ¬ R.k = 1 := by omega
  have hlt := hR.lt
  have hle := Le.refl cx1
  have hw := hle1.w0
  have hg := hle1.g0
  have key : ∀ {cx' : Cx}, Le cx1 cx' → cx'.w0 = w ∧ cx'.g0 = [] := fun h => ⟨h.w0.trans hw, h.g0.trans hg⟩
  simp (maxSteps := 4000000) -dsimp [-List.all_eq_true, -Array.all_eq_true, -Bool.exists_bool, -Bool.forall_bool, vcsE1, vcsE2, vcsE3, vcsE4, vcsE5, vcsE6, vcsE7, vcsE8, vcsE9, vcsE10, vcsE11, vcsE12, vcsE13, vcsE14, vcsE15, vcsE16, vcsE17, vcsE18, vcsE19, Sx.get, Sx.look, Sx.put, pureFn, findOrd, unF, dstOk, isFloatT, endVC, resFn, packC, newFn, storeFn, buildFn, undef, known, aggT, cellsC, Value.cells, findCon, Con.pure, Con.some, allV, partsV, partsC, fillL, Sx.exitTo, fAr, C.one, Value.oneCell', eqFn, eqFieldsFn, eqElemsFn, partFn, and_assoc, List.zipIdx, sliceFn, boundFn, AppV, CopyV, MakeSliceV, NewsV, GrowV, TextV, bytesL, notInt, typeAt, argAt, Con.read, Con.make, Con.ext, Con.rel, den, Con.extS, Con.draw, Con.step, Draws.steps, Try.f31, l10OpenC, l5AsksC, l5DrawC]
  (repeat' first
    | (with_reducible refine EndK.left ?_
       refine ⟨_, _, rfl, rfl, (by assumption), by omega, by omega, ?_⟩; skip; done)
    | (with_reducible refine EndK.all ?_
       refine ⟨_, _, rfl, rfl, (by assumption), by omega, by omega, ?_⟩; skip; done)
    | (with_reducible refine l5AsksC_at0 hR hty ?_ ?_ ?_ ?_
       · assumption
       · exact ⟨by omega, by omega⟩
       · trivial
       rintro cx' _ p' hle - hp1 hp2 ⟨ak, an, aq, rfl⟩)
    | (with_reducible refine l5AsksC_at hR hty ?_ ?_ ?_ ?_
       · assumption
       · exact ⟨by omega, by omega⟩
       · trivial
       rintro cx' _ p' hle - hp1 hp2 ⟨ak, an, aq, rfl⟩)
    | (with_reducible refine l5DrawC_at0 hR hty ?_ ?_ ?_ ?_
       · assumption
       · exact ⟨by omega, by omega⟩
       · trivial
       rintro cx' _ p' hle - hp1 hp2 ⟨dm, rfl, hdm⟩)
    | (with_reducible refine l5DrawC_at hR hty ?_ ?_ ?_ ?_
       · assumption
       · exact ⟨by omega, by omega⟩
       · trivial
       rintro cx' _ p' hle - hp1 hp2 ⟨dm, rfl, hdm⟩)
    | (with_reducible refine fun cx' q (hle' : Le _ cx') (hl : RdL _ q _) => ?_
       have hle := Le.trans (by assumption) hle'; (try simp [Sx.get, Sx.look, Sx.put, cellsC, Value.cells, den] at hl))
    | with_reducible refine And.intro ?_ ?_
    | with_reducible intro _
    | omega
    | simp (maxSteps := 4000000) -dsimp [-List.all_eq_true, -Array.all_eq_true, -Bool.exists_bool, -Bool.forall_bool, vcsE1, vcsE2, vcsE3, vcsE4, vcsE5, vcsE6, vcsE7, vcsE8, vcsE9, vcsE10, vcsE11, vcsE12, vcsE13, vcsE14, vcsE15, vcsE16, vcsE17, vcsE18, vcsE19, Sx.get, Sx.look, Sx.put, pureFn, findOrd, unF, dstOk, isFloatT, endVC, resFn, packC, newFn, storeFn, buildFn, undef, known, aggT, cellsC, Value.cells, findCon, Con.pure, Con.some, allV, partsV, partsC, fillL, Sx.exitTo, fAr, C.one, Value.oneCell', eqFn, eqFieldsFn, eqElemsFn, partFn, and_assoc, List.zipIdx, sliceFn, boundFn, AppV, CopyV, MakeSliceV, NewsV, GrowV, TextV, bytesL, notInt, typeAt, argAt, Con.read, Con.make, Con.ext, Con.rel, den, Con.extS, Con.draw, Con.step, Draws.steps, Try.f31, l10OpenC, l5AsksC, l5DrawC, hlt, hk0, hk1, hj0, hj1, h3, hn0, hn1, List.getElem?_append, List.set_append, List.getElem?_set])
  all_goals first | exact (key (by assumption)).1 | exact (key (by assumption)).2 | exact ⟨_, rfl, by assumption⟩ | assumption | (refine ⟨_, rfl, ?_⟩; assumption)
def drawMemBitC_S : Rels Try.prog 31 where
  ι := ((Option Addr) × (Nat) × (List Int))
  A := fun (i : ((Option Addr) × (Nat) × (List Int))) => match i with | (o, cap, bs) => [.slice o bs.length cap]
  pre := fun (i : ((Option Addr) × (Nat) × (List Int))) (F : Facts) => match i with | (o, cap, bs) => RdB F o bs ∧ (∀ b ∈ bs, 0 ≤ b ∧ b < 256) ∧ bs.length ≤ cap ∧ cap ≤ maxLen
  post := fun (i : ((Option Addr) × (Nat) × (List Int))) => match i with | (o, cap, bs) => fun v => ∃ m k n q, v = .tuple #[.agg (cells m), .agg #[.int .i64 k, .int .i64 n, .int .i64 q]] ∧ MOk m
  mono := by
    intro i F G hs h
    first | exact h | exact h.mono hs | exact ⟨h.1.mono hs, h.2⟩ | exact ⟨h.1.mono hs, h.2.1.mono hs, h.2.2⟩ | exact ⟨h.1.mono hs, h.2.1.mono hs⟩
  enter := Try.call31
  h := fun i w hp => drawMemBitC_c i.1 i.2.1 i.2.2 w (by rw [factF_init]; exact hp)
def drawMemBitC : Con Try.prog := Con.rel drawMemBitC_S
theorem drawMemPutWholeC_c (o : Option Addr) (cap : Nat) (bs : List Int) (w : World) (hpre : RdB (factF ⟨w, [], w, []⟩) o bs ∧ (∀ b ∈ bs, 0 ≤ b ∧ b < 256) ∧ bs.length ≤ cap ∧ cap ≤ maxLen) : Calls Try.prog 21 #[.slice o bs.length cap] w fun e w' => ∃ v, e = .returned v ∧ (fun v => ∃ m k n q x, v = .tuple #[.agg (cells m), .agg #[.int .i64 k, .int .i64 n, .int .i64 q], .int .i16 x] ∧ MOk m ∧ -32768 ≤ x ∧ x ≤ 32767) v ∧ RowKit.Below w.heap.size w w' := by
  refine plain_of_vcs ⟨[l10OpenC, pickC, l3WholeC, l5AsksC, l2ArgC, l5DrawC], [(6, [(0, false), (2, false), (3, false), (1, false), (2, true), (4, false), (2, true), (5, false), (6, false)])]⟩ hmx Try.func21 rfl (by kernel_rfl) (args := [.slice o bs.length cap]) (by simp [Try.ntmps21]) w (fun v => ∃ m k n q x, v = .tuple #[.agg (cells m), .agg #[.int .i64 k, .int .i64 n, .int .i64 q], .int .i16 x] ∧ MOk m ∧ -32768 ≤ x ∧ x ≤ 32767) 400 ?_
  simp (maxSteps := 4000000) -dsimp [-List.all_eq_true, -Array.all_eq_true, -Bool.exists_bool, -Bool.forall_bool, vcsE1, vcsE2, vcsE3, vcsE4, vcsE5, vcsE6, vcsE7, vcsE8, vcsE9, vcsE10, vcsE11, vcsE12, vcsE13, vcsE14, vcsE15, vcsE16, vcsE17, vcsE18, vcsE19, Sx.get, Sx.look, Sx.put, pureFn, findOrd, unF, dstOk, isFloatT, endVC, resFn, packC, newFn, storeFn, buildFn, undef, known, aggT, cellsC, Value.cells, findCon, Con.pure, Con.some, allV, partsV, partsC, fillL, Sx.exitTo, fAr, C.one, Value.oneCell', eqFn, eqFieldsFn, eqElemsFn, partFn, and_assoc, List.zipIdx, sliceFn, boundFn, AppV, CopyV, MakeSliceV, NewsV, GrowV, TextV, bytesL, notInt, typeAt, argAt, Con.read, Con.make, Con.ext, Con.rel, den, Con.extS, Con.draw, Con.step, Draws.steps, Try.f21, l10OpenC, pickC, l3WholeC, l5AsksC, l2ArgC, l5DrawC, Con.gen]
  intro b b1
  refine l10OpenC_at hpre ?_
  rintro cx1 c mem1 ⟨R, mem0, p, rfl, rfl, hp, hR, hty, hle1, h1, h2, h3⟩
  have hk0 := take_get h1 0 (by simp)
  have hk1 := take_get h1 1 (by simp)
  simp at hk0 hk1 h2 h3
  have hj0 := (List.getElem?_eq_some_iff.1 hk0).2
  have hj1 := (List.getElem?_eq_some_iff.1 hk1).2
  have hn0 : ¬ R.k = 0 := by omega
  have hn1 : ¬ R.k = 1 := by omega
  have hlt := hR.lt
  have hle := Le.refl cx1
  have hw := hle1.w0
  have hg := hle1.g0
  have key : ∀ {cx' : Cx}, Le cx1 cx' → cx'.w0 = w ∧ cx'.g0 = [] := fun h => ⟨h.w0.trans hw, h.g0.trans hg⟩
  simp (maxSteps := 4000000) -dsimp [-List.all_eq_true, -Array.all_eq_true, -Bool.exists_bool, -Bool.forall_bool, vcsE1, vcsE2, vcsE3, vcsE4, vcsE5, vcsE6, vcsE7, vcsE8, vcsE9, vcsE10, vcsE11, vcsE12, vcsE13, vcsE14, vcsE15, vcsE16, vcsE17, vcsE18, vcsE19, Sx.get, Sx.look, Sx.put, pureFn, findOrd, unF, dstOk, isFloatT, endVC, resFn, packC, newFn, storeFn, buildFn, undef, known, aggT, cellsC, Value.cells, findCon, Con.pure, Con.some, allV, partsV, partsC, fillL, Sx.exitTo, fAr, C.one, Value.oneCell', eqFn, eqFieldsFn, eqElemsFn, partFn, and_assoc, List.zipIdx, sliceFn, boundFn, AppV, CopyV, MakeSliceV, NewsV, GrowV, TextV, bytesL, notInt, typeAt, argAt, Con.read, Con.make, Con.ext, Con.rel, den, Con.extS, Con.draw, Con.step, Draws.steps, Try.f21, l10OpenC, pickC, l3WholeC, l5AsksC, l2ArgC, l5DrawC]
  (repeat' first
    | (with_reducible refine EndK.left ?_
       refine ⟨_, _, rfl, rfl, (by assumption), by omega, by omega, ?_⟩; skip; done)
    | (with_reducible refine EndK.all ?_
       refine ⟨_, _, rfl, rfl, (by assumption), by omega, by omega, ?_⟩; skip; done)
    | (with_reducible refine pickC_at0 hR hty ?_ ?_ ?_ ?_
       · assumption
       · exact ⟨by omega, by omega⟩
       · omega
       rintro cx' _ p' hle - hp1 hp2 ⟨x, rfl, hx1, hx2⟩)
    | (with_reducible refine pickC_at hR hty ?_ ?_ ?_ ?_
       · assumption
       · exact ⟨by omega, by omega⟩
       · omega
       rintro cx' _ p' hle - hp1 hp2 ⟨x, rfl, hx1, hx2⟩)
    | (with_reducible refine l3WholeC_at0 hR hty ?_ ?_ ?_ ?_
       · assumption
       · exact ⟨by omega, by omega⟩
       · trivial
       rintro cx' _ p' hle - hp1 hp2 ⟨ix, rfl, hi1, hi2⟩)
    | (with_reducible refine l3WholeC_at hR hty ?_ ?_ ?_ ?_
       · assumption
       · exact ⟨by omega, by omega⟩
       · trivial
       rintro cx' _ p' hle - hp1 hp2 ⟨ix, rfl, hi1, hi2⟩)
    | (with_reducible refine l5AsksC_at0 hR hty ?_ ?_ ?_ ?_
       · assumption
       · exact ⟨by omega, by omega⟩
       · trivial
       rintro cx' _ p' hle - hp1 hp2 ⟨ak, an, aq, rfl⟩)
    | (with_reducible refine l5AsksC_at hR hty ?_ ?_ ?_ ?_
       · assumption
       · exact ⟨by omega, by omega⟩
       · trivial
       rintro cx' _ p' hle - hp1 hp2 ⟨ak, an, aq, rfl⟩)
    | (with_reducible refine l2ArgC_at0 hR hty ?_ ?_ ?_ ?_
       · assumption
       · exact ⟨by omega, by omega⟩
       · trivial
       rintro cx' _ p' hle - hp1 hp2 ⟨ak, an, aq, rfl⟩)
    | (with_reducible refine l2ArgC_at hR hty ?_ ?_ ?_ ?_
       · assumption
       · exact ⟨by omega, by omega⟩
       · trivial
       rintro cx' _ p' hle - hp1 hp2 ⟨ak, an, aq, rfl⟩)
    | (with_reducible refine l5DrawC_at0 hR hty ?_ ?_ ?_ ?_
       · assumption
       · exact ⟨by omega, by omega⟩
       · trivial
       rintro cx' _ p' hle - hp1 hp2 ⟨dm, rfl, hdm⟩)
    | (with_reducible refine l5DrawC_at hR hty ?_ ?_ ?_ ?_
       · assumption
       · exact ⟨by omega, by omega⟩
       · trivial
       rintro cx' _ p' hle - hp1 hp2 ⟨dm, rfl, hdm⟩)
    | (with_reducible refine fun cx' q (hle' : Le _ cx') (hl : RdL _ q _) => ?_
       have hle := Le.trans (by assumption) hle'; (try simp [Sx.get, Sx.look, Sx.put, cellsC, Value.cells, den] at hl))
    | with_reducible refine And.intro ?_ ?_
    | with_reducible intro _
    | omega
    | simp (maxSteps := 4000000) -dsimp [-List.all_eq_true, -Array.all_eq_true, -Bool.exists_bool, -Bool.forall_bool, vcsE1, vcsE2, vcsE3, vcsE4, vcsE5, vcsE6, vcsE7, vcsE8, vcsE9, vcsE10, vcsE11, vcsE12, vcsE13, vcsE14, vcsE15, vcsE16, vcsE17, vcsE18, vcsE19, Sx.get, Sx.look, Sx.put, pureFn, findOrd, unF, dstOk, isFloatT, endVC, resFn, packC, newFn, storeFn, buildFn, undef, known, aggT, cellsC, Value.cells, findCon, Con.pure, Con.some, allV, partsV, partsC, fillL, Sx.exitTo, fAr, C.one, Value.oneCell', eqFn, eqFieldsFn, eqElemsFn, partFn, and_assoc, List.zipIdx, sliceFn, boundFn, AppV, CopyV, MakeSliceV, NewsV, GrowV, TextV, bytesL, notInt, typeAt, argAt, Con.read, Con.make, Con.ext, Con.rel, den, Con.extS, Con.draw, Con.step, Draws.steps, Try.f21, l10OpenC, pickC, l3WholeC, l5AsksC, l2ArgC, l5DrawC, hlt, hk0, hk1, hj0, hj1, h3, hn0, hn1, List.getElem?_append, List.set_append, List.getElem?_set])
  all_goals first | exact (key (by assumption)).1 | exact (key (by assumption)).2 | exact ⟨_, rfl, by assumption⟩ | assumption | (refine ⟨_, rfl, ?_⟩; assumption)
def drawMemPutWholeC_S : Rels Try.prog 21 where
  ι := ((Option Addr) × (Nat) × (List Int))
  A := fun (i : ((Option Addr) × (Nat) × (List Int))) => match i with | (o, cap, bs) => [.slice o bs.length cap]
  pre := fun (i : ((Option Addr) × (Nat) × (List Int))) (F : Facts) => match i with | (o, cap, bs) => RdB F o bs ∧ (∀ b ∈ bs, 0 ≤ b ∧ b < 256) ∧ bs.length ≤ cap ∧ cap ≤ maxLen
  post := fun (i : ((Option Addr) × (Nat) × (List Int))) => match i with | (o, cap, bs) => fun v => ∃ m k n q x, v = .tuple #[.agg (cells m), .agg #[.int .i64 k, .int .i64 n, .int .i64 q], .int .i16 x] ∧ MOk m ∧ -32768 ≤ x ∧ x ≤ 32767
  mono := by
    intro i F G hs h
    first | exact h | exact h.mono hs | exact ⟨h.1.mono hs, h.2⟩ | exact ⟨h.1.mono hs, h.2.1.mono hs, h.2.2⟩ | exact ⟨h.1.mono hs, h.2.1.mono hs⟩
  enter := Try.call21
  h := fun i w hp => drawMemPutWholeC_c i.1 i.2.1 i.2.2 w (by rw [factF_init]; exact hp)
def drawMemPutWholeC : Con Try.prog := Con.rel drawMemPutWholeC_S
theorem drawMemPutRealC_c (o : Option Addr) (cap : Nat) (bs : List Int) (w : World) (hpre : RdB (factF ⟨w, [], w, []⟩) o bs ∧ (∀ b ∈ bs, 0 ≤ b ∧ b < 256) ∧ bs.length ≤ cap ∧ cap ≤ maxLen) : Calls Try.prog 22 #[.slice o bs.length cap] w fun e w' => ∃ v, e = .returned v ∧ (fun v => ∃ m k n q x, v = .tuple #[.agg (cells m), .agg #[.int .i64 k, .int .i64 n, .int .i64 q], .float .f64 x] ∧ MOk m ∧ x < 18446744073709551616) v ∧ RowKit.Below w.heap.size w w' := by
  refine plain_of_vcs ⟨[l10OpenC, pickC, l3RealC, l5AsksC, l2ArgC, l5DrawC], [(6, [(0, false), (2, false), (3, false), (1, false), (2, true), (4, false), (2, true), (5, false), (6, false)])]⟩ hmx Try.func22 rfl (by kernel_rfl) (args := [.slice o bs.length cap]) (by simp [Try.ntmps22]) w (fun v => ∃ m k n q x, v = .tuple #[.agg (cells m), .agg #[.int .i64 k, .int .i64 n, .int .i64 q], .float .f64 x] ∧ MOk m ∧ x < 18446744073709551616) 400 ?_
  simp (maxSteps := 4000000) -dsimp [-List.all_eq_true, -Array.all_eq_true, -Bool.exists_bool, -Bool.forall_bool, vcsE1, vcsE2, vcsE3, vcsE4, vcsE5, vcsE6, vcsE7, vcsE8, vcsE9, vcsE10, vcsE11, vcsE12, vcsE13, vcsE14, vcsE15, vcsE16, vcsE17, vcsE18, vcsE19, Sx.get, Sx.look, Sx.put, pureFn, findOrd, unF, dstOk, isFloatT, endVC, resFn, packC, newFn, storeFn, buildFn, undef, known, aggT, cellsC, Value.cells, findCon, Con.pure, Con.some, allV, partsV, partsC, fillL, Sx.exitTo, fAr, C.one, Value.oneCell', eqFn, eqFieldsFn, eqElemsFn, partFn, and_assoc, List.zipIdx, sliceFn, boundFn, AppV, CopyV, MakeSliceV, NewsV, GrowV, TextV, bytesL, notInt, typeAt, argAt, Con.read, Con.make, Con.ext, Con.rel, den, Con.extS, Con.draw, Con.step, Draws.steps, Try.f22, l10OpenC, pickC, l3RealC, l5AsksC, l2ArgC, l5DrawC, Con.gen]
  intro b b1
  refine l10OpenC_at hpre ?_
  rintro cx1 c mem1 ⟨R, mem0, p, rfl, rfl, hp, hR, hty, hle1, h1, h2, h3⟩
  have hk0 := take_get h1 0 (by simp)
  have hk1 := take_get h1 1 (by simp)
  simp at hk0 hk1 h2 h3
  have hj0 := (List.getElem?_eq_some_iff.1 hk0).2
  have hj1 := (List.getElem?_eq_some_iff.1 hk1).2
  have hn0 : ¬ R.k = 0 := by omega
  have hn1 : ¬ R.k = 1 := by omega
  have hlt := hR.lt
  have hle := Le.refl cx1
  have hw := hle1.w0
  have hg := hle1.g0
  have key : ∀ {cx' : Cx}, Le cx1 cx' → cx'.w0 = w ∧ cx'.g0 = [] := fun h => ⟨h.w0.trans hw, h.g0.trans hg⟩
  simp (maxSteps := 4000000) -dsimp [-List.all_eq_true, -Array.all_eq_true, -Bool.exists_bool, -Bool.forall_bool, vcsE1, vcsE2, vcsE3, vcsE4, vcsE5, vcsE6, vcsE7, vcsE8, vcsE9, vcsE10, vcsE11, vcsE12, vcsE13, vcsE14, vcsE15, vcsE16, vcsE17, vcsE18, vcsE19, Sx.get, Sx.look, Sx.put, pureFn, findOrd, unF, dstOk, isFloatT, endVC, resFn, packC, newFn, storeFn, buildFn, undef, known, aggT, cellsC, Value.cells, findCon, Con.pure, Con.some, allV, partsV, partsC, fillL, Sx.exitTo, fAr, C.one, Value.oneCell', eqFn, eqFieldsFn, eqElemsFn, partFn, and_assoc, List.zipIdx, sliceFn, boundFn, AppV, CopyV, MakeSliceV, NewsV, GrowV, TextV, bytesL, notInt, typeAt, argAt, Con.read, Con.make, Con.ext, Con.rel, den, Con.extS, Con.draw, Con.step, Draws.steps, Try.f22, l10OpenC, pickC, l3RealC, l5AsksC, l2ArgC, l5DrawC]
  (repeat' first
    | (with_reducible refine EndK.left ?_
       refine ⟨_, _, rfl, rfl, (by assumption), by omega, by omega, ?_⟩; skip; done)
    | (with_reducible refine EndK.all ?_
       refine ⟨_, _, rfl, rfl, (by assumption), by omega, by omega, ?_⟩; skip; done)
    | (with_reducible refine pickC_at0 hR hty ?_ ?_ ?_ ?_
       · assumption
       · exact ⟨by omega, by omega⟩
       · omega
       rintro cx' _ p' hle - hp1 hp2 ⟨x, rfl, hx1, hx2⟩)
    | (with_reducible refine pickC_at hR hty ?_ ?_ ?_ ?_
       · assumption
       · exact ⟨by omega, by omega⟩
       · omega
       rintro cx' _ p' hle - hp1 hp2 ⟨x, rfl, hx1, hx2⟩)
    | (with_reducible refine l3RealC_at0 hR hty ?_ ?_ ?_ ?_
       · assumption
       · exact ⟨by omega, by omega⟩
       · trivial
       rintro cx' _ p' hle - hp1 hp2 ⟨fx, rfl, hf⟩)
    | (with_reducible refine l3RealC_at hR hty ?_ ?_ ?_ ?_
       · assumption
       · exact ⟨by omega, by omega⟩
       · trivial
       rintro cx' _ p' hle - hp1 hp2 ⟨fx, rfl, hf⟩)
    | (with_reducible refine l5AsksC_at0 hR hty ?_ ?_ ?_ ?_
       · assumption
       · exact ⟨by omega, by omega⟩
       · trivial
       rintro cx' _ p' hle - hp1 hp2 ⟨ak, an, aq, rfl⟩)
    | (with_reducible refine l5AsksC_at hR hty ?_ ?_ ?_ ?_
       · assumption
       · exact ⟨by omega, by omega⟩
       · trivial
       rintro cx' _ p' hle - hp1 hp2 ⟨ak, an, aq, rfl⟩)
    | (with_reducible refine l2ArgC_at0 hR hty ?_ ?_ ?_ ?_
       · assumption
       · exact ⟨by omega, by omega⟩
       · trivial
       rintro cx' _ p' hle - hp1 hp2 ⟨ak, an, aq, rfl⟩)
    | (with_reducible refine l2ArgC_at hR hty ?_ ?_ ?_ ?_
       · assumption
       · exact ⟨by omega, by omega⟩
       · trivial
       rintro cx' _ p' hle - hp1 hp2 ⟨ak, an, aq, rfl⟩)
    | (with_reducible refine l5DrawC_at0 hR hty ?_ ?_ ?_ ?_
       · assumption
       · exact ⟨by omega, by omega⟩
       · trivial
       rintro cx' _ p' hle - hp1 hp2 ⟨dm, rfl, hdm⟩)
    | (with_reducible refine l5DrawC_at hR hty ?_ ?_ ?_ ?_
       · assumption
       · exact ⟨by omega, by omega⟩
       · trivial
       rintro cx' _ p' hle - hp1 hp2 ⟨dm, rfl, hdm⟩)
    | (with_reducible refine fun cx' q (hle' : Le _ cx') (hl : RdL _ q _) => ?_
       have hle := Le.trans (by assumption) hle'; (try simp [Sx.get, Sx.look, Sx.put, cellsC, Value.cells, den] at hl))
    | with_reducible refine And.intro ?_ ?_
    | with_reducible intro _
    | omega
    | simp (maxSteps := 4000000) -dsimp [-List.all_eq_true, -Array.all_eq_true, -Bool.exists_bool, -Bool.forall_bool, vcsE1, vcsE2, vcsE3, vcsE4, vcsE5, vcsE6, vcsE7, vcsE8, vcsE9, vcsE10, vcsE11, vcsE12, vcsE13, vcsE14, vcsE15, vcsE16, vcsE17, vcsE18, vcsE19, Sx.get, Sx.look, Sx.put, pureFn, findOrd, unF, dstOk, isFloatT, endVC, resFn, packC, newFn, storeFn, buildFn, undef, known, aggT, cellsC, Value.cells, findCon, Con.pure, Con.some, allV, partsV, partsC, fillL, Sx.exitTo, fAr, C.one, Value.oneCell', eqFn, eqFieldsFn, eqElemsFn, partFn, and_assoc, List.zipIdx, sliceFn, boundFn, AppV, CopyV, MakeSliceV, NewsV, GrowV, TextV, bytesL, notInt, typeAt, argAt, Con.read, Con.make, Con.ext, Con.rel, den, Con.extS, Con.draw, Con.step, Draws.steps, Try.f22, l10OpenC, pickC, l3RealC, l5AsksC, l2ArgC, l5DrawC, hlt, hk0, hk1, hj0, hj1, h3, hn0, hn1, List.getElem?_append, List.set_append, List.getElem?_set])
  all_goals first | exact (key (by assumption)).1 | exact (key (by assumption)).2 | exact ⟨_, rfl, by assumption⟩ | assumption | (refine ⟨_, rfl, ?_⟩; assumption)
def drawMemPutRealC_S : Rels Try.prog 22 where
  ι := ((Option Addr) × (Nat) × (List Int))
  A := fun (i : ((Option Addr) × (Nat) × (List Int))) => match i with | (o, cap, bs) => [.slice o bs.length cap]
  pre := fun (i : ((Option Addr) × (Nat) × (List Int))) (F : Facts) => match i with | (o, cap, bs) => RdB F o bs ∧ (∀ b ∈ bs, 0 ≤ b ∧ b < 256) ∧ bs.length ≤ cap ∧ cap ≤ maxLen
  post := fun (i : ((Option Addr) × (Nat) × (List Int))) => match i with | (o, cap, bs) => fun v => ∃ m k n q x, v = .tuple #[.agg (cells m), .agg #[.int .i64 k, .int .i64 n, .int .i64 q], .float .f64 x] ∧ MOk m ∧ x < 18446744073709551616
  mono := by
    intro i F G hs h
    first | exact h | exact h.mono hs | exact ⟨h.1.mono hs, h.2⟩ | exact ⟨h.1.mono hs, h.2.1.mono hs, h.2.2⟩ | exact ⟨h.1.mono hs, h.2.1.mono hs⟩
  enter := Try.call22
  h := fun i w hp => drawMemPutRealC_c i.1 i.2.1 i.2.2 w (by rw [factF_init]; exact hp)
def drawMemPutRealC : Con Try.prog := Con.rel drawMemPutRealC_S
theorem drawActEndC_c (o : Option Addr) (cap : Nat) (bs : List Int) (w : World) (hpre : RdB (factF ⟨w, [], w, []⟩) o bs ∧ (∀ b ∈ bs, 0 ≤ b ∧ b < 256) ∧ bs.length ≤ cap ∧ cap ≤ maxLen) : Calls Try.prog 38 #[.slice o bs.length cap] w fun e w' => ∃ v, e = .returned v ∧ (fun v => ∃ m, v = .agg (cells m) ∧ MOk m) v ∧ RowKit.Below w.heap.size w w' := by
  refine plain_of_vcs ⟨[l10OpenC, l5DrawC], []⟩ hmx Try.func38 rfl (by kernel_rfl) (args := [.slice o bs.length cap]) (by simp [Try.ntmps38]) w (fun v => ∃ m, v = .agg (cells m) ∧ MOk m) 400 ?_
  simp (maxSteps := 4000000) -dsimp [-List.all_eq_true, -Array.all_eq_true, -Bool.exists_bool, -Bool.forall_bool, vcsE1, vcsE2, vcsE3, vcsE4, vcsE5, vcsE6, vcsE7, vcsE8, vcsE9, vcsE10, vcsE11, vcsE12, vcsE13, vcsE14, vcsE15, vcsE16, vcsE17, vcsE18, vcsE19, Sx.get, Sx.look, Sx.put, pureFn, findOrd, unF, dstOk, isFloatT, endVC, resFn, packC, newFn, storeFn, buildFn, undef, known, aggT, cellsC, Value.cells, findCon, Con.pure, Con.some, allV, partsV, partsC, fillL, Sx.exitTo, fAr, C.one, Value.oneCell', eqFn, eqFieldsFn, eqElemsFn, partFn, and_assoc, List.zipIdx, sliceFn, boundFn, AppV, CopyV, MakeSliceV, NewsV, GrowV, TextV, bytesL, notInt, typeAt, argAt, Con.read, Con.make, Con.ext, Con.rel, den, Con.extS, Con.draw, Con.step, Draws.steps, Try.f38, l10OpenC, l5DrawC, Con.gen]
  intro b
  refine l10OpenC_at hpre ?_
  rintro cx1 c mem1 ⟨R, mem0, p, rfl, rfl, hp, hR, hty, hle1, h1, h2, h3⟩
  have hk0 := take_get h1 0 (by simp)
  simp at hk0 h2 h3
  have hj0 := (List.getElem?_eq_some_iff.1 hk0).2
  have hn0 : ¬ R.k = 0 := by omega
  have hlt := hR.lt
  have hle := Le.refl cx1
  have hw := hle1.w0
  have hg := hle1.g0
  have key : ∀ {cx' : Cx}, Le cx1 cx' → cx'.w0 = w ∧ cx'.g0 = [] := fun h => ⟨h.w0.trans hw, h.g0.trans hg⟩
  simp (maxSteps := 4000000) -dsimp [-List.all_eq_true, -Array.all_eq_true, -Bool.exists_bool, -Bool.forall_bool, vcsE1, vcsE2, vcsE3, vcsE4, vcsE5, vcsE6, vcsE7, vcsE8, vcsE9, vcsE10, vcsE11, vcsE12, vcsE13, vcsE14, vcsE15, vcsE16, vcsE17, vcsE18, vcsE19, Sx.get, Sx.look, Sx.put, pureFn, findOrd, unF, dstOk, isFloatT, endVC, resFn, packC, newFn, storeFn, buildFn, undef, known, aggT, cellsC, Value.cells, findCon, Con.pure, Con.some, allV, partsV, partsC, fillL, Sx.exitTo, fAr, C.one, Value.oneCell', eqFn, eqFieldsFn, eqElemsFn, partFn, and_assoc, List.zipIdx, sliceFn, boundFn, AppV, CopyV, MakeSliceV, NewsV, GrowV, TextV, bytesL, notInt, typeAt, argAt, Con.read, Con.make, Con.ext, Con.rel, den, Con.extS, Con.draw, Con.step, Draws.steps, Try.f38, l10OpenC, l5DrawC]
  (repeat' first
    | (with_reducible refine EndK.left ?_
       refine ⟨_, _, rfl, rfl, (by assumption), by omega, by omega, ?_⟩; skip; done)
    | (with_reducible refine EndK.all ?_
       refine ⟨_, _, rfl, rfl, (by assumption), by omega, by omega, ?_⟩; skip; done)
    | (with_reducible refine l5DrawC_at0 hR hty ?_ ?_ ?_ ?_
       · assumption
       · exact ⟨by omega, by omega⟩
       · trivial
       rintro cx' _ p' hle - hp1 hp2 ⟨dm, rfl, hdm⟩)
    | (with_reducible refine l5DrawC_at hR hty ?_ ?_ ?_ ?_
       · assumption
       · exact ⟨by omega, by omega⟩
       · trivial
       rintro cx' _ p' hle - hp1 hp2 ⟨dm, rfl, hdm⟩)
    | (with_reducible refine fun cx' q (hle' : Le _ cx') (hl : RdL _ q _) => ?_
       have hle := Le.trans (by assumption) hle'; (try simp [Sx.get, Sx.look, Sx.put, cellsC, Value.cells, den] at hl))
    | with_reducible refine And.intro ?_ ?_
    | with_reducible intro _
    | omega
    | simp (maxSteps := 4000000) -dsimp [-List.all_eq_true, -Array.all_eq_true, -Bool.exists_bool, -Bool.forall_bool, vcsE1, vcsE2, vcsE3, vcsE4, vcsE5, vcsE6, vcsE7, vcsE8, vcsE9, vcsE10, vcsE11, vcsE12, vcsE13, vcsE14, vcsE15, vcsE16, vcsE17, vcsE18, vcsE19, Sx.get, Sx.look, Sx.put, pureFn, findOrd, unF, dstOk, isFloatT, endVC, resFn, packC, newFn, storeFn, buildFn, undef, known, aggT, cellsC, Value.cells, findCon, Con.pure, Con.some, allV, partsV, partsC, fillL, Sx.exitTo, fAr, C.one, Value.oneCell', eqFn, eqFieldsFn, eqElemsFn, partFn, and_assoc, List.zipIdx, sliceFn, boundFn, AppV, CopyV, MakeSliceV, NewsV, GrowV, TextV, bytesL, notInt, typeAt, argAt, Con.read, Con.make, Con.ext, Con.rel, den, Con.extS, Con.draw, Con.step, Draws.steps, Try.f38, l10OpenC, l5DrawC, hlt, hk0, hj0, h3, hn0, List.getElem?_append, List.set_append, List.getElem?_set])
  all_goals first | exact (key (by assumption)).1 | exact (key (by assumption)).2 | exact ⟨_, rfl, by assumption⟩ | assumption
def drawActEndC_S : Rels Try.prog 38 where
  ι := ((Option Addr) × (Nat) × (List Int))
  A := fun (i : ((Option Addr) × (Nat) × (List Int))) => match i with | (o, cap, bs) => [.slice o bs.length cap]
  pre := fun (i : ((Option Addr) × (Nat) × (List Int))) (F : Facts) => match i with | (o, cap, bs) => RdB F o bs ∧ (∀ b ∈ bs, 0 ≤ b ∧ b < 256) ∧ bs.length ≤ cap ∧ cap ≤ maxLen
  post := fun (i : ((Option Addr) × (Nat) × (List Int))) => match i with | (o, cap, bs) => fun v => ∃ m, v = .agg (cells m) ∧ MOk m
  mono := by
    intro i F G hs h
    first | exact h | exact h.mono hs | exact ⟨h.1.mono hs, h.2⟩ | exact ⟨h.1.mono hs, h.2.1.mono hs, h.2.2⟩ | exact ⟨h.1.mono hs, h.2.1.mono hs⟩
  enter := Try.call38
  h := fun i w hp => drawActEndC_c i.1 i.2.1 i.2.2 w (by rw [factF_init]; exact hp)
def drawActEndC : Con Try.prog := Con.rel drawActEndC_S
end Go.Proofs.Ytmiicjgbhkjocaa
