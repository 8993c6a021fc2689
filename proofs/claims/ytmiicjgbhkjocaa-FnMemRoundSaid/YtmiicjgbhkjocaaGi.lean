/-
  Contracts: numbers that are drawn.
-/
import Derived.Test.YtmiicjgbhkjocaaGb
import Derived.Test.YtmiicjgbhkjocaaDo
import Derived.Test.YtmiicjgbhkjocaaN
import Derived.Test.YtmiicjgbhkjocaaI
set_option linter.unusedVariables false
set_option linter.unusedSimpArgs false
set_option maxRecDepth 100000
set_option maxHeartbeats 4000000
namespace Go.Proofs.Ytmiicjgbhkjocaa
open Go Go.Sx

theorem near_lt (a : Int) : FloatKind.f64.nearest a < 18446744073709551616 := by
  have h := Ieee.Format.nearest_lt dbl (decide (a < 0)) a.natAbs 0
  have e : 2 ^ dbl.width = 18446744073709551616 := by decide
  rw [e] at h
  exact h
theorem fAdd_lt {a b r : Nat} (h : fRes .f64 (FloatKind.f64.format.add a b) r) : r < 18446744073709551616 := arith_lt.1 h
theorem fMul_lt {a b r : Nat} (h : fRes .f64 (FloatKind.f64.format.mul a b) r) : r < 18446744073709551616 := arith_lt.2.2.1 h
theorem fDiv_lt {a b r : Nat} (h : fRes .f64 (FloatKind.f64.format.div a b) r) : r < 18446744073709551616 := arith_lt.2.2.2 h
theorem wrap_u64_bd (x : Int) : 0 ≤ IntKind.u64.wrap x ∧ IntKind.u64.wrap x < 18446744073709551616 := by
  have h1 := Int.emod_nonneg x (b := 18446744073709551616) (by omega)
  have h2 := Int.emod_lt_of_pos x (b := 18446744073709551616) (by omega)
  simp only [IntKind.wrap, IntKind.signed, IntKind.bits]
  simp
  omega
theorem wrap_u16_bd (x : Int) : 0 ≤ IntKind.u16.wrap x ∧ IntKind.u16.wrap x < 65536 := by
  have h1 := Int.emod_nonneg x (b := 65536) (by omega)
  have h2 := Int.emod_lt_of_pos x (b := 65536) (by omega)
  simp only [IntKind.wrap, IntKind.signed, IntKind.bits]
  simp
  omega
theorem wordC_c  (R : Rdr) (p : Int) (cx : Cx) (mem : List Blk) (w : World) (hty : R.ty = 172) (hR : R.Is (factF cx) mem) (hp : 0 ≤ p) (hpc : p + 8 ≤ 1125899906842624) (hpre : True) (hm : MemRel cx (mem.set R.k (R.blk p)) w) :
    Calls Try.prog 146 ((.p R.k R.b 0 :: [] : List C).map den).toArray w fun e w' => ∃ cx' x mem', e = .returned (den x) ∧ MemRel cx' mem' w' ∧ (fun cx' x mem' => ∃ v p', x = .v v ∧ mem' = mem.set R.k (R.blk p') ∧ Le cx cx' ∧ p ≤ p' ∧ p' ≤ p + 8 ∧ (∃ x, v = .int .u64 x ∧ 0 ≤ x ∧ x < 18446744073709551616)) cx' x mem' := by
  refine step_of_vcs ⟨[pickC], []⟩ hmx Try.func146 rfl (by kernel_rfl) (args := .p R.k R.b 0 :: []) (by simp [Try.ntmps146]) hm (fun cx' x mem' => ∃ v p', x = .v v ∧ mem' = mem.set R.k (R.blk p') ∧ Le cx cx' ∧ p ≤ p' ∧ p' ≤ p + 8 ∧ (∃ x, v = .int .u64 x ∧ 0 ≤ x ∧ x < 18446744073709551616)) 400 ?_
  have hlt := hR.lt
  simp (maxSteps := 4000000) -dsimp [-List.all_eq_true, -Array.all_eq_true, -Bool.exists_bool, -Bool.forall_bool, vcsE1, vcsE2, vcsE3, vcsE4, vcsE5, vcsE6, vcsE7, vcsE8, vcsE9, vcsE10, vcsE11, vcsE12, vcsE13, vcsE14, vcsE15, vcsE16, vcsE17, vcsE18, vcsE19, Sx.get, Sx.look, Sx.put, pureFn, findOrd, unF, dstOk, isFloatT, endVC, resFn, packC, newFn, storeFn, buildFn, undef, known, aggT, cellsC, Value.cells, findCon, Con.pure, Con.some, allV, partsV, partsC, fillL, Sx.exitTo, fAr, C.one, Value.oneCell', eqFn, eqFieldsFn, eqElemsFn, partFn, and_assoc, List.zipIdx, sliceFn, boundFn, AppV, CopyV, MakeSliceV, NewsV, GrowV, TextV, bytesL, notInt, typeAt, argAt, Con.read, Con.make, Con.ext, Con.rel, den, Con.extS, Con.draw, Con.step, Draws.steps, Try.f146, pickC]
  refine loop_inv (σ := ⟨[pickC], []⟩) hmx (by kernel_rfl) (fun q cx' tm mem' => Le cx cx' ∧ ∃ (i : Nat) (x p' : Int), i ≤ 8 ∧ q = 8 - i ∧ mem' = mem.set R.k (R.blk p') ∧ p ≤ p' ∧ p' ≤ p + i ∧ 0 ≤ x ∧ x < 18446744073709551616 ∧ Sx.look tm 4 = .v (.int .i64 i) ∧ Sx.look tm 3 = .v (.int .u64 x) ∧ Sx.look tm 0 = .p R.k R.b 0)
    8 ⟨Le.refl _, 0, 0, p, by omega, rfl, rfl, by omega, by omega, by omega, by omega, by simp [Sx.look], by simp [Sx.look], by simp [Sx.look]⟩ ?_
  rintro q cx1 tm mem1 ⟨hle, i, x, p1, hi, rfl, rfl, a1, a2, a3, a4, h4, h3, h0⟩
  refine ⟨400, ?_⟩
  by_cases h8 : i < 8
  · have h8' : (i : Int) < 8 := by omega
    simp (maxSteps := 4000000) -dsimp [-List.all_eq_true, -Array.all_eq_true, -Bool.exists_bool, -Bool.forall_bool, vcsE1, vcsE2, vcsE3, vcsE4, vcsE5, vcsE6, vcsE7, vcsE8, vcsE9, vcsE10, vcsE11, vcsE12, vcsE13, vcsE14, vcsE15, vcsE16, vcsE17, vcsE18, vcsE19, Sx.get, Sx.look, Sx.put, pureFn, findOrd, unF, dstOk, isFloatT, endVC, resFn, packC, newFn, storeFn, buildFn, undef, known, aggT, cellsC, Value.cells, findCon, Con.pure, Con.some, allV, partsV, partsC, fillL, Sx.exitTo, fAr, C.one, Value.oneCell', eqFn, eqFieldsFn, eqElemsFn, partFn, and_assoc, List.zipIdx, sliceFn, boundFn, AppV, CopyV, MakeSliceV, NewsV, GrowV, TextV, bytesL, notInt, typeAt, argAt, Con.read, Con.make, Con.ext, Con.rel, den, Con.extS, Con.draw, Con.step, Draws.steps, Try.f146, pickC, h4, h3, h0, h8']
    refine pickC_at0 hR hty hle ⟨by omega, by omega⟩ (by omega) ?_
    rintro cx2 _ p2 hle2 - c1 c2 ⟨y, rfl, y0, y1⟩
    simp (maxSteps := 4000000) -dsimp [-List.all_eq_true, -Array.all_eq_true, -Bool.exists_bool, -Bool.forall_bool, vcsE1, vcsE2, vcsE3, vcsE4, vcsE5, vcsE6, vcsE7, vcsE8, vcsE9, vcsE10, vcsE11, vcsE12, vcsE13, vcsE14, vcsE15, vcsE16, vcsE17, vcsE18, vcsE19, Sx.get, Sx.look, Sx.put, pureFn, findOrd, unF, dstOk, isFloatT, endVC, resFn, packC, newFn, storeFn, buildFn, undef, known, aggT, cellsC, Value.cells, findCon, Con.pure, Con.some, allV, partsV, partsC, fillL, Sx.exitTo, fAr, C.one, Value.oneCell', eqFn, eqFieldsFn, eqElemsFn, partFn, and_assoc, List.zipIdx, sliceFn, boundFn, AppV, CopyV, MakeSliceV, NewsV, GrowV, TextV, bytesL, notInt, typeAt, argAt, Con.read, Con.make, Con.ext, Con.rel, den, Con.extS, Con.draw, Con.step, Draws.steps, Try.f146, pickC, h4, h3, h0, i_succ (i := i) (by omega)]
    have hb := wrap_u64_bd (IntKind.u64.wrap (x * 256) + IntKind.u64.wrap y)
    exact ⟨mem.length, 8 - (i + 1), by omega, hle2, i + 1, by omega, rfl, _, p2, by rw [List.take_of_length_le (by simp)], by omega, by omega, hb.1, hb.2, by omega, rfl⟩
  · have h8' : ¬ (i : Int) < 8 := by omega
    simp (maxSteps := 4000000) -dsimp [-List.all_eq_true, -Array.all_eq_true, -Bool.exists_bool, -Bool.forall_bool, vcsE1, vcsE2, vcsE3, vcsE4, vcsE5, vcsE6, vcsE7, vcsE8, vcsE9, vcsE10, vcsE11, vcsE12, vcsE13, vcsE14, vcsE15, vcsE16, vcsE17, vcsE18, vcsE19, Sx.get, Sx.look, Sx.put, pureFn, findOrd, unF, dstOk, isFloatT, endVC, resFn, packC, newFn, storeFn, buildFn, undef, known, aggT, cellsC, Value.cells, findCon, Con.pure, Con.some, allV, partsV, partsC, fillL, Sx.exitTo, fAr, C.one, Value.oneCell', eqFn, eqFieldsFn, eqElemsFn, partFn, and_assoc, List.zipIdx, sliceFn, boundFn, AppV, CopyV, MakeSliceV, NewsV, GrowV, TextV, bytesL, notInt, typeAt, argAt, Con.read, Con.make, Con.ext, Con.rel, den, Con.extS, Con.draw, Con.step, Draws.steps, Try.f146, pickC, h4, h3, h0, h8']
    exact EndK.all ⟨_, p1, rfl, rfl, hle, by omega, by omega, x, rfl, a3, a4⟩
def wordC_S : Draws Try.prog 172 8 146 where
  ι := Unit
  A := fun (_u : Unit) => []
  pre := fun (_u : Unit) (F : Facts) => True
  post := fun (_u : Unit) (v : Value) (F : Facts) => ∃ x, v = .int .u64 x ∧ 0 ≤ x ∧ x < 18446744073709551616
  mono := fun _ _ _ _ _ => trivial
  enter := Try.call146
  h := fun _u R p cx mem w h1 h2 h3 h4 h5 h6 => wordC_c  R p cx mem w h1 h2 h3 h4 h5 h6
def wordC : Con Try.prog := Con.draw wordC_S
theorem wordC_at  {d : Nat} {R : Rdr} {cx0 cx : Cx} {mem0 : List Blk} {ex : List Blk} {K : Cx → C → List Blk → Prop} {p : Int} (hR : R.Is (factF cx0) mem0) (hty : R.ty = 172) (hle : Le cx0 cx) (hp : 0 ≤ p ∧ p + 8 ≤ 1125899906842624) (hpre : True)
    (h : ∀ cx' v p', Le cx0 cx' → Le cx cx' → p ≤ p' → p' ≤ p + 8 → (∃ x, v = .int .u64 x ∧ 0 ≤ x ∧ x < 18446744073709551616) → K cx' (.v v) (mem0.set R.k (R.blk p') ++ ex)) :
    DrawV d wordC_S cx [.p R.k R.b 0] (mem0.set R.k (R.blk p) ++ ex) K := DrawV.at (S := wordC_S) hR hty hle () hp hpre h
theorem wordC_at0  {d : Nat} {R : Rdr} {cx0 cx : Cx} {mem0 : List Blk} {K : Cx → C → List Blk → Prop} {p : Int} (hR : R.Is (factF cx0) mem0) (hty : R.ty = 172) (hle : Le cx0 cx) (hp : 0 ≤ p ∧ p + 8 ≤ 1125899906842624) (hpre : True)
    (h : ∀ cx' v p', Le cx0 cx' → Le cx cx' → p ≤ p' → p' ≤ p + 8 → (∃ x, v = .int .u64 x ∧ 0 ≤ x ∧ x < 18446744073709551616) → K cx' (.v v) (mem0.set R.k (R.blk p'))) :
    DrawV d wordC_S cx [.p R.k R.b 0] (mem0.set R.k (R.blk p)) K := DrawV.at0 (S := wordC_S) hR hty hle () hp hpre h
theorem l3WholeC_c  (R : Rdr) (p : Int) (cx : Cx) (mem : List Blk) (w : World) (hty : R.ty = 172) (hR : R.Is (factF cx) mem) (hp : 0 ≤ p) (hpc : p + 3 ≤ 1125899906842624) (hpre : True) (hm : MemRel cx (mem.set R.k (R.blk p)) w) :
    Calls Try.prog 76 ((.p R.k R.b 0 :: [] : List C).map den).toArray w fun e w' => ∃ cx' x mem', e = .returned (den x) ∧ MemRel cx' mem' w' ∧ (fun cx' x mem' => ∃ v p', x = .v v ∧ mem' = mem.set R.k (R.blk p') ∧ Le cx cx' ∧ p ≤ p' ∧ p' ≤ p + 3 ∧ (∃ x, v = .int .i16 x ∧ -32768 ≤ x ∧ x ≤ 32767)) cx' x mem' := by
  refine step_of_vcs ⟨[pickC, numC], []⟩ hmx Try.func76 rfl (by kernel_rfl) (args := .p R.k R.b 0 :: []) (by simp [Try.ntmps76]) hm (fun cx' x mem' => ∃ v p', x = .v v ∧ mem' = mem.set R.k (R.blk p') ∧ Le cx cx' ∧ p ≤ p' ∧ p' ≤ p + 3 ∧ (∃ x, v = .int .i16 x ∧ -32768 ≤ x ∧ x ≤ 32767)) 400 ?_
  have hlt := hR.lt
  have hle := Le.refl cx
  (repeat' first
    | (with_reducible refine EndK.left ?_
       refine ⟨_, _, rfl, rfl, (by assumption), by omega, by omega, ?_⟩; exact ⟨_, rfl, wrap16_bd _⟩; done)
    | (with_reducible refine EndK.all ?_
       refine ⟨_, _, rfl, rfl, (by assumption), by omega, by omega, ?_⟩; exact ⟨_, rfl, wrap16_bd _⟩; done)
    | (with_reducible refine pickC_at0 hR hty ?_ ?_ ?_ ?_
       · assumption
       · exact ⟨by omega, by omega⟩
       · omega
       rintro cx' _ p' hle - hp1 hp2 ⟨x, rfl, hx1, hx2⟩)
    | (with_reducible refine pickC_at hR hty ?_ ?_ ?_ ?_
       · assumption
       · exact ⟨by omega, by omega⟩
       · omega
       rintro cx' _ p' hle - hp1 hp2 ⟨x, rfl, hx1, hx2⟩)
    | (with_reducible refine numC_lit0 hR hty ?_ hl ?_ ?_ ?_ ?_ ?_ ?_
       · assumption
       · rfl
       · rfl
       · exact ⟨by omega, by omega⟩
       · decide
       · decide
       rintro cx' _ p' hle - hp1 hp2 ⟨x, rfl, hx⟩)
    | (with_reducible refine numC_lit hR hty ?_ hl ?_ ?_ ?_ ?_ ?_ ?_
       · assumption
       · rfl
       · rfl
       · exact ⟨by omega, by omega⟩
       · decide
       · decide
       rintro cx' _ p' hle - hp1 hp2 ⟨x, rfl, hx⟩)
    | (with_reducible refine fun cx' q (hle' : Le _ cx') (hl : RdL _ q _) => ?_
       have hle := Le.trans (by assumption) hle'; (try simp [Sx.get, Sx.look, Sx.put, cellsC, Value.cells, den] at hl))
    | with_reducible refine And.intro ?_ ?_
    | with_reducible intro _
    | omega
    | simp (maxSteps := 4000000) -dsimp [-List.all_eq_true, -Array.all_eq_true, -Bool.exists_bool, -Bool.forall_bool, vcsE1, vcsE2, vcsE3, vcsE4, vcsE5, vcsE6, vcsE7, vcsE8, vcsE9, vcsE10, vcsE11, vcsE12, vcsE13, vcsE14, vcsE15, vcsE16, vcsE17, vcsE18, vcsE19, Sx.get, Sx.look, Sx.put, pureFn, findOrd, unF, dstOk, isFloatT, endVC, resFn, packC, newFn, storeFn, buildFn, undef, known, aggT, cellsC, Value.cells, findCon, Con.pure, Con.some, allV, partsV, partsC, fillL, Sx.exitTo, fAr, C.one, Value.oneCell', eqFn, eqFieldsFn, eqElemsFn, partFn, and_assoc, List.zipIdx, sliceFn, boundFn, AppV, CopyV, MakeSliceV, NewsV, GrowV, TextV, bytesL, notInt, typeAt, argAt, Con.read, Con.make, Con.ext, Con.rel, den, Con.extS, Con.draw, Con.step, Draws.steps, Try.f76, pickC, numC, hlt])
def l3WholeC_S : Draws Try.prog 172 3 76 where
  ι := Unit
  A := fun (_u : Unit) => []
  pre := fun (_u : Unit) (F : Facts) => True
  post := fun (_u : Unit) (v : Value) (F : Facts) => ∃ x, v = .int .i16 x ∧ -32768 ≤ x ∧ x ≤ 32767
  mono := fun _ _ _ _ _ => trivial
  enter := Try.call76
  h := fun _u R p cx mem w h1 h2 h3 h4 h5 h6 => l3WholeC_c  R p cx mem w h1 h2 h3 h4 h5 h6
def l3WholeC : Con Try.prog := Con.draw l3WholeC_S
theorem l3WholeC_at  {d : Nat} {R : Rdr} {cx0 cx : Cx} {mem0 : List Blk} {ex : List Blk} {K : Cx → C → List Blk → Prop} {p : Int} (hR : R.Is (factF cx0) mem0) (hty : R.ty = 172) (hle : Le cx0 cx) (hp : 0 ≤ p ∧ p + 3 ≤ 1125899906842624) (hpre : True)
    (h : ∀ cx' v p', Le cx0 cx' → Le cx cx' → p ≤ p' → p' ≤ p + 3 → (∃ x, v = .int .i16 x ∧ -32768 ≤ x ∧ x ≤ 32767) → K cx' (.v v) (mem0.set R.k (R.blk p') ++ ex)) :
    DrawV d l3WholeC_S cx [.p R.k R.b 0] (mem0.set R.k (R.blk p) ++ ex) K := DrawV.at (S := l3WholeC_S) hR hty hle () hp hpre h
theorem l3WholeC_at0  {d : Nat} {R : Rdr} {cx0 cx : Cx} {mem0 : List Blk} {K : Cx → C → List Blk → Prop} {p : Int} (hR : R.Is (factF cx0) mem0) (hty : R.ty = 172) (hle : Le cx0 cx) (hp : 0 ≤ p ∧ p + 3 ≤ 1125899906842624) (hpre : True)
    (h : ∀ cx' v p', Le cx0 cx' → Le cx cx' → p ≤ p' → p' ≤ p + 3 → (∃ x, v = .int .i16 x ∧ -32768 ≤ x ∧ x ≤ 32767) → K cx' (.v v) (mem0.set R.k (R.blk p'))) :
    DrawV d l3WholeC_S cx [.p R.k R.b 0] (mem0.set R.k (R.blk p)) K := DrawV.at0 (S := l3WholeC_S) hR hty hle () hp hpre h
theorem l3RealC_c  (R : Rdr) (p : Int) (cx : Cx) (mem : List Blk) (w : World) (hty : R.ty = 172) (hR : R.Is (factF cx) mem) (hp : 0 ≤ p) (hpc : p + 20 ≤ 1125899906842624) (hpre : True) (hm : MemRel cx (mem.set R.k (R.blk p)) w) :
    Calls Try.prog 81 ((.p R.k R.b 0 :: [] : List C).map den).toArray w fun e w' => ∃ cx' x mem', e = .returned (den x) ∧ MemRel cx' mem' w' ∧ (fun cx' x mem' => ∃ v p', x = .v v ∧ mem' = mem.set R.k (R.blk p') ∧ Le cx cx' ∧ p ≤ p' ∧ p' ≤ p + 20 ∧ (∃ x, v = .float .f64 x ∧ x < 18446744073709551616)) cx' x mem' := by
  refine step_of_vcs ⟨[pickC, numC, wordC, l3NanC, l3InfC], []⟩ hmx Try.func81 rfl (by kernel_rfl) (args := .p R.k R.b 0 :: []) (by simp [Try.ntmps81]) hm (fun cx' x mem' => ∃ v p', x = .v v ∧ mem' = mem.set R.k (R.blk p') ∧ Le cx cx' ∧ p ≤ p' ∧ p' ≤ p + 20 ∧ (∃ x, v = .float .f64 x ∧ x < 18446744073709551616)) 400 ?_
  have hlt := hR.lt
  have hle := Le.refl cx
  (repeat' first
    | (with_reducible refine EndK.left ?_
       refine ⟨_, _, rfl, rfl, (by assumption), by omega, by omega, ?_⟩; first | exact ⟨_, rfl, by decide⟩ | exact ⟨_, rfl, near_lt _⟩ | exact ⟨_, rfl, by first | assumption | exact fMul_lt (by assumption) | exact fAdd_lt (by assumption)⟩ | (subst_vars; exact ⟨_, rfl, by assumption⟩); done)
    | (with_reducible refine EndK.all ?_
       refine ⟨_, _, rfl, rfl, (by assumption), by omega, by omega, ?_⟩; first | exact ⟨_, rfl, by decide⟩ | exact ⟨_, rfl, near_lt _⟩ | exact ⟨_, rfl, by first | assumption | exact fMul_lt (by assumption) | exact fAdd_lt (by assumption)⟩ | (subst_vars; exact ⟨_, rfl, by assumption⟩); done)
    | (with_reducible refine pickC_at0 hR hty ?_ ?_ ?_ ?_
       · assumption
       · exact ⟨by omega, by omega⟩
       · omega
       rintro cx' _ p' hle - hp1 hp2 ⟨x, rfl, hx1, hx2⟩)
    | (with_reducible refine pickC_at hR hty ?_ ?_ ?_ ?_
       · assumption
       · exact ⟨by omega, by omega⟩
       · omega
       rintro cx' _ p' hle - hp1 hp2 ⟨x, rfl, hx1, hx2⟩)
    | (with_reducible refine numC_lit0 hR hty ?_ hl ?_ ?_ ?_ ?_ ?_ ?_
       · assumption
       · rfl
       · rfl
       · exact ⟨by omega, by omega⟩
       · decide
       · decide
       rintro cx' _ p' hle - hp1 hp2 ⟨x, rfl, hx⟩)
    | (with_reducible refine numC_lit hR hty ?_ hl ?_ ?_ ?_ ?_ ?_ ?_
       · assumption
       · rfl
       · rfl
       · exact ⟨by omega, by omega⟩
       · decide
       · decide
       rintro cx' _ p' hle - hp1 hp2 ⟨x, rfl, hx⟩)
    | (with_reducible refine wordC_at0 hR hty ?_ ?_ ?_ ?_
       · assumption
       · exact ⟨by omega, by omega⟩
       · trivial
       rintro cx' _ p' hle - hp1 hp2 ⟨wx, rfl, hw1, hw2⟩)
    | (with_reducible refine wordC_at hR hty ?_ ?_ ?_ ?_
       · assumption
       · exact ⟨by omega, by omega⟩
       · trivial
       rintro cx' _ p' hle - hp1 hp2 ⟨wx, rfl, hw1, hw2⟩)
    | (with_reducible refine fun cx' q (hle' : Le _ cx') (hl : RdL _ q _) => ?_
       have hle := Le.trans (by assumption) hle'; (try simp [Sx.get, Sx.look, Sx.put, cellsC, Value.cells, den] at hl))
    | with_reducible refine And.intro ?_ ?_
    | with_reducible intro _
    | omega
    | simp (maxSteps := 4000000) -dsimp [-List.all_eq_true, -Array.all_eq_true, -Bool.exists_bool, -Bool.forall_bool, vcsE1, vcsE2, vcsE3, vcsE4, vcsE5, vcsE6, vcsE7, vcsE8, vcsE9, vcsE10, vcsE11, vcsE12, vcsE13, vcsE14, vcsE15, vcsE16, vcsE17, vcsE18, vcsE19, Sx.get, Sx.look, Sx.put, pureFn, findOrd, unF, dstOk, isFloatT, endVC, resFn, packC, newFn, storeFn, buildFn, undef, known, aggT, cellsC, Value.cells, findCon, Con.pure, Con.some, allV, partsV, partsC, fillL, Sx.exitTo, fAr, C.one, Value.oneCell', eqFn, eqFieldsFn, eqElemsFn, partFn, and_assoc, List.zipIdx, sliceFn, boundFn, AppV, CopyV, MakeSliceV, NewsV, GrowV, TextV, bytesL, notInt, typeAt, argAt, Con.read, Con.make, Con.ext, Con.rel, den, Con.extS, Con.draw, Con.step, Draws.steps, Try.f81, pickC, numC, wordC, l3NanC, l3InfC, hlt])
  refine loop_inv (σ := ⟨[pickC, numC, wordC, l3NanC, l3InfC], []⟩) hmx (by kernel_rfl) (fun q cx' tm mem' => Le cx cx' ∧ ∃ (x : Nat) (i p' : Int), mem' = mem.set R.k (R.blk p') ∧ p ≤ p' ∧ p' ≤ p + 20 ∧ x < 18446744073709551616 ∧ 0 ≤ i ∧ i ≤ 100 ∧ q = i.toNat ∧ Sx.look tm 4 = .v (.float .f64 x) ∧ Sx.look tm 5 = .v (.int .i64 i))
    _ ⟨by assumption, _, _, _, rfl, by omega, by omega, fDiv_lt (by assumption), by omega, by omega, rfl, by simp [Sx.look], by simp [Sx.look]⟩ ?_
  rintro q cx1 tm mem1 ⟨hle, x, i, p1, rfl, a1, a2, a3, a4, a5, rfl, h4, h5⟩
  refine ⟨400, ?_⟩
  by_cases h0 : 0 < i
  · have hw : IntKind.i64.wrap (i - 1) = i - 1 := wrap_i64 (by omega) (by omega)
    simp (maxSteps := 4000000) -dsimp [-List.all_eq_true, -Array.all_eq_true, -Bool.exists_bool, -Bool.forall_bool, vcsE1, vcsE2, vcsE3, vcsE4, vcsE5, vcsE6, vcsE7, vcsE8, vcsE9, vcsE10, vcsE11, vcsE12, vcsE13, vcsE14, vcsE15, vcsE16, vcsE17, vcsE18, vcsE19, Sx.get, Sx.look, Sx.put, pureFn, findOrd, unF, dstOk, isFloatT, endVC, resFn, packC, newFn, storeFn, buildFn, undef, known, aggT, cellsC, Value.cells, findCon, Con.pure, Con.some, allV, partsV, partsC, fillL, Sx.exitTo, fAr, C.one, Value.oneCell', eqFn, eqFieldsFn, eqElemsFn, partFn, and_assoc, List.zipIdx, sliceFn, boundFn, AppV, CopyV, MakeSliceV, NewsV, GrowV, TextV, bytesL, notInt, typeAt, argAt, Con.read, Con.make, Con.ext, Con.rel, den, Con.extS, Con.draw, Con.step, Draws.steps, Try.f81, pickC, numC, wordC, l3NanC, l3InfC, h4, h5, h0, hw]
    intro r hr
    exact ⟨mem.length, (i - 1).toNat, by omega, hle, r, i - 1, p1, by rw [List.take_of_length_le (by simp)], a1, a2, fMul_lt hr, by omega, by omega, rfl, rfl, rfl⟩
  · simp (maxSteps := 4000000) -dsimp [-List.all_eq_true, -Array.all_eq_true, -Bool.exists_bool, -Bool.forall_bool, vcsE1, vcsE2, vcsE3, vcsE4, vcsE5, vcsE6, vcsE7, vcsE8, vcsE9, vcsE10, vcsE11, vcsE12, vcsE13, vcsE14, vcsE15, vcsE16, vcsE17, vcsE18, vcsE19, Sx.get, Sx.look, Sx.put, pureFn, findOrd, unF, dstOk, isFloatT, endVC, resFn, packC, newFn, storeFn, buildFn, undef, known, aggT, cellsC, Value.cells, findCon, Con.pure, Con.some, allV, partsV, partsC, fillL, Sx.exitTo, fAr, C.one, Value.oneCell', eqFn, eqFieldsFn, eqElemsFn, partFn, and_assoc, List.zipIdx, sliceFn, boundFn, AppV, CopyV, MakeSliceV, NewsV, GrowV, TextV, bytesL, notInt, typeAt, argAt, Con.read, Con.make, Con.ext, Con.rel, den, Con.extS, Con.draw, Con.step, Draws.steps, Try.f81, pickC, numC, wordC, l3NanC, l3InfC, h4, h5, h0]
    exact EndK.all ⟨_, p1, rfl, rfl, hle, a1, a2, x, rfl, a3⟩
def l3RealC_S : Draws Try.prog 172 20 81 where
  ι := Unit
  A := fun (_u : Unit) => []
  pre := fun (_u : Unit) (F : Facts) => True
  post := fun (_u : Unit) (v : Value) (F : Facts) => ∃ x, v = .float .f64 x ∧ x < 18446744073709551616
  mono := fun _ _ _ _ _ => trivial
  enter := Try.call81
  h := fun _u R p cx mem w h1 h2 h3 h4 h5 h6 => l3RealC_c  R p cx mem w h1 h2 h3 h4 h5 h6
def l3RealC : Con Try.prog := Con.draw l3RealC_S
theorem l3RealC_at  {d : Nat} {R : Rdr} {cx0 cx : Cx} {mem0 : List Blk} {ex : List Blk} {K : Cx → C → List Blk → Prop} {p : Int} (hR : R.Is (factF cx0) mem0) (hty : R.ty = 172) (hle : Le cx0 cx) (hp : 0 ≤ p ∧ p + 20 ≤ 1125899906842624) (hpre : True)
    (h : ∀ cx' v p', Le cx0 cx' → Le cx cx' → p ≤ p' → p' ≤ p + 20 → (∃ x, v = .float .f64 x ∧ x < 18446744073709551616) → K cx' (.v v) (mem0.set R.k (R.blk p') ++ ex)) :
    DrawV d l3RealC_S cx [.p R.k R.b 0] (mem0.set R.k (R.blk p) ++ ex) K := DrawV.at (S := l3RealC_S) hR hty hle () hp hpre h
theorem l3RealC_at0  {d : Nat} {R : Rdr} {cx0 cx : Cx} {mem0 : List Blk} {K : Cx → C → List Blk → Prop} {p : Int} (hR : R.Is (factF cx0) mem0) (hty : R.ty = 172) (hle : Le cx0 cx) (hp : 0 ≤ p ∧ p + 20 ≤ 1125899906842624) (hpre : True)
    (h : ∀ cx' v p', Le cx0 cx' → Le cx cx' → p ≤ p' → p' ≤ p + 20 → (∃ x, v = .float .f64 x ∧ x < 18446744073709551616) → K cx' (.v v) (mem0.set R.k (R.blk p'))) :
    DrawV d l3RealC_S cx [.p R.k R.b 0] (mem0.set R.k (R.blk p)) K := DrawV.at0 (S := l3RealC_S) hR hty hle () hp hpre h
end Go.Proofs.Ytmiicjgbhkjocaa
